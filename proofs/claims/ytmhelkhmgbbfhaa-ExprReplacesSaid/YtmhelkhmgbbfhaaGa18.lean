/- Closed facts of the program: types, fields, functions. -/
import Derived.Test.YtmhelkhmgbbfhaaProg
import Derived.KernelRfl
import Derived.Test.YtmhelkhmgbbfhaaGa17
set_option linter.unusedSimpArgs false
set_option linter.unusedVariables false
namespace Go.Proofs.Ytmhelkhmgbbfhaa
open Go.RowKit Go.Lib

@[simp] theorem tab_t2 : tinfo Try.prog 2 = some (false, 1) := by kernel_rfl
@[simp] theorem tab_i2 : intk Try.prog 2 = some .i64 := by kernel_rfl
@[simp] theorem tab_x2 : zel Try.prog 2 = some (.v (.int .i64 0)) := by kernel_rfl
@[simp] theorem tab_t3 : tinfo Try.prog 3 = some (false, 1) := by kernel_rfl
@[simp] theorem tab_i3 : intk Try.prog 3 = some .i64 := by kernel_rfl
@[simp] theorem tab_x3 : zel Try.prog 3 = some (.v (.int .i64 0)) := by kernel_rfl
@[simp] theorem tab_z3 : zl Try.prog 3 = some [.v (.int .i64 0)] := by kernel_rfl
@[simp] theorem tab_t4 : tinfo Try.prog 4 = some (false, 1) := by kernel_rfl
@[simp] theorem tab_k4 : fkind Try.prog 4 = some 1 := by kernel_rfl
@[simp] theorem tab_x4 : zel Try.prog 4 = some (.v (.bool false)) := by kernel_rfl
@[simp] theorem tab_z4 : zl Try.prog 4 = some [.v (.bool false)] := by kernel_rfl
@[simp] theorem tab_t5 : tinfo Try.prog 5 = some (false, 1) := by kernel_rfl
@[simp] theorem tab_i5 : intk Try.prog 5 = some .u8 := by kernel_rfl
@[simp] theorem tab_x5 : zel Try.prog 5 = some (.v (.int .u8 0)) := by kernel_rfl
@[simp] theorem tab_z5 : zl Try.prog 5 = some [.v (.int .u8 0)] := by kernel_rfl
@[simp] theorem tab_t6 : tinfo Try.prog 6 = some (false, 1) := by kernel_rfl
@[simp] theorem tab_i6 : intk Try.prog 6 = some .u8 := by kernel_rfl
@[simp] theorem tab_x6 : zel Try.prog 6 = some (.v (.int .u8 0)) := by kernel_rfl
@[simp] theorem tab_z6 : zl Try.prog 6 = some [.v (.int .u8 0)] := by kernel_rfl
@[simp] theorem tab_t7 : tinfo Try.prog 7 = some (true, 4) := by kernel_rfl
@[simp] theorem tab_x7 : zel Try.prog 7 = some (.agg [.v (.int .i64 0), .v (.int .i64 0), .v (.bool false), .v (.int .u8 0)]) := by kernel_rfl
@[simp] theorem tab_z7 : zl Try.prog 7 = some [.v (.int .i64 0), .v (.int .i64 0), .v (.bool false), .v (.int .u8 0)] := by kernel_rfl
@[simp] theorem tab_t8 : tinfo Try.prog 8 = some (true, 4) := by kernel_rfl
@[simp] theorem tab_x8 : zel Try.prog 8 = some (.agg [.v (.int .i64 0), .v (.int .i64 0), .v (.bool false), .v (.int .u8 0)]) := by kernel_rfl
@[simp] theorem tab_z8 : zl Try.prog 8 = some [.v (.int .i64 0), .v (.int .i64 0), .v (.bool false), .v (.int .u8 0)] := by kernel_rfl
@[simp] theorem tab_t9 : tinfo Try.prog 9 = some (false, 1) := by kernel_rfl
@[simp] theorem tab_j9 : intk Try.prog 9 = none := by kernel_rfl
@[simp] theorem tab_x9 : zel Try.prog 9 = some (.v (.string ByteArray.empty)) := by kernel_rfl
@[simp] theorem tab_s9 : Try.prog.underlying 9 = some .string := by kernel_rfl
@[simp] theorem tab_z9 : zl Try.prog 9 = some [.v (.string ByteArray.empty)] := by kernel_rfl
@[simp] theorem tab_t10 : tinfo Try.prog 10 = some (false, 1) := by kernel_rfl
@[simp] theorem tab_j10 : intk Try.prog 10 = none := by kernel_rfl
@[simp] theorem tab_x10 : zel Try.prog 10 = some (.v (.string ByteArray.empty)) := by kernel_rfl
@[simp] theorem tab_s10 : Try.prog.underlying 10 = some .string := by kernel_rfl
@[simp] theorem tab_z10 : zl Try.prog 10 = some [.v (.string ByteArray.empty)] := by kernel_rfl
@[simp] theorem tab_t11 : tinfo Try.prog 11 = some (false, 1) := by kernel_rfl
@[simp] theorem tab_j11 : intk Try.prog 11 = none := by kernel_rfl
@[simp] theorem tab_x11 : zel Try.prog 11 = some (.v (.string ByteArray.empty)) := by kernel_rfl
@[simp] theorem tab_s11 : Try.prog.underlying 11 = some .string := by kernel_rfl
@[simp] theorem tab_z11 : zl Try.prog 11 = some [.v (.string ByteArray.empty)] := by kernel_rfl
@[simp] theorem tab_t12 : tinfo Try.prog 12 = some (false, 1) := by kernel_rfl
@[simp] theorem tab_i12 : intk Try.prog 12 = some .u64 := by kernel_rfl
@[simp] theorem tab_x12 : zel Try.prog 12 = some (.v (.int .u64 0)) := by kernel_rfl
@[simp] theorem tab_z12 : zl Try.prog 12 = some [.v (.int .u64 0)] := by kernel_rfl
@[simp] theorem tab_t13 : tinfo Try.prog 13 = some (true, 2) := by kernel_rfl
@[simp] theorem tab_x13 : zel Try.prog 13 = some (.agg [.v (.string ByteArray.empty), .v (.int .u64 0)]) := by kernel_rfl
@[simp] theorem tab_z13 : zl Try.prog 13 = some [.v (.string ByteArray.empty), .v (.int .u64 0)] := by kernel_rfl
@[simp] theorem tab_t14 : tinfo Try.prog 14 = some (true, 2) := by kernel_rfl
@[simp] theorem tab_x14 : zel Try.prog 14 = some (.agg [.v (.string ByteArray.empty), .v (.int .u64 0)]) := by kernel_rfl
@[simp] theorem tab_z14 : zl Try.prog 14 = some [.v (.string ByteArray.empty), .v (.int .u64 0)] := by kernel_rfl
@[simp] theorem tab_t15 : tinfo Try.prog 15 = some (false, 1) := by kernel_rfl
@[simp] theorem tab_x15 : zel Try.prog 15 = some (.v (.pointer none)) := by kernel_rfl
@[simp] theorem tab_z15 : zl Try.prog 15 = some [.v (.pointer none)] := by kernel_rfl
@[simp] theorem tab_t16 : tinfo Try.prog 16 = some (false, 1) := by kernel_rfl
@[simp] theorem tab_x16 : zel Try.prog 16 = some (.v (.pointer none)) := by kernel_rfl
@[simp] theorem tab_z16 : zl Try.prog 16 = some [.v (.pointer none)] := by kernel_rfl
@[simp] theorem tab_t17 : tinfo Try.prog 17 = some (false, 1) := by kernel_rfl
@[simp] theorem tab_x17 : zel Try.prog 17 = some (.v (.pointer none)) := by kernel_rfl
@[simp] theorem tab_z17 : zl Try.prog 17 = some [.v (.pointer none)] := by kernel_rfl
@[simp] theorem tab_t18 : tinfo Try.prog 18 = some (true, 1) := by kernel_rfl
@[simp] theorem tab_x18 : zel Try.prog 18 = some (.agg [.v (.pointer none)]) := by kernel_rfl
@[simp] theorem tab_z18 : zl Try.prog 18 = some [.v (.pointer none)] := by kernel_rfl
@[simp] theorem tab_t19 : tinfo Try.prog 19 = some (true, 1) := by kernel_rfl
@[simp] theorem tab_x19 : zel Try.prog 19 = some (.agg [.v (.pointer none)]) := by kernel_rfl
@[simp] theorem tab_z19 : zl Try.prog 19 = some [.v (.pointer none)] := by kernel_rfl
@[simp] theorem tab_t20 : tinfo Try.prog 20 = some (false, 1) := by kernel_rfl
@[simp] theorem tab_x20 : zel Try.prog 20 = some (.v (.nilIface)) := by kernel_rfl
@[simp] theorem tab_t21 : tinfo Try.prog 21 = some (false, 1) := by kernel_rfl
@[simp] theorem tab_i21 : intk Try.prog 21 = some .i32 := by kernel_rfl
@[simp] theorem tab_x21 : zel Try.prog 21 = some (.v (.int .i32 0)) := by kernel_rfl
@[simp] theorem tab_z21 : zl Try.prog 21 = some [.v (.int .i32 0)] := by kernel_rfl
@[simp] theorem tab_t22 : tinfo Try.prog 22 = some (false, 1) := by kernel_rfl
@[simp] theorem tab_e22 : einfo Try.prog 22 = some 67 := by kernel_rfl
@[simp] theorem tab_v22 : vinfo Try.prog 22 = some (67, 7, 104) := by kernel_rfl
@[simp] theorem tab_j22 : intk Try.prog 22 = none := by kernel_rfl
@[simp] theorem tab_x22 : zel Try.prog 22 = some (.v (.slice none 0 0)) := by kernel_rfl
@[simp] theorem tab_z22 : zl Try.prog 22 = some [.v (.slice none 0 0)] := by kernel_rfl
@[simp] theorem tab_t23 : tinfo Try.prog 23 = some (false, 1) := by kernel_rfl
@[simp] theorem tab_e23 : einfo Try.prog 23 = some 25 := by kernel_rfl
@[simp] theorem tab_v23 : vinfo Try.prog 23 = some (25, 4, 56) := by kernel_rfl
@[simp] theorem tab_j23 : intk Try.prog 23 = none := by kernel_rfl
@[simp] theorem tab_x23 : zel Try.prog 23 = some (.v (.slice none 0 0)) := by kernel_rfl
@[simp] theorem tab_z23 : zl Try.prog 23 = some [.v (.slice none 0 0)] := by kernel_rfl
@[simp] theorem tab_t24 : tinfo Try.prog 24 = some (true, 4) := by kernel_rfl
@[simp] theorem tab_x24 : zel Try.prog 24 = some (.agg [.v (.int .i64 0), .v (.int .i64 0), .v (.string ByteArray.empty), .v (.slice none 0 0)]) := by kernel_rfl
@[simp] theorem tab_z24 : zl Try.prog 24 = some [.v (.int .i64 0), .v (.int .i64 0), .v (.string ByteArray.empty), .v (.slice none 0 0)] := by kernel_rfl
@[simp] theorem tab_b24 : binfo Try.prog 24 = some [(0, 1), (1, 1), (2, 1), (3, 1)] := by kernel_rfl
@[simp] theorem tab_f24_0 : finfo Try.prog 24 0 = some (0, 3) := by kernel_rfl
@[simp] theorem tab_f24_1 : finfo Try.prog 24 1 = some (1, 3) := by kernel_rfl
@[simp] theorem tab_f24_2 : finfo Try.prog 24 2 = some (2, 9) := by kernel_rfl
@[simp] theorem tab_f24_3 : finfo Try.prog 24 3 = some (3, 23) := by kernel_rfl
@[simp] theorem tab_t25 : tinfo Try.prog 25 = some (true, 4) := by kernel_rfl
@[simp] theorem tab_x25 : zel Try.prog 25 = some (.agg [.v (.int .i64 0), .v (.int .i64 0), .v (.string ByteArray.empty), .v (.slice none 0 0)]) := by kernel_rfl
@[simp] theorem tab_z25 : zl Try.prog 25 = some [.v (.int .i64 0), .v (.int .i64 0), .v (.string ByteArray.empty), .v (.slice none 0 0)] := by kernel_rfl
@[simp] theorem tab_b25 : binfo Try.prog 25 = some [(0, 1), (1, 1), (2, 1), (3, 1)] := by kernel_rfl
@[simp] theorem tab_f25_0 : finfo Try.prog 25 0 = some (0, 3) := by kernel_rfl
@[simp] theorem tab_f25_1 : finfo Try.prog 25 1 = some (1, 3) := by kernel_rfl
@[simp] theorem tab_f25_2 : finfo Try.prog 25 2 = some (2, 9) := by kernel_rfl
@[simp] theorem tab_f25_3 : finfo Try.prog 25 3 = some (3, 23) := by kernel_rfl
@[simp] theorem tab_t26 : tinfo Try.prog 26 = some (false, 1) := by kernel_rfl
@[simp] theorem tab_e26 : einfo Try.prog 26 = some 34 := by kernel_rfl
@[simp] theorem tab_v26 : vinfo Try.prog 26 = some (34, 3, 32) := by kernel_rfl
@[simp] theorem tab_j26 : intk Try.prog 26 = none := by kernel_rfl
@[simp] theorem tab_x26 : zel Try.prog 26 = some (.v (.slice none 0 0)) := by kernel_rfl
@[simp] theorem tab_z26 : zl Try.prog 26 = some [.v (.slice none 0 0)] := by kernel_rfl
@[simp] theorem tab_t31 : tinfo Try.prog 31 = some (false, 1) := by kernel_rfl
@[simp] theorem tab_e31 : einfo Try.prog 31 = some 3 := by kernel_rfl
@[simp] theorem tab_v31 : vinfo Try.prog 31 = some (3, 1, 8) := by kernel_rfl
@[simp] theorem tab_j31 : intk Try.prog 31 = none := by kernel_rfl
@[simp] theorem tab_x31 : zel Try.prog 31 = some (.v (.slice none 0 0)) := by kernel_rfl
@[simp] theorem tab_z31 : zl Try.prog 31 = some [.v (.slice none 0 0)] := by kernel_rfl
@[simp] theorem tab_t33 : tinfo Try.prog 33 = some (true, 3) := by kernel_rfl
@[simp] theorem tab_x33 : zel Try.prog 33 = some (.agg [.v (.int .i64 0), .v (.int .i64 0), .v (.string ByteArray.empty)]) := by kernel_rfl
@[simp] theorem tab_z33 : zl Try.prog 33 = some [.v (.int .i64 0), .v (.int .i64 0), .v (.string ByteArray.empty)] := by kernel_rfl
@[simp] theorem tab_b33 : binfo Try.prog 33 = some [(0, 1), (1, 1), (2, 1)] := by kernel_rfl
@[simp] theorem tab_f33_0 : finfo Try.prog 33 0 = some (0, 3) := by kernel_rfl
@[simp] theorem tab_f33_1 : finfo Try.prog 33 1 = some (1, 3) := by kernel_rfl
@[simp] theorem tab_f33_2 : finfo Try.prog 33 2 = some (2, 9) := by kernel_rfl
@[simp] theorem tab_t34 : tinfo Try.prog 34 = some (true, 3) := by kernel_rfl
@[simp] theorem tab_x34 : zel Try.prog 34 = some (.agg [.v (.int .i64 0), .v (.int .i64 0), .v (.string ByteArray.empty)]) := by kernel_rfl
@[simp] theorem tab_z34 : zl Try.prog 34 = some [.v (.int .i64 0), .v (.int .i64 0), .v (.string ByteArray.empty)] := by kernel_rfl
@[simp] theorem tab_b34 : binfo Try.prog 34 = some [(0, 1), (1, 1), (2, 1)] := by kernel_rfl
@[simp] theorem tab_f34_0 : finfo Try.prog 34 0 = some (0, 3) := by kernel_rfl
@[simp] theorem tab_f34_1 : finfo Try.prog 34 1 = some (1, 3) := by kernel_rfl
@[simp] theorem tab_f34_2 : finfo Try.prog 34 2 = some (2, 9) := by kernel_rfl
@[simp] theorem tab_t39 : tinfo Try.prog 39 = some (true, 4) := by kernel_rfl
@[simp] theorem tab_x39 : zel Try.prog 39 = some (.agg [.v (.int .i64 0), .v (.int .i64 0), .v (.string ByteArray.empty), .v (.int .i64 0)]) := by kernel_rfl
@[simp] theorem tab_z39 : zl Try.prog 39 = some [.v (.int .i64 0), .v (.int .i64 0), .v (.string ByteArray.empty), .v (.int .i64 0)] := by kernel_rfl
@[simp] theorem tab_b39 : binfo Try.prog 39 = some [(0, 3), (3, 1)] := by kernel_rfl
@[simp] theorem tab_f39_0 : finfo Try.prog 39 0 = some (0, 34) := by kernel_rfl
@[simp] theorem tab_f39_1 : finfo Try.prog 39 1 = some (3, 3) := by kernel_rfl
@[simp] theorem tab_t40 : tinfo Try.prog 40 = some (true, 4) := by kernel_rfl
@[simp] theorem tab_x40 : zel Try.prog 40 = some (.agg [.v (.int .i64 0), .v (.int .i64 0), .v (.string ByteArray.empty), .v (.int .i64 0)]) := by kernel_rfl
@[simp] theorem tab_z40 : zl Try.prog 40 = some [.v (.int .i64 0), .v (.int .i64 0), .v (.string ByteArray.empty), .v (.int .i64 0)] := by kernel_rfl
@[simp] theorem tab_b40 : binfo Try.prog 40 = some [(0, 3), (3, 1)] := by kernel_rfl
@[simp] theorem tab_f40_0 : finfo Try.prog 40 0 = some (0, 34) := by kernel_rfl
@[simp] theorem tab_f40_1 : finfo Try.prog 40 1 = some (3, 3) := by kernel_rfl
@[simp] theorem tab_t60 : tinfo Try.prog 60 = some (true, 3) := by kernel_rfl
@[simp] theorem tab_x60 : zel Try.prog 60 = some (.agg [.v (.slice none 0 0), .v (.slice none 0 0), .v (.slice none 0 0)]) := by kernel_rfl
@[simp] theorem tab_z60 : zl Try.prog 60 = some [.v (.slice none 0 0), .v (.slice none 0 0), .v (.slice none 0 0)] := by kernel_rfl
@[simp] theorem tab_b60 : binfo Try.prog 60 = some [(0, 1), (1, 1), (2, 1)] := by kernel_rfl
@[simp] theorem tab_f60_0 : finfo Try.prog 60 0 = some (0, 22) := by kernel_rfl
@[simp] theorem tab_f60_1 : finfo Try.prog 60 1 = some (1, 31) := by kernel_rfl
@[simp] theorem tab_f60_2 : finfo Try.prog 60 2 = some (2, 31) := by kernel_rfl
@[simp] theorem tab_t61 : tinfo Try.prog 61 = some (true, 3) := by kernel_rfl
@[simp] theorem tab_x61 : zel Try.prog 61 = some (.agg [.v (.slice none 0 0), .v (.slice none 0 0), .v (.slice none 0 0)]) := by kernel_rfl
@[simp] theorem tab_z61 : zl Try.prog 61 = some [.v (.slice none 0 0), .v (.slice none 0 0), .v (.slice none 0 0)] := by kernel_rfl
@[simp] theorem tab_b61 : binfo Try.prog 61 = some [(0, 1), (1, 1), (2, 1)] := by kernel_rfl
@[simp] theorem tab_f61_0 : finfo Try.prog 61 0 = some (0, 22) := by kernel_rfl
@[simp] theorem tab_f61_1 : finfo Try.prog 61 1 = some (1, 31) := by kernel_rfl
@[simp] theorem tab_f61_2 : finfo Try.prog 61 2 = some (2, 31) := by kernel_rfl
@[simp] theorem tab_t63 : tinfo Try.prog 63 = some (true, 4) := by kernel_rfl
@[simp] theorem tab_x63 : zel Try.prog 63 = some (.agg [.v (.slice none 0 0), .v (.int .i64 0), .v (.slice none 0 0), .v (.slice none 0 0)]) := by kernel_rfl
@[simp] theorem tab_z63 : zl Try.prog 63 = some [.v (.slice none 0 0), .v (.int .i64 0), .v (.slice none 0 0), .v (.slice none 0 0)] := by kernel_rfl
@[simp] theorem tab_b63 : binfo Try.prog 63 = some [(0, 1), (1, 1), (2, 1), (3, 1)] := by kernel_rfl
@[simp] theorem tab_f63_0 : finfo Try.prog 63 0 = some (0, 22) := by kernel_rfl
@[simp] theorem tab_f63_1 : finfo Try.prog 63 1 = some (1, 3) := by kernel_rfl
@[simp] theorem tab_f63_2 : finfo Try.prog 63 2 = some (2, 26) := by kernel_rfl
@[simp] theorem tab_f63_3 : finfo Try.prog 63 3 = some (3, 26) := by kernel_rfl
@[simp] theorem tab_t64 : tinfo Try.prog 64 = some (true, 4) := by kernel_rfl
@[simp] theorem tab_x64 : zel Try.prog 64 = some (.agg [.v (.slice none 0 0), .v (.int .i64 0), .v (.slice none 0 0), .v (.slice none 0 0)]) := by kernel_rfl
@[simp] theorem tab_z64 : zl Try.prog 64 = some [.v (.slice none 0 0), .v (.int .i64 0), .v (.slice none 0 0), .v (.slice none 0 0)] := by kernel_rfl
@[simp] theorem tab_b64 : binfo Try.prog 64 = some [(0, 1), (1, 1), (2, 1), (3, 1)] := by kernel_rfl
@[simp] theorem tab_f64_0 : finfo Try.prog 64 0 = some (0, 22) := by kernel_rfl
@[simp] theorem tab_f64_1 : finfo Try.prog 64 1 = some (1, 3) := by kernel_rfl
@[simp] theorem tab_f64_2 : finfo Try.prog 64 2 = some (2, 26) := by kernel_rfl
@[simp] theorem tab_f64_3 : finfo Try.prog 64 3 = some (3, 26) := by kernel_rfl
@[simp] theorem tab_t66 : tinfo Try.prog 66 = some (true, 7) := by kernel_rfl
@[simp] theorem tab_x66 : zel Try.prog 66 = some (.agg [.v (.string ByteArray.empty), .v (.slice none 0 0), .v (.int .i64 0), .v (.int .i64 0), .v (.int .i64 0), .v (.string ByteArray.empty), .v (.slice none 0 0)]) := by kernel_rfl
@[simp] theorem tab_z66 : zl Try.prog 66 = some [.v (.string ByteArray.empty), .v (.slice none 0 0), .v (.int .i64 0), .v (.int .i64 0), .v (.int .i64 0), .v (.string ByteArray.empty), .v (.slice none 0 0)] := by kernel_rfl
@[simp] theorem tab_b66 : binfo Try.prog 66 = some [(0, 1), (1, 1), (2, 1), (3, 4)] := by kernel_rfl
@[simp] theorem tab_f66_0 : finfo Try.prog 66 0 = some (0, 9) := by kernel_rfl
@[simp] theorem tab_f66_1 : finfo Try.prog 66 1 = some (1, 31) := by kernel_rfl
@[simp] theorem tab_f66_2 : finfo Try.prog 66 2 = some (2, 3) := by kernel_rfl
@[simp] theorem tab_f66_3 : finfo Try.prog 66 3 = some (3, 25) := by kernel_rfl
@[simp] theorem tab_t67 : tinfo Try.prog 67 = some (true, 7) := by kernel_rfl
@[simp] theorem tab_x67 : zel Try.prog 67 = some (.agg [.v (.string ByteArray.empty), .v (.slice none 0 0), .v (.int .i64 0), .v (.int .i64 0), .v (.int .i64 0), .v (.string ByteArray.empty), .v (.slice none 0 0)]) := by kernel_rfl
@[simp] theorem tab_z67 : zl Try.prog 67 = some [.v (.string ByteArray.empty), .v (.slice none 0 0), .v (.int .i64 0), .v (.int .i64 0), .v (.int .i64 0), .v (.string ByteArray.empty), .v (.slice none 0 0)] := by kernel_rfl
@[simp] theorem tab_b67 : binfo Try.prog 67 = some [(0, 1), (1, 1), (2, 1), (3, 4)] := by kernel_rfl
@[simp] theorem tab_f67_0 : finfo Try.prog 67 0 = some (0, 9) := by kernel_rfl
@[simp] theorem tab_f67_1 : finfo Try.prog 67 1 = some (1, 31) := by kernel_rfl
@[simp] theorem tab_f67_2 : finfo Try.prog 67 2 = some (2, 3) := by kernel_rfl
@[simp] theorem tab_f67_3 : finfo Try.prog 67 3 = some (3, 25) := by kernel_rfl
@[simp] theorem tab_t71 : tinfo Try.prog 71 = some (false, 1) := by kernel_rfl
@[simp] theorem tab_e71 : einfo Try.prog 71 = some 73 := by kernel_rfl
@[simp] theorem tab_v71 : vinfo Try.prog 71 = some (73, 5, 64) := by kernel_rfl
@[simp] theorem tab_j71 : intk Try.prog 71 = none := by kernel_rfl
@[simp] theorem tab_x71 : zel Try.prog 71 = some (.v (.slice none 0 0)) := by kernel_rfl
@[simp] theorem tab_z71 : zl Try.prog 71 = some [.v (.slice none 0 0)] := by kernel_rfl
@[simp] theorem tab_t72 : tinfo Try.prog 72 = some (true, 5) := by kernel_rfl
@[simp] theorem tab_x72 : zel Try.prog 72 = some (.agg [.v (.int .i64 0), .v (.int .i64 0), .v (.string ByteArray.empty), .v (.slice none 0 0), .v (.bool false)]) := by kernel_rfl
@[simp] theorem tab_z72 : zl Try.prog 72 = some [.v (.int .i64 0), .v (.int .i64 0), .v (.string ByteArray.empty), .v (.slice none 0 0), .v (.bool false)] := by kernel_rfl
@[simp] theorem tab_b72 : binfo Try.prog 72 = some [(0, 4), (4, 1)] := by kernel_rfl
@[simp] theorem tab_f72_0 : finfo Try.prog 72 0 = some (0, 25) := by kernel_rfl
@[simp] theorem tab_f72_1 : finfo Try.prog 72 1 = some (4, 4) := by kernel_rfl
@[simp] theorem tab_t73 : tinfo Try.prog 73 = some (true, 5) := by kernel_rfl
@[simp] theorem tab_x73 : zel Try.prog 73 = some (.agg [.v (.int .i64 0), .v (.int .i64 0), .v (.string ByteArray.empty), .v (.slice none 0 0), .v (.bool false)]) := by kernel_rfl
@[simp] theorem tab_z73 : zl Try.prog 73 = some [.v (.int .i64 0), .v (.int .i64 0), .v (.string ByteArray.empty), .v (.slice none 0 0), .v (.bool false)] := by kernel_rfl
@[simp] theorem tab_b73 : binfo Try.prog 73 = some [(0, 4), (4, 1)] := by kernel_rfl
@[simp] theorem tab_f73_0 : finfo Try.prog 73 0 = some (0, 25) := by kernel_rfl
@[simp] theorem tab_f73_1 : finfo Try.prog 73 1 = some (4, 4) := by kernel_rfl
@[simp] theorem tab_t75 : tinfo Try.prog 75 = some (false, 1) := by kernel_rfl
@[simp] theorem tab_e75 : einfo Try.prog 75 = some 4 := by kernel_rfl
@[simp] theorem tab_v75 : vinfo Try.prog 75 = some (4, 1, 1) := by kernel_rfl
@[simp] theorem tab_j75 : intk Try.prog 75 = none := by kernel_rfl
@[simp] theorem tab_x75 : zel Try.prog 75 = some (.v (.slice none 0 0)) := by kernel_rfl
@[simp] theorem tab_z75 : zl Try.prog 75 = some [.v (.slice none 0 0)] := by kernel_rfl
@[simp] theorem tab_t81 : tinfo Try.prog 81 = some (false, 1) := by kernel_rfl
@[simp] theorem tab_x81 : zel Try.prog 81 = some (.v (.map none)) := by kernel_rfl
@[simp] theorem tab_z81 : zl Try.prog 81 = some [.v (.map none)] := by kernel_rfl
@[simp] theorem tab_t94 : tinfo Try.prog 94 = some (true, 6) := by kernel_rfl
@[simp] theorem tab_x94 : zel Try.prog 94 = some (.agg [.v (.int .i64 0), .v (.int .i64 0), .v (.string ByteArray.empty), .v (.int .i64 0), .v (.int .i64 0), .v (.string ByteArray.empty)]) := by kernel_rfl
@[simp] theorem tab_z94 : zl Try.prog 94 = some [.v (.int .i64 0), .v (.int .i64 0), .v (.string ByteArray.empty), .v (.int .i64 0), .v (.int .i64 0), .v (.string ByteArray.empty)] := by kernel_rfl
@[simp] theorem tab_b94 : binfo Try.prog 94 = some [(0, 3), (3, 3)] := by kernel_rfl
@[simp] theorem tab_f94_0 : finfo Try.prog 94 0 = some (0, 34) := by kernel_rfl
@[simp] theorem tab_f94_1 : finfo Try.prog 94 1 = some (3, 34) := by kernel_rfl
@[simp] theorem tab_t95 : tinfo Try.prog 95 = some (true, 6) := by kernel_rfl
@[simp] theorem tab_x95 : zel Try.prog 95 = some (.agg [.v (.int .i64 0), .v (.int .i64 0), .v (.string ByteArray.empty), .v (.int .i64 0), .v (.int .i64 0), .v (.string ByteArray.empty)]) := by kernel_rfl
@[simp] theorem tab_z95 : zl Try.prog 95 = some [.v (.int .i64 0), .v (.int .i64 0), .v (.string ByteArray.empty), .v (.int .i64 0), .v (.int .i64 0), .v (.string ByteArray.empty)] := by kernel_rfl
@[simp] theorem tab_b95 : binfo Try.prog 95 = some [(0, 3), (3, 3)] := by kernel_rfl
@[simp] theorem tab_f95_0 : finfo Try.prog 95 0 = some (0, 34) := by kernel_rfl
@[simp] theorem tab_f95_1 : finfo Try.prog 95 1 = some (3, 34) := by kernel_rfl
@[simp] theorem tab_t96 : tinfo Try.prog 96 = some (false, 1) := by kernel_rfl
@[simp] theorem tab_x96 : zel Try.prog 96 = some (.v (.map none)) := by kernel_rfl
@[simp] theorem tab_z96 : zl Try.prog 96 = some [.v (.map none)] := by kernel_rfl
@[simp] theorem tab_t107 : tinfo Try.prog 107 = some (false, 1) := by kernel_rfl
@[simp] theorem tab_i107 : intk Try.prog 107 = some .u64 := by kernel_rfl
@[simp] theorem tab_x107 : zel Try.prog 107 = some (.v (.int .u64 0)) := by kernel_rfl
@[simp] theorem tab_z107 : zl Try.prog 107 = some [.v (.int .u64 0)] := by kernel_rfl
@[simp] theorem tab_t115 : tinfo Try.prog 115 = some (false, 1) := by kernel_rfl
@[simp] theorem tab_i115 : intk Try.prog 115 = some .i64 := by kernel_rfl
@[simp] theorem tab_x115 : zel Try.prog 115 = some (.v (.int .i64 0)) := by kernel_rfl
@[simp] theorem tab_z115 : zl Try.prog 115 = some [.v (.int .i64 0)] := by kernel_rfl
@[simp] theorem tab_t122 : tinfo Try.prog 122 = some (false, 1) := by kernel_rfl
@[simp] theorem tab_i122 : intk Try.prog 122 = some .u32 := by kernel_rfl
@[simp] theorem tab_x122 : zel Try.prog 122 = some (.v (.int .u32 0)) := by kernel_rfl
@[simp] theorem tab_z122 : zl Try.prog 122 = some [.v (.int .u32 0)] := by kernel_rfl
@[simp] theorem tab_t124 : tinfo Try.prog 124 = some (false, 1) := by kernel_rfl
@[simp] theorem tab_i124 : intk Try.prog 124 = some .u64 := by kernel_rfl
@[simp] theorem tab_x124 : zel Try.prog 124 = some (.v (.int .u64 0)) := by kernel_rfl
@[simp] theorem tab_z124 : zl Try.prog 124 = some [.v (.int .u64 0)] := by kernel_rfl
@[simp] theorem tab_t125 : tinfo Try.prog 125 = some (false, 1) := by kernel_rfl
@[simp] theorem tab_i125 : intk Try.prog 125 = some .u64 := by kernel_rfl
@[simp] theorem tab_x125 : zel Try.prog 125 = some (.v (.int .u64 0)) := by kernel_rfl
@[simp] theorem tab_z125 : zl Try.prog 125 = some [.v (.int .u64 0)] := by kernel_rfl
@[simp] theorem tab_t129 : tinfo Try.prog 129 = some (false, 1) := by kernel_rfl
@[simp] theorem tab_x129 : zel Try.prog 129 = some (.v (.pointer none)) := by kernel_rfl
@[simp] theorem tab_z129 : zl Try.prog 129 = some [.v (.pointer none)] := by kernel_rfl
@[simp] theorem tab_t131 : tinfo Try.prog 131 = some (false, 1) := by kernel_rfl
@[simp] theorem tab_x131 : zel Try.prog 131 = some (.v (.pointer none)) := by kernel_rfl
@[simp] theorem tab_z131 : zl Try.prog 131 = some [.v (.pointer none)] := by kernel_rfl
@[simp] theorem tab_t135 : tinfo Try.prog 135 = some (true, 4) := by kernel_rfl
@[simp] theorem tab_x135 : zel Try.prog 135 = some (.agg [.v (.pointer none), .v (.pointer none), .v (.pointer none), .v (.string ByteArray.empty)]) := by kernel_rfl
@[simp] theorem tab_z135 : zl Try.prog 135 = some [.v (.pointer none), .v (.pointer none), .v (.pointer none), .v (.string ByteArray.empty)] := by kernel_rfl
@[simp] theorem tab_b135 : binfo Try.prog 135 = some [(0, 1), (1, 1), (2, 1), (3, 1)] := by kernel_rfl
@[simp] theorem tab_f135_0 : finfo Try.prog 135 0 = some (0, 17) := by kernel_rfl
@[simp] theorem tab_f135_1 : finfo Try.prog 135 1 = some (1, 17) := by kernel_rfl
@[simp] theorem tab_f135_2 : finfo Try.prog 135 2 = some (2, 17) := by kernel_rfl
@[simp] theorem tab_f135_3 : finfo Try.prog 135 3 = some (3, 9) := by kernel_rfl
@[simp] theorem tab_t136 : tinfo Try.prog 136 = some (true, 4) := by kernel_rfl
@[simp] theorem tab_x136 : zel Try.prog 136 = some (.agg [.v (.pointer none), .v (.pointer none), .v (.pointer none), .v (.string ByteArray.empty)]) := by kernel_rfl
@[simp] theorem tab_z136 : zl Try.prog 136 = some [.v (.pointer none), .v (.pointer none), .v (.pointer none), .v (.string ByteArray.empty)] := by kernel_rfl
@[simp] theorem tab_b136 : binfo Try.prog 136 = some [(0, 1), (1, 1), (2, 1), (3, 1)] := by kernel_rfl
@[simp] theorem tab_f136_0 : finfo Try.prog 136 0 = some (0, 17) := by kernel_rfl
@[simp] theorem tab_f136_1 : finfo Try.prog 136 1 = some (1, 17) := by kernel_rfl
@[simp] theorem tab_f136_2 : finfo Try.prog 136 2 = some (2, 17) := by kernel_rfl
@[simp] theorem tab_f136_3 : finfo Try.prog 136 3 = some (3, 9) := by kernel_rfl
@[simp] theorem tab_t137 : tinfo Try.prog 137 = some (true, 0) := by kernel_rfl
@[simp] theorem tab_t138 : tinfo Try.prog 138 = some (true, 0) := by kernel_rfl
@[simp] theorem tab_z138 : zl Try.prog 138 = some [] := by kernel_rfl
@[simp] theorem tab_b138 : binfo Try.prog 138 = some [(0, 0)] := by kernel_rfl
@[simp] theorem tab_f138_0 : finfo Try.prog 138 0 = some (0, 137) := by kernel_rfl
@[simp] theorem tab_t139 : tinfo Try.prog 139 = some (true, 0) := by kernel_rfl
@[simp] theorem tab_z139 : zl Try.prog 139 = some [] := by kernel_rfl
@[simp] theorem tab_b139 : binfo Try.prog 139 = some [(0, 0)] := by kernel_rfl
@[simp] theorem tab_f139_0 : finfo Try.prog 139 0 = some (0, 137) := by kernel_rfl
@[simp] theorem tab_t141 : tinfo Try.prog 141 = some (false, 1) := by kernel_rfl
@[simp] theorem tab_i141 : intk Try.prog 141 = some .u8 := by kernel_rfl
@[simp] theorem tab_x141 : zel Try.prog 141 = some (.v (.int .u8 0)) := by kernel_rfl
@[simp] theorem tab_z141 : zl Try.prog 141 = some [.v (.int .u8 0)] := by kernel_rfl
@[simp] theorem tab_t142 : tinfo Try.prog 142 = some (false, 1) := by kernel_rfl
@[simp] theorem tab_i142 : intk Try.prog 142 = some .u8 := by kernel_rfl
@[simp] theorem tab_x142 : zel Try.prog 142 = some (.v (.int .u8 0)) := by kernel_rfl
@[simp] theorem tab_z142 : zl Try.prog 142 = some [.v (.int .u8 0)] := by kernel_rfl
@[simp] theorem tab_t144 : tinfo Try.prog 144 = some (false, 1) := by kernel_rfl
@[simp] theorem tab_x144 : zel Try.prog 144 = some (.v (.pointer none)) := by kernel_rfl
@[simp] theorem tab_z144 : zl Try.prog 144 = some [.v (.pointer none)] := by kernel_rfl
@[simp] theorem tab_t145 : tinfo Try.prog 145 = some (false, 1) := by kernel_rfl
@[simp] theorem tab_i145 : intk Try.prog 145 = some .i32 := by kernel_rfl
@[simp] theorem tab_x145 : zel Try.prog 145 = some (.v (.int .i32 0)) := by kernel_rfl
@[simp] theorem tab_z145 : zl Try.prog 145 = some [.v (.int .i32 0)] := by kernel_rfl
@[simp] theorem tab_t146 : tinfo Try.prog 146 = some (false, 1) := by kernel_rfl
@[simp] theorem tab_i146 : intk Try.prog 146 = some .i32 := by kernel_rfl
@[simp] theorem tab_x146 : zel Try.prog 146 = some (.v (.int .i32 0)) := by kernel_rfl
@[simp] theorem tab_z146 : zl Try.prog 146 = some [.v (.int .i32 0)] := by kernel_rfl
@[simp] theorem tab_t147 : tinfo Try.prog 147 = some (true, 11) := by kernel_rfl
@[simp] theorem tab_x147 : zel Try.prog 147 = some (.agg [.v (.int .u64 0), .v (.int .u64 0), .v (.int .u32 0), .v (.int .u8 0), .v (.int .u8 0), .v (.int .u8 0), .v (.int .u8 0), .v (.nilFunc), .v (.pointer none), .v (.int .i32 0), .v (.int .i32 0)]) := by kernel_rfl
@[simp] theorem tab_z147 : zl Try.prog 147 = some [.v (.int .u64 0), .v (.int .u64 0), .v (.int .u32 0), .v (.int .u8 0), .v (.int .u8 0), .v (.int .u8 0), .v (.int .u8 0), .v (.nilFunc), .v (.pointer none), .v (.int .i32 0), .v (.int .i32 0)] := by kernel_rfl
@[simp] theorem tab_b147 : binfo Try.prog 147 = some [(0, 1), (1, 1), (2, 1), (3, 1), (4, 1), (5, 1), (6, 1), (7, 1), (8, 1), (9, 1), (10, 1)] := by kernel_rfl
@[simp] theorem tab_f147_0 : finfo Try.prog 147 0 = some (0, 12) := by kernel_rfl
@[simp] theorem tab_f147_1 : finfo Try.prog 147 1 = some (1, 12) := by kernel_rfl
@[simp] theorem tab_f147_2 : finfo Try.prog 147 2 = some (2, 122) := by kernel_rfl
@[simp] theorem tab_f147_3 : finfo Try.prog 147 3 = some (3, 141) := by kernel_rfl
@[simp] theorem tab_f147_4 : finfo Try.prog 147 4 = some (4, 5) := by kernel_rfl
@[simp] theorem tab_f147_5 : finfo Try.prog 147 5 = some (5, 5) := by kernel_rfl
@[simp] theorem tab_f147_6 : finfo Try.prog 147 6 = some (6, 142) := by kernel_rfl
@[simp] theorem tab_f147_7 : finfo Try.prog 147 7 = some (7, 143) := by kernel_rfl
@[simp] theorem tab_f147_8 : finfo Try.prog 147 8 = some (8, 144) := by kernel_rfl
@[simp] theorem tab_f147_9 : finfo Try.prog 147 9 = some (9, 145) := by kernel_rfl
@[simp] theorem tab_f147_10 : finfo Try.prog 147 10 = some (10, 146) := by kernel_rfl
@[simp] theorem tab_t148 : tinfo Try.prog 148 = some (true, 11) := by kernel_rfl
@[simp] theorem tab_x148 : zel Try.prog 148 = some (.agg [.v (.int .u64 0), .v (.int .u64 0), .v (.int .u32 0), .v (.int .u8 0), .v (.int .u8 0), .v (.int .u8 0), .v (.int .u8 0), .v (.nilFunc), .v (.pointer none), .v (.int .i32 0), .v (.int .i32 0)]) := by kernel_rfl
@[simp] theorem tab_z148 : zl Try.prog 148 = some [.v (.int .u64 0), .v (.int .u64 0), .v (.int .u32 0), .v (.int .u8 0), .v (.int .u8 0), .v (.int .u8 0), .v (.int .u8 0), .v (.nilFunc), .v (.pointer none), .v (.int .i32 0), .v (.int .i32 0)] := by kernel_rfl
@[simp] theorem tab_b148 : binfo Try.prog 148 = some [(0, 1), (1, 1), (2, 1), (3, 1), (4, 1), (5, 1), (6, 1), (7, 1), (8, 1), (9, 1), (10, 1)] := by kernel_rfl
@[simp] theorem tab_f148_0 : finfo Try.prog 148 0 = some (0, 12) := by kernel_rfl
@[simp] theorem tab_f148_1 : finfo Try.prog 148 1 = some (1, 12) := by kernel_rfl
@[simp] theorem tab_f148_2 : finfo Try.prog 148 2 = some (2, 122) := by kernel_rfl
@[simp] theorem tab_f148_3 : finfo Try.prog 148 3 = some (3, 141) := by kernel_rfl
@[simp] theorem tab_f148_4 : finfo Try.prog 148 4 = some (4, 5) := by kernel_rfl
@[simp] theorem tab_f148_5 : finfo Try.prog 148 5 = some (5, 5) := by kernel_rfl
@[simp] theorem tab_f148_6 : finfo Try.prog 148 6 = some (6, 142) := by kernel_rfl
@[simp] theorem tab_f148_7 : finfo Try.prog 148 7 = some (7, 143) := by kernel_rfl
@[simp] theorem tab_f148_8 : finfo Try.prog 148 8 = some (8, 144) := by kernel_rfl
@[simp] theorem tab_f148_9 : finfo Try.prog 148 9 = some (9, 145) := by kernel_rfl
@[simp] theorem tab_f148_10 : finfo Try.prog 148 10 = some (10, 146) := by kernel_rfl
@[simp] theorem tab_t149 : tinfo Try.prog 149 = some (false, 1) := by kernel_rfl
@[simp] theorem tab_x149 : zel Try.prog 149 = some (.v (.pointer none)) := by kernel_rfl
@[simp] theorem tab_n2 : enters Try.prog 2 = true := by kernel_rfl
@[simp] theorem tab_n3 : enters Try.prog 3 = true := by kernel_rfl
@[simp] theorem tab_n4 : enters Try.prog 4 = true := by kernel_rfl
@[simp] theorem tab_n5 : enters Try.prog 5 = true := by kernel_rfl
@[simp] theorem tab_n6 : enters Try.prog 6 = true := by kernel_rfl
@[simp] theorem tab_n7 : enters Try.prog 7 = true := by kernel_rfl
@[simp] theorem tab_n8 : enters Try.prog 8 = true := by kernel_rfl
@[simp] theorem tab_n9 : enters Try.prog 9 = true := by kernel_rfl
@[simp] theorem tab_n10 : enters Try.prog 10 = true := by kernel_rfl
@[simp] theorem tab_n11 : enters Try.prog 11 = true := by kernel_rfl
@[simp] theorem tab_n12 : enters Try.prog 12 = true := by kernel_rfl
@[simp] theorem tab_n13 : enters Try.prog 13 = true := by kernel_rfl
@[simp] theorem tab_n14 : enters Try.prog 14 = true := by kernel_rfl
@[simp] theorem tab_n15 : enters Try.prog 15 = true := by kernel_rfl
@[simp] theorem tab_n16 : enters Try.prog 16 = true := by kernel_rfl
@[simp] theorem tab_n17 : enters Try.prog 17 = true := by kernel_rfl
@[simp] theorem tab_n18 : enters Try.prog 18 = true := by kernel_rfl
@[simp] theorem tab_n19 : enters Try.prog 19 = true := by kernel_rfl
@[simp] theorem tab_n20 : enters Try.prog 20 = true := by kernel_rfl
@[simp] theorem tab_n21 : enters Try.prog 21 = true := by kernel_rfl
@[simp] theorem tab_n22 : enters Try.prog 22 = true := by kernel_rfl
@[simp] theorem tab_n23 : enters Try.prog 23 = true := by kernel_rfl
@[simp] theorem tab_n24 : enters Try.prog 24 = true := by kernel_rfl
@[simp] theorem tab_n25 : enters Try.prog 25 = true := by kernel_rfl
@[simp] theorem tab_n26 : enters Try.prog 26 = true := by kernel_rfl
@[simp] theorem tab_n27 : enters Try.prog 27 = true := by kernel_rfl
@[simp] theorem tab_n28 : enters Try.prog 28 = true := by kernel_rfl
@[simp] theorem tab_n29 : enters Try.prog 29 = true := by kernel_rfl
@[simp] theorem tab_n30 : enters Try.prog 30 = true := by kernel_rfl
@[simp] theorem tab_n31 : enters Try.prog 31 = true := by kernel_rfl
@[simp] theorem tab_n32 : enters Try.prog 32 = true := by kernel_rfl
@[simp] theorem tab_n33 : enters Try.prog 33 = true := by kernel_rfl
@[simp] theorem tab_n34 : enters Try.prog 34 = true := by kernel_rfl
@[simp] theorem tab_n35 : enters Try.prog 35 = true := by kernel_rfl
@[simp] theorem tab_n36 : enters Try.prog 36 = true := by kernel_rfl
@[simp] theorem tab_n37 : enters Try.prog 37 = true := by kernel_rfl
@[simp] theorem tab_n38 : enters Try.prog 38 = true := by kernel_rfl
@[simp] theorem tab_n39 : enters Try.prog 39 = true := by kernel_rfl
@[simp] theorem tab_n40 : enters Try.prog 40 = true := by kernel_rfl
@[simp] theorem tab_n41 : enters Try.prog 41 = true := by kernel_rfl
@[simp] theorem tab_n42 : enters Try.prog 42 = true := by kernel_rfl
@[simp] theorem tab_n43 : enters Try.prog 43 = true := by kernel_rfl
@[simp] theorem tab_n44 : enters Try.prog 44 = true := by kernel_rfl
@[simp] theorem tab_n45 : enters Try.prog 45 = true := by kernel_rfl
@[simp] theorem tab_n46 : enters Try.prog 46 = true := by kernel_rfl
@[simp] theorem tab_n47 : enters Try.prog 47 = true := by kernel_rfl
@[simp] theorem tab_n48 : enters Try.prog 48 = true := by kernel_rfl
@[simp] theorem tab_n49 : enters Try.prog 49 = true := by kernel_rfl
@[simp] theorem tab_n50 : enters Try.prog 50 = true := by kernel_rfl
@[simp] theorem tab_n51 : enters Try.prog 51 = true := by kernel_rfl
@[simp] theorem tab_n52 : enters Try.prog 52 = true := by kernel_rfl
@[simp] theorem tab_n53 : enters Try.prog 53 = true := by kernel_rfl
@[simp] theorem tab_n54 : enters Try.prog 54 = true := by kernel_rfl
@[simp] theorem tab_n55 : enters Try.prog 55 = true := by kernel_rfl
@[simp] theorem tab_n56 : enters Try.prog 56 = true := by kernel_rfl
@[simp] theorem tab_n57 : enters Try.prog 57 = true := by kernel_rfl
@[simp] theorem tab_n58 : enters Try.prog 58 = true := by kernel_rfl
@[simp] theorem tab_n59 : enters Try.prog 59 = true := by kernel_rfl
@[simp] theorem tab_n60 : enters Try.prog 60 = true := by kernel_rfl
@[simp] theorem tab_n61 : enters Try.prog 61 = true := by kernel_rfl
@[simp] theorem tab_n62 : enters Try.prog 62 = true := by kernel_rfl
@[simp] theorem tab_n63 : enters Try.prog 63 = true := by kernel_rfl
@[simp] theorem tab_n64 : enters Try.prog 64 = true := by kernel_rfl
@[simp] theorem tab_n65 : enters Try.prog 65 = true := by kernel_rfl
@[simp] theorem tab_n66 : enters Try.prog 66 = true := by kernel_rfl
@[simp] theorem tab_n67 : enters Try.prog 67 = true := by kernel_rfl
@[simp] theorem tab_n68 : enters Try.prog 68 = true := by kernel_rfl
@[simp] theorem tab_n69 : enters Try.prog 69 = true := by kernel_rfl
@[simp] theorem tab_n70 : enters Try.prog 70 = true := by kernel_rfl
@[simp] theorem tab_n71 : enters Try.prog 71 = true := by kernel_rfl
@[simp] theorem tab_n72 : enters Try.prog 72 = true := by kernel_rfl
@[simp] theorem tab_n73 : enters Try.prog 73 = true := by kernel_rfl
@[simp] theorem tab_n74 : enters Try.prog 74 = true := by kernel_rfl
@[simp] theorem tab_n75 : enters Try.prog 75 = true := by kernel_rfl
@[simp] theorem tab_n76 : enters Try.prog 76 = true := by kernel_rfl
@[simp] theorem tab_n77 : enters Try.prog 77 = true := by kernel_rfl
@[simp] theorem tab_n78 : enters Try.prog 78 = true := by kernel_rfl
@[simp] theorem tab_n79 : enters Try.prog 79 = true := by kernel_rfl
@[simp] theorem tab_n80 : enters Try.prog 80 = true := by kernel_rfl
@[simp] theorem tab_n81 : enters Try.prog 81 = true := by kernel_rfl
@[simp] theorem tab_n82 : enters Try.prog 82 = true := by kernel_rfl
@[simp] theorem tab_n83 : enters Try.prog 83 = true := by kernel_rfl
@[simp] theorem tab_n84 : enters Try.prog 84 = true := by kernel_rfl
@[simp] theorem tab_n85 : enters Try.prog 85 = true := by kernel_rfl
@[simp] theorem tab_n86 : enters Try.prog 86 = true := by kernel_rfl
@[simp] theorem tab_n87 : enters Try.prog 87 = true := by kernel_rfl
@[simp] theorem tab_n88 : enters Try.prog 88 = true := by kernel_rfl
@[simp] theorem tab_n89 : enters Try.prog 89 = true := by kernel_rfl
@[simp] theorem tab_n90 : enters Try.prog 90 = true := by kernel_rfl
@[simp] theorem tab_n91 : enters Try.prog 91 = true := by kernel_rfl
@[simp] theorem tab_n92 : enters Try.prog 92 = true := by kernel_rfl
@[simp] theorem tab_n93 : enters Try.prog 93 = true := by kernel_rfl
@[simp] theorem tab_n94 : enters Try.prog 94 = true := by kernel_rfl
@[simp] theorem tab_n95 : enters Try.prog 95 = true := by kernel_rfl
@[simp] theorem tab_n96 : enters Try.prog 96 = true := by kernel_rfl
@[simp] theorem tab_n97 : enters Try.prog 97 = true := by kernel_rfl
@[simp] theorem tab_n98 : enters Try.prog 98 = true := by kernel_rfl
@[simp] theorem tab_n99 : enters Try.prog 99 = true := by kernel_rfl
@[simp] theorem tab_n100 : enters Try.prog 100 = true := by kernel_rfl
@[simp] theorem tab_n101 : enters Try.prog 101 = true := by kernel_rfl
@[simp] theorem tab_n102 : enters Try.prog 102 = true := by kernel_rfl
@[simp] theorem tab_n103 : enters Try.prog 103 = true := by kernel_rfl
@[simp] theorem tab_n104 : enters Try.prog 104 = true := by kernel_rfl
@[simp] theorem tab_n105 : enters Try.prog 105 = true := by kernel_rfl
@[simp] theorem tab_n106 : enters Try.prog 106 = true := by kernel_rfl
@[simp] theorem tab_n107 : enters Try.prog 107 = true := by kernel_rfl
@[simp] theorem tab_n108 : enters Try.prog 108 = true := by kernel_rfl
@[simp] theorem tab_n109 : enters Try.prog 109 = true := by kernel_rfl
@[simp] theorem tab_n110 : enters Try.prog 110 = true := by kernel_rfl
@[simp] theorem tab_n111 : enters Try.prog 111 = true := by kernel_rfl
@[simp] theorem tab_n112 : enters Try.prog 112 = true := by kernel_rfl
@[simp] theorem tab_n113 : enters Try.prog 113 = true := by kernel_rfl
@[simp] theorem tab_n114 : enters Try.prog 114 = true := by kernel_rfl
@[simp] theorem tab_n115 : enters Try.prog 115 = true := by kernel_rfl
@[simp] theorem tab_n116 : enters Try.prog 116 = true := by kernel_rfl
@[simp] theorem tab_n117 : enters Try.prog 117 = true := by kernel_rfl
@[simp] theorem tab_n118 : enters Try.prog 118 = true := by kernel_rfl
@[simp] theorem tab_n119 : enters Try.prog 119 = true := by kernel_rfl
@[simp] theorem tab_n120 : enters Try.prog 120 = true := by kernel_rfl
@[simp] theorem tab_n121 : enters Try.prog 121 = true := by kernel_rfl
@[simp] theorem tab_n122 : enters Try.prog 122 = true := by kernel_rfl
@[simp] theorem tab_n123 : enters Try.prog 123 = true := by kernel_rfl
@[simp] theorem tab_n124 : enters Try.prog 124 = true := by kernel_rfl
@[simp] theorem tab_n125 : enters Try.prog 125 = true := by kernel_rfl
@[simp] theorem tab_n127 : enters Try.prog 127 = true := by kernel_rfl
end Go.Proofs.Ytmhelkhmgbbfhaa

/- Scalars and lists of them as abstract values. -/
namespace Go.Proofs.Ytmhelkhmgbbfhaa
open Go.RowKit Go.Lib

abbrev AV.int (n : Int) : AV := .v (.int .i64 n)
abbrev AV.str (s : ByteArray) : AV := .v (.string s)
abbrev AV.bool (b : Bool) : AV := .v (.bool b)
@[simp] theorem AV.wid_ints (l : List Int) : AV.wid (l.map AV.int) 1 := AV.wid_map (f := AV.int) (fun _ => rfl) l
@[simp] theorem AV.wid_strs (l : List ByteArray) : AV.wid (l.map AV.str) 1 := AV.wid_map (f := AV.str) (fun _ => rfl) l
@[simp] theorem AV.wid_bools (l : List Bool) : AV.wid (l.map AV.bool) 1 := AV.wid_map (f := AV.bool) (fun _ => rfl) l
@[simp] theorem AV.wid_bytes (l : List UInt8) : AV.wid (l.map AV.byte) 1 := AV.wid_map (f := AV.byte) (fun _ => rfl) l
@[simp] theorem AV.elms_bytes (l : List UInt8) : AV.elms (l.map AV.byte) := AV.elms_map (f := AV.byte) (fun _ => rfl) l
@[simp] theorem AV.elms_ints (l : List Int) : AV.elms (l.map AV.int) := AV.elms_map (f := AV.int) (fun _ => rfl) l
@[simp] theorem AV.elms_strs (l : List ByteArray) : AV.elms (l.map AV.str) := AV.elms_map (f := AV.str) (fun _ => rfl) l
@[simp] theorem AV.elms_bools (l : List Bool) : AV.elms (l.map AV.bool) := AV.elms_map (f := AV.bool) (fun _ => rfl) l
@[simp] theorem AV.cls_append (m : Nat) (a b : List AV) : AV.cls m (a ++ b) ↔ AV.cls m a ∧ AV.cls m b := by
  rw [AV.cls_iff, AV.cls_iff, AV.cls_iff]
  exact ⟨fun h => ⟨fun y hy => h y (by simp [hy]), fun y hy => h y (by simp [hy])⟩, fun h y hy => (List.mem_append.1 hy).elim (h.1 y) (h.2 y)⟩
@[simp] theorem AV.cls_map {α : Type} {f : α → AV} {m : Nat} (h : ∀ a, (f a).cl m) (l : List α) : AV.cls m (l.map f) := by
  rw [AV.cls_iff]
  intro x hx
  obtain ⟨a, -, rfl⟩ := List.mem_map.1 hx
  exact h a
@[simp] theorem AV.cls_ints (l : List Int) (m : Nat) : AV.cls m (l.map AV.int) := AV.cls_map (fun _ => by simp) l
@[simp] theorem AV.cls_strs (l : List ByteArray) (m : Nat) : AV.cls m (l.map AV.str) := AV.cls_map (fun _ => by simp) l
@[simp] theorem AV.cls_bools (l : List Bool) (m : Nat) : AV.cls m (l.map AV.bool) := AV.cls_map (fun _ => by simp) l
@[simp] theorem AV.cls_bytes (l : List UInt8) (m : Nat) : AV.cls m (l.map AV.byte) := AV.cls_map (fun _ => by simp) l
end Go.Proofs.Ytmhelkhmgbbfhaa
