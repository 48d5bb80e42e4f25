/- Closed facts of the program: types, fields, functions. -/
import Derived.Test.YtinmkhgadekabaaDoorProg
import Derived.KernelRfl
import Derived.Test.YtinmkhgadekabaaDoorGa8
namespace Go.Proofs.YtinmkhgadekabaaDoor
open Go.RowKit Go.Lib

@[simp] theorem tab_t2 : tinfo Tryd.prog 2 = some (false, 1) := by kernel_rfl
@[simp] theorem tab_i2 : intk Tryd.prog 2 = some .i64 := by kernel_rfl
@[simp] theorem tab_x2 : zel Tryd.prog 2 = some (.v (.int .i64 0)) := by kernel_rfl
@[simp] theorem tab_t3 : tinfo Tryd.prog 3 = some (false, 1) := by kernel_rfl
@[simp] theorem tab_i3 : intk Tryd.prog 3 = some .i64 := by kernel_rfl
@[simp] theorem tab_x3 : zel Tryd.prog 3 = some (.v (.int .i64 0)) := by kernel_rfl
@[simp] theorem tab_z3 : zl Tryd.prog 3 = some [.v (.int .i64 0)] := by kernel_rfl
@[simp] theorem tab_t4 : tinfo Tryd.prog 4 = some (false, 1) := by kernel_rfl
@[simp] theorem tab_k4 : fkind Tryd.prog 4 = some 1 := by kernel_rfl
@[simp] theorem tab_x4 : zel Tryd.prog 4 = some (.v (.bool false)) := by kernel_rfl
@[simp] theorem tab_z4 : zl Tryd.prog 4 = some [.v (.bool false)] := by kernel_rfl
@[simp] theorem tab_t5 : tinfo Tryd.prog 5 = some (false, 1) := by kernel_rfl
@[simp] theorem tab_i5 : intk Tryd.prog 5 = some .u8 := by kernel_rfl
@[simp] theorem tab_x5 : zel Tryd.prog 5 = some (.v (.int .u8 0)) := by kernel_rfl
@[simp] theorem tab_z5 : zl Tryd.prog 5 = some [.v (.int .u8 0)] := by kernel_rfl
@[simp] theorem tab_t6 : tinfo Tryd.prog 6 = some (false, 1) := by kernel_rfl
@[simp] theorem tab_i6 : intk Tryd.prog 6 = some .u8 := by kernel_rfl
@[simp] theorem tab_x6 : zel Tryd.prog 6 = some (.v (.int .u8 0)) := by kernel_rfl
@[simp] theorem tab_z6 : zl Tryd.prog 6 = some [.v (.int .u8 0)] := by kernel_rfl
@[simp] theorem tab_t7 : tinfo Tryd.prog 7 = some (true, 4) := by kernel_rfl
@[simp] theorem tab_x7 : zel Tryd.prog 7 = some (.agg [.v (.int .i64 0), .v (.int .i64 0), .v (.bool false), .v (.int .u8 0)]) := by kernel_rfl
@[simp] theorem tab_z7 : zl Tryd.prog 7 = some [.v (.int .i64 0), .v (.int .i64 0), .v (.bool false), .v (.int .u8 0)] := by kernel_rfl
@[simp] theorem tab_t8 : tinfo Tryd.prog 8 = some (true, 4) := by kernel_rfl
@[simp] theorem tab_x8 : zel Tryd.prog 8 = some (.agg [.v (.int .i64 0), .v (.int .i64 0), .v (.bool false), .v (.int .u8 0)]) := by kernel_rfl
@[simp] theorem tab_z8 : zl Tryd.prog 8 = some [.v (.int .i64 0), .v (.int .i64 0), .v (.bool false), .v (.int .u8 0)] := by kernel_rfl
@[simp] theorem tab_t9 : tinfo Tryd.prog 9 = some (false, 1) := by kernel_rfl
@[simp] theorem tab_j9 : intk Tryd.prog 9 = none := by kernel_rfl
@[simp] theorem tab_x9 : zel Tryd.prog 9 = some (.v (.string ByteArray.empty)) := by kernel_rfl
@[simp] theorem tab_s9 : Tryd.prog.underlying 9 = some .string := by kernel_rfl
@[simp] theorem tab_z9 : zl Tryd.prog 9 = some [.v (.string ByteArray.empty)] := by kernel_rfl
@[simp] theorem tab_t10 : tinfo Tryd.prog 10 = some (false, 1) := by kernel_rfl
@[simp] theorem tab_j10 : intk Tryd.prog 10 = none := by kernel_rfl
@[simp] theorem tab_x10 : zel Tryd.prog 10 = some (.v (.string ByteArray.empty)) := by kernel_rfl
@[simp] theorem tab_s10 : Tryd.prog.underlying 10 = some .string := by kernel_rfl
@[simp] theorem tab_z10 : zl Tryd.prog 10 = some [.v (.string ByteArray.empty)] := by kernel_rfl
@[simp] theorem tab_t11 : tinfo Tryd.prog 11 = some (false, 1) := by kernel_rfl
@[simp] theorem tab_j11 : intk Tryd.prog 11 = none := by kernel_rfl
@[simp] theorem tab_x11 : zel Tryd.prog 11 = some (.v (.string ByteArray.empty)) := by kernel_rfl
@[simp] theorem tab_s11 : Tryd.prog.underlying 11 = some .string := by kernel_rfl
@[simp] theorem tab_z11 : zl Tryd.prog 11 = some [.v (.string ByteArray.empty)] := by kernel_rfl
@[simp] theorem tab_t12 : tinfo Tryd.prog 12 = some (false, 1) := by kernel_rfl
@[simp] theorem tab_i12 : intk Tryd.prog 12 = some .u64 := by kernel_rfl
@[simp] theorem tab_x12 : zel Tryd.prog 12 = some (.v (.int .u64 0)) := by kernel_rfl
@[simp] theorem tab_z12 : zl Tryd.prog 12 = some [.v (.int .u64 0)] := by kernel_rfl
@[simp] theorem tab_t13 : tinfo Tryd.prog 13 = some (true, 2) := by kernel_rfl
@[simp] theorem tab_x13 : zel Tryd.prog 13 = some (.agg [.v (.string ByteArray.empty), .v (.int .u64 0)]) := by kernel_rfl
@[simp] theorem tab_z13 : zl Tryd.prog 13 = some [.v (.string ByteArray.empty), .v (.int .u64 0)] := by kernel_rfl
@[simp] theorem tab_t14 : tinfo Tryd.prog 14 = some (true, 2) := by kernel_rfl
@[simp] theorem tab_x14 : zel Tryd.prog 14 = some (.agg [.v (.string ByteArray.empty), .v (.int .u64 0)]) := by kernel_rfl
@[simp] theorem tab_z14 : zl Tryd.prog 14 = some [.v (.string ByteArray.empty), .v (.int .u64 0)] := by kernel_rfl
@[simp] theorem tab_t15 : tinfo Tryd.prog 15 = some (false, 1) := by kernel_rfl
@[simp] theorem tab_x15 : zel Tryd.prog 15 = some (.v (.pointer none)) := by kernel_rfl
@[simp] theorem tab_z15 : zl Tryd.prog 15 = some [.v (.pointer none)] := by kernel_rfl
@[simp] theorem tab_t16 : tinfo Tryd.prog 16 = some (false, 1) := by kernel_rfl
@[simp] theorem tab_x16 : zel Tryd.prog 16 = some (.v (.pointer none)) := by kernel_rfl
@[simp] theorem tab_z16 : zl Tryd.prog 16 = some [.v (.pointer none)] := by kernel_rfl
@[simp] theorem tab_t17 : tinfo Tryd.prog 17 = some (false, 1) := by kernel_rfl
@[simp] theorem tab_x17 : zel Tryd.prog 17 = some (.v (.pointer none)) := by kernel_rfl
@[simp] theorem tab_z17 : zl Tryd.prog 17 = some [.v (.pointer none)] := by kernel_rfl
@[simp] theorem tab_t18 : tinfo Tryd.prog 18 = some (true, 1) := by kernel_rfl
@[simp] theorem tab_x18 : zel Tryd.prog 18 = some (.agg [.v (.pointer none)]) := by kernel_rfl
@[simp] theorem tab_z18 : zl Tryd.prog 18 = some [.v (.pointer none)] := by kernel_rfl
@[simp] theorem tab_t19 : tinfo Tryd.prog 19 = some (true, 1) := by kernel_rfl
@[simp] theorem tab_x19 : zel Tryd.prog 19 = some (.agg [.v (.pointer none)]) := by kernel_rfl
@[simp] theorem tab_z19 : zl Tryd.prog 19 = some [.v (.pointer none)] := by kernel_rfl
@[simp] theorem tab_t20 : tinfo Tryd.prog 20 = some (false, 1) := by kernel_rfl
@[simp] theorem tab_x20 : zel Tryd.prog 20 = some (.v (.nilIface)) := by kernel_rfl
@[simp] theorem tab_t21 : tinfo Tryd.prog 21 = some (false, 1) := by kernel_rfl
@[simp] theorem tab_i21 : intk Tryd.prog 21 = some .i32 := by kernel_rfl
@[simp] theorem tab_x21 : zel Tryd.prog 21 = some (.v (.int .i32 0)) := by kernel_rfl
@[simp] theorem tab_z21 : zl Tryd.prog 21 = some [.v (.int .i32 0)] := by kernel_rfl
@[simp] theorem tab_t22 : tinfo Tryd.prog 22 = some (false, 1) := by kernel_rfl
@[simp] theorem tab_e22 : einfo Tryd.prog 22 = some 33 := by kernel_rfl
@[simp] theorem tab_v22 : vinfo Tryd.prog 22 = some (33, 3, 40) := by kernel_rfl
@[simp] theorem tab_j22 : intk Tryd.prog 22 = none := by kernel_rfl
@[simp] theorem tab_x22 : zel Tryd.prog 22 = some (.v (.slice none 0 0)) := by kernel_rfl
@[simp] theorem tab_z22 : zl Tryd.prog 22 = some [.v (.slice none 0 0)] := by kernel_rfl
@[simp] theorem tab_t32 : tinfo Tryd.prog 32 = some (true, 3) := by kernel_rfl
@[simp] theorem tab_x32 : zel Tryd.prog 32 = some (.agg [.v (.string ByteArray.empty), .v (.int .i64 0), .v (.string ByteArray.empty)]) := by kernel_rfl
@[simp] theorem tab_z32 : zl Tryd.prog 32 = some [.v (.string ByteArray.empty), .v (.int .i64 0), .v (.string ByteArray.empty)] := by kernel_rfl
@[simp] theorem tab_b32 : binfo Tryd.prog 32 = some [(0, 1), (1, 1), (2, 1)] := by kernel_rfl
@[simp] theorem tab_f32_0 : finfo Tryd.prog 32 0 = some (0, 9) := by kernel_rfl
@[simp] theorem tab_f32_1 : finfo Tryd.prog 32 1 = some (1, 3) := by kernel_rfl
@[simp] theorem tab_f32_2 : finfo Tryd.prog 32 2 = some (2, 9) := by kernel_rfl
@[simp] theorem tab_t33 : tinfo Tryd.prog 33 = some (true, 3) := by kernel_rfl
@[simp] theorem tab_x33 : zel Tryd.prog 33 = some (.agg [.v (.string ByteArray.empty), .v (.int .i64 0), .v (.string ByteArray.empty)]) := by kernel_rfl
@[simp] theorem tab_z33 : zl Tryd.prog 33 = some [.v (.string ByteArray.empty), .v (.int .i64 0), .v (.string ByteArray.empty)] := by kernel_rfl
@[simp] theorem tab_b33 : binfo Tryd.prog 33 = some [(0, 1), (1, 1), (2, 1)] := by kernel_rfl
@[simp] theorem tab_f33_0 : finfo Tryd.prog 33 0 = some (0, 9) := by kernel_rfl
@[simp] theorem tab_f33_1 : finfo Tryd.prog 33 1 = some (1, 3) := by kernel_rfl
@[simp] theorem tab_f33_2 : finfo Tryd.prog 33 2 = some (2, 9) := by kernel_rfl
@[simp] theorem tab_t39 : tinfo Tryd.prog 39 = some (false, 1) := by kernel_rfl
@[simp] theorem tab_e39 : einfo Tryd.prog 39 = some 46 := by kernel_rfl
@[simp] theorem tab_v39 : vinfo Tryd.prog 39 = some (46, 3, 32) := by kernel_rfl
@[simp] theorem tab_j39 : intk Tryd.prog 39 = none := by kernel_rfl
@[simp] theorem tab_x39 : zel Tryd.prog 39 = some (.v (.slice none 0 0)) := by kernel_rfl
@[simp] theorem tab_z39 : zl Tryd.prog 39 = some [.v (.slice none 0 0)] := by kernel_rfl
@[simp] theorem tab_t45 : tinfo Tryd.prog 45 = some (true, 3) := by kernel_rfl
@[simp] theorem tab_x45 : zel Tryd.prog 45 = some (.agg [.v (.int .i64 0), .v (.int .i64 0), .v (.string ByteArray.empty)]) := by kernel_rfl
@[simp] theorem tab_z45 : zl Tryd.prog 45 = some [.v (.int .i64 0), .v (.int .i64 0), .v (.string ByteArray.empty)] := by kernel_rfl
@[simp] theorem tab_b45 : binfo Tryd.prog 45 = some [(0, 1), (1, 1), (2, 1)] := by kernel_rfl
@[simp] theorem tab_f45_0 : finfo Tryd.prog 45 0 = some (0, 3) := by kernel_rfl
@[simp] theorem tab_f45_1 : finfo Tryd.prog 45 1 = some (1, 3) := by kernel_rfl
@[simp] theorem tab_f45_2 : finfo Tryd.prog 45 2 = some (2, 9) := by kernel_rfl
@[simp] theorem tab_t46 : tinfo Tryd.prog 46 = some (true, 3) := by kernel_rfl
@[simp] theorem tab_x46 : zel Tryd.prog 46 = some (.agg [.v (.int .i64 0), .v (.int .i64 0), .v (.string ByteArray.empty)]) := by kernel_rfl
@[simp] theorem tab_z46 : zl Tryd.prog 46 = some [.v (.int .i64 0), .v (.int .i64 0), .v (.string ByteArray.empty)] := by kernel_rfl
@[simp] theorem tab_b46 : binfo Tryd.prog 46 = some [(0, 1), (1, 1), (2, 1)] := by kernel_rfl
@[simp] theorem tab_f46_0 : finfo Tryd.prog 46 0 = some (0, 3) := by kernel_rfl
@[simp] theorem tab_f46_1 : finfo Tryd.prog 46 1 = some (1, 3) := by kernel_rfl
@[simp] theorem tab_f46_2 : finfo Tryd.prog 46 2 = some (2, 9) := by kernel_rfl
@[simp] theorem tab_t49 : tinfo Tryd.prog 49 = some (false, 1) := by kernel_rfl
@[simp] theorem tab_e49 : einfo Tryd.prog 49 = some 9 := by kernel_rfl
@[simp] theorem tab_v49 : vinfo Tryd.prog 49 = some (9, 1, 16) := by kernel_rfl
@[simp] theorem tab_j49 : intk Tryd.prog 49 = none := by kernel_rfl
@[simp] theorem tab_x49 : zel Tryd.prog 49 = some (.v (.slice none 0 0)) := by kernel_rfl
@[simp] theorem tab_z49 : zl Tryd.prog 49 = some [.v (.slice none 0 0)] := by kernel_rfl
@[simp] theorem tab_t60 : tinfo Tryd.prog 60 = some (false, 1) := by kernel_rfl
@[simp] theorem tab_e60 : einfo Tryd.prog 60 = some 5 := by kernel_rfl
@[simp] theorem tab_v60 : vinfo Tryd.prog 60 = some (5, 1, 1) := by kernel_rfl
@[simp] theorem tab_j60 : intk Tryd.prog 60 = none := by kernel_rfl
@[simp] theorem tab_x60 : zel Tryd.prog 60 = some (.v (.slice none 0 0)) := by kernel_rfl
@[simp] theorem tab_z60 : zl Tryd.prog 60 = some [.v (.slice none 0 0)] := by kernel_rfl
@[simp] theorem tab_t64 : tinfo Tryd.prog 64 = some (false, 1) := by kernel_rfl
@[simp] theorem tab_x64 : zel Tryd.prog 64 = some (.v (.pointer none)) := by kernel_rfl
@[simp] theorem tab_z64 : zl Tryd.prog 64 = some [.v (.pointer none)] := by kernel_rfl
@[simp] theorem tab_t65 : tinfo Tryd.prog 65 = some (true, 2) := by kernel_rfl
@[simp] theorem tab_x65 : zel Tryd.prog 65 = some (.agg [.v (.pointer none), .v (.slice none 0 0)]) := by kernel_rfl
@[simp] theorem tab_z65 : zl Tryd.prog 65 = some [.v (.pointer none), .v (.slice none 0 0)] := by kernel_rfl
@[simp] theorem tab_b65 : binfo Tryd.prog 65 = some [(0, 1), (1, 1)] := by kernel_rfl
@[simp] theorem tab_f65_0 : finfo Tryd.prog 65 0 = some (0, 64) := by kernel_rfl
@[simp] theorem tab_f65_1 : finfo Tryd.prog 65 1 = some (1, 60) := by kernel_rfl
@[simp] theorem tab_t66 : tinfo Tryd.prog 66 = some (true, 2) := by kernel_rfl
@[simp] theorem tab_x66 : zel Tryd.prog 66 = some (.agg [.v (.pointer none), .v (.slice none 0 0)]) := by kernel_rfl
@[simp] theorem tab_z66 : zl Tryd.prog 66 = some [.v (.pointer none), .v (.slice none 0 0)] := by kernel_rfl
@[simp] theorem tab_b66 : binfo Tryd.prog 66 = some [(0, 1), (1, 1)] := by kernel_rfl
@[simp] theorem tab_f66_0 : finfo Tryd.prog 66 0 = some (0, 64) := by kernel_rfl
@[simp] theorem tab_f66_1 : finfo Tryd.prog 66 1 = some (1, 60) := by kernel_rfl
@[simp] theorem tab_t68 : tinfo Tryd.prog 68 = some (false, 1) := by kernel_rfl
@[simp] theorem tab_x68 : zel Tryd.prog 68 = some (.v (.nilIface)) := by kernel_rfl
@[simp] theorem tab_t69 : tinfo Tryd.prog 69 = some (false, 1) := by kernel_rfl
@[simp] theorem tab_x69 : zel Tryd.prog 69 = some (.v (.nilIface)) := by kernel_rfl
@[simp] theorem tab_t79 : tinfo Tryd.prog 79 = some (false, 1) := by kernel_rfl
@[simp] theorem tab_x79 : zel Tryd.prog 79 = some (.v (.pointer none)) := by kernel_rfl
@[simp] theorem tab_z79 : zl Tryd.prog 79 = some [.v (.pointer none)] := by kernel_rfl
@[simp] theorem tab_t85 : tinfo Tryd.prog 85 = some (false, 1) := by kernel_rfl
@[simp] theorem tab_x85 : zel Tryd.prog 85 = some (.v (.pointer none)) := by kernel_rfl
@[simp] theorem tab_t93 : tinfo Tryd.prog 93 = some (false, 1) := by kernel_rfl
@[simp] theorem tab_i93 : intk Tryd.prog 93 = some .u64 := by kernel_rfl
@[simp] theorem tab_x93 : zel Tryd.prog 93 = some (.v (.int .u64 0)) := by kernel_rfl
@[simp] theorem tab_z93 : zl Tryd.prog 93 = some [.v (.int .u64 0)] := by kernel_rfl
@[simp] theorem tab_t94 : tinfo Tryd.prog 94 = some (true, 256) := by kernel_rfl
@[simp] theorem tab_x94 : zel Tryd.prog 94 = some (.agg [.v (.int .u8 0), .v (.int .u8 0), .v (.int .u8 0), .v (.int .u8 0), .v (.int .u8 0), .v (.int .u8 0), .v (.int .u8 0), .v (.int .u8 0), .v (.int .u8 0), .v (.int .u8 0), .v (.int .u8 0), .v (.int .u8 0), .v (.int .u8 0), .v (.int .u8 0), .v (.int .u8 0), .v (.int .u8 0), .v (.int .u8 0), .v (.int .u8 0), .v (.int .u8 0), .v (.int .u8 0), .v (.int .u8 0), .v (.int .u8 0), .v (.int .u8 0), .v (.int .u8 0), .v (.int .u8 0), .v (.int .u8 0), .v (.int .u8 0), .v (.int .u8 0), .v (.int .u8 0), .v (.int .u8 0), .v (.int .u8 0), .v (.int .u8 0), .v (.int .u8 0), .v (.int .u8 0), .v (.int .u8 0), .v (.int .u8 0), .v (.int .u8 0), .v (.int .u8 0), .v (.int .u8 0), .v (.int .u8 0), .v (.int .u8 0), .v (.int .u8 0), .v (.int .u8 0), .v (.int .u8 0), .v (.int .u8 0), .v (.int .u8 0), .v (.int .u8 0), .v (.int .u8 0), .v (.int .u8 0), .v (.int .u8 0), .v (.int .u8 0), .v (.int .u8 0), .v (.int .u8 0), .v (.int .u8 0), .v (.int .u8 0), .v (.int .u8 0), .v (.int .u8 0), .v (.int .u8 0), .v (.int .u8 0), .v (.int .u8 0), .v (.int .u8 0), .v (.int .u8 0), .v (.int .u8 0), .v (.int .u8 0), .v (.int .u8 0), .v (.int .u8 0), .v (.int .u8 0), .v (.int .u8 0), .v (.int .u8 0), .v (.int .u8 0), .v (.int .u8 0), .v (.int .u8 0), .v (.int .u8 0), .v (.int .u8 0), .v (.int .u8 0), .v (.int .u8 0), .v (.int .u8 0), .v (.int .u8 0), .v (.int .u8 0), .v (.int .u8 0), .v (.int .u8 0), .v (.int .u8 0), .v (.int .u8 0), .v (.int .u8 0), .v (.int .u8 0), .v (.int .u8 0), .v (.int .u8 0), .v (.int .u8 0), .v (.int .u8 0), .v (.int .u8 0), .v (.int .u8 0), .v (.int .u8 0), .v (.int .u8 0), .v (.int .u8 0), .v (.int .u8 0), .v (.int .u8 0), .v (.int .u8 0), .v (.int .u8 0), .v (.int .u8 0), .v (.int .u8 0), .v (.int .u8 0), .v (.int .u8 0), .v (.int .u8 0), .v (.int .u8 0), .v (.int .u8 0), .v (.int .u8 0), .v (.int .u8 0), .v (.int .u8 0), .v (.int .u8 0), .v (.int .u8 0), .v (.int .u8 0), .v (.int .u8 0), .v (.int .u8 0), .v (.int .u8 0), .v (.int .u8 0), .v (.int .u8 0), .v (.int .u8 0), .v (.int .u8 0), .v (.int .u8 0), .v (.int .u8 0), .v (.int .u8 0), .v (.int .u8 0), .v (.int .u8 0), .v (.int .u8 0), .v (.int .u8 0), .v (.int .u8 0), .v (.int .u8 0), .v (.int .u8 0), .v (.int .u8 0), .v (.int .u8 0), .v (.int .u8 0), .v (.int .u8 0), .v (.int .u8 0), .v (.int .u8 0), .v (.int .u8 0), .v (.int .u8 0), .v (.int .u8 0), .v (.int .u8 0), .v (.int .u8 0), .v (.int .u8 0), .v (.int .u8 0), .v (.int .u8 0), .v (.int .u8 0), .v (.int .u8 0), .v (.int .u8 0), .v (.int .u8 0), .v (.int .u8 0), .v (.int .u8 0), .v (.int .u8 0), .v (.int .u8 0), .v (.int .u8 0), .v (.int .u8 0), .v (.int .u8 0), .v (.int .u8 0), .v (.int .u8 0), .v (.int .u8 0), .v (.int .u8 0), .v (.int .u8 0), .v (.int .u8 0), .v (.int .u8 0), .v (.int .u8 0), .v (.int .u8 0), .v (.int .u8 0), .v (.int .u8 0), .v (.int .u8 0), .v (.int .u8 0), .v (.int .u8 0), .v (.int .u8 0), .v (.int .u8 0), .v (.int .u8 0), .v (.int .u8 0), .v (.int .u8 0), .v (.int .u8 0), .v (.int .u8 0), .v (.int .u8 0), .v (.int .u8 0), .v (.int .u8 0), .v (.int .u8 0), .v (.int .u8 0), .v (.int .u8 0), .v (.int .u8 0), .v (.int .u8 0), .v (.int .u8 0), .v (.int .u8 0), .v (.int .u8 0), .v (.int .u8 0), .v (.int .u8 0), .v (.int .u8 0), .v (.int .u8 0), .v (.int .u8 0), .v (.int .u8 0), .v (.int .u8 0), .v (.int .u8 0), .v (.int .u8 0), .v (.int .u8 0), .v (.int .u8 0), .v (.int .u8 0), .v (.int .u8 0), .v (.int .u8 0), .v (.int .u8 0), .v (.int .u8 0), .v (.int .u8 0), .v (.int .u8 0), .v (.int .u8 0), .v (.int .u8 0), .v (.int .u8 0), .v (.int .u8 0), .v (.int .u8 0), .v (.int .u8 0), .v (.int .u8 0), .v (.int .u8 0), .v (.int .u8 0), .v (.int .u8 0), .v (.int .u8 0), .v (.int .u8 0), .v (.int .u8 0), .v (.int .u8 0), .v (.int .u8 0), .v (.int .u8 0), .v (.int .u8 0), .v (.int .u8 0), .v (.int .u8 0), .v (.int .u8 0), .v (.int .u8 0), .v (.int .u8 0), .v (.int .u8 0), .v (.int .u8 0), .v (.int .u8 0), .v (.int .u8 0), .v (.int .u8 0), .v (.int .u8 0), .v (.int .u8 0), .v (.int .u8 0), .v (.int .u8 0), .v (.int .u8 0), .v (.int .u8 0), .v (.int .u8 0), .v (.int .u8 0), .v (.int .u8 0), .v (.int .u8 0), .v (.int .u8 0), .v (.int .u8 0), .v (.int .u8 0), .v (.int .u8 0), .v (.int .u8 0), .v (.int .u8 0), .v (.int .u8 0), .v (.int .u8 0), .v (.int .u8 0), .v (.int .u8 0), .v (.int .u8 0), .v (.int .u8 0), .v (.int .u8 0), .v (.int .u8 0), .v (.int .u8 0), .v (.int .u8 0)]) := by kernel_rfl
@[simp] theorem tab_t95 : tinfo Tryd.prog 95 = some (true, 2) := by kernel_rfl
@[simp] theorem tab_x95 : zel Tryd.prog 95 = some (.agg [.v (.int .u8 0), .v (.int .u8 0)]) := by kernel_rfl
@[simp] theorem tab_z95 : zl Tryd.prog 95 = some [.v (.int .u8 0), .v (.int .u8 0)] := by kernel_rfl
@[simp] theorem tab_b95 : binfo Tryd.prog 95 = some [(0, 1), (1, 1)] := by kernel_rfl
@[simp] theorem tab_f95_0 : finfo Tryd.prog 95 0 = some (0, 5) := by kernel_rfl
@[simp] theorem tab_f95_1 : finfo Tryd.prog 95 1 = some (1, 5) := by kernel_rfl
@[simp] theorem tab_t96 : tinfo Tryd.prog 96 = some (true, 2) := by kernel_rfl
@[simp] theorem tab_x96 : zel Tryd.prog 96 = some (.agg [.v (.int .u8 0), .v (.int .u8 0)]) := by kernel_rfl
@[simp] theorem tab_z96 : zl Tryd.prog 96 = some [.v (.int .u8 0), .v (.int .u8 0)] := by kernel_rfl
@[simp] theorem tab_b96 : binfo Tryd.prog 96 = some [(0, 1), (1, 1)] := by kernel_rfl
@[simp] theorem tab_f96_0 : finfo Tryd.prog 96 0 = some (0, 5) := by kernel_rfl
@[simp] theorem tab_f96_1 : finfo Tryd.prog 96 1 = some (1, 5) := by kernel_rfl
@[simp] theorem tab_t97 : tinfo Tryd.prog 97 = some (true, 32) := by kernel_rfl
@[simp] theorem tab_x97 : zel Tryd.prog 97 = some (.agg [.v (.int .u8 0), .v (.int .u8 0), .v (.int .u8 0), .v (.int .u8 0), .v (.int .u8 0), .v (.int .u8 0), .v (.int .u8 0), .v (.int .u8 0), .v (.int .u8 0), .v (.int .u8 0), .v (.int .u8 0), .v (.int .u8 0), .v (.int .u8 0), .v (.int .u8 0), .v (.int .u8 0), .v (.int .u8 0), .v (.int .u8 0), .v (.int .u8 0), .v (.int .u8 0), .v (.int .u8 0), .v (.int .u8 0), .v (.int .u8 0), .v (.int .u8 0), .v (.int .u8 0), .v (.int .u8 0), .v (.int .u8 0), .v (.int .u8 0), .v (.int .u8 0), .v (.int .u8 0), .v (.int .u8 0), .v (.int .u8 0), .v (.int .u8 0)]) := by kernel_rfl
@[simp] theorem tab_t98 : tinfo Tryd.prog 98 = some (false, 1) := by kernel_rfl
@[simp] theorem tab_i98 : intk Tryd.prog 98 = some .u32 := by kernel_rfl
@[simp] theorem tab_x98 : zel Tryd.prog 98 = some (.v (.int .u32 0)) := by kernel_rfl
@[simp] theorem tab_z98 : zl Tryd.prog 98 = some [.v (.int .u32 0)] := by kernel_rfl
@[simp] theorem tab_t101 : tinfo Tryd.prog 101 = some (true, 4) := by kernel_rfl
@[simp] theorem tab_x101 : zel Tryd.prog 101 = some (.agg [.v (.pointer none), .v (.pointer none), .v (.pointer none), .v (.string ByteArray.empty)]) := by kernel_rfl
@[simp] theorem tab_z101 : zl Tryd.prog 101 = some [.v (.pointer none), .v (.pointer none), .v (.pointer none), .v (.string ByteArray.empty)] := by kernel_rfl
@[simp] theorem tab_b101 : binfo Tryd.prog 101 = some [(0, 1), (1, 1), (2, 1), (3, 1)] := by kernel_rfl
@[simp] theorem tab_f101_0 : finfo Tryd.prog 101 0 = some (0, 17) := by kernel_rfl
@[simp] theorem tab_f101_1 : finfo Tryd.prog 101 1 = some (1, 17) := by kernel_rfl
@[simp] theorem tab_f101_2 : finfo Tryd.prog 101 2 = some (2, 17) := by kernel_rfl
@[simp] theorem tab_f101_3 : finfo Tryd.prog 101 3 = some (3, 9) := by kernel_rfl
@[simp] theorem tab_t102 : tinfo Tryd.prog 102 = some (true, 4) := by kernel_rfl
@[simp] theorem tab_x102 : zel Tryd.prog 102 = some (.agg [.v (.pointer none), .v (.pointer none), .v (.pointer none), .v (.string ByteArray.empty)]) := by kernel_rfl
@[simp] theorem tab_z102 : zl Tryd.prog 102 = some [.v (.pointer none), .v (.pointer none), .v (.pointer none), .v (.string ByteArray.empty)] := by kernel_rfl
@[simp] theorem tab_b102 : binfo Tryd.prog 102 = some [(0, 1), (1, 1), (2, 1), (3, 1)] := by kernel_rfl
@[simp] theorem tab_f102_0 : finfo Tryd.prog 102 0 = some (0, 17) := by kernel_rfl
@[simp] theorem tab_f102_1 : finfo Tryd.prog 102 1 = some (1, 17) := by kernel_rfl
@[simp] theorem tab_f102_2 : finfo Tryd.prog 102 2 = some (2, 17) := by kernel_rfl
@[simp] theorem tab_f102_3 : finfo Tryd.prog 102 3 = some (3, 9) := by kernel_rfl
@[simp] theorem tab_t103 : tinfo Tryd.prog 103 = some (true, 0) := by kernel_rfl
@[simp] theorem tab_t104 : tinfo Tryd.prog 104 = some (true, 0) := by kernel_rfl
@[simp] theorem tab_z104 : zl Tryd.prog 104 = some [] := by kernel_rfl
@[simp] theorem tab_b104 : binfo Tryd.prog 104 = some [(0, 0)] := by kernel_rfl
@[simp] theorem tab_f104_0 : finfo Tryd.prog 104 0 = some (0, 103) := by kernel_rfl
@[simp] theorem tab_t105 : tinfo Tryd.prog 105 = some (true, 0) := by kernel_rfl
@[simp] theorem tab_z105 : zl Tryd.prog 105 = some [] := by kernel_rfl
@[simp] theorem tab_b105 : binfo Tryd.prog 105 = some [(0, 0)] := by kernel_rfl
@[simp] theorem tab_f105_0 : finfo Tryd.prog 105 0 = some (0, 103) := by kernel_rfl
@[simp] theorem tab_t107 : tinfo Tryd.prog 107 = some (false, 1) := by kernel_rfl
@[simp] theorem tab_i107 : intk Tryd.prog 107 = some .u8 := by kernel_rfl
@[simp] theorem tab_x107 : zel Tryd.prog 107 = some (.v (.int .u8 0)) := by kernel_rfl
@[simp] theorem tab_z107 : zl Tryd.prog 107 = some [.v (.int .u8 0)] := by kernel_rfl
@[simp] theorem tab_t108 : tinfo Tryd.prog 108 = some (false, 1) := by kernel_rfl
@[simp] theorem tab_i108 : intk Tryd.prog 108 = some .u8 := by kernel_rfl
@[simp] theorem tab_x108 : zel Tryd.prog 108 = some (.v (.int .u8 0)) := by kernel_rfl
@[simp] theorem tab_z108 : zl Tryd.prog 108 = some [.v (.int .u8 0)] := by kernel_rfl
@[simp] theorem tab_t110 : tinfo Tryd.prog 110 = some (false, 1) := by kernel_rfl
@[simp] theorem tab_i110 : intk Tryd.prog 110 = some .i32 := by kernel_rfl
@[simp] theorem tab_x110 : zel Tryd.prog 110 = some (.v (.int .i32 0)) := by kernel_rfl
@[simp] theorem tab_z110 : zl Tryd.prog 110 = some [.v (.int .i32 0)] := by kernel_rfl
@[simp] theorem tab_t111 : tinfo Tryd.prog 111 = some (false, 1) := by kernel_rfl
@[simp] theorem tab_i111 : intk Tryd.prog 111 = some .i32 := by kernel_rfl
@[simp] theorem tab_x111 : zel Tryd.prog 111 = some (.v (.int .i32 0)) := by kernel_rfl
@[simp] theorem tab_z111 : zl Tryd.prog 111 = some [.v (.int .i32 0)] := by kernel_rfl
@[simp] theorem tab_t112 : tinfo Tryd.prog 112 = some (true, 11) := by kernel_rfl
@[simp] theorem tab_x112 : zel Tryd.prog 112 = some (.agg [.v (.int .u64 0), .v (.int .u64 0), .v (.int .u32 0), .v (.int .u8 0), .v (.int .u8 0), .v (.int .u8 0), .v (.int .u8 0), .v (.nilFunc), .v (.pointer none), .v (.int .i32 0), .v (.int .i32 0)]) := by kernel_rfl
@[simp] theorem tab_z112 : zl Tryd.prog 112 = some [.v (.int .u64 0), .v (.int .u64 0), .v (.int .u32 0), .v (.int .u8 0), .v (.int .u8 0), .v (.int .u8 0), .v (.int .u8 0), .v (.nilFunc), .v (.pointer none), .v (.int .i32 0), .v (.int .i32 0)] := by kernel_rfl
@[simp] theorem tab_b112 : binfo Tryd.prog 112 = some [(0, 1), (1, 1), (2, 1), (3, 1), (4, 1), (5, 1), (6, 1), (7, 1), (8, 1), (9, 1), (10, 1)] := by kernel_rfl
@[simp] theorem tab_f112_0 : finfo Tryd.prog 112 0 = some (0, 12) := by kernel_rfl
@[simp] theorem tab_f112_1 : finfo Tryd.prog 112 1 = some (1, 12) := by kernel_rfl
@[simp] theorem tab_f112_2 : finfo Tryd.prog 112 2 = some (2, 98) := by kernel_rfl
@[simp] theorem tab_f112_3 : finfo Tryd.prog 112 3 = some (3, 107) := by kernel_rfl
@[simp] theorem tab_f112_4 : finfo Tryd.prog 112 4 = some (4, 5) := by kernel_rfl
@[simp] theorem tab_f112_5 : finfo Tryd.prog 112 5 = some (5, 5) := by kernel_rfl
@[simp] theorem tab_f112_6 : finfo Tryd.prog 112 6 = some (6, 108) := by kernel_rfl
@[simp] theorem tab_f112_7 : finfo Tryd.prog 112 7 = some (7, 109) := by kernel_rfl
@[simp] theorem tab_f112_8 : finfo Tryd.prog 112 8 = some (8, 79) := by kernel_rfl
@[simp] theorem tab_f112_9 : finfo Tryd.prog 112 9 = some (9, 110) := by kernel_rfl
@[simp] theorem tab_f112_10 : finfo Tryd.prog 112 10 = some (10, 111) := by kernel_rfl
@[simp] theorem tab_t113 : tinfo Tryd.prog 113 = some (true, 11) := by kernel_rfl
@[simp] theorem tab_x113 : zel Tryd.prog 113 = some (.agg [.v (.int .u64 0), .v (.int .u64 0), .v (.int .u32 0), .v (.int .u8 0), .v (.int .u8 0), .v (.int .u8 0), .v (.int .u8 0), .v (.nilFunc), .v (.pointer none), .v (.int .i32 0), .v (.int .i32 0)]) := by kernel_rfl
@[simp] theorem tab_z113 : zl Tryd.prog 113 = some [.v (.int .u64 0), .v (.int .u64 0), .v (.int .u32 0), .v (.int .u8 0), .v (.int .u8 0), .v (.int .u8 0), .v (.int .u8 0), .v (.nilFunc), .v (.pointer none), .v (.int .i32 0), .v (.int .i32 0)] := by kernel_rfl
@[simp] theorem tab_b113 : binfo Tryd.prog 113 = some [(0, 1), (1, 1), (2, 1), (3, 1), (4, 1), (5, 1), (6, 1), (7, 1), (8, 1), (9, 1), (10, 1)] := by kernel_rfl
@[simp] theorem tab_f113_0 : finfo Tryd.prog 113 0 = some (0, 12) := by kernel_rfl
@[simp] theorem tab_f113_1 : finfo Tryd.prog 113 1 = some (1, 12) := by kernel_rfl
@[simp] theorem tab_f113_2 : finfo Tryd.prog 113 2 = some (2, 98) := by kernel_rfl
@[simp] theorem tab_f113_3 : finfo Tryd.prog 113 3 = some (3, 107) := by kernel_rfl
@[simp] theorem tab_f113_4 : finfo Tryd.prog 113 4 = some (4, 5) := by kernel_rfl
@[simp] theorem tab_f113_5 : finfo Tryd.prog 113 5 = some (5, 5) := by kernel_rfl
@[simp] theorem tab_f113_6 : finfo Tryd.prog 113 6 = some (6, 108) := by kernel_rfl
@[simp] theorem tab_f113_7 : finfo Tryd.prog 113 7 = some (7, 109) := by kernel_rfl
@[simp] theorem tab_f113_8 : finfo Tryd.prog 113 8 = some (8, 79) := by kernel_rfl
@[simp] theorem tab_f113_9 : finfo Tryd.prog 113 9 = some (9, 110) := by kernel_rfl
@[simp] theorem tab_f113_10 : finfo Tryd.prog 113 10 = some (10, 111) := by kernel_rfl
@[simp] theorem tab_n2 : enters Tryd.prog 2 = true := by kernel_rfl
@[simp] theorem tab_n3 : enters Tryd.prog 3 = true := by kernel_rfl
@[simp] theorem tab_n4 : enters Tryd.prog 4 = true := by kernel_rfl
@[simp] theorem tab_n5 : enters Tryd.prog 5 = true := by kernel_rfl
@[simp] theorem tab_n6 : enters Tryd.prog 6 = true := by kernel_rfl
@[simp] theorem tab_n7 : enters Tryd.prog 7 = true := by kernel_rfl
@[simp] theorem tab_n8 : enters Tryd.prog 8 = true := by kernel_rfl
@[simp] theorem tab_n9 : enters Tryd.prog 9 = true := by kernel_rfl
@[simp] theorem tab_n10 : enters Tryd.prog 10 = true := by kernel_rfl
@[simp] theorem tab_n11 : enters Tryd.prog 11 = true := by kernel_rfl
@[simp] theorem tab_n12 : enters Tryd.prog 12 = true := by kernel_rfl
@[simp] theorem tab_n13 : enters Tryd.prog 13 = true := by kernel_rfl
@[simp] theorem tab_n14 : enters Tryd.prog 14 = true := by kernel_rfl
@[simp] theorem tab_n15 : enters Tryd.prog 15 = true := by kernel_rfl
@[simp] theorem tab_n16 : enters Tryd.prog 16 = true := by kernel_rfl
@[simp] theorem tab_n17 : enters Tryd.prog 17 = true := by kernel_rfl
@[simp] theorem tab_n18 : enters Tryd.prog 18 = true := by kernel_rfl
@[simp] theorem tab_n19 : enters Tryd.prog 19 = true := by kernel_rfl
@[simp] theorem tab_n20 : enters Tryd.prog 20 = true := by kernel_rfl
@[simp] theorem tab_n21 : enters Tryd.prog 21 = true := by kernel_rfl
@[simp] theorem tab_n22 : enters Tryd.prog 22 = true := by kernel_rfl
@[simp] theorem tab_n23 : enters Tryd.prog 23 = true := by kernel_rfl
@[simp] theorem tab_n24 : enters Tryd.prog 24 = true := by kernel_rfl
@[simp] theorem tab_n25 : enters Tryd.prog 25 = true := by kernel_rfl
@[simp] theorem tab_n26 : enters Tryd.prog 26 = true := by kernel_rfl
@[simp] theorem tab_n27 : enters Tryd.prog 27 = true := by kernel_rfl
@[simp] theorem tab_n28 : enters Tryd.prog 28 = true := by kernel_rfl
@[simp] theorem tab_n29 : enters Tryd.prog 29 = true := by kernel_rfl
@[simp] theorem tab_n30 : enters Tryd.prog 30 = true := by kernel_rfl
@[simp] theorem tab_n31 : enters Tryd.prog 31 = true := by kernel_rfl
@[simp] theorem tab_n32 : enters Tryd.prog 32 = true := by kernel_rfl
@[simp] theorem tab_n33 : enters Tryd.prog 33 = true := by kernel_rfl
@[simp] theorem tab_n34 : enters Tryd.prog 34 = true := by kernel_rfl
@[simp] theorem tab_n35 : enters Tryd.prog 35 = true := by kernel_rfl
@[simp] theorem tab_n36 : enters Tryd.prog 36 = true := by kernel_rfl
@[simp] theorem tab_n37 : enters Tryd.prog 37 = true := by kernel_rfl
@[simp] theorem tab_n38 : enters Tryd.prog 38 = true := by kernel_rfl
@[simp] theorem tab_n39 : enters Tryd.prog 39 = true := by kernel_rfl
@[simp] theorem tab_n40 : enters Tryd.prog 40 = true := by kernel_rfl
@[simp] theorem tab_n41 : enters Tryd.prog 41 = true := by kernel_rfl
@[simp] theorem tab_n42 : enters Tryd.prog 42 = true := by kernel_rfl
@[simp] theorem tab_n43 : enters Tryd.prog 43 = true := by kernel_rfl
@[simp] theorem tab_n44 : enters Tryd.prog 44 = true := by kernel_rfl
@[simp] theorem tab_n45 : enters Tryd.prog 45 = true := by kernel_rfl
@[simp] theorem tab_n46 : enters Tryd.prog 46 = true := by kernel_rfl
@[simp] theorem tab_n47 : enters Tryd.prog 47 = true := by kernel_rfl
@[simp] theorem tab_n48 : enters Tryd.prog 48 = true := by kernel_rfl
@[simp] theorem tab_n49 : enters Tryd.prog 49 = true := by kernel_rfl
@[simp] theorem tab_n50 : enters Tryd.prog 50 = true := by kernel_rfl
@[simp] theorem tab_n51 : enters Tryd.prog 51 = true := by kernel_rfl
@[simp] theorem tab_n52 : enters Tryd.prog 52 = true := by kernel_rfl
@[simp] theorem tab_n53 : enters Tryd.prog 53 = true := by kernel_rfl
@[simp] theorem tab_n54 : enters Tryd.prog 54 = true := by kernel_rfl
@[simp] theorem tab_n55 : enters Tryd.prog 55 = true := by kernel_rfl
@[simp] theorem tab_n56 : enters Tryd.prog 56 = true := by kernel_rfl
@[simp] theorem tab_n57 : enters Tryd.prog 57 = true := by kernel_rfl
@[simp] theorem tab_n58 : enters Tryd.prog 58 = true := by kernel_rfl
@[simp] theorem tab_n59 : enters Tryd.prog 59 = true := by kernel_rfl
@[simp] theorem tab_n60 : enters Tryd.prog 60 = true := by kernel_rfl
@[simp] theorem tab_n61 : enters Tryd.prog 61 = true := by kernel_rfl
@[simp] theorem tab_n62 : enters Tryd.prog 62 = true := by kernel_rfl
@[simp] theorem tab_n63 : enters Tryd.prog 63 = true := by kernel_rfl
@[simp] theorem tab_n64 : enters Tryd.prog 64 = true := by kernel_rfl
@[simp] theorem tab_n65 : enters Tryd.prog 65 = true := by kernel_rfl
@[simp] theorem tab_n66 : enters Tryd.prog 66 = true := by kernel_rfl
@[simp] theorem tab_n67 : enters Tryd.prog 67 = true := by kernel_rfl
@[simp] theorem tab_n68 : enters Tryd.prog 68 = true := by kernel_rfl
@[simp] theorem tab_n71 : enters Tryd.prog 71 = true := by kernel_rfl
@[simp] theorem tab_n72 : enters Tryd.prog 72 = true := by kernel_rfl
@[simp] theorem tab_n74 : enters Tryd.prog 74 = true := by kernel_rfl
@[simp] theorem tab_n75 : enters Tryd.prog 75 = true := by kernel_rfl
@[simp] theorem tab_n76 : enters Tryd.prog 76 = true := by kernel_rfl
@[simp] theorem tab_n78 : enters Tryd.prog 78 = true := by kernel_rfl
@[simp] theorem tab_n79 : enters Tryd.prog 79 = true := by kernel_rfl
@[simp] theorem tab_n81 : enters Tryd.prog 81 = true := by kernel_rfl
@[simp] theorem tab_n103 : enters Tryd.prog 103 = true := by kernel_rfl
end Go.Proofs.YtinmkhgadekabaaDoor

/- Scalars and lists of them as abstract values. -/
namespace Go.Proofs.YtinmkhgadekabaaDoor
open Go.RowKit Go.Lib

abbrev AV.int (n : Int) : AV := .v (.int .i64 n)
abbrev AV.str (s : ByteArray) : AV := .v (.string s)
abbrev AV.bool (b : Bool) : AV := .v (.bool b)
@[simp] theorem AV.wid_ints (l : List Int) : AV.wid (l.map AV.int) 1 := AV.wid_map (f := AV.int) (fun _ => rfl) l
@[simp] theorem AV.wid_strs (l : List ByteArray) : AV.wid (l.map AV.str) 1 := AV.wid_map (f := AV.str) (fun _ => rfl) l
@[simp] theorem AV.wid_bools (l : List Bool) : AV.wid (l.map AV.bool) 1 := AV.wid_map (f := AV.bool) (fun _ => rfl) l
@[simp] theorem AV.wid_bytes (l : List UInt8) : AV.wid (l.map AV.byte) 1 := AV.wid_map (f := AV.byte) (fun _ => rfl) l
@[simp] theorem AV.elms_bytes (l : List UInt8) : AV.elms (l.map AV.byte) := AV.elms_map (f := AV.byte) (fun _ => rfl) l
@[simp] theorem AV.elms_ints (l : List Int) : AV.elms (l.map AV.int) := AV.elms_map (f := AV.int) (fun _ => rfl) l
@[simp] theorem AV.elms_strs (l : List ByteArray) : AV.elms (l.map AV.str) := AV.elms_map (f := AV.str) (fun _ => rfl) l
@[simp] theorem AV.elms_bools (l : List Bool) : AV.elms (l.map AV.bool) := AV.elms_map (f := AV.bool) (fun _ => rfl) l
@[simp] theorem AV.cls_append (m : Nat) (a b : List AV) : AV.cls m (a ++ b) ↔ AV.cls m a ∧ AV.cls m b := by
  rw [AV.cls_iff, AV.cls_iff, AV.cls_iff]
  exact ⟨fun h => ⟨fun y hy => h y (by simp [hy]), fun y hy => h y (by simp [hy])⟩, fun h y hy => (List.mem_append.1 hy).elim (h.1 y) (h.2 y)⟩
@[simp] theorem AV.cls_map {α : Type} {f : α → AV} {m : Nat} (h : ∀ a, (f a).cl m) (l : List α) : AV.cls m (l.map f) := by
  rw [AV.cls_iff]
  intro x hx
  obtain ⟨a, -, rfl⟩ := List.mem_map.1 hx
  exact h a
@[simp] theorem AV.cls_ints (l : List Int) (m : Nat) : AV.cls m (l.map AV.int) := AV.cls_map (fun _ => by simp) l
@[simp] theorem AV.cls_strs (l : List ByteArray) (m : Nat) : AV.cls m (l.map AV.str) := AV.cls_map (fun _ => by simp) l
@[simp] theorem AV.cls_bools (l : List Bool) (m : Nat) : AV.cls m (l.map AV.bool) := AV.cls_map (fun _ => by simp) l
@[simp] theorem AV.cls_bytes (l : List UInt8) (m : Nat) : AV.cls m (l.map AV.byte) := AV.cls_map (fun _ => by simp) l
end Go.Proofs.YtinmkhgadekabaaDoor
