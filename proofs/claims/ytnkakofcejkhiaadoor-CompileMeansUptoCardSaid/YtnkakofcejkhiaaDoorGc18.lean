/- Closed facts of the program: types, fields, functions. -/
import Derived.Test.YtnkakofcejkhiaaDoorProg
import Derived.KernelRfl
import Derived.Test.YtnkakofcejkhiaaDoorGc17
set_option linter.unusedSimpArgs false
set_option linter.unusedVariables false
namespace Go.Proofs.YtnkakofcejkhiaaDoor
open Go.RowKit Go.Lib
@[simp] theorem tab_c7 : tinfo Tryd.prog 2 = some (false, 1) ∧
  intk Tryd.prog 2 = some .i64 ∧
  zel Tryd.prog 2 = some (.v (.int .i64 0)) ∧
  tinfo Tryd.prog 3 = some (false, 1) ∧
  intk Tryd.prog 3 = some .i64 ∧
  zel Tryd.prog 3 = some (.v (.int .i64 0)) ∧
  zl Tryd.prog 3 = some [.v (.int .i64 0)] ∧
  tinfo Tryd.prog 4 = some (false, 1) ∧
  fkind Tryd.prog 4 = some 1 ∧
  zel Tryd.prog 4 = some (.v (.bool false)) ∧
  zl Tryd.prog 4 = some [.v (.bool false)] ∧
  tinfo Tryd.prog 5 = some (false, 1) ∧
  intk Tryd.prog 5 = some .u8 ∧
  zel Tryd.prog 5 = some (.v (.int .u8 0)) ∧
  zl Tryd.prog 5 = some [.v (.int .u8 0)] ∧
  tinfo Tryd.prog 6 = some (false, 1) ∧
  intk Tryd.prog 6 = some .u8 ∧
  zel Tryd.prog 6 = some (.v (.int .u8 0)) ∧
  zl Tryd.prog 6 = some [.v (.int .u8 0)] ∧
  tinfo Tryd.prog 7 = some (true, 4) := by
  and_intros <;> kernel_rfl
@[simp] theorem tab_c8 : zel Tryd.prog 7 = some (.agg [.v (.int .i64 0), .v (.int .i64 0), .v (.bool false), .v (.int .u8 0)]) ∧
  zl Tryd.prog 7 = some [.v (.int .i64 0), .v (.int .i64 0), .v (.bool false), .v (.int .u8 0)] ∧
  tinfo Tryd.prog 8 = some (true, 4) ∧
  zel Tryd.prog 8 = some (.agg [.v (.int .i64 0), .v (.int .i64 0), .v (.bool false), .v (.int .u8 0)]) ∧
  zl Tryd.prog 8 = some [.v (.int .i64 0), .v (.int .i64 0), .v (.bool false), .v (.int .u8 0)] ∧
  tinfo Tryd.prog 9 = some (false, 1) ∧
  intk Tryd.prog 9 = none ∧
  zel Tryd.prog 9 = some (.v (.string ByteArray.empty)) ∧
  Tryd.prog.underlying 9 = some .string ∧
  zl Tryd.prog 9 = some [.v (.string ByteArray.empty)] ∧
  tinfo Tryd.prog 10 = some (false, 1) ∧
  intk Tryd.prog 10 = none ∧
  zel Tryd.prog 10 = some (.v (.string ByteArray.empty)) ∧
  Tryd.prog.underlying 10 = some .string ∧
  zl Tryd.prog 10 = some [.v (.string ByteArray.empty)] ∧
  tinfo Tryd.prog 11 = some (false, 1) ∧
  intk Tryd.prog 11 = none ∧
  zel Tryd.prog 11 = some (.v (.string ByteArray.empty)) ∧
  Tryd.prog.underlying 11 = some .string ∧
  zl Tryd.prog 11 = some [.v (.string ByteArray.empty)] := by
  and_intros <;> kernel_rfl
@[simp] theorem tab_c9 : tinfo Tryd.prog 12 = some (false, 1) ∧
  intk Tryd.prog 12 = some .u64 ∧
  zel Tryd.prog 12 = some (.v (.int .u64 0)) ∧
  zl Tryd.prog 12 = some [.v (.int .u64 0)] ∧
  tinfo Tryd.prog 13 = some (true, 2) ∧
  zel Tryd.prog 13 = some (.agg [.v (.string ByteArray.empty), .v (.int .u64 0)]) ∧
  zl Tryd.prog 13 = some [.v (.string ByteArray.empty), .v (.int .u64 0)] ∧
  tinfo Tryd.prog 14 = some (true, 2) ∧
  zel Tryd.prog 14 = some (.agg [.v (.string ByteArray.empty), .v (.int .u64 0)]) ∧
  zl Tryd.prog 14 = some [.v (.string ByteArray.empty), .v (.int .u64 0)] ∧
  tinfo Tryd.prog 15 = some (false, 1) ∧
  zel Tryd.prog 15 = some (.v (.pointer none)) ∧
  zl Tryd.prog 15 = some [.v (.pointer none)] ∧
  tinfo Tryd.prog 16 = some (false, 1) ∧
  zel Tryd.prog 16 = some (.v (.pointer none)) ∧
  zl Tryd.prog 16 = some [.v (.pointer none)] ∧
  tinfo Tryd.prog 17 = some (false, 1) ∧
  zel Tryd.prog 17 = some (.v (.pointer none)) ∧
  zl Tryd.prog 17 = some [.v (.pointer none)] ∧
  tinfo Tryd.prog 18 = some (true, 1) := by
  and_intros <;> kernel_rfl
@[simp] theorem tab_c10 : zel Tryd.prog 18 = some (.agg [.v (.pointer none)]) ∧
  zl Tryd.prog 18 = some [.v (.pointer none)] ∧
  tinfo Tryd.prog 19 = some (true, 1) ∧
  zel Tryd.prog 19 = some (.agg [.v (.pointer none)]) ∧
  zl Tryd.prog 19 = some [.v (.pointer none)] ∧
  tinfo Tryd.prog 20 = some (false, 1) ∧
  zel Tryd.prog 20 = some (.v (.nilIface)) ∧
  tinfo Tryd.prog 21 = some (false, 1) ∧
  intk Tryd.prog 21 = some .i32 ∧
  zel Tryd.prog 21 = some (.v (.int .i32 0)) ∧
  zl Tryd.prog 21 = some [.v (.int .i32 0)] ∧
  tinfo Tryd.prog 22 = some (false, 1) ∧
  einfo Tryd.prog 22 = some 68 ∧
  vinfo Tryd.prog 22 = some (68, 7, 64) ∧
  intk Tryd.prog 22 = none ∧
  zel Tryd.prog 22 = some (.v (.slice none 0 0)) ∧
  zl Tryd.prog 22 = some [.v (.slice none 0 0)] ∧
  tinfo Tryd.prog 23 = some (false, 1) ∧
  einfo Tryd.prog 23 = some 3 ∧
  vinfo Tryd.prog 23 = some (3, 1, 8) := by
  and_intros <;> kernel_rfl
@[simp] theorem tab_c11 : intk Tryd.prog 23 = none ∧
  zel Tryd.prog 23 = some (.v (.slice none 0 0)) ∧
  zl Tryd.prog 23 = some [.v (.slice none 0 0)] ∧
  tinfo Tryd.prog 24 = some (true, 3) ∧
  zel Tryd.prog 24 = some (.agg [.v (.slice none 0 0), .v (.slice none 0 0), .v (.int .i64 0)]) ∧
  zl Tryd.prog 24 = some [.v (.slice none 0 0), .v (.slice none 0 0), .v (.int .i64 0)] ∧
  binfo Tryd.prog 24 = some [(0, 1), (1, 1), (2, 1)] ∧
  finfo Tryd.prog 24 0 = some (0, 22) ∧
  finfo Tryd.prog 24 1 = some (1, 23) ∧
  finfo Tryd.prog 24 2 = some (2, 3) ∧
  tinfo Tryd.prog 25 = some (true, 3) ∧
  zel Tryd.prog 25 = some (.agg [.v (.slice none 0 0), .v (.slice none 0 0), .v (.int .i64 0)]) ∧
  zl Tryd.prog 25 = some [.v (.slice none 0 0), .v (.slice none 0 0), .v (.int .i64 0)] ∧
  binfo Tryd.prog 25 = some [(0, 1), (1, 1), (2, 1)] ∧
  finfo Tryd.prog 25 0 = some (0, 22) ∧
  finfo Tryd.prog 25 1 = some (1, 23) ∧
  finfo Tryd.prog 25 2 = some (2, 3) ∧
  tinfo Tryd.prog 26 = some (false, 1) ∧
  einfo Tryd.prog 26 = some 37 ∧
  vinfo Tryd.prog 26 = some (37, 3, 40) := by
  and_intros <;> kernel_rfl
@[simp] theorem tab_c12 : intk Tryd.prog 26 = none ∧
  zel Tryd.prog 26 = some (.v (.slice none 0 0)) ∧
  zl Tryd.prog 26 = some [.v (.slice none 0 0)] ∧
  tinfo Tryd.prog 30 = some (false, 1) ∧
  intk Tryd.prog 30 = some .i64 ∧
  zel Tryd.prog 30 = some (.v (.int .i64 0)) ∧
  zl Tryd.prog 30 = some [.v (.int .i64 0)] ∧
  tinfo Tryd.prog 33 = some (false, 1) ∧
  einfo Tryd.prog 33 = some 39 ∧
  vinfo Tryd.prog 33 = some (39, 3, 32) ∧
  intk Tryd.prog 33 = none ∧
  zel Tryd.prog 33 = some (.v (.slice none 0 0)) ∧
  zl Tryd.prog 33 = some [.v (.slice none 0 0)] ∧
  tinfo Tryd.prog 36 = some (true, 3) ∧
  zel Tryd.prog 36 = some (.agg [.v (.int .i64 0), .v (.slice none 0 0), .v (.int .i64 0)]) ∧
  zl Tryd.prog 36 = some [.v (.int .i64 0), .v (.slice none 0 0), .v (.int .i64 0)] ∧
  binfo Tryd.prog 36 = some [(0, 1), (1, 1), (2, 1)] ∧
  finfo Tryd.prog 36 0 = some (0, 3) ∧
  finfo Tryd.prog 36 1 = some (1, 33) ∧
  finfo Tryd.prog 36 2 = some (2, 3) := by
  and_intros <;> kernel_rfl
@[simp] theorem tab_c13 : tinfo Tryd.prog 37 = some (true, 3) ∧
  zel Tryd.prog 37 = some (.agg [.v (.int .i64 0), .v (.slice none 0 0), .v (.int .i64 0)]) ∧
  zl Tryd.prog 37 = some [.v (.int .i64 0), .v (.slice none 0 0), .v (.int .i64 0)] ∧
  binfo Tryd.prog 37 = some [(0, 1), (1, 1), (2, 1)] ∧
  finfo Tryd.prog 37 0 = some (0, 3) ∧
  finfo Tryd.prog 37 1 = some (1, 33) ∧
  finfo Tryd.prog 37 2 = some (2, 3) ∧
  tinfo Tryd.prog 38 = some (true, 3) ∧
  zel Tryd.prog 38 = some (.agg [.v (.int .i64 0), .v (.int .i64 0), .v (.string ByteArray.empty)]) ∧
  zl Tryd.prog 38 = some [.v (.int .i64 0), .v (.int .i64 0), .v (.string ByteArray.empty)] ∧
  binfo Tryd.prog 38 = some [(0, 1), (1, 1), (2, 1)] ∧
  finfo Tryd.prog 38 0 = some (0, 3) ∧
  finfo Tryd.prog 38 1 = some (1, 3) ∧
  finfo Tryd.prog 38 2 = some (2, 9) ∧
  tinfo Tryd.prog 39 = some (true, 3) ∧
  zel Tryd.prog 39 = some (.agg [.v (.int .i64 0), .v (.int .i64 0), .v (.string ByteArray.empty)]) ∧
  zl Tryd.prog 39 = some [.v (.int .i64 0), .v (.int .i64 0), .v (.string ByteArray.empty)] ∧
  binfo Tryd.prog 39 = some [(0, 1), (1, 1), (2, 1)] ∧
  finfo Tryd.prog 39 0 = some (0, 3) ∧
  finfo Tryd.prog 39 1 = some (1, 3) := by
  and_intros <;> kernel_rfl
@[simp] theorem tab_c14 : finfo Tryd.prog 39 2 = some (2, 9) ∧
  tinfo Tryd.prog 46 = some (false, 1) ∧
  einfo Tryd.prog 46 = some 25 ∧
  vinfo Tryd.prog 46 = some (25, 3, 56) ∧
  intk Tryd.prog 46 = none ∧
  zel Tryd.prog 46 = some (.v (.slice none 0 0)) ∧
  zl Tryd.prog 46 = some [.v (.slice none 0 0)] ∧
  tinfo Tryd.prog 50 = some (false, 1) ∧
  einfo Tryd.prog 50 = some 52 ∧
  vinfo Tryd.prog 50 = some (52, 4, 56) ∧
  intk Tryd.prog 50 = none ∧
  zel Tryd.prog 50 = some (.v (.slice none 0 0)) ∧
  zl Tryd.prog 50 = some [.v (.slice none 0 0)] ∧
  tinfo Tryd.prog 51 = some (true, 4) ∧
  zel Tryd.prog 51 = some (.agg [.v (.int .i64 0), .v (.int .i64 0), .v (.string ByteArray.empty), .v (.slice none 0 0)]) ∧
  zl Tryd.prog 51 = some [.v (.int .i64 0), .v (.int .i64 0), .v (.string ByteArray.empty), .v (.slice none 0 0)] ∧
  binfo Tryd.prog 51 = some [(0, 1), (1, 1), (2, 1), (3, 1)] ∧
  finfo Tryd.prog 51 0 = some (0, 3) ∧
  finfo Tryd.prog 51 1 = some (1, 3) ∧
  finfo Tryd.prog 51 2 = some (2, 9) := by
  and_intros <;> kernel_rfl
@[simp] theorem tab_c15 : finfo Tryd.prog 51 3 = some (3, 50) ∧
  tinfo Tryd.prog 52 = some (true, 4) ∧
  zel Tryd.prog 52 = some (.agg [.v (.int .i64 0), .v (.int .i64 0), .v (.string ByteArray.empty), .v (.slice none 0 0)]) ∧
  zl Tryd.prog 52 = some [.v (.int .i64 0), .v (.int .i64 0), .v (.string ByteArray.empty), .v (.slice none 0 0)] ∧
  binfo Tryd.prog 52 = some [(0, 1), (1, 1), (2, 1), (3, 1)] ∧
  finfo Tryd.prog 52 0 = some (0, 3) ∧
  finfo Tryd.prog 52 1 = some (1, 3) ∧
  finfo Tryd.prog 52 2 = some (2, 9) ∧
  finfo Tryd.prog 52 3 = some (3, 50) ∧
  tinfo Tryd.prog 61 = some (false, 1) ∧
  einfo Tryd.prog 61 = some 90 ∧
  vinfo Tryd.prog 61 = some (90, 7, 104) ∧
  intk Tryd.prog 61 = none ∧
  zel Tryd.prog 61 = some (.v (.slice none 0 0)) ∧
  zl Tryd.prog 61 = some [.v (.slice none 0 0)] ∧
  tinfo Tryd.prog 67 = some (true, 7) ∧
  zel Tryd.prog 67 = some (.agg [.v (.int .i64 0), .v (.int .i64 0), .v (.int .i64 0), .v (.int .i64 0), .v (.int .i64 0), .v (.int .i64 0), .v (.string ByteArray.empty)]) ∧
  zl Tryd.prog 67 = some [.v (.int .i64 0), .v (.int .i64 0), .v (.int .i64 0), .v (.int .i64 0), .v (.int .i64 0), .v (.int .i64 0), .v (.string ByteArray.empty)] ∧
  binfo Tryd.prog 67 = some [(0, 1), (1, 1), (2, 1), (3, 1), (4, 1), (5, 1), (6, 1)] ∧
  finfo Tryd.prog 67 0 = some (0, 3) := by
  and_intros <;> kernel_rfl
@[simp] theorem tab_c16 : finfo Tryd.prog 67 1 = some (1, 3) ∧
  finfo Tryd.prog 67 2 = some (2, 3) ∧
  finfo Tryd.prog 67 3 = some (3, 3) ∧
  finfo Tryd.prog 67 4 = some (4, 3) ∧
  finfo Tryd.prog 67 5 = some (5, 3) ∧
  finfo Tryd.prog 67 6 = some (6, 9) ∧
  tinfo Tryd.prog 68 = some (true, 7) ∧
  zel Tryd.prog 68 = some (.agg [.v (.int .i64 0), .v (.int .i64 0), .v (.int .i64 0), .v (.int .i64 0), .v (.int .i64 0), .v (.int .i64 0), .v (.string ByteArray.empty)]) ∧
  zl Tryd.prog 68 = some [.v (.int .i64 0), .v (.int .i64 0), .v (.int .i64 0), .v (.int .i64 0), .v (.int .i64 0), .v (.int .i64 0), .v (.string ByteArray.empty)] ∧
  binfo Tryd.prog 68 = some [(0, 1), (1, 1), (2, 1), (3, 1), (4, 1), (5, 1), (6, 1)] ∧
  finfo Tryd.prog 68 0 = some (0, 3) ∧
  finfo Tryd.prog 68 1 = some (1, 3) ∧
  finfo Tryd.prog 68 2 = some (2, 3) ∧
  finfo Tryd.prog 68 3 = some (3, 3) ∧
  finfo Tryd.prog 68 4 = some (4, 3) ∧
  finfo Tryd.prog 68 5 = some (5, 3) ∧
  finfo Tryd.prog 68 6 = some (6, 9) ∧
  tinfo Tryd.prog 73 = some (false, 1) ∧
  einfo Tryd.prog 73 = some 4 ∧
  vinfo Tryd.prog 73 = some (4, 1, 1) := by
  and_intros <;> kernel_rfl
@[simp] theorem tab_c17 : intk Tryd.prog 73 = none ∧
  zel Tryd.prog 73 = some (.v (.slice none 0 0)) ∧
  zl Tryd.prog 73 = some [.v (.slice none 0 0)] ∧
  tinfo Tryd.prog 80 = some (false, 1) ∧
  einfo Tryd.prog 80 = some 23 ∧
  vinfo Tryd.prog 80 = some (23, 1, 24) ∧
  intk Tryd.prog 80 = none ∧
  zel Tryd.prog 80 = some (.v (.slice none 0 0)) ∧
  zl Tryd.prog 80 = some [.v (.slice none 0 0)] ∧
  tinfo Tryd.prog 83 = some (false, 1) ∧
  zel Tryd.prog 83 = some (.v (.pointer none)) ∧
  zl Tryd.prog 83 = some [.v (.pointer none)] ∧
  tinfo Tryd.prog 84 = some (false, 1) ∧
  einfo Tryd.prog 84 = some 83 ∧
  vinfo Tryd.prog 84 = some (83, 1, 8) ∧
  intk Tryd.prog 84 = none ∧
  zel Tryd.prog 84 = some (.v (.slice none 0 0)) ∧
  zl Tryd.prog 84 = some [.v (.slice none 0 0)] ∧
  tinfo Tryd.prog 89 = some (true, 7) ∧
  zel Tryd.prog 89 = some (.agg [.v (.string ByteArray.empty), .v (.slice none 0 0), .v (.int .i64 0), .v (.int .i64 0), .v (.int .i64 0), .v (.string ByteArray.empty), .v (.slice none 0 0)]) := by
  and_intros <;> kernel_rfl
@[simp] theorem tab_c18 : zl Tryd.prog 89 = some [.v (.string ByteArray.empty), .v (.slice none 0 0), .v (.int .i64 0), .v (.int .i64 0), .v (.int .i64 0), .v (.string ByteArray.empty), .v (.slice none 0 0)] ∧
  binfo Tryd.prog 89 = some [(0, 1), (1, 1), (2, 1), (3, 4)] ∧
  finfo Tryd.prog 89 0 = some (0, 9) ∧
  finfo Tryd.prog 89 1 = some (1, 23) ∧
  finfo Tryd.prog 89 2 = some (2, 3) ∧
  finfo Tryd.prog 89 3 = some (3, 52) ∧
  tinfo Tryd.prog 90 = some (true, 7) ∧
  zel Tryd.prog 90 = some (.agg [.v (.string ByteArray.empty), .v (.slice none 0 0), .v (.int .i64 0), .v (.int .i64 0), .v (.int .i64 0), .v (.string ByteArray.empty), .v (.slice none 0 0)]) ∧
  zl Tryd.prog 90 = some [.v (.string ByteArray.empty), .v (.slice none 0 0), .v (.int .i64 0), .v (.int .i64 0), .v (.int .i64 0), .v (.string ByteArray.empty), .v (.slice none 0 0)] ∧
  binfo Tryd.prog 90 = some [(0, 1), (1, 1), (2, 1), (3, 4)] ∧
  finfo Tryd.prog 90 0 = some (0, 9) ∧
  finfo Tryd.prog 90 1 = some (1, 23) ∧
  finfo Tryd.prog 90 2 = some (2, 3) ∧
  finfo Tryd.prog 90 3 = some (3, 52) ∧
  tinfo Tryd.prog 93 = some (false, 1) ∧
  zel Tryd.prog 93 = some (.v (.pointer none)) ∧
  zl Tryd.prog 93 = some [.v (.pointer none)] ∧
  tinfo Tryd.prog 94 = some (false, 1) ∧
  zel Tryd.prog 94 = some (.v (.map none)) ∧
  zl Tryd.prog 94 = some [.v (.map none)] := by
  and_intros <;> kernel_rfl
@[simp] theorem tab_c19 : tinfo Tryd.prog 95 = some (true, 5) ∧
  zel Tryd.prog 95 = some (.agg [.v (.slice none 0 0), .v (.slice none 0 0), .v (.slice none 0 0), .v (.int .i64 0), .v (.map none)]) ∧
  zl Tryd.prog 95 = some [.v (.slice none 0 0), .v (.slice none 0 0), .v (.slice none 0 0), .v (.int .i64 0), .v (.map none)] ∧
  binfo Tryd.prog 95 = some [(0, 1), (1, 3), (4, 1)] ∧
  finfo Tryd.prog 95 0 = some (0, 23) ∧
  finfo Tryd.prog 95 1 = some (1, 25) ∧
  finfo Tryd.prog 95 2 = some (4, 94) ∧
  tinfo Tryd.prog 96 = some (true, 5) ∧
  zel Tryd.prog 96 = some (.agg [.v (.slice none 0 0), .v (.slice none 0 0), .v (.slice none 0 0), .v (.int .i64 0), .v (.map none)]) ∧
  zl Tryd.prog 96 = some [.v (.slice none 0 0), .v (.slice none 0 0), .v (.slice none 0 0), .v (.int .i64 0), .v (.map none)] ∧
  binfo Tryd.prog 96 = some [(0, 1), (1, 3), (4, 1)] ∧
  finfo Tryd.prog 96 0 = some (0, 23) ∧
  finfo Tryd.prog 96 1 = some (1, 25) ∧
  finfo Tryd.prog 96 2 = some (4, 94) ∧
  tinfo Tryd.prog 100 = some (true, 4) ∧
  zel Tryd.prog 100 = some (.agg [.v (.slice none 0 0), .v (.int .i64 0), .v (.slice none 0 0), .v (.slice none 0 0)]) ∧
  zl Tryd.prog 100 = some [.v (.slice none 0 0), .v (.int .i64 0), .v (.slice none 0 0), .v (.slice none 0 0)] ∧
  binfo Tryd.prog 100 = some [(0, 1), (1, 1), (2, 1), (3, 1)] ∧
  finfo Tryd.prog 100 0 = some (0, 61) ∧
  finfo Tryd.prog 100 1 = some (1, 3) := by
  and_intros <;> kernel_rfl
@[simp] theorem tab_c20 : finfo Tryd.prog 100 2 = some (2, 33) ∧
  finfo Tryd.prog 100 3 = some (3, 33) ∧
  tinfo Tryd.prog 101 = some (true, 4) ∧
  zel Tryd.prog 101 = some (.agg [.v (.slice none 0 0), .v (.int .i64 0), .v (.slice none 0 0), .v (.slice none 0 0)]) ∧
  zl Tryd.prog 101 = some [.v (.slice none 0 0), .v (.int .i64 0), .v (.slice none 0 0), .v (.slice none 0 0)] ∧
  binfo Tryd.prog 101 = some [(0, 1), (1, 1), (2, 1), (3, 1)] ∧
  finfo Tryd.prog 101 0 = some (0, 61) ∧
  finfo Tryd.prog 101 1 = some (1, 3) ∧
  finfo Tryd.prog 101 2 = some (2, 33) ∧
  finfo Tryd.prog 101 3 = some (3, 33) ∧
  tinfo Tryd.prog 106 = some (true, 3) ∧
  zel Tryd.prog 106 = some (.agg [.v (.slice none 0 0), .v (.slice none 0 0), .v (.slice none 0 0)]) ∧
  zl Tryd.prog 106 = some [.v (.slice none 0 0), .v (.slice none 0 0), .v (.slice none 0 0)] ∧
  binfo Tryd.prog 106 = some [(0, 1), (1, 1), (2, 1)] ∧
  finfo Tryd.prog 106 0 = some (0, 61) ∧
  finfo Tryd.prog 106 1 = some (1, 23) ∧
  finfo Tryd.prog 106 2 = some (2, 23) ∧
  tinfo Tryd.prog 107 = some (true, 3) ∧
  zel Tryd.prog 107 = some (.agg [.v (.slice none 0 0), .v (.slice none 0 0), .v (.slice none 0 0)]) ∧
  zl Tryd.prog 107 = some [.v (.slice none 0 0), .v (.slice none 0 0), .v (.slice none 0 0)] := by
  and_intros <;> kernel_rfl
@[simp] theorem tab_c21 : binfo Tryd.prog 107 = some [(0, 1), (1, 1), (2, 1)] ∧
  finfo Tryd.prog 107 0 = some (0, 61) ∧
  finfo Tryd.prog 107 1 = some (1, 23) ∧
  finfo Tryd.prog 107 2 = some (2, 23) ∧
  tinfo Tryd.prog 112 = some (false, 1) ∧
  zel Tryd.prog 112 = some (.v (.pointer none)) ∧
  zl Tryd.prog 112 = some [.v (.pointer none)] ∧
  tinfo Tryd.prog 113 = some (false, 1) ∧
  einfo Tryd.prog 113 = some 33 ∧
  vinfo Tryd.prog 113 = some (33, 1, 24) ∧
  intk Tryd.prog 113 = none ∧
  zel Tryd.prog 113 = some (.v (.slice none 0 0)) ∧
  zl Tryd.prog 113 = some [.v (.slice none 0 0)] ∧
  tinfo Tryd.prog 114 = some (true, 2) ∧
  zel Tryd.prog 114 = some (.agg [.v (.slice none 0 0), .v (.slice none 0 0)]) ∧
  zl Tryd.prog 114 = some [.v (.slice none 0 0), .v (.slice none 0 0)] ∧
  binfo Tryd.prog 114 = some [(0, 1), (1, 1)] ∧
  finfo Tryd.prog 114 0 = some (0, 26) ∧
  finfo Tryd.prog 114 1 = some (1, 113) ∧
  tinfo Tryd.prog 115 = some (true, 2) := by
  and_intros <;> kernel_rfl
@[simp] theorem tab_c22 : zel Tryd.prog 115 = some (.agg [.v (.slice none 0 0), .v (.slice none 0 0)]) ∧
  zl Tryd.prog 115 = some [.v (.slice none 0 0), .v (.slice none 0 0)] ∧
  binfo Tryd.prog 115 = some [(0, 1), (1, 1)] ∧
  finfo Tryd.prog 115 0 = some (0, 26) ∧
  finfo Tryd.prog 115 1 = some (1, 113) ∧
  tinfo Tryd.prog 117 = some (false, 1) ∧
  einfo Tryd.prog 117 = some 116 ∧
  vinfo Tryd.prog 117 = some (116, 1, 8) ∧
  intk Tryd.prog 117 = none ∧
  zel Tryd.prog 117 = some (.v (.slice none 0 0)) ∧
  zl Tryd.prog 117 = some [.v (.slice none 0 0)] ∧
  tinfo Tryd.prog 122 = some (false, 1) ∧
  einfo Tryd.prog 122 = some 124 ∧
  vinfo Tryd.prog 122 = some (124, 5, 64) ∧
  intk Tryd.prog 122 = none ∧
  zel Tryd.prog 122 = some (.v (.slice none 0 0)) ∧
  zl Tryd.prog 122 = some [.v (.slice none 0 0)] ∧
  tinfo Tryd.prog 123 = some (true, 5) ∧
  zel Tryd.prog 123 = some (.agg [.v (.int .i64 0), .v (.int .i64 0), .v (.string ByteArray.empty), .v (.slice none 0 0), .v (.bool false)]) ∧
  zl Tryd.prog 123 = some [.v (.int .i64 0), .v (.int .i64 0), .v (.string ByteArray.empty), .v (.slice none 0 0), .v (.bool false)] := by
  and_intros <;> kernel_rfl
@[simp] theorem tab_c23 : binfo Tryd.prog 123 = some [(0, 4), (4, 1)] ∧
  finfo Tryd.prog 123 0 = some (0, 52) ∧
  finfo Tryd.prog 123 1 = some (4, 4) ∧
  tinfo Tryd.prog 124 = some (true, 5) ∧
  zel Tryd.prog 124 = some (.agg [.v (.int .i64 0), .v (.int .i64 0), .v (.string ByteArray.empty), .v (.slice none 0 0), .v (.bool false)]) ∧
  zl Tryd.prog 124 = some [.v (.int .i64 0), .v (.int .i64 0), .v (.string ByteArray.empty), .v (.slice none 0 0), .v (.bool false)] ∧
  binfo Tryd.prog 124 = some [(0, 4), (4, 1)] ∧
  finfo Tryd.prog 124 0 = some (0, 52) ∧
  finfo Tryd.prog 124 1 = some (4, 4) ∧
  tinfo Tryd.prog 126 = some (true, 3) ∧
  zel Tryd.prog 126 = some (.agg [.v (.int .i64 0), .v (.int .i64 0), .v (.int .i64 0)]) ∧
  tinfo Tryd.prog 127 = some (true, 6) ∧
  zel Tryd.prog 127 = some (.agg [.v (.int .i64 0), .v (.int .i64 0), .v (.string ByteArray.empty), .v (.int .i64 0), .v (.int .i64 0), .v (.int .i64 0)]) ∧
  zl Tryd.prog 127 = some [.v (.int .i64 0), .v (.int .i64 0), .v (.string ByteArray.empty), .v (.int .i64 0), .v (.int .i64 0), .v (.int .i64 0)] ∧
  binfo Tryd.prog 127 = some [(0, 1), (1, 1), (2, 1), (3, 3)] ∧
  finfo Tryd.prog 127 0 = some (0, 3) ∧
  finfo Tryd.prog 127 1 = some (1, 3) ∧
  finfo Tryd.prog 127 2 = some (2, 9) ∧
  finfo Tryd.prog 127 3 = some (3, 126) ∧
  tinfo Tryd.prog 128 = some (true, 6) := by
  and_intros <;> kernel_rfl
@[simp] theorem tab_c24 : zel Tryd.prog 128 = some (.agg [.v (.int .i64 0), .v (.int .i64 0), .v (.string ByteArray.empty), .v (.int .i64 0), .v (.int .i64 0), .v (.int .i64 0)]) ∧
  zl Tryd.prog 128 = some [.v (.int .i64 0), .v (.int .i64 0), .v (.string ByteArray.empty), .v (.int .i64 0), .v (.int .i64 0), .v (.int .i64 0)] ∧
  binfo Tryd.prog 128 = some [(0, 1), (1, 1), (2, 1), (3, 3)] ∧
  finfo Tryd.prog 128 0 = some (0, 3) ∧
  finfo Tryd.prog 128 1 = some (1, 3) ∧
  finfo Tryd.prog 128 2 = some (2, 9) ∧
  finfo Tryd.prog 128 3 = some (3, 126) ∧
  tinfo Tryd.prog 135 = some (true, 6) ∧
  zel Tryd.prog 135 = some (.agg [.v (.int .i64 0), .v (.int .i64 0), .v (.string ByteArray.empty), .v (.int .i64 0), .v (.int .i64 0), .v (.string ByteArray.empty)]) ∧
  zl Tryd.prog 135 = some [.v (.int .i64 0), .v (.int .i64 0), .v (.string ByteArray.empty), .v (.int .i64 0), .v (.int .i64 0), .v (.string ByteArray.empty)] ∧
  binfo Tryd.prog 135 = some [(0, 3), (3, 3)] ∧
  finfo Tryd.prog 135 0 = some (0, 39) ∧
  finfo Tryd.prog 135 1 = some (3, 39) ∧
  tinfo Tryd.prog 136 = some (true, 6) ∧
  zel Tryd.prog 136 = some (.agg [.v (.int .i64 0), .v (.int .i64 0), .v (.string ByteArray.empty), .v (.int .i64 0), .v (.int .i64 0), .v (.string ByteArray.empty)]) ∧
  zl Tryd.prog 136 = some [.v (.int .i64 0), .v (.int .i64 0), .v (.string ByteArray.empty), .v (.int .i64 0), .v (.int .i64 0), .v (.string ByteArray.empty)] ∧
  binfo Tryd.prog 136 = some [(0, 3), (3, 3)] ∧
  finfo Tryd.prog 136 0 = some (0, 39) ∧
  finfo Tryd.prog 136 1 = some (3, 39) ∧
  tinfo Tryd.prog 137 = some (false, 1) := by
  and_intros <;> kernel_rfl
@[simp] theorem tab_c25 : zel Tryd.prog 137 = some (.v (.map none)) ∧
  zl Tryd.prog 137 = some [.v (.map none)] ∧
  tinfo Tryd.prog 141 = some (false, 1) ∧
  intk Tryd.prog 141 = some .u64 ∧
  zel Tryd.prog 141 = some (.v (.int .u64 0)) ∧
  zl Tryd.prog 141 = some [.v (.int .u64 0)] ∧
  tinfo Tryd.prog 151 = some (true, 23) ∧
  zel Tryd.prog 151 = some (.agg [.v (.string ByteArray.empty), .v (.string ByteArray.empty), .v (.string ByteArray.empty), .v (.string ByteArray.empty), .v (.string ByteArray.empty), .v (.string ByteArray.empty), .v (.string ByteArray.empty), .v (.string ByteArray.empty), .v (.string ByteArray.empty), .v (.string ByteArray.empty), .v (.string ByteArray.empty), .v (.string ByteArray.empty), .v (.string ByteArray.empty), .v (.string ByteArray.empty), .v (.string ByteArray.empty), .v (.string ByteArray.empty), .v (.string ByteArray.empty), .v (.string ByteArray.empty), .v (.string ByteArray.empty), .v (.string ByteArray.empty), .v (.string ByteArray.empty), .v (.string ByteArray.empty), .v (.string ByteArray.empty)]) ∧
  tinfo Tryd.prog 159 = some (false, 1) ∧
  einfo Tryd.prog 159 = some 9 ∧
  vinfo Tryd.prog 159 = some (9, 1, 16) ∧
  intk Tryd.prog 159 = none ∧
  zel Tryd.prog 159 = some (.v (.slice none 0 0)) ∧
  zl Tryd.prog 159 = some [.v (.slice none 0 0)] ∧
  tinfo Tryd.prog 160 = some (true, 4) ∧
  zel Tryd.prog 160 = some (.agg [.v (.int .i64 0), .v (.int .i64 0), .v (.string ByteArray.empty), .v (.int .i64 0)]) ∧
  zl Tryd.prog 160 = some [.v (.int .i64 0), .v (.int .i64 0), .v (.string ByteArray.empty), .v (.int .i64 0)] ∧
  binfo Tryd.prog 160 = some [(0, 3), (3, 1)] ∧
  finfo Tryd.prog 160 0 = some (0, 39) ∧
  finfo Tryd.prog 160 1 = some (3, 3) := by
  and_intros <;> kernel_rfl
@[simp] theorem tab_c26 : tinfo Tryd.prog 161 = some (true, 4) ∧
  zel Tryd.prog 161 = some (.agg [.v (.int .i64 0), .v (.int .i64 0), .v (.string ByteArray.empty), .v (.int .i64 0)]) ∧
  zl Tryd.prog 161 = some [.v (.int .i64 0), .v (.int .i64 0), .v (.string ByteArray.empty), .v (.int .i64 0)] ∧
  binfo Tryd.prog 161 = some [(0, 3), (3, 1)] ∧
  finfo Tryd.prog 161 0 = some (0, 39) ∧
  finfo Tryd.prog 161 1 = some (3, 3) ∧
  tinfo Tryd.prog 171 = some (true, 4) ∧
  zel Tryd.prog 171 = some (.agg [.v (.pointer none), .v (.pointer none), .v (.pointer none), .v (.string ByteArray.empty)]) ∧
  zl Tryd.prog 171 = some [.v (.pointer none), .v (.pointer none), .v (.pointer none), .v (.string ByteArray.empty)] ∧
  binfo Tryd.prog 171 = some [(0, 1), (1, 1), (2, 1), (3, 1)] ∧
  finfo Tryd.prog 171 0 = some (0, 17) ∧
  finfo Tryd.prog 171 1 = some (1, 17) ∧
  finfo Tryd.prog 171 2 = some (2, 17) ∧
  finfo Tryd.prog 171 3 = some (3, 9) ∧
  tinfo Tryd.prog 172 = some (true, 4) ∧
  zel Tryd.prog 172 = some (.agg [.v (.pointer none), .v (.pointer none), .v (.pointer none), .v (.string ByteArray.empty)]) ∧
  zl Tryd.prog 172 = some [.v (.pointer none), .v (.pointer none), .v (.pointer none), .v (.string ByteArray.empty)] ∧
  binfo Tryd.prog 172 = some [(0, 1), (1, 1), (2, 1), (3, 1)] ∧
  finfo Tryd.prog 172 0 = some (0, 17) ∧
  finfo Tryd.prog 172 1 = some (1, 17) := by
  and_intros <;> kernel_rfl
@[simp] theorem tab_c27 : finfo Tryd.prog 172 2 = some (2, 17) ∧
  finfo Tryd.prog 172 3 = some (3, 9) ∧
  tinfo Tryd.prog 173 = some (true, 0) ∧
  tinfo Tryd.prog 174 = some (true, 0) ∧
  zl Tryd.prog 174 = some [] ∧
  binfo Tryd.prog 174 = some [(0, 0)] ∧
  finfo Tryd.prog 174 0 = some (0, 173) ∧
  tinfo Tryd.prog 175 = some (true, 0) ∧
  zl Tryd.prog 175 = some [] ∧
  binfo Tryd.prog 175 = some [(0, 0)] ∧
  finfo Tryd.prog 175 0 = some (0, 173) ∧
  tinfo Tryd.prog 177 = some (false, 1) ∧
  intk Tryd.prog 177 = some .u32 ∧
  zel Tryd.prog 177 = some (.v (.int .u32 0)) ∧
  zl Tryd.prog 177 = some [.v (.int .u32 0)] ∧
  tinfo Tryd.prog 178 = some (false, 1) ∧
  intk Tryd.prog 178 = some .u8 ∧
  zel Tryd.prog 178 = some (.v (.int .u8 0)) ∧
  zl Tryd.prog 178 = some [.v (.int .u8 0)] ∧
  tinfo Tryd.prog 179 = some (false, 1) := by
  and_intros <;> kernel_rfl
@[simp] theorem tab_c28 : intk Tryd.prog 179 = some .u8 ∧
  zel Tryd.prog 179 = some (.v (.int .u8 0)) ∧
  zl Tryd.prog 179 = some [.v (.int .u8 0)] ∧
  tinfo Tryd.prog 181 = some (false, 1) ∧
  zel Tryd.prog 181 = some (.v (.pointer none)) ∧
  zl Tryd.prog 181 = some [.v (.pointer none)] ∧
  tinfo Tryd.prog 182 = some (false, 1) ∧
  intk Tryd.prog 182 = some .i32 ∧
  zel Tryd.prog 182 = some (.v (.int .i32 0)) ∧
  zl Tryd.prog 182 = some [.v (.int .i32 0)] ∧
  tinfo Tryd.prog 183 = some (false, 1) ∧
  intk Tryd.prog 183 = some .i32 ∧
  zel Tryd.prog 183 = some (.v (.int .i32 0)) ∧
  zl Tryd.prog 183 = some [.v (.int .i32 0)] ∧
  tinfo Tryd.prog 184 = some (true, 11) ∧
  zel Tryd.prog 184 = some (.agg [.v (.int .u64 0), .v (.int .u64 0), .v (.int .u32 0), .v (.int .u8 0), .v (.int .u8 0), .v (.int .u8 0), .v (.int .u8 0), .v (.nilFunc), .v (.pointer none), .v (.int .i32 0), .v (.int .i32 0)]) ∧
  zl Tryd.prog 184 = some [.v (.int .u64 0), .v (.int .u64 0), .v (.int .u32 0), .v (.int .u8 0), .v (.int .u8 0), .v (.int .u8 0), .v (.int .u8 0), .v (.nilFunc), .v (.pointer none), .v (.int .i32 0), .v (.int .i32 0)] ∧
  binfo Tryd.prog 184 = some [(0, 1), (1, 1), (2, 1), (3, 1), (4, 1), (5, 1), (6, 1), (7, 1), (8, 1), (9, 1), (10, 1)] ∧
  finfo Tryd.prog 184 0 = some (0, 12) ∧
  finfo Tryd.prog 184 1 = some (1, 12) := by
  and_intros <;> kernel_rfl
@[simp] theorem tab_c29 : finfo Tryd.prog 184 2 = some (2, 177) ∧
  finfo Tryd.prog 184 3 = some (3, 178) ∧
  finfo Tryd.prog 184 4 = some (4, 5) ∧
  finfo Tryd.prog 184 5 = some (5, 5) ∧
  finfo Tryd.prog 184 6 = some (6, 179) ∧
  finfo Tryd.prog 184 7 = some (7, 180) ∧
  finfo Tryd.prog 184 8 = some (8, 181) ∧
  finfo Tryd.prog 184 9 = some (9, 182) ∧
  finfo Tryd.prog 184 10 = some (10, 183) ∧
  tinfo Tryd.prog 185 = some (true, 11) ∧
  zel Tryd.prog 185 = some (.agg [.v (.int .u64 0), .v (.int .u64 0), .v (.int .u32 0), .v (.int .u8 0), .v (.int .u8 0), .v (.int .u8 0), .v (.int .u8 0), .v (.nilFunc), .v (.pointer none), .v (.int .i32 0), .v (.int .i32 0)]) ∧
  zl Tryd.prog 185 = some [.v (.int .u64 0), .v (.int .u64 0), .v (.int .u32 0), .v (.int .u8 0), .v (.int .u8 0), .v (.int .u8 0), .v (.int .u8 0), .v (.nilFunc), .v (.pointer none), .v (.int .i32 0), .v (.int .i32 0)] ∧
  binfo Tryd.prog 185 = some [(0, 1), (1, 1), (2, 1), (3, 1), (4, 1), (5, 1), (6, 1), (7, 1), (8, 1), (9, 1), (10, 1)] ∧
  finfo Tryd.prog 185 0 = some (0, 12) ∧
  finfo Tryd.prog 185 1 = some (1, 12) ∧
  finfo Tryd.prog 185 2 = some (2, 177) ∧
  finfo Tryd.prog 185 3 = some (3, 178) ∧
  finfo Tryd.prog 185 4 = some (4, 5) ∧
  finfo Tryd.prog 185 5 = some (5, 5) ∧
  finfo Tryd.prog 185 6 = some (6, 179) := by
  and_intros <;> kernel_rfl
@[simp] theorem tab_c30 : finfo Tryd.prog 185 7 = some (7, 180) ∧
  finfo Tryd.prog 185 8 = some (8, 181) ∧
  finfo Tryd.prog 185 9 = some (9, 182) ∧
  finfo Tryd.prog 185 10 = some (10, 183) ∧
  tinfo Tryd.prog 186 = some (false, 1) ∧
  zel Tryd.prog 186 = some (.v (.pointer none)) ∧
  enters Tryd.prog 2 = true ∧
  enters Tryd.prog 3 = true ∧
  enters Tryd.prog 4 = true ∧
  enters Tryd.prog 5 = true ∧
  enters Tryd.prog 6 = true ∧
  enters Tryd.prog 7 = true ∧
  enters Tryd.prog 8 = true ∧
  enters Tryd.prog 9 = true ∧
  enters Tryd.prog 10 = true ∧
  enters Tryd.prog 11 = true ∧
  enters Tryd.prog 12 = true ∧
  enters Tryd.prog 13 = true ∧
  enters Tryd.prog 14 = true ∧
  enters Tryd.prog 15 = true := by
  and_intros <;> kernel_rfl
@[simp] theorem tab_c31 : enters Tryd.prog 16 = true ∧
  enters Tryd.prog 17 = true ∧
  enters Tryd.prog 18 = true ∧
  enters Tryd.prog 19 = true ∧
  enters Tryd.prog 20 = true ∧
  enters Tryd.prog 21 = true ∧
  enters Tryd.prog 22 = true ∧
  enters Tryd.prog 23 = true ∧
  enters Tryd.prog 24 = true ∧
  enters Tryd.prog 25 = true ∧
  enters Tryd.prog 26 = true ∧
  enters Tryd.prog 27 = true ∧
  enters Tryd.prog 28 = true ∧
  enters Tryd.prog 29 = true ∧
  enters Tryd.prog 30 = true ∧
  enters Tryd.prog 31 = true ∧
  enters Tryd.prog 32 = true ∧
  enters Tryd.prog 33 = true ∧
  enters Tryd.prog 34 = true ∧
  enters Tryd.prog 35 = true := by
  and_intros <;> kernel_rfl
@[simp] theorem tab_c32 : enters Tryd.prog 36 = true ∧
  enters Tryd.prog 37 = true ∧
  enters Tryd.prog 38 = true ∧
  enters Tryd.prog 39 = true ∧
  enters Tryd.prog 40 = true ∧
  enters Tryd.prog 41 = true ∧
  enters Tryd.prog 42 = true ∧
  enters Tryd.prog 43 = true ∧
  enters Tryd.prog 44 = true ∧
  enters Tryd.prog 45 = true ∧
  enters Tryd.prog 46 = true ∧
  enters Tryd.prog 47 = true ∧
  enters Tryd.prog 48 = true ∧
  enters Tryd.prog 49 = true ∧
  enters Tryd.prog 50 = true ∧
  enters Tryd.prog 51 = true ∧
  enters Tryd.prog 52 = true ∧
  enters Tryd.prog 53 = true ∧
  enters Tryd.prog 54 = true ∧
  enters Tryd.prog 55 = true := by
  and_intros <;> kernel_rfl
@[simp] theorem tab_c33 : enters Tryd.prog 56 = true ∧
  enters Tryd.prog 57 = true ∧
  enters Tryd.prog 58 = true ∧
  enters Tryd.prog 59 = true ∧
  enters Tryd.prog 60 = true ∧
  enters Tryd.prog 61 = true ∧
  enters Tryd.prog 62 = true ∧
  enters Tryd.prog 63 = true ∧
  enters Tryd.prog 64 = true ∧
  enters Tryd.prog 65 = true ∧
  enters Tryd.prog 66 = true ∧
  enters Tryd.prog 67 = true ∧
  enters Tryd.prog 68 = true ∧
  enters Tryd.prog 69 = true ∧
  enters Tryd.prog 70 = true ∧
  enters Tryd.prog 71 = true ∧
  enters Tryd.prog 72 = true ∧
  enters Tryd.prog 73 = true ∧
  enters Tryd.prog 74 = true ∧
  enters Tryd.prog 75 = true := by
  and_intros <;> kernel_rfl
@[simp] theorem tab_c34 : enters Tryd.prog 76 = true ∧
  enters Tryd.prog 77 = true ∧
  enters Tryd.prog 78 = true ∧
  enters Tryd.prog 79 = true ∧
  enters Tryd.prog 80 = true ∧
  enters Tryd.prog 81 = true ∧
  enters Tryd.prog 82 = true ∧
  enters Tryd.prog 83 = true ∧
  enters Tryd.prog 84 = true ∧
  enters Tryd.prog 85 = true ∧
  enters Tryd.prog 86 = true ∧
  enters Tryd.prog 87 = true ∧
  enters Tryd.prog 88 = true ∧
  enters Tryd.prog 89 = true ∧
  enters Tryd.prog 90 = true ∧
  enters Tryd.prog 91 = true ∧
  enters Tryd.prog 92 = true ∧
  enters Tryd.prog 93 = true ∧
  enters Tryd.prog 94 = true ∧
  enters Tryd.prog 95 = true := by
  and_intros <;> kernel_rfl
@[simp] theorem tab_c35 : enters Tryd.prog 96 = true ∧
  enters Tryd.prog 97 = true ∧
  enters Tryd.prog 98 = true ∧
  enters Tryd.prog 99 = true ∧
  enters Tryd.prog 100 = true ∧
  enters Tryd.prog 101 = true ∧
  enters Tryd.prog 102 = true ∧
  enters Tryd.prog 103 = true ∧
  enters Tryd.prog 104 = true ∧
  enters Tryd.prog 105 = true ∧
  enters Tryd.prog 106 = true ∧
  enters Tryd.prog 107 = true ∧
  enters Tryd.prog 108 = true ∧
  enters Tryd.prog 109 = true ∧
  enters Tryd.prog 110 = true ∧
  enters Tryd.prog 111 = true ∧
  enters Tryd.prog 112 = true ∧
  enters Tryd.prog 113 = true ∧
  enters Tryd.prog 114 = true ∧
  enters Tryd.prog 115 = true := by
  and_intros <;> kernel_rfl
@[simp] theorem tab_c36 : enters Tryd.prog 116 = true ∧
  enters Tryd.prog 117 = true ∧
  enters Tryd.prog 118 = true ∧
  enters Tryd.prog 119 = true ∧
  enters Tryd.prog 120 = true ∧
  enters Tryd.prog 121 = true ∧
  enters Tryd.prog 122 = true ∧
  enters Tryd.prog 123 = true ∧
  enters Tryd.prog 124 = true ∧
  enters Tryd.prog 125 = true ∧
  enters Tryd.prog 126 = true ∧
  enters Tryd.prog 127 = true ∧
  enters Tryd.prog 128 = true ∧
  enters Tryd.prog 129 = true ∧
  enters Tryd.prog 130 = true ∧
  enters Tryd.prog 131 = true ∧
  enters Tryd.prog 132 = true ∧
  enters Tryd.prog 133 = true ∧
  enters Tryd.prog 134 = true ∧
  enters Tryd.prog 135 = true := by
  and_intros <;> kernel_rfl
@[simp] theorem tab_c37 : enters Tryd.prog 136 = true ∧
  enters Tryd.prog 137 = true ∧
  enters Tryd.prog 138 = true ∧
  enters Tryd.prog 139 = true ∧
  enters Tryd.prog 140 = true ∧
  enters Tryd.prog 141 = true ∧
  enters Tryd.prog 142 = true ∧
  enters Tryd.prog 143 = true ∧
  enters Tryd.prog 144 = true ∧
  enters Tryd.prog 145 = true ∧
  enters Tryd.prog 146 = true ∧
  enters Tryd.prog 147 = true ∧
  enters Tryd.prog 148 = true ∧
  enters Tryd.prog 149 = true ∧
  enters Tryd.prog 150 = true ∧
  enters Tryd.prog 152 = true ∧
  enters Tryd.prog 153 = true ∧
  enters Tryd.prog 154 = true ∧
  enters Tryd.prog 155 = true ∧
  enters Tryd.prog 156 = true := by
  and_intros <;> kernel_rfl
@[simp] theorem tab_c38 : enters Tryd.prog 177 = true := by
  and_intros <;> kernel_rfl
end Go.Proofs.YtnkakofcejkhiaaDoor

/- Scalars and lists of them as abstract values. -/
namespace Go.Proofs.YtnkakofcejkhiaaDoor
open Go.RowKit Go.Lib
abbrev AV.int (n : Int) : AV := .v (.int .i64 n)
abbrev AV.str (s : ByteArray) : AV := .v (.string s)
abbrev AV.bool (b : Bool) : AV := .v (.bool b)
@[simp] theorem AV.wid_ints (l : List Int) : AV.wid (l.map AV.int) 1 := AV.wid_map (f := AV.int) (fun _ => rfl) l
@[simp] theorem AV.wid_strs (l : List ByteArray) : AV.wid (l.map AV.str) 1 := AV.wid_map (f := AV.str) (fun _ => rfl) l
@[simp] theorem AV.wid_bools (l : List Bool) : AV.wid (l.map AV.bool) 1 := AV.wid_map (f := AV.bool) (fun _ => rfl) l
@[simp] theorem AV.wid_bytes (l : List UInt8) : AV.wid (l.map AV.byte) 1 := AV.wid_map (f := AV.byte) (fun _ => rfl) l
@[simp] theorem AV.elms_bytes (l : List UInt8) : AV.elms (l.map AV.byte) := AV.elms_map (f := AV.byte) (fun _ => rfl) l
@[simp] theorem AV.elms_ints (l : List Int) : AV.elms (l.map AV.int) := AV.elms_map (f := AV.int) (fun _ => rfl) l
@[simp] theorem AV.elms_strs (l : List ByteArray) : AV.elms (l.map AV.str) := AV.elms_map (f := AV.str) (fun _ => rfl) l
@[simp] theorem AV.elms_bools (l : List Bool) : AV.elms (l.map AV.bool) := AV.elms_map (f := AV.bool) (fun _ => rfl) l
@[simp] theorem AV.cls_append (m : Nat) (a b : List AV) : AV.cls m (a ++ b) ↔ AV.cls m a ∧ AV.cls m b := by
  rw [AV.cls_iff, AV.cls_iff, AV.cls_iff]
  exact ⟨fun h => ⟨fun y hy => h y (by simp [hy]), fun y hy => h y (by simp [hy])⟩, fun h y hy => (List.mem_append.1 hy).elim (h.1 y) (h.2 y)⟩
@[simp] theorem AV.cls_map {α : Type} {f : α → AV} {m : Nat} (h : ∀ a, (f a).cl m) (l : List α) : AV.cls m (l.map f) := by
  rw [AV.cls_iff]
  intro x hx
  obtain ⟨a, -, rfl⟩ := List.mem_map.1 hx
  exact h a
@[simp] theorem AV.cls_ints (l : List Int) (m : Nat) : AV.cls m (l.map AV.int) := AV.cls_map (fun _ => by simp) l
@[simp] theorem AV.cls_strs (l : List ByteArray) (m : Nat) : AV.cls m (l.map AV.str) := AV.cls_map (fun _ => by simp) l
@[simp] theorem AV.cls_bools (l : List Bool) (m : Nat) : AV.cls m (l.map AV.bool) := AV.cls_map (fun _ => by simp) l
@[simp] theorem AV.cls_bytes (l : List UInt8) (m : Nat) : AV.cls m (l.map AV.byte) := AV.cls_map (fun _ => by simp) l
end Go.Proofs.YtnkakofcejkhiaaDoor

/- The first element with a property, and what loops that look for it know. -/
namespace Go.Proofs.YtnkakofcejkhiaaDoor
def idxP {α : Type} (p : α → Bool) : List α → Int
  | [] => -1
  | x :: l => if p x then 0 else if idxP p l = -1 then -1 else idxP p l + 1
section
variable {α : Type} {p : α → Bool}
theorem qeg (x : α) (l : List α) : idxP p (x :: l) = if p x then 0 else if idxP p l = -1 then -1 else idxP p l + 1 := rfl
theorem idxP_ge : ∀ l : List α, -1 ≤ idxP p l
  | [] => by simp [idxP]
  | x :: l => by
    have := idxP_ge l
    rw [qeg]
    split
    · omega
    · split <;> omega
theorem idxP_hit : ∀ {l : List α} {k : Nat} (h : k < l.length), p l[k] = true → (∀ j (h : j < l.length), j < k → p l[j] = false) → idxP p l = k
  | [], k, h, _, _ => by simp at h
  | x :: l, 0, h, h1, _ => by
    have h1' : p x = true := h1
    rw [qeg, if_pos h1']; rfl
  | x :: l, k + 1, h, h1, h2 => by
    have h0 : p x = false := h2 0 (by simp) (by omega)
    have hk : k < l.length := by simpa using h
    have ih := idxP_hit (l := l) (k := k) hk (by simpa using h1) fun j hj hjk => by have := h2 (j + 1) (by simpa using hj) (by omega); simpa using this
    rw [qeg, if_neg (by rw [h0]; simp), ih, if_neg (by omega)]
    omega
theorem idxP_miss : ∀ {l : List α}, (∀ j (h : j < l.length), p l[j] = false) → idxP p l = -1
  | [], _ => rfl
  | x :: l, h => by
    have h0 : p x = false := h 0 (by simp)
    rw [qeg, if_neg (by rw [h0]; simp), idxP_miss (l := l) fun j hj => by have := h (j + 1) (by simpa using hj); simpa using this]
    rfl
theorem idxP_lt {l : List α} {k : Nat} (h : idxP p l = k) : ∃ hk : k < l.length, p l[k] = true ∧ ∀ j (h : j < l.length), j < k → p l[j] = false := by
  induction l generalizing k with
  | nil => simp [idxP] at h
  | cons x l ih =>
    rw [qeg] at h
    split at h
    · rename_i hx
      obtain rfl : k = 0 := by omega
      exact ⟨by simp, hx, fun j _ hj => by omega⟩
    · rename_i hx
      split at h
      · omega
      · rename_i hn
        have hge := idxP_ge (p := p) l
        obtain ⟨hk, h1, h2⟩ := ih (k := k - 1) (by omega)
        obtain ⟨k', rfl⟩ : ∃ k', k = k' + 1 := ⟨k - 1, by omega⟩
        refine ⟨by simpa using hk, by simpa using h1, fun j hj hjk => ?_⟩
        cases j with
        | zero => simpa using hx
        | succ j => simpa using h2 j (by simpa using hj) (by omega)
theorem idxP_any (l : List α) : decide (0 ≤ idxP p l) = l.any p := by
  induction l with
  | nil => rfl
  | cons x l ih =>
    have hge := idxP_ge (p := p) l
    rw [List.any_cons, ← ih]
    rw [qeg]
    by_cases hx : p x = true
    · rw [if_pos hx, hx]; rfl
    · rw [if_neg hx]
      have : p x = false := by simpa using hx
      rw [this, Bool.false_or]
      split
      · rename_i h; rw [h]
      · exact decide_eq_decide.2 (by omega)
theorem all_hit {l : List α} {k : Nat} (h : k < l.length) (h1 : p l[k] = false) : l.all p = false := by
  rw [Bool.eq_false_iff]; intro h2
  rw [List.all_eq_true] at h2
  have := h2 l[k] (List.getElem_mem h)
  rw [h1] at this; cases this
theorem all_end {l : List α} (h : ∀ j (h : j < l.length), p l[j] = true) : l.all p = true := by
  rw [List.all_eq_true]
  intro x hx
  obtain ⟨j, hj, rfl⟩ := List.getElem_of_mem hx
  exact h j hj
theorem upto_succ {C : α → Prop} {l : List α} {k : Nat} (h : ∀ j (h : j < l.length), j < k → C l[j]) (hk : ∀ h : k < l.length, C l[k]) : ∀ j (h : j < l.length), j < k + 1 → C l[j] := fun j hj hjk => by
  by_cases he : j = k
  · subst he; exact hk hj
  · exact h j hj (by omega)
theorem upto_all {C : α → Prop} {l : List α} {k : Nat} (h : ∀ j (h : j < l.length), j < k → C l[j]) (hk : ¬ k < l.length) : ∀ j (h : j < l.length), C l[j] := fun j hj => h j hj (by omega)
end
def fillV {α : Type} (f : α → AV) (z : AV) (L : List α) (k : Nat) : List AV := (L.take k).map f ++ List.replicate (L.length - k) z
section
variable {α : Type} {f : α → AV} {z : AV} {L : List α} {k : Nat}
theorem fillV_len (h : k ≤ L.length) : (fillV f z L k).length = L.length := by
  unfold fillV; simp only [List.length_append, List.length_map, List.length_take, List.length_replicate]; omega
theorem fillV_get (h : k < L.length) : (fillV f z L k)[k]? = some z := by
  unfold fillV
  have hl : ((L.take k).map f).length = k := by simp only [List.length_map, List.length_take]; omega
  rw [List.getElem?_append_right (by omega), hl, Nat.sub_self, List.getElem?_replicate, if_pos (by omega)]
theorem fillV_set (h : k < L.length) : (fillV f z L k).set k (f L[k]) = fillV f z L (k + 1) := by
  unfold fillV
  have hl : ((L.take k).map f).length = k := by simp only [List.length_map, List.length_take]; omega
  rw [List.set_append_right _ _ (by omega), hl, Nat.sub_self]
  obtain ⟨m, hm⟩ : ∃ m, L.length - k = m + 1 := ⟨L.length - k - 1, by omega⟩
  rw [hm, List.replicate_succ, List.set_cons_zero, show L.length - (k + 1) = m by omega, List.take_succ_eq_append_getElem h, List.map_append, List.append_assoc]
  rfl
theorem fillV_all : fillV f z L L.length = L.map f := by
  unfold fillV; simp
theorem fillV_zero : fillV f z L 0 = List.replicate L.length z := by
  unfold fillV; simp
theorem fillV_cls {m : Nat} (hf : ∀ x, (f x).cl m) (hz : z.cl m) : AV.cls m (fillV f z L k) := by
  rw [AV.cls_iff]
  intro x hx
  unfold fillV at hx
  rcases List.mem_append.1 hx with h | h
  · obtain ⟨y, -, rfl⟩ := List.mem_map.1 h; exact hf y
  · rw [(List.mem_replicate.1 h).2]; exact hz
end
end Go.Proofs.YtnkakofcejkhiaaDoor
