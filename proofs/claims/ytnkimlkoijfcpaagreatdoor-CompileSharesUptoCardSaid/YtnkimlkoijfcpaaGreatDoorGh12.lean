/- Closed facts of the program: types, fields, functions. -/
import Derived.Test.YtnkimlkoijfcpaaGreatDoorProg
import Derived.KernelRfl
import Derived.Test.YtnkimlkoijfcpaaGreatDoorGh11
set_option linter.unusedSimpArgs false
set_option linter.unusedVariables false
namespace Go.Proofs.YtnkimlkoijfcpaaGreatDoor
open Go.RowKit Go.Lib
@[simp] theorem tab_c7 : tinfo Tryz.prog 2 = some (false, 1) ∧
  intk Tryz.prog 2 = some .i64 ∧
  zel Tryz.prog 2 = some (.v (.int .i64 0)) ∧
  tinfo Tryz.prog 3 = some (false, 1) ∧
  intk Tryz.prog 3 = some .i64 ∧
  zel Tryz.prog 3 = some (.v (.int .i64 0)) ∧
  zl Tryz.prog 3 = some [.v (.int .i64 0)] ∧
  tinfo Tryz.prog 4 = some (false, 1) ∧
  fkind Tryz.prog 4 = some 1 ∧
  zel Tryz.prog 4 = some (.v (.bool false)) ∧
  zl Tryz.prog 4 = some [.v (.bool false)] ∧
  tinfo Tryz.prog 5 = some (false, 1) ∧
  intk Tryz.prog 5 = some .u8 ∧
  zel Tryz.prog 5 = some (.v (.int .u8 0)) ∧
  zl Tryz.prog 5 = some [.v (.int .u8 0)] ∧
  tinfo Tryz.prog 6 = some (false, 1) ∧
  intk Tryz.prog 6 = some .u8 ∧
  zel Tryz.prog 6 = some (.v (.int .u8 0)) ∧
  zl Tryz.prog 6 = some [.v (.int .u8 0)] ∧
  tinfo Tryz.prog 7 = some (true, 4) := by
  and_intros <;> kernel_rfl
@[simp] theorem tab_c8 : zel Tryz.prog 7 = some (.agg [.v (.int .i64 0), .v (.int .i64 0), .v (.bool false), .v (.int .u8 0)]) ∧
  zl Tryz.prog 7 = some [.v (.int .i64 0), .v (.int .i64 0), .v (.bool false), .v (.int .u8 0)] ∧
  tinfo Tryz.prog 8 = some (true, 4) ∧
  zel Tryz.prog 8 = some (.agg [.v (.int .i64 0), .v (.int .i64 0), .v (.bool false), .v (.int .u8 0)]) ∧
  zl Tryz.prog 8 = some [.v (.int .i64 0), .v (.int .i64 0), .v (.bool false), .v (.int .u8 0)] ∧
  tinfo Tryz.prog 9 = some (false, 1) ∧
  intk Tryz.prog 9 = none ∧
  zel Tryz.prog 9 = some (.v (.string ByteArray.empty)) ∧
  Tryz.prog.underlying 9 = some .string ∧
  zl Tryz.prog 9 = some [.v (.string ByteArray.empty)] ∧
  tinfo Tryz.prog 10 = some (false, 1) ∧
  intk Tryz.prog 10 = none ∧
  zel Tryz.prog 10 = some (.v (.string ByteArray.empty)) ∧
  Tryz.prog.underlying 10 = some .string ∧
  zl Tryz.prog 10 = some [.v (.string ByteArray.empty)] ∧
  tinfo Tryz.prog 11 = some (false, 1) ∧
  intk Tryz.prog 11 = none ∧
  zel Tryz.prog 11 = some (.v (.string ByteArray.empty)) ∧
  Tryz.prog.underlying 11 = some .string ∧
  zl Tryz.prog 11 = some [.v (.string ByteArray.empty)] := by
  and_intros <;> kernel_rfl
@[simp] theorem tab_c9 : tinfo Tryz.prog 12 = some (false, 1) ∧
  intk Tryz.prog 12 = some .u64 ∧
  zel Tryz.prog 12 = some (.v (.int .u64 0)) ∧
  zl Tryz.prog 12 = some [.v (.int .u64 0)] ∧
  tinfo Tryz.prog 13 = some (true, 2) ∧
  zel Tryz.prog 13 = some (.agg [.v (.string ByteArray.empty), .v (.int .u64 0)]) ∧
  zl Tryz.prog 13 = some [.v (.string ByteArray.empty), .v (.int .u64 0)] ∧
  tinfo Tryz.prog 14 = some (true, 2) ∧
  zel Tryz.prog 14 = some (.agg [.v (.string ByteArray.empty), .v (.int .u64 0)]) ∧
  zl Tryz.prog 14 = some [.v (.string ByteArray.empty), .v (.int .u64 0)] ∧
  tinfo Tryz.prog 15 = some (false, 1) ∧
  zel Tryz.prog 15 = some (.v (.pointer none)) ∧
  zl Tryz.prog 15 = some [.v (.pointer none)] ∧
  tinfo Tryz.prog 16 = some (false, 1) ∧
  zel Tryz.prog 16 = some (.v (.pointer none)) ∧
  zl Tryz.prog 16 = some [.v (.pointer none)] ∧
  tinfo Tryz.prog 17 = some (false, 1) ∧
  zel Tryz.prog 17 = some (.v (.pointer none)) ∧
  zl Tryz.prog 17 = some [.v (.pointer none)] ∧
  tinfo Tryz.prog 18 = some (true, 1) := by
  and_intros <;> kernel_rfl
@[simp] theorem tab_c10 : zel Tryz.prog 18 = some (.agg [.v (.pointer none)]) ∧
  zl Tryz.prog 18 = some [.v (.pointer none)] ∧
  tinfo Tryz.prog 19 = some (true, 1) ∧
  zel Tryz.prog 19 = some (.agg [.v (.pointer none)]) ∧
  zl Tryz.prog 19 = some [.v (.pointer none)] ∧
  tinfo Tryz.prog 20 = some (false, 1) ∧
  zel Tryz.prog 20 = some (.v (.nilIface)) ∧
  tinfo Tryz.prog 21 = some (false, 1) ∧
  intk Tryz.prog 21 = some .i32 ∧
  zel Tryz.prog 21 = some (.v (.int .i32 0)) ∧
  zl Tryz.prog 21 = some [.v (.int .i32 0)] ∧
  tinfo Tryz.prog 22 = some (false, 1) ∧
  einfo Tryz.prog 22 = some 3 ∧
  vinfo Tryz.prog 22 = some (3, 1, 8) ∧
  intk Tryz.prog 22 = none ∧
  zel Tryz.prog 22 = some (.v (.slice none 0 0)) ∧
  zl Tryz.prog 22 = some [.v (.slice none 0 0)] ∧
  tinfo Tryz.prog 23 = some (false, 1) ∧
  einfo Tryz.prog 23 = some 25 ∧
  vinfo Tryz.prog 23 = some (25, 4, 56) := by
  and_intros <;> kernel_rfl
@[simp] theorem tab_c11 : intk Tryz.prog 23 = none ∧
  zel Tryz.prog 23 = some (.v (.slice none 0 0)) ∧
  zl Tryz.prog 23 = some [.v (.slice none 0 0)] ∧
  tinfo Tryz.prog 24 = some (true, 4) ∧
  zel Tryz.prog 24 = some (.agg [.v (.int .i64 0), .v (.int .i64 0), .v (.string ByteArray.empty), .v (.slice none 0 0)]) ∧
  zl Tryz.prog 24 = some [.v (.int .i64 0), .v (.int .i64 0), .v (.string ByteArray.empty), .v (.slice none 0 0)] ∧
  binfo Tryz.prog 24 = some [(0, 1), (1, 1), (2, 1), (3, 1)] ∧
  finfo Tryz.prog 24 0 = some (0, 3) ∧
  finfo Tryz.prog 24 1 = some (1, 3) ∧
  finfo Tryz.prog 24 2 = some (2, 9) ∧
  finfo Tryz.prog 24 3 = some (3, 23) ∧
  tinfo Tryz.prog 25 = some (true, 4) ∧
  zel Tryz.prog 25 = some (.agg [.v (.int .i64 0), .v (.int .i64 0), .v (.string ByteArray.empty), .v (.slice none 0 0)]) ∧
  zl Tryz.prog 25 = some [.v (.int .i64 0), .v (.int .i64 0), .v (.string ByteArray.empty), .v (.slice none 0 0)] ∧
  binfo Tryz.prog 25 = some [(0, 1), (1, 1), (2, 1), (3, 1)] ∧
  finfo Tryz.prog 25 0 = some (0, 3) ∧
  finfo Tryz.prog 25 1 = some (1, 3) ∧
  finfo Tryz.prog 25 2 = some (2, 9) ∧
  finfo Tryz.prog 25 3 = some (3, 23) ∧
  tinfo Tryz.prog 26 = some (false, 1) := by
  and_intros <;> kernel_rfl
@[simp] theorem tab_c12 : einfo Tryz.prog 26 = some 39 ∧
  vinfo Tryz.prog 26 = some (39, 3, 32) ∧
  intk Tryz.prog 26 = none ∧
  zel Tryz.prog 26 = some (.v (.slice none 0 0)) ∧
  zl Tryz.prog 26 = some [.v (.slice none 0 0)] ∧
  tinfo Tryz.prog 38 = some (true, 3) ∧
  zel Tryz.prog 38 = some (.agg [.v (.int .i64 0), .v (.int .i64 0), .v (.string ByteArray.empty)]) ∧
  zl Tryz.prog 38 = some [.v (.int .i64 0), .v (.int .i64 0), .v (.string ByteArray.empty)] ∧
  binfo Tryz.prog 38 = some [(0, 1), (1, 1), (2, 1)] ∧
  finfo Tryz.prog 38 0 = some (0, 3) ∧
  finfo Tryz.prog 38 1 = some (1, 3) ∧
  finfo Tryz.prog 38 2 = some (2, 9) ∧
  tinfo Tryz.prog 39 = some (true, 3) ∧
  zel Tryz.prog 39 = some (.agg [.v (.int .i64 0), .v (.int .i64 0), .v (.string ByteArray.empty)]) ∧
  zl Tryz.prog 39 = some [.v (.int .i64 0), .v (.int .i64 0), .v (.string ByteArray.empty)] ∧
  binfo Tryz.prog 39 = some [(0, 1), (1, 1), (2, 1)] ∧
  finfo Tryz.prog 39 0 = some (0, 3) ∧
  finfo Tryz.prog 39 1 = some (1, 3) ∧
  finfo Tryz.prog 39 2 = some (2, 9) ∧
  tinfo Tryz.prog 42 = some (false, 1) := by
  and_intros <;> kernel_rfl
@[simp] theorem tab_c13 : einfo Tryz.prog 42 = some 80 ∧
  vinfo Tryz.prog 42 = some (80, 7, 104) ∧
  intk Tryz.prog 42 = none ∧
  zel Tryz.prog 42 = some (.v (.slice none 0 0)) ∧
  zl Tryz.prog 42 = some [.v (.slice none 0 0)] ∧
  tinfo Tryz.prog 43 = some (false, 1) ∧
  einfo Tryz.prog 43 = some 78 ∧
  vinfo Tryz.prog 43 = some (78, 7, 64) ∧
  intk Tryz.prog 43 = none ∧
  zel Tryz.prog 43 = some (.v (.slice none 0 0)) ∧
  zl Tryz.prog 43 = some [.v (.slice none 0 0)] ∧
  tinfo Tryz.prog 44 = some (true, 3) ∧
  zel Tryz.prog 44 = some (.agg [.v (.slice none 0 0), .v (.slice none 0 0), .v (.int .i64 0)]) ∧
  zl Tryz.prog 44 = some [.v (.slice none 0 0), .v (.slice none 0 0), .v (.int .i64 0)] ∧
  binfo Tryz.prog 44 = some [(0, 1), (1, 1), (2, 1)] ∧
  finfo Tryz.prog 44 0 = some (0, 43) ∧
  finfo Tryz.prog 44 1 = some (1, 22) ∧
  finfo Tryz.prog 44 2 = some (2, 3) ∧
  tinfo Tryz.prog 45 = some (true, 3) ∧
  zel Tryz.prog 45 = some (.agg [.v (.slice none 0 0), .v (.slice none 0 0), .v (.int .i64 0)]) := by
  and_intros <;> kernel_rfl
@[simp] theorem tab_c14 : zl Tryz.prog 45 = some [.v (.slice none 0 0), .v (.slice none 0 0), .v (.int .i64 0)] ∧
  binfo Tryz.prog 45 = some [(0, 1), (1, 1), (2, 1)] ∧
  finfo Tryz.prog 45 0 = some (0, 43) ∧
  finfo Tryz.prog 45 1 = some (1, 22) ∧
  finfo Tryz.prog 45 2 = some (2, 3) ∧
  tinfo Tryz.prog 46 = some (false, 1) ∧
  intk Tryz.prog 46 = some .i64 ∧
  zel Tryz.prog 46 = some (.v (.int .i64 0)) ∧
  zl Tryz.prog 46 = some [.v (.int .i64 0)] ∧
  tinfo Tryz.prog 54 = some (false, 1) ∧
  einfo Tryz.prog 54 = some 4 ∧
  vinfo Tryz.prog 54 = some (4, 1, 1) ∧
  intk Tryz.prog 54 = none ∧
  zel Tryz.prog 54 = some (.v (.slice none 0 0)) ∧
  zl Tryz.prog 54 = some [.v (.slice none 0 0)] ∧
  tinfo Tryz.prog 59 = some (false, 1) ∧
  einfo Tryz.prog 59 = some 72 ∧
  vinfo Tryz.prog 59 = some (72, 3, 40) ∧
  intk Tryz.prog 59 = none ∧
  zel Tryz.prog 59 = some (.v (.slice none 0 0)) := by
  and_intros <;> kernel_rfl
@[simp] theorem tab_c15 : zl Tryz.prog 59 = some [.v (.slice none 0 0)] ∧
  tinfo Tryz.prog 60 = some (false, 1) ∧
  einfo Tryz.prog 60 = some 162 ∧
  vinfo Tryz.prog 60 = some (162, 3, 32) ∧
  intk Tryz.prog 60 = none ∧
  zel Tryz.prog 60 = some (.v (.slice none 0 0)) ∧
  zl Tryz.prog 60 = some [.v (.slice none 0 0)] ∧
  tinfo Tryz.prog 61 = some (false, 1) ∧
  einfo Tryz.prog 61 = some 121 ∧
  vinfo Tryz.prog 61 = some (121, 5, 64) ∧
  intk Tryz.prog 61 = none ∧
  zel Tryz.prog 61 = some (.v (.slice none 0 0)) ∧
  zl Tryz.prog 61 = some [.v (.slice none 0 0)] ∧
  tinfo Tryz.prog 62 = some (false, 1) ∧
  einfo Tryz.prog 62 = some 229 ∧
  vinfo Tryz.prog 62 = some (229, 3, 40) ∧
  intk Tryz.prog 62 = none ∧
  zel Tryz.prog 62 = some (.v (.slice none 0 0)) ∧
  zl Tryz.prog 62 = some [.v (.slice none 0 0)] ∧
  tinfo Tryz.prog 63 = some (true, 16) := by
  and_intros <;> kernel_rfl
@[simp] theorem tab_c16 : zel Tryz.prog 63 = some (.agg [.v (.int .i64 0), .v (.slice none 0 0), .v (.string ByteArray.empty), .v (.int .i64 0), .v (.slice none 0 0), .v (.int .i64 0), .v (.int .i64 0), .v (.int .i64 0), .v (.slice none 0 0), .v (.slice none 0 0), .v (.int .i64 0), .v (.int .i64 0), .v (.int .i64 0), .v (.slice none 0 0), .v (.slice none 0 0), .v (.slice none 0 0)]) ∧
  zl Tryz.prog 63 = some [.v (.int .i64 0), .v (.slice none 0 0), .v (.string ByteArray.empty), .v (.int .i64 0), .v (.slice none 0 0), .v (.int .i64 0), .v (.int .i64 0), .v (.int .i64 0), .v (.slice none 0 0), .v (.slice none 0 0), .v (.int .i64 0), .v (.int .i64 0), .v (.int .i64 0), .v (.slice none 0 0), .v (.slice none 0 0), .v (.slice none 0 0)] ∧
  binfo Tryz.prog 63 = some [(0, 1), (1, 1), (2, 1), (3, 1), (4, 1), (5, 1), (6, 1), (7, 1), (8, 1), (9, 1), (10, 1), (11, 1), (12, 1), (13, 1), (14, 1), (15, 1)] ∧
  finfo Tryz.prog 63 0 = some (0, 3) ∧
  finfo Tryz.prog 63 1 = some (1, 22) ∧
  finfo Tryz.prog 63 2 = some (2, 9) ∧
  finfo Tryz.prog 63 3 = some (3, 3) ∧
  finfo Tryz.prog 63 4 = some (4, 23) ∧
  finfo Tryz.prog 63 5 = some (5, 3) ∧
  finfo Tryz.prog 63 6 = some (6, 3) ∧
  finfo Tryz.prog 63 7 = some (7, 3) ∧
  finfo Tryz.prog 63 8 = some (8, 22) ∧
  finfo Tryz.prog 63 9 = some (9, 22) ∧
  finfo Tryz.prog 63 10 = some (10, 3) ∧
  finfo Tryz.prog 63 11 = some (11, 3) ∧
  finfo Tryz.prog 63 12 = some (12, 3) ∧
  finfo Tryz.prog 63 13 = some (13, 60) ∧
  finfo Tryz.prog 63 14 = some (14, 61) ∧
  finfo Tryz.prog 63 15 = some (15, 62) ∧
  tinfo Tryz.prog 64 = some (true, 16) := by
  and_intros <;> kernel_rfl
@[simp] theorem tab_c17 : zel Tryz.prog 64 = some (.agg [.v (.int .i64 0), .v (.slice none 0 0), .v (.string ByteArray.empty), .v (.int .i64 0), .v (.slice none 0 0), .v (.int .i64 0), .v (.int .i64 0), .v (.int .i64 0), .v (.slice none 0 0), .v (.slice none 0 0), .v (.int .i64 0), .v (.int .i64 0), .v (.int .i64 0), .v (.slice none 0 0), .v (.slice none 0 0), .v (.slice none 0 0)]) ∧
  zl Tryz.prog 64 = some [.v (.int .i64 0), .v (.slice none 0 0), .v (.string ByteArray.empty), .v (.int .i64 0), .v (.slice none 0 0), .v (.int .i64 0), .v (.int .i64 0), .v (.int .i64 0), .v (.slice none 0 0), .v (.slice none 0 0), .v (.int .i64 0), .v (.int .i64 0), .v (.int .i64 0), .v (.slice none 0 0), .v (.slice none 0 0), .v (.slice none 0 0)] ∧
  binfo Tryz.prog 64 = some [(0, 1), (1, 1), (2, 1), (3, 1), (4, 1), (5, 1), (6, 1), (7, 1), (8, 1), (9, 1), (10, 1), (11, 1), (12, 1), (13, 1), (14, 1), (15, 1)] ∧
  finfo Tryz.prog 64 0 = some (0, 3) ∧
  finfo Tryz.prog 64 1 = some (1, 22) ∧
  finfo Tryz.prog 64 2 = some (2, 9) ∧
  finfo Tryz.prog 64 3 = some (3, 3) ∧
  finfo Tryz.prog 64 4 = some (4, 23) ∧
  finfo Tryz.prog 64 5 = some (5, 3) ∧
  finfo Tryz.prog 64 6 = some (6, 3) ∧
  finfo Tryz.prog 64 7 = some (7, 3) ∧
  finfo Tryz.prog 64 8 = some (8, 22) ∧
  finfo Tryz.prog 64 9 = some (9, 22) ∧
  finfo Tryz.prog 64 10 = some (10, 3) ∧
  finfo Tryz.prog 64 11 = some (11, 3) ∧
  finfo Tryz.prog 64 12 = some (12, 3) ∧
  finfo Tryz.prog 64 13 = some (13, 60) ∧
  finfo Tryz.prog 64 14 = some (14, 61) ∧
  finfo Tryz.prog 64 15 = some (15, 62) ∧
  tinfo Tryz.prog 67 = some (false, 1) := by
  and_intros <;> kernel_rfl
@[simp] theorem tab_c18 : einfo Tryz.prog 67 = some 22 ∧
  vinfo Tryz.prog 67 = some (22, 1, 24) ∧
  intk Tryz.prog 67 = none ∧
  zel Tryz.prog 67 = some (.v (.slice none 0 0)) ∧
  zl Tryz.prog 67 = some [.v (.slice none 0 0)] ∧
  tinfo Tryz.prog 71 = some (true, 3) ∧
  zel Tryz.prog 71 = some (.agg [.v (.int .i64 0), .v (.slice none 0 0), .v (.int .i64 0)]) ∧
  zl Tryz.prog 71 = some [.v (.int .i64 0), .v (.slice none 0 0), .v (.int .i64 0)] ∧
  binfo Tryz.prog 71 = some [(0, 1), (1, 1), (2, 1)] ∧
  finfo Tryz.prog 71 0 = some (0, 3) ∧
  finfo Tryz.prog 71 1 = some (1, 26) ∧
  finfo Tryz.prog 71 2 = some (2, 3) ∧
  tinfo Tryz.prog 72 = some (true, 3) ∧
  zel Tryz.prog 72 = some (.agg [.v (.int .i64 0), .v (.slice none 0 0), .v (.int .i64 0)]) ∧
  zl Tryz.prog 72 = some [.v (.int .i64 0), .v (.slice none 0 0), .v (.int .i64 0)] ∧
  binfo Tryz.prog 72 = some [(0, 1), (1, 1), (2, 1)] ∧
  finfo Tryz.prog 72 0 = some (0, 3) ∧
  finfo Tryz.prog 72 1 = some (1, 26) ∧
  finfo Tryz.prog 72 2 = some (2, 3) ∧
  tinfo Tryz.prog 77 = some (true, 7) := by
  and_intros <;> kernel_rfl
@[simp] theorem tab_c19 : zel Tryz.prog 77 = some (.agg [.v (.int .i64 0), .v (.int .i64 0), .v (.int .i64 0), .v (.int .i64 0), .v (.int .i64 0), .v (.int .i64 0), .v (.string ByteArray.empty)]) ∧
  zl Tryz.prog 77 = some [.v (.int .i64 0), .v (.int .i64 0), .v (.int .i64 0), .v (.int .i64 0), .v (.int .i64 0), .v (.int .i64 0), .v (.string ByteArray.empty)] ∧
  binfo Tryz.prog 77 = some [(0, 1), (1, 1), (2, 1), (3, 1), (4, 1), (5, 1), (6, 1)] ∧
  finfo Tryz.prog 77 0 = some (0, 3) ∧
  finfo Tryz.prog 77 1 = some (1, 3) ∧
  finfo Tryz.prog 77 2 = some (2, 3) ∧
  finfo Tryz.prog 77 3 = some (3, 3) ∧
  finfo Tryz.prog 77 4 = some (4, 3) ∧
  finfo Tryz.prog 77 5 = some (5, 3) ∧
  finfo Tryz.prog 77 6 = some (6, 9) ∧
  tinfo Tryz.prog 78 = some (true, 7) ∧
  zel Tryz.prog 78 = some (.agg [.v (.int .i64 0), .v (.int .i64 0), .v (.int .i64 0), .v (.int .i64 0), .v (.int .i64 0), .v (.int .i64 0), .v (.string ByteArray.empty)]) ∧
  zl Tryz.prog 78 = some [.v (.int .i64 0), .v (.int .i64 0), .v (.int .i64 0), .v (.int .i64 0), .v (.int .i64 0), .v (.int .i64 0), .v (.string ByteArray.empty)] ∧
  binfo Tryz.prog 78 = some [(0, 1), (1, 1), (2, 1), (3, 1), (4, 1), (5, 1), (6, 1)] ∧
  finfo Tryz.prog 78 0 = some (0, 3) ∧
  finfo Tryz.prog 78 1 = some (1, 3) ∧
  finfo Tryz.prog 78 2 = some (2, 3) ∧
  finfo Tryz.prog 78 3 = some (3, 3) ∧
  finfo Tryz.prog 78 4 = some (4, 3) ∧
  finfo Tryz.prog 78 5 = some (5, 3) := by
  and_intros <;> kernel_rfl
@[simp] theorem tab_c20 : finfo Tryz.prog 78 6 = some (6, 9) ∧
  tinfo Tryz.prog 79 = some (true, 7) ∧
  zel Tryz.prog 79 = some (.agg [.v (.string ByteArray.empty), .v (.slice none 0 0), .v (.int .i64 0), .v (.int .i64 0), .v (.int .i64 0), .v (.string ByteArray.empty), .v (.slice none 0 0)]) ∧
  zl Tryz.prog 79 = some [.v (.string ByteArray.empty), .v (.slice none 0 0), .v (.int .i64 0), .v (.int .i64 0), .v (.int .i64 0), .v (.string ByteArray.empty), .v (.slice none 0 0)] ∧
  binfo Tryz.prog 79 = some [(0, 1), (1, 1), (2, 1), (3, 4)] ∧
  finfo Tryz.prog 79 0 = some (0, 9) ∧
  finfo Tryz.prog 79 1 = some (1, 22) ∧
  finfo Tryz.prog 79 2 = some (2, 3) ∧
  finfo Tryz.prog 79 3 = some (3, 25) ∧
  tinfo Tryz.prog 80 = some (true, 7) ∧
  zel Tryz.prog 80 = some (.agg [.v (.string ByteArray.empty), .v (.slice none 0 0), .v (.int .i64 0), .v (.int .i64 0), .v (.int .i64 0), .v (.string ByteArray.empty), .v (.slice none 0 0)]) ∧
  zl Tryz.prog 80 = some [.v (.string ByteArray.empty), .v (.slice none 0 0), .v (.int .i64 0), .v (.int .i64 0), .v (.int .i64 0), .v (.string ByteArray.empty), .v (.slice none 0 0)] ∧
  binfo Tryz.prog 80 = some [(0, 1), (1, 1), (2, 1), (3, 4)] ∧
  finfo Tryz.prog 80 0 = some (0, 9) ∧
  finfo Tryz.prog 80 1 = some (1, 22) ∧
  finfo Tryz.prog 80 2 = some (2, 3) ∧
  finfo Tryz.prog 80 3 = some (3, 25) ∧
  tinfo Tryz.prog 82 = some (true, 3) ∧
  zel Tryz.prog 82 = some (.agg [.v (.slice none 0 0), .v (.slice none 0 0), .v (.slice none 0 0)]) ∧
  zl Tryz.prog 82 = some [.v (.slice none 0 0), .v (.slice none 0 0), .v (.slice none 0 0)] := by
  and_intros <;> kernel_rfl
@[simp] theorem tab_c21 : binfo Tryz.prog 82 = some [(0, 1), (1, 1), (2, 1)] ∧
  finfo Tryz.prog 82 0 = some (0, 42) ∧
  finfo Tryz.prog 82 1 = some (1, 22) ∧
  finfo Tryz.prog 82 2 = some (2, 22) ∧
  tinfo Tryz.prog 83 = some (true, 3) ∧
  zel Tryz.prog 83 = some (.agg [.v (.slice none 0 0), .v (.slice none 0 0), .v (.slice none 0 0)]) ∧
  zl Tryz.prog 83 = some [.v (.slice none 0 0), .v (.slice none 0 0), .v (.slice none 0 0)] ∧
  binfo Tryz.prog 83 = some [(0, 1), (1, 1), (2, 1)] ∧
  finfo Tryz.prog 83 0 = some (0, 42) ∧
  finfo Tryz.prog 83 1 = some (1, 22) ∧
  finfo Tryz.prog 83 2 = some (2, 22) ∧
  tinfo Tryz.prog 86 = some (false, 1) ∧
  zel Tryz.prog 86 = some (.v (.map none)) ∧
  zl Tryz.prog 86 = some [.v (.map none)] ∧
  tinfo Tryz.prog 94 = some (true, 4) ∧
  zel Tryz.prog 94 = some (.agg [.v (.slice none 0 0), .v (.int .i64 0), .v (.slice none 0 0), .v (.slice none 0 0)]) ∧
  zl Tryz.prog 94 = some [.v (.slice none 0 0), .v (.int .i64 0), .v (.slice none 0 0), .v (.slice none 0 0)] ∧
  binfo Tryz.prog 94 = some [(0, 1), (1, 1), (2, 1), (3, 1)] ∧
  finfo Tryz.prog 94 0 = some (0, 42) ∧
  finfo Tryz.prog 94 1 = some (1, 3) := by
  and_intros <;> kernel_rfl
@[simp] theorem tab_c22 : finfo Tryz.prog 94 2 = some (2, 26) ∧
  finfo Tryz.prog 94 3 = some (3, 26) ∧
  tinfo Tryz.prog 95 = some (true, 4) ∧
  zel Tryz.prog 95 = some (.agg [.v (.slice none 0 0), .v (.int .i64 0), .v (.slice none 0 0), .v (.slice none 0 0)]) ∧
  zl Tryz.prog 95 = some [.v (.slice none 0 0), .v (.int .i64 0), .v (.slice none 0 0), .v (.slice none 0 0)] ∧
  binfo Tryz.prog 95 = some [(0, 1), (1, 1), (2, 1), (3, 1)] ∧
  finfo Tryz.prog 95 0 = some (0, 42) ∧
  finfo Tryz.prog 95 1 = some (1, 3) ∧
  finfo Tryz.prog 95 2 = some (2, 26) ∧
  finfo Tryz.prog 95 3 = some (3, 26) ∧
  tinfo Tryz.prog 97 = some (false, 1) ∧
  zel Tryz.prog 97 = some (.v (.pointer none)) ∧
  zl Tryz.prog 97 = some [.v (.pointer none)] ∧
  tinfo Tryz.prog 98 = some (false, 1) ∧
  zel Tryz.prog 98 = some (.v (.map none)) ∧
  zl Tryz.prog 98 = some [.v (.map none)] ∧
  tinfo Tryz.prog 99 = some (true, 5) ∧
  zel Tryz.prog 99 = some (.agg [.v (.slice none 0 0), .v (.slice none 0 0), .v (.slice none 0 0), .v (.int .i64 0), .v (.map none)]) ∧
  zl Tryz.prog 99 = some [.v (.slice none 0 0), .v (.slice none 0 0), .v (.slice none 0 0), .v (.int .i64 0), .v (.map none)] ∧
  binfo Tryz.prog 99 = some [(0, 1), (1, 3), (4, 1)] := by
  and_intros <;> kernel_rfl
@[simp] theorem tab_c23 : finfo Tryz.prog 99 0 = some (0, 22) ∧
  finfo Tryz.prog 99 1 = some (1, 45) ∧
  finfo Tryz.prog 99 2 = some (4, 98) ∧
  tinfo Tryz.prog 100 = some (true, 5) ∧
  zel Tryz.prog 100 = some (.agg [.v (.slice none 0 0), .v (.slice none 0 0), .v (.slice none 0 0), .v (.int .i64 0), .v (.map none)]) ∧
  zl Tryz.prog 100 = some [.v (.slice none 0 0), .v (.slice none 0 0), .v (.slice none 0 0), .v (.int .i64 0), .v (.map none)] ∧
  binfo Tryz.prog 100 = some [(0, 1), (1, 3), (4, 1)] ∧
  finfo Tryz.prog 100 0 = some (0, 22) ∧
  finfo Tryz.prog 100 1 = some (1, 45) ∧
  finfo Tryz.prog 100 2 = some (4, 98) ∧
  tinfo Tryz.prog 101 = some (false, 1) ∧
  einfo Tryz.prog 101 = some 103 ∧
  vinfo Tryz.prog 101 = some (103, 5, 64) ∧
  intk Tryz.prog 101 = none ∧
  zel Tryz.prog 101 = some (.v (.slice none 0 0)) ∧
  zl Tryz.prog 101 = some [.v (.slice none 0 0)] ∧
  tinfo Tryz.prog 102 = some (true, 5) ∧
  zel Tryz.prog 102 = some (.agg [.v (.int .i64 0), .v (.int .i64 0), .v (.string ByteArray.empty), .v (.slice none 0 0), .v (.bool false)]) ∧
  zl Tryz.prog 102 = some [.v (.int .i64 0), .v (.int .i64 0), .v (.string ByteArray.empty), .v (.slice none 0 0), .v (.bool false)] ∧
  binfo Tryz.prog 102 = some [(0, 4), (4, 1)] := by
  and_intros <;> kernel_rfl
@[simp] theorem tab_c24 : finfo Tryz.prog 102 0 = some (0, 25) ∧
  finfo Tryz.prog 102 1 = some (4, 4) ∧
  tinfo Tryz.prog 103 = some (true, 5) ∧
  zel Tryz.prog 103 = some (.agg [.v (.int .i64 0), .v (.int .i64 0), .v (.string ByteArray.empty), .v (.slice none 0 0), .v (.bool false)]) ∧
  zl Tryz.prog 103 = some [.v (.int .i64 0), .v (.int .i64 0), .v (.string ByteArray.empty), .v (.slice none 0 0), .v (.bool false)] ∧
  binfo Tryz.prog 103 = some [(0, 4), (4, 1)] ∧
  finfo Tryz.prog 103 0 = some (0, 25) ∧
  finfo Tryz.prog 103 1 = some (4, 4) ∧
  tinfo Tryz.prog 108 = some (false, 1) ∧
  zel Tryz.prog 108 = some (.v (.pointer none)) ∧
  zl Tryz.prog 108 = some [.v (.pointer none)] ∧
  tinfo Tryz.prog 109 = some (false, 1) ∧
  einfo Tryz.prog 109 = some 108 ∧
  vinfo Tryz.prog 109 = some (108, 1, 8) ∧
  intk Tryz.prog 109 = none ∧
  zel Tryz.prog 109 = some (.v (.slice none 0 0)) ∧
  zl Tryz.prog 109 = some [.v (.slice none 0 0)] ∧
  tinfo Tryz.prog 120 = some (true, 5) ∧
  zel Tryz.prog 120 = some (.agg [.v (.int .i64 0), .v (.int .i64 0), .v (.string ByteArray.empty), .v (.slice none 0 0), .v (.int .i64 0)]) ∧
  zl Tryz.prog 120 = some [.v (.int .i64 0), .v (.int .i64 0), .v (.string ByteArray.empty), .v (.slice none 0 0), .v (.int .i64 0)] := by
  and_intros <;> kernel_rfl
@[simp] theorem tab_c25 : binfo Tryz.prog 120 = some [(0, 4), (4, 1)] ∧
  finfo Tryz.prog 120 0 = some (0, 25) ∧
  finfo Tryz.prog 120 1 = some (4, 3) ∧
  tinfo Tryz.prog 121 = some (true, 5) ∧
  zel Tryz.prog 121 = some (.agg [.v (.int .i64 0), .v (.int .i64 0), .v (.string ByteArray.empty), .v (.slice none 0 0), .v (.int .i64 0)]) ∧
  zl Tryz.prog 121 = some [.v (.int .i64 0), .v (.int .i64 0), .v (.string ByteArray.empty), .v (.slice none 0 0), .v (.int .i64 0)] ∧
  binfo Tryz.prog 121 = some [(0, 4), (4, 1)] ∧
  finfo Tryz.prog 121 0 = some (0, 25) ∧
  finfo Tryz.prog 121 1 = some (4, 3) ∧
  tinfo Tryz.prog 140 = some (true, 6) ∧
  zel Tryz.prog 140 = some (.agg [.v (.int .i64 0), .v (.int .i64 0), .v (.string ByteArray.empty), .v (.int .i64 0), .v (.int .i64 0), .v (.string ByteArray.empty)]) ∧
  zl Tryz.prog 140 = some [.v (.int .i64 0), .v (.int .i64 0), .v (.string ByteArray.empty), .v (.int .i64 0), .v (.int .i64 0), .v (.string ByteArray.empty)] ∧
  binfo Tryz.prog 140 = some [(0, 3), (3, 3)] ∧
  finfo Tryz.prog 140 0 = some (0, 39) ∧
  finfo Tryz.prog 140 1 = some (3, 39) ∧
  tinfo Tryz.prog 141 = some (true, 6) ∧
  zel Tryz.prog 141 = some (.agg [.v (.int .i64 0), .v (.int .i64 0), .v (.string ByteArray.empty), .v (.int .i64 0), .v (.int .i64 0), .v (.string ByteArray.empty)]) ∧
  zl Tryz.prog 141 = some [.v (.int .i64 0), .v (.int .i64 0), .v (.string ByteArray.empty), .v (.int .i64 0), .v (.int .i64 0), .v (.string ByteArray.empty)] ∧
  binfo Tryz.prog 141 = some [(0, 3), (3, 3)] ∧
  finfo Tryz.prog 141 0 = some (0, 39) := by
  and_intros <;> kernel_rfl
@[simp] theorem tab_c26 : finfo Tryz.prog 141 1 = some (3, 39) ∧
  tinfo Tryz.prog 142 = some (false, 1) ∧
  zel Tryz.prog 142 = some (.v (.map none)) ∧
  zl Tryz.prog 142 = some [.v (.map none)] ∧
  tinfo Tryz.prog 143 = some (true, 3) ∧
  zel Tryz.prog 143 = some (.agg [.v (.int .i64 0), .v (.int .i64 0), .v (.int .i64 0)]) ∧
  tinfo Tryz.prog 144 = some (true, 6) ∧
  zel Tryz.prog 144 = some (.agg [.v (.int .i64 0), .v (.int .i64 0), .v (.string ByteArray.empty), .v (.int .i64 0), .v (.int .i64 0), .v (.int .i64 0)]) ∧
  zl Tryz.prog 144 = some [.v (.int .i64 0), .v (.int .i64 0), .v (.string ByteArray.empty), .v (.int .i64 0), .v (.int .i64 0), .v (.int .i64 0)] ∧
  binfo Tryz.prog 144 = some [(0, 1), (1, 1), (2, 1), (3, 3)] ∧
  finfo Tryz.prog 144 0 = some (0, 3) ∧
  finfo Tryz.prog 144 1 = some (1, 3) ∧
  finfo Tryz.prog 144 2 = some (2, 9) ∧
  finfo Tryz.prog 144 3 = some (3, 143) ∧
  tinfo Tryz.prog 145 = some (true, 6) ∧
  zel Tryz.prog 145 = some (.agg [.v (.int .i64 0), .v (.int .i64 0), .v (.string ByteArray.empty), .v (.int .i64 0), .v (.int .i64 0), .v (.int .i64 0)]) ∧
  zl Tryz.prog 145 = some [.v (.int .i64 0), .v (.int .i64 0), .v (.string ByteArray.empty), .v (.int .i64 0), .v (.int .i64 0), .v (.int .i64 0)] ∧
  binfo Tryz.prog 145 = some [(0, 1), (1, 1), (2, 1), (3, 3)] ∧
  finfo Tryz.prog 145 0 = some (0, 3) ∧
  finfo Tryz.prog 145 1 = some (1, 3) := by
  and_intros <;> kernel_rfl
@[simp] theorem tab_c27 : finfo Tryz.prog 145 2 = some (2, 9) ∧
  finfo Tryz.prog 145 3 = some (3, 143) ∧
  tinfo Tryz.prog 150 = some (false, 1) ∧
  intk Tryz.prog 150 = some .u64 ∧
  zel Tryz.prog 150 = some (.v (.int .u64 0)) ∧
  zl Tryz.prog 150 = some [.v (.int .u64 0)] ∧
  tinfo Tryz.prog 154 = some (true, 4) ∧
  zel Tryz.prog 154 = some (.agg [.v (.int .i64 0), .v (.int .i64 0), .v (.string ByteArray.empty), .v (.int .i64 0)]) ∧
  zl Tryz.prog 154 = some [.v (.int .i64 0), .v (.int .i64 0), .v (.string ByteArray.empty), .v (.int .i64 0)] ∧
  binfo Tryz.prog 154 = some [(0, 3), (3, 1)] ∧
  finfo Tryz.prog 154 0 = some (0, 39) ∧
  finfo Tryz.prog 154 1 = some (3, 3) ∧
  tinfo Tryz.prog 155 = some (true, 4) ∧
  zel Tryz.prog 155 = some (.agg [.v (.int .i64 0), .v (.int .i64 0), .v (.string ByteArray.empty), .v (.int .i64 0)]) ∧
  zl Tryz.prog 155 = some [.v (.int .i64 0), .v (.int .i64 0), .v (.string ByteArray.empty), .v (.int .i64 0)] ∧
  binfo Tryz.prog 155 = some [(0, 3), (3, 1)] ∧
  finfo Tryz.prog 155 0 = some (0, 39) ∧
  finfo Tryz.prog 155 1 = some (3, 3) ∧
  tinfo Tryz.prog 161 = some (true, 3) ∧
  zel Tryz.prog 161 = some (.agg [.v (.int .i64 0), .v (.int .i64 0), .v (.string ByteArray.empty)]) := by
  and_intros <;> kernel_rfl
@[simp] theorem tab_c28 : zl Tryz.prog 161 = some [.v (.int .i64 0), .v (.int .i64 0), .v (.string ByteArray.empty)] ∧
  binfo Tryz.prog 161 = some [(0, 1), (1, 1), (2, 1)] ∧
  finfo Tryz.prog 161 0 = some (0, 3) ∧
  finfo Tryz.prog 161 1 = some (1, 3) ∧
  finfo Tryz.prog 161 2 = some (2, 9) ∧
  tinfo Tryz.prog 162 = some (true, 3) ∧
  zel Tryz.prog 162 = some (.agg [.v (.int .i64 0), .v (.int .i64 0), .v (.string ByteArray.empty)]) ∧
  zl Tryz.prog 162 = some [.v (.int .i64 0), .v (.int .i64 0), .v (.string ByteArray.empty)] ∧
  binfo Tryz.prog 162 = some [(0, 1), (1, 1), (2, 1)] ∧
  finfo Tryz.prog 162 0 = some (0, 3) ∧
  finfo Tryz.prog 162 1 = some (1, 3) ∧
  finfo Tryz.prog 162 2 = some (2, 9) ∧
  tinfo Tryz.prog 164 = some (false, 1) ∧
  zel Tryz.prog 164 = some (.v (.pointer none)) ∧
  zl Tryz.prog 164 = some [.v (.pointer none)] ∧
  tinfo Tryz.prog 165 = some (false, 1) ∧
  einfo Tryz.prog 165 = some 26 ∧
  vinfo Tryz.prog 165 = some (26, 1, 24) ∧
  intk Tryz.prog 165 = none ∧
  zel Tryz.prog 165 = some (.v (.slice none 0 0)) := by
  and_intros <;> kernel_rfl
@[simp] theorem tab_c29 : zl Tryz.prog 165 = some [.v (.slice none 0 0)] ∧
  tinfo Tryz.prog 166 = some (true, 2) ∧
  zel Tryz.prog 166 = some (.agg [.v (.slice none 0 0), .v (.slice none 0 0)]) ∧
  zl Tryz.prog 166 = some [.v (.slice none 0 0), .v (.slice none 0 0)] ∧
  binfo Tryz.prog 166 = some [(0, 1), (1, 1)] ∧
  finfo Tryz.prog 166 0 = some (0, 59) ∧
  finfo Tryz.prog 166 1 = some (1, 165) ∧
  tinfo Tryz.prog 167 = some (true, 2) ∧
  zel Tryz.prog 167 = some (.agg [.v (.slice none 0 0), .v (.slice none 0 0)]) ∧
  zl Tryz.prog 167 = some [.v (.slice none 0 0), .v (.slice none 0 0)] ∧
  binfo Tryz.prog 167 = some [(0, 1), (1, 1)] ∧
  finfo Tryz.prog 167 0 = some (0, 59) ∧
  finfo Tryz.prog 167 1 = some (1, 165) ∧
  tinfo Tryz.prog 169 = some (false, 1) ∧
  einfo Tryz.prog 169 = some 168 ∧
  vinfo Tryz.prog 169 = some (168, 1, 8) ∧
  intk Tryz.prog 169 = none ∧
  zel Tryz.prog 169 = some (.v (.slice none 0 0)) ∧
  zl Tryz.prog 169 = some [.v (.slice none 0 0)] ∧
  tinfo Tryz.prog 177 = some (false, 1) := by
  and_intros <;> kernel_rfl
@[simp] theorem tab_c30 : intk Tryz.prog 177 = some .i64 ∧
  zel Tryz.prog 177 = some (.v (.int .i64 0)) ∧
  zl Tryz.prog 177 = some [.v (.int .i64 0)] ∧
  tinfo Tryz.prog 185 = some (false, 1) ∧
  intk Tryz.prog 185 = some .u32 ∧
  zel Tryz.prog 185 = some (.v (.int .u32 0)) ∧
  zl Tryz.prog 185 = some [.v (.int .u32 0)] ∧
  tinfo Tryz.prog 187 = some (false, 1) ∧
  intk Tryz.prog 187 = some .u64 ∧
  zel Tryz.prog 187 = some (.v (.int .u64 0)) ∧
  zl Tryz.prog 187 = some [.v (.int .u64 0)] ∧
  tinfo Tryz.prog 197 = some (true, 23) ∧
  zel Tryz.prog 197 = some (.agg [.v (.string ByteArray.empty), .v (.string ByteArray.empty), .v (.string ByteArray.empty), .v (.string ByteArray.empty), .v (.string ByteArray.empty), .v (.string ByteArray.empty), .v (.string ByteArray.empty), .v (.string ByteArray.empty), .v (.string ByteArray.empty), .v (.string ByteArray.empty), .v (.string ByteArray.empty), .v (.string ByteArray.empty), .v (.string ByteArray.empty), .v (.string ByteArray.empty), .v (.string ByteArray.empty), .v (.string ByteArray.empty), .v (.string ByteArray.empty), .v (.string ByteArray.empty), .v (.string ByteArray.empty), .v (.string ByteArray.empty), .v (.string ByteArray.empty), .v (.string ByteArray.empty), .v (.string ByteArray.empty)]) ∧
  tinfo Tryz.prog 198 = some (false, 1) ∧
  intk Tryz.prog 198 = some .u64 ∧
  zel Tryz.prog 198 = some (.v (.int .u64 0)) ∧
  zl Tryz.prog 198 = some [.v (.int .u64 0)] ∧
  tinfo Tryz.prog 204 = some (false, 1) ∧
  einfo Tryz.prog 204 = some 9 ∧
  vinfo Tryz.prog 204 = some (9, 1, 16) := by
  and_intros <;> kernel_rfl
@[simp] theorem tab_c31 : intk Tryz.prog 204 = none ∧
  zel Tryz.prog 204 = some (.v (.slice none 0 0)) ∧
  zl Tryz.prog 204 = some [.v (.slice none 0 0)] ∧
  tinfo Tryz.prog 210 = some (false, 1) ∧
  zel Tryz.prog 210 = some (.v (.pointer none)) ∧
  zl Tryz.prog 210 = some [.v (.pointer none)] ∧
  tinfo Tryz.prog 214 = some (true, 4) ∧
  zel Tryz.prog 214 = some (.agg [.v (.pointer none), .v (.pointer none), .v (.pointer none), .v (.string ByteArray.empty)]) ∧
  zl Tryz.prog 214 = some [.v (.pointer none), .v (.pointer none), .v (.pointer none), .v (.string ByteArray.empty)] ∧
  binfo Tryz.prog 214 = some [(0, 1), (1, 1), (2, 1), (3, 1)] ∧
  finfo Tryz.prog 214 0 = some (0, 17) ∧
  finfo Tryz.prog 214 1 = some (1, 17) ∧
  finfo Tryz.prog 214 2 = some (2, 17) ∧
  finfo Tryz.prog 214 3 = some (3, 9) ∧
  tinfo Tryz.prog 215 = some (true, 4) ∧
  zel Tryz.prog 215 = some (.agg [.v (.pointer none), .v (.pointer none), .v (.pointer none), .v (.string ByteArray.empty)]) ∧
  zl Tryz.prog 215 = some [.v (.pointer none), .v (.pointer none), .v (.pointer none), .v (.string ByteArray.empty)] ∧
  binfo Tryz.prog 215 = some [(0, 1), (1, 1), (2, 1), (3, 1)] ∧
  finfo Tryz.prog 215 0 = some (0, 17) ∧
  finfo Tryz.prog 215 1 = some (1, 17) := by
  and_intros <;> kernel_rfl
@[simp] theorem tab_c32 : finfo Tryz.prog 215 2 = some (2, 17) ∧
  finfo Tryz.prog 215 3 = some (3, 9) ∧
  tinfo Tryz.prog 216 = some (true, 0) ∧
  tinfo Tryz.prog 217 = some (true, 0) ∧
  zl Tryz.prog 217 = some [] ∧
  binfo Tryz.prog 217 = some [(0, 0)] ∧
  finfo Tryz.prog 217 0 = some (0, 216) ∧
  tinfo Tryz.prog 218 = some (true, 0) ∧
  zl Tryz.prog 218 = some [] ∧
  binfo Tryz.prog 218 = some [(0, 0)] ∧
  finfo Tryz.prog 218 0 = some (0, 216) ∧
  tinfo Tryz.prog 220 = some (false, 1) ∧
  intk Tryz.prog 220 = some .u8 ∧
  zel Tryz.prog 220 = some (.v (.int .u8 0)) ∧
  zl Tryz.prog 220 = some [.v (.int .u8 0)] ∧
  tinfo Tryz.prog 221 = some (false, 1) ∧
  intk Tryz.prog 221 = some .u8 ∧
  zel Tryz.prog 221 = some (.v (.int .u8 0)) ∧
  zl Tryz.prog 221 = some [.v (.int .u8 0)] ∧
  tinfo Tryz.prog 223 = some (false, 1) := by
  and_intros <;> kernel_rfl
@[simp] theorem tab_c33 : zel Tryz.prog 223 = some (.v (.pointer none)) ∧
  zl Tryz.prog 223 = some [.v (.pointer none)] ∧
  tinfo Tryz.prog 224 = some (false, 1) ∧
  intk Tryz.prog 224 = some .i32 ∧
  zel Tryz.prog 224 = some (.v (.int .i32 0)) ∧
  zl Tryz.prog 224 = some [.v (.int .i32 0)] ∧
  tinfo Tryz.prog 225 = some (false, 1) ∧
  intk Tryz.prog 225 = some .i32 ∧
  zel Tryz.prog 225 = some (.v (.int .i32 0)) ∧
  zl Tryz.prog 225 = some [.v (.int .i32 0)] ∧
  tinfo Tryz.prog 226 = some (true, 11) ∧
  zel Tryz.prog 226 = some (.agg [.v (.int .u64 0), .v (.int .u64 0), .v (.int .u32 0), .v (.int .u8 0), .v (.int .u8 0), .v (.int .u8 0), .v (.int .u8 0), .v (.nilFunc), .v (.pointer none), .v (.int .i32 0), .v (.int .i32 0)]) ∧
  zl Tryz.prog 226 = some [.v (.int .u64 0), .v (.int .u64 0), .v (.int .u32 0), .v (.int .u8 0), .v (.int .u8 0), .v (.int .u8 0), .v (.int .u8 0), .v (.nilFunc), .v (.pointer none), .v (.int .i32 0), .v (.int .i32 0)] ∧
  binfo Tryz.prog 226 = some [(0, 1), (1, 1), (2, 1), (3, 1), (4, 1), (5, 1), (6, 1), (7, 1), (8, 1), (9, 1), (10, 1)] ∧
  finfo Tryz.prog 226 0 = some (0, 12) ∧
  finfo Tryz.prog 226 1 = some (1, 12) ∧
  finfo Tryz.prog 226 2 = some (2, 185) ∧
  finfo Tryz.prog 226 3 = some (3, 220) ∧
  finfo Tryz.prog 226 4 = some (4, 5) ∧
  finfo Tryz.prog 226 5 = some (5, 5) := by
  and_intros <;> kernel_rfl
@[simp] theorem tab_c34 : finfo Tryz.prog 226 6 = some (6, 221) ∧
  finfo Tryz.prog 226 7 = some (7, 222) ∧
  finfo Tryz.prog 226 8 = some (8, 223) ∧
  finfo Tryz.prog 226 9 = some (9, 224) ∧
  finfo Tryz.prog 226 10 = some (10, 225) ∧
  tinfo Tryz.prog 227 = some (true, 11) ∧
  zel Tryz.prog 227 = some (.agg [.v (.int .u64 0), .v (.int .u64 0), .v (.int .u32 0), .v (.int .u8 0), .v (.int .u8 0), .v (.int .u8 0), .v (.int .u8 0), .v (.nilFunc), .v (.pointer none), .v (.int .i32 0), .v (.int .i32 0)]) ∧
  zl Tryz.prog 227 = some [.v (.int .u64 0), .v (.int .u64 0), .v (.int .u32 0), .v (.int .u8 0), .v (.int .u8 0), .v (.int .u8 0), .v (.int .u8 0), .v (.nilFunc), .v (.pointer none), .v (.int .i32 0), .v (.int .i32 0)] ∧
  binfo Tryz.prog 227 = some [(0, 1), (1, 1), (2, 1), (3, 1), (4, 1), (5, 1), (6, 1), (7, 1), (8, 1), (9, 1), (10, 1)] ∧
  finfo Tryz.prog 227 0 = some (0, 12) ∧
  finfo Tryz.prog 227 1 = some (1, 12) ∧
  finfo Tryz.prog 227 2 = some (2, 185) ∧
  finfo Tryz.prog 227 3 = some (3, 220) ∧
  finfo Tryz.prog 227 4 = some (4, 5) ∧
  finfo Tryz.prog 227 5 = some (5, 5) ∧
  finfo Tryz.prog 227 6 = some (6, 221) ∧
  finfo Tryz.prog 227 7 = some (7, 222) ∧
  finfo Tryz.prog 227 8 = some (8, 223) ∧
  finfo Tryz.prog 227 9 = some (9, 224) ∧
  finfo Tryz.prog 227 10 = some (10, 225) := by
  and_intros <;> kernel_rfl
@[simp] theorem tab_c35 : tinfo Tryz.prog 228 = some (true, 3) ∧
  zel Tryz.prog 228 = some (.agg [.v (.string ByteArray.empty), .v (.int .i64 0), .v (.string ByteArray.empty)]) ∧
  zl Tryz.prog 228 = some [.v (.string ByteArray.empty), .v (.int .i64 0), .v (.string ByteArray.empty)] ∧
  binfo Tryz.prog 228 = some [(0, 1), (1, 1), (2, 1)] ∧
  finfo Tryz.prog 228 0 = some (0, 9) ∧
  finfo Tryz.prog 228 1 = some (1, 3) ∧
  finfo Tryz.prog 228 2 = some (2, 9) ∧
  tinfo Tryz.prog 229 = some (true, 3) ∧
  zel Tryz.prog 229 = some (.agg [.v (.string ByteArray.empty), .v (.int .i64 0), .v (.string ByteArray.empty)]) ∧
  zl Tryz.prog 229 = some [.v (.string ByteArray.empty), .v (.int .i64 0), .v (.string ByteArray.empty)] ∧
  binfo Tryz.prog 229 = some [(0, 1), (1, 1), (2, 1)] ∧
  finfo Tryz.prog 229 0 = some (0, 9) ∧
  finfo Tryz.prog 229 1 = some (1, 3) ∧
  finfo Tryz.prog 229 2 = some (2, 9) ∧
  tinfo Tryz.prog 230 = some (false, 1) ∧
  zel Tryz.prog 230 = some (.v (.pointer none)) ∧
  enters Tryz.prog 2 = true ∧
  enters Tryz.prog 3 = true ∧
  enters Tryz.prog 4 = true ∧
  enters Tryz.prog 5 = true := by
  and_intros <;> kernel_rfl
@[simp] theorem tab_c36 : enters Tryz.prog 6 = true ∧
  enters Tryz.prog 7 = true ∧
  enters Tryz.prog 8 = true ∧
  enters Tryz.prog 9 = true ∧
  enters Tryz.prog 10 = true ∧
  enters Tryz.prog 11 = true ∧
  enters Tryz.prog 12 = true ∧
  enters Tryz.prog 13 = true ∧
  enters Tryz.prog 14 = true ∧
  enters Tryz.prog 15 = true ∧
  enters Tryz.prog 16 = true ∧
  enters Tryz.prog 17 = true ∧
  enters Tryz.prog 18 = true ∧
  enters Tryz.prog 19 = true ∧
  enters Tryz.prog 20 = true ∧
  enters Tryz.prog 21 = true ∧
  enters Tryz.prog 22 = true ∧
  enters Tryz.prog 23 = true ∧
  enters Tryz.prog 24 = true ∧
  enters Tryz.prog 25 = true := by
  and_intros <;> kernel_rfl
@[simp] theorem tab_c37 : enters Tryz.prog 26 = true ∧
  enters Tryz.prog 27 = true ∧
  enters Tryz.prog 28 = true ∧
  enters Tryz.prog 29 = true ∧
  enters Tryz.prog 30 = true ∧
  enters Tryz.prog 31 = true ∧
  enters Tryz.prog 32 = true ∧
  enters Tryz.prog 33 = true ∧
  enters Tryz.prog 34 = true ∧
  enters Tryz.prog 35 = true ∧
  enters Tryz.prog 36 = true ∧
  enters Tryz.prog 37 = true ∧
  enters Tryz.prog 38 = true ∧
  enters Tryz.prog 39 = true ∧
  enters Tryz.prog 40 = true ∧
  enters Tryz.prog 41 = true ∧
  enters Tryz.prog 42 = true ∧
  enters Tryz.prog 43 = true ∧
  enters Tryz.prog 44 = true ∧
  enters Tryz.prog 45 = true := by
  and_intros <;> kernel_rfl
@[simp] theorem tab_c38 : enters Tryz.prog 46 = true ∧
  enters Tryz.prog 47 = true ∧
  enters Tryz.prog 48 = true ∧
  enters Tryz.prog 49 = true ∧
  enters Tryz.prog 50 = true ∧
  enters Tryz.prog 51 = true ∧
  enters Tryz.prog 52 = true ∧
  enters Tryz.prog 53 = true ∧
  enters Tryz.prog 54 = true ∧
  enters Tryz.prog 55 = true ∧
  enters Tryz.prog 56 = true ∧
  enters Tryz.prog 57 = true ∧
  enters Tryz.prog 58 = true ∧
  enters Tryz.prog 59 = true ∧
  enters Tryz.prog 60 = true ∧
  enters Tryz.prog 61 = true ∧
  enters Tryz.prog 62 = true ∧
  enters Tryz.prog 63 = true ∧
  enters Tryz.prog 64 = true ∧
  enters Tryz.prog 65 = true := by
  and_intros <;> kernel_rfl
@[simp] theorem tab_c39 : enters Tryz.prog 66 = true ∧
  enters Tryz.prog 67 = true ∧
  enters Tryz.prog 68 = true ∧
  enters Tryz.prog 69 = true ∧
  enters Tryz.prog 70 = true ∧
  enters Tryz.prog 71 = true ∧
  enters Tryz.prog 72 = true ∧
  enters Tryz.prog 73 = true ∧
  enters Tryz.prog 74 = true ∧
  enters Tryz.prog 75 = true ∧
  enters Tryz.prog 76 = true ∧
  enters Tryz.prog 77 = true ∧
  enters Tryz.prog 78 = true ∧
  enters Tryz.prog 79 = true ∧
  enters Tryz.prog 80 = true ∧
  enters Tryz.prog 81 = true ∧
  enters Tryz.prog 82 = true ∧
  enters Tryz.prog 83 = true ∧
  enters Tryz.prog 84 = true ∧
  enters Tryz.prog 85 = true := by
  and_intros <;> kernel_rfl
@[simp] theorem tab_c40 : enters Tryz.prog 86 = true ∧
  enters Tryz.prog 87 = true ∧
  enters Tryz.prog 88 = true ∧
  enters Tryz.prog 89 = true ∧
  enters Tryz.prog 90 = true ∧
  enters Tryz.prog 91 = true ∧
  enters Tryz.prog 92 = true ∧
  enters Tryz.prog 93 = true ∧
  enters Tryz.prog 94 = true ∧
  enters Tryz.prog 95 = true ∧
  enters Tryz.prog 96 = true ∧
  enters Tryz.prog 97 = true ∧
  enters Tryz.prog 98 = true ∧
  enters Tryz.prog 99 = true ∧
  enters Tryz.prog 100 = true ∧
  enters Tryz.prog 101 = true ∧
  enters Tryz.prog 102 = true ∧
  enters Tryz.prog 103 = true ∧
  enters Tryz.prog 104 = true ∧
  enters Tryz.prog 105 = true := by
  and_intros <;> kernel_rfl
@[simp] theorem tab_c41 : enters Tryz.prog 106 = true ∧
  enters Tryz.prog 107 = true ∧
  enters Tryz.prog 108 = true ∧
  enters Tryz.prog 109 = true ∧
  enters Tryz.prog 110 = true ∧
  enters Tryz.prog 111 = true ∧
  enters Tryz.prog 112 = true ∧
  enters Tryz.prog 113 = true ∧
  enters Tryz.prog 114 = true ∧
  enters Tryz.prog 115 = true ∧
  enters Tryz.prog 116 = true ∧
  enters Tryz.prog 117 = true ∧
  enters Tryz.prog 118 = true ∧
  enters Tryz.prog 119 = true ∧
  enters Tryz.prog 120 = true ∧
  enters Tryz.prog 121 = true ∧
  enters Tryz.prog 122 = true ∧
  enters Tryz.prog 123 = true ∧
  enters Tryz.prog 124 = true ∧
  enters Tryz.prog 125 = true := by
  and_intros <;> kernel_rfl
@[simp] theorem tab_c42 : enters Tryz.prog 126 = true ∧
  enters Tryz.prog 127 = true ∧
  enters Tryz.prog 128 = true ∧
  enters Tryz.prog 129 = true ∧
  enters Tryz.prog 130 = true ∧
  enters Tryz.prog 131 = true ∧
  enters Tryz.prog 132 = true ∧
  enters Tryz.prog 133 = true ∧
  enters Tryz.prog 134 = true ∧
  enters Tryz.prog 135 = true ∧
  enters Tryz.prog 136 = true ∧
  enters Tryz.prog 137 = true ∧
  enters Tryz.prog 138 = true ∧
  enters Tryz.prog 139 = true ∧
  enters Tryz.prog 140 = true ∧
  enters Tryz.prog 141 = true ∧
  enters Tryz.prog 142 = true ∧
  enters Tryz.prog 143 = true ∧
  enters Tryz.prog 144 = true ∧
  enters Tryz.prog 145 = true := by
  and_intros <;> kernel_rfl
@[simp] theorem tab_c43 : enters Tryz.prog 146 = true ∧
  enters Tryz.prog 147 = true ∧
  enters Tryz.prog 148 = true ∧
  enters Tryz.prog 149 = true ∧
  enters Tryz.prog 150 = true ∧
  enters Tryz.prog 151 = true ∧
  enters Tryz.prog 152 = true ∧
  enters Tryz.prog 153 = true ∧
  enters Tryz.prog 154 = true ∧
  enters Tryz.prog 155 = true ∧
  enters Tryz.prog 156 = true ∧
  enters Tryz.prog 157 = true ∧
  enters Tryz.prog 158 = true ∧
  enters Tryz.prog 159 = true ∧
  enters Tryz.prog 160 = true ∧
  enters Tryz.prog 161 = true ∧
  enters Tryz.prog 162 = true ∧
  enters Tryz.prog 163 = true ∧
  enters Tryz.prog 164 = true ∧
  enters Tryz.prog 165 = true := by
  and_intros <;> kernel_rfl
@[simp] theorem tab_c44 : enters Tryz.prog 166 = true ∧
  enters Tryz.prog 167 = true ∧
  enters Tryz.prog 168 = true ∧
  enters Tryz.prog 169 = true ∧
  enters Tryz.prog 170 = true ∧
  enters Tryz.prog 171 = true ∧
  enters Tryz.prog 172 = true ∧
  enters Tryz.prog 173 = true ∧
  enters Tryz.prog 174 = true ∧
  enters Tryz.prog 175 = true ∧
  enters Tryz.prog 176 = true ∧
  enters Tryz.prog 177 = true ∧
  enters Tryz.prog 178 = true ∧
  enters Tryz.prog 179 = true ∧
  enters Tryz.prog 180 = true ∧
  enters Tryz.prog 181 = true ∧
  enters Tryz.prog 182 = true ∧
  enters Tryz.prog 183 = true ∧
  enters Tryz.prog 184 = true ∧
  enters Tryz.prog 185 = true := by
  and_intros <;> kernel_rfl
@[simp] theorem tab_c45 : enters Tryz.prog 186 = true ∧
  enters Tryz.prog 187 = true ∧
  enters Tryz.prog 188 = true ∧
  enters Tryz.prog 189 = true ∧
  enters Tryz.prog 190 = true ∧
  enters Tryz.prog 191 = true ∧
  enters Tryz.prog 192 = true ∧
  enters Tryz.prog 193 = true ∧
  enters Tryz.prog 194 = true ∧
  enters Tryz.prog 195 = true ∧
  enters Tryz.prog 196 = true ∧
  enters Tryz.prog 197 = true ∧
  enters Tryz.prog 198 = true ∧
  enters Tryz.prog 199 = true ∧
  enters Tryz.prog 221 = true := by
  and_intros <;> kernel_rfl
end Go.Proofs.YtnkimlkoijfcpaaGreatDoor

/- Scalars and lists of them as abstract values. -/
namespace Go.Proofs.YtnkimlkoijfcpaaGreatDoor
open Go.RowKit Go.Lib
abbrev AV.int (n : Int) : AV := .v (.int .i64 n)
abbrev AV.str (s : ByteArray) : AV := .v (.string s)
abbrev AV.bool (b : Bool) : AV := .v (.bool b)
@[simp] theorem AV.wid_ints (l : List Int) : AV.wid (l.map AV.int) 1 := AV.wid_map (f := AV.int) (fun _ => rfl) l
@[simp] theorem AV.wid_strs (l : List ByteArray) : AV.wid (l.map AV.str) 1 := AV.wid_map (f := AV.str) (fun _ => rfl) l
@[simp] theorem AV.wid_bools (l : List Bool) : AV.wid (l.map AV.bool) 1 := AV.wid_map (f := AV.bool) (fun _ => rfl) l
@[simp] theorem AV.wid_bytes (l : List UInt8) : AV.wid (l.map AV.byte) 1 := AV.wid_map (f := AV.byte) (fun _ => rfl) l
@[simp] theorem AV.elms_bytes (l : List UInt8) : AV.elms (l.map AV.byte) := AV.elms_map (f := AV.byte) (fun _ => rfl) l
@[simp] theorem AV.elms_ints (l : List Int) : AV.elms (l.map AV.int) := AV.elms_map (f := AV.int) (fun _ => rfl) l
@[simp] theorem AV.elms_strs (l : List ByteArray) : AV.elms (l.map AV.str) := AV.elms_map (f := AV.str) (fun _ => rfl) l
@[simp] theorem AV.elms_bools (l : List Bool) : AV.elms (l.map AV.bool) := AV.elms_map (f := AV.bool) (fun _ => rfl) l
@[simp] theorem AV.cls_append (m : Nat) (a b : List AV) : AV.cls m (a ++ b) ↔ AV.cls m a ∧ AV.cls m b := by
  rw [AV.cls_iff, AV.cls_iff, AV.cls_iff]
  exact ⟨fun h => ⟨fun y hy => h y (by simp [hy]), fun y hy => h y (by simp [hy])⟩, fun h y hy => (List.mem_append.1 hy).elim (h.1 y) (h.2 y)⟩
@[simp] theorem AV.cls_map {α : Type} {f : α → AV} {m : Nat} (h : ∀ a, (f a).cl m) (l : List α) : AV.cls m (l.map f) := by
  rw [AV.cls_iff]
  intro x hx
  obtain ⟨a, -, rfl⟩ := List.mem_map.1 hx
  exact h a
@[simp] theorem AV.cls_ints (l : List Int) (m : Nat) : AV.cls m (l.map AV.int) := AV.cls_map (fun _ => by simp) l
@[simp] theorem AV.cls_strs (l : List ByteArray) (m : Nat) : AV.cls m (l.map AV.str) := AV.cls_map (fun _ => by simp) l
@[simp] theorem AV.cls_bools (l : List Bool) (m : Nat) : AV.cls m (l.map AV.bool) := AV.cls_map (fun _ => by simp) l
@[simp] theorem AV.cls_bytes (l : List UInt8) (m : Nat) : AV.cls m (l.map AV.byte) := AV.cls_map (fun _ => by simp) l
end Go.Proofs.YtnkimlkoijfcpaaGreatDoor
