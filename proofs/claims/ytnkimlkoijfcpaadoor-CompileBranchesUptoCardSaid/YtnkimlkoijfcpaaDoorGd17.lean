/- Closed facts of the program: types, fields, functions. -/
import Derived.Test.YtnkimlkoijfcpaaDoorProg
import Derived.KernelRfl
import Derived.Test.YtnkimlkoijfcpaaDoorGd16
set_option linter.unusedSimpArgs false
set_option linter.unusedVariables false
namespace Go.Proofs.YtnkimlkoijfcpaaDoor
open Go.RowKit Go.Lib
@[simp] theorem tab_c7 : tinfo Tryd.prog 2 = some (false, 1) ∧
  intk Tryd.prog 2 = some .i64 ∧
  zel Tryd.prog 2 = some (.v (.int .i64 0)) ∧
  tinfo Tryd.prog 3 = some (false, 1) ∧
  intk Tryd.prog 3 = some .i64 ∧
  zel Tryd.prog 3 = some (.v (.int .i64 0)) ∧
  zl Tryd.prog 3 = some [.v (.int .i64 0)] ∧
  tinfo Tryd.prog 4 = some (false, 1) ∧
  fkind Tryd.prog 4 = some 1 ∧
  zel Tryd.prog 4 = some (.v (.bool false)) ∧
  zl Tryd.prog 4 = some [.v (.bool false)] ∧
  tinfo Tryd.prog 5 = some (false, 1) ∧
  intk Tryd.prog 5 = some .u8 ∧
  zel Tryd.prog 5 = some (.v (.int .u8 0)) ∧
  zl Tryd.prog 5 = some [.v (.int .u8 0)] ∧
  tinfo Tryd.prog 6 = some (false, 1) ∧
  intk Tryd.prog 6 = some .u8 ∧
  zel Tryd.prog 6 = some (.v (.int .u8 0)) ∧
  zl Tryd.prog 6 = some [.v (.int .u8 0)] ∧
  tinfo Tryd.prog 7 = some (true, 4) := by
  and_intros <;> kernel_rfl
@[simp] theorem tab_c8 : zel Tryd.prog 7 = some (.agg [.v (.int .i64 0), .v (.int .i64 0), .v (.bool false), .v (.int .u8 0)]) ∧
  zl Tryd.prog 7 = some [.v (.int .i64 0), .v (.int .i64 0), .v (.bool false), .v (.int .u8 0)] ∧
  tinfo Tryd.prog 8 = some (true, 4) ∧
  zel Tryd.prog 8 = some (.agg [.v (.int .i64 0), .v (.int .i64 0), .v (.bool false), .v (.int .u8 0)]) ∧
  zl Tryd.prog 8 = some [.v (.int .i64 0), .v (.int .i64 0), .v (.bool false), .v (.int .u8 0)] ∧
  tinfo Tryd.prog 9 = some (false, 1) ∧
  intk Tryd.prog 9 = none ∧
  zel Tryd.prog 9 = some (.v (.string ByteArray.empty)) ∧
  Tryd.prog.underlying 9 = some .string ∧
  zl Tryd.prog 9 = some [.v (.string ByteArray.empty)] ∧
  tinfo Tryd.prog 10 = some (false, 1) ∧
  intk Tryd.prog 10 = none ∧
  zel Tryd.prog 10 = some (.v (.string ByteArray.empty)) ∧
  Tryd.prog.underlying 10 = some .string ∧
  zl Tryd.prog 10 = some [.v (.string ByteArray.empty)] ∧
  tinfo Tryd.prog 11 = some (false, 1) ∧
  intk Tryd.prog 11 = none ∧
  zel Tryd.prog 11 = some (.v (.string ByteArray.empty)) ∧
  Tryd.prog.underlying 11 = some .string ∧
  zl Tryd.prog 11 = some [.v (.string ByteArray.empty)] := by
  and_intros <;> kernel_rfl
@[simp] theorem tab_c9 : tinfo Tryd.prog 12 = some (false, 1) ∧
  intk Tryd.prog 12 = some .u64 ∧
  zel Tryd.prog 12 = some (.v (.int .u64 0)) ∧
  zl Tryd.prog 12 = some [.v (.int .u64 0)] ∧
  tinfo Tryd.prog 13 = some (true, 2) ∧
  zel Tryd.prog 13 = some (.agg [.v (.string ByteArray.empty), .v (.int .u64 0)]) ∧
  zl Tryd.prog 13 = some [.v (.string ByteArray.empty), .v (.int .u64 0)] ∧
  tinfo Tryd.prog 14 = some (true, 2) ∧
  zel Tryd.prog 14 = some (.agg [.v (.string ByteArray.empty), .v (.int .u64 0)]) ∧
  zl Tryd.prog 14 = some [.v (.string ByteArray.empty), .v (.int .u64 0)] ∧
  tinfo Tryd.prog 15 = some (false, 1) ∧
  zel Tryd.prog 15 = some (.v (.pointer none)) ∧
  zl Tryd.prog 15 = some [.v (.pointer none)] ∧
  tinfo Tryd.prog 16 = some (false, 1) ∧
  zel Tryd.prog 16 = some (.v (.pointer none)) ∧
  zl Tryd.prog 16 = some [.v (.pointer none)] ∧
  tinfo Tryd.prog 17 = some (false, 1) ∧
  zel Tryd.prog 17 = some (.v (.pointer none)) ∧
  zl Tryd.prog 17 = some [.v (.pointer none)] ∧
  tinfo Tryd.prog 18 = some (true, 1) := by
  and_intros <;> kernel_rfl
@[simp] theorem tab_c10 : zel Tryd.prog 18 = some (.agg [.v (.pointer none)]) ∧
  zl Tryd.prog 18 = some [.v (.pointer none)] ∧
  tinfo Tryd.prog 19 = some (true, 1) ∧
  zel Tryd.prog 19 = some (.agg [.v (.pointer none)]) ∧
  zl Tryd.prog 19 = some [.v (.pointer none)] ∧
  tinfo Tryd.prog 20 = some (false, 1) ∧
  zel Tryd.prog 20 = some (.v (.nilIface)) ∧
  tinfo Tryd.prog 21 = some (false, 1) ∧
  intk Tryd.prog 21 = some .i32 ∧
  zel Tryd.prog 21 = some (.v (.int .i32 0)) ∧
  zl Tryd.prog 21 = some [.v (.int .i32 0)] ∧
  tinfo Tryd.prog 22 = some (false, 1) ∧
  einfo Tryd.prog 22 = some 3 ∧
  vinfo Tryd.prog 22 = some (3, 1, 8) ∧
  intk Tryd.prog 22 = none ∧
  zel Tryd.prog 22 = some (.v (.slice none 0 0)) ∧
  zl Tryd.prog 22 = some [.v (.slice none 0 0)] ∧
  tinfo Tryd.prog 23 = some (false, 1) ∧
  einfo Tryd.prog 23 = some 25 ∧
  vinfo Tryd.prog 23 = some (25, 4, 56) := by
  and_intros <;> kernel_rfl
@[simp] theorem tab_c11 : intk Tryd.prog 23 = none ∧
  zel Tryd.prog 23 = some (.v (.slice none 0 0)) ∧
  zl Tryd.prog 23 = some [.v (.slice none 0 0)] ∧
  tinfo Tryd.prog 24 = some (true, 4) ∧
  zel Tryd.prog 24 = some (.agg [.v (.int .i64 0), .v (.int .i64 0), .v (.string ByteArray.empty), .v (.slice none 0 0)]) ∧
  zl Tryd.prog 24 = some [.v (.int .i64 0), .v (.int .i64 0), .v (.string ByteArray.empty), .v (.slice none 0 0)] ∧
  binfo Tryd.prog 24 = some [(0, 1), (1, 1), (2, 1), (3, 1)] ∧
  finfo Tryd.prog 24 0 = some (0, 3) ∧
  finfo Tryd.prog 24 1 = some (1, 3) ∧
  finfo Tryd.prog 24 2 = some (2, 9) ∧
  finfo Tryd.prog 24 3 = some (3, 23) ∧
  tinfo Tryd.prog 25 = some (true, 4) ∧
  zel Tryd.prog 25 = some (.agg [.v (.int .i64 0), .v (.int .i64 0), .v (.string ByteArray.empty), .v (.slice none 0 0)]) ∧
  zl Tryd.prog 25 = some [.v (.int .i64 0), .v (.int .i64 0), .v (.string ByteArray.empty), .v (.slice none 0 0)] ∧
  binfo Tryd.prog 25 = some [(0, 1), (1, 1), (2, 1), (3, 1)] ∧
  finfo Tryd.prog 25 0 = some (0, 3) ∧
  finfo Tryd.prog 25 1 = some (1, 3) ∧
  finfo Tryd.prog 25 2 = some (2, 9) ∧
  finfo Tryd.prog 25 3 = some (3, 23) ∧
  tinfo Tryd.prog 26 = some (false, 1) := by
  and_intros <;> kernel_rfl
@[simp] theorem tab_c12 : einfo Tryd.prog 26 = some 37 ∧
  vinfo Tryd.prog 26 = some (37, 3, 32) ∧
  intk Tryd.prog 26 = none ∧
  zel Tryd.prog 26 = some (.v (.slice none 0 0)) ∧
  zl Tryd.prog 26 = some [.v (.slice none 0 0)] ∧
  tinfo Tryd.prog 29 = some (false, 1) ∧
  einfo Tryd.prog 29 = some 47 ∧
  vinfo Tryd.prog 29 = some (47, 7, 64) ∧
  intk Tryd.prog 29 = none ∧
  zel Tryd.prog 29 = some (.v (.slice none 0 0)) ∧
  zl Tryd.prog 29 = some [.v (.slice none 0 0)] ∧
  tinfo Tryd.prog 30 = some (true, 3) ∧
  zel Tryd.prog 30 = some (.agg [.v (.slice none 0 0), .v (.slice none 0 0), .v (.int .i64 0)]) ∧
  zl Tryd.prog 30 = some [.v (.slice none 0 0), .v (.slice none 0 0), .v (.int .i64 0)] ∧
  binfo Tryd.prog 30 = some [(0, 1), (1, 1), (2, 1)] ∧
  finfo Tryd.prog 30 0 = some (0, 29) ∧
  finfo Tryd.prog 30 1 = some (1, 22) ∧
  finfo Tryd.prog 30 2 = some (2, 3) ∧
  tinfo Tryd.prog 31 = some (true, 3) ∧
  zel Tryd.prog 31 = some (.agg [.v (.slice none 0 0), .v (.slice none 0 0), .v (.int .i64 0)]) := by
  and_intros <;> kernel_rfl
@[simp] theorem tab_c13 : zl Tryd.prog 31 = some [.v (.slice none 0 0), .v (.slice none 0 0), .v (.int .i64 0)] ∧
  binfo Tryd.prog 31 = some [(0, 1), (1, 1), (2, 1)] ∧
  finfo Tryd.prog 31 0 = some (0, 29) ∧
  finfo Tryd.prog 31 1 = some (1, 22) ∧
  finfo Tryd.prog 31 2 = some (2, 3) ∧
  tinfo Tryd.prog 32 = some (false, 1) ∧
  intk Tryd.prog 32 = some .i64 ∧
  zel Tryd.prog 32 = some (.v (.int .i64 0)) ∧
  zl Tryd.prog 32 = some [.v (.int .i64 0)] ∧
  tinfo Tryd.prog 36 = some (true, 3) ∧
  zel Tryd.prog 36 = some (.agg [.v (.int .i64 0), .v (.int .i64 0), .v (.string ByteArray.empty)]) ∧
  zl Tryd.prog 36 = some [.v (.int .i64 0), .v (.int .i64 0), .v (.string ByteArray.empty)] ∧
  binfo Tryd.prog 36 = some [(0, 1), (1, 1), (2, 1)] ∧
  finfo Tryd.prog 36 0 = some (0, 3) ∧
  finfo Tryd.prog 36 1 = some (1, 3) ∧
  finfo Tryd.prog 36 2 = some (2, 9) ∧
  tinfo Tryd.prog 37 = some (true, 3) ∧
  zel Tryd.prog 37 = some (.agg [.v (.int .i64 0), .v (.int .i64 0), .v (.string ByteArray.empty)]) ∧
  zl Tryd.prog 37 = some [.v (.int .i64 0), .v (.int .i64 0), .v (.string ByteArray.empty)] ∧
  binfo Tryd.prog 37 = some [(0, 1), (1, 1), (2, 1)] := by
  and_intros <;> kernel_rfl
@[simp] theorem tab_c14 : finfo Tryd.prog 37 0 = some (0, 3) ∧
  finfo Tryd.prog 37 1 = some (1, 3) ∧
  finfo Tryd.prog 37 2 = some (2, 9) ∧
  tinfo Tryd.prog 46 = some (true, 7) ∧
  zel Tryd.prog 46 = some (.agg [.v (.int .i64 0), .v (.int .i64 0), .v (.int .i64 0), .v (.int .i64 0), .v (.int .i64 0), .v (.int .i64 0), .v (.string ByteArray.empty)]) ∧
  zl Tryd.prog 46 = some [.v (.int .i64 0), .v (.int .i64 0), .v (.int .i64 0), .v (.int .i64 0), .v (.int .i64 0), .v (.int .i64 0), .v (.string ByteArray.empty)] ∧
  binfo Tryd.prog 46 = some [(0, 1), (1, 1), (2, 1), (3, 1), (4, 1), (5, 1), (6, 1)] ∧
  finfo Tryd.prog 46 0 = some (0, 3) ∧
  finfo Tryd.prog 46 1 = some (1, 3) ∧
  finfo Tryd.prog 46 2 = some (2, 3) ∧
  finfo Tryd.prog 46 3 = some (3, 3) ∧
  finfo Tryd.prog 46 4 = some (4, 3) ∧
  finfo Tryd.prog 46 5 = some (5, 3) ∧
  finfo Tryd.prog 46 6 = some (6, 9) ∧
  tinfo Tryd.prog 47 = some (true, 7) ∧
  zel Tryd.prog 47 = some (.agg [.v (.int .i64 0), .v (.int .i64 0), .v (.int .i64 0), .v (.int .i64 0), .v (.int .i64 0), .v (.int .i64 0), .v (.string ByteArray.empty)]) ∧
  zl Tryd.prog 47 = some [.v (.int .i64 0), .v (.int .i64 0), .v (.int .i64 0), .v (.int .i64 0), .v (.int .i64 0), .v (.int .i64 0), .v (.string ByteArray.empty)] ∧
  binfo Tryd.prog 47 = some [(0, 1), (1, 1), (2, 1), (3, 1), (4, 1), (5, 1), (6, 1)] ∧
  finfo Tryd.prog 47 0 = some (0, 3) ∧
  finfo Tryd.prog 47 1 = some (1, 3) := by
  and_intros <;> kernel_rfl
@[simp] theorem tab_c15 : finfo Tryd.prog 47 2 = some (2, 3) ∧
  finfo Tryd.prog 47 3 = some (3, 3) ∧
  finfo Tryd.prog 47 4 = some (4, 3) ∧
  finfo Tryd.prog 47 5 = some (5, 3) ∧
  finfo Tryd.prog 47 6 = some (6, 9) ∧
  tinfo Tryd.prog 48 = some (false, 1) ∧
  einfo Tryd.prog 48 = some 51 ∧
  vinfo Tryd.prog 48 = some (51, 7, 104) ∧
  intk Tryd.prog 48 = none ∧
  zel Tryd.prog 48 = some (.v (.slice none 0 0)) ∧
  zl Tryd.prog 48 = some [.v (.slice none 0 0)] ∧
  tinfo Tryd.prog 50 = some (true, 7) ∧
  zel Tryd.prog 50 = some (.agg [.v (.string ByteArray.empty), .v (.slice none 0 0), .v (.int .i64 0), .v (.int .i64 0), .v (.int .i64 0), .v (.string ByteArray.empty), .v (.slice none 0 0)]) ∧
  zl Tryd.prog 50 = some [.v (.string ByteArray.empty), .v (.slice none 0 0), .v (.int .i64 0), .v (.int .i64 0), .v (.int .i64 0), .v (.string ByteArray.empty), .v (.slice none 0 0)] ∧
  binfo Tryd.prog 50 = some [(0, 1), (1, 1), (2, 1), (3, 4)] ∧
  finfo Tryd.prog 50 0 = some (0, 9) ∧
  finfo Tryd.prog 50 1 = some (1, 22) ∧
  finfo Tryd.prog 50 2 = some (2, 3) ∧
  finfo Tryd.prog 50 3 = some (3, 25) ∧
  tinfo Tryd.prog 51 = some (true, 7) := by
  and_intros <;> kernel_rfl
@[simp] theorem tab_c16 : zel Tryd.prog 51 = some (.agg [.v (.string ByteArray.empty), .v (.slice none 0 0), .v (.int .i64 0), .v (.int .i64 0), .v (.int .i64 0), .v (.string ByteArray.empty), .v (.slice none 0 0)]) ∧
  zl Tryd.prog 51 = some [.v (.string ByteArray.empty), .v (.slice none 0 0), .v (.int .i64 0), .v (.int .i64 0), .v (.int .i64 0), .v (.string ByteArray.empty), .v (.slice none 0 0)] ∧
  binfo Tryd.prog 51 = some [(0, 1), (1, 1), (2, 1), (3, 4)] ∧
  finfo Tryd.prog 51 0 = some (0, 9) ∧
  finfo Tryd.prog 51 1 = some (1, 22) ∧
  finfo Tryd.prog 51 2 = some (2, 3) ∧
  finfo Tryd.prog 51 3 = some (3, 25) ∧
  tinfo Tryd.prog 56 = some (false, 1) ∧
  zel Tryd.prog 56 = some (.v (.pointer none)) ∧
  zl Tryd.prog 56 = some [.v (.pointer none)] ∧
  tinfo Tryd.prog 57 = some (false, 1) ∧
  zel Tryd.prog 57 = some (.v (.map none)) ∧
  zl Tryd.prog 57 = some [.v (.map none)] ∧
  tinfo Tryd.prog 58 = some (true, 5) ∧
  zel Tryd.prog 58 = some (.agg [.v (.slice none 0 0), .v (.slice none 0 0), .v (.slice none 0 0), .v (.int .i64 0), .v (.map none)]) ∧
  zl Tryd.prog 58 = some [.v (.slice none 0 0), .v (.slice none 0 0), .v (.slice none 0 0), .v (.int .i64 0), .v (.map none)] ∧
  binfo Tryd.prog 58 = some [(0, 1), (1, 3), (4, 1)] ∧
  finfo Tryd.prog 58 0 = some (0, 22) ∧
  finfo Tryd.prog 58 1 = some (1, 31) ∧
  finfo Tryd.prog 58 2 = some (4, 57) := by
  and_intros <;> kernel_rfl
@[simp] theorem tab_c17 : tinfo Tryd.prog 59 = some (true, 5) ∧
  zel Tryd.prog 59 = some (.agg [.v (.slice none 0 0), .v (.slice none 0 0), .v (.slice none 0 0), .v (.int .i64 0), .v (.map none)]) ∧
  zl Tryd.prog 59 = some [.v (.slice none 0 0), .v (.slice none 0 0), .v (.slice none 0 0), .v (.int .i64 0), .v (.map none)] ∧
  binfo Tryd.prog 59 = some [(0, 1), (1, 3), (4, 1)] ∧
  finfo Tryd.prog 59 0 = some (0, 22) ∧
  finfo Tryd.prog 59 1 = some (1, 31) ∧
  finfo Tryd.prog 59 2 = some (4, 57) ∧
  tinfo Tryd.prog 64 = some (true, 4) ∧
  zel Tryd.prog 64 = some (.agg [.v (.slice none 0 0), .v (.int .i64 0), .v (.slice none 0 0), .v (.slice none 0 0)]) ∧
  zl Tryd.prog 64 = some [.v (.slice none 0 0), .v (.int .i64 0), .v (.slice none 0 0), .v (.slice none 0 0)] ∧
  binfo Tryd.prog 64 = some [(0, 1), (1, 1), (2, 1), (3, 1)] ∧
  finfo Tryd.prog 64 0 = some (0, 48) ∧
  finfo Tryd.prog 64 1 = some (1, 3) ∧
  finfo Tryd.prog 64 2 = some (2, 26) ∧
  finfo Tryd.prog 64 3 = some (3, 26) ∧
  tinfo Tryd.prog 65 = some (true, 4) ∧
  zel Tryd.prog 65 = some (.agg [.v (.slice none 0 0), .v (.int .i64 0), .v (.slice none 0 0), .v (.slice none 0 0)]) ∧
  zl Tryd.prog 65 = some [.v (.slice none 0 0), .v (.int .i64 0), .v (.slice none 0 0), .v (.slice none 0 0)] ∧
  binfo Tryd.prog 65 = some [(0, 1), (1, 1), (2, 1), (3, 1)] ∧
  finfo Tryd.prog 65 0 = some (0, 48) := by
  and_intros <;> kernel_rfl
@[simp] theorem tab_c18 : finfo Tryd.prog 65 1 = some (1, 3) ∧
  finfo Tryd.prog 65 2 = some (2, 26) ∧
  finfo Tryd.prog 65 3 = some (3, 26) ∧
  tinfo Tryd.prog 71 = some (true, 3) ∧
  zel Tryd.prog 71 = some (.agg [.v (.slice none 0 0), .v (.slice none 0 0), .v (.slice none 0 0)]) ∧
  zl Tryd.prog 71 = some [.v (.slice none 0 0), .v (.slice none 0 0), .v (.slice none 0 0)] ∧
  binfo Tryd.prog 71 = some [(0, 1), (1, 1), (2, 1)] ∧
  finfo Tryd.prog 71 0 = some (0, 48) ∧
  finfo Tryd.prog 71 1 = some (1, 22) ∧
  finfo Tryd.prog 71 2 = some (2, 22) ∧
  tinfo Tryd.prog 72 = some (true, 3) ∧
  zel Tryd.prog 72 = some (.agg [.v (.slice none 0 0), .v (.slice none 0 0), .v (.slice none 0 0)]) ∧
  zl Tryd.prog 72 = some [.v (.slice none 0 0), .v (.slice none 0 0), .v (.slice none 0 0)] ∧
  binfo Tryd.prog 72 = some [(0, 1), (1, 1), (2, 1)] ∧
  finfo Tryd.prog 72 0 = some (0, 48) ∧
  finfo Tryd.prog 72 1 = some (1, 22) ∧
  finfo Tryd.prog 72 2 = some (2, 22) ∧
  tinfo Tryd.prog 74 = some (false, 1) ∧
  einfo Tryd.prog 74 = some 76 ∧
  vinfo Tryd.prog 74 = some (76, 5, 64) := by
  and_intros <;> kernel_rfl
@[simp] theorem tab_c19 : intk Tryd.prog 74 = none ∧
  zel Tryd.prog 74 = some (.v (.slice none 0 0)) ∧
  zl Tryd.prog 74 = some [.v (.slice none 0 0)] ∧
  tinfo Tryd.prog 75 = some (true, 5) ∧
  zel Tryd.prog 75 = some (.agg [.v (.int .i64 0), .v (.int .i64 0), .v (.string ByteArray.empty), .v (.slice none 0 0), .v (.bool false)]) ∧
  zl Tryd.prog 75 = some [.v (.int .i64 0), .v (.int .i64 0), .v (.string ByteArray.empty), .v (.slice none 0 0), .v (.bool false)] ∧
  binfo Tryd.prog 75 = some [(0, 4), (4, 1)] ∧
  finfo Tryd.prog 75 0 = some (0, 25) ∧
  finfo Tryd.prog 75 1 = some (4, 4) ∧
  tinfo Tryd.prog 76 = some (true, 5) ∧
  zel Tryd.prog 76 = some (.agg [.v (.int .i64 0), .v (.int .i64 0), .v (.string ByteArray.empty), .v (.slice none 0 0), .v (.bool false)]) ∧
  zl Tryd.prog 76 = some [.v (.int .i64 0), .v (.int .i64 0), .v (.string ByteArray.empty), .v (.slice none 0 0), .v (.bool false)] ∧
  binfo Tryd.prog 76 = some [(0, 4), (4, 1)] ∧
  finfo Tryd.prog 76 0 = some (0, 25) ∧
  finfo Tryd.prog 76 1 = some (4, 4) ∧
  tinfo Tryd.prog 78 = some (true, 3) ∧
  zel Tryd.prog 78 = some (.agg [.v (.int .i64 0), .v (.int .i64 0), .v (.int .i64 0)]) ∧
  tinfo Tryd.prog 79 = some (true, 6) ∧
  zel Tryd.prog 79 = some (.agg [.v (.int .i64 0), .v (.int .i64 0), .v (.string ByteArray.empty), .v (.int .i64 0), .v (.int .i64 0), .v (.int .i64 0)]) ∧
  zl Tryd.prog 79 = some [.v (.int .i64 0), .v (.int .i64 0), .v (.string ByteArray.empty), .v (.int .i64 0), .v (.int .i64 0), .v (.int .i64 0)] := by
  and_intros <;> kernel_rfl
@[simp] theorem tab_c20 : binfo Tryd.prog 79 = some [(0, 1), (1, 1), (2, 1), (3, 3)] ∧
  finfo Tryd.prog 79 0 = some (0, 3) ∧
  finfo Tryd.prog 79 1 = some (1, 3) ∧
  finfo Tryd.prog 79 2 = some (2, 9) ∧
  finfo Tryd.prog 79 3 = some (3, 78) ∧
  tinfo Tryd.prog 80 = some (true, 6) ∧
  zel Tryd.prog 80 = some (.agg [.v (.int .i64 0), .v (.int .i64 0), .v (.string ByteArray.empty), .v (.int .i64 0), .v (.int .i64 0), .v (.int .i64 0)]) ∧
  zl Tryd.prog 80 = some [.v (.int .i64 0), .v (.int .i64 0), .v (.string ByteArray.empty), .v (.int .i64 0), .v (.int .i64 0), .v (.int .i64 0)] ∧
  binfo Tryd.prog 80 = some [(0, 1), (1, 1), (2, 1), (3, 3)] ∧
  finfo Tryd.prog 80 0 = some (0, 3) ∧
  finfo Tryd.prog 80 1 = some (1, 3) ∧
  finfo Tryd.prog 80 2 = some (2, 9) ∧
  finfo Tryd.prog 80 3 = some (3, 78) ∧
  tinfo Tryd.prog 82 = some (false, 1) ∧
  einfo Tryd.prog 82 = some 22 ∧
  vinfo Tryd.prog 82 = some (22, 1, 24) ∧
  intk Tryd.prog 82 = none ∧
  zel Tryd.prog 82 = some (.v (.slice none 0 0)) ∧
  zl Tryd.prog 82 = some [.v (.slice none 0 0)] ∧
  tinfo Tryd.prog 85 = some (false, 1) := by
  and_intros <;> kernel_rfl
@[simp] theorem tab_c21 : zel Tryd.prog 85 = some (.v (.pointer none)) ∧
  zl Tryd.prog 85 = some [.v (.pointer none)] ∧
  tinfo Tryd.prog 86 = some (false, 1) ∧
  einfo Tryd.prog 86 = some 85 ∧
  vinfo Tryd.prog 86 = some (85, 1, 8) ∧
  intk Tryd.prog 86 = none ∧
  zel Tryd.prog 86 = some (.v (.slice none 0 0)) ∧
  zl Tryd.prog 86 = some [.v (.slice none 0 0)] ∧
  tinfo Tryd.prog 92 = some (true, 6) ∧
  zel Tryd.prog 92 = some (.agg [.v (.int .i64 0), .v (.int .i64 0), .v (.string ByteArray.empty), .v (.int .i64 0), .v (.int .i64 0), .v (.string ByteArray.empty)]) ∧
  zl Tryd.prog 92 = some [.v (.int .i64 0), .v (.int .i64 0), .v (.string ByteArray.empty), .v (.int .i64 0), .v (.int .i64 0), .v (.string ByteArray.empty)] ∧
  binfo Tryd.prog 92 = some [(0, 3), (3, 3)] ∧
  finfo Tryd.prog 92 0 = some (0, 37) ∧
  finfo Tryd.prog 92 1 = some (3, 37) ∧
  tinfo Tryd.prog 93 = some (true, 6) ∧
  zel Tryd.prog 93 = some (.agg [.v (.int .i64 0), .v (.int .i64 0), .v (.string ByteArray.empty), .v (.int .i64 0), .v (.int .i64 0), .v (.string ByteArray.empty)]) ∧
  zl Tryd.prog 93 = some [.v (.int .i64 0), .v (.int .i64 0), .v (.string ByteArray.empty), .v (.int .i64 0), .v (.int .i64 0), .v (.string ByteArray.empty)] ∧
  binfo Tryd.prog 93 = some [(0, 3), (3, 3)] ∧
  finfo Tryd.prog 93 0 = some (0, 37) ∧
  finfo Tryd.prog 93 1 = some (3, 37) := by
  and_intros <;> kernel_rfl
@[simp] theorem tab_c22 : tinfo Tryd.prog 94 = some (false, 1) ∧
  zel Tryd.prog 94 = some (.v (.map none)) ∧
  zl Tryd.prog 94 = some [.v (.map none)] ∧
  tinfo Tryd.prog 105 = some (false, 1) ∧
  einfo Tryd.prog 105 = some 4 ∧
  vinfo Tryd.prog 105 = some (4, 1, 1) ∧
  intk Tryd.prog 105 = none ∧
  zel Tryd.prog 105 = some (.v (.slice none 0 0)) ∧
  zl Tryd.prog 105 = some [.v (.slice none 0 0)] ∧
  tinfo Tryd.prog 107 = some (true, 23) ∧
  zel Tryd.prog 107 = some (.agg [.v (.string ByteArray.empty), .v (.string ByteArray.empty), .v (.string ByteArray.empty), .v (.string ByteArray.empty), .v (.string ByteArray.empty), .v (.string ByteArray.empty), .v (.string ByteArray.empty), .v (.string ByteArray.empty), .v (.string ByteArray.empty), .v (.string ByteArray.empty), .v (.string ByteArray.empty), .v (.string ByteArray.empty), .v (.string ByteArray.empty), .v (.string ByteArray.empty), .v (.string ByteArray.empty), .v (.string ByteArray.empty), .v (.string ByteArray.empty), .v (.string ByteArray.empty), .v (.string ByteArray.empty), .v (.string ByteArray.empty), .v (.string ByteArray.empty), .v (.string ByteArray.empty), .v (.string ByteArray.empty)]) ∧
  tinfo Tryd.prog 118 = some (true, 4) ∧
  zel Tryd.prog 118 = some (.agg [.v (.pointer none), .v (.pointer none), .v (.pointer none), .v (.string ByteArray.empty)]) ∧
  zl Tryd.prog 118 = some [.v (.pointer none), .v (.pointer none), .v (.pointer none), .v (.string ByteArray.empty)] ∧
  binfo Tryd.prog 118 = some [(0, 1), (1, 1), (2, 1), (3, 1)] ∧
  finfo Tryd.prog 118 0 = some (0, 17) ∧
  finfo Tryd.prog 118 1 = some (1, 17) ∧
  finfo Tryd.prog 118 2 = some (2, 17) ∧
  finfo Tryd.prog 118 3 = some (3, 9) ∧
  tinfo Tryd.prog 119 = some (true, 4) := by
  and_intros <;> kernel_rfl
@[simp] theorem tab_c23 : zel Tryd.prog 119 = some (.agg [.v (.pointer none), .v (.pointer none), .v (.pointer none), .v (.string ByteArray.empty)]) ∧
  zl Tryd.prog 119 = some [.v (.pointer none), .v (.pointer none), .v (.pointer none), .v (.string ByteArray.empty)] ∧
  binfo Tryd.prog 119 = some [(0, 1), (1, 1), (2, 1), (3, 1)] ∧
  finfo Tryd.prog 119 0 = some (0, 17) ∧
  finfo Tryd.prog 119 1 = some (1, 17) ∧
  finfo Tryd.prog 119 2 = some (2, 17) ∧
  finfo Tryd.prog 119 3 = some (3, 9) ∧
  tinfo Tryd.prog 120 = some (true, 0) ∧
  tinfo Tryd.prog 121 = some (true, 0) ∧
  zl Tryd.prog 121 = some [] ∧
  binfo Tryd.prog 121 = some [(0, 0)] ∧
  finfo Tryd.prog 121 0 = some (0, 120) ∧
  tinfo Tryd.prog 122 = some (true, 0) ∧
  zl Tryd.prog 122 = some [] ∧
  binfo Tryd.prog 122 = some [(0, 0)] ∧
  finfo Tryd.prog 122 0 = some (0, 120) ∧
  tinfo Tryd.prog 124 = some (false, 1) ∧
  intk Tryd.prog 124 = some .u32 ∧
  zel Tryd.prog 124 = some (.v (.int .u32 0)) ∧
  zl Tryd.prog 124 = some [.v (.int .u32 0)] := by
  and_intros <;> kernel_rfl
@[simp] theorem tab_c24 : tinfo Tryd.prog 125 = some (false, 1) ∧
  intk Tryd.prog 125 = some .u8 ∧
  zel Tryd.prog 125 = some (.v (.int .u8 0)) ∧
  zl Tryd.prog 125 = some [.v (.int .u8 0)] ∧
  tinfo Tryd.prog 126 = some (false, 1) ∧
  intk Tryd.prog 126 = some .u8 ∧
  zel Tryd.prog 126 = some (.v (.int .u8 0)) ∧
  zl Tryd.prog 126 = some [.v (.int .u8 0)] ∧
  tinfo Tryd.prog 128 = some (false, 1) ∧
  zel Tryd.prog 128 = some (.v (.pointer none)) ∧
  zl Tryd.prog 128 = some [.v (.pointer none)] ∧
  tinfo Tryd.prog 129 = some (false, 1) ∧
  intk Tryd.prog 129 = some .i32 ∧
  zel Tryd.prog 129 = some (.v (.int .i32 0)) ∧
  zl Tryd.prog 129 = some [.v (.int .i32 0)] ∧
  tinfo Tryd.prog 130 = some (false, 1) ∧
  intk Tryd.prog 130 = some .i32 ∧
  zel Tryd.prog 130 = some (.v (.int .i32 0)) ∧
  zl Tryd.prog 130 = some [.v (.int .i32 0)] ∧
  tinfo Tryd.prog 131 = some (true, 11) := by
  and_intros <;> kernel_rfl
@[simp] theorem tab_c25 : zel Tryd.prog 131 = some (.agg [.v (.int .u64 0), .v (.int .u64 0), .v (.int .u32 0), .v (.int .u8 0), .v (.int .u8 0), .v (.int .u8 0), .v (.int .u8 0), .v (.nilFunc), .v (.pointer none), .v (.int .i32 0), .v (.int .i32 0)]) ∧
  zl Tryd.prog 131 = some [.v (.int .u64 0), .v (.int .u64 0), .v (.int .u32 0), .v (.int .u8 0), .v (.int .u8 0), .v (.int .u8 0), .v (.int .u8 0), .v (.nilFunc), .v (.pointer none), .v (.int .i32 0), .v (.int .i32 0)] ∧
  binfo Tryd.prog 131 = some [(0, 1), (1, 1), (2, 1), (3, 1), (4, 1), (5, 1), (6, 1), (7, 1), (8, 1), (9, 1), (10, 1)] ∧
  finfo Tryd.prog 131 0 = some (0, 12) ∧
  finfo Tryd.prog 131 1 = some (1, 12) ∧
  finfo Tryd.prog 131 2 = some (2, 124) ∧
  finfo Tryd.prog 131 3 = some (3, 125) ∧
  finfo Tryd.prog 131 4 = some (4, 5) ∧
  finfo Tryd.prog 131 5 = some (5, 5) ∧
  finfo Tryd.prog 131 6 = some (6, 126) ∧
  finfo Tryd.prog 131 7 = some (7, 127) ∧
  finfo Tryd.prog 131 8 = some (8, 128) ∧
  finfo Tryd.prog 131 9 = some (9, 129) ∧
  finfo Tryd.prog 131 10 = some (10, 130) ∧
  tinfo Tryd.prog 132 = some (true, 11) ∧
  zel Tryd.prog 132 = some (.agg [.v (.int .u64 0), .v (.int .u64 0), .v (.int .u32 0), .v (.int .u8 0), .v (.int .u8 0), .v (.int .u8 0), .v (.int .u8 0), .v (.nilFunc), .v (.pointer none), .v (.int .i32 0), .v (.int .i32 0)]) ∧
  zl Tryd.prog 132 = some [.v (.int .u64 0), .v (.int .u64 0), .v (.int .u32 0), .v (.int .u8 0), .v (.int .u8 0), .v (.int .u8 0), .v (.int .u8 0), .v (.nilFunc), .v (.pointer none), .v (.int .i32 0), .v (.int .i32 0)] ∧
  binfo Tryd.prog 132 = some [(0, 1), (1, 1), (2, 1), (3, 1), (4, 1), (5, 1), (6, 1), (7, 1), (8, 1), (9, 1), (10, 1)] ∧
  finfo Tryd.prog 132 0 = some (0, 12) ∧
  finfo Tryd.prog 132 1 = some (1, 12) := by
  and_intros <;> kernel_rfl
@[simp] theorem tab_c26 : finfo Tryd.prog 132 2 = some (2, 124) ∧
  finfo Tryd.prog 132 3 = some (3, 125) ∧
  finfo Tryd.prog 132 4 = some (4, 5) ∧
  finfo Tryd.prog 132 5 = some (5, 5) ∧
  finfo Tryd.prog 132 6 = some (6, 126) ∧
  finfo Tryd.prog 132 7 = some (7, 127) ∧
  finfo Tryd.prog 132 8 = some (8, 128) ∧
  finfo Tryd.prog 132 9 = some (9, 129) ∧
  finfo Tryd.prog 132 10 = some (10, 130) ∧
  tinfo Tryd.prog 133 = some (false, 1) ∧
  zel Tryd.prog 133 = some (.v (.pointer none)) ∧
  enters Tryd.prog 2 = true ∧
  enters Tryd.prog 3 = true ∧
  enters Tryd.prog 4 = true ∧
  enters Tryd.prog 5 = true ∧
  enters Tryd.prog 6 = true ∧
  enters Tryd.prog 7 = true ∧
  enters Tryd.prog 8 = true ∧
  enters Tryd.prog 9 = true ∧
  enters Tryd.prog 10 = true := by
  and_intros <;> kernel_rfl
@[simp] theorem tab_c27 : enters Tryd.prog 11 = true ∧
  enters Tryd.prog 12 = true ∧
  enters Tryd.prog 13 = true ∧
  enters Tryd.prog 14 = true ∧
  enters Tryd.prog 15 = true ∧
  enters Tryd.prog 16 = true ∧
  enters Tryd.prog 17 = true ∧
  enters Tryd.prog 18 = true ∧
  enters Tryd.prog 19 = true ∧
  enters Tryd.prog 20 = true ∧
  enters Tryd.prog 21 = true ∧
  enters Tryd.prog 22 = true ∧
  enters Tryd.prog 23 = true ∧
  enters Tryd.prog 24 = true ∧
  enters Tryd.prog 25 = true ∧
  enters Tryd.prog 26 = true ∧
  enters Tryd.prog 27 = true ∧
  enters Tryd.prog 28 = true ∧
  enters Tryd.prog 29 = true ∧
  enters Tryd.prog 30 = true := by
  and_intros <;> kernel_rfl
@[simp] theorem tab_c28 : enters Tryd.prog 31 = true ∧
  enters Tryd.prog 32 = true ∧
  enters Tryd.prog 33 = true ∧
  enters Tryd.prog 34 = true ∧
  enters Tryd.prog 35 = true ∧
  enters Tryd.prog 36 = true ∧
  enters Tryd.prog 37 = true ∧
  enters Tryd.prog 38 = true ∧
  enters Tryd.prog 39 = true ∧
  enters Tryd.prog 40 = true ∧
  enters Tryd.prog 41 = true ∧
  enters Tryd.prog 42 = true ∧
  enters Tryd.prog 43 = true ∧
  enters Tryd.prog 44 = true ∧
  enters Tryd.prog 45 = true ∧
  enters Tryd.prog 46 = true ∧
  enters Tryd.prog 47 = true ∧
  enters Tryd.prog 48 = true ∧
  enters Tryd.prog 49 = true ∧
  enters Tryd.prog 50 = true := by
  and_intros <;> kernel_rfl
@[simp] theorem tab_c29 : enters Tryd.prog 51 = true ∧
  enters Tryd.prog 52 = true ∧
  enters Tryd.prog 53 = true ∧
  enters Tryd.prog 54 = true ∧
  enters Tryd.prog 55 = true ∧
  enters Tryd.prog 56 = true ∧
  enters Tryd.prog 57 = true ∧
  enters Tryd.prog 58 = true ∧
  enters Tryd.prog 59 = true ∧
  enters Tryd.prog 60 = true ∧
  enters Tryd.prog 61 = true ∧
  enters Tryd.prog 62 = true ∧
  enters Tryd.prog 63 = true ∧
  enters Tryd.prog 64 = true ∧
  enters Tryd.prog 65 = true ∧
  enters Tryd.prog 66 = true ∧
  enters Tryd.prog 67 = true ∧
  enters Tryd.prog 68 = true ∧
  enters Tryd.prog 69 = true ∧
  enters Tryd.prog 70 = true := by
  and_intros <;> kernel_rfl
@[simp] theorem tab_c30 : enters Tryd.prog 71 = true ∧
  enters Tryd.prog 72 = true ∧
  enters Tryd.prog 73 = true ∧
  enters Tryd.prog 74 = true ∧
  enters Tryd.prog 75 = true ∧
  enters Tryd.prog 76 = true ∧
  enters Tryd.prog 77 = true ∧
  enters Tryd.prog 78 = true ∧
  enters Tryd.prog 79 = true ∧
  enters Tryd.prog 80 = true ∧
  enters Tryd.prog 81 = true ∧
  enters Tryd.prog 82 = true ∧
  enters Tryd.prog 83 = true ∧
  enters Tryd.prog 84 = true ∧
  enters Tryd.prog 106 = true := by
  and_intros <;> kernel_rfl
end Go.Proofs.YtnkimlkoijfcpaaDoor

/- Scalars and lists of them as abstract values. -/
namespace Go.Proofs.YtnkimlkoijfcpaaDoor
open Go.RowKit Go.Lib
abbrev AV.int (n : Int) : AV := .v (.int .i64 n)
abbrev AV.str (s : ByteArray) : AV := .v (.string s)
abbrev AV.bool (b : Bool) : AV := .v (.bool b)
@[simp] theorem AV.wid_ints (l : List Int) : AV.wid (l.map AV.int) 1 := AV.wid_map (f := AV.int) (fun _ => rfl) l
@[simp] theorem AV.wid_strs (l : List ByteArray) : AV.wid (l.map AV.str) 1 := AV.wid_map (f := AV.str) (fun _ => rfl) l
@[simp] theorem AV.wid_bools (l : List Bool) : AV.wid (l.map AV.bool) 1 := AV.wid_map (f := AV.bool) (fun _ => rfl) l
@[simp] theorem AV.wid_bytes (l : List UInt8) : AV.wid (l.map AV.byte) 1 := AV.wid_map (f := AV.byte) (fun _ => rfl) l
@[simp] theorem AV.elms_bytes (l : List UInt8) : AV.elms (l.map AV.byte) := AV.elms_map (f := AV.byte) (fun _ => rfl) l
@[simp] theorem AV.elms_ints (l : List Int) : AV.elms (l.map AV.int) := AV.elms_map (f := AV.int) (fun _ => rfl) l
@[simp] theorem AV.elms_strs (l : List ByteArray) : AV.elms (l.map AV.str) := AV.elms_map (f := AV.str) (fun _ => rfl) l
@[simp] theorem AV.elms_bools (l : List Bool) : AV.elms (l.map AV.bool) := AV.elms_map (f := AV.bool) (fun _ => rfl) l
@[simp] theorem AV.cls_append (m : Nat) (a b : List AV) : AV.cls m (a ++ b) ↔ AV.cls m a ∧ AV.cls m b := by
  rw [AV.cls_iff, AV.cls_iff, AV.cls_iff]
  exact ⟨fun h => ⟨fun y hy => h y (by simp [hy]), fun y hy => h y (by simp [hy])⟩, fun h y hy => (List.mem_append.1 hy).elim (h.1 y) (h.2 y)⟩
@[simp] theorem AV.cls_map {α : Type} {f : α → AV} {m : Nat} (h : ∀ a, (f a).cl m) (l : List α) : AV.cls m (l.map f) := by
  rw [AV.cls_iff]
  intro x hx
  obtain ⟨a, -, rfl⟩ := List.mem_map.1 hx
  exact h a
@[simp] theorem AV.cls_ints (l : List Int) (m : Nat) : AV.cls m (l.map AV.int) := AV.cls_map (fun _ => by simp) l
@[simp] theorem AV.cls_strs (l : List ByteArray) (m : Nat) : AV.cls m (l.map AV.str) := AV.cls_map (fun _ => by simp) l
@[simp] theorem AV.cls_bools (l : List Bool) (m : Nat) : AV.cls m (l.map AV.bool) := AV.cls_map (fun _ => by simp) l
@[simp] theorem AV.cls_bytes (l : List UInt8) (m : Nat) : AV.cls m (l.map AV.byte) := AV.cls_map (fun _ => by simp) l
end Go.Proofs.YtnkimlkoijfcpaaDoor
