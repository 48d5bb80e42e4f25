/- Closed facts of the program: types, fields, functions. -/
import Derived.Test.YtgpcpmfdklpifaaGreatDoorProg
import Derived.KernelRfl
import Derived.Test.YtgpcpmfdklpifaaGreatDoorGa10
set_option linter.unusedSimpArgs false
set_option linter.unusedVariables false
namespace Go.Proofs.YtgpcpmfdklpifaaGreatDoor
open Go.RowKit Go.Lib
@[simp] theorem tab_c7 : tinfo Tryz.prog 3 = some (false, 1) ∧
  zel Tryz.prog 3 = some (.v (.int .i64 0)) ∧
  tinfo Tryz.prog 4 = some (false, 1) ∧
  fkind Tryz.prog 4 = some 1 ∧
  zel Tryz.prog 4 = some (.v (.bool false)) ∧
  zel Tryz.prog 5 = some (.v (.int .u8 0)) ∧
  tinfo Tryz.prog 9 = some (false, 1) ∧
  tinfo Tryz.prog 22 = some (false, 1) ∧
  einfo Tryz.prog 22 = some 32 ∧
  vinfo Tryz.prog 22 = some (32, 7, 64) ∧
  tinfo Tryz.prog 23 = some (false, 1) ∧
  einfo Tryz.prog 23 = some 3 ∧
  vinfo Tryz.prog 23 = some (3, 1, 8) ∧
  tinfo Tryz.prog 25 = some (true, 3) ∧
  zl Tryz.prog 25 = some [.v (.slice none 0 0), .v (.slice none 0 0), .v (.int .i64 0)] ∧
  binfo Tryz.prog 25 = some [(0, 1), (1, 1), (2, 1)] ∧
  finfo Tryz.prog 25 0 = some (0, 22) ∧
  finfo Tryz.prog 25 1 = some (1, 23) ∧
  finfo Tryz.prog 25 2 = some (2, 3) ∧
  einfo Tryz.prog 26 = some 40 := by
  and_intros <;> kernel_rfl
@[simp] theorem tab_c8 : vinfo Tryz.prog 26 = some (40, 3, 32) ∧
  tinfo Tryz.prog 30 = some (false, 1) ∧
  einfo Tryz.prog 30 = some 4 ∧
  vinfo Tryz.prog 30 = some (4, 1, 1) ∧
  tinfo Tryz.prog 32 = some (true, 7) ∧
  zl Tryz.prog 32 = some [.v (.int .i64 0), .v (.int .i64 0), .v (.int .i64 0), .v (.int .i64 0), .v (.int .i64 0), .v (.int .i64 0), .v (.string ByteArray.empty)] ∧
  binfo Tryz.prog 32 = some [(0, 1), (1, 1), (2, 1), (3, 1), (4, 1), (5, 1), (6, 1)] ∧
  finfo Tryz.prog 32 0 = some (0, 3) ∧
  finfo Tryz.prog 32 1 = some (1, 3) ∧
  finfo Tryz.prog 32 2 = some (2, 3) ∧
  finfo Tryz.prog 32 3 = some (3, 3) ∧
  finfo Tryz.prog 32 4 = some (4, 3) ∧
  finfo Tryz.prog 32 5 = some (5, 3) ∧
  finfo Tryz.prog 32 6 = some (6, 9) ∧
  tinfo Tryz.prog 34 = some (false, 1) ∧
  einfo Tryz.prog 34 = some 36 ∧
  vinfo Tryz.prog 34 = some (36, 4, 56) ∧
  tinfo Tryz.prog 36 = some (true, 4) ∧
  zl Tryz.prog 36 = some [.v (.int .i64 0), .v (.int .i64 0), .v (.string ByteArray.empty), .v (.slice none 0 0)] ∧
  binfo Tryz.prog 36 = some [(0, 1), (1, 1), (2, 1), (3, 1)] := by
  and_intros <;> kernel_rfl
@[simp] theorem tab_c9 : finfo Tryz.prog 36 0 = some (0, 3) ∧
  finfo Tryz.prog 36 1 = some (1, 3) ∧
  finfo Tryz.prog 36 2 = some (2, 9) ∧
  finfo Tryz.prog 36 3 = some (3, 34) ∧
  tinfo Tryz.prog 40 = some (true, 3) ∧
  zel Tryz.prog 40 = some (.agg [.v (.int .i64 0), .v (.int .i64 0), .v (.string ByteArray.empty)]) ∧
  zl Tryz.prog 40 = some [.v (.int .i64 0), .v (.int .i64 0), .v (.string ByteArray.empty)] ∧
  binfo Tryz.prog 40 = some [(0, 1), (1, 1), (2, 1)] ∧
  finfo Tryz.prog 40 0 = some (0, 3) ∧
  finfo Tryz.prog 40 1 = some (1, 3) ∧
  finfo Tryz.prog 40 2 = some (2, 9) ∧
  tinfo Tryz.prog 61 = some (false, 1) ∧
  einfo Tryz.prog 61 = some 88 ∧
  einfo Tryz.prog 67 = some 23 ∧
  vinfo Tryz.prog 67 = some (23, 1, 24) ∧
  tinfo Tryz.prog 70 = some (false, 1) ∧
  einfo Tryz.prog 71 = some 70 ∧
  vinfo Tryz.prog 71 = some (70, 1, 8) ∧
  tinfo Tryz.prog 84 = some (true, 4) ∧
  zl Tryz.prog 84 = some [.v (.int .i64 0), .v (.int .i64 0), .v (.string ByteArray.empty), .v (.int .i64 0)] := by
  and_intros <;> kernel_rfl
@[simp] theorem tab_c10 : binfo Tryz.prog 84 = some [(0, 3), (3, 1)] ∧
  finfo Tryz.prog 84 0 = some (0, 40) ∧
  finfo Tryz.prog 84 1 = some (3, 3) ∧
  einfo Tryz.prog 86 = none ∧
  tinfo Tryz.prog 88 = some (true, 7) ∧
  zl Tryz.prog 88 = some [.v (.string ByteArray.empty), .v (.slice none 0 0), .v (.int .i64 0), .v (.int .i64 0), .v (.int .i64 0), .v (.string ByteArray.empty), .v (.slice none 0 0)] ∧
  finfo Tryz.prog 88 1 = some (1, 23) ∧
  finfo Tryz.prog 88 2 = some (2, 3) ∧
  finfo Tryz.prog 88 3 = some (3, 36) ∧
  einfo Tryz.prog 94 = some 9 ∧
  vinfo Tryz.prog 94 = some (9, 1, 16) ∧
  tinfo Tryz.prog 107 = some (true, 3) ∧
  zl Tryz.prog 107 = some [.v (.slice none 0 0), .v (.slice none 0 0), .v (.slice none 0 0)] ∧
  binfo Tryz.prog 107 = some [(0, 1), (1, 1), (2, 1)] ∧
  finfo Tryz.prog 107 0 = some (0, 61) ∧
  finfo Tryz.prog 107 1 = some (1, 23) ∧
  finfo Tryz.prog 107 2 = some (2, 23) ∧
  tinfo Tryz.prog 132 = some (false, 1) ∧
  vinfo Tryz.prog 132 = some (5, 1, 1) ∧
  zl Tryz.prog 134 = some [.v (.pointer none), .v (.slice none 0 0)] := by
  and_intros <;> kernel_rfl
@[simp] theorem tab_c11 : finfo Tryz.prog 134 1 = some (1, 132) ∧
  enters Tryz.prog 7 = true ∧
  enters Tryz.prog 8 = true ∧
  enters Tryz.prog 9 = true ∧
  enters Tryz.prog 10 = true ∧
  enters Tryz.prog 11 = true ∧
  enters Tryz.prog 12 = true ∧
  enters Tryz.prog 13 = true ∧
  enters Tryz.prog 14 = true ∧
  enters Tryz.prog 15 = true ∧
  enters Tryz.prog 16 = true ∧
  enters Tryz.prog 17 = true ∧
  enters Tryz.prog 18 = true ∧
  enters Tryz.prog 19 = true ∧
  enters Tryz.prog 20 = true ∧
  enters Tryz.prog 21 = true ∧
  enters Tryz.prog 22 = true ∧
  enters Tryz.prog 23 = true ∧
  enters Tryz.prog 24 = true ∧
  enters Tryz.prog 25 = true := by
  and_intros <;> kernel_rfl
@[simp] theorem tab_c12 : enters Tryz.prog 26 = true ∧
  enters Tryz.prog 27 = true ∧
  enters Tryz.prog 28 = true ∧
  enters Tryz.prog 29 = true ∧
  enters Tryz.prog 30 = true ∧
  enters Tryz.prog 31 = true ∧
  enters Tryz.prog 32 = true ∧
  enters Tryz.prog 33 = true ∧
  enters Tryz.prog 34 = true ∧
  enters Tryz.prog 35 = true ∧
  enters Tryz.prog 36 = true ∧
  enters Tryz.prog 37 = true ∧
  enters Tryz.prog 38 = true ∧
  enters Tryz.prog 39 = true ∧
  enters Tryz.prog 40 = true ∧
  enters Tryz.prog 41 = true ∧
  enters Tryz.prog 43 = true ∧
  enters Tryz.prog 44 = true ∧
  enters Tryz.prog 45 = true ∧
  enters Tryz.prog 46 = true := by
  and_intros <;> kernel_rfl
@[simp] theorem tab_c13 : enters Tryz.prog 47 = true ∧
  enters Tryz.prog 48 = true ∧
  enters Tryz.prog 49 = true ∧
  enters Tryz.prog 50 = true ∧
  enters Tryz.prog 51 = true ∧
  enters Tryz.prog 52 = true ∧
  enters Tryz.prog 53 = true ∧
  enters Tryz.prog 54 = true ∧
  enters Tryz.prog 55 = true ∧
  enters Tryz.prog 56 = true ∧
  enters Tryz.prog 57 = true ∧
  enters Tryz.prog 58 = true ∧
  enters Tryz.prog 59 = true ∧
  enters Tryz.prog 60 = true ∧
  enters Tryz.prog 61 = true ∧
  enters Tryz.prog 63 = true ∧
  enters Tryz.prog 66 = true ∧
  enters Tryz.prog 67 = true ∧
  enters Tryz.prog 68 = true ∧
  enters Tryz.prog 69 = true := by
  and_intros <;> kernel_rfl
@[simp] theorem tab_c14 : enters Tryz.prog 70 = true ∧
  enters Tryz.prog 71 = true ∧
  enters Tryz.prog 72 = true ∧
  enters Tryz.prog 73 = true ∧
  enters Tryz.prog 74 = true ∧
  enters Tryz.prog 75 = true ∧
  enters Tryz.prog 76 = true ∧
  enters Tryz.prog 77 = true ∧
  enters Tryz.prog 78 = true ∧
  enters Tryz.prog 79 = true ∧
  enters Tryz.prog 80 = true ∧
  enters Tryz.prog 92 = true ∧
  enters Tryz.prog 94 = true ∧
  enters Tryz.prog 95 = true ∧
  enters Tryz.prog 96 = true ∧
  enters Tryz.prog 97 = true ∧
  enters Tryz.prog 99 = true ∧
  enters Tryz.prog 102 = true ∧
  enters Tryz.prog 103 = true ∧
  enters Tryz.prog 104 = true := by
  and_intros <;> kernel_rfl
@[simp] theorem tab_c15 : enters Tryz.prog 105 = true ∧
  enters Tryz.prog 107 = true ∧
  enters Tryz.prog 108 = true ∧
  enters Tryz.prog 109 = true ∧
  enters Tryz.prog 111 = true ∧
  enters Tryz.prog 112 = true ∧
  enters Tryz.prog 113 = true ∧
  enters Tryz.prog 131 = true ∧
  enters Tryz.prog 132 = true ∧
  enters Tryz.prog 133 = true ∧
  enters Tryz.prog 134 = true ∧
  enters Tryz.prog 148 = true ∧
  enters Tryz.prog 149 = true := by
  and_intros <;> kernel_rfl
end Go.Proofs.YtgpcpmfdklpifaaGreatDoor

/- Scalars and lists of them as abstract values. -/
namespace Go.Proofs.YtgpcpmfdklpifaaGreatDoor
open Go.RowKit Go.Lib
abbrev AV.int (n : Int) : AV := .v (.int .i64 n)
abbrev AV.str (s : ByteArray) : AV := .v (.string s)
abbrev AV.bool (b : Bool) : AV := .v (.bool b)
@[simp] theorem AV.wid_ints (l : List Int) : AV.wid (l.map AV.int) 1 := AV.wid_map (f := AV.int) (fun _ => rfl) l
@[simp] theorem AV.wid_strs (l : List ByteArray) : AV.wid (l.map AV.str) 1 := AV.wid_map (f := AV.str) (fun _ => rfl) l
@[simp] theorem AV.wid_bools (l : List Bool) : AV.wid (l.map AV.bool) 1 := AV.wid_map (f := AV.bool) (fun _ => rfl) l
@[simp] theorem AV.wid_bytes (l : List UInt8) : AV.wid (l.map AV.byte) 1 := AV.wid_map (f := AV.byte) (fun _ => rfl) l
@[simp] theorem AV.elms_bytes (l : List UInt8) : AV.elms (l.map AV.byte) := AV.elms_map (f := AV.byte) (fun _ => rfl) l
@[simp] theorem AV.elms_ints (l : List Int) : AV.elms (l.map AV.int) := AV.elms_map (f := AV.int) (fun _ => rfl) l
@[simp] theorem AV.elms_strs (l : List ByteArray) : AV.elms (l.map AV.str) := AV.elms_map (f := AV.str) (fun _ => rfl) l
@[simp] theorem AV.elms_bools (l : List Bool) : AV.elms (l.map AV.bool) := AV.elms_map (f := AV.bool) (fun _ => rfl) l
@[simp] theorem AV.cls_append (m : Nat) (a b : List AV) : AV.cls m (a ++ b) ↔ AV.cls m a ∧ AV.cls m b := by
  rw [AV.cls_iff, AV.cls_iff, AV.cls_iff]
  exact ⟨fun h => ⟨fun y hy => h y (by simp [hy]), fun y hy => h y (by simp [hy])⟩, fun h y hy => (List.mem_append.1 hy).elim (h.1 y) (h.2 y)⟩
@[simp] theorem AV.cls_map {α : Type} {f : α → AV} {m : Nat} (h : ∀ a, (f a).cl m) (l : List α) : AV.cls m (l.map f) := by
  rw [AV.cls_iff]
  intro x hx
  obtain ⟨a, -, rfl⟩ := List.mem_map.1 hx
  exact h a
end Go.Proofs.YtgpcpmfdklpifaaGreatDoor
