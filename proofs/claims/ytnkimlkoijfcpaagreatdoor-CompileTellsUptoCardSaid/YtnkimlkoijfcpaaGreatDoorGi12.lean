/- Closed facts of the program: types, fields, functions. -/
import Derived.Test.YtnkimlkoijfcpaaGreatDoorProg
import Derived.KernelRfl
import Derived.Test.YtnkimlkoijfcpaaGreatDoorGi11
set_option linter.unusedSimpArgs false
set_option linter.unusedVariables false
namespace Go.Proofs.YtnkimlkoijfcpaaGreatDoor
open Go.RowKit Go.Lib
@[simp] theorem tab_c7 : tinfo Tryz.prog 3 = some (false, 1) ∧
  zel Tryz.prog 3 = some (.v (.int .i64 0)) ∧
  zl Tryz.prog 3 = some [.v (.int .i64 0)] ∧
  tinfo Tryz.prog 4 = some (false, 1) ∧
  fkind Tryz.prog 4 = some 1 ∧
  zel Tryz.prog 4 = some (.v (.bool false)) ∧
  tinfo Tryz.prog 9 = some (false, 1) ∧
  tinfo Tryz.prog 22 = some (false, 1) ∧
  einfo Tryz.prog 22 = some 3 ∧
  vinfo Tryz.prog 22 = some (3, 1, 8) ∧
  tinfo Tryz.prog 23 = some (false, 1) ∧
  einfo Tryz.prog 23 = some 25 ∧
  vinfo Tryz.prog 23 = some (25, 4, 56) ∧
  tinfo Tryz.prog 25 = some (true, 4) ∧
  zel Tryz.prog 25 = some (.agg [.v (.int .i64 0), .v (.int .i64 0), .v (.string ByteArray.empty), .v (.slice none 0 0)]) ∧
  zl Tryz.prog 25 = some [.v (.int .i64 0), .v (.int .i64 0), .v (.string ByteArray.empty), .v (.slice none 0 0)] ∧
  binfo Tryz.prog 25 = some [(0, 1), (1, 1), (2, 1), (3, 1)] ∧
  finfo Tryz.prog 25 0 = some (0, 3) ∧
  finfo Tryz.prog 25 1 = some (1, 3) ∧
  finfo Tryz.prog 25 2 = some (2, 9) := by
  and_intros <;> kernel_rfl
@[simp] theorem tab_c8 : finfo Tryz.prog 25 3 = some (3, 23) ∧
  tinfo Tryz.prog 26 = some (false, 1) ∧
  einfo Tryz.prog 26 = some 39 ∧
  vinfo Tryz.prog 26 = some (39, 3, 32) ∧
  tinfo Tryz.prog 39 = some (true, 3) ∧
  zl Tryz.prog 39 = some [.v (.int .i64 0), .v (.int .i64 0), .v (.string ByteArray.empty)] ∧
  binfo Tryz.prog 39 = some [(0, 1), (1, 1), (2, 1)] ∧
  finfo Tryz.prog 39 0 = some (0, 3) ∧
  finfo Tryz.prog 39 1 = some (1, 3) ∧
  finfo Tryz.prog 39 2 = some (2, 9) ∧
  tinfo Tryz.prog 42 = some (false, 1) ∧
  einfo Tryz.prog 42 = some 80 ∧
  tinfo Tryz.prog 43 = some (false, 1) ∧
  einfo Tryz.prog 43 = some 78 ∧
  vinfo Tryz.prog 43 = some (78, 7, 64) ∧
  tinfo Tryz.prog 45 = some (true, 3) ∧
  zl Tryz.prog 45 = some [.v (.slice none 0 0), .v (.slice none 0 0), .v (.int .i64 0)] ∧
  binfo Tryz.prog 45 = some [(0, 1), (1, 1), (2, 1)] ∧
  finfo Tryz.prog 45 0 = some (0, 43) ∧
  finfo Tryz.prog 45 1 = some (1, 22) := by
  and_intros <;> kernel_rfl
@[simp] theorem tab_c9 : finfo Tryz.prog 45 2 = some (2, 3) ∧
  einfo Tryz.prog 54 = some 4 ∧
  vinfo Tryz.prog 54 = some (4, 1, 1) ∧
  einfo Tryz.prog 67 = some 22 ∧
  vinfo Tryz.prog 67 = some (22, 1, 24) ∧
  tinfo Tryz.prog 78 = some (true, 7) ∧
  zl Tryz.prog 78 = some [.v (.int .i64 0), .v (.int .i64 0), .v (.int .i64 0), .v (.int .i64 0), .v (.int .i64 0), .v (.int .i64 0), .v (.string ByteArray.empty)] ∧
  binfo Tryz.prog 78 = some [(0, 1), (1, 1), (2, 1), (3, 1), (4, 1), (5, 1), (6, 1)] ∧
  finfo Tryz.prog 78 0 = some (0, 3) ∧
  finfo Tryz.prog 78 1 = some (1, 3) ∧
  finfo Tryz.prog 78 2 = some (2, 3) ∧
  finfo Tryz.prog 78 3 = some (3, 3) ∧
  finfo Tryz.prog 78 4 = some (4, 3) ∧
  finfo Tryz.prog 78 5 = some (5, 3) ∧
  finfo Tryz.prog 78 6 = some (6, 9) ∧
  tinfo Tryz.prog 80 = some (true, 7) ∧
  zl Tryz.prog 80 = some [.v (.string ByteArray.empty), .v (.slice none 0 0), .v (.int .i64 0), .v (.int .i64 0), .v (.int .i64 0), .v (.string ByteArray.empty), .v (.slice none 0 0)] ∧
  finfo Tryz.prog 80 1 = some (1, 22) ∧
  finfo Tryz.prog 80 2 = some (2, 3) ∧
  finfo Tryz.prog 80 3 = some (3, 25) := by
  and_intros <;> kernel_rfl
@[simp] theorem tab_c10 : tinfo Tryz.prog 83 = some (true, 3) ∧
  zl Tryz.prog 83 = some [.v (.slice none 0 0), .v (.slice none 0 0), .v (.slice none 0 0)] ∧
  binfo Tryz.prog 83 = some [(0, 1), (1, 1), (2, 1)] ∧
  finfo Tryz.prog 83 0 = some (0, 42) ∧
  finfo Tryz.prog 83 1 = some (1, 22) ∧
  finfo Tryz.prog 83 2 = some (2, 22) ∧
  tinfo Tryz.prog 95 = some (true, 4) ∧
  zl Tryz.prog 95 = some [.v (.slice none 0 0), .v (.int .i64 0), .v (.slice none 0 0), .v (.slice none 0 0)] ∧
  binfo Tryz.prog 95 = some [(0, 1), (1, 1), (2, 1), (3, 1)] ∧
  finfo Tryz.prog 95 0 = some (0, 42) ∧
  finfo Tryz.prog 95 1 = some (1, 3) ∧
  finfo Tryz.prog 95 2 = some (2, 26) ∧
  finfo Tryz.prog 95 3 = some (3, 26) ∧
  tinfo Tryz.prog 98 = some (false, 1) ∧
  zl Tryz.prog 100 = some [.v (.slice none 0 0), .v (.slice none 0 0), .v (.slice none 0 0), .v (.int .i64 0), .v (.map none)] ∧
  binfo Tryz.prog 100 = some [(0, 1), (1, 3), (4, 1)] ∧
  finfo Tryz.prog 100 0 = some (0, 22) ∧
  finfo Tryz.prog 100 1 = some (1, 45) ∧
  finfo Tryz.prog 100 2 = some (4, 98) ∧
  einfo Tryz.prog 101 = some 103 := by
  and_intros <;> kernel_rfl
@[simp] theorem tab_c11 : vinfo Tryz.prog 101 = some (103, 5, 64) ∧
  tinfo Tryz.prog 103 = some (true, 5) ∧
  zl Tryz.prog 103 = some [.v (.int .i64 0), .v (.int .i64 0), .v (.string ByteArray.empty), .v (.slice none 0 0), .v (.bool false)] ∧
  binfo Tryz.prog 103 = some [(0, 4), (4, 1)] ∧
  finfo Tryz.prog 103 0 = some (0, 25) ∧
  finfo Tryz.prog 103 1 = some (4, 4) ∧
  tinfo Tryz.prog 108 = some (false, 1) ∧
  einfo Tryz.prog 109 = some 108 ∧
  vinfo Tryz.prog 109 = some (108, 1, 8) ∧
  zl Tryz.prog 141 = some [.v (.int .i64 0), .v (.int .i64 0), .v (.string ByteArray.empty), .v (.int .i64 0), .v (.int .i64 0), .v (.string ByteArray.empty)] ∧
  binfo Tryz.prog 141 = some [(0, 3), (3, 3)] ∧
  finfo Tryz.prog 141 0 = some (0, 39) ∧
  finfo Tryz.prog 141 1 = some (3, 39) ∧
  tinfo Tryz.prog 143 = some (true, 3) ∧
  tinfo Tryz.prog 145 = some (true, 6) ∧
  zl Tryz.prog 145 = some [.v (.int .i64 0), .v (.int .i64 0), .v (.string ByteArray.empty), .v (.int .i64 0), .v (.int .i64 0), .v (.int .i64 0)] ∧
  binfo Tryz.prog 145 = some [(0, 1), (1, 1), (2, 1), (3, 3)] ∧
  finfo Tryz.prog 145 3 = some (3, 143) ∧
  tinfo Tryz.prog 155 = some (true, 4) ∧
  zl Tryz.prog 155 = some [.v (.int .i64 0), .v (.int .i64 0), .v (.string ByteArray.empty), .v (.int .i64 0)] := by
  and_intros <;> kernel_rfl
@[simp] theorem tab_c12 : binfo Tryz.prog 155 = some [(0, 3), (3, 1)] ∧
  finfo Tryz.prog 155 0 = some (0, 39) ∧
  finfo Tryz.prog 155 1 = some (3, 3) ∧
  einfo Tryz.prog 204 = some 9 ∧
  vinfo Tryz.prog 204 = some (9, 1, 16) ∧
  enters Tryz.prog 7 = true ∧
  enters Tryz.prog 8 = true ∧
  enters Tryz.prog 9 = true ∧
  enters Tryz.prog 10 = true ∧
  enters Tryz.prog 11 = true ∧
  enters Tryz.prog 12 = true ∧
  enters Tryz.prog 15 = true ∧
  enters Tryz.prog 17 = true ∧
  enters Tryz.prog 18 = true ∧
  enters Tryz.prog 19 = true ∧
  enters Tryz.prog 20 = true ∧
  enters Tryz.prog 21 = true ∧
  enters Tryz.prog 22 = true ∧
  enters Tryz.prog 23 = true ∧
  enters Tryz.prog 25 = true := by
  and_intros <;> kernel_rfl
@[simp] theorem tab_c13 : enters Tryz.prog 26 = true ∧
  enters Tryz.prog 27 = true ∧
  enters Tryz.prog 28 = true ∧
  enters Tryz.prog 34 = true ∧
  enters Tryz.prog 35 = true ∧
  enters Tryz.prog 36 = true ∧
  enters Tryz.prog 37 = true ∧
  enters Tryz.prog 38 = true ∧
  enters Tryz.prog 39 = true ∧
  enters Tryz.prog 40 = true ∧
  enters Tryz.prog 41 = true ∧
  enters Tryz.prog 42 = true ∧
  enters Tryz.prog 43 = true ∧
  enters Tryz.prog 44 = true ∧
  enters Tryz.prog 45 = true ∧
  enters Tryz.prog 52 = true ∧
  enters Tryz.prog 53 = true ∧
  enters Tryz.prog 54 = true ∧
  enters Tryz.prog 55 = true ∧
  enters Tryz.prog 56 = true := by
  and_intros <;> kernel_rfl
@[simp] theorem tab_c14 : enters Tryz.prog 57 = true ∧
  enters Tryz.prog 58 = true ∧
  enters Tryz.prog 61 = true ∧
  enters Tryz.prog 62 = true ∧
  enters Tryz.prog 63 = true ∧
  enters Tryz.prog 64 = true ∧
  enters Tryz.prog 65 = true ∧
  enters Tryz.prog 66 = true ∧
  enters Tryz.prog 72 = true ∧
  enters Tryz.prog 74 = true ∧
  enters Tryz.prog 87 = true ∧
  enters Tryz.prog 88 = true ∧
  enters Tryz.prog 89 = true ∧
  enters Tryz.prog 90 = true ∧
  enters Tryz.prog 91 = true ∧
  enters Tryz.prog 97 = true ∧
  enters Tryz.prog 98 = true ∧
  enters Tryz.prog 99 = true ∧
  enters Tryz.prog 100 = true ∧
  enters Tryz.prog 101 = true := by
  and_intros <;> kernel_rfl
@[simp] theorem tab_c15 : enters Tryz.prog 102 = true ∧
  enters Tryz.prog 103 = true ∧
  enters Tryz.prog 104 = true ∧
  enters Tryz.prog 105 = true ∧
  enters Tryz.prog 106 = true ∧
  enters Tryz.prog 107 = true ∧
  enters Tryz.prog 108 = true ∧
  enters Tryz.prog 109 = true ∧
  enters Tryz.prog 110 = true ∧
  enters Tryz.prog 111 = true ∧
  enters Tryz.prog 112 = true ∧
  enters Tryz.prog 113 = true ∧
  enters Tryz.prog 114 = true ∧
  enters Tryz.prog 117 = true ∧
  enters Tryz.prog 118 = true ∧
  enters Tryz.prog 119 = true ∧
  enters Tryz.prog 120 = true ∧
  enters Tryz.prog 121 = true ∧
  enters Tryz.prog 122 = true ∧
  enters Tryz.prog 123 = true := by
  and_intros <;> kernel_rfl
@[simp] theorem tab_c16 : enters Tryz.prog 127 = true ∧
  enters Tryz.prog 137 = true ∧
  enters Tryz.prog 138 = true ∧
  enters Tryz.prog 139 = true ∧
  enters Tryz.prog 140 = true ∧
  enters Tryz.prog 141 = true ∧
  enters Tryz.prog 143 = true ∧
  enters Tryz.prog 144 = true ∧
  enters Tryz.prog 145 = true ∧
  enters Tryz.prog 146 = true ∧
  enters Tryz.prog 158 = true ∧
  enters Tryz.prog 159 = true ∧
  enters Tryz.prog 160 = true ∧
  enters Tryz.prog 161 = true ∧
  enters Tryz.prog 162 = true ∧
  enters Tryz.prog 163 = true ∧
  enters Tryz.prog 175 = true ∧
  enters Tryz.prog 176 = true ∧
  enters Tryz.prog 178 = true ∧
  enters Tryz.prog 179 = true := by
  and_intros <;> kernel_rfl
@[simp] theorem tab_c17 : enters Tryz.prog 180 = true ∧
  enters Tryz.prog 187 = true ∧
  enters Tryz.prog 188 = true ∧
  enters Tryz.prog 189 = true ∧
  enters Tryz.prog 190 = true ∧
  enters Tryz.prog 191 = true ∧
  enters Tryz.prog 192 = true := by
  and_intros <;> kernel_rfl
end Go.Proofs.YtnkimlkoijfcpaaGreatDoor

/- Scalars and lists of them as abstract values. -/
namespace Go.Proofs.YtnkimlkoijfcpaaGreatDoor
open Go.RowKit Go.Lib
abbrev AV.int (n : Int) : AV := .v (.int .i64 n)
abbrev AV.str (s : ByteArray) : AV := .v (.string s)
abbrev AV.bool (b : Bool) : AV := .v (.bool b)
@[simp] theorem AV.wid_ints (l : List Int) : AV.wid (l.map AV.int) 1 := AV.wid_map (f := AV.int) (fun _ => rfl) l
@[simp] theorem AV.wid_strs (l : List ByteArray) : AV.wid (l.map AV.str) 1 := AV.wid_map (f := AV.str) (fun _ => rfl) l
@[simp] theorem AV.wid_bools (l : List Bool) : AV.wid (l.map AV.bool) 1 := AV.wid_map (f := AV.bool) (fun _ => rfl) l
@[simp] theorem AV.wid_bytes (l : List UInt8) : AV.wid (l.map AV.byte) 1 := AV.wid_map (f := AV.byte) (fun _ => rfl) l
@[simp] theorem AV.elms_bytes (l : List UInt8) : AV.elms (l.map AV.byte) := AV.elms_map (f := AV.byte) (fun _ => rfl) l
@[simp] theorem AV.elms_ints (l : List Int) : AV.elms (l.map AV.int) := AV.elms_map (f := AV.int) (fun _ => rfl) l
@[simp] theorem AV.elms_strs (l : List ByteArray) : AV.elms (l.map AV.str) := AV.elms_map (f := AV.str) (fun _ => rfl) l
@[simp] theorem AV.elms_bools (l : List Bool) : AV.elms (l.map AV.bool) := AV.elms_map (f := AV.bool) (fun _ => rfl) l
@[simp] theorem AV.cls_append (m : Nat) (a b : List AV) : AV.cls m (a ++ b) ↔ AV.cls m a ∧ AV.cls m b := by
  rw [AV.cls_iff, AV.cls_iff, AV.cls_iff]
  exact ⟨fun h => ⟨fun y hy => h y (by simp [hy]), fun y hy => h y (by simp [hy])⟩, fun h y hy => (List.mem_append.1 hy).elim (h.1 y) (h.2 y)⟩
@[simp] theorem AV.cls_map {α : Type} {f : α → AV} {m : Nat} (h : ∀ a, (f a).cl m) (l : List α) : AV.cls m (l.map f) := by
  rw [AV.cls_iff]
  intro x hx
  obtain ⟨a, -, rfl⟩ := List.mem_map.1 hx
  exact h a
end Go.Proofs.YtnkimlkoijfcpaaGreatDoor
