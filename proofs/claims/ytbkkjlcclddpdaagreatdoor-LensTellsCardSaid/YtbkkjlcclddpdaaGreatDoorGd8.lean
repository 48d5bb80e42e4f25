/- Closed facts of the program: types, fields, functions. -/
import Derived.Test.YtbkkjlcclddpdaaGreatDoorProg
import Derived.KernelRfl
import Derived.Test.YtbkkjlcclddpdaaGreatDoorGd7
set_option linter.unusedSimpArgs false
set_option linter.unusedVariables false
namespace Go.Proofs.YtbkkjlcclddpdaaGreatDoor
open Go.RowKit Go.Lib
@[simp] theorem tab_c7 : tinfo Tryz.prog 3 = some (false, 1) ∧
  intk Tryz.prog 3 = some .i64 ∧
  tinfo Tryz.prog 4 = some (false, 1) ∧
  fkind Tryz.prog 4 = some 1 ∧
  zl Tryz.prog 4 = some [.v (.bool false)] ∧
  tinfo Tryz.prog 5 = some (false, 1) ∧
  intk Tryz.prog 5 = some .u8 ∧
  zel Tryz.prog 5 = some (.v (.int .u8 0)) ∧
  tinfo Tryz.prog 9 = some (false, 1) ∧
  intk Tryz.prog 9 = none ∧
  tinfo Tryz.prog 22 = some (false, 1) ∧
  einfo Tryz.prog 22 = some 29 ∧
  vinfo Tryz.prog 22 = some (29, 9, 112) ∧
  zl Tryz.prog 22 = some [.v (.slice none 0 0)] ∧
  tinfo Tryz.prog 27 = some (true, 3) ∧
  zel Tryz.prog 27 = some (.agg [.v (.int .i64 0), .v (.int .i64 0), .v (.string ByteArray.empty)]) ∧
  zl Tryz.prog 27 = some [.v (.int .i64 0), .v (.int .i64 0), .v (.string ByteArray.empty)] ∧
  binfo Tryz.prog 27 = some [(0, 1), (1, 1), (2, 1)] ∧
  finfo Tryz.prog 27 0 = some (0, 3) ∧
  finfo Tryz.prog 27 1 = some (1, 3) := by
  and_intros <;> kernel_rfl
@[simp] theorem tab_c8 : finfo Tryz.prog 27 2 = some (2, 9) ∧
  tinfo Tryz.prog 29 = some (true, 9) ∧
  zl Tryz.prog 29 = some [.v (.int .i64 0), .v (.string ByteArray.empty), .v (.string ByteArray.empty), .v (.string ByteArray.empty), .v (.string ByteArray.empty), .v (.int .i64 0), .v (.int .i64 0), .v (.int .i64 0), .v (.string ByteArray.empty)] ∧
  binfo Tryz.prog 29 = some [(0, 1), (1, 1), (2, 1), (3, 1), (4, 1), (5, 1), (6, 3)] ∧
  finfo Tryz.prog 29 0 = some (0, 3) ∧
  finfo Tryz.prog 29 1 = some (1, 9) ∧
  finfo Tryz.prog 29 2 = some (2, 9) ∧
  finfo Tryz.prog 29 3 = some (3, 9) ∧
  finfo Tryz.prog 29 4 = some (4, 9) ∧
  finfo Tryz.prog 29 5 = some (5, 3) ∧
  finfo Tryz.prog 29 6 = some (6, 27) ∧
  tinfo Tryz.prog 35 = some (false, 1) ∧
  einfo Tryz.prog 35 = some 53 ∧
  vinfo Tryz.prog 35 = some (53, 3, 40) ∧
  tinfo Tryz.prog 36 = some (false, 1) ∧
  einfo Tryz.prog 36 = some 27 ∧
  vinfo Tryz.prog 36 = some (27, 3, 32) ∧
  zl Tryz.prog 36 = some [.v (.slice none 0 0)] ∧
  tinfo Tryz.prog 53 = some (true, 3) ∧
  zl Tryz.prog 53 = some [.v (.string ByteArray.empty), .v (.int .i64 0), .v (.string ByteArray.empty)] := by
  and_intros <;> kernel_rfl
@[simp] theorem tab_c9 : binfo Tryz.prog 53 = some [(0, 1), (1, 1), (2, 1)] ∧
  finfo Tryz.prog 53 0 = some (0, 9) ∧
  finfo Tryz.prog 53 1 = some (1, 3) ∧
  finfo Tryz.prog 53 2 = some (2, 9) ∧
  zl Tryz.prog 57 = some [.v (.bool false), .v (.bool false), .v (.bool false), .v (.bool false), .v (.bool false)] ∧
  binfo Tryz.prog 57 = some [(0, 1), (1, 1), (2, 1), (3, 1), (4, 1)] ∧
  finfo Tryz.prog 57 0 = some (0, 4) ∧
  finfo Tryz.prog 57 1 = some (1, 4) ∧
  finfo Tryz.prog 57 2 = some (2, 4) ∧
  finfo Tryz.prog 57 3 = some (3, 4) ∧
  finfo Tryz.prog 57 4 = some (4, 4) ∧
  tinfo Tryz.prog 59 = some (false, 1) ∧
  einfo Tryz.prog 59 = some 5 ∧
  vinfo Tryz.prog 59 = some (5, 1, 1) ∧
  intk Tryz.prog 59 = none ∧
  zl Tryz.prog 61 = some [.v (.pointer none), .v (.slice none 0 0)] ∧
  finfo Tryz.prog 61 1 = some (1, 59) ∧
  tinfo Tryz.prog 85 = some (false, 1) ∧
  einfo Tryz.prog 85 = some 35 ∧
  vinfo Tryz.prog 85 = some (35, 1, 24) := by
  and_intros <;> kernel_rfl
@[simp] theorem tab_c10 : zl Tryz.prog 85 = some [.v (.slice none 0 0)] ∧
  einfo Tryz.prog 107 = some 9 ∧
  vinfo Tryz.prog 107 = some (9, 1, 16) ∧
  enters Tryz.prog 9 = true ∧
  enters Tryz.prog 10 = true ∧
  enters Tryz.prog 11 = true ∧
  enters Tryz.prog 12 = true ∧
  enters Tryz.prog 13 = true ∧
  enters Tryz.prog 17 = true ∧
  enters Tryz.prog 18 = true ∧
  enters Tryz.prog 19 = true ∧
  enters Tryz.prog 20 = true ∧
  enters Tryz.prog 21 = true ∧
  enters Tryz.prog 22 = true ∧
  enters Tryz.prog 23 = true ∧
  enters Tryz.prog 24 = true ∧
  enters Tryz.prog 25 = true ∧
  enters Tryz.prog 26 = true ∧
  enters Tryz.prog 27 = true ∧
  enters Tryz.prog 28 = true := by
  and_intros <;> kernel_rfl
@[simp] theorem tab_c11 : enters Tryz.prog 29 = true ∧
  enters Tryz.prog 30 = true ∧
  enters Tryz.prog 31 = true ∧
  enters Tryz.prog 34 = true ∧
  enters Tryz.prog 35 = true ∧
  enters Tryz.prog 36 = true ∧
  enters Tryz.prog 37 = true ∧
  enters Tryz.prog 38 = true ∧
  enters Tryz.prog 39 = true ∧
  enters Tryz.prog 40 = true ∧
  enters Tryz.prog 41 = true ∧
  enters Tryz.prog 44 = true ∧
  enters Tryz.prog 45 = true ∧
  enters Tryz.prog 46 = true ∧
  enters Tryz.prog 47 = true ∧
  enters Tryz.prog 48 = true ∧
  enters Tryz.prog 49 = true ∧
  enters Tryz.prog 50 = true ∧
  enters Tryz.prog 51 = true ∧
  enters Tryz.prog 52 = true := by
  and_intros <;> kernel_rfl
@[simp] theorem tab_c12 : enters Tryz.prog 53 = true ∧
  enters Tryz.prog 54 = true ∧
  enters Tryz.prog 55 = true ∧
  enters Tryz.prog 56 = true ∧
  enters Tryz.prog 57 = true ∧
  enters Tryz.prog 58 = true ∧
  enters Tryz.prog 59 = true ∧
  enters Tryz.prog 60 = true ∧
  enters Tryz.prog 61 = true ∧
  enters Tryz.prog 62 = true ∧
  enters Tryz.prog 63 = true ∧
  enters Tryz.prog 64 = true ∧
  enters Tryz.prog 65 = true ∧
  enters Tryz.prog 66 = true ∧
  enters Tryz.prog 67 = true ∧
  enters Tryz.prog 68 = true ∧
  enters Tryz.prog 69 = true ∧
  enters Tryz.prog 70 = true ∧
  enters Tryz.prog 71 = true ∧
  enters Tryz.prog 72 = true := by
  and_intros <;> kernel_rfl
@[simp] theorem tab_c13 : enters Tryz.prog 73 = true ∧
  enters Tryz.prog 74 = true ∧
  enters Tryz.prog 75 = true ∧
  enters Tryz.prog 77 = true ∧
  enters Tryz.prog 78 = true ∧
  enters Tryz.prog 79 = true ∧
  enters Tryz.prog 80 = true ∧
  enters Tryz.prog 81 = true ∧
  enters Tryz.prog 82 = true ∧
  enters Tryz.prog 86 = true ∧
  enters Tryz.prog 87 = true ∧
  enters Tryz.prog 92 = true ∧
  enters Tryz.prog 93 = true ∧
  enters Tryz.prog 95 = true ∧
  enters Tryz.prog 96 = true ∧
  enters Tryz.prog 97 = true ∧
  enters Tryz.prog 98 = true ∧
  enters Tryz.prog 103 = true ∧
  enters Tryz.prog 104 = true ∧
  enters Tryz.prog 105 = true := by
  and_intros <;> kernel_rfl
@[simp] theorem tab_c14 : enters Tryz.prog 106 = true ∧
  enters Tryz.prog 107 = true ∧
  enters Tryz.prog 108 = true ∧
  enters Tryz.prog 109 = true ∧
  enters Tryz.prog 110 = true ∧
  enters Tryz.prog 111 = true ∧
  enters Tryz.prog 112 = true ∧
  enters Tryz.prog 113 = true ∧
  enters Tryz.prog 114 = true ∧
  enters Tryz.prog 115 = true ∧
  enters Tryz.prog 116 = true ∧
  enters Tryz.prog 117 = true ∧
  enters Tryz.prog 118 = true ∧
  enters Tryz.prog 119 = true ∧
  enters Tryz.prog 121 = true ∧
  enters Tryz.prog 122 = true ∧
  enters Tryz.prog 123 = true ∧
  enters Tryz.prog 125 = true ∧
  enters Tryz.prog 126 = true ∧
  enters Tryz.prog 132 = true := by
  and_intros <;> kernel_rfl
@[simp] theorem tab_c15 : enters Tryz.prog 134 = true ∧
  enters Tryz.prog 135 = true ∧
  enters Tryz.prog 136 = true ∧
  enters Tryz.prog 140 = true ∧
  enters Tryz.prog 147 = true := by
  and_intros <;> kernel_rfl
end Go.Proofs.YtbkkjlcclddpdaaGreatDoor

/- Scalars and lists of them as abstract values. -/
namespace Go.Proofs.YtbkkjlcclddpdaaGreatDoor
open Go.RowKit Go.Lib
abbrev AV.int (n : Int) : AV := .v (.int .i64 n)
abbrev AV.str (s : ByteArray) : AV := .v (.string s)
abbrev AV.bool (b : Bool) : AV := .v (.bool b)
@[simp] theorem AV.wid_ints (l : List Int) : AV.wid (l.map AV.int) 1 := AV.wid_map (f := AV.int) (fun _ => rfl) l
@[simp] theorem AV.wid_strs (l : List ByteArray) : AV.wid (l.map AV.str) 1 := AV.wid_map (f := AV.str) (fun _ => rfl) l
@[simp] theorem AV.wid_bools (l : List Bool) : AV.wid (l.map AV.bool) 1 := AV.wid_map (f := AV.bool) (fun _ => rfl) l
@[simp] theorem AV.wid_bytes (l : List UInt8) : AV.wid (l.map AV.byte) 1 := AV.wid_map (f := AV.byte) (fun _ => rfl) l
@[simp] theorem AV.elms_bytes (l : List UInt8) : AV.elms (l.map AV.byte) := AV.elms_map (f := AV.byte) (fun _ => rfl) l
@[simp] theorem AV.elms_ints (l : List Int) : AV.elms (l.map AV.int) := AV.elms_map (f := AV.int) (fun _ => rfl) l
@[simp] theorem AV.elms_strs (l : List ByteArray) : AV.elms (l.map AV.str) := AV.elms_map (f := AV.str) (fun _ => rfl) l
@[simp] theorem AV.elms_bools (l : List Bool) : AV.elms (l.map AV.bool) := AV.elms_map (f := AV.bool) (fun _ => rfl) l
@[simp] theorem AV.cls_append (m : Nat) (a b : List AV) : AV.cls m (a ++ b) ↔ AV.cls m a ∧ AV.cls m b := by
  rw [AV.cls_iff, AV.cls_iff, AV.cls_iff]
  exact ⟨fun h => ⟨fun y hy => h y (by simp [hy]), fun y hy => h y (by simp [hy])⟩, fun h y hy => (List.mem_append.1 hy).elim (h.1 y) (h.2 y)⟩
@[simp] theorem AV.cls_map {α : Type} {f : α → AV} {m : Nat} (h : ∀ a, (f a).cl m) (l : List α) : AV.cls m (l.map f) := by
  rw [AV.cls_iff]
  intro x hx
  obtain ⟨a, -, rfl⟩ := List.mem_map.1 hx
  exact h a
end Go.Proofs.YtbkkjlcclddpdaaGreatDoor

/- Lists of bytes as strings. -/
namespace Go.Proofs.YtbkkjlcclddpdaaGreatDoor
open Go.RowKit Go.Lib
def qk (l : List UInt8) : ByteArray := ⟨l.toArray⟩
@[simp] theorem bytesA_data (l : List UInt8) : (qk l).data.toList = l := rfl
@[simp] theorem qgf (l : List UInt8) : (qk l).toList = l := by rw [ByteArray.toList_eq]; rfl
theorem bytesA_eq (s : ByteArray) : qk s.data.toList = s := by obtain ⟨⟨l⟩⟩ := s; rfl
end Go.Proofs.YtbkkjlcclddpdaaGreatDoor
