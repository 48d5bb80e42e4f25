/- Closed facts of the program: types, fields, functions. -/
import Derived.Test.YtkedbjjfmejbhaaGreatDoorProg
import Derived.KernelRfl
import Derived.Test.YtkedbjjfmejbhaaGreatDoorGe11
set_option linter.unusedSimpArgs false
set_option linter.unusedVariables false
namespace Go.Proofs.YtkedbjjfmejbhaaGreatDoor
open Go.RowKit Go.Lib
@[simp] theorem tab_c7 : tinfo Tryz.prog 3 = some (false, 1) /\
 intk Tryz.prog 3 = some .i64 /\
 zel Tryz.prog 3 = some (.v (.int .i64 0)) /\
 zl Tryz.prog 3 = some [.v (.int .i64 0)] /\
 tinfo Tryz.prog 4 = some (false, 1) /\
 fkind Tryz.prog 4 = some 1 /\
 zel Tryz.prog 4 = some (.v (.bool false)) /\
 tinfo Tryz.prog 9 = some (false, 1) /\
 tinfo Tryz.prog 22 = some (false, 1) /\
 einfo Tryz.prog 22 = some 67 /\
 tinfo Tryz.prog 23 = some (false, 1) /\
 einfo Tryz.prog 23 = some 3 /\
 vinfo Tryz.prog 23 = some (3, 1, 8) /\
 tinfo Tryz.prog 24 = some (false, 1) /\
 einfo Tryz.prog 24 = some 44 /\
 vinfo Tryz.prog 24 = some (44, 4, 56) /\
 tinfo Tryz.prog 25 = some (false, 1) /\
 einfo Tryz.prog 25 = some 108 /\
 tinfo Tryz.prog 26 = some (false, 1) /\
 einfo Tryz.prog 26 = some 70 := by
 and_intros <;> kernel_rfl
@[simp] theorem tab_c8 : tinfo Tryz.prog 29 = some (true, 16) /\
 finfo Tryz.prog 29 0 = some (0, 3) /\
 finfo Tryz.prog 29 4 = some (4, 24) /\
 finfo Tryz.prog 29 8 = some (8, 23) /\
 finfo Tryz.prog 29 9 = some (9, 23) /\
 finfo Tryz.prog 29 13 = some (13, 25) /\
 finfo Tryz.prog 29 14 = some (14, 26) /\
 tinfo Tryz.prog 30 = some (false, 1) /\
 einfo Tryz.prog 30 = some 55 /\
 vinfo Tryz.prog 30 = some (55, 3, 40) /\
 einfo Tryz.prog 34 = some 23 /\
 vinfo Tryz.prog 34 = some (23, 1, 24) /\
 einfo Tryz.prog 36 = some 39 /\
 vinfo Tryz.prog 36 = some (39, 3, 56) /\
 tinfo Tryz.prog 37 = some (false, 1) /\
 einfo Tryz.prog 37 = some 58 /\
 vinfo Tryz.prog 37 = some (58, 7, 64) /\
 tinfo Tryz.prog 39 = some (true, 3) /\
 zl Tryz.prog 39 = some [.v (.slice none 0 0), .v (.slice none 0 0), .v (.int .i64 0)] /\
 binfo Tryz.prog 39 = some [(0, 1), (1, 1), (2, 1)] := by
 and_intros <;> kernel_rfl
@[simp] theorem tab_c9 : finfo Tryz.prog 39 0 = some (0, 37) /\
 finfo Tryz.prog 39 1 = some (1, 23) /\
 finfo Tryz.prog 39 2 = some (2, 3) /\
 tinfo Tryz.prog 44 = some (true, 4) /\
 zel Tryz.prog 44 = some (.agg [.v (.int .i64 0), .v (.int .i64 0), .v (.string ByteArray.empty), .v (.slice none 0 0)]) /\
 zl Tryz.prog 44 = some [.v (.int .i64 0), .v (.int .i64 0), .v (.string ByteArray.empty), .v (.slice none 0 0)] /\
 binfo Tryz.prog 44 = some [(0, 1), (1, 1), (2, 1), (3, 1)] /\
 finfo Tryz.prog 44 0 = some (0, 3) /\
 finfo Tryz.prog 44 1 = some (1, 3) /\
 finfo Tryz.prog 44 2 = some (2, 9) /\
 finfo Tryz.prog 44 3 = some (3, 24) /\
 einfo Tryz.prog 47 = some 30 /\
 vinfo Tryz.prog 47 = some (30, 1, 24) /\
 tinfo Tryz.prog 53 = some (false, 1) /\
 einfo Tryz.prog 53 = some 63 /\
 vinfo Tryz.prog 53 = some (63, 3, 32) /\
 zel Tryz.prog 53 = some (.v (.slice none 0 0)) /\
 zl Tryz.prog 53 = some [.v (.slice none 0 0)] /\
 tinfo Tryz.prog 55 = some (true, 3) /\
 zel Tryz.prog 55 = some (.agg [.v (.int .i64 0), .v (.slice none 0 0), .v (.int .i64 0)]) := by
 and_intros <;> kernel_rfl
@[simp] theorem qtv1 : zl Tryz.prog 55 = some [.v (.int .i64 0), .v (.slice none 0 0), .v (.int .i64 0)] /\
 binfo Tryz.prog 55 = some [(0, 1), (1, 1), (2, 1)] /\
 finfo Tryz.prog 55 0 = some (0, 3) /\
 finfo Tryz.prog 55 1 = some (1, 53) /\
 finfo Tryz.prog 55 2 = some (2, 3) /\
 tinfo Tryz.prog 58 = some (true, 7) /\
 zl Tryz.prog 58 = some [.v (.int .i64 0), .v (.int .i64 0), .v (.int .i64 0), .v (.int .i64 0), .v (.int .i64 0), .v (.int .i64 0), .v (.string ByteArray.empty)] /\
 binfo Tryz.prog 58 = some [(0, 1), (1, 1), (2, 1), (3, 1), (4, 1), (5, 1), (6, 1)] /\
 finfo Tryz.prog 58 0 = some (0, 3) /\
 finfo Tryz.prog 58 1 = some (1, 3) /\
 finfo Tryz.prog 58 2 = some (2, 3) /\
 finfo Tryz.prog 58 3 = some (3, 3) /\
 finfo Tryz.prog 58 4 = some (4, 3) /\
 finfo Tryz.prog 58 5 = some (5, 3) /\
 finfo Tryz.prog 58 6 = some (6, 9) /\
 tinfo Tryz.prog 63 = some (true, 3) /\
 zel Tryz.prog 63 = some (.agg [.v (.int .i64 0), .v (.int .i64 0), .v (.string ByteArray.empty)]) /\
 zl Tryz.prog 63 = some [.v (.int .i64 0), .v (.int .i64 0), .v (.string ByteArray.empty)] /\
 binfo Tryz.prog 63 = some [(0, 1), (1, 1), (2, 1)] /\
 finfo Tryz.prog 63 0 = some (0, 3) := by
 and_intros <;> kernel_rfl
@[simp] theorem qtw1 : finfo Tryz.prog 63 1 = some (1, 3) /\
 finfo Tryz.prog 63 2 = some (2, 9) /\
 tinfo Tryz.prog 67 = some (true, 7) /\
 zl Tryz.prog 67 = some [.v (.string ByteArray.empty), .v (.slice none 0 0), .v (.int .i64 0), .v (.int .i64 0), .v (.int .i64 0), .v (.string ByteArray.empty), .v (.slice none 0 0)] /\
 finfo Tryz.prog 67 1 = some (1, 23) /\
 finfo Tryz.prog 67 2 = some (2, 3) /\
 finfo Tryz.prog 67 3 = some (3, 44) /\
 tinfo Tryz.prog 70 = some (true, 5) /\
 finfo Tryz.prog 70 0 = some (0, 44) /\
 tinfo Tryz.prog 84 = some (false, 1) /\
 zl Tryz.prog 86 = some [.v (.slice none 0 0), .v (.slice none 0 0), .v (.slice none 0 0), .v (.int .i64 0), .v (.map none)] /\
 binfo Tryz.prog 86 = some [(0, 1), (1, 3), (4, 1)] /\
 finfo Tryz.prog 86 0 = some (0, 23) /\
 finfo Tryz.prog 86 1 = some (1, 39) /\
 finfo Tryz.prog 86 2 = some (4, 84) /\
 tinfo Tryz.prog 110 = some (true, 3) /\
 zl Tryz.prog 110 = some [.v (.slice none 0 0), .v (.slice none 0 0), .v (.slice none 0 0)] /\
 binfo Tryz.prog 110 = some [(0, 1), (1, 1), (2, 1)] /\
 finfo Tryz.prog 110 0 = some (0, 22) /\
 finfo Tryz.prog 110 1 = some (1, 23) := by
 and_intros <;> kernel_rfl
@[simp] theorem qtx1 : finfo Tryz.prog 110 2 = some (2, 23) /\
 einfo Tryz.prog 112 = some 114 /\
 vinfo Tryz.prog 112 = some (114, 5, 64) /\
 tinfo Tryz.prog 114 = some (true, 5) /\
 zl Tryz.prog 114 = some [.v (.int .i64 0), .v (.int .i64 0), .v (.string ByteArray.empty), .v (.slice none 0 0), .v (.bool false)] /\
 binfo Tryz.prog 114 = some [(0, 4), (4, 1)] /\
 finfo Tryz.prog 114 0 = some (0, 44) /\
 finfo Tryz.prog 114 1 = some (4, 4) /\
 tinfo Tryz.prog 116 = some (true, 3) /\
 tinfo Tryz.prog 118 = some (true, 6) /\
 zl Tryz.prog 118 = some [.v (.int .i64 0), .v (.int .i64 0), .v (.string ByteArray.empty), .v (.int .i64 0), .v (.int .i64 0), .v (.int .i64 0)] /\
 binfo Tryz.prog 118 = some [(0, 1), (1, 1), (2, 1), (3, 3)] /\
 finfo Tryz.prog 118 3 = some (3, 116) /\
 tinfo Tryz.prog 124 = some (false, 1) /\
 einfo Tryz.prog 125 = some 124 /\
 vinfo Tryz.prog 125 = some (124, 1, 8) /\
 tinfo Tryz.prog 127 = some (true, 4) /\
 zl Tryz.prog 127 = some [.v (.slice none 0 0), .v (.int .i64 0), .v (.slice none 0 0), .v (.slice none 0 0)] /\
 binfo Tryz.prog 127 = some [(0, 1), (1, 1), (2, 1), (3, 1)] /\
 finfo Tryz.prog 127 0 = some (0, 22) := by
 and_intros <;> kernel_rfl
@[simp] theorem qty1 : finfo Tryz.prog 127 1 = some (1, 3) /\
 finfo Tryz.prog 127 2 = some (2, 53) /\
 finfo Tryz.prog 127 3 = some (3, 53) /\
 tinfo Tryz.prog 150 = some (false, 1) /\
 einfo Tryz.prog 150 = some 4 /\
 vinfo Tryz.prog 150 = some (4, 1, 1) /\
 tinfo Tryz.prog 156 = some (false, 1) /\
 tinfo Tryz.prog 157 = some (false, 1) /\
 einfo Tryz.prog 157 = some 53 /\
 vinfo Tryz.prog 157 = some (53, 1, 24) /\
 zl Tryz.prog 159 = some [.v (.slice none 0 0), .v (.slice none 0 0)] /\
 binfo Tryz.prog 159 = some [(0, 1), (1, 1)] /\
 finfo Tryz.prog 159 0 = some (0, 30) /\
 finfo Tryz.prog 159 1 = some (1, 157) /\
 einfo Tryz.prog 161 = some 160 /\
 vinfo Tryz.prog 161 = some (160, 1, 8) /\
 zl Tryz.prog 174 = some [.v (.int .i64 0), .v (.int .i64 0), .v (.string ByteArray.empty), .v (.int .i64 0), .v (.int .i64 0), .v (.string ByteArray.empty)] /\
 binfo Tryz.prog 174 = some [(0, 3), (3, 3)] /\
 finfo Tryz.prog 174 0 = some (0, 63) /\
 finfo Tryz.prog 174 1 = some (3, 63) := by
 and_intros <;> kernel_rfl
@[simp] theorem qtz1 : intk Tryz.prog 220 = some .u64 /\
 enters Tryz.prog 4 = true /\
 enters Tryz.prog 5 = true /\
 enters Tryz.prog 6 = true /\
 enters Tryz.prog 7 = true /\
 enters Tryz.prog 8 = true /\
 enters Tryz.prog 9 = true /\
 enters Tryz.prog 10 = true /\
 enters Tryz.prog 11 = true /\
 enters Tryz.prog 12 = true /\
 enters Tryz.prog 13 = true /\
 enters Tryz.prog 14 = true /\
 enters Tryz.prog 15 = true /\
 enters Tryz.prog 16 = true /\
 enters Tryz.prog 17 = true /\
 enters Tryz.prog 18 = true /\
 enters Tryz.prog 19 = true /\
 enters Tryz.prog 20 = true /\
 enters Tryz.prog 21 = true /\
 enters Tryz.prog 22 = true := by
 and_intros <;> kernel_rfl
@[simp] theorem qua1 : enters Tryz.prog 23 = true /\
 enters Tryz.prog 24 = true /\
 enters Tryz.prog 25 = true /\
 enters Tryz.prog 26 = true /\
 enters Tryz.prog 31 = true /\
 enters Tryz.prog 32 = true /\
 enters Tryz.prog 33 = true /\
 enters Tryz.prog 34 = true /\
 enters Tryz.prog 35 = true /\
 enters Tryz.prog 36 = true /\
 enters Tryz.prog 37 = true /\
 enters Tryz.prog 38 = true /\
 enters Tryz.prog 39 = true /\
 enters Tryz.prog 40 = true /\
 enters Tryz.prog 48 = true /\
 enters Tryz.prog 49 = true /\
 enters Tryz.prog 50 = true /\
 enters Tryz.prog 51 = true /\
 enters Tryz.prog 52 = true /\
 enters Tryz.prog 53 = true := by
 and_intros <;> kernel_rfl
@[simp] theorem qub1 : enters Tryz.prog 55 = true /\
 enters Tryz.prog 56 = true /\
 enters Tryz.prog 57 = true /\
 enters Tryz.prog 58 = true /\
 enters Tryz.prog 59 = true /\
 enters Tryz.prog 60 = true /\
 enters Tryz.prog 61 = true /\
 enters Tryz.prog 62 = true /\
 enters Tryz.prog 63 = true /\
 enters Tryz.prog 64 = true /\
 enters Tryz.prog 65 = true /\
 enters Tryz.prog 66 = true /\
 enters Tryz.prog 67 = true /\
 enters Tryz.prog 68 = true /\
 enters Tryz.prog 69 = true /\
 enters Tryz.prog 70 = true /\
 enters Tryz.prog 71 = true /\
 enters Tryz.prog 76 = true /\
 enters Tryz.prog 78 = true /\
 enters Tryz.prog 80 = true := by
 and_intros <;> kernel_rfl
@[simp] theorem quc1 : enters Tryz.prog 87 = true /\
 enters Tryz.prog 88 = true /\
 enters Tryz.prog 89 = true /\
 enters Tryz.prog 90 = true /\
 enters Tryz.prog 91 = true /\
 enters Tryz.prog 93 = true /\
 enters Tryz.prog 94 = true /\
 enters Tryz.prog 95 = true /\
 enters Tryz.prog 96 = true /\
 enters Tryz.prog 97 = true /\
 enters Tryz.prog 98 = true /\
 enters Tryz.prog 99 = true /\
 enters Tryz.prog 100 = true /\
 enters Tryz.prog 101 = true /\
 enters Tryz.prog 102 = true /\
 enters Tryz.prog 104 = true /\
 enters Tryz.prog 105 = true /\
 enters Tryz.prog 106 = true /\
 enters Tryz.prog 107 = true /\
 enters Tryz.prog 108 = true := by
 and_intros <;> kernel_rfl
@[simp] theorem qud1 : enters Tryz.prog 109 = true /\
 enters Tryz.prog 110 = true /\
 enters Tryz.prog 111 = true /\
 enters Tryz.prog 112 = true /\
 enters Tryz.prog 113 = true /\
 enters Tryz.prog 114 = true /\
 enters Tryz.prog 115 = true /\
 enters Tryz.prog 116 = true /\
 enters Tryz.prog 117 = true /\
 enters Tryz.prog 118 = true /\
 enters Tryz.prog 119 = true /\
 enters Tryz.prog 120 = true /\
 enters Tryz.prog 121 = true /\
 enters Tryz.prog 122 = true /\
 enters Tryz.prog 123 = true /\
 enters Tryz.prog 124 = true /\
 enters Tryz.prog 125 = true /\
 enters Tryz.prog 126 = true /\
 enters Tryz.prog 130 = true /\
 enters Tryz.prog 131 = true := by
 and_intros <;> kernel_rfl
@[simp] theorem que1 : enters Tryz.prog 132 = true /\
 enters Tryz.prog 133 = true /\
 enters Tryz.prog 142 = true /\
 enters Tryz.prog 143 = true /\
 enters Tryz.prog 144 = true /\
 enters Tryz.prog 145 = true /\
 enters Tryz.prog 147 = true /\
 enters Tryz.prog 148 = true /\
 enters Tryz.prog 150 = true /\
 enters Tryz.prog 153 = true /\
 enters Tryz.prog 155 = true /\
 enters Tryz.prog 156 = true /\
 enters Tryz.prog 157 = true /\
 enters Tryz.prog 158 = true /\
 enters Tryz.prog 159 = true /\
 enters Tryz.prog 160 = true /\
 enters Tryz.prog 161 = true /\
 enters Tryz.prog 162 = true /\
 enters Tryz.prog 163 = true /\
 enters Tryz.prog 164 = true := by
 and_intros <;> kernel_rfl
@[simp] theorem quf1 : enters Tryz.prog 168 = true /\
 enters Tryz.prog 169 = true /\
 enters Tryz.prog 179 = true /\
 enters Tryz.prog 180 = true /\
 enters Tryz.prog 181 = true /\
 enters Tryz.prog 182 = true /\
 enters Tryz.prog 183 = true /\
 enters Tryz.prog 184 = true /\
 enters Tryz.prog 185 = true /\
 enters Tryz.prog 186 = true /\
 enters Tryz.prog 190 = true /\
 enters Tryz.prog 205 = true /\
 enters Tryz.prog 215 = true := by
 and_intros <;> kernel_rfl
abbrev AV.int (n : Int) : AV := .v (.int .i64 n)
abbrev AV.str (s : ByteArray) : AV := .v (.string s)
abbrev AV.bool (b : Bool) : AV := .v (.bool b)
@[simp] theorem AV.wid_ints (l : List Int) : AV.wid (l.map AV.int) 1 := AV.wid_map (f := AV.int) (fun _ => rfl) l
@[simp] theorem AV.wid_strs (l : List ByteArray) : AV.wid (l.map AV.str) 1 := AV.wid_map (f := AV.str) (fun _ => rfl) l
@[simp] theorem AV.wid_bools (l : List Bool) : AV.wid (l.map AV.bool) 1 := AV.wid_map (f := AV.bool) (fun _ => rfl) l
@[simp] theorem AV.wid_bytes (l : List UInt8) : AV.wid (l.map AV.byte) 1 := AV.wid_map (f := AV.byte) (fun _ => rfl) l
@[simp] theorem AV.elms_bytes (l : List UInt8) : AV.elms (l.map AV.byte) := AV.elms_map (f := AV.byte) (fun _ => rfl) l
@[simp] theorem AV.elms_ints (l : List Int) : AV.elms (l.map AV.int) := AV.elms_map (f := AV.int) (fun _ => rfl) l
@[simp] theorem AV.elms_strs (l : List ByteArray) : AV.elms (l.map AV.str) := AV.elms_map (f := AV.str) (fun _ => rfl) l
@[simp] theorem AV.elms_bools (l : List Bool) : AV.elms (l.map AV.bool) := AV.elms_map (f := AV.bool) (fun _ => rfl) l
@[simp] theorem AV.cls_append (m : Nat) (a b : List AV) : AV.cls m (a ++ b) ↔ AV.cls m a /\ AV.cls m b := by
 rw [AV.cls_iff, AV.cls_iff, AV.cls_iff]
 exact ⟨fun h => ⟨fun y hy => h y (by simp [hy]), fun y hy => h y (by simp [hy])⟩, fun h y hy => (List.mem_append.1 hy).elim (h.1 y) (h.2 y)⟩
@[simp] theorem AV.cls_map {α : Type} {f : α -> AV} {m : Nat} (h : ∀ a, (f a).cl m) (l : List α) : AV.cls m (l.map f) := by
 rw [AV.cls_iff]
 intro x hx
 obtain ⟨a, -, rfl⟩ := List.mem_map.1 hx
 exact h a
end Go.Proofs.YtkedbjjfmejbhaaGreatDoor
