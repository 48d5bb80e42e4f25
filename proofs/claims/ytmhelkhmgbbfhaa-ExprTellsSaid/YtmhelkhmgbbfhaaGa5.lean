/- Walk: the end of what the reference finds the type of an expression by, a theorem for each kind of operation. -/
import Derived.Test.YtmhelkhmgbbfhaaGa3
namespace Go.Proofs.Ytmhelkhmgbbfhaa
open Go.RowKit Go.Lib

theorem size_zero (s : ByteArray) : s.size = 0 ↔ s.toList = [] := by
  have h : s.size = s.data.toList.length := by rw [Array.length_toList]; rfl
  have e : s.toList = s.data.toList := ByteArray.toList_eq s
  rw [e, h]
  exact List.length_eq_zero_iff
theorem len_1 {l : List Int} (h : l.length = 1) : ∃ a, l = [a] := by
  match l, h with | [a], _ => exact ⟨a, rfl⟩
theorem len_2 {l : List Int} (h : l.length = 2) : ∃ a b, l = [a, b] := by
  match l, h with | [a, b], _ => exact ⟨a, b, rfl⟩
theorem len_3 {l : List Int} (h : l.length = 3) : ∃ a b c, l = [a, b, c] := by
  match l, h with | [a, b, c], _ => exact ⟨a, b, c, rfl⟩
/-- how many operands an operation has, -1 for none -/
def arity (op : Int) : Int := if 0 ≤ op ∧ op ≤ 5 then 0 else if op = 6 ∨ op = 7 ∨ op = 20 then 1 else if op = 21 then 3 else if 5 < op ∧ op < 21 then 2 else -1
theorem tail_arity {F : List Fn} {c p : List Int} {op n a : Int} {s : ByteArray} {ts : List Int} (h : arity op = a) (h22 : op ≠ 22) (ha : (ts.length : Int) ≠ a) : tailT F c p op n s ts = none := by
  unfold tailT
  by_cases hq : s.size ≠ 0 ∧ op ≠ 1
  · rw [if_pos hq]
  rw [if_neg hq, if_neg h22]
  subst h
  by_cases hn : ts = []
  · subst hn
    rw [if_pos rfl]
    have h0 : ¬ (0 ≤ op ∧ op ≤ 5) := fun hx => ha (by unfold arity; rw [if_pos hx]; rfl)
    unfold leafT
    rw [if_neg (by omega), if_neg (by omega), if_neg (by omega), if_neg (by omega), if_neg (by omega), if_neg (by omega)]
  · rw [if_neg hn]
    unfold operT
    have h1 : ∀ a, ts = [a] → ¬ (op = 6 ∨ op = 7 ∨ op = 20) := fun a e hx => ha (by subst e; unfold arity; rw [if_neg (by omega), if_pos hx]; rfl)
    have h2 : ∀ a b, ts = [a, b] → ¬ ((8 ≤ op ∧ op ≤ 12) ∨ (13 ≤ op ∧ op ≤ 16) ∨ (17 ≤ op ∧ op ≤ 18) ∨ op = 19) := fun a b e hx => ha (by subst e; unfold arity; rw [if_neg (by omega), if_neg (by omega), if_neg (by omega), if_pos (by omega)]; rfl)
    have h3 : ∀ a b c, ts = [a, b, c] → ¬ op = 21 := fun a b c e hx => ha (by subst e; unfold arity; rw [if_neg (by omega), if_neg (by omega), if_pos hx]; rfl)
    split
    · rfl
    split
    · rw [if_neg (fun e => h1 _ e (by omega))]
    split
    · rw [if_neg (fun e => h1 _ e (by omega))]
    split
    · rw [if_neg (fun e => h1 _ e (by omega))]
    split
    · rw [if_neg (fun e => h2 _ _ e (by omega))]
    split
    · split
      · exact absurd (by omega) (h2 _ _ rfl)
      · rfl
    split
    · rw [if_neg (fun e => h2 _ _ e (by omega))]
    split
    · rw [if_neg (fun e => h2 _ _ e (by omega))]
    split
    · split
      · exact absurd (by omega) (h3 _ _ _ rfl)
      · rfl
    · rfl
theorem tail_text {F : List Fn} {c p : List Int} {op n : Int} {s : ByteArray} {ts : List Int} (h : ¬ s.toList = []) (h1 : ¬ op = 1) : tailT F c p op n s ts = none := by
  unfold tailT; rw [if_pos ⟨by rw [ne_eq, size_zero]; exact h, h1⟩]
theorem tail_leaf {F : List Fn} {c p : List Int} {op n : Int} {s : ByteArray} (h : s.toList = [] ∨ op = 1) (h22 : ¬ op = 22) : tailT F c p op n s [] = leafT c p op n s := by
  unfold tailT; rw [if_neg (by rw [ne_eq, size_zero]; rintro ⟨a, b⟩; exact h.elim a b), if_neg h22, if_pos rfl]
theorem tail_call {F : List Fn} {c p : List Int} {n : Int} {s : ByteArray} {ts : List Int} (h : s.toList = []) : tailT F c p 22 n s ts = callT F n ts := by
  unfold tailT; rw [if_neg (by rw [ne_eq, size_zero]; rintro ⟨a, b⟩; exact a h), if_pos rfl]
theorem tail_oper {F : List Fn} {c p : List Int} {op n t : Int} {s : ByteArray} {ts : List Int} (h : s.toList = []) (h22 : ¬ op = 22) : tailT F c p op n s (t :: ts) = operT op n (t :: ts) := by
  unfold tailT; rw [if_neg (by rw [ne_eq, size_zero]; rintro ⟨a, b⟩; exact a h), if_neg h22, if_neg (by simp)]

noncomputable def innerTail : Code := restFrom 9 ((Try.f90.body).getD .skip)

/-- what holds where the tail begins -/
def InnerAt (F : List Fn) (c p : List Int) (o m : Int) (s : ByteArray) (ts : List Int) (bx : Nat) (vF vc vp vts : Value) (w : World) : Prop :=
  w.cell? ⟨bx, 0, none⟩ = some (.int .i64 o) ∧ w.cell? ⟨bx, 1, none⟩ = some (.int .i64 m) ∧ w.cell? ⟨bx, 2, none⟩ = some (.string s) ∧
  Rd w Any (.sl (F.map Fn.d)) [vF] ∧ Rd w Any (.sl (c.map D.int)) [vc] ∧ Rd w Any (.sl (p.map D.int)) [vp] ∧ Rd w Any (.sl (ts.map D.int)) [vts] ∧ ts.length ≤ 1000000

set_option maxRecDepth 100000 in
set_option maxHeartbeats 1000000 in
theorem inner_text (F : List Fn) (c p : List Int) (o m : Int) (s : ByteArray) (ts : List Int) (bx : Nat) (vF vc vp vts : Value) (w : World) (h : InnerAt F c p o m s ts bx vF vc vp vts w) (hs : ¬ s.toList = []) (ho : ¬ o = 1) (R : Ending → World → Prop) (hR : ∀ r w', Answer (tailT F c p o m s ts) r → Ext w w' → R r w')
    (u3 u4 u5 u6 u8 u9 u11 u12 u13 u14 u15 u16 u17 u18 u19 u20 u21 u22 u23 u24 u25 u26 u27 u28 u29 u30 u31 u32 u33 u34 u35 u36 u37 u38 u39 u40 u41 u42 u43 u44 u45 u46 u47 u48 u49 u50 u51 u52 u53 u54 u55 u56 u57 u58 u59 u60 u61 u62 u63 u64 u65 u66 u67 u68 u69 u70 u71 u72 u73 u74 u75 u76 u77 u78 u79 u80 u81 u82 u83 u84 u85 u86 u87 u88 u89 u90 u91 u92 u93 u94 u95 u96 u97 u98 u99 u100 u101 u102 u103 u104 u105 u106 u107 u108 u109 u110 u111 u112 u113 u114 u115 u116 u117 u118 u119 u120 u121 u122 u123 u124 u125 u126 u127 u128 u129 u130 u131 u132 u133 u134 u135 u136 u137 u138 u139 u140 u141 u142 u143 u144 u145 u146 u147 u148 u149 u150 u151 u152 u153 u154 u155 u156 u157 u158 u159 u160 u161 u162 u163 u164 u165 u166 u167 u168 u169 u170 u171 u172 u173 u174 u175 u176 u177 u178 u179 u180 u181 u182 u183 u184 u185 u186 u187 u188 u189 u190 u191 u192 : Value) : Code.wp Try.prog innerTail (bodyPost Try.prog Try.f90 R) ⟨#[vF, vc, vp, u3, u4, u5, u6, .pointer (some ⟨bx, 0, none⟩), u8, u9, vts, u11, u12, u13, u14, u15, u16, u17, u18, u19, u20, u21, u22, u23, u24, u25, u26, u27, u28, u29, u30, u31, u32, u33, u34, u35, u36, u37, u38, u39, u40, u41, u42, u43, u44, u45, u46, u47, u48, u49, u50, u51, u52, u53, u54, u55, u56, u57, u58, u59, u60, u61, u62, u63, u64, u65, u66, u67, u68, u69, u70, u71, u72, u73, u74, u75, u76, u77, u78, u79, u80, u81, u82, u83, u84, u85, u86, u87, u88, u89, u90, u91, u92, u93, u94, u95, u96, u97, u98, u99, u100, u101, u102, u103, u104, u105, u106, u107, u108, u109, u110, u111, u112, u113, u114, u115, u116, u117, u118, u119, u120, u121, u122, u123, u124, u125, u126, u127, u128, u129, u130, u131, u132, u133, u134, u135, u136, u137, u138, u139, u140, u141, u142, u143, u144, u145, u146, u147, u148, u149, u150, u151, u152, u153, u154, u155, u156, u157, u158, u159, u160, u161, u162, u163, u164, u165, u166, u167, u168, u169, u170, u171, u172, u173, u174, u175, u176, u177, u178, u179, u180, u181, u182, u183, u184, u185, u186, u187, u188, u189, u190, u191, u192], []⟩ w := by
  obtain ⟨e0, e1, e2, hF, hc, hp, hts, hlen⟩ := h
  have hF' := Lib.hid hF; have hc' := Lib.hid hc; have hp' := Lib.hid hp; have hts' := Lib.hid hts; have hR' := Lib.hid hR
  obtain ⟨A9, cap9, b9, off9, rfl, z1, z2, z3, z4⟩ := Rd.sl_open hts
  simp only [List.length_map] at *
  have z3' := Lib.hid z3; have z4' := Lib.hid z4
  clear hF hc hp hts hR z3 z4
  have hs5 : (!s.toList.isEmpty) = true := by cases h : s.toList with | nil => exact absurd h hs | cons x y => rfl
  have hs4 : (o != 1) = true := by simp [ho]
  conv => arg 2; whnf
  go_wp2_with fail
  try go_ret2
  exact hR'.out _ _ (by rw [tail_text hs ho]; exact answer_none) (Ext.refl _)

set_option maxRecDepth 100000 in
set_option maxHeartbeats 1000000 in
theorem inner_call (F : List Fn) (c p : List Int) (o m : Int) (s : ByteArray) (ts : List Int) (bx : Nat) (vF vc vp vts : Value) (w : World) (h : InnerAt F c p o m s ts bx vF vc vp vts w) (hs : s.toList = []) (ho : o = 22) (R : Ending → World → Prop) (hR : ∀ r w', Answer (tailT F c p o m s ts) r → Ext w w' → R r w')
    (u3 u4 u5 u6 u8 u9 u11 u12 u13 u14 u15 u16 u17 u18 u19 u20 u21 u22 u23 u24 u25 u26 u27 u28 u29 u30 u31 u32 u33 u34 u35 u36 u37 u38 u39 u40 u41 u42 u43 u44 u45 u46 u47 u48 u49 u50 u51 u52 u53 u54 u55 u56 u57 u58 u59 u60 u61 u62 u63 u64 u65 u66 u67 u68 u69 u70 u71 u72 u73 u74 u75 u76 u77 u78 u79 u80 u81 u82 u83 u84 u85 u86 u87 u88 u89 u90 u91 u92 u93 u94 u95 u96 u97 u98 u99 u100 u101 u102 u103 u104 u105 u106 u107 u108 u109 u110 u111 u112 u113 u114 u115 u116 u117 u118 u119 u120 u121 u122 u123 u124 u125 u126 u127 u128 u129 u130 u131 u132 u133 u134 u135 u136 u137 u138 u139 u140 u141 u142 u143 u144 u145 u146 u147 u148 u149 u150 u151 u152 u153 u154 u155 u156 u157 u158 u159 u160 u161 u162 u163 u164 u165 u166 u167 u168 u169 u170 u171 u172 u173 u174 u175 u176 u177 u178 u179 u180 u181 u182 u183 u184 u185 u186 u187 u188 u189 u190 u191 u192 : Value) : Code.wp Try.prog innerTail (bodyPost Try.prog Try.f90 R) ⟨#[vF, vc, vp, u3, u4, u5, u6, .pointer (some ⟨bx, 0, none⟩), u8, u9, vts, u11, u12, u13, u14, u15, u16, u17, u18, u19, u20, u21, u22, u23, u24, u25, u26, u27, u28, u29, u30, u31, u32, u33, u34, u35, u36, u37, u38, u39, u40, u41, u42, u43, u44, u45, u46, u47, u48, u49, u50, u51, u52, u53, u54, u55, u56, u57, u58, u59, u60, u61, u62, u63, u64, u65, u66, u67, u68, u69, u70, u71, u72, u73, u74, u75, u76, u77, u78, u79, u80, u81, u82, u83, u84, u85, u86, u87, u88, u89, u90, u91, u92, u93, u94, u95, u96, u97, u98, u99, u100, u101, u102, u103, u104, u105, u106, u107, u108, u109, u110, u111, u112, u113, u114, u115, u116, u117, u118, u119, u120, u121, u122, u123, u124, u125, u126, u127, u128, u129, u130, u131, u132, u133, u134, u135, u136, u137, u138, u139, u140, u141, u142, u143, u144, u145, u146, u147, u148, u149, u150, u151, u152, u153, u154, u155, u156, u157, u158, u159, u160, u161, u162, u163, u164, u165, u166, u167, u168, u169, u170, u171, u172, u173, u174, u175, u176, u177, u178, u179, u180, u181, u182, u183, u184, u185, u186, u187, u188, u189, u190, u191, u192], []⟩ w := by
  obtain ⟨e0, e1, e2, hF, hc, hp, hts, hlen⟩ := h
  have hF' := Lib.hid hF; have hc' := Lib.hid hc; have hp' := Lib.hid hp; have hts' := Lib.hid hts; have hR' := Lib.hid hR
  obtain ⟨A9, cap9, b9, off9, rfl, z1, z2, z3, z4⟩ := Rd.sl_open hts
  simp only [List.length_map] at *
  have z3' := Lib.hid z3; have z4' := Lib.hid z4
  clear hF hc hp hts hR z3 z4
  subst ho
  conv => arg 2; whnf
  go_wp2_with fail
  refine (rcall_any F m ts Any Any vF _ _ hF'.out hts'.out).mono ?_
  rintro r w1 ⟨⟨t, ok, rfl, hA⟩, he⟩
  have hA' := Lib.hid hA; clear hA
  go_wp2_with fail
  try go_ret2
  exact hR'.out _ _ (answer_of (by rw [tail_call hs]; exact hA'.out)) he

set_option maxRecDepth 100000 in
set_option maxHeartbeats 1000000 in
theorem inner_mis0 (F : List Fn) (c p : List Int) (o m : Int) (s : ByteArray) (ts : List Int) (bx : Nat) (vF vc vp vts : Value) (w : World) (h : InnerAt F c p o m s ts bx vF vc vp vts w) (hs : s.toList = [] ∨ o = 1) (ho : o = 0 ∨ o = 2 ∨ o = 3 ∨ o = 4 ∨ o = 5) (hl : ¬ ts.length = 0) (R : Ending → World → Prop) (hR : ∀ r w', Answer (tailT F c p o m s ts) r → Ext w w' → R r w')
    (u3 u4 u5 u6 u8 u9 u11 u12 u13 u14 u15 u16 u17 u18 u19 u20 u21 u22 u23 u24 u25 u26 u27 u28 u29 u30 u31 u32 u33 u34 u35 u36 u37 u38 u39 u40 u41 u42 u43 u44 u45 u46 u47 u48 u49 u50 u51 u52 u53 u54 u55 u56 u57 u58 u59 u60 u61 u62 u63 u64 u65 u66 u67 u68 u69 u70 u71 u72 u73 u74 u75 u76 u77 u78 u79 u80 u81 u82 u83 u84 u85 u86 u87 u88 u89 u90 u91 u92 u93 u94 u95 u96 u97 u98 u99 u100 u101 u102 u103 u104 u105 u106 u107 u108 u109 u110 u111 u112 u113 u114 u115 u116 u117 u118 u119 u120 u121 u122 u123 u124 u125 u126 u127 u128 u129 u130 u131 u132 u133 u134 u135 u136 u137 u138 u139 u140 u141 u142 u143 u144 u145 u146 u147 u148 u149 u150 u151 u152 u153 u154 u155 u156 u157 u158 u159 u160 u161 u162 u163 u164 u165 u166 u167 u168 u169 u170 u171 u172 u173 u174 u175 u176 u177 u178 u179 u180 u181 u182 u183 u184 u185 u186 u187 u188 u189 u190 u191 u192 : Value) : Code.wp Try.prog innerTail (bodyPost Try.prog Try.f90 R) ⟨#[vF, vc, vp, u3, u4, u5, u6, .pointer (some ⟨bx, 0, none⟩), u8, u9, vts, u11, u12, u13, u14, u15, u16, u17, u18, u19, u20, u21, u22, u23, u24, u25, u26, u27, u28, u29, u30, u31, u32, u33, u34, u35, u36, u37, u38, u39, u40, u41, u42, u43, u44, u45, u46, u47, u48, u49, u50, u51, u52, u53, u54, u55, u56, u57, u58, u59, u60, u61, u62, u63, u64, u65, u66, u67, u68, u69, u70, u71, u72, u73, u74, u75, u76, u77, u78, u79, u80, u81, u82, u83, u84, u85, u86, u87, u88, u89, u90, u91, u92, u93, u94, u95, u96, u97, u98, u99, u100, u101, u102, u103, u104, u105, u106, u107, u108, u109, u110, u111, u112, u113, u114, u115, u116, u117, u118, u119, u120, u121, u122, u123, u124, u125, u126, u127, u128, u129, u130, u131, u132, u133, u134, u135, u136, u137, u138, u139, u140, u141, u142, u143, u144, u145, u146, u147, u148, u149, u150, u151, u152, u153, u154, u155, u156, u157, u158, u159, u160, u161, u162, u163, u164, u165, u166, u167, u168, u169, u170, u171, u172, u173, u174, u175, u176, u177, u178, u179, u180, u181, u182, u183, u184, u185, u186, u187, u188, u189, u190, u191, u192], []⟩ w := by
  obtain ⟨e0, e1, e2, hF, hc, hp, hts, hlen⟩ := h
  have hF' := Lib.hid hF; have hc' := Lib.hid hc; have hp' := Lib.hid hp; have hts' := Lib.hid hts; have hR' := Lib.hid hR
  obtain ⟨A9, cap9, b9, off9, rfl, z1, z2, z3, z4⟩ := Rd.sl_open hts
  simp only [List.length_map] at *
  have z3' := Lib.hid z3; have z4' := Lib.hid z4
  clear hF hc hp hts hR z3 z4
  rcases ho with rfl | rfl | rfl | rfl | rfl
  all_goals
    have hs2 : s.toList = [] := hs.resolve_right (by decide)
    clear hs
    conv => arg 2; whnf
    go_wp2_with fail
    refine (rnumber_any _ _).mono ?_
    rintro r w2 ⟨rfl, he⟩
    have e0 := he.at e0
    have e1 := he.at e1
    have e2 := he.at e2
    go_wp2_with fail
    try go_ret2
    exact hR'.out _ _ (by rw [tail_arity (a := 0) (by decide) (by decide) (by omega)]; exact answer_none) he

set_option maxRecDepth 100000 in
set_option maxHeartbeats 1000000 in
theorem inner_mis0b (F : List Fn) (c p : List Int) (o m : Int) (s : ByteArray) (ts : List Int) (bx : Nat) (vF vc vp vts : Value) (w : World) (h : InnerAt F c p o m s ts bx vF vc vp vts w) (hs : s.toList = [] ∨ o = 1) (ho : o = 1) (hl : ¬ ts.length = 0) (R : Ending → World → Prop) (hR : ∀ r w', Answer (tailT F c p o m s ts) r → Ext w w' → R r w')
    (u3 u4 u5 u6 u8 u9 u11 u12 u13 u14 u15 u16 u17 u18 u19 u20 u21 u22 u23 u24 u25 u26 u27 u28 u29 u30 u31 u32 u33 u34 u35 u36 u37 u38 u39 u40 u41 u42 u43 u44 u45 u46 u47 u48 u49 u50 u51 u52 u53 u54 u55 u56 u57 u58 u59 u60 u61 u62 u63 u64 u65 u66 u67 u68 u69 u70 u71 u72 u73 u74 u75 u76 u77 u78 u79 u80 u81 u82 u83 u84 u85 u86 u87 u88 u89 u90 u91 u92 u93 u94 u95 u96 u97 u98 u99 u100 u101 u102 u103 u104 u105 u106 u107 u108 u109 u110 u111 u112 u113 u114 u115 u116 u117 u118 u119 u120 u121 u122 u123 u124 u125 u126 u127 u128 u129 u130 u131 u132 u133 u134 u135 u136 u137 u138 u139 u140 u141 u142 u143 u144 u145 u146 u147 u148 u149 u150 u151 u152 u153 u154 u155 u156 u157 u158 u159 u160 u161 u162 u163 u164 u165 u166 u167 u168 u169 u170 u171 u172 u173 u174 u175 u176 u177 u178 u179 u180 u181 u182 u183 u184 u185 u186 u187 u188 u189 u190 u191 u192 : Value) : Code.wp Try.prog innerTail (bodyPost Try.prog Try.f90 R) ⟨#[vF, vc, vp, u3, u4, u5, u6, .pointer (some ⟨bx, 0, none⟩), u8, u9, vts, u11, u12, u13, u14, u15, u16, u17, u18, u19, u20, u21, u22, u23, u24, u25, u26, u27, u28, u29, u30, u31, u32, u33, u34, u35, u36, u37, u38, u39, u40, u41, u42, u43, u44, u45, u46, u47, u48, u49, u50, u51, u52, u53, u54, u55, u56, u57, u58, u59, u60, u61, u62, u63, u64, u65, u66, u67, u68, u69, u70, u71, u72, u73, u74, u75, u76, u77, u78, u79, u80, u81, u82, u83, u84, u85, u86, u87, u88, u89, u90, u91, u92, u93, u94, u95, u96, u97, u98, u99, u100, u101, u102, u103, u104, u105, u106, u107, u108, u109, u110, u111, u112, u113, u114, u115, u116, u117, u118, u119, u120, u121, u122, u123, u124, u125, u126, u127, u128, u129, u130, u131, u132, u133, u134, u135, u136, u137, u138, u139, u140, u141, u142, u143, u144, u145, u146, u147, u148, u149, u150, u151, u152, u153, u154, u155, u156, u157, u158, u159, u160, u161, u162, u163, u164, u165, u166, u167, u168, u169, u170, u171, u172, u173, u174, u175, u176, u177, u178, u179, u180, u181, u182, u183, u184, u185, u186, u187, u188, u189, u190, u191, u192], []⟩ w := by
  obtain ⟨e0, e1, e2, hF, hc, hp, hts, hlen⟩ := h
  have hF' := Lib.hid hF; have hc' := Lib.hid hc; have hp' := Lib.hid hp; have hts' := Lib.hid hts; have hR' := Lib.hid hR
  obtain ⟨A9, cap9, b9, off9, rfl, z1, z2, z3, z4⟩ := Rd.sl_open hts
  simp only [List.length_map] at *
  have z3' := Lib.hid z3; have z4' := Lib.hid z4
  clear hF hc hp hts hR z3 z4
  subst ho
  all_goals
    rcases Decidable.em (s.toList = []) with hs2 | hs2
    all_goals
      conv => arg 2; whnf
      go_wp2_with fail
      refine (rnumber_any _ _).mono ?_
      rintro r w2 ⟨rfl, he⟩
      have e0 := he.at e0
      have e1 := he.at e1
      have e2 := he.at e2
      go_wp2_with fail
      try go_ret2
      exact hR'.out _ _ (by rw [tail_arity (a := 0) (by decide) (by decide) (by omega)]; exact answer_none) he

set_option maxRecDepth 100000 in
set_option maxHeartbeats 1000000 in
theorem inner_mis1 (F : List Fn) (c p : List Int) (o m : Int) (s : ByteArray) (ts : List Int) (bx : Nat) (vF vc vp vts : Value) (w : World) (h : InnerAt F c p o m s ts bx vF vc vp vts w) (hs : s.toList = [] ∨ o = 1) (ho : o = 6 ∨ o = 7 ∨ o = 20) (hl : ¬ ts.length = 1) (R : Ending → World → Prop) (hR : ∀ r w', Answer (tailT F c p o m s ts) r → Ext w w' → R r w')
    (u3 u4 u5 u6 u8 u9 u11 u12 u13 u14 u15 u16 u17 u18 u19 u20 u21 u22 u23 u24 u25 u26 u27 u28 u29 u30 u31 u32 u33 u34 u35 u36 u37 u38 u39 u40 u41 u42 u43 u44 u45 u46 u47 u48 u49 u50 u51 u52 u53 u54 u55 u56 u57 u58 u59 u60 u61 u62 u63 u64 u65 u66 u67 u68 u69 u70 u71 u72 u73 u74 u75 u76 u77 u78 u79 u80 u81 u82 u83 u84 u85 u86 u87 u88 u89 u90 u91 u92 u93 u94 u95 u96 u97 u98 u99 u100 u101 u102 u103 u104 u105 u106 u107 u108 u109 u110 u111 u112 u113 u114 u115 u116 u117 u118 u119 u120 u121 u122 u123 u124 u125 u126 u127 u128 u129 u130 u131 u132 u133 u134 u135 u136 u137 u138 u139 u140 u141 u142 u143 u144 u145 u146 u147 u148 u149 u150 u151 u152 u153 u154 u155 u156 u157 u158 u159 u160 u161 u162 u163 u164 u165 u166 u167 u168 u169 u170 u171 u172 u173 u174 u175 u176 u177 u178 u179 u180 u181 u182 u183 u184 u185 u186 u187 u188 u189 u190 u191 u192 : Value) : Code.wp Try.prog innerTail (bodyPost Try.prog Try.f90 R) ⟨#[vF, vc, vp, u3, u4, u5, u6, .pointer (some ⟨bx, 0, none⟩), u8, u9, vts, u11, u12, u13, u14, u15, u16, u17, u18, u19, u20, u21, u22, u23, u24, u25, u26, u27, u28, u29, u30, u31, u32, u33, u34, u35, u36, u37, u38, u39, u40, u41, u42, u43, u44, u45, u46, u47, u48, u49, u50, u51, u52, u53, u54, u55, u56, u57, u58, u59, u60, u61, u62, u63, u64, u65, u66, u67, u68, u69, u70, u71, u72, u73, u74, u75, u76, u77, u78, u79, u80, u81, u82, u83, u84, u85, u86, u87, u88, u89, u90, u91, u92, u93, u94, u95, u96, u97, u98, u99, u100, u101, u102, u103, u104, u105, u106, u107, u108, u109, u110, u111, u112, u113, u114, u115, u116, u117, u118, u119, u120, u121, u122, u123, u124, u125, u126, u127, u128, u129, u130, u131, u132, u133, u134, u135, u136, u137, u138, u139, u140, u141, u142, u143, u144, u145, u146, u147, u148, u149, u150, u151, u152, u153, u154, u155, u156, u157, u158, u159, u160, u161, u162, u163, u164, u165, u166, u167, u168, u169, u170, u171, u172, u173, u174, u175, u176, u177, u178, u179, u180, u181, u182, u183, u184, u185, u186, u187, u188, u189, u190, u191, u192], []⟩ w := by
  obtain ⟨e0, e1, e2, hF, hc, hp, hts, hlen⟩ := h
  have hF' := Lib.hid hF; have hc' := Lib.hid hc; have hp' := Lib.hid hp; have hts' := Lib.hid hts; have hR' := Lib.hid hR
  obtain ⟨A9, cap9, b9, off9, rfl, z1, z2, z3, z4⟩ := Rd.sl_open hts
  simp only [List.length_map] at *
  have z3' := Lib.hid z3; have z4' := Lib.hid z4
  clear hF hc hp hts hR z3 z4
  rcases ho with rfl | rfl | rfl
  all_goals
    have hs2 : s.toList = [] := hs.resolve_right (by decide)
    clear hs
    conv => arg 2; whnf
    go_wp2_with fail
    refine (rnumber_any _ _).mono ?_
    rintro r w2 ⟨rfl, he⟩
    have e0 := he.at e0
    have e1 := he.at e1
    have e2 := he.at e2
    go_wp2_with fail
    try go_ret2
    exact hR'.out _ _ (by rw [tail_arity (a := 1) (by decide) (by decide) (by omega)]; exact answer_none) he

set_option maxRecDepth 100000 in
set_option maxHeartbeats 1000000 in
theorem inner_mis2 (F : List Fn) (c p : List Int) (o m : Int) (s : ByteArray) (ts : List Int) (bx : Nat) (vF vc vp vts : Value) (w : World) (h : InnerAt F c p o m s ts bx vF vc vp vts w) (hs : s.toList = [] ∨ o = 1) (ho : o = 8 ∨ o = 9 ∨ o = 10 ∨ o = 11 ∨ o = 12 ∨ o = 17 ∨ o = 18 ∨ o = 19) (hl : ¬ ts.length = 2) (R : Ending → World → Prop) (hR : ∀ r w', Answer (tailT F c p o m s ts) r → Ext w w' → R r w')
    (u3 u4 u5 u6 u8 u9 u11 u12 u13 u14 u15 u16 u17 u18 u19 u20 u21 u22 u23 u24 u25 u26 u27 u28 u29 u30 u31 u32 u33 u34 u35 u36 u37 u38 u39 u40 u41 u42 u43 u44 u45 u46 u47 u48 u49 u50 u51 u52 u53 u54 u55 u56 u57 u58 u59 u60 u61 u62 u63 u64 u65 u66 u67 u68 u69 u70 u71 u72 u73 u74 u75 u76 u77 u78 u79 u80 u81 u82 u83 u84 u85 u86 u87 u88 u89 u90 u91 u92 u93 u94 u95 u96 u97 u98 u99 u100 u101 u102 u103 u104 u105 u106 u107 u108 u109 u110 u111 u112 u113 u114 u115 u116 u117 u118 u119 u120 u121 u122 u123 u124 u125 u126 u127 u128 u129 u130 u131 u132 u133 u134 u135 u136 u137 u138 u139 u140 u141 u142 u143 u144 u145 u146 u147 u148 u149 u150 u151 u152 u153 u154 u155 u156 u157 u158 u159 u160 u161 u162 u163 u164 u165 u166 u167 u168 u169 u170 u171 u172 u173 u174 u175 u176 u177 u178 u179 u180 u181 u182 u183 u184 u185 u186 u187 u188 u189 u190 u191 u192 : Value) : Code.wp Try.prog innerTail (bodyPost Try.prog Try.f90 R) ⟨#[vF, vc, vp, u3, u4, u5, u6, .pointer (some ⟨bx, 0, none⟩), u8, u9, vts, u11, u12, u13, u14, u15, u16, u17, u18, u19, u20, u21, u22, u23, u24, u25, u26, u27, u28, u29, u30, u31, u32, u33, u34, u35, u36, u37, u38, u39, u40, u41, u42, u43, u44, u45, u46, u47, u48, u49, u50, u51, u52, u53, u54, u55, u56, u57, u58, u59, u60, u61, u62, u63, u64, u65, u66, u67, u68, u69, u70, u71, u72, u73, u74, u75, u76, u77, u78, u79, u80, u81, u82, u83, u84, u85, u86, u87, u88, u89, u90, u91, u92, u93, u94, u95, u96, u97, u98, u99, u100, u101, u102, u103, u104, u105, u106, u107, u108, u109, u110, u111, u112, u113, u114, u115, u116, u117, u118, u119, u120, u121, u122, u123, u124, u125, u126, u127, u128, u129, u130, u131, u132, u133, u134, u135, u136, u137, u138, u139, u140, u141, u142, u143, u144, u145, u146, u147, u148, u149, u150, u151, u152, u153, u154, u155, u156, u157, u158, u159, u160, u161, u162, u163, u164, u165, u166, u167, u168, u169, u170, u171, u172, u173, u174, u175, u176, u177, u178, u179, u180, u181, u182, u183, u184, u185, u186, u187, u188, u189, u190, u191, u192], []⟩ w := by
  obtain ⟨e0, e1, e2, hF, hc, hp, hts, hlen⟩ := h
  have hF' := Lib.hid hF; have hc' := Lib.hid hc; have hp' := Lib.hid hp; have hts' := Lib.hid hts; have hR' := Lib.hid hR
  obtain ⟨A9, cap9, b9, off9, rfl, z1, z2, z3, z4⟩ := Rd.sl_open hts
  simp only [List.length_map] at *
  have z3' := Lib.hid z3; have z4' := Lib.hid z4
  clear hF hc hp hts hR z3 z4
  rcases ho with rfl | rfl | rfl | rfl | rfl | rfl | rfl | rfl
  all_goals
    have hs2 : s.toList = [] := hs.resolve_right (by decide)
    clear hs
    conv => arg 2; whnf
    go_wp2_with fail
    refine (rnumber_any _ _).mono ?_
    rintro r w2 ⟨rfl, he⟩
    have e0 := he.at e0
    have e1 := he.at e1
    have e2 := he.at e2
    go_wp2_with fail
    try go_ret2
    exact hR'.out _ _ (by rw [tail_arity (a := 2) (by decide) (by decide) (by omega)]; exact answer_none) he

set_option maxRecDepth 100000 in
set_option maxHeartbeats 1000000 in
theorem inner_mis2b (F : List Fn) (c p : List Int) (o m : Int) (s : ByteArray) (ts : List Int) (bx : Nat) (vF vc vp vts : Value) (w : World) (h : InnerAt F c p o m s ts bx vF vc vp vts w) (hs : s.toList = [] ∨ o = 1) (ho : o = 13 ∨ o = 14 ∨ o = 15 ∨ o = 16) (hl : ¬ ts.length = 2) (R : Ending → World → Prop) (hR : ∀ r w', Answer (tailT F c p o m s ts) r → Ext w w' → R r w')
    (u3 u4 u5 u6 u8 u9 u11 u12 u13 u14 u15 u16 u17 u18 u19 u20 u21 u22 u23 u24 u25 u26 u27 u28 u29 u30 u31 u32 u33 u34 u35 u36 u37 u38 u39 u40 u41 u42 u43 u44 u45 u46 u47 u48 u49 u50 u51 u52 u53 u54 u55 u56 u57 u58 u59 u60 u61 u62 u63 u64 u65 u66 u67 u68 u69 u70 u71 u72 u73 u74 u75 u76 u77 u78 u79 u80 u81 u82 u83 u84 u85 u86 u87 u88 u89 u90 u91 u92 u93 u94 u95 u96 u97 u98 u99 u100 u101 u102 u103 u104 u105 u106 u107 u108 u109 u110 u111 u112 u113 u114 u115 u116 u117 u118 u119 u120 u121 u122 u123 u124 u125 u126 u127 u128 u129 u130 u131 u132 u133 u134 u135 u136 u137 u138 u139 u140 u141 u142 u143 u144 u145 u146 u147 u148 u149 u150 u151 u152 u153 u154 u155 u156 u157 u158 u159 u160 u161 u162 u163 u164 u165 u166 u167 u168 u169 u170 u171 u172 u173 u174 u175 u176 u177 u178 u179 u180 u181 u182 u183 u184 u185 u186 u187 u188 u189 u190 u191 u192 : Value) : Code.wp Try.prog innerTail (bodyPost Try.prog Try.f90 R) ⟨#[vF, vc, vp, u3, u4, u5, u6, .pointer (some ⟨bx, 0, none⟩), u8, u9, vts, u11, u12, u13, u14, u15, u16, u17, u18, u19, u20, u21, u22, u23, u24, u25, u26, u27, u28, u29, u30, u31, u32, u33, u34, u35, u36, u37, u38, u39, u40, u41, u42, u43, u44, u45, u46, u47, u48, u49, u50, u51, u52, u53, u54, u55, u56, u57, u58, u59, u60, u61, u62, u63, u64, u65, u66, u67, u68, u69, u70, u71, u72, u73, u74, u75, u76, u77, u78, u79, u80, u81, u82, u83, u84, u85, u86, u87, u88, u89, u90, u91, u92, u93, u94, u95, u96, u97, u98, u99, u100, u101, u102, u103, u104, u105, u106, u107, u108, u109, u110, u111, u112, u113, u114, u115, u116, u117, u118, u119, u120, u121, u122, u123, u124, u125, u126, u127, u128, u129, u130, u131, u132, u133, u134, u135, u136, u137, u138, u139, u140, u141, u142, u143, u144, u145, u146, u147, u148, u149, u150, u151, u152, u153, u154, u155, u156, u157, u158, u159, u160, u161, u162, u163, u164, u165, u166, u167, u168, u169, u170, u171, u172, u173, u174, u175, u176, u177, u178, u179, u180, u181, u182, u183, u184, u185, u186, u187, u188, u189, u190, u191, u192], []⟩ w := by
  obtain ⟨e0, e1, e2, hF, hc, hp, hts, hlen⟩ := h
  have hF' := Lib.hid hF; have hc' := Lib.hid hc; have hp' := Lib.hid hp; have hts' := Lib.hid hts; have hR' := Lib.hid hR
  obtain ⟨A9, cap9, b9, off9, rfl, z1, z2, z3, z4⟩ := Rd.sl_open hts
  simp only [List.length_map] at *
  have z3' := Lib.hid z3; have z4' := Lib.hid z4
  clear hF hc hp hts hR z3 z4
  rcases ho with rfl | rfl | rfl | rfl
  all_goals
    have hs2 : s.toList = [] := hs.resolve_right (by decide)
    clear hs
    conv => arg 2; whnf
    go_wp2_with fail
    refine (rnumber_any _ _).mono ?_
    rintro r w2 ⟨rfl, he⟩
    have e0 := he.at e0
    have e1 := he.at e1
    have e2 := he.at e2
    go_wp2_with fail
    try go_ret2
    exact hR'.out _ _ (by rw [tail_arity (a := 2) (by decide) (by decide) (by omega)]; exact answer_none) he

set_option maxRecDepth 100000 in
set_option maxHeartbeats 1000000 in
theorem inner_mis3 (F : List Fn) (c p : List Int) (o m : Int) (s : ByteArray) (ts : List Int) (bx : Nat) (vF vc vp vts : Value) (w : World) (h : InnerAt F c p o m s ts bx vF vc vp vts w) (hs : s.toList = [] ∨ o = 1) (ho : o = 21) (hl : ¬ ts.length = 3) (R : Ending → World → Prop) (hR : ∀ r w', Answer (tailT F c p o m s ts) r → Ext w w' → R r w')
    (u3 u4 u5 u6 u8 u9 u11 u12 u13 u14 u15 u16 u17 u18 u19 u20 u21 u22 u23 u24 u25 u26 u27 u28 u29 u30 u31 u32 u33 u34 u35 u36 u37 u38 u39 u40 u41 u42 u43 u44 u45 u46 u47 u48 u49 u50 u51 u52 u53 u54 u55 u56 u57 u58 u59 u60 u61 u62 u63 u64 u65 u66 u67 u68 u69 u70 u71 u72 u73 u74 u75 u76 u77 u78 u79 u80 u81 u82 u83 u84 u85 u86 u87 u88 u89 u90 u91 u92 u93 u94 u95 u96 u97 u98 u99 u100 u101 u102 u103 u104 u105 u106 u107 u108 u109 u110 u111 u112 u113 u114 u115 u116 u117 u118 u119 u120 u121 u122 u123 u124 u125 u126 u127 u128 u129 u130 u131 u132 u133 u134 u135 u136 u137 u138 u139 u140 u141 u142 u143 u144 u145 u146 u147 u148 u149 u150 u151 u152 u153 u154 u155 u156 u157 u158 u159 u160 u161 u162 u163 u164 u165 u166 u167 u168 u169 u170 u171 u172 u173 u174 u175 u176 u177 u178 u179 u180 u181 u182 u183 u184 u185 u186 u187 u188 u189 u190 u191 u192 : Value) : Code.wp Try.prog innerTail (bodyPost Try.prog Try.f90 R) ⟨#[vF, vc, vp, u3, u4, u5, u6, .pointer (some ⟨bx, 0, none⟩), u8, u9, vts, u11, u12, u13, u14, u15, u16, u17, u18, u19, u20, u21, u22, u23, u24, u25, u26, u27, u28, u29, u30, u31, u32, u33, u34, u35, u36, u37, u38, u39, u40, u41, u42, u43, u44, u45, u46, u47, u48, u49, u50, u51, u52, u53, u54, u55, u56, u57, u58, u59, u60, u61, u62, u63, u64, u65, u66, u67, u68, u69, u70, u71, u72, u73, u74, u75, u76, u77, u78, u79, u80, u81, u82, u83, u84, u85, u86, u87, u88, u89, u90, u91, u92, u93, u94, u95, u96, u97, u98, u99, u100, u101, u102, u103, u104, u105, u106, u107, u108, u109, u110, u111, u112, u113, u114, u115, u116, u117, u118, u119, u120, u121, u122, u123, u124, u125, u126, u127, u128, u129, u130, u131, u132, u133, u134, u135, u136, u137, u138, u139, u140, u141, u142, u143, u144, u145, u146, u147, u148, u149, u150, u151, u152, u153, u154, u155, u156, u157, u158, u159, u160, u161, u162, u163, u164, u165, u166, u167, u168, u169, u170, u171, u172, u173, u174, u175, u176, u177, u178, u179, u180, u181, u182, u183, u184, u185, u186, u187, u188, u189, u190, u191, u192], []⟩ w := by
  obtain ⟨e0, e1, e2, hF, hc, hp, hts, hlen⟩ := h
  have hF' := Lib.hid hF; have hc' := Lib.hid hc; have hp' := Lib.hid hp; have hts' := Lib.hid hts; have hR' := Lib.hid hR
  obtain ⟨A9, cap9, b9, off9, rfl, z1, z2, z3, z4⟩ := Rd.sl_open hts
  simp only [List.length_map] at *
  have z3' := Lib.hid z3; have z4' := Lib.hid z4
  clear hF hc hp hts hR z3 z4
  subst ho
  all_goals
    have hs2 : s.toList = [] := hs.resolve_right (by decide)
    clear hs
    conv => arg 2; whnf
    go_wp2_with fail
    refine (rnumber_any _ _).mono ?_
    rintro r w2 ⟨rfl, he⟩
    have e0 := he.at e0
    have e1 := he.at e1
    have e2 := he.at e2
    go_wp2_with fail
    try go_ret2
    exact hR'.out _ _ (by rw [tail_arity (a := 3) (by decide) (by decide) (by omega)]; exact answer_none) he

set_option maxRecDepth 100000 in
set_option maxHeartbeats 1000000 in
theorem inner_other (F : List Fn) (c p : List Int) (o m : Int) (s : ByteArray) (ts : List Int) (bx : Nat) (vF vc vp vts : Value) (w : World) (h : InnerAt F c p o m s ts bx vF vc vp vts w) (hs : s.toList = []) (ho : o < 0 ∨ 22 < o) (R : Ending → World → Prop) (hR : ∀ r w', Answer (tailT F c p o m s ts) r → Ext w w' → R r w')
    (u3 u4 u5 u6 u8 u9 u11 u12 u13 u14 u15 u16 u17 u18 u19 u20 u21 u22 u23 u24 u25 u26 u27 u28 u29 u30 u31 u32 u33 u34 u35 u36 u37 u38 u39 u40 u41 u42 u43 u44 u45 u46 u47 u48 u49 u50 u51 u52 u53 u54 u55 u56 u57 u58 u59 u60 u61 u62 u63 u64 u65 u66 u67 u68 u69 u70 u71 u72 u73 u74 u75 u76 u77 u78 u79 u80 u81 u82 u83 u84 u85 u86 u87 u88 u89 u90 u91 u92 u93 u94 u95 u96 u97 u98 u99 u100 u101 u102 u103 u104 u105 u106 u107 u108 u109 u110 u111 u112 u113 u114 u115 u116 u117 u118 u119 u120 u121 u122 u123 u124 u125 u126 u127 u128 u129 u130 u131 u132 u133 u134 u135 u136 u137 u138 u139 u140 u141 u142 u143 u144 u145 u146 u147 u148 u149 u150 u151 u152 u153 u154 u155 u156 u157 u158 u159 u160 u161 u162 u163 u164 u165 u166 u167 u168 u169 u170 u171 u172 u173 u174 u175 u176 u177 u178 u179 u180 u181 u182 u183 u184 u185 u186 u187 u188 u189 u190 u191 u192 : Value) : Code.wp Try.prog innerTail (bodyPost Try.prog Try.f90 R) ⟨#[vF, vc, vp, u3, u4, u5, u6, .pointer (some ⟨bx, 0, none⟩), u8, u9, vts, u11, u12, u13, u14, u15, u16, u17, u18, u19, u20, u21, u22, u23, u24, u25, u26, u27, u28, u29, u30, u31, u32, u33, u34, u35, u36, u37, u38, u39, u40, u41, u42, u43, u44, u45, u46, u47, u48, u49, u50, u51, u52, u53, u54, u55, u56, u57, u58, u59, u60, u61, u62, u63, u64, u65, u66, u67, u68, u69, u70, u71, u72, u73, u74, u75, u76, u77, u78, u79, u80, u81, u82, u83, u84, u85, u86, u87, u88, u89, u90, u91, u92, u93, u94, u95, u96, u97, u98, u99, u100, u101, u102, u103, u104, u105, u106, u107, u108, u109, u110, u111, u112, u113, u114, u115, u116, u117, u118, u119, u120, u121, u122, u123, u124, u125, u126, u127, u128, u129, u130, u131, u132, u133, u134, u135, u136, u137, u138, u139, u140, u141, u142, u143, u144, u145, u146, u147, u148, u149, u150, u151, u152, u153, u154, u155, u156, u157, u158, u159, u160, u161, u162, u163, u164, u165, u166, u167, u168, u169, u170, u171, u172, u173, u174, u175, u176, u177, u178, u179, u180, u181, u182, u183, u184, u185, u186, u187, u188, u189, u190, u191, u192], []⟩ w := by
  obtain ⟨e0, e1, e2, hF, hc, hp, hts, hlen⟩ := h
  have hF' := Lib.hid hF; have hc' := Lib.hid hc; have hp' := Lib.hid hp; have hts' := Lib.hid hts; have hR' := Lib.hid hR
  obtain ⟨A9, cap9, b9, off9, rfl, z1, z2, z3, z4⟩ := Rd.sl_open hts
  simp only [List.length_map] at *
  have z3' := Lib.hid z3; have z4' := Lib.hid z4
  clear hF hc hp hts hR z3 z4
  have n0 : ¬ o = 22 := by omega
  have n1 := Lib.hid (show arity o = -1 by unfold arity; rw [if_neg (by omega), if_neg (by omega), if_neg (by omega), if_neg (by omega)])
  rcases ho with ho | ho
  all_goals
    conv => arg 2; whnf
    go_wp2_with fail
    refine (rnumber_any _ _).mono ?_
    rintro r w2 ⟨rfl, he⟩
    have n2 : (if 0 ≤ o ∧ o ≤ 5 then (0 : Int) else if o = 6 ∨ o = 7 ∨ o = 20 then 1 else if o = 21 then 3 else if 5 < o ∧ o < 21 then 2 else -1) = -1 := n1.out
    rw [n2]
    clear n2
    have e0 := he.at e0
    have e1 := he.at e1
    have e2 := he.at e2
    go_wp2_with fail
    try go_ret2
    exact hR'.out _ _ (by rw [tail_arity (a := -1) n1.out (by omega) (by omega)]; exact answer_none) he

set_option maxRecDepth 100000 in
set_option maxHeartbeats 1000000 in
theorem inner_o0 (F : List Fn) (c p : List Int) (o m : Int) (s : ByteArray) (ts : List Int) (bx : Nat) (vF vc vp vts : Value) (w : World) (h : InnerAt F c p o m s ts bx vF vc vp vts w) (hs : s.toList = []) (ho : o = 0) (hl : ts.length = 0) (R : Ending → World → Prop) (hR : ∀ r w', Answer (tailT F c p o m s ts) r → Ext w w' → R r w')
    (u3 u4 u5 u6 u8 u9 u11 u12 u13 u14 u15 u16 u17 u18 u19 u20 u21 u22 u23 u24 u25 u26 u27 u28 u29 u30 u31 u32 u33 u34 u35 u36 u37 u38 u39 u40 u41 u42 u43 u44 u45 u46 u47 u48 u49 u50 u51 u52 u53 u54 u55 u56 u57 u58 u59 u60 u61 u62 u63 u64 u65 u66 u67 u68 u69 u70 u71 u72 u73 u74 u75 u76 u77 u78 u79 u80 u81 u82 u83 u84 u85 u86 u87 u88 u89 u90 u91 u92 u93 u94 u95 u96 u97 u98 u99 u100 u101 u102 u103 u104 u105 u106 u107 u108 u109 u110 u111 u112 u113 u114 u115 u116 u117 u118 u119 u120 u121 u122 u123 u124 u125 u126 u127 u128 u129 u130 u131 u132 u133 u134 u135 u136 u137 u138 u139 u140 u141 u142 u143 u144 u145 u146 u147 u148 u149 u150 u151 u152 u153 u154 u155 u156 u157 u158 u159 u160 u161 u162 u163 u164 u165 u166 u167 u168 u169 u170 u171 u172 u173 u174 u175 u176 u177 u178 u179 u180 u181 u182 u183 u184 u185 u186 u187 u188 u189 u190 u191 u192 : Value) : Code.wp Try.prog innerTail (bodyPost Try.prog Try.f90 R) ⟨#[vF, vc, vp, u3, u4, u5, u6, .pointer (some ⟨bx, 0, none⟩), u8, u9, vts, u11, u12, u13, u14, u15, u16, u17, u18, u19, u20, u21, u22, u23, u24, u25, u26, u27, u28, u29, u30, u31, u32, u33, u34, u35, u36, u37, u38, u39, u40, u41, u42, u43, u44, u45, u46, u47, u48, u49, u50, u51, u52, u53, u54, u55, u56, u57, u58, u59, u60, u61, u62, u63, u64, u65, u66, u67, u68, u69, u70, u71, u72, u73, u74, u75, u76, u77, u78, u79, u80, u81, u82, u83, u84, u85, u86, u87, u88, u89, u90, u91, u92, u93, u94, u95, u96, u97, u98, u99, u100, u101, u102, u103, u104, u105, u106, u107, u108, u109, u110, u111, u112, u113, u114, u115, u116, u117, u118, u119, u120, u121, u122, u123, u124, u125, u126, u127, u128, u129, u130, u131, u132, u133, u134, u135, u136, u137, u138, u139, u140, u141, u142, u143, u144, u145, u146, u147, u148, u149, u150, u151, u152, u153, u154, u155, u156, u157, u158, u159, u160, u161, u162, u163, u164, u165, u166, u167, u168, u169, u170, u171, u172, u173, u174, u175, u176, u177, u178, u179, u180, u181, u182, u183, u184, u185, u186, u187, u188, u189, u190, u191, u192], []⟩ w := by
  obtain ⟨e0, e1, e2, hF, hc, hp, hts, hlen⟩ := h
  have hF' := Lib.hid hF; have hc' := Lib.hid hc; have hp' := Lib.hid hp; have hts' := Lib.hid hts; have hR' := Lib.hid hR
  obtain ⟨A9, cap9, b9, off9, rfl, z1, z2, z3, z4⟩ := Rd.sl_open hts
  simp only [List.length_map] at *
  have z3' := Lib.hid z3; have z4' := Lib.hid z4
  clear hF hc hp hts hR z3 z4
  subst ho
  obtain rfl := List.eq_nil_of_length_eq_zero hl
  have H5 := Lib.hid (tail_leaf (F := F) (c := c) (p := p) (n := m) (s := s) (op := 0) (.inl hs) (by decide))
  conv => arg 2; whnf
  go_wp2_with fail
  refine (rnumber_any _ _).mono ?_
  rintro r w2 ⟨rfl, he⟩
  have e0 := he.at e0
  have e1 := he.at e1
  have e2 := he.at e2
  go_wp2_with fail
  try go_ret2
  exact hR'.out _ _ (by rw [H5.out]; simp only [leafT]; exact answer_some) he

set_option maxRecDepth 100000 in
set_option maxHeartbeats 1000000 in
theorem inner_o1n (F : List Fn) (c p : List Int) (o m : Int) (s : ByteArray) (ts : List Int) (bx : Nat) (vF vc vp vts : Value) (w : World) (h : InnerAt F c p o m s ts bx vF vc vp vts w) (hs : True) (ho : o = 1) (hl : ts.length = 0) (hm0 : ¬ m = 0) (R : Ending → World → Prop) (hR : ∀ r w', Answer (tailT F c p o m s ts) r → Ext w w' → R r w')
    (u3 u4 u5 u6 u8 u9 u11 u12 u13 u14 u15 u16 u17 u18 u19 u20 u21 u22 u23 u24 u25 u26 u27 u28 u29 u30 u31 u32 u33 u34 u35 u36 u37 u38 u39 u40 u41 u42 u43 u44 u45 u46 u47 u48 u49 u50 u51 u52 u53 u54 u55 u56 u57 u58 u59 u60 u61 u62 u63 u64 u65 u66 u67 u68 u69 u70 u71 u72 u73 u74 u75 u76 u77 u78 u79 u80 u81 u82 u83 u84 u85 u86 u87 u88 u89 u90 u91 u92 u93 u94 u95 u96 u97 u98 u99 u100 u101 u102 u103 u104 u105 u106 u107 u108 u109 u110 u111 u112 u113 u114 u115 u116 u117 u118 u119 u120 u121 u122 u123 u124 u125 u126 u127 u128 u129 u130 u131 u132 u133 u134 u135 u136 u137 u138 u139 u140 u141 u142 u143 u144 u145 u146 u147 u148 u149 u150 u151 u152 u153 u154 u155 u156 u157 u158 u159 u160 u161 u162 u163 u164 u165 u166 u167 u168 u169 u170 u171 u172 u173 u174 u175 u176 u177 u178 u179 u180 u181 u182 u183 u184 u185 u186 u187 u188 u189 u190 u191 u192 : Value) : Code.wp Try.prog innerTail (bodyPost Try.prog Try.f90 R) ⟨#[vF, vc, vp, u3, u4, u5, u6, .pointer (some ⟨bx, 0, none⟩), u8, u9, vts, u11, u12, u13, u14, u15, u16, u17, u18, u19, u20, u21, u22, u23, u24, u25, u26, u27, u28, u29, u30, u31, u32, u33, u34, u35, u36, u37, u38, u39, u40, u41, u42, u43, u44, u45, u46, u47, u48, u49, u50, u51, u52, u53, u54, u55, u56, u57, u58, u59, u60, u61, u62, u63, u64, u65, u66, u67, u68, u69, u70, u71, u72, u73, u74, u75, u76, u77, u78, u79, u80, u81, u82, u83, u84, u85, u86, u87, u88, u89, u90, u91, u92, u93, u94, u95, u96, u97, u98, u99, u100, u101, u102, u103, u104, u105, u106, u107, u108, u109, u110, u111, u112, u113, u114, u115, u116, u117, u118, u119, u120, u121, u122, u123, u124, u125, u126, u127, u128, u129, u130, u131, u132, u133, u134, u135, u136, u137, u138, u139, u140, u141, u142, u143, u144, u145, u146, u147, u148, u149, u150, u151, u152, u153, u154, u155, u156, u157, u158, u159, u160, u161, u162, u163, u164, u165, u166, u167, u168, u169, u170, u171, u172, u173, u174, u175, u176, u177, u178, u179, u180, u181, u182, u183, u184, u185, u186, u187, u188, u189, u190, u191, u192], []⟩ w := by
  obtain ⟨e0, e1, e2, hF, hc, hp, hts, hlen⟩ := h
  have hF' := Lib.hid hF; have hc' := Lib.hid hc; have hp' := Lib.hid hp; have hts' := Lib.hid hts; have hR' := Lib.hid hR
  obtain ⟨A9, cap9, b9, off9, rfl, z1, z2, z3, z4⟩ := Rd.sl_open hts
  simp only [List.length_map] at *
  have z3' := Lib.hid z3; have z4' := Lib.hid z4
  clear hF hc hp hts hR z3 z4
  subst ho
  obtain rfl := List.eq_nil_of_length_eq_zero hl
  have H5 := Lib.hid (tail_leaf (F := F) (c := c) (p := p) (n := m) (s := s) (op := 1) (.inr rfl) (by decide))
  clear hs
  rcases Decidable.em (s.toList = []) with hs | hs
  all_goals
    conv => arg 2; whnf
    go_wp2_with fail
    refine (rnumber_any _ _).mono ?_
    rintro r w2 ⟨rfl, he⟩
    have e0 := he.at e0
    have e1 := he.at e1
    have e2 := he.at e2
    go_wp2_with fail
    try go_ret2
    exact hR'.out _ _ (by rw [H5.out]; simp [leafT, hm0]; exact answer_none) he

set_option maxRecDepth 100000 in
set_option maxHeartbeats 1000000 in
theorem inner_o1 (F : List Fn) (c p : List Int) (o m : Int) (s : ByteArray) (ts : List Int) (bx : Nat) (vF vc vp vts : Value) (w : World) (h : InnerAt F c p o m s ts bx vF vc vp vts w) (hs : True) (ho : o = 1) (hl : ts.length = 0) (hm0 : m = 0) (R : Ending → World → Prop) (hR : ∀ r w', Answer (tailT F c p o m s ts) r → Ext w w' → R r w')
    (u3 u4 u5 u6 u8 u9 u11 u12 u13 u14 u15 u16 u17 u18 u19 u20 u21 u22 u23 u24 u25 u26 u27 u28 u29 u30 u31 u32 u33 u34 u35 u36 u37 u38 u39 u40 u41 u42 u43 u44 u45 u46 u47 u48 u49 u50 u51 u52 u53 u54 u55 u56 u57 u58 u59 u60 u61 u62 u63 u64 u65 u66 u67 u68 u69 u70 u71 u72 u73 u74 u75 u76 u77 u78 u79 u80 u81 u82 u83 u84 u85 u86 u87 u88 u89 u90 u91 u92 u93 u94 u95 u96 u97 u98 u99 u100 u101 u102 u103 u104 u105 u106 u107 u108 u109 u110 u111 u112 u113 u114 u115 u116 u117 u118 u119 u120 u121 u122 u123 u124 u125 u126 u127 u128 u129 u130 u131 u132 u133 u134 u135 u136 u137 u138 u139 u140 u141 u142 u143 u144 u145 u146 u147 u148 u149 u150 u151 u152 u153 u154 u155 u156 u157 u158 u159 u160 u161 u162 u163 u164 u165 u166 u167 u168 u169 u170 u171 u172 u173 u174 u175 u176 u177 u178 u179 u180 u181 u182 u183 u184 u185 u186 u187 u188 u189 u190 u191 u192 : Value) : Code.wp Try.prog innerTail (bodyPost Try.prog Try.f90 R) ⟨#[vF, vc, vp, u3, u4, u5, u6, .pointer (some ⟨bx, 0, none⟩), u8, u9, vts, u11, u12, u13, u14, u15, u16, u17, u18, u19, u20, u21, u22, u23, u24, u25, u26, u27, u28, u29, u30, u31, u32, u33, u34, u35, u36, u37, u38, u39, u40, u41, u42, u43, u44, u45, u46, u47, u48, u49, u50, u51, u52, u53, u54, u55, u56, u57, u58, u59, u60, u61, u62, u63, u64, u65, u66, u67, u68, u69, u70, u71, u72, u73, u74, u75, u76, u77, u78, u79, u80, u81, u82, u83, u84, u85, u86, u87, u88, u89, u90, u91, u92, u93, u94, u95, u96, u97, u98, u99, u100, u101, u102, u103, u104, u105, u106, u107, u108, u109, u110, u111, u112, u113, u114, u115, u116, u117, u118, u119, u120, u121, u122, u123, u124, u125, u126, u127, u128, u129, u130, u131, u132, u133, u134, u135, u136, u137, u138, u139, u140, u141, u142, u143, u144, u145, u146, u147, u148, u149, u150, u151, u152, u153, u154, u155, u156, u157, u158, u159, u160, u161, u162, u163, u164, u165, u166, u167, u168, u169, u170, u171, u172, u173, u174, u175, u176, u177, u178, u179, u180, u181, u182, u183, u184, u185, u186, u187, u188, u189, u190, u191, u192], []⟩ w := by
  obtain ⟨e0, e1, e2, hF, hc, hp, hts, hlen⟩ := h
  have hF' := Lib.hid hF; have hc' := Lib.hid hc; have hp' := Lib.hid hp; have hts' := Lib.hid hts; have hR' := Lib.hid hR
  obtain ⟨A9, cap9, b9, off9, rfl, z1, z2, z3, z4⟩ := Rd.sl_open hts
  simp only [List.length_map] at *
  have z3' := Lib.hid z3; have z4' := Lib.hid z4
  clear hF hc hp hts hR z3 z4
  subst ho
  obtain rfl := List.eq_nil_of_length_eq_zero hl
  have H5 := Lib.hid (tail_leaf (F := F) (c := c) (p := p) (n := m) (s := s) (op := 1) (.inr rfl) (by decide))
  clear hs
  subst hm0
  rcases Decidable.em (s.toList = []) with hs | hs
  all_goals
    conv => arg 2; whnf
    go_wp2_with fail
    refine (rnumber_any _ _).mono ?_
    rintro r w2 ⟨rfl, he⟩
    have e0 := he.at e0
    have e1 := he.at e1
    have e2 := he.at e2
    go_wp2_with fail
    have ge0 := ExtW.at e0
    have ge1 := ExtW.at e1
    have ge2 := ExtW.at e2
    refine wp_region_ext (by kernel_rfl) (by kernel_rfl) ?_
    repeat (go_big_quiet_step ((fail)))
    refine wpQuiet_nil ?_
    intro w3 he3
    go_wp2_with fail
    try go_ret2
    exact hR'.out _ _ (by rw [H5.out]; exact answer_of (by simp [leafT])) (he.trans he3)

set_option maxRecDepth 100000 in
set_option maxHeartbeats 1000000 in
theorem inner_o2n (F : List Fn) (c p : List Int) (o m : Int) (s : ByteArray) (ts : List Int) (bx : Nat) (vF vc vp vts : Value) (w : World) (h : InnerAt F c p o m s ts bx vF vc vp vts w) (hs : s.toList = []) (ho : o = 2) (hl : ts.length = 0) (hm0 : ¬ m = 0) (R : Ending → World → Prop) (hR : ∀ r w', Answer (tailT F c p o m s ts) r → Ext w w' → R r w')
    (u3 u4 u5 u6 u8 u9 u11 u12 u13 u14 u15 u16 u17 u18 u19 u20 u21 u22 u23 u24 u25 u26 u27 u28 u29 u30 u31 u32 u33 u34 u35 u36 u37 u38 u39 u40 u41 u42 u43 u44 u45 u46 u47 u48 u49 u50 u51 u52 u53 u54 u55 u56 u57 u58 u59 u60 u61 u62 u63 u64 u65 u66 u67 u68 u69 u70 u71 u72 u73 u74 u75 u76 u77 u78 u79 u80 u81 u82 u83 u84 u85 u86 u87 u88 u89 u90 u91 u92 u93 u94 u95 u96 u97 u98 u99 u100 u101 u102 u103 u104 u105 u106 u107 u108 u109 u110 u111 u112 u113 u114 u115 u116 u117 u118 u119 u120 u121 u122 u123 u124 u125 u126 u127 u128 u129 u130 u131 u132 u133 u134 u135 u136 u137 u138 u139 u140 u141 u142 u143 u144 u145 u146 u147 u148 u149 u150 u151 u152 u153 u154 u155 u156 u157 u158 u159 u160 u161 u162 u163 u164 u165 u166 u167 u168 u169 u170 u171 u172 u173 u174 u175 u176 u177 u178 u179 u180 u181 u182 u183 u184 u185 u186 u187 u188 u189 u190 u191 u192 : Value) : Code.wp Try.prog innerTail (bodyPost Try.prog Try.f90 R) ⟨#[vF, vc, vp, u3, u4, u5, u6, .pointer (some ⟨bx, 0, none⟩), u8, u9, vts, u11, u12, u13, u14, u15, u16, u17, u18, u19, u20, u21, u22, u23, u24, u25, u26, u27, u28, u29, u30, u31, u32, u33, u34, u35, u36, u37, u38, u39, u40, u41, u42, u43, u44, u45, u46, u47, u48, u49, u50, u51, u52, u53, u54, u55, u56, u57, u58, u59, u60, u61, u62, u63, u64, u65, u66, u67, u68, u69, u70, u71, u72, u73, u74, u75, u76, u77, u78, u79, u80, u81, u82, u83, u84, u85, u86, u87, u88, u89, u90, u91, u92, u93, u94, u95, u96, u97, u98, u99, u100, u101, u102, u103, u104, u105, u106, u107, u108, u109, u110, u111, u112, u113, u114, u115, u116, u117, u118, u119, u120, u121, u122, u123, u124, u125, u126, u127, u128, u129, u130, u131, u132, u133, u134, u135, u136, u137, u138, u139, u140, u141, u142, u143, u144, u145, u146, u147, u148, u149, u150, u151, u152, u153, u154, u155, u156, u157, u158, u159, u160, u161, u162, u163, u164, u165, u166, u167, u168, u169, u170, u171, u172, u173, u174, u175, u176, u177, u178, u179, u180, u181, u182, u183, u184, u185, u186, u187, u188, u189, u190, u191, u192], []⟩ w := by
  obtain ⟨e0, e1, e2, hF, hc, hp, hts, hlen⟩ := h
  have hF' := Lib.hid hF; have hc' := Lib.hid hc; have hp' := Lib.hid hp; have hts' := Lib.hid hts; have hR' := Lib.hid hR
  obtain ⟨A9, cap9, b9, off9, rfl, z1, z2, z3, z4⟩ := Rd.sl_open hts
  simp only [List.length_map] at *
  have z3' := Lib.hid z3; have z4' := Lib.hid z4
  clear hF hc hp hts hR z3 z4
  subst ho
  obtain rfl := List.eq_nil_of_length_eq_zero hl
  have H5 := Lib.hid (tail_leaf (F := F) (c := c) (p := p) (n := m) (s := s) (op := 2) (.inl hs) (by decide))
  have hm1 : (m == 0) = false := by simp [hm0]
  conv => arg 2; whnf
  go_wp2_with fail
  refine (rnumber_any _ _).mono ?_
  rintro r w2 ⟨rfl, he⟩
  have e0 := he.at e0
  have e1 := he.at e1
  have e2 := he.at e2
  go_wp2_with fail
  have ge0 := ExtW.at e0
  have ge1 := ExtW.at e1
  have ge2 := ExtW.at e2
  refine wp_region_ext (by kernel_rfl) (by kernel_rfl) ?_
  repeat (go_big_quiet_step ((fail)))
  refine wpQuiet_nil ?_
  intro w3 he3
  go_wp2_with fail
  try go_ret2
  exact hR'.out _ _ (by rw [H5.out]; exact answer_of (by simp [leafT, hm0])) (he.trans he3)

set_option maxRecDepth 100000 in
set_option maxHeartbeats 1000000 in
theorem inner_o2 (F : List Fn) (c p : List Int) (o m : Int) (s : ByteArray) (ts : List Int) (bx : Nat) (vF vc vp vts : Value) (w : World) (h : InnerAt F c p o m s ts bx vF vc vp vts w) (hs : s.toList = []) (ho : o = 2) (hl : ts.length = 0) (hm0 : m = 0) (R : Ending → World → Prop) (hR : ∀ r w', Answer (tailT F c p o m s ts) r → Ext w w' → R r w')
    (u3 u4 u5 u6 u8 u9 u11 u12 u13 u14 u15 u16 u17 u18 u19 u20 u21 u22 u23 u24 u25 u26 u27 u28 u29 u30 u31 u32 u33 u34 u35 u36 u37 u38 u39 u40 u41 u42 u43 u44 u45 u46 u47 u48 u49 u50 u51 u52 u53 u54 u55 u56 u57 u58 u59 u60 u61 u62 u63 u64 u65 u66 u67 u68 u69 u70 u71 u72 u73 u74 u75 u76 u77 u78 u79 u80 u81 u82 u83 u84 u85 u86 u87 u88 u89 u90 u91 u92 u93 u94 u95 u96 u97 u98 u99 u100 u101 u102 u103 u104 u105 u106 u107 u108 u109 u110 u111 u112 u113 u114 u115 u116 u117 u118 u119 u120 u121 u122 u123 u124 u125 u126 u127 u128 u129 u130 u131 u132 u133 u134 u135 u136 u137 u138 u139 u140 u141 u142 u143 u144 u145 u146 u147 u148 u149 u150 u151 u152 u153 u154 u155 u156 u157 u158 u159 u160 u161 u162 u163 u164 u165 u166 u167 u168 u169 u170 u171 u172 u173 u174 u175 u176 u177 u178 u179 u180 u181 u182 u183 u184 u185 u186 u187 u188 u189 u190 u191 u192 : Value) : Code.wp Try.prog innerTail (bodyPost Try.prog Try.f90 R) ⟨#[vF, vc, vp, u3, u4, u5, u6, .pointer (some ⟨bx, 0, none⟩), u8, u9, vts, u11, u12, u13, u14, u15, u16, u17, u18, u19, u20, u21, u22, u23, u24, u25, u26, u27, u28, u29, u30, u31, u32, u33, u34, u35, u36, u37, u38, u39, u40, u41, u42, u43, u44, u45, u46, u47, u48, u49, u50, u51, u52, u53, u54, u55, u56, u57, u58, u59, u60, u61, u62, u63, u64, u65, u66, u67, u68, u69, u70, u71, u72, u73, u74, u75, u76, u77, u78, u79, u80, u81, u82, u83, u84, u85, u86, u87, u88, u89, u90, u91, u92, u93, u94, u95, u96, u97, u98, u99, u100, u101, u102, u103, u104, u105, u106, u107, u108, u109, u110, u111, u112, u113, u114, u115, u116, u117, u118, u119, u120, u121, u122, u123, u124, u125, u126, u127, u128, u129, u130, u131, u132, u133, u134, u135, u136, u137, u138, u139, u140, u141, u142, u143, u144, u145, u146, u147, u148, u149, u150, u151, u152, u153, u154, u155, u156, u157, u158, u159, u160, u161, u162, u163, u164, u165, u166, u167, u168, u169, u170, u171, u172, u173, u174, u175, u176, u177, u178, u179, u180, u181, u182, u183, u184, u185, u186, u187, u188, u189, u190, u191, u192], []⟩ w := by
  obtain ⟨e0, e1, e2, hF, hc, hp, hts, hlen⟩ := h
  have hF' := Lib.hid hF; have hc' := Lib.hid hc; have hp' := Lib.hid hp; have hts' := Lib.hid hts; have hR' := Lib.hid hR
  obtain ⟨A9, cap9, b9, off9, rfl, z1, z2, z3, z4⟩ := Rd.sl_open hts
  simp only [List.length_map] at *
  have z3' := Lib.hid z3; have z4' := Lib.hid z4
  clear hF hc hp hts hR z3 z4
  subst ho
  obtain rfl := List.eq_nil_of_length_eq_zero hl
  have H5 := Lib.hid (tail_leaf (F := F) (c := c) (p := p) (n := m) (s := s) (op := 2) (.inl hs) (by decide))
  subst hm0
  conv => arg 2; whnf
  go_wp2_with fail
  refine (rnumber_any _ _).mono ?_
  rintro r w2 ⟨rfl, he⟩
  have e0 := he.at e0
  have e1 := he.at e1
  have e2 := he.at e2
  go_wp2_with fail
  have ge0 := ExtW.at e0
  have ge1 := ExtW.at e1
  have ge2 := ExtW.at e2
  refine wp_region_ext (by kernel_rfl) (by kernel_rfl) ?_
  repeat (go_big_quiet_step ((fail)))
  refine wpQuiet_nil ?_
  intro w3 he3
  go_wp2_with fail
  try go_ret2
  exact hR'.out _ _ (by rw [H5.out]; exact answer_of (by simp [leafT])) (he.trans he3)

set_option maxRecDepth 100000 in
set_option maxHeartbeats 1000000 in
theorem inner_o3 (F : List Fn) (c p : List Int) (o m : Int) (s : ByteArray) (ts : List Int) (bx : Nat) (vF vc vp vts : Value) (w : World) (h : InnerAt F c p o m s ts bx vF vc vp vts w) (hs : s.toList = []) (ho : o = 3) (hl : ts.length = 0) (R : Ending → World → Prop) (hR : ∀ r w', Answer (tailT F c p o m s ts) r → Ext w w' → R r w')
    (u3 u4 u5 u6 u8 u9 u11 u12 u13 u14 u15 u16 u17 u18 u19 u20 u21 u22 u23 u24 u25 u26 u27 u28 u29 u30 u31 u32 u33 u34 u35 u36 u37 u38 u39 u40 u41 u42 u43 u44 u45 u46 u47 u48 u49 u50 u51 u52 u53 u54 u55 u56 u57 u58 u59 u60 u61 u62 u63 u64 u65 u66 u67 u68 u69 u70 u71 u72 u73 u74 u75 u76 u77 u78 u79 u80 u81 u82 u83 u84 u85 u86 u87 u88 u89 u90 u91 u92 u93 u94 u95 u96 u97 u98 u99 u100 u101 u102 u103 u104 u105 u106 u107 u108 u109 u110 u111 u112 u113 u114 u115 u116 u117 u118 u119 u120 u121 u122 u123 u124 u125 u126 u127 u128 u129 u130 u131 u132 u133 u134 u135 u136 u137 u138 u139 u140 u141 u142 u143 u144 u145 u146 u147 u148 u149 u150 u151 u152 u153 u154 u155 u156 u157 u158 u159 u160 u161 u162 u163 u164 u165 u166 u167 u168 u169 u170 u171 u172 u173 u174 u175 u176 u177 u178 u179 u180 u181 u182 u183 u184 u185 u186 u187 u188 u189 u190 u191 u192 : Value) : Code.wp Try.prog innerTail (bodyPost Try.prog Try.f90 R) ⟨#[vF, vc, vp, u3, u4, u5, u6, .pointer (some ⟨bx, 0, none⟩), u8, u9, vts, u11, u12, u13, u14, u15, u16, u17, u18, u19, u20, u21, u22, u23, u24, u25, u26, u27, u28, u29, u30, u31, u32, u33, u34, u35, u36, u37, u38, u39, u40, u41, u42, u43, u44, u45, u46, u47, u48, u49, u50, u51, u52, u53, u54, u55, u56, u57, u58, u59, u60, u61, u62, u63, u64, u65, u66, u67, u68, u69, u70, u71, u72, u73, u74, u75, u76, u77, u78, u79, u80, u81, u82, u83, u84, u85, u86, u87, u88, u89, u90, u91, u92, u93, u94, u95, u96, u97, u98, u99, u100, u101, u102, u103, u104, u105, u106, u107, u108, u109, u110, u111, u112, u113, u114, u115, u116, u117, u118, u119, u120, u121, u122, u123, u124, u125, u126, u127, u128, u129, u130, u131, u132, u133, u134, u135, u136, u137, u138, u139, u140, u141, u142, u143, u144, u145, u146, u147, u148, u149, u150, u151, u152, u153, u154, u155, u156, u157, u158, u159, u160, u161, u162, u163, u164, u165, u166, u167, u168, u169, u170, u171, u172, u173, u174, u175, u176, u177, u178, u179, u180, u181, u182, u183, u184, u185, u186, u187, u188, u189, u190, u191, u192], []⟩ w := by
  obtain ⟨e0, e1, e2, hF, hc, hp, hts, hlen⟩ := h
  have hF' := Lib.hid hF; have hc' := Lib.hid hc; have hp' := Lib.hid hp; have hts' := Lib.hid hts; have hR' := Lib.hid hR
  obtain ⟨A9, cap9, b9, off9, rfl, z1, z2, z3, z4⟩ := Rd.sl_open hts
  simp only [List.length_map] at *
  have z3' := Lib.hid z3; have z4' := Lib.hid z4
  clear hF hc hp hts hR z3 z4
  subst ho
  obtain rfl := List.eq_nil_of_length_eq_zero hl
  have H5 := Lib.hid (tail_leaf (F := F) (c := c) (p := p) (n := m) (s := s) (op := 3) (.inl hs) (by decide))
  conv => arg 2; whnf
  go_wp2_with fail
  refine (rnumber_any _ _).mono ?_
  rintro r w2 ⟨rfl, he⟩
  have e0 := he.at e0
  have e1 := he.at e1
  have e2 := he.at e2
  go_wp2_with fail
  refine (rat_any c m Any _ _ (hc'.out.ext he)).mono ?_
  rintro r w1 ⟨⟨t, ok, rfl, hA⟩, he2⟩
  have hA' := Lib.hid hA; clear hA
  go_wp2_with fail
  try go_ret2
  exact hR'.out _ _ (by rw [H5.out]; exact answer_of (by rw [hA'.out]; simp [leafT])) (he.trans he2)

set_option maxRecDepth 100000 in
set_option maxHeartbeats 1000000 in
theorem inner_o4 (F : List Fn) (c p : List Int) (o m : Int) (s : ByteArray) (ts : List Int) (bx : Nat) (vF vc vp vts : Value) (w : World) (h : InnerAt F c p o m s ts bx vF vc vp vts w) (hs : s.toList = []) (ho : o = 4) (hl : ts.length = 0) (R : Ending → World → Prop) (hR : ∀ r w', Answer (tailT F c p o m s ts) r → Ext w w' → R r w')
    (u3 u4 u5 u6 u8 u9 u11 u12 u13 u14 u15 u16 u17 u18 u19 u20 u21 u22 u23 u24 u25 u26 u27 u28 u29 u30 u31 u32 u33 u34 u35 u36 u37 u38 u39 u40 u41 u42 u43 u44 u45 u46 u47 u48 u49 u50 u51 u52 u53 u54 u55 u56 u57 u58 u59 u60 u61 u62 u63 u64 u65 u66 u67 u68 u69 u70 u71 u72 u73 u74 u75 u76 u77 u78 u79 u80 u81 u82 u83 u84 u85 u86 u87 u88 u89 u90 u91 u92 u93 u94 u95 u96 u97 u98 u99 u100 u101 u102 u103 u104 u105 u106 u107 u108 u109 u110 u111 u112 u113 u114 u115 u116 u117 u118 u119 u120 u121 u122 u123 u124 u125 u126 u127 u128 u129 u130 u131 u132 u133 u134 u135 u136 u137 u138 u139 u140 u141 u142 u143 u144 u145 u146 u147 u148 u149 u150 u151 u152 u153 u154 u155 u156 u157 u158 u159 u160 u161 u162 u163 u164 u165 u166 u167 u168 u169 u170 u171 u172 u173 u174 u175 u176 u177 u178 u179 u180 u181 u182 u183 u184 u185 u186 u187 u188 u189 u190 u191 u192 : Value) : Code.wp Try.prog innerTail (bodyPost Try.prog Try.f90 R) ⟨#[vF, vc, vp, u3, u4, u5, u6, .pointer (some ⟨bx, 0, none⟩), u8, u9, vts, u11, u12, u13, u14, u15, u16, u17, u18, u19, u20, u21, u22, u23, u24, u25, u26, u27, u28, u29, u30, u31, u32, u33, u34, u35, u36, u37, u38, u39, u40, u41, u42, u43, u44, u45, u46, u47, u48, u49, u50, u51, u52, u53, u54, u55, u56, u57, u58, u59, u60, u61, u62, u63, u64, u65, u66, u67, u68, u69, u70, u71, u72, u73, u74, u75, u76, u77, u78, u79, u80, u81, u82, u83, u84, u85, u86, u87, u88, u89, u90, u91, u92, u93, u94, u95, u96, u97, u98, u99, u100, u101, u102, u103, u104, u105, u106, u107, u108, u109, u110, u111, u112, u113, u114, u115, u116, u117, u118, u119, u120, u121, u122, u123, u124, u125, u126, u127, u128, u129, u130, u131, u132, u133, u134, u135, u136, u137, u138, u139, u140, u141, u142, u143, u144, u145, u146, u147, u148, u149, u150, u151, u152, u153, u154, u155, u156, u157, u158, u159, u160, u161, u162, u163, u164, u165, u166, u167, u168, u169, u170, u171, u172, u173, u174, u175, u176, u177, u178, u179, u180, u181, u182, u183, u184, u185, u186, u187, u188, u189, u190, u191, u192], []⟩ w := by
  obtain ⟨e0, e1, e2, hF, hc, hp, hts, hlen⟩ := h
  have hF' := Lib.hid hF; have hc' := Lib.hid hc; have hp' := Lib.hid hp; have hts' := Lib.hid hts; have hR' := Lib.hid hR
  obtain ⟨A9, cap9, b9, off9, rfl, z1, z2, z3, z4⟩ := Rd.sl_open hts
  simp only [List.length_map] at *
  have z3' := Lib.hid z3; have z4' := Lib.hid z4
  clear hF hc hp hts hR z3 z4
  subst ho
  obtain rfl := List.eq_nil_of_length_eq_zero hl
  have H5 := Lib.hid (tail_leaf (F := F) (c := c) (p := p) (n := m) (s := s) (op := 4) (.inl hs) (by decide))
  conv => arg 2; whnf
  go_wp2_with fail
  refine (rnumber_any _ _).mono ?_
  rintro r w2 ⟨rfl, he⟩
  have e0 := he.at e0
  have e1 := he.at e1
  have e2 := he.at e2
  go_wp2_with fail
  refine (rat_any p m Any _ _ (hp'.out.ext he)).mono ?_
  rintro r w1 ⟨⟨t, ok, rfl, hA⟩, he2⟩
  have hA' := Lib.hid hA; clear hA
  go_wp2_with fail
  try go_ret2
  exact hR'.out _ _ (by rw [H5.out]; exact answer_of (by rw [hA'.out]; simp [leafT])) (he.trans he2)

set_option maxRecDepth 100000 in
set_option maxHeartbeats 1000000 in
theorem inner_o5n (F : List Fn) (c p : List Int) (o m : Int) (s : ByteArray) (ts : List Int) (bx : Nat) (vF vc vp vts : Value) (w : World) (h : InnerAt F c p o m s ts bx vF vc vp vts w) (hs : s.toList = []) (ho : o = 5) (hl : ts.length = 0) (hm0 : ¬ m = 0) (R : Ending → World → Prop) (hR : ∀ r w', Answer (tailT F c p o m s ts) r → Ext w w' → R r w')
    (u3 u4 u5 u6 u8 u9 u11 u12 u13 u14 u15 u16 u17 u18 u19 u20 u21 u22 u23 u24 u25 u26 u27 u28 u29 u30 u31 u32 u33 u34 u35 u36 u37 u38 u39 u40 u41 u42 u43 u44 u45 u46 u47 u48 u49 u50 u51 u52 u53 u54 u55 u56 u57 u58 u59 u60 u61 u62 u63 u64 u65 u66 u67 u68 u69 u70 u71 u72 u73 u74 u75 u76 u77 u78 u79 u80 u81 u82 u83 u84 u85 u86 u87 u88 u89 u90 u91 u92 u93 u94 u95 u96 u97 u98 u99 u100 u101 u102 u103 u104 u105 u106 u107 u108 u109 u110 u111 u112 u113 u114 u115 u116 u117 u118 u119 u120 u121 u122 u123 u124 u125 u126 u127 u128 u129 u130 u131 u132 u133 u134 u135 u136 u137 u138 u139 u140 u141 u142 u143 u144 u145 u146 u147 u148 u149 u150 u151 u152 u153 u154 u155 u156 u157 u158 u159 u160 u161 u162 u163 u164 u165 u166 u167 u168 u169 u170 u171 u172 u173 u174 u175 u176 u177 u178 u179 u180 u181 u182 u183 u184 u185 u186 u187 u188 u189 u190 u191 u192 : Value) : Code.wp Try.prog innerTail (bodyPost Try.prog Try.f90 R) ⟨#[vF, vc, vp, u3, u4, u5, u6, .pointer (some ⟨bx, 0, none⟩), u8, u9, vts, u11, u12, u13, u14, u15, u16, u17, u18, u19, u20, u21, u22, u23, u24, u25, u26, u27, u28, u29, u30, u31, u32, u33, u34, u35, u36, u37, u38, u39, u40, u41, u42, u43, u44, u45, u46, u47, u48, u49, u50, u51, u52, u53, u54, u55, u56, u57, u58, u59, u60, u61, u62, u63, u64, u65, u66, u67, u68, u69, u70, u71, u72, u73, u74, u75, u76, u77, u78, u79, u80, u81, u82, u83, u84, u85, u86, u87, u88, u89, u90, u91, u92, u93, u94, u95, u96, u97, u98, u99, u100, u101, u102, u103, u104, u105, u106, u107, u108, u109, u110, u111, u112, u113, u114, u115, u116, u117, u118, u119, u120, u121, u122, u123, u124, u125, u126, u127, u128, u129, u130, u131, u132, u133, u134, u135, u136, u137, u138, u139, u140, u141, u142, u143, u144, u145, u146, u147, u148, u149, u150, u151, u152, u153, u154, u155, u156, u157, u158, u159, u160, u161, u162, u163, u164, u165, u166, u167, u168, u169, u170, u171, u172, u173, u174, u175, u176, u177, u178, u179, u180, u181, u182, u183, u184, u185, u186, u187, u188, u189, u190, u191, u192], []⟩ w := by
  obtain ⟨e0, e1, e2, hF, hc, hp, hts, hlen⟩ := h
  have hF' := Lib.hid hF; have hc' := Lib.hid hc; have hp' := Lib.hid hp; have hts' := Lib.hid hts; have hR' := Lib.hid hR
  obtain ⟨A9, cap9, b9, off9, rfl, z1, z2, z3, z4⟩ := Rd.sl_open hts
  simp only [List.length_map] at *
  have z3' := Lib.hid z3; have z4' := Lib.hid z4
  clear hF hc hp hts hR z3 z4
  subst ho
  obtain rfl := List.eq_nil_of_length_eq_zero hl
  have H5 := Lib.hid (tail_leaf (F := F) (c := c) (p := p) (n := m) (s := s) (op := 5) (.inl hs) (by decide))
  conv => arg 2; whnf
  go_wp2_with fail
  refine (rnumber_any _ _).mono ?_
  rintro r w2 ⟨rfl, he⟩
  have e0 := he.at e0
  have e1 := he.at e1
  have e2 := he.at e2
  go_wp2_with fail
  try go_ret2
  exact hR'.out _ _ (by rw [H5.out]; simp [leafT, hm0]; exact answer_none) he

set_option maxRecDepth 100000 in
set_option maxHeartbeats 1000000 in
theorem inner_o5 (F : List Fn) (c p : List Int) (o m : Int) (s : ByteArray) (ts : List Int) (bx : Nat) (vF vc vp vts : Value) (w : World) (h : InnerAt F c p o m s ts bx vF vc vp vts w) (hs : s.toList = []) (ho : o = 5) (hl : ts.length = 0) (hm0 : m = 0) (R : Ending → World → Prop) (hR : ∀ r w', Answer (tailT F c p o m s ts) r → Ext w w' → R r w')
    (u3 u4 u5 u6 u8 u9 u11 u12 u13 u14 u15 u16 u17 u18 u19 u20 u21 u22 u23 u24 u25 u26 u27 u28 u29 u30 u31 u32 u33 u34 u35 u36 u37 u38 u39 u40 u41 u42 u43 u44 u45 u46 u47 u48 u49 u50 u51 u52 u53 u54 u55 u56 u57 u58 u59 u60 u61 u62 u63 u64 u65 u66 u67 u68 u69 u70 u71 u72 u73 u74 u75 u76 u77 u78 u79 u80 u81 u82 u83 u84 u85 u86 u87 u88 u89 u90 u91 u92 u93 u94 u95 u96 u97 u98 u99 u100 u101 u102 u103 u104 u105 u106 u107 u108 u109 u110 u111 u112 u113 u114 u115 u116 u117 u118 u119 u120 u121 u122 u123 u124 u125 u126 u127 u128 u129 u130 u131 u132 u133 u134 u135 u136 u137 u138 u139 u140 u141 u142 u143 u144 u145 u146 u147 u148 u149 u150 u151 u152 u153 u154 u155 u156 u157 u158 u159 u160 u161 u162 u163 u164 u165 u166 u167 u168 u169 u170 u171 u172 u173 u174 u175 u176 u177 u178 u179 u180 u181 u182 u183 u184 u185 u186 u187 u188 u189 u190 u191 u192 : Value) : Code.wp Try.prog innerTail (bodyPost Try.prog Try.f90 R) ⟨#[vF, vc, vp, u3, u4, u5, u6, .pointer (some ⟨bx, 0, none⟩), u8, u9, vts, u11, u12, u13, u14, u15, u16, u17, u18, u19, u20, u21, u22, u23, u24, u25, u26, u27, u28, u29, u30, u31, u32, u33, u34, u35, u36, u37, u38, u39, u40, u41, u42, u43, u44, u45, u46, u47, u48, u49, u50, u51, u52, u53, u54, u55, u56, u57, u58, u59, u60, u61, u62, u63, u64, u65, u66, u67, u68, u69, u70, u71, u72, u73, u74, u75, u76, u77, u78, u79, u80, u81, u82, u83, u84, u85, u86, u87, u88, u89, u90, u91, u92, u93, u94, u95, u96, u97, u98, u99, u100, u101, u102, u103, u104, u105, u106, u107, u108, u109, u110, u111, u112, u113, u114, u115, u116, u117, u118, u119, u120, u121, u122, u123, u124, u125, u126, u127, u128, u129, u130, u131, u132, u133, u134, u135, u136, u137, u138, u139, u140, u141, u142, u143, u144, u145, u146, u147, u148, u149, u150, u151, u152, u153, u154, u155, u156, u157, u158, u159, u160, u161, u162, u163, u164, u165, u166, u167, u168, u169, u170, u171, u172, u173, u174, u175, u176, u177, u178, u179, u180, u181, u182, u183, u184, u185, u186, u187, u188, u189, u190, u191, u192], []⟩ w := by
  obtain ⟨e0, e1, e2, hF, hc, hp, hts, hlen⟩ := h
  have hF' := Lib.hid hF; have hc' := Lib.hid hc; have hp' := Lib.hid hp; have hts' := Lib.hid hts; have hR' := Lib.hid hR
  obtain ⟨A9, cap9, b9, off9, rfl, z1, z2, z3, z4⟩ := Rd.sl_open hts
  simp only [List.length_map] at *
  have z3' := Lib.hid z3; have z4' := Lib.hid z4
  clear hF hc hp hts hR z3 z4
  subst ho
  obtain rfl := List.eq_nil_of_length_eq_zero hl
  have H5 := Lib.hid (tail_leaf (F := F) (c := c) (p := p) (n := m) (s := s) (op := 5) (.inl hs) (by decide))
  subst hm0
  conv => arg 2; whnf
  go_wp2_with fail
  refine (rnumber_any _ _).mono ?_
  rintro r w2 ⟨rfl, he⟩
  have e0 := he.at e0
  have e1 := he.at e1
  have e2 := he.at e2
  go_wp2_with fail
  try go_ret2
  exact hR'.out _ _ (by rw [H5.out]; simp only [leafT]; exact answer_some) he

set_option maxRecDepth 100000 in
set_option maxHeartbeats 1000000 in
theorem inner_n1 (F : List Fn) (c p : List Int) (o m : Int) (s : ByteArray) (ts : List Int) (bx : Nat) (vF vc vp vts : Value) (w : World) (h : InnerAt F c p o m s ts bx vF vc vp vts w) (hs : s.toList = []) (ho : o = 6 ∨ o = 7 ∨ o = 20) (hl : ts.length = 1) (hm0 : ¬ m = 0) (R : Ending → World → Prop) (hR : ∀ r w', Answer (tailT F c p o m s ts) r → Ext w w' → R r w')
    (u3 u4 u5 u6 u8 u9 u11 u12 u13 u14 u15 u16 u17 u18 u19 u20 u21 u22 u23 u24 u25 u26 u27 u28 u29 u30 u31 u32 u33 u34 u35 u36 u37 u38 u39 u40 u41 u42 u43 u44 u45 u46 u47 u48 u49 u50 u51 u52 u53 u54 u55 u56 u57 u58 u59 u60 u61 u62 u63 u64 u65 u66 u67 u68 u69 u70 u71 u72 u73 u74 u75 u76 u77 u78 u79 u80 u81 u82 u83 u84 u85 u86 u87 u88 u89 u90 u91 u92 u93 u94 u95 u96 u97 u98 u99 u100 u101 u102 u103 u104 u105 u106 u107 u108 u109 u110 u111 u112 u113 u114 u115 u116 u117 u118 u119 u120 u121 u122 u123 u124 u125 u126 u127 u128 u129 u130 u131 u132 u133 u134 u135 u136 u137 u138 u139 u140 u141 u142 u143 u144 u145 u146 u147 u148 u149 u150 u151 u152 u153 u154 u155 u156 u157 u158 u159 u160 u161 u162 u163 u164 u165 u166 u167 u168 u169 u170 u171 u172 u173 u174 u175 u176 u177 u178 u179 u180 u181 u182 u183 u184 u185 u186 u187 u188 u189 u190 u191 u192 : Value) : Code.wp Try.prog innerTail (bodyPost Try.prog Try.f90 R) ⟨#[vF, vc, vp, u3, u4, u5, u6, .pointer (some ⟨bx, 0, none⟩), u8, u9, vts, u11, u12, u13, u14, u15, u16, u17, u18, u19, u20, u21, u22, u23, u24, u25, u26, u27, u28, u29, u30, u31, u32, u33, u34, u35, u36, u37, u38, u39, u40, u41, u42, u43, u44, u45, u46, u47, u48, u49, u50, u51, u52, u53, u54, u55, u56, u57, u58, u59, u60, u61, u62, u63, u64, u65, u66, u67, u68, u69, u70, u71, u72, u73, u74, u75, u76, u77, u78, u79, u80, u81, u82, u83, u84, u85, u86, u87, u88, u89, u90, u91, u92, u93, u94, u95, u96, u97, u98, u99, u100, u101, u102, u103, u104, u105, u106, u107, u108, u109, u110, u111, u112, u113, u114, u115, u116, u117, u118, u119, u120, u121, u122, u123, u124, u125, u126, u127, u128, u129, u130, u131, u132, u133, u134, u135, u136, u137, u138, u139, u140, u141, u142, u143, u144, u145, u146, u147, u148, u149, u150, u151, u152, u153, u154, u155, u156, u157, u158, u159, u160, u161, u162, u163, u164, u165, u166, u167, u168, u169, u170, u171, u172, u173, u174, u175, u176, u177, u178, u179, u180, u181, u182, u183, u184, u185, u186, u187, u188, u189, u190, u191, u192], []⟩ w := by
  obtain ⟨e0, e1, e2, hF, hc, hp, hts, hlen⟩ := h
  have hF' := Lib.hid hF; have hc' := Lib.hid hc; have hp' := Lib.hid hp; have hts' := Lib.hid hts; have hR' := Lib.hid hR
  obtain ⟨A9, cap9, b9, off9, rfl, z1, z2, z3, z4⟩ := Rd.sl_open hts
  simp only [List.length_map] at *
  have z3' := Lib.hid z3; have z4' := Lib.hid z4
  clear hF hc hp hts hR z3 z4
  obtain ⟨t0, rfl⟩ := len_1 hl
  obtain ⟨rfl, -⟩ := z3'.out (by simp)
  have y0 := ints_at z4'.out (k := 0) (by simp)
  simp only [List.getElem_cons_zero, List.getElem_cons_succ, Nat.add_zero] at y0
  rcases ho with rfl | rfl | rfl
  all_goals
    have H5 := Lib.hid (fun op h => tail_oper (F := F) (c := c) (p := p) (n := m) (t := t0) (ts := []) (op := op) hs h)
    conv => arg 2; whnf
    go_wp2_with fail
    refine (rnumber_any _ _).mono ?_
    rintro r w2 ⟨rfl, he⟩
    have e0 := he.at e0
    have e1 := he.at e1
    have e2 := he.at e2
    go_wp2_with fail
    try go_ret2
    exact hR'.out _ _ (by rw [H5.out _ (by decide)]; simp [operT, hm0]; exact answer_none) he

set_option maxRecDepth 100000 in
set_option maxHeartbeats 1000000 in
theorem inner_n2 (F : List Fn) (c p : List Int) (o m : Int) (s : ByteArray) (ts : List Int) (bx : Nat) (vF vc vp vts : Value) (w : World) (h : InnerAt F c p o m s ts bx vF vc vp vts w) (hs : s.toList = []) (ho : o = 8 ∨ o = 9 ∨ o = 10 ∨ o = 11 ∨ o = 12 ∨ o = 17 ∨ o = 18 ∨ o = 19) (hl : ts.length = 2) (hm0 : ¬ m = 0) (R : Ending → World → Prop) (hR : ∀ r w', Answer (tailT F c p o m s ts) r → Ext w w' → R r w')
    (u3 u4 u5 u6 u8 u9 u11 u12 u13 u14 u15 u16 u17 u18 u19 u20 u21 u22 u23 u24 u25 u26 u27 u28 u29 u30 u31 u32 u33 u34 u35 u36 u37 u38 u39 u40 u41 u42 u43 u44 u45 u46 u47 u48 u49 u50 u51 u52 u53 u54 u55 u56 u57 u58 u59 u60 u61 u62 u63 u64 u65 u66 u67 u68 u69 u70 u71 u72 u73 u74 u75 u76 u77 u78 u79 u80 u81 u82 u83 u84 u85 u86 u87 u88 u89 u90 u91 u92 u93 u94 u95 u96 u97 u98 u99 u100 u101 u102 u103 u104 u105 u106 u107 u108 u109 u110 u111 u112 u113 u114 u115 u116 u117 u118 u119 u120 u121 u122 u123 u124 u125 u126 u127 u128 u129 u130 u131 u132 u133 u134 u135 u136 u137 u138 u139 u140 u141 u142 u143 u144 u145 u146 u147 u148 u149 u150 u151 u152 u153 u154 u155 u156 u157 u158 u159 u160 u161 u162 u163 u164 u165 u166 u167 u168 u169 u170 u171 u172 u173 u174 u175 u176 u177 u178 u179 u180 u181 u182 u183 u184 u185 u186 u187 u188 u189 u190 u191 u192 : Value) : Code.wp Try.prog innerTail (bodyPost Try.prog Try.f90 R) ⟨#[vF, vc, vp, u3, u4, u5, u6, .pointer (some ⟨bx, 0, none⟩), u8, u9, vts, u11, u12, u13, u14, u15, u16, u17, u18, u19, u20, u21, u22, u23, u24, u25, u26, u27, u28, u29, u30, u31, u32, u33, u34, u35, u36, u37, u38, u39, u40, u41, u42, u43, u44, u45, u46, u47, u48, u49, u50, u51, u52, u53, u54, u55, u56, u57, u58, u59, u60, u61, u62, u63, u64, u65, u66, u67, u68, u69, u70, u71, u72, u73, u74, u75, u76, u77, u78, u79, u80, u81, u82, u83, u84, u85, u86, u87, u88, u89, u90, u91, u92, u93, u94, u95, u96, u97, u98, u99, u100, u101, u102, u103, u104, u105, u106, u107, u108, u109, u110, u111, u112, u113, u114, u115, u116, u117, u118, u119, u120, u121, u122, u123, u124, u125, u126, u127, u128, u129, u130, u131, u132, u133, u134, u135, u136, u137, u138, u139, u140, u141, u142, u143, u144, u145, u146, u147, u148, u149, u150, u151, u152, u153, u154, u155, u156, u157, u158, u159, u160, u161, u162, u163, u164, u165, u166, u167, u168, u169, u170, u171, u172, u173, u174, u175, u176, u177, u178, u179, u180, u181, u182, u183, u184, u185, u186, u187, u188, u189, u190, u191, u192], []⟩ w := by
  obtain ⟨e0, e1, e2, hF, hc, hp, hts, hlen⟩ := h
  have hF' := Lib.hid hF; have hc' := Lib.hid hc; have hp' := Lib.hid hp; have hts' := Lib.hid hts; have hR' := Lib.hid hR
  obtain ⟨A9, cap9, b9, off9, rfl, z1, z2, z3, z4⟩ := Rd.sl_open hts
  simp only [List.length_map] at *
  have z3' := Lib.hid z3; have z4' := Lib.hid z4
  clear hF hc hp hts hR z3 z4
  obtain ⟨t0, t1, rfl⟩ := len_2 hl
  obtain ⟨rfl, -⟩ := z3'.out (by simp)
  have y0 := ints_at z4'.out (k := 0) (by simp)
  have y1 := ints_at z4'.out (k := 1) (by simp)
  simp only [List.getElem_cons_zero, List.getElem_cons_succ, Nat.add_zero] at y0 y1
  rcases ho with rfl | rfl | rfl | rfl | rfl | rfl | rfl | rfl
  all_goals
    have H5 := Lib.hid (fun op h => tail_oper (F := F) (c := c) (p := p) (n := m) (t := t0) (ts := [t1]) (op := op) hs h)
    conv => arg 2; whnf
    go_wp2_with fail
    refine (rnumber_any _ _).mono ?_
    rintro r w2 ⟨rfl, he⟩
    have e0 := he.at e0
    have e1 := he.at e1
    have e2 := he.at e2
    go_wp2_with fail
    try go_ret2
    exact hR'.out _ _ (by rw [H5.out _ (by decide)]; simp [operT, hm0]; exact answer_none) he

set_option maxRecDepth 100000 in
set_option maxHeartbeats 1000000 in
theorem inner_n2b (F : List Fn) (c p : List Int) (o m : Int) (s : ByteArray) (ts : List Int) (bx : Nat) (vF vc vp vts : Value) (w : World) (h : InnerAt F c p o m s ts bx vF vc vp vts w) (hs : s.toList = []) (ho : o = 13 ∨ o = 14 ∨ o = 15 ∨ o = 16) (hl : ts.length = 2) (hm0 : ¬ m = 0) (R : Ending → World → Prop) (hR : ∀ r w', Answer (tailT F c p o m s ts) r → Ext w w' → R r w')
    (u3 u4 u5 u6 u8 u9 u11 u12 u13 u14 u15 u16 u17 u18 u19 u20 u21 u22 u23 u24 u25 u26 u27 u28 u29 u30 u31 u32 u33 u34 u35 u36 u37 u38 u39 u40 u41 u42 u43 u44 u45 u46 u47 u48 u49 u50 u51 u52 u53 u54 u55 u56 u57 u58 u59 u60 u61 u62 u63 u64 u65 u66 u67 u68 u69 u70 u71 u72 u73 u74 u75 u76 u77 u78 u79 u80 u81 u82 u83 u84 u85 u86 u87 u88 u89 u90 u91 u92 u93 u94 u95 u96 u97 u98 u99 u100 u101 u102 u103 u104 u105 u106 u107 u108 u109 u110 u111 u112 u113 u114 u115 u116 u117 u118 u119 u120 u121 u122 u123 u124 u125 u126 u127 u128 u129 u130 u131 u132 u133 u134 u135 u136 u137 u138 u139 u140 u141 u142 u143 u144 u145 u146 u147 u148 u149 u150 u151 u152 u153 u154 u155 u156 u157 u158 u159 u160 u161 u162 u163 u164 u165 u166 u167 u168 u169 u170 u171 u172 u173 u174 u175 u176 u177 u178 u179 u180 u181 u182 u183 u184 u185 u186 u187 u188 u189 u190 u191 u192 : Value) : Code.wp Try.prog innerTail (bodyPost Try.prog Try.f90 R) ⟨#[vF, vc, vp, u3, u4, u5, u6, .pointer (some ⟨bx, 0, none⟩), u8, u9, vts, u11, u12, u13, u14, u15, u16, u17, u18, u19, u20, u21, u22, u23, u24, u25, u26, u27, u28, u29, u30, u31, u32, u33, u34, u35, u36, u37, u38, u39, u40, u41, u42, u43, u44, u45, u46, u47, u48, u49, u50, u51, u52, u53, u54, u55, u56, u57, u58, u59, u60, u61, u62, u63, u64, u65, u66, u67, u68, u69, u70, u71, u72, u73, u74, u75, u76, u77, u78, u79, u80, u81, u82, u83, u84, u85, u86, u87, u88, u89, u90, u91, u92, u93, u94, u95, u96, u97, u98, u99, u100, u101, u102, u103, u104, u105, u106, u107, u108, u109, u110, u111, u112, u113, u114, u115, u116, u117, u118, u119, u120, u121, u122, u123, u124, u125, u126, u127, u128, u129, u130, u131, u132, u133, u134, u135, u136, u137, u138, u139, u140, u141, u142, u143, u144, u145, u146, u147, u148, u149, u150, u151, u152, u153, u154, u155, u156, u157, u158, u159, u160, u161, u162, u163, u164, u165, u166, u167, u168, u169, u170, u171, u172, u173, u174, u175, u176, u177, u178, u179, u180, u181, u182, u183, u184, u185, u186, u187, u188, u189, u190, u191, u192], []⟩ w := by
  obtain ⟨e0, e1, e2, hF, hc, hp, hts, hlen⟩ := h
  have hF' := Lib.hid hF; have hc' := Lib.hid hc; have hp' := Lib.hid hp; have hts' := Lib.hid hts; have hR' := Lib.hid hR
  obtain ⟨A9, cap9, b9, off9, rfl, z1, z2, z3, z4⟩ := Rd.sl_open hts
  simp only [List.length_map] at *
  have z3' := Lib.hid z3; have z4' := Lib.hid z4
  clear hF hc hp hts hR z3 z4
  obtain ⟨t0, t1, rfl⟩ := len_2 hl
  obtain ⟨rfl, -⟩ := z3'.out (by simp)
  have y0 := ints_at z4'.out (k := 0) (by simp)
  have y1 := ints_at z4'.out (k := 1) (by simp)
  simp only [List.getElem_cons_zero, List.getElem_cons_succ, Nat.add_zero] at y0 y1
  rcases ho with rfl | rfl | rfl | rfl
  all_goals
    have H5 := Lib.hid (fun op h => tail_oper (F := F) (c := c) (p := p) (n := m) (t := t0) (ts := [t1]) (op := op) hs h)
    conv => arg 2; whnf
    go_wp2_with fail
    refine (rnumber_any _ _).mono ?_
    rintro r w2 ⟨rfl, he⟩
    have e0 := he.at e0
    have e1 := he.at e1
    have e2 := he.at e2
    go_wp2_with fail
    try go_ret2
    exact hR'.out _ _ (by rw [H5.out _ (by decide)]; simp [operT, hm0]; exact answer_none) he

set_option maxRecDepth 100000 in
set_option maxHeartbeats 1000000 in
theorem inner_n3 (F : List Fn) (c p : List Int) (o m : Int) (s : ByteArray) (ts : List Int) (bx : Nat) (vF vc vp vts : Value) (w : World) (h : InnerAt F c p o m s ts bx vF vc vp vts w) (hs : s.toList = []) (ho : o = 21) (hl : ts.length = 3) (hm0 : ¬ m = 0) (R : Ending → World → Prop) (hR : ∀ r w', Answer (tailT F c p o m s ts) r → Ext w w' → R r w')
    (u3 u4 u5 u6 u8 u9 u11 u12 u13 u14 u15 u16 u17 u18 u19 u20 u21 u22 u23 u24 u25 u26 u27 u28 u29 u30 u31 u32 u33 u34 u35 u36 u37 u38 u39 u40 u41 u42 u43 u44 u45 u46 u47 u48 u49 u50 u51 u52 u53 u54 u55 u56 u57 u58 u59 u60 u61 u62 u63 u64 u65 u66 u67 u68 u69 u70 u71 u72 u73 u74 u75 u76 u77 u78 u79 u80 u81 u82 u83 u84 u85 u86 u87 u88 u89 u90 u91 u92 u93 u94 u95 u96 u97 u98 u99 u100 u101 u102 u103 u104 u105 u106 u107 u108 u109 u110 u111 u112 u113 u114 u115 u116 u117 u118 u119 u120 u121 u122 u123 u124 u125 u126 u127 u128 u129 u130 u131 u132 u133 u134 u135 u136 u137 u138 u139 u140 u141 u142 u143 u144 u145 u146 u147 u148 u149 u150 u151 u152 u153 u154 u155 u156 u157 u158 u159 u160 u161 u162 u163 u164 u165 u166 u167 u168 u169 u170 u171 u172 u173 u174 u175 u176 u177 u178 u179 u180 u181 u182 u183 u184 u185 u186 u187 u188 u189 u190 u191 u192 : Value) : Code.wp Try.prog innerTail (bodyPost Try.prog Try.f90 R) ⟨#[vF, vc, vp, u3, u4, u5, u6, .pointer (some ⟨bx, 0, none⟩), u8, u9, vts, u11, u12, u13, u14, u15, u16, u17, u18, u19, u20, u21, u22, u23, u24, u25, u26, u27, u28, u29, u30, u31, u32, u33, u34, u35, u36, u37, u38, u39, u40, u41, u42, u43, u44, u45, u46, u47, u48, u49, u50, u51, u52, u53, u54, u55, u56, u57, u58, u59, u60, u61, u62, u63, u64, u65, u66, u67, u68, u69, u70, u71, u72, u73, u74, u75, u76, u77, u78, u79, u80, u81, u82, u83, u84, u85, u86, u87, u88, u89, u90, u91, u92, u93, u94, u95, u96, u97, u98, u99, u100, u101, u102, u103, u104, u105, u106, u107, u108, u109, u110, u111, u112, u113, u114, u115, u116, u117, u118, u119, u120, u121, u122, u123, u124, u125, u126, u127, u128, u129, u130, u131, u132, u133, u134, u135, u136, u137, u138, u139, u140, u141, u142, u143, u144, u145, u146, u147, u148, u149, u150, u151, u152, u153, u154, u155, u156, u157, u158, u159, u160, u161, u162, u163, u164, u165, u166, u167, u168, u169, u170, u171, u172, u173, u174, u175, u176, u177, u178, u179, u180, u181, u182, u183, u184, u185, u186, u187, u188, u189, u190, u191, u192], []⟩ w := by
  obtain ⟨e0, e1, e2, hF, hc, hp, hts, hlen⟩ := h
  have hF' := Lib.hid hF; have hc' := Lib.hid hc; have hp' := Lib.hid hp; have hts' := Lib.hid hts; have hR' := Lib.hid hR
  obtain ⟨A9, cap9, b9, off9, rfl, z1, z2, z3, z4⟩ := Rd.sl_open hts
  simp only [List.length_map] at *
  have z3' := Lib.hid z3; have z4' := Lib.hid z4
  clear hF hc hp hts hR z3 z4
  obtain ⟨t0, t1, t2, rfl⟩ := len_3 hl
  obtain ⟨rfl, -⟩ := z3'.out (by simp)
  have y0 := ints_at z4'.out (k := 0) (by simp)
  have y1 := ints_at z4'.out (k := 1) (by simp)
  have y2 := ints_at z4'.out (k := 2) (by simp)
  simp only [List.getElem_cons_zero, List.getElem_cons_succ, Nat.add_zero] at y0 y1 y2
  subst ho
  all_goals
    have H5 := Lib.hid (fun op h => tail_oper (F := F) (c := c) (p := p) (n := m) (t := t0) (ts := [t1, t2]) (op := op) hs h)
    conv => arg 2; whnf
    go_wp2_with fail
    refine (rnumber_any _ _).mono ?_
    rintro r w2 ⟨rfl, he⟩
    have e0 := he.at e0
    have e1 := he.at e1
    have e2 := he.at e2
    go_wp2_with fail
    try go_ret2
    exact hR'.out _ _ (by rw [H5.out _ (by decide)]; simp [operT, hm0]; exact answer_none) he

set_option maxRecDepth 100000 in
set_option maxHeartbeats 1000000 in
theorem inner_op1 (F : List Fn) (c p : List Int) (o m : Int) (s : ByteArray) (ts : List Int) (bx : Nat) (vF vc vp vts : Value) (w : World) (h : InnerAt F c p o m s ts bx vF vc vp vts w) (hs : s.toList = []) (ho : o = 6 ∨ o = 7 ∨ o = 20) (hl : ts.length = 1) (hm0 : m = 0) (R : Ending → World → Prop) (hR : ∀ r w', Answer (tailT F c p o m s ts) r → Ext w w' → R r w')
    (u3 u4 u5 u6 u8 u9 u11 u12 u13 u14 u15 u16 u17 u18 u19 u20 u21 u22 u23 u24 u25 u26 u27 u28 u29 u30 u31 u32 u33 u34 u35 u36 u37 u38 u39 u40 u41 u42 u43 u44 u45 u46 u47 u48 u49 u50 u51 u52 u53 u54 u55 u56 u57 u58 u59 u60 u61 u62 u63 u64 u65 u66 u67 u68 u69 u70 u71 u72 u73 u74 u75 u76 u77 u78 u79 u80 u81 u82 u83 u84 u85 u86 u87 u88 u89 u90 u91 u92 u93 u94 u95 u96 u97 u98 u99 u100 u101 u102 u103 u104 u105 u106 u107 u108 u109 u110 u111 u112 u113 u114 u115 u116 u117 u118 u119 u120 u121 u122 u123 u124 u125 u126 u127 u128 u129 u130 u131 u132 u133 u134 u135 u136 u137 u138 u139 u140 u141 u142 u143 u144 u145 u146 u147 u148 u149 u150 u151 u152 u153 u154 u155 u156 u157 u158 u159 u160 u161 u162 u163 u164 u165 u166 u167 u168 u169 u170 u171 u172 u173 u174 u175 u176 u177 u178 u179 u180 u181 u182 u183 u184 u185 u186 u187 u188 u189 u190 u191 u192 : Value) : Code.wp Try.prog innerTail (bodyPost Try.prog Try.f90 R) ⟨#[vF, vc, vp, u3, u4, u5, u6, .pointer (some ⟨bx, 0, none⟩), u8, u9, vts, u11, u12, u13, u14, u15, u16, u17, u18, u19, u20, u21, u22, u23, u24, u25, u26, u27, u28, u29, u30, u31, u32, u33, u34, u35, u36, u37, u38, u39, u40, u41, u42, u43, u44, u45, u46, u47, u48, u49, u50, u51, u52, u53, u54, u55, u56, u57, u58, u59, u60, u61, u62, u63, u64, u65, u66, u67, u68, u69, u70, u71, u72, u73, u74, u75, u76, u77, u78, u79, u80, u81, u82, u83, u84, u85, u86, u87, u88, u89, u90, u91, u92, u93, u94, u95, u96, u97, u98, u99, u100, u101, u102, u103, u104, u105, u106, u107, u108, u109, u110, u111, u112, u113, u114, u115, u116, u117, u118, u119, u120, u121, u122, u123, u124, u125, u126, u127, u128, u129, u130, u131, u132, u133, u134, u135, u136, u137, u138, u139, u140, u141, u142, u143, u144, u145, u146, u147, u148, u149, u150, u151, u152, u153, u154, u155, u156, u157, u158, u159, u160, u161, u162, u163, u164, u165, u166, u167, u168, u169, u170, u171, u172, u173, u174, u175, u176, u177, u178, u179, u180, u181, u182, u183, u184, u185, u186, u187, u188, u189, u190, u191, u192], []⟩ w := by
  obtain ⟨e0, e1, e2, hF, hc, hp, hts, hlen⟩ := h
  have hF' := Lib.hid hF; have hc' := Lib.hid hc; have hp' := Lib.hid hp; have hts' := Lib.hid hts; have hR' := Lib.hid hR
  obtain ⟨A9, cap9, b9, off9, rfl, z1, z2, z3, z4⟩ := Rd.sl_open hts
  simp only [List.length_map] at *
  have z3' := Lib.hid z3; have z4' := Lib.hid z4
  clear hF hc hp hts hR z3 z4
  obtain ⟨t0, rfl⟩ := len_1 hl
  obtain ⟨rfl, -⟩ := z3'.out (by simp)
  have y0 := ints_at z4'.out (k := 0) (by simp)
  simp only [List.getElem_cons_zero, List.getElem_cons_succ, Nat.add_zero] at y0
  rcases ho with rfl | rfl | rfl
  all_goals
    have H5 := Lib.hid (fun op h => tail_oper (F := F) (c := c) (p := p) (n := m) (t := t0) (ts := []) (op := op) hs h)
    subst hm0
    conv => arg 2; whnf
    go_wp2_with fail
    refine (rnumber_any _ _).mono ?_
    rintro r w2 ⟨rfl, he⟩
    have e0 := he.at e0
    have e1 := he.at e1
    have e2 := he.at e2
    go_wp2_with fail
    have y0 := he.at y0
    have ge0 := ExtW.at e0
    have ge1 := ExtW.at e1
    have ge2 := ExtW.at e2
    have gy0 := ExtW.at y0
    refine wp_region_ext (by kernel_rfl) (by kernel_rfl) ?_
    repeat (go_big_quiet_step ((fail)))
    refine wpQuiet_nil ?_
    intro w3 he3
    go_wp2_with fail
    try go_ret2
    exact hR'.out _ _ (by rw [H5.out _ (by decide)]; exact answer_of (by simp [operT])) (he.trans he3)

set_option maxRecDepth 100000 in
set_option maxHeartbeats 1000000 in
theorem inner_op2a (F : List Fn) (c p : List Int) (o m : Int) (s : ByteArray) (ts : List Int) (bx : Nat) (vF vc vp vts : Value) (w : World) (h : InnerAt F c p o m s ts bx vF vc vp vts w) (hs : s.toList = []) (ho : o = 8 ∨ o = 9 ∨ o = 10 ∨ o = 11 ∨ o = 12) (hl : ts.length = 2) (hm0 : m = 0) (R : Ending → World → Prop) (hR : ∀ r w', Answer (tailT F c p o m s ts) r → Ext w w' → R r w')
    (u3 u4 u5 u6 u8 u9 u11 u12 u13 u14 u15 u16 u17 u18 u19 u20 u21 u22 u23 u24 u25 u26 u27 u28 u29 u30 u31 u32 u33 u34 u35 u36 u37 u38 u39 u40 u41 u42 u43 u44 u45 u46 u47 u48 u49 u50 u51 u52 u53 u54 u55 u56 u57 u58 u59 u60 u61 u62 u63 u64 u65 u66 u67 u68 u69 u70 u71 u72 u73 u74 u75 u76 u77 u78 u79 u80 u81 u82 u83 u84 u85 u86 u87 u88 u89 u90 u91 u92 u93 u94 u95 u96 u97 u98 u99 u100 u101 u102 u103 u104 u105 u106 u107 u108 u109 u110 u111 u112 u113 u114 u115 u116 u117 u118 u119 u120 u121 u122 u123 u124 u125 u126 u127 u128 u129 u130 u131 u132 u133 u134 u135 u136 u137 u138 u139 u140 u141 u142 u143 u144 u145 u146 u147 u148 u149 u150 u151 u152 u153 u154 u155 u156 u157 u158 u159 u160 u161 u162 u163 u164 u165 u166 u167 u168 u169 u170 u171 u172 u173 u174 u175 u176 u177 u178 u179 u180 u181 u182 u183 u184 u185 u186 u187 u188 u189 u190 u191 u192 : Value) : Code.wp Try.prog innerTail (bodyPost Try.prog Try.f90 R) ⟨#[vF, vc, vp, u3, u4, u5, u6, .pointer (some ⟨bx, 0, none⟩), u8, u9, vts, u11, u12, u13, u14, u15, u16, u17, u18, u19, u20, u21, u22, u23, u24, u25, u26, u27, u28, u29, u30, u31, u32, u33, u34, u35, u36, u37, u38, u39, u40, u41, u42, u43, u44, u45, u46, u47, u48, u49, u50, u51, u52, u53, u54, u55, u56, u57, u58, u59, u60, u61, u62, u63, u64, u65, u66, u67, u68, u69, u70, u71, u72, u73, u74, u75, u76, u77, u78, u79, u80, u81, u82, u83, u84, u85, u86, u87, u88, u89, u90, u91, u92, u93, u94, u95, u96, u97, u98, u99, u100, u101, u102, u103, u104, u105, u106, u107, u108, u109, u110, u111, u112, u113, u114, u115, u116, u117, u118, u119, u120, u121, u122, u123, u124, u125, u126, u127, u128, u129, u130, u131, u132, u133, u134, u135, u136, u137, u138, u139, u140, u141, u142, u143, u144, u145, u146, u147, u148, u149, u150, u151, u152, u153, u154, u155, u156, u157, u158, u159, u160, u161, u162, u163, u164, u165, u166, u167, u168, u169, u170, u171, u172, u173, u174, u175, u176, u177, u178, u179, u180, u181, u182, u183, u184, u185, u186, u187, u188, u189, u190, u191, u192], []⟩ w := by
  obtain ⟨e0, e1, e2, hF, hc, hp, hts, hlen⟩ := h
  have hF' := Lib.hid hF; have hc' := Lib.hid hc; have hp' := Lib.hid hp; have hts' := Lib.hid hts; have hR' := Lib.hid hR
  obtain ⟨A9, cap9, b9, off9, rfl, z1, z2, z3, z4⟩ := Rd.sl_open hts
  simp only [List.length_map] at *
  have z3' := Lib.hid z3; have z4' := Lib.hid z4
  clear hF hc hp hts hR z3 z4
  obtain ⟨t0, t1, rfl⟩ := len_2 hl
  obtain ⟨rfl, -⟩ := z3'.out (by simp)
  have y0 := ints_at z4'.out (k := 0) (by simp)
  have y1 := ints_at z4'.out (k := 1) (by simp)
  simp only [List.getElem_cons_zero, List.getElem_cons_succ, Nat.add_zero] at y0 y1
  rcases ho with rfl | rfl | rfl | rfl | rfl
  all_goals
    have H5 := Lib.hid (fun op h => tail_oper (F := F) (c := c) (p := p) (n := m) (t := t0) (ts := [t1]) (op := op) hs h)
    subst hm0
    by_cases ht : t0 = 0
    · subst ht
      conv => arg 2; whnf
      go_wp2_with fail
      refine (rnumber_any _ _).mono ?_
      rintro r w2 ⟨rfl, he⟩
      have e0 := he.at e0
      have e1 := he.at e1
      have e2 := he.at e2
      go_wp2_with fail
      have y0 := he.at y0
      have y1 := he.at y1
      have ge0 := ExtW.at e0
      have ge1 := ExtW.at e1
      have ge2 := ExtW.at e2
      have gy0 := ExtW.at y0
      have gy1 := ExtW.at y1
      refine wp_region_ext (by kernel_rfl) (by kernel_rfl) ?_
      repeat (go_big_quiet_step ((fail)))
      refine wpQuiet_nil ?_
      intro w3 he3
      go_wp2_with fail
      try go_ret2
      exact hR'.out _ _ (by rw [H5.out _ (by decide)]; exact answer_of (by simp [operT])) (he.trans he3)
    · have hz : (t0 == 0) = false := by simp [ht]
      conv => arg 2; whnf
      go_wp2_with fail
      refine (rnumber_any _ _).mono ?_
      rintro r w2 ⟨rfl, he⟩
      have e0 := he.at e0
      have e1 := he.at e1
      have e2 := he.at e2
      go_wp2_with fail
      have y0 := he.at y0
      have y1 := he.at y1
      have ge0 := ExtW.at e0
      have ge1 := ExtW.at e1
      have ge2 := ExtW.at e2
      have gy0 := ExtW.at y0
      have gy1 := ExtW.at y1
      refine wp_region_ext (by kernel_rfl) (by kernel_rfl) ?_
      repeat (go_big_quiet_step ((fail)))
      refine wpQuiet_nil ?_
      intro w3 he3
      go_wp2_with fail
      try go_ret2
      exact hR'.out _ _ (by rw [H5.out _ (by decide)]; exact answer_of (by simp [operT, ht])) (he.trans he3)

set_option maxRecDepth 100000 in
set_option maxHeartbeats 1000000 in
theorem inner_op2b (F : List Fn) (c p : List Int) (o m : Int) (s : ByteArray) (ts : List Int) (bx : Nat) (vF vc vp vts : Value) (w : World) (h : InnerAt F c p o m s ts bx vF vc vp vts w) (hs : s.toList = []) (ho : o = 17 ∨ o = 18) (hl : ts.length = 2) (hm0 : m = 0) (R : Ending → World → Prop) (hR : ∀ r w', Answer (tailT F c p o m s ts) r → Ext w w' → R r w')
    (u3 u4 u5 u6 u8 u9 u11 u12 u13 u14 u15 u16 u17 u18 u19 u20 u21 u22 u23 u24 u25 u26 u27 u28 u29 u30 u31 u32 u33 u34 u35 u36 u37 u38 u39 u40 u41 u42 u43 u44 u45 u46 u47 u48 u49 u50 u51 u52 u53 u54 u55 u56 u57 u58 u59 u60 u61 u62 u63 u64 u65 u66 u67 u68 u69 u70 u71 u72 u73 u74 u75 u76 u77 u78 u79 u80 u81 u82 u83 u84 u85 u86 u87 u88 u89 u90 u91 u92 u93 u94 u95 u96 u97 u98 u99 u100 u101 u102 u103 u104 u105 u106 u107 u108 u109 u110 u111 u112 u113 u114 u115 u116 u117 u118 u119 u120 u121 u122 u123 u124 u125 u126 u127 u128 u129 u130 u131 u132 u133 u134 u135 u136 u137 u138 u139 u140 u141 u142 u143 u144 u145 u146 u147 u148 u149 u150 u151 u152 u153 u154 u155 u156 u157 u158 u159 u160 u161 u162 u163 u164 u165 u166 u167 u168 u169 u170 u171 u172 u173 u174 u175 u176 u177 u178 u179 u180 u181 u182 u183 u184 u185 u186 u187 u188 u189 u190 u191 u192 : Value) : Code.wp Try.prog innerTail (bodyPost Try.prog Try.f90 R) ⟨#[vF, vc, vp, u3, u4, u5, u6, .pointer (some ⟨bx, 0, none⟩), u8, u9, vts, u11, u12, u13, u14, u15, u16, u17, u18, u19, u20, u21, u22, u23, u24, u25, u26, u27, u28, u29, u30, u31, u32, u33, u34, u35, u36, u37, u38, u39, u40, u41, u42, u43, u44, u45, u46, u47, u48, u49, u50, u51, u52, u53, u54, u55, u56, u57, u58, u59, u60, u61, u62, u63, u64, u65, u66, u67, u68, u69, u70, u71, u72, u73, u74, u75, u76, u77, u78, u79, u80, u81, u82, u83, u84, u85, u86, u87, u88, u89, u90, u91, u92, u93, u94, u95, u96, u97, u98, u99, u100, u101, u102, u103, u104, u105, u106, u107, u108, u109, u110, u111, u112, u113, u114, u115, u116, u117, u118, u119, u120, u121, u122, u123, u124, u125, u126, u127, u128, u129, u130, u131, u132, u133, u134, u135, u136, u137, u138, u139, u140, u141, u142, u143, u144, u145, u146, u147, u148, u149, u150, u151, u152, u153, u154, u155, u156, u157, u158, u159, u160, u161, u162, u163, u164, u165, u166, u167, u168, u169, u170, u171, u172, u173, u174, u175, u176, u177, u178, u179, u180, u181, u182, u183, u184, u185, u186, u187, u188, u189, u190, u191, u192], []⟩ w := by
  obtain ⟨e0, e1, e2, hF, hc, hp, hts, hlen⟩ := h
  have hF' := Lib.hid hF; have hc' := Lib.hid hc; have hp' := Lib.hid hp; have hts' := Lib.hid hts; have hR' := Lib.hid hR
  obtain ⟨A9, cap9, b9, off9, rfl, z1, z2, z3, z4⟩ := Rd.sl_open hts
  simp only [List.length_map] at *
  have z3' := Lib.hid z3; have z4' := Lib.hid z4
  clear hF hc hp hts hR z3 z4
  obtain ⟨t0, t1, rfl⟩ := len_2 hl
  obtain ⟨rfl, -⟩ := z3'.out (by simp)
  have y0 := ints_at z4'.out (k := 0) (by simp)
  have y1 := ints_at z4'.out (k := 1) (by simp)
  simp only [List.getElem_cons_zero, List.getElem_cons_succ, Nat.add_zero] at y0 y1
  rcases ho with rfl | rfl
  all_goals
    have H5 := Lib.hid (fun op h => tail_oper (F := F) (c := c) (p := p) (n := m) (t := t0) (ts := [t1]) (op := op) hs h)
    subst hm0
    by_cases ht : t0 = 2
    · subst ht
      conv => arg 2; whnf
      go_wp2_with fail
      refine (rnumber_any _ _).mono ?_
      rintro r w2 ⟨rfl, he⟩
      have e0 := he.at e0
      have e1 := he.at e1
      have e2 := he.at e2
      go_wp2_with fail
      have y0 := he.at y0
      have y1 := he.at y1
      have ge0 := ExtW.at e0
      have ge1 := ExtW.at e1
      have ge2 := ExtW.at e2
      have gy0 := ExtW.at y0
      have gy1 := ExtW.at y1
      refine wp_region_ext (by kernel_rfl) (by kernel_rfl) ?_
      repeat (go_big_quiet_step ((fail)))
      refine wpQuiet_nil ?_
      intro w3 he3
      go_wp2_with fail
      try go_ret2
      exact hR'.out _ _ (by rw [H5.out _ (by decide)]; exact answer_of (by simp [operT])) (he.trans he3)
    · have hz : (t0 == 2) = false := by simp [ht]
      conv => arg 2; whnf
      go_wp2_with fail
      refine (rnumber_any _ _).mono ?_
      rintro r w2 ⟨rfl, he⟩
      have e0 := he.at e0
      have e1 := he.at e1
      have e2 := he.at e2
      go_wp2_with fail
      have y0 := he.at y0
      have y1 := he.at y1
      have ge0 := ExtW.at e0
      have ge1 := ExtW.at e1
      have ge2 := ExtW.at e2
      have gy0 := ExtW.at y0
      have gy1 := ExtW.at y1
      refine wp_region_ext (by kernel_rfl) (by kernel_rfl) ?_
      repeat (go_big_quiet_step ((fail)))
      refine wpQuiet_nil ?_
      intro w3 he3
      go_wp2_with fail
      try go_ret2
      exact hR'.out _ _ (by rw [H5.out _ (by decide)]; exact answer_of (by simp [operT, ht])) (he.trans he3)

set_option maxRecDepth 100000 in
set_option maxHeartbeats 1000000 in
theorem inner_op2c (F : List Fn) (c p : List Int) (o m : Int) (s : ByteArray) (ts : List Int) (bx : Nat) (vF vc vp vts : Value) (w : World) (h : InnerAt F c p o m s ts bx vF vc vp vts w) (hs : s.toList = []) (ho : o = 19) (hl : ts.length = 2) (hm0 : m = 0) (R : Ending → World → Prop) (hR : ∀ r w', Answer (tailT F c p o m s ts) r → Ext w w' → R r w')
    (u3 u4 u5 u6 u8 u9 u11 u12 u13 u14 u15 u16 u17 u18 u19 u20 u21 u22 u23 u24 u25 u26 u27 u28 u29 u30 u31 u32 u33 u34 u35 u36 u37 u38 u39 u40 u41 u42 u43 u44 u45 u46 u47 u48 u49 u50 u51 u52 u53 u54 u55 u56 u57 u58 u59 u60 u61 u62 u63 u64 u65 u66 u67 u68 u69 u70 u71 u72 u73 u74 u75 u76 u77 u78 u79 u80 u81 u82 u83 u84 u85 u86 u87 u88 u89 u90 u91 u92 u93 u94 u95 u96 u97 u98 u99 u100 u101 u102 u103 u104 u105 u106 u107 u108 u109 u110 u111 u112 u113 u114 u115 u116 u117 u118 u119 u120 u121 u122 u123 u124 u125 u126 u127 u128 u129 u130 u131 u132 u133 u134 u135 u136 u137 u138 u139 u140 u141 u142 u143 u144 u145 u146 u147 u148 u149 u150 u151 u152 u153 u154 u155 u156 u157 u158 u159 u160 u161 u162 u163 u164 u165 u166 u167 u168 u169 u170 u171 u172 u173 u174 u175 u176 u177 u178 u179 u180 u181 u182 u183 u184 u185 u186 u187 u188 u189 u190 u191 u192 : Value) : Code.wp Try.prog innerTail (bodyPost Try.prog Try.f90 R) ⟨#[vF, vc, vp, u3, u4, u5, u6, .pointer (some ⟨bx, 0, none⟩), u8, u9, vts, u11, u12, u13, u14, u15, u16, u17, u18, u19, u20, u21, u22, u23, u24, u25, u26, u27, u28, u29, u30, u31, u32, u33, u34, u35, u36, u37, u38, u39, u40, u41, u42, u43, u44, u45, u46, u47, u48, u49, u50, u51, u52, u53, u54, u55, u56, u57, u58, u59, u60, u61, u62, u63, u64, u65, u66, u67, u68, u69, u70, u71, u72, u73, u74, u75, u76, u77, u78, u79, u80, u81, u82, u83, u84, u85, u86, u87, u88, u89, u90, u91, u92, u93, u94, u95, u96, u97, u98, u99, u100, u101, u102, u103, u104, u105, u106, u107, u108, u109, u110, u111, u112, u113, u114, u115, u116, u117, u118, u119, u120, u121, u122, u123, u124, u125, u126, u127, u128, u129, u130, u131, u132, u133, u134, u135, u136, u137, u138, u139, u140, u141, u142, u143, u144, u145, u146, u147, u148, u149, u150, u151, u152, u153, u154, u155, u156, u157, u158, u159, u160, u161, u162, u163, u164, u165, u166, u167, u168, u169, u170, u171, u172, u173, u174, u175, u176, u177, u178, u179, u180, u181, u182, u183, u184, u185, u186, u187, u188, u189, u190, u191, u192], []⟩ w := by
  obtain ⟨e0, e1, e2, hF, hc, hp, hts, hlen⟩ := h
  have hF' := Lib.hid hF; have hc' := Lib.hid hc; have hp' := Lib.hid hp; have hts' := Lib.hid hts; have hR' := Lib.hid hR
  obtain ⟨A9, cap9, b9, off9, rfl, z1, z2, z3, z4⟩ := Rd.sl_open hts
  simp only [List.length_map] at *
  have z3' := Lib.hid z3; have z4' := Lib.hid z4
  clear hF hc hp hts hR z3 z4
  obtain ⟨t0, t1, rfl⟩ := len_2 hl
  obtain ⟨rfl, -⟩ := z3'.out (by simp)
  have y0 := ints_at z4'.out (k := 0) (by simp)
  have y1 := ints_at z4'.out (k := 1) (by simp)
  simp only [List.getElem_cons_zero, List.getElem_cons_succ, Nat.add_zero] at y0 y1
  subst ho
  all_goals
    have H5 := Lib.hid (fun op h => tail_oper (F := F) (c := c) (p := p) (n := m) (t := t0) (ts := [t1]) (op := op) hs h)
    subst hm0
    by_cases ht : t0 = 1
    · subst ht
      conv => arg 2; whnf
      go_wp2_with fail
      refine (rnumber_any _ _).mono ?_
      rintro r w2 ⟨rfl, he⟩
      have e0 := he.at e0
      have e1 := he.at e1
      have e2 := he.at e2
      go_wp2_with fail
      have y0 := he.at y0
      have y1 := he.at y1
      have ge0 := ExtW.at e0
      have ge1 := ExtW.at e1
      have ge2 := ExtW.at e2
      have gy0 := ExtW.at y0
      have gy1 := ExtW.at y1
      refine wp_region_ext (by kernel_rfl) (by kernel_rfl) ?_
      repeat (go_big_quiet_step ((fail)))
      refine wpQuiet_nil ?_
      intro w3 he3
      go_wp2_with fail
      try go_ret2
      exact hR'.out _ _ (by rw [H5.out _ (by decide)]; exact answer_of (by simp [operT])) (he.trans he3)
    · have hz : (t0 == 1) = false := by simp [ht]
      conv => arg 2; whnf
      go_wp2_with fail
      refine (rnumber_any _ _).mono ?_
      rintro r w2 ⟨rfl, he⟩
      have e0 := he.at e0
      have e1 := he.at e1
      have e2 := he.at e2
      go_wp2_with fail
      have y0 := he.at y0
      have y1 := he.at y1
      have ge0 := ExtW.at e0
      have ge1 := ExtW.at e1
      have ge2 := ExtW.at e2
      have gy0 := ExtW.at y0
      have gy1 := ExtW.at y1
      refine wp_region_ext (by kernel_rfl) (by kernel_rfl) ?_
      repeat (go_big_quiet_step ((fail)))
      refine wpQuiet_nil ?_
      intro w3 he3
      go_wp2_with fail
      try go_ret2
      exact hR'.out _ _ (by rw [H5.out _ (by decide)]; exact answer_of (by simp [operT, ht])) (he.trans he3)

set_option maxRecDepth 100000 in
set_option maxHeartbeats 1000000 in
theorem inner_op2d (F : List Fn) (c p : List Int) (o m : Int) (s : ByteArray) (ts : List Int) (bx : Nat) (vF vc vp vts : Value) (w : World) (h : InnerAt F c p o m s ts bx vF vc vp vts w) (hs : s.toList = []) (ho : o = 13 ∨ o = 14 ∨ o = 15 ∨ o = 16) (hl : ts.length = 2) (hm0 : m = 0) (R : Ending → World → Prop) (hR : ∀ r w', Answer (tailT F c p o m s ts) r → Ext w w' → R r w')
    (u3 u4 u5 u6 u8 u9 u11 u12 u13 u14 u15 u16 u17 u18 u19 u20 u21 u22 u23 u24 u25 u26 u27 u28 u29 u30 u31 u32 u33 u34 u35 u36 u37 u38 u39 u40 u41 u42 u43 u44 u45 u46 u47 u48 u49 u50 u51 u52 u53 u54 u55 u56 u57 u58 u59 u60 u61 u62 u63 u64 u65 u66 u67 u68 u69 u70 u71 u72 u73 u74 u75 u76 u77 u78 u79 u80 u81 u82 u83 u84 u85 u86 u87 u88 u89 u90 u91 u92 u93 u94 u95 u96 u97 u98 u99 u100 u101 u102 u103 u104 u105 u106 u107 u108 u109 u110 u111 u112 u113 u114 u115 u116 u117 u118 u119 u120 u121 u122 u123 u124 u125 u126 u127 u128 u129 u130 u131 u132 u133 u134 u135 u136 u137 u138 u139 u140 u141 u142 u143 u144 u145 u146 u147 u148 u149 u150 u151 u152 u153 u154 u155 u156 u157 u158 u159 u160 u161 u162 u163 u164 u165 u166 u167 u168 u169 u170 u171 u172 u173 u174 u175 u176 u177 u178 u179 u180 u181 u182 u183 u184 u185 u186 u187 u188 u189 u190 u191 u192 : Value) : Code.wp Try.prog innerTail (bodyPost Try.prog Try.f90 R) ⟨#[vF, vc, vp, u3, u4, u5, u6, .pointer (some ⟨bx, 0, none⟩), u8, u9, vts, u11, u12, u13, u14, u15, u16, u17, u18, u19, u20, u21, u22, u23, u24, u25, u26, u27, u28, u29, u30, u31, u32, u33, u34, u35, u36, u37, u38, u39, u40, u41, u42, u43, u44, u45, u46, u47, u48, u49, u50, u51, u52, u53, u54, u55, u56, u57, u58, u59, u60, u61, u62, u63, u64, u65, u66, u67, u68, u69, u70, u71, u72, u73, u74, u75, u76, u77, u78, u79, u80, u81, u82, u83, u84, u85, u86, u87, u88, u89, u90, u91, u92, u93, u94, u95, u96, u97, u98, u99, u100, u101, u102, u103, u104, u105, u106, u107, u108, u109, u110, u111, u112, u113, u114, u115, u116, u117, u118, u119, u120, u121, u122, u123, u124, u125, u126, u127, u128, u129, u130, u131, u132, u133, u134, u135, u136, u137, u138, u139, u140, u141, u142, u143, u144, u145, u146, u147, u148, u149, u150, u151, u152, u153, u154, u155, u156, u157, u158, u159, u160, u161, u162, u163, u164, u165, u166, u167, u168, u169, u170, u171, u172, u173, u174, u175, u176, u177, u178, u179, u180, u181, u182, u183, u184, u185, u186, u187, u188, u189, u190, u191, u192], []⟩ w := by
  obtain ⟨e0, e1, e2, hF, hc, hp, hts, hlen⟩ := h
  have hF' := Lib.hid hF; have hc' := Lib.hid hc; have hp' := Lib.hid hp; have hts' := Lib.hid hts; have hR' := Lib.hid hR
  obtain ⟨A9, cap9, b9, off9, rfl, z1, z2, z3, z4⟩ := Rd.sl_open hts
  simp only [List.length_map] at *
  have z3' := Lib.hid z3; have z4' := Lib.hid z4
  clear hF hc hp hts hR z3 z4
  obtain ⟨t0, t1, rfl⟩ := len_2 hl
  obtain ⟨rfl, -⟩ := z3'.out (by simp)
  have y0 := ints_at z4'.out (k := 0) (by simp)
  have y1 := ints_at z4'.out (k := 1) (by simp)
  simp only [List.getElem_cons_zero, List.getElem_cons_succ, Nat.add_zero] at y0 y1
  rcases ho with rfl | rfl | rfl | rfl
  all_goals
    have H5 := Lib.hid (fun op h => tail_oper (F := F) (c := c) (p := p) (n := m) (t := t0) (ts := [t1]) (op := op) hs h)
    subst hm0
    conv => arg 2; whnf
    go_wp2_with fail
    refine (rnumber_any _ _).mono ?_
    rintro r w2 ⟨rfl, he⟩
    have e0 := he.at e0
    have e1 := he.at e1
    have e2 := he.at e2
    go_wp2_with fail
    have y0 := he.at y0
    have y1 := he.at y1
    have ge0 := ExtW.at e0
    have ge1 := ExtW.at e1
    have ge2 := ExtW.at e2
    have gy0 := ExtW.at y0
    have gy1 := ExtW.at y1
    refine wp_region_ext (by kernel_rfl) (by kernel_rfl) ?_
    repeat (go_big_quiet_step ((fail)))
    refine wpQuiet_nil ?_
    intro w3 he3
    go_wp2_with fail
    try go_ret2
    exact hR'.out _ _ (by rw [H5.out _ (by decide)]; exact answer_of (by simp [operT])) (he.trans he3)

set_option maxRecDepth 100000 in
set_option maxHeartbeats 1000000 in
theorem inner_op3 (F : List Fn) (c p : List Int) (o m : Int) (s : ByteArray) (ts : List Int) (bx : Nat) (vF vc vp vts : Value) (w : World) (h : InnerAt F c p o m s ts bx vF vc vp vts w) (hs : s.toList = []) (ho : o = 21) (hl : ts.length = 3) (hm0 : m = 0) (R : Ending → World → Prop) (hR : ∀ r w', Answer (tailT F c p o m s ts) r → Ext w w' → R r w')
    (u3 u4 u5 u6 u8 u9 u11 u12 u13 u14 u15 u16 u17 u18 u19 u20 u21 u22 u23 u24 u25 u26 u27 u28 u29 u30 u31 u32 u33 u34 u35 u36 u37 u38 u39 u40 u41 u42 u43 u44 u45 u46 u47 u48 u49 u50 u51 u52 u53 u54 u55 u56 u57 u58 u59 u60 u61 u62 u63 u64 u65 u66 u67 u68 u69 u70 u71 u72 u73 u74 u75 u76 u77 u78 u79 u80 u81 u82 u83 u84 u85 u86 u87 u88 u89 u90 u91 u92 u93 u94 u95 u96 u97 u98 u99 u100 u101 u102 u103 u104 u105 u106 u107 u108 u109 u110 u111 u112 u113 u114 u115 u116 u117 u118 u119 u120 u121 u122 u123 u124 u125 u126 u127 u128 u129 u130 u131 u132 u133 u134 u135 u136 u137 u138 u139 u140 u141 u142 u143 u144 u145 u146 u147 u148 u149 u150 u151 u152 u153 u154 u155 u156 u157 u158 u159 u160 u161 u162 u163 u164 u165 u166 u167 u168 u169 u170 u171 u172 u173 u174 u175 u176 u177 u178 u179 u180 u181 u182 u183 u184 u185 u186 u187 u188 u189 u190 u191 u192 : Value) : Code.wp Try.prog innerTail (bodyPost Try.prog Try.f90 R) ⟨#[vF, vc, vp, u3, u4, u5, u6, .pointer (some ⟨bx, 0, none⟩), u8, u9, vts, u11, u12, u13, u14, u15, u16, u17, u18, u19, u20, u21, u22, u23, u24, u25, u26, u27, u28, u29, u30, u31, u32, u33, u34, u35, u36, u37, u38, u39, u40, u41, u42, u43, u44, u45, u46, u47, u48, u49, u50, u51, u52, u53, u54, u55, u56, u57, u58, u59, u60, u61, u62, u63, u64, u65, u66, u67, u68, u69, u70, u71, u72, u73, u74, u75, u76, u77, u78, u79, u80, u81, u82, u83, u84, u85, u86, u87, u88, u89, u90, u91, u92, u93, u94, u95, u96, u97, u98, u99, u100, u101, u102, u103, u104, u105, u106, u107, u108, u109, u110, u111, u112, u113, u114, u115, u116, u117, u118, u119, u120, u121, u122, u123, u124, u125, u126, u127, u128, u129, u130, u131, u132, u133, u134, u135, u136, u137, u138, u139, u140, u141, u142, u143, u144, u145, u146, u147, u148, u149, u150, u151, u152, u153, u154, u155, u156, u157, u158, u159, u160, u161, u162, u163, u164, u165, u166, u167, u168, u169, u170, u171, u172, u173, u174, u175, u176, u177, u178, u179, u180, u181, u182, u183, u184, u185, u186, u187, u188, u189, u190, u191, u192], []⟩ w := by
  obtain ⟨e0, e1, e2, hF, hc, hp, hts, hlen⟩ := h
  have hF' := Lib.hid hF; have hc' := Lib.hid hc; have hp' := Lib.hid hp; have hts' := Lib.hid hts; have hR' := Lib.hid hR
  obtain ⟨A9, cap9, b9, off9, rfl, z1, z2, z3, z4⟩ := Rd.sl_open hts
  simp only [List.length_map] at *
  have z3' := Lib.hid z3; have z4' := Lib.hid z4
  clear hF hc hp hts hR z3 z4
  obtain ⟨t0, t1, t2, rfl⟩ := len_3 hl
  obtain ⟨rfl, -⟩ := z3'.out (by simp)
  have y0 := ints_at z4'.out (k := 0) (by simp)
  have y1 := ints_at z4'.out (k := 1) (by simp)
  have y2 := ints_at z4'.out (k := 2) (by simp)
  simp only [List.getElem_cons_zero, List.getElem_cons_succ, Nat.add_zero] at y0 y1 y2
  subst ho
  all_goals
    have H5 := Lib.hid (fun op h => tail_oper (F := F) (c := c) (p := p) (n := m) (t := t0) (ts := [t1, t2]) (op := op) hs h)
    subst hm0
    by_cases ht : t0 = 2
    · subst ht
      conv => arg 2; whnf
      go_wp2_with fail
      refine (rnumber_any _ _).mono ?_
      rintro r w2 ⟨rfl, he⟩
      have e0 := he.at e0
      have e1 := he.at e1
      have e2 := he.at e2
      go_wp2_with fail
      have y0 := he.at y0
      have y1 := he.at y1
      have y2 := he.at y2
      have ge0 := ExtW.at e0
      have ge1 := ExtW.at e1
      have ge2 := ExtW.at e2
      have gy0 := ExtW.at y0
      have gy1 := ExtW.at y1
      have gy2 := ExtW.at y2
      refine wp_region_ext (by kernel_rfl) (by kernel_rfl) ?_
      repeat (go_big_quiet_step ((fail)))
      refine wpQuiet_nil ?_
      intro w3 he3
      go_wp2_with fail
      try go_ret2
      exact hR'.out _ _ (by rw [H5.out _ (by decide)]; exact answer_of (by by_cases hx : t1 = t2 <;> simp [operT, hx])) (he.trans he3)
    · have hz : (t0 == 2) = false := by simp [ht]
      conv => arg 2; whnf
      go_wp2_with fail
      refine (rnumber_any _ _).mono ?_
      rintro r w2 ⟨rfl, he⟩
      have e0 := he.at e0
      have e1 := he.at e1
      have e2 := he.at e2
      go_wp2_with fail
      have y0 := he.at y0
      have y1 := he.at y1
      have y2 := he.at y2
      have ge0 := ExtW.at e0
      have ge1 := ExtW.at e1
      have ge2 := ExtW.at e2
      have gy0 := ExtW.at y0
      have gy1 := ExtW.at y1
      have gy2 := ExtW.at y2
      refine wp_region_ext (by kernel_rfl) (by kernel_rfl) ?_
      repeat (go_big_quiet_step ((fail)))
      refine wpQuiet_nil ?_
      intro w3 he3
      go_wp2_with fail
      try go_ret2
      exact hR'.out _ _ (by rw [H5.out _ (by decide)]; exact answer_of (by simp [operT, ht])) (he.trans he3)

set_option maxRecDepth 100000 in
set_option maxHeartbeats 1000000 in
theorem inner_tail (F : List Fn) (c p : List Int) (o m : Int) (s : ByteArray) (ts : List Int) (bx : Nat) (vF vc vp vts : Value) (w : World) (h : InnerAt F c p o m s ts bx vF vc vp vts w) (R : Ending → World → Prop) (hR : ∀ r w', Answer (tailT F c p o m s ts) r → Ext w w' → R r w')
    (u3 u4 u5 u6 u8 u9 u11 u12 u13 u14 u15 u16 u17 u18 u19 u20 u21 u22 u23 u24 u25 u26 u27 u28 u29 u30 u31 u32 u33 u34 u35 u36 u37 u38 u39 u40 u41 u42 u43 u44 u45 u46 u47 u48 u49 u50 u51 u52 u53 u54 u55 u56 u57 u58 u59 u60 u61 u62 u63 u64 u65 u66 u67 u68 u69 u70 u71 u72 u73 u74 u75 u76 u77 u78 u79 u80 u81 u82 u83 u84 u85 u86 u87 u88 u89 u90 u91 u92 u93 u94 u95 u96 u97 u98 u99 u100 u101 u102 u103 u104 u105 u106 u107 u108 u109 u110 u111 u112 u113 u114 u115 u116 u117 u118 u119 u120 u121 u122 u123 u124 u125 u126 u127 u128 u129 u130 u131 u132 u133 u134 u135 u136 u137 u138 u139 u140 u141 u142 u143 u144 u145 u146 u147 u148 u149 u150 u151 u152 u153 u154 u155 u156 u157 u158 u159 u160 u161 u162 u163 u164 u165 u166 u167 u168 u169 u170 u171 u172 u173 u174 u175 u176 u177 u178 u179 u180 u181 u182 u183 u184 u185 u186 u187 u188 u189 u190 u191 u192 : Value) : Code.wp Try.prog innerTail (bodyPost Try.prog Try.f90 R) ⟨#[vF, vc, vp, u3, u4, u5, u6, .pointer (some ⟨bx, 0, none⟩), u8, u9, vts, u11, u12, u13, u14, u15, u16, u17, u18, u19, u20, u21, u22, u23, u24, u25, u26, u27, u28, u29, u30, u31, u32, u33, u34, u35, u36, u37, u38, u39, u40, u41, u42, u43, u44, u45, u46, u47, u48, u49, u50, u51, u52, u53, u54, u55, u56, u57, u58, u59, u60, u61, u62, u63, u64, u65, u66, u67, u68, u69, u70, u71, u72, u73, u74, u75, u76, u77, u78, u79, u80, u81, u82, u83, u84, u85, u86, u87, u88, u89, u90, u91, u92, u93, u94, u95, u96, u97, u98, u99, u100, u101, u102, u103, u104, u105, u106, u107, u108, u109, u110, u111, u112, u113, u114, u115, u116, u117, u118, u119, u120, u121, u122, u123, u124, u125, u126, u127, u128, u129, u130, u131, u132, u133, u134, u135, u136, u137, u138, u139, u140, u141, u142, u143, u144, u145, u146, u147, u148, u149, u150, u151, u152, u153, u154, u155, u156, u157, u158, u159, u160, u161, u162, u163, u164, u165, u166, u167, u168, u169, u170, u171, u172, u173, u174, u175, u176, u177, u178, u179, u180, u181, u182, u183, u184, u185, u186, u187, u188, u189, u190, u191, u192], []⟩ w := by
  by_cases hs : s.toList = [] ∨ o = 1
  case neg =>
    have h1 : ¬ s.toList = [] := fun h => hs (.inl h)
    have h2 : ¬ o = 1 := fun h => hs (.inr h)
    apply inner_text <;> assumption
  have hO : o = 22 ∨ (o = 0 ∨ o = 2 ∨ o = 3 ∨ o = 4 ∨ o = 5) ∨ o = 1 ∨ (o = 6 ∨ o = 7 ∨ o = 20) ∨ (o = 8 ∨ o = 9 ∨ o = 10 ∨ o = 11 ∨ o = 12 ∨ o = 17 ∨ o = 18 ∨ o = 19) ∨ (o = 13 ∨ o = 14 ∨ o = 15 ∨ o = 16) ∨ o = 21 ∨ (o < 0 ∨ 22 < o) := by omega
  have hs1 : o ≠ 1 → s.toList = [] := fun h => hs.resolve_right h
  rcases hO with ho | ho | ho | ho | ho | ho | ho | ho
  · have hs2 := hs1 (by omega)
    apply inner_call <;> assumption
  · have hs2 := hs1 (by omega)
    by_cases hl : ts.length = 0
    · by_cases hm0 : m = 0
      all_goals
        rcases ho with ho | ho | ho | ho | ho
        · apply inner_o0 <;> assumption
        · first | (apply inner_o2 <;> assumption) | (apply inner_o2n <;> assumption)
        · apply inner_o3 <;> assumption
        · apply inner_o4 <;> assumption
        · first | (apply inner_o5 <;> assumption) | (apply inner_o5n <;> assumption)
    · apply inner_mis0 <;> assumption
  · by_cases hl : ts.length = 0
    · have ht := trivial
      by_cases hm0 : m = 0
      · apply inner_o1 <;> assumption
      · apply inner_o1n <;> assumption
    · apply inner_mis0b <;> assumption
  · have hs2 := hs1 (by omega)
    by_cases hl : ts.length = 1
    · by_cases hm0 : m = 0
      · apply inner_op1 <;> assumption
      · apply inner_n1 <;> assumption
    · apply inner_mis1 <;> assumption
  · have hs2 := hs1 (by omega)
    by_cases hl : ts.length = 2
    · by_cases hm0 : m = 0
      · rcases Decidable.em (o = 17 ∨ o = 18) with hx | hx
        · apply inner_op2b <;> assumption
        · rcases Decidable.em (o = 19) with hy | hy
          · apply inner_op2c <;> assumption
          · have hz : o = 8 ∨ o = 9 ∨ o = 10 ∨ o = 11 ∨ o = 12 := by omega
            apply inner_op2a <;> assumption
      · apply inner_n2 <;> assumption
    · apply inner_mis2 <;> assumption
  · have hs2 := hs1 (by omega)
    by_cases hl : ts.length = 2
    · by_cases hm0 : m = 0
      · apply inner_op2d <;> assumption
      · apply inner_n2b <;> assumption
    · apply inner_mis2b <;> assumption
  · have hs2 := hs1 (by omega)
    by_cases hl : ts.length = 3
    · by_cases hm0 : m = 0
      · apply inner_op3 <;> assumption
      · apply inner_n3 <;> assumption
    · apply inner_mis3 <;> assumption
  · have hs2 := hs1 (by omega)
    apply inner_other <;> assumption

end Go.Proofs.Ytmhelkhmgbbfhaa
