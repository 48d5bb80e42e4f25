/- Walk: the end of (scope).of, a theorem for each kind of operation. -/
import Derived.Deep.Cut
import Derived.Test.YtnkimlkoijfcpaaGreatDoorGe1
import Derived.Test.YtnkimlkoijfcpaaGreatDoorGe2
import Derived.Test.YtnkimlkoijfcpaaGreatDoorGe3
set_option linter.unusedSimpArgs false
set_option linter.unusedVariables false
namespace Go.Proofs.YtnkimlkoijfcpaaGreatDoor
open Go.RowKit Go.Lib
noncomputable def ofTail : Code := restFrom 10 ((Tryz.f89.body).getD .skip)
theorem tail_oper2 {F : List Fn} {c p : List Int} {op n : Int} {s : ByteArray} {ts : List Int} (h : s.toList = [] ∨ op = 1) (h22 : ¬ op = 22) (hne : ts ≠ []) : tailT F c p op n s ts = operT op n ts := by
  unfold tailT; rw [if_neg (by rw [ne_eq, size_zero]; rintro ⟨a, b⟩; exact h.elim a b), if_neg h22, if_neg hne]
theorem callT_none {F : List Fn} {n : Int} {ts : List Int} (h : n < 0 ∨ (F.length : Int) ≤ n) : callT F n ts = none := by
  unfold callT
  by_cases h0 : n < 0
  · rw [if_pos h0]
  · rw [if_neg h0, List.getElem?_eq_none (by omega)]
def OfAt (F : List Fn) (c p : List Int) (o m : Int) (s : ByteArray) (l : List Ex) (A : Option Addr) (cap : Nat) (ts : List Int) (bs bx : Nat) (vF vc vp vts : Value) (w : World) : Prop :=
  w.cell? ⟨bs, 0, none⟩ = some vF ∧ w.cell? ⟨bs, 1, none⟩ = some vc ∧ w.cell? ⟨bs, 2, none⟩ = some vp ∧
  w.cell? ⟨bx, 0, none⟩ = some (.int .i64 o) ∧ w.cell? ⟨bx, 1, none⟩ = some (.int .i64 m) ∧ w.cell? ⟨bx, 2, none⟩ = some (.string s) ∧ w.cell? ⟨bx, 3, none⟩ = some (.slice A l.length cap) ∧
  Rd w Any (.sl (F.map Fn.d)) [vF] ∧ Rd w Any (.sl (c.map D.int)) [vc] ∧ Rd w Any (.sl (p.map D.int)) [vp] ∧ Rd w Any (.sl (ts.map D.int)) [vts] ∧
  Rd w Any (Ex.mk o m s l).d [.int .i64 o, .int .i64 m, .string s, .slice A l.length cap] ∧ l.length ≤ 1000000
set_option maxRecDepth 100000 in
set_option maxHeartbeats 1000000 in
theorem of_text (F : List Fn) (c p : List Int) (o m : Int) (s : ByteArray) (l : List Ex) (A : Option Addr) (cap : Nat) (ts : List Int) (bs bx : Nat) (vF vc vp vts : Value) (w : World) (h : OfAt F c p o m s l A cap ts bs bx vF vc vp vts w) (hs : ¬ s.toList = []) (ho : ¬ o = 1) (R : Ending → World → Prop) (hR : ∀ r w', qci (tailT F c p o m s ts) r → Ext w w' → R r w')
    (u4 u5 u7 u8 u9 u10 u11 u12 u13 u14 u15 u16 u17 u18 u19 u20 u21 u22 u23 u24 u25 u26 u27 u28 u29 u30 u31 u32 u33 u34 u35 u36 u37 u38 u39 u40 u41 u42 u43 u44 u45 u46 u47 u48 u49 u50 u51 u52 u53 u54 u55 u56 u57 u58 u59 u60 u61 u62 u63 u64 u65 u66 u67 u68 u69 u70 u71 u72 u73 u74 u75 u76 u77 u78 u79 u80 u81 u82 u83 u84 u85 u86 u87 u88 u89 : Value) : Code.wp Tryz.prog ofTail (bodyPost Tryz.prog Tryz.f89 R) ⟨#[.agg #[vF, vc, vp], .agg #[.int .i64 o, .int .i64 m, .string s, .slice A l.length cap], .pointer (some ⟨bs, 0, none⟩), .pointer (some ⟨bx, 0, none⟩), u4, u5, vts, u7, u8, u9, u10, u11, u12, u13, u14, u15, u16, u17, u18, u19, u20, u21, u22, u23, u24, u25, u26, u27, u28, u29, u30, u31, u32, u33, u34, u35, u36, u37, u38, u39, u40, u41, u42, u43, u44, u45, u46, u47, u48, u49, u50, u51, u52, u53, u54, u55, u56, u57, u58, u59, u60, u61, u62, u63, u64, u65, u66, u67, u68, u69, u70, u71, u72, u73, u74, u75, u76, u77, u78, u79, u80, u81, u82, u83, u84, u85, u86, u87, u88, u89], []⟩ w := by
  obtain ⟨s0, s1, s2, e0, e1, e2, e3, hF, hc, hp, hts, hr, hll⟩ := h
  obtain ⟨A9, cap9, b9, off9, rfl, z1, z2, -, -⟩ := Rd.sl_open hts
  obtain ⟨AF, capF, bF, offF, rfl, F1, F2, F3, F4⟩ := Rd.sl_open hF
  simp only [List.length_map] at *
  have hF' := Lib.hid hF; have hc' := Lib.hid hc; have hp' := Lib.hid hp; have hR' := Lib.hid hR; have hr' := Lib.hid hr
  have F3' := Lib.hid F3; have F4' := Lib.hid F4
  clear hF hc hp hR hr F3 F4
  have hts' := Lib.hid hts
  clear hts
  have hs5 : (!s.toList.isEmpty) = true := by cases h : s.toList with | nil => exact absurd h hs | cons x y => rfl
  have hs4 : (o != 1) = true := by simp [ho]
  conv => arg 2; whnf
  go_wp2_with fail
  try go_ret2
  exact hR'.out _ _ (by rw [tail_text hs ho]; exact qbf) (Ext.refl _)
set_option maxRecDepth 100000 in
set_option maxHeartbeats 1000000 in
theorem of_call_lo_nil (F : List Fn) (c p : List Int) (o m : Int) (s : ByteArray) (l : List Ex) (A : Option Addr) (cap : Nat) (ts : List Int) (bs bx : Nat) (vF vc vp vts : Value) (w : World) (h : OfAt F c p o m s l A cap ts bs bx vF vc vp vts w) (hs : s.toList = []) (ho : o = 22) (hn : m < 0) (hl : ts.length = 0) (R : Ending → World → Prop) (hR : ∀ r w', qci (tailT F c p o m s ts) r → Ext w w' → R r w')
    (u4 u5 u7 u8 u9 u10 u11 u12 u13 u14 u15 u16 u17 u18 u19 u20 u21 u22 u23 u24 u25 u26 u27 u28 u29 u30 u31 u32 u33 u34 u35 u36 u37 u38 u39 u40 u41 u42 u43 u44 u45 u46 u47 u48 u49 u50 u51 u52 u53 u54 u55 u56 u57 u58 u59 u60 u61 u62 u63 u64 u65 u66 u67 u68 u69 u70 u71 u72 u73 u74 u75 u76 u77 u78 u79 u80 u81 u82 u83 u84 u85 u86 u87 u88 u89 : Value) : Code.wp Tryz.prog ofTail (bodyPost Tryz.prog Tryz.f89 R) ⟨#[.agg #[vF, vc, vp], .agg #[.int .i64 o, .int .i64 m, .string s, .slice A l.length cap], .pointer (some ⟨bs, 0, none⟩), .pointer (some ⟨bx, 0, none⟩), u4, u5, vts, u7, u8, u9, u10, u11, u12, u13, u14, u15, u16, u17, u18, u19, u20, u21, u22, u23, u24, u25, u26, u27, u28, u29, u30, u31, u32, u33, u34, u35, u36, u37, u38, u39, u40, u41, u42, u43, u44, u45, u46, u47, u48, u49, u50, u51, u52, u53, u54, u55, u56, u57, u58, u59, u60, u61, u62, u63, u64, u65, u66, u67, u68, u69, u70, u71, u72, u73, u74, u75, u76, u77, u78, u79, u80, u81, u82, u83, u84, u85, u86, u87, u88, u89], []⟩ w := by
  obtain ⟨s0, s1, s2, e0, e1, e2, e3, hF, hc, hp, hts, hr, hll⟩ := h
  obtain ⟨A9, cap9, b9, off9, rfl, z1, z2, -, -⟩ := Rd.sl_open hts
  obtain ⟨AF, capF, bF, offF, rfl, F1, F2, F3, F4⟩ := Rd.sl_open hF
  simp only [List.length_map] at *
  have hF' := Lib.hid hF; have hc' := Lib.hid hc; have hp' := Lib.hid hp; have hR' := Lib.hid hR; have hr' := Lib.hid hr
  have F3' := Lib.hid F3; have F4' := Lib.hid F4
  clear hF hc hp hR hr F3 F4
  obtain rfl := List.eq_nil_of_length_eq_zero hl
  simp only [List.length_nil] at *
  have hts' := Lib.hid hts
  clear hts
  subst ho
  have H := Lib.hid ((qek (F := F) (c := c) (p := p) (n := m) (ts := []) hs).trans (callT_none (by omega)))
  conv => arg 2; whnf
  go_wp2_with fail
  try go_ret2
  exact hR'.out _ _ (by rw [H.out]; exact qbf) (Ext.refl _)
set_option maxRecDepth 100000 in
set_option maxHeartbeats 1000000 in
theorem of_call_hi_nil (F : List Fn) (c p : List Int) (o m : Int) (s : ByteArray) (l : List Ex) (A : Option Addr) (cap : Nat) (ts : List Int) (bs bx : Nat) (vF vc vp vts : Value) (w : World) (h : OfAt F c p o m s l A cap ts bs bx vF vc vp vts w) (hs : s.toList = []) (ho : o = 22) (hn : (F.length : Int) ≤ m) (hl : ts.length = 0) (R : Ending → World → Prop) (hR : ∀ r w', qci (tailT F c p o m s ts) r → Ext w w' → R r w')
    (u4 u5 u7 u8 u9 u10 u11 u12 u13 u14 u15 u16 u17 u18 u19 u20 u21 u22 u23 u24 u25 u26 u27 u28 u29 u30 u31 u32 u33 u34 u35 u36 u37 u38 u39 u40 u41 u42 u43 u44 u45 u46 u47 u48 u49 u50 u51 u52 u53 u54 u55 u56 u57 u58 u59 u60 u61 u62 u63 u64 u65 u66 u67 u68 u69 u70 u71 u72 u73 u74 u75 u76 u77 u78 u79 u80 u81 u82 u83 u84 u85 u86 u87 u88 u89 : Value) : Code.wp Tryz.prog ofTail (bodyPost Tryz.prog Tryz.f89 R) ⟨#[.agg #[vF, vc, vp], .agg #[.int .i64 o, .int .i64 m, .string s, .slice A l.length cap], .pointer (some ⟨bs, 0, none⟩), .pointer (some ⟨bx, 0, none⟩), u4, u5, vts, u7, u8, u9, u10, u11, u12, u13, u14, u15, u16, u17, u18, u19, u20, u21, u22, u23, u24, u25, u26, u27, u28, u29, u30, u31, u32, u33, u34, u35, u36, u37, u38, u39, u40, u41, u42, u43, u44, u45, u46, u47, u48, u49, u50, u51, u52, u53, u54, u55, u56, u57, u58, u59, u60, u61, u62, u63, u64, u65, u66, u67, u68, u69, u70, u71, u72, u73, u74, u75, u76, u77, u78, u79, u80, u81, u82, u83, u84, u85, u86, u87, u88, u89], []⟩ w := by
  obtain ⟨s0, s1, s2, e0, e1, e2, e3, hF, hc, hp, hts, hr, hll⟩ := h
  obtain ⟨A9, cap9, b9, off9, rfl, z1, z2, -, -⟩ := Rd.sl_open hts
  obtain ⟨AF, capF, bF, offF, rfl, F1, F2, F3, F4⟩ := Rd.sl_open hF
  simp only [List.length_map] at *
  have hF' := Lib.hid hF; have hc' := Lib.hid hc; have hp' := Lib.hid hp; have hR' := Lib.hid hR; have hr' := Lib.hid hr
  have F3' := Lib.hid F3; have F4' := Lib.hid F4
  clear hF hc hp hR hr F3 F4
  obtain rfl := List.eq_nil_of_length_eq_zero hl
  simp only [List.length_nil] at *
  have hts' := Lib.hid hts
  clear hts
  subst ho
  have h0 : ¬ m < 0 := by omega
  have H := Lib.hid ((qek (F := F) (c := c) (p := p) (n := m) (ts := []) hs).trans (callT_none (by omega)))
  conv => arg 2; whnf
  go_wp2_with fail
  try go_ret2
  exact hR'.out _ _ (by rw [H.out]; exact qbf) (Ext.refl _)
set_option maxRecDepth 100000 in
set_option maxHeartbeats 1000000 in
theorem of_call_in_nil (F : List Fn) (c p : List Int) (o m : Int) (s : ByteArray) (l : List Ex) (A : Option Addr) (cap : Nat) (ts : List Int) (bs bx : Nat) (vF vc vp vts : Value) (w : World) (h : OfAt F c p o m s l A cap ts bs bx vF vc vp vts w) (hs : s.toList = []) (ho : o = 22) (hn : 0 ≤ m) (hn9 : m < F.length) (hl : ts.length = 0) (R : Ending → World → Prop) (hR : ∀ r w', qci (tailT F c p o m s ts) r → Ext w w' → R r w')
    (u4 u5 u7 u8 u9 u10 u11 u12 u13 u14 u15 u16 u17 u18 u19 u20 u21 u22 u23 u24 u25 u26 u27 u28 u29 u30 u31 u32 u33 u34 u35 u36 u37 u38 u39 u40 u41 u42 u43 u44 u45 u46 u47 u48 u49 u50 u51 u52 u53 u54 u55 u56 u57 u58 u59 u60 u61 u62 u63 u64 u65 u66 u67 u68 u69 u70 u71 u72 u73 u74 u75 u76 u77 u78 u79 u80 u81 u82 u83 u84 u85 u86 u87 u88 u89 : Value) : Code.wp Tryz.prog ofTail (bodyPost Tryz.prog Tryz.f89 R) ⟨#[.agg #[vF, vc, vp], .agg #[.int .i64 o, .int .i64 m, .string s, .slice A l.length cap], .pointer (some ⟨bs, 0, none⟩), .pointer (some ⟨bx, 0, none⟩), u4, u5, vts, u7, u8, u9, u10, u11, u12, u13, u14, u15, u16, u17, u18, u19, u20, u21, u22, u23, u24, u25, u26, u27, u28, u29, u30, u31, u32, u33, u34, u35, u36, u37, u38, u39, u40, u41, u42, u43, u44, u45, u46, u47, u48, u49, u50, u51, u52, u53, u54, u55, u56, u57, u58, u59, u60, u61, u62, u63, u64, u65, u66, u67, u68, u69, u70, u71, u72, u73, u74, u75, u76, u77, u78, u79, u80, u81, u82, u83, u84, u85, u86, u87, u88, u89], []⟩ w := by
  obtain ⟨s0, s1, s2, e0, e1, e2, e3, hF, hc, hp, hts, hr, hll⟩ := h
  obtain ⟨A9, cap9, b9, off9, rfl, z1, z2, -, -⟩ := Rd.sl_open hts
  obtain ⟨AF, capF, bF, offF, rfl, F1, F2, F3, F4⟩ := Rd.sl_open hF
  simp only [List.length_map] at *
  have hF' := Lib.hid hF; have hc' := Lib.hid hc; have hp' := Lib.hid hp; have hR' := Lib.hid hR; have hr' := Lib.hid hr
  have F3' := Lib.hid F3; have F4' := Lib.hid F4
  clear hF hc hp hR hr F3 F4
  obtain rfl := List.eq_nil_of_length_eq_zero hl
  simp only [List.length_nil] at *
  have hts' := Lib.hid hts
  clear hts
  subst ho
  obtain ⟨k, rfl⟩ := Int.eq_ofNat_of_zero_le hn
  have hlt : k < F.length := by omega
  obtain ⟨rfl, hSF⟩ := F3'.out (by omega)
  obtain ⟨A1, cap1, b1, off1, A2, cap2, b2, off2, c0, c1, c2, c3, c4, c5, c6, hr9, q1, q2, q3, q4, -⟩ := Fn.at F4'.out hlt
  have hpar := Lib.hid (Rd.sl_mk (w := w) (S := Any) (n := F[k].params.length) (l := F[k].params.map D.int) (by simp) (by simpa using q1) q2 (by simpa using q3) q4)
  have H := Lib.hid ((qek (F := F) (c := c) (p := p) (n := (k : Int)) (ts := []) hs).trans (show callT F (k : Int) [] = if F[k].params = [] then some F[k].res else none by simp [callT, List.getElem?_eq_getElem hlt, show ¬ ((k : Int) < 0) by omega]))
  have hn1 : ¬ F.length ≤ k := by omega
  have hn2 : ¬ (k : Int) < 0 := by omega
  have hSF2 := Lib.hid hSF
  clear hr9 q3 q4 hn hSF
  have hcall := equal_any F[k].params [] Any Any _ _ w hpar.out hts'.out
  by_cases heq : F[k].params = []
  · rw [decide_eq_true heq] at hcall
    have hcall' := Lib.hid hcall
    have heq' := Lib.hid heq
    clear hcall heq
    conv => arg 2; whnf
    go_wp2_with fail
    refine (hcall'.out).mono ?_
    rintro r w1 ⟨rfl, he⟩
    have e0 := he.at e0
    have e1 := he.at e1
    have s0 := he.at s0
    have c1 := he.at c1
    have c2 := he.at c2
    go_wp2_with fail
    try go_ret2
    exact hR'.out _ _ (by rw [H.out, if_pos heq'.out]; exact answer_some) he
  · rw [decide_eq_false heq] at hcall
    have hcall' := Lib.hid hcall
    have heq' := Lib.hid heq
    clear hcall heq
    conv => arg 2; whnf
    go_wp2_with fail
    refine (hcall'.out).mono ?_
    rintro r w1 ⟨rfl, he⟩
    have e0 := he.at e0
    have e1 := he.at e1
    have s0 := he.at s0
    go_wp2_with fail
    try go_ret2
    exact hR'.out _ _ (by rw [H.out, if_neg heq'.out]; exact qbf) he
set_option maxRecDepth 100000 in
set_option maxHeartbeats 1000000 in
theorem of_call_lo_cons (F : List Fn) (c p : List Int) (o m : Int) (s : ByteArray) (l : List Ex) (A : Option Addr) (cap : Nat) (ts : List Int) (bs bx : Nat) (vF vc vp vts : Value) (w : World) (h : OfAt F c p o m s l A cap ts bs bx vF vc vp vts w) (hs : s.toList = []) (ho : o = 22) (hn : m < 0) (hl : ts ≠ []) (R : Ending → World → Prop) (hR : ∀ r w', qci (tailT F c p o m s ts) r → Ext w w' → R r w')
    (u4 u5 u7 u8 u9 u10 u11 u12 u13 u14 u15 u16 u17 u18 u19 u20 u21 u22 u23 u24 u25 u26 u27 u28 u29 u30 u31 u32 u33 u34 u35 u36 u37 u38 u39 u40 u41 u42 u43 u44 u45 u46 u47 u48 u49 u50 u51 u52 u53 u54 u55 u56 u57 u58 u59 u60 u61 u62 u63 u64 u65 u66 u67 u68 u69 u70 u71 u72 u73 u74 u75 u76 u77 u78 u79 u80 u81 u82 u83 u84 u85 u86 u87 u88 u89 : Value) : Code.wp Tryz.prog ofTail (bodyPost Tryz.prog Tryz.f89 R) ⟨#[.agg #[vF, vc, vp], .agg #[.int .i64 o, .int .i64 m, .string s, .slice A l.length cap], .pointer (some ⟨bs, 0, none⟩), .pointer (some ⟨bx, 0, none⟩), u4, u5, vts, u7, u8, u9, u10, u11, u12, u13, u14, u15, u16, u17, u18, u19, u20, u21, u22, u23, u24, u25, u26, u27, u28, u29, u30, u31, u32, u33, u34, u35, u36, u37, u38, u39, u40, u41, u42, u43, u44, u45, u46, u47, u48, u49, u50, u51, u52, u53, u54, u55, u56, u57, u58, u59, u60, u61, u62, u63, u64, u65, u66, u67, u68, u69, u70, u71, u72, u73, u74, u75, u76, u77, u78, u79, u80, u81, u82, u83, u84, u85, u86, u87, u88, u89], []⟩ w := by
  obtain ⟨s0, s1, s2, e0, e1, e2, e3, hF, hc, hp, hts, hr, hll⟩ := h
  obtain ⟨A9, cap9, b9, off9, rfl, z1, z2, -, -⟩ := Rd.sl_open hts
  obtain ⟨AF, capF, bF, offF, rfl, F1, F2, F3, F4⟩ := Rd.sl_open hF
  simp only [List.length_map] at *
  have hF' := Lib.hid hF; have hc' := Lib.hid hc; have hp' := Lib.hid hp; have hR' := Lib.hid hR; have hr' := Lib.hid hr
  have F3' := Lib.hid F3; have F4' := Lib.hid F4
  clear hF hc hp hR hr F3 F4
  obtain ⟨t0, tr, rfl⟩ : ∃ t0 tr, ts = t0 :: tr := by cases ts with | nil => exact absurd rfl hl | cons a b => exact ⟨a, b, rfl⟩
  simp only [List.length_cons] at *
  have hts' := Lib.hid hts
  clear hts
  subst ho
  have H := Lib.hid ((qek (F := F) (c := c) (p := p) (n := m) (ts := t0 :: tr) hs).trans (callT_none (by omega)))
  conv => arg 2; whnf
  go_wp2_with fail
  try go_ret2
  exact hR'.out _ _ (by rw [H.out]; exact qbf) (Ext.refl _)
set_option maxRecDepth 100000 in
set_option maxHeartbeats 1000000 in
theorem of_call_hi_cons (F : List Fn) (c p : List Int) (o m : Int) (s : ByteArray) (l : List Ex) (A : Option Addr) (cap : Nat) (ts : List Int) (bs bx : Nat) (vF vc vp vts : Value) (w : World) (h : OfAt F c p o m s l A cap ts bs bx vF vc vp vts w) (hs : s.toList = []) (ho : o = 22) (hn : (F.length : Int) ≤ m) (hl : ts ≠ []) (R : Ending → World → Prop) (hR : ∀ r w', qci (tailT F c p o m s ts) r → Ext w w' → R r w')
    (u4 u5 u7 u8 u9 u10 u11 u12 u13 u14 u15 u16 u17 u18 u19 u20 u21 u22 u23 u24 u25 u26 u27 u28 u29 u30 u31 u32 u33 u34 u35 u36 u37 u38 u39 u40 u41 u42 u43 u44 u45 u46 u47 u48 u49 u50 u51 u52 u53 u54 u55 u56 u57 u58 u59 u60 u61 u62 u63 u64 u65 u66 u67 u68 u69 u70 u71 u72 u73 u74 u75 u76 u77 u78 u79 u80 u81 u82 u83 u84 u85 u86 u87 u88 u89 : Value) : Code.wp Tryz.prog ofTail (bodyPost Tryz.prog Tryz.f89 R) ⟨#[.agg #[vF, vc, vp], .agg #[.int .i64 o, .int .i64 m, .string s, .slice A l.length cap], .pointer (some ⟨bs, 0, none⟩), .pointer (some ⟨bx, 0, none⟩), u4, u5, vts, u7, u8, u9, u10, u11, u12, u13, u14, u15, u16, u17, u18, u19, u20, u21, u22, u23, u24, u25, u26, u27, u28, u29, u30, u31, u32, u33, u34, u35, u36, u37, u38, u39, u40, u41, u42, u43, u44, u45, u46, u47, u48, u49, u50, u51, u52, u53, u54, u55, u56, u57, u58, u59, u60, u61, u62, u63, u64, u65, u66, u67, u68, u69, u70, u71, u72, u73, u74, u75, u76, u77, u78, u79, u80, u81, u82, u83, u84, u85, u86, u87, u88, u89], []⟩ w := by
  obtain ⟨s0, s1, s2, e0, e1, e2, e3, hF, hc, hp, hts, hr, hll⟩ := h
  obtain ⟨A9, cap9, b9, off9, rfl, z1, z2, -, -⟩ := Rd.sl_open hts
  obtain ⟨AF, capF, bF, offF, rfl, F1, F2, F3, F4⟩ := Rd.sl_open hF
  simp only [List.length_map] at *
  have hF' := Lib.hid hF; have hc' := Lib.hid hc; have hp' := Lib.hid hp; have hR' := Lib.hid hR; have hr' := Lib.hid hr
  have F3' := Lib.hid F3; have F4' := Lib.hid F4
  clear hF hc hp hR hr F3 F4
  obtain ⟨t0, tr, rfl⟩ : ∃ t0 tr, ts = t0 :: tr := by cases ts with | nil => exact absurd rfl hl | cons a b => exact ⟨a, b, rfl⟩
  simp only [List.length_cons] at *
  have hts' := Lib.hid hts
  clear hts
  subst ho
  have h0 : ¬ m < 0 := by omega
  have H := Lib.hid ((qek (F := F) (c := c) (p := p) (n := m) (ts := t0 :: tr) hs).trans (callT_none (by omega)))
  conv => arg 2; whnf
  go_wp2_with fail
  try go_ret2
  exact hR'.out _ _ (by rw [H.out]; exact qbf) (Ext.refl _)
set_option maxRecDepth 100000 in
set_option maxHeartbeats 1000000 in
theorem of_call_in_cons (F : List Fn) (c p : List Int) (o m : Int) (s : ByteArray) (l : List Ex) (A : Option Addr) (cap : Nat) (ts : List Int) (bs bx : Nat) (vF vc vp vts : Value) (w : World) (h : OfAt F c p o m s l A cap ts bs bx vF vc vp vts w) (hs : s.toList = []) (ho : o = 22) (hn : 0 ≤ m) (hn9 : m < F.length) (hl : ts ≠ []) (R : Ending → World → Prop) (hR : ∀ r w', qci (tailT F c p o m s ts) r → Ext w w' → R r w')
    (u4 u5 u7 u8 u9 u10 u11 u12 u13 u14 u15 u16 u17 u18 u19 u20 u21 u22 u23 u24 u25 u26 u27 u28 u29 u30 u31 u32 u33 u34 u35 u36 u37 u38 u39 u40 u41 u42 u43 u44 u45 u46 u47 u48 u49 u50 u51 u52 u53 u54 u55 u56 u57 u58 u59 u60 u61 u62 u63 u64 u65 u66 u67 u68 u69 u70 u71 u72 u73 u74 u75 u76 u77 u78 u79 u80 u81 u82 u83 u84 u85 u86 u87 u88 u89 : Value) : Code.wp Tryz.prog ofTail (bodyPost Tryz.prog Tryz.f89 R) ⟨#[.agg #[vF, vc, vp], .agg #[.int .i64 o, .int .i64 m, .string s, .slice A l.length cap], .pointer (some ⟨bs, 0, none⟩), .pointer (some ⟨bx, 0, none⟩), u4, u5, vts, u7, u8, u9, u10, u11, u12, u13, u14, u15, u16, u17, u18, u19, u20, u21, u22, u23, u24, u25, u26, u27, u28, u29, u30, u31, u32, u33, u34, u35, u36, u37, u38, u39, u40, u41, u42, u43, u44, u45, u46, u47, u48, u49, u50, u51, u52, u53, u54, u55, u56, u57, u58, u59, u60, u61, u62, u63, u64, u65, u66, u67, u68, u69, u70, u71, u72, u73, u74, u75, u76, u77, u78, u79, u80, u81, u82, u83, u84, u85, u86, u87, u88, u89], []⟩ w := by
  obtain ⟨s0, s1, s2, e0, e1, e2, e3, hF, hc, hp, hts, hr, hll⟩ := h
  obtain ⟨A9, cap9, b9, off9, rfl, z1, z2, -, -⟩ := Rd.sl_open hts
  obtain ⟨AF, capF, bF, offF, rfl, F1, F2, F3, F4⟩ := Rd.sl_open hF
  simp only [List.length_map] at *
  have hF' := Lib.hid hF; have hc' := Lib.hid hc; have hp' := Lib.hid hp; have hR' := Lib.hid hR; have hr' := Lib.hid hr
  have F3' := Lib.hid F3; have F4' := Lib.hid F4
  clear hF hc hp hR hr F3 F4
  obtain ⟨t0, tr, rfl⟩ : ∃ t0 tr, ts = t0 :: tr := by cases ts with | nil => exact absurd rfl hl | cons a b => exact ⟨a, b, rfl⟩
  simp only [List.length_cons] at *
  have hts' := Lib.hid hts
  clear hts
  subst ho
  obtain ⟨k, rfl⟩ := Int.eq_ofNat_of_zero_le hn
  have hlt : k < F.length := by omega
  obtain ⟨rfl, hSF⟩ := F3'.out (by omega)
  obtain ⟨A1, cap1, b1, off1, A2, cap2, b2, off2, c0, c1, c2, c3, c4, c5, c6, hr9, q1, q2, q3, q4, -⟩ := Fn.at F4'.out hlt
  have hpar := Lib.hid (Rd.sl_mk (w := w) (S := Any) (n := F[k].params.length) (l := F[k].params.map D.int) (by simp) (by simpa using q1) q2 (by simpa using q3) q4)
  have H := Lib.hid ((qek (F := F) (c := c) (p := p) (n := (k : Int)) (ts := (t0 :: tr)) hs).trans (show callT F (k : Int) (t0 :: tr) = if F[k].params = (t0 :: tr) then some F[k].res else none by simp [callT, List.getElem?_eq_getElem hlt, show ¬ ((k : Int) < 0) by omega]))
  have hn1 : ¬ F.length ≤ k := by omega
  have hn2 : ¬ (k : Int) < 0 := by omega
  have hSF2 := Lib.hid hSF
  clear hr9 q3 q4 hn hSF
  have hcall := equal_any F[k].params (t0 :: tr) Any Any _ _ w hpar.out hts'.out
  by_cases heq : F[k].params = (t0 :: tr)
  · rw [decide_eq_true heq] at hcall
    have hcall' := Lib.hid hcall
    have heq' := Lib.hid heq
    clear hcall heq
    conv => arg 2; whnf
    go_wp2_with fail
    refine (hcall'.out).mono ?_
    rintro r w1 ⟨rfl, he⟩
    have e0 := he.at e0
    have e1 := he.at e1
    have s0 := he.at s0
    have c1 := he.at c1
    have c2 := he.at c2
    go_wp2_with fail
    try go_ret2
    exact hR'.out _ _ (by rw [H.out, if_pos heq'.out]; exact answer_some) he
  · rw [decide_eq_false heq] at hcall
    have hcall' := Lib.hid hcall
    have heq' := Lib.hid heq
    clear hcall heq
    conv => arg 2; whnf
    go_wp2_with fail
    refine (hcall'.out).mono ?_
    rintro r w1 ⟨rfl, he⟩
    have e0 := he.at e0
    have e1 := he.at e1
    have s0 := he.at s0
    go_wp2_with fail
    try go_ret2
    exact hR'.out _ _ (by rw [H.out, if_neg heq'.out]; exact qbf) he
set_option maxRecDepth 100000 in
set_option maxHeartbeats 1000000 in
theorem of_leafa (F : List Fn) (c p : List Int) (o m : Int) (s : ByteArray) (l : List Ex) (A : Option Addr) (cap : Nat) (ts : List Int) (bs bx : Nat) (vF vc vp vts : Value) (w : World) (h : OfAt F c p o m s l A cap ts bs bx vF vc vp vts w) (hs : s.toList = []) (h22 : ¬ o = 22) (hl : ts.length = 0) (R : Ending → World → Prop) (hR : ∀ r w', qci (tailT F c p o m s ts) r → Ext w w' → R r w')
    (u4 u5 u7 u8 u9 u10 u11 u12 u13 u14 u15 u16 u17 u18 u19 u20 u21 u22 u23 u24 u25 u26 u27 u28 u29 u30 u31 u32 u33 u34 u35 u36 u37 u38 u39 u40 u41 u42 u43 u44 u45 u46 u47 u48 u49 u50 u51 u52 u53 u54 u55 u56 u57 u58 u59 u60 u61 u62 u63 u64 u65 u66 u67 u68 u69 u70 u71 u72 u73 u74 u75 u76 u77 u78 u79 u80 u81 u82 u83 u84 u85 u86 u87 u88 u89 : Value) : Code.wp Tryz.prog ofTail (bodyPost Tryz.prog Tryz.f89 R) ⟨#[.agg #[vF, vc, vp], .agg #[.int .i64 o, .int .i64 m, .string s, .slice A l.length cap], .pointer (some ⟨bs, 0, none⟩), .pointer (some ⟨bx, 0, none⟩), u4, u5, vts, u7, u8, u9, u10, u11, u12, u13, u14, u15, u16, u17, u18, u19, u20, u21, u22, u23, u24, u25, u26, u27, u28, u29, u30, u31, u32, u33, u34, u35, u36, u37, u38, u39, u40, u41, u42, u43, u44, u45, u46, u47, u48, u49, u50, u51, u52, u53, u54, u55, u56, u57, u58, u59, u60, u61, u62, u63, u64, u65, u66, u67, u68, u69, u70, u71, u72, u73, u74, u75, u76, u77, u78, u79, u80, u81, u82, u83, u84, u85, u86, u87, u88, u89], []⟩ w := by
  obtain ⟨s0, s1, s2, e0, e1, e2, e3, hF, hc, hp, hts, hr, hll⟩ := h
  obtain ⟨A9, cap9, b9, off9, rfl, z1, z2, -, -⟩ := Rd.sl_open hts
  obtain ⟨AF, capF, bF, offF, rfl, F1, F2, F3, F4⟩ := Rd.sl_open hF
  simp only [List.length_map] at *
  have hF' := Lib.hid hF; have hc' := Lib.hid hc; have hp' := Lib.hid hp; have hR' := Lib.hid hR; have hr' := Lib.hid hr
  have F3' := Lib.hid F3; have F4' := Lib.hid F4
  clear hF hc hp hR hr F3 F4
  obtain rfl := List.eq_nil_of_length_eq_zero hl
  simp only [List.length_nil] at *
  have hts' := Lib.hid hts
  clear hts
  have h22b : (o == 22) = false := by simp [h22]
  have h22c : (o != 22) = true := by simp [h22]
  have H := Lib.hid (tail_leaf (F := F) (c := c) (p := p) (n := m) (s := s) (.inl hs) h22)
  conv => arg 2; whnf
  go_wp2_with fail
  refine (leaf_any c p (.mk o m s l) Any Any Any _ vc vp _ w hc'.out hp'.out hr'.out).mono ?_
  rintro r w1 ⟨⟨t, ok, rfl, hA⟩, he⟩
  have hA' := Lib.hid hA; clear hA
  go_wp2_with fail
  try go_ret2
  exact hR'.out _ _ (qbl (by rw [hA'.out, H.out]; rfl)) he
set_option maxRecDepth 100000 in
set_option maxHeartbeats 1000000 in
theorem of_leafb (F : List Fn) (c p : List Int) (o m : Int) (s : ByteArray) (l : List Ex) (A : Option Addr) (cap : Nat) (ts : List Int) (bs bx : Nat) (vF vc vp vts : Value) (w : World) (h : OfAt F c p o m s l A cap ts bs bx vF vc vp vts w) (hs : ¬ s.toList = []) (h22 : ¬ o = 22) (ho : o = 1) (hl : ts.length = 0) (R : Ending → World → Prop) (hR : ∀ r w', qci (tailT F c p o m s ts) r → Ext w w' → R r w')
    (u4 u5 u7 u8 u9 u10 u11 u12 u13 u14 u15 u16 u17 u18 u19 u20 u21 u22 u23 u24 u25 u26 u27 u28 u29 u30 u31 u32 u33 u34 u35 u36 u37 u38 u39 u40 u41 u42 u43 u44 u45 u46 u47 u48 u49 u50 u51 u52 u53 u54 u55 u56 u57 u58 u59 u60 u61 u62 u63 u64 u65 u66 u67 u68 u69 u70 u71 u72 u73 u74 u75 u76 u77 u78 u79 u80 u81 u82 u83 u84 u85 u86 u87 u88 u89 : Value) : Code.wp Tryz.prog ofTail (bodyPost Tryz.prog Tryz.f89 R) ⟨#[.agg #[vF, vc, vp], .agg #[.int .i64 o, .int .i64 m, .string s, .slice A l.length cap], .pointer (some ⟨bs, 0, none⟩), .pointer (some ⟨bx, 0, none⟩), u4, u5, vts, u7, u8, u9, u10, u11, u12, u13, u14, u15, u16, u17, u18, u19, u20, u21, u22, u23, u24, u25, u26, u27, u28, u29, u30, u31, u32, u33, u34, u35, u36, u37, u38, u39, u40, u41, u42, u43, u44, u45, u46, u47, u48, u49, u50, u51, u52, u53, u54, u55, u56, u57, u58, u59, u60, u61, u62, u63, u64, u65, u66, u67, u68, u69, u70, u71, u72, u73, u74, u75, u76, u77, u78, u79, u80, u81, u82, u83, u84, u85, u86, u87, u88, u89], []⟩ w := by
  obtain ⟨s0, s1, s2, e0, e1, e2, e3, hF, hc, hp, hts, hr, hll⟩ := h
  obtain ⟨A9, cap9, b9, off9, rfl, z1, z2, -, -⟩ := Rd.sl_open hts
  obtain ⟨AF, capF, bF, offF, rfl, F1, F2, F3, F4⟩ := Rd.sl_open hF
  simp only [List.length_map] at *
  have hF' := Lib.hid hF; have hc' := Lib.hid hc; have hp' := Lib.hid hp; have hR' := Lib.hid hR; have hr' := Lib.hid hr
  have F3' := Lib.hid F3; have F4' := Lib.hid F4
  clear hF hc hp hR hr F3 F4
  obtain rfl := List.eq_nil_of_length_eq_zero hl
  simp only [List.length_nil] at *
  have hts' := Lib.hid hts
  clear hts
  have h22b : (o == 22) = false := by simp [h22]
  have h22c : (o != 22) = true := by simp [h22]
  subst ho
  have H := Lib.hid (tail_leaf (F := F) (c := c) (p := p) (n := m) (s := s) (.inr rfl) h22)
  conv => arg 2; whnf
  go_wp2_with fail
  refine (leaf_any c p (.mk 1 m s l) Any Any Any _ vc vp _ w hc'.out hp'.out hr'.out).mono ?_
  rintro r w1 ⟨⟨t, ok, rfl, hA⟩, he⟩
  have hA' := Lib.hid hA; clear hA
  go_wp2_with fail
  try go_ret2
  exact hR'.out _ _ (qbl (by rw [hA'.out, H.out]; rfl)) he
set_option maxRecDepth 100000 in
set_option maxHeartbeats 1000000 in
theorem of_opera (F : List Fn) (c p : List Int) (o m : Int) (s : ByteArray) (l : List Ex) (A : Option Addr) (cap : Nat) (ts : List Int) (bs bx : Nat) (vF vc vp vts : Value) (w : World) (h : OfAt F c p o m s l A cap ts bs bx vF vc vp vts w) (hs : s.toList = []) (h22 : ¬ o = 22) (hl : ts ≠ []) (R : Ending → World → Prop) (hR : ∀ r w', qci (tailT F c p o m s ts) r → Ext w w' → R r w')
    (u4 u5 u7 u8 u9 u10 u11 u12 u13 u14 u15 u16 u17 u18 u19 u20 u21 u22 u23 u24 u25 u26 u27 u28 u29 u30 u31 u32 u33 u34 u35 u36 u37 u38 u39 u40 u41 u42 u43 u44 u45 u46 u47 u48 u49 u50 u51 u52 u53 u54 u55 u56 u57 u58 u59 u60 u61 u62 u63 u64 u65 u66 u67 u68 u69 u70 u71 u72 u73 u74 u75 u76 u77 u78 u79 u80 u81 u82 u83 u84 u85 u86 u87 u88 u89 : Value) : Code.wp Tryz.prog ofTail (bodyPost Tryz.prog Tryz.f89 R) ⟨#[.agg #[vF, vc, vp], .agg #[.int .i64 o, .int .i64 m, .string s, .slice A l.length cap], .pointer (some ⟨bs, 0, none⟩), .pointer (some ⟨bx, 0, none⟩), u4, u5, vts, u7, u8, u9, u10, u11, u12, u13, u14, u15, u16, u17, u18, u19, u20, u21, u22, u23, u24, u25, u26, u27, u28, u29, u30, u31, u32, u33, u34, u35, u36, u37, u38, u39, u40, u41, u42, u43, u44, u45, u46, u47, u48, u49, u50, u51, u52, u53, u54, u55, u56, u57, u58, u59, u60, u61, u62, u63, u64, u65, u66, u67, u68, u69, u70, u71, u72, u73, u74, u75, u76, u77, u78, u79, u80, u81, u82, u83, u84, u85, u86, u87, u88, u89], []⟩ w := by
  obtain ⟨s0, s1, s2, e0, e1, e2, e3, hF, hc, hp, hts, hr, hll⟩ := h
  obtain ⟨A9, cap9, b9, off9, rfl, z1, z2, -, -⟩ := Rd.sl_open hts
  obtain ⟨AF, capF, bF, offF, rfl, F1, F2, F3, F4⟩ := Rd.sl_open hF
  simp only [List.length_map] at *
  have hF' := Lib.hid hF; have hc' := Lib.hid hc; have hp' := Lib.hid hp; have hR' := Lib.hid hR; have hr' := Lib.hid hr
  have F3' := Lib.hid F3; have F4' := Lib.hid F4
  clear hF hc hp hR hr F3 F4
  obtain ⟨t0, tr, rfl⟩ : ∃ t0 tr, ts = t0 :: tr := by cases ts with | nil => exact absurd rfl hl | cons a b => exact ⟨a, b, rfl⟩
  simp only [List.length_cons] at *
  have hts' := Lib.hid hts
  clear hts
  have h22b : (o == 22) = false := by simp [h22]
  have h22c : (o != 22) = true := by simp [h22]
  have H := Lib.hid (tail_oper2 (F := F) (c := c) (p := p) (n := m) (s := s) (ts := t0 :: tr) (.inl hs) h22 (by simp))
  conv => arg 2; whnf
  go_wp2_with fail
  refine (operation_any (.mk o m s l) (t0 :: tr) Any Any _ _ w hr'.out hts'.out (by simp)).mono ?_
  rintro r w1 ⟨⟨t, ok, rfl, hA⟩, he⟩
  have hA' := Lib.hid hA; clear hA
  go_wp2_with fail
  try go_ret2
  exact hR'.out _ _ (qbl (by rw [hA'.out, H.out]; rfl)) he
set_option maxRecDepth 100000 in
set_option maxHeartbeats 1000000 in
theorem of_operb (F : List Fn) (c p : List Int) (o m : Int) (s : ByteArray) (l : List Ex) (A : Option Addr) (cap : Nat) (ts : List Int) (bs bx : Nat) (vF vc vp vts : Value) (w : World) (h : OfAt F c p o m s l A cap ts bs bx vF vc vp vts w) (hs : ¬ s.toList = []) (h22 : ¬ o = 22) (ho : o = 1) (hl : ts ≠ []) (R : Ending → World → Prop) (hR : ∀ r w', qci (tailT F c p o m s ts) r → Ext w w' → R r w')
    (u4 u5 u7 u8 u9 u10 u11 u12 u13 u14 u15 u16 u17 u18 u19 u20 u21 u22 u23 u24 u25 u26 u27 u28 u29 u30 u31 u32 u33 u34 u35 u36 u37 u38 u39 u40 u41 u42 u43 u44 u45 u46 u47 u48 u49 u50 u51 u52 u53 u54 u55 u56 u57 u58 u59 u60 u61 u62 u63 u64 u65 u66 u67 u68 u69 u70 u71 u72 u73 u74 u75 u76 u77 u78 u79 u80 u81 u82 u83 u84 u85 u86 u87 u88 u89 : Value) : Code.wp Tryz.prog ofTail (bodyPost Tryz.prog Tryz.f89 R) ⟨#[.agg #[vF, vc, vp], .agg #[.int .i64 o, .int .i64 m, .string s, .slice A l.length cap], .pointer (some ⟨bs, 0, none⟩), .pointer (some ⟨bx, 0, none⟩), u4, u5, vts, u7, u8, u9, u10, u11, u12, u13, u14, u15, u16, u17, u18, u19, u20, u21, u22, u23, u24, u25, u26, u27, u28, u29, u30, u31, u32, u33, u34, u35, u36, u37, u38, u39, u40, u41, u42, u43, u44, u45, u46, u47, u48, u49, u50, u51, u52, u53, u54, u55, u56, u57, u58, u59, u60, u61, u62, u63, u64, u65, u66, u67, u68, u69, u70, u71, u72, u73, u74, u75, u76, u77, u78, u79, u80, u81, u82, u83, u84, u85, u86, u87, u88, u89], []⟩ w := by
  obtain ⟨s0, s1, s2, e0, e1, e2, e3, hF, hc, hp, hts, hr, hll⟩ := h
  obtain ⟨A9, cap9, b9, off9, rfl, z1, z2, -, -⟩ := Rd.sl_open hts
  obtain ⟨AF, capF, bF, offF, rfl, F1, F2, F3, F4⟩ := Rd.sl_open hF
  simp only [List.length_map] at *
  have hF' := Lib.hid hF; have hc' := Lib.hid hc; have hp' := Lib.hid hp; have hR' := Lib.hid hR; have hr' := Lib.hid hr
  have F3' := Lib.hid F3; have F4' := Lib.hid F4
  clear hF hc hp hR hr F3 F4
  obtain ⟨t0, tr, rfl⟩ : ∃ t0 tr, ts = t0 :: tr := by cases ts with | nil => exact absurd rfl hl | cons a b => exact ⟨a, b, rfl⟩
  simp only [List.length_cons] at *
  have hts' := Lib.hid hts
  clear hts
  have h22b : (o == 22) = false := by simp [h22]
  have h22c : (o != 22) = true := by simp [h22]
  subst ho
  have H := Lib.hid (tail_oper2 (F := F) (c := c) (p := p) (n := m) (s := s) (ts := t0 :: tr) (.inr rfl) h22 (by simp))
  conv => arg 2; whnf
  go_wp2_with fail
  refine (operation_any (.mk 1 m s l) (t0 :: tr) Any Any _ _ w hr'.out hts'.out (by simp)).mono ?_
  rintro r w1 ⟨⟨t, ok, rfl, hA⟩, he⟩
  have hA' := Lib.hid hA; clear hA
  go_wp2_with fail
  try go_ret2
  exact hR'.out _ _ (qbl (by rw [hA'.out, H.out]; rfl)) he
set_option maxHeartbeats 1000000 in
theorem of_tail (F : List Fn) (c p : List Int) (o m : Int) (s : ByteArray) (l : List Ex) (A : Option Addr) (cap : Nat) (ts : List Int) (bs bx : Nat) (vF vc vp vts : Value) (w : World) (h : OfAt F c p o m s l A cap ts bs bx vF vc vp vts w) (R : Ending → World → Prop) (hR : ∀ r w', qci (tailT F c p o m s ts) r → Ext w w' → R r w')
    (u4 u5 u7 u8 u9 u10 u11 u12 u13 u14 u15 u16 u17 u18 u19 u20 u21 u22 u23 u24 u25 u26 u27 u28 u29 u30 u31 u32 u33 u34 u35 u36 u37 u38 u39 u40 u41 u42 u43 u44 u45 u46 u47 u48 u49 u50 u51 u52 u53 u54 u55 u56 u57 u58 u59 u60 u61 u62 u63 u64 u65 u66 u67 u68 u69 u70 u71 u72 u73 u74 u75 u76 u77 u78 u79 u80 u81 u82 u83 u84 u85 u86 u87 u88 u89 : Value) : Code.wp Tryz.prog ofTail (bodyPost Tryz.prog Tryz.f89 R) ⟨#[.agg #[vF, vc, vp], .agg #[.int .i64 o, .int .i64 m, .string s, .slice A l.length cap], .pointer (some ⟨bs, 0, none⟩), .pointer (some ⟨bx, 0, none⟩), u4, u5, vts, u7, u8, u9, u10, u11, u12, u13, u14, u15, u16, u17, u18, u19, u20, u21, u22, u23, u24, u25, u26, u27, u28, u29, u30, u31, u32, u33, u34, u35, u36, u37, u38, u39, u40, u41, u42, u43, u44, u45, u46, u47, u48, u49, u50, u51, u52, u53, u54, u55, u56, u57, u58, u59, u60, u61, u62, u63, u64, u65, u66, u67, u68, u69, u70, u71, u72, u73, u74, u75, u76, u77, u78, u79, u80, u81, u82, u83, u84, u85, u86, u87, u88, u89], []⟩ w := by
  by_cases h22 : o = 22
  · by_cases hs : s.toList = []
    · by_cases hl : ts.length = 0
      · by_cases hn : m < 0
        · apply of_call_lo_nil <;> assumption
        · have hn0 : 0 ≤ m := by omega
          by_cases hn1 : (F.length : Int) ≤ m
          · apply of_call_hi_nil <;> assumption
          · have hn2 : m < F.length := by omega
            apply of_call_in_nil <;> assumption
      · have hl2 : ts ≠ [] := fun h => hl (by rw [h]; rfl)
        by_cases hn : m < 0
        · apply of_call_lo_cons <;> assumption
        · have hn0 : 0 ≤ m := by omega
          by_cases hn1 : (F.length : Int) ≤ m
          · apply of_call_hi_cons <;> assumption
          · have hn2 : m < F.length := by omega
            apply of_call_in_cons <;> assumption
    · have ho : ¬ o = 1 := by omega
      apply of_text <;> assumption
  · by_cases hs : s.toList = []
    · by_cases hl : ts.length = 0
      · apply of_leafa <;> assumption
      · have hl2 : ts ≠ [] := fun h => hl (by rw [h]; rfl)
        apply of_opera <;> assumption
    · by_cases ho : o = 1
      · by_cases hl : ts.length = 0
        · apply of_leafb <;> assumption
        · have hl2 : ts ≠ [] := fun h => hl (by rw [h]; rfl)
          apply of_operb <;> assumption
      · apply of_text <;> assumption
end Go.Proofs.YtnkimlkoijfcpaaGreatDoor

/- Walk: (scope).of. -/
namespace Go.Proofs.YtnkimlkoijfcpaaGreatDoor
open Go.RowKit Go.Lib
def OfEnd (F : List Fn) (c p : List Int) (o m : Int) (s : ByteArray) (l : List Ex) (A : Option Addr) (cap : Nat) (bs bx : Nat) (vF vc vp vts : Value) (w w' : World) : Prop :=
  ∃ ts, OfAt F c p o m s l A cap ts bs bx vF vc vp vts w' ∧ ty F c p (.mk o m s l) = tailT F c p o m s ts ∧ Ext w w'
set_option maxRecDepth 100000 in
set_option maxHeartbeats 4000000 in
theorem of_any (F : List Fn) (c p : List Int) (e : Ex) : ∀ (S S1 S2 S3 : Nat → Prop) (vF vc vp : Value) (cs : List Value) (w : World), Rd w S (.sl (F.map Fn.d)) [vF] → Rd w S1 (.sl (c.map D.int)) [vc] → Rd w S2 (.sl (p.map D.int)) [vp] → Rd w S3 e.d cs → parts e ≤ 1000000 →
    Calls Tryz.prog 89 #[.agg #[vF, vc, vp], .agg cs.toArray] w fun r w' => qci (ty F c p e) r ∧ Ext w w' := by
  induction e using Ex.ind with | h o m s l ih => ?_
  intro S S1 S2 S3 vF vc vp cs w hF hc hp hr hbd
  obtain ⟨A, cap, b, off, rfl, hl1, hl2, hl3, hm⟩ := Ex.open hr
  simp only [Ex.args, Ex.op, Ex.n, Ex.s] at *
  have hll : l.length ≤ 1000000 := by rw [parts] at hbd; have := qbw l; omega
  obtain ⟨AF, capF, bF, offF, rfl, F1, F2, F3, F4⟩ := Rd.sl_open hF
  simp only [List.length_map] at F1 F3
  have hF' := Lib.hid hF; have hc' := Lib.hid hc; have hp' := Lib.hid hp; have hl3' := Lib.hid hl3; have hm' := Lib.hid hm; have hr0 := Lib.hid hr
  have F3' := Lib.hid F3; have F4' := Lib.hid F4
  have H := Lib.hid (show ty F c p (.mk o m s l) = match tys F c p l with | some ts => tailT F c p o m s ts | none => none by rw [ty]; cases tys F c p l <;> rfl)
  simp only [List.length_map] at *
  clear hF hc hp hr hl3 hm F3 F4
  go_enter Tryz.func89, Tryz.ntmps89
  go_wp2_with fail
  rename_i K9 hK9
  have hK8 : ∀ (u4 u5 u7 u8 u9 u10 u11 u12 u13 u14 u15 u16 u17 u18 u19 u20 u21 u22 u23 u24 u25 u26 u27 u28 u29 u30 u31 u32 u33 u34 u35 u36 u37 u38 u39 u40 u41 u42 u43 u44 u45 u46 u47 u48 u49 u50 u51 u52 u53 u54 u55 u56 u57 u58 u59 u60 u61 u62 u63 u64 u65 u66 u67 u68 u69 u70 u71 u72 u73 u74 u75 u76 u77 u78 u79 u80 u81 u82 u83 u84 u85 u86 u87 u88 u89 : Value) (vts : Value) (w' : World), OfEnd F c p o m s l A cap w.heap.size (w.heap.size + 1) (.slice AF F.length capF) vc vp vts w w' → K9 ⟨#[.agg #[.slice AF F.length capF, vc, vp], .agg #[.int .i64 o, .int .i64 m, .string s, .slice A l.length cap], .pointer (some ⟨w.heap.size, 0, none⟩), .pointer (some ⟨w.heap.size + 1, 0, none⟩), u4, u5, vts, u7, u8, u9, u10, u11, u12, u13, u14, u15, u16, u17, u18, u19, u20, u21, u22, u23, u24, u25, u26, u27, u28, u29, u30, u31, u32, u33, u34, u35, u36, u37, u38, u39, u40, u41, u42, u43, u44, u45, u46, u47, u48, u49, u50, u51, u52, u53, u54, u55, u56, u57, u58, u59, u60, u61, u62, u63, u64, u65, u66, u67, u68, u69, u70, u71, u72, u73, u74, u75, u76, u77, u78, u79, u80, u81, u82, u83, u84, u85, u86, u87, u88, u89], []⟩ w' :=
    fun u4 u5 u7 u8 u9 u10 u11 u12 u13 u14 u15 u16 u17 u18 u19 u20 u21 u22 u23 u24 u25 u26 u27 u28 u29 u30 u31 u32 u33 u34 u35 u36 u37 u38 u39 u40 u41 u42 u43 u44 u45 u46 u47 u48 u49 u50 u51 u52 u53 u54 u55 u56 u57 u58 u59 u60 u61 u62 u63 u64 u65 u66 u67 u68 u69 u70 u71 u72 u73 u74 u75 u76 u77 u78 u79 u80 u81 u82 u83 u84 u85 u86 u87 u88 u89 vts w' ⟨ts, h1, h2, h3⟩ => hK9 _ _ (of_tail F c p o m s l A cap ts w.heap.size (w.heap.size + 1) (.slice AF F.length capF) vc vp vts w' h1 (fun r w'' => qci (ty F c p (.mk o m s l)) r ∧ Ext w w'') (fun r w'' h4 h5 => ⟨by rw [h2]; exact h4, h3.trans h5⟩) u4 u5 u7 u8 u9 u10 u11 u12 u13 u14 u15 u16 u17 u18 u19 u20 u21 u22 u23 u24 u25 u26 u27 u28 u29 u30 u31 u32 u33 u34 u35 u36 u37 u38 u39 u40 u41 u42 u43 u44 u45 u46 u47 u48 u49 u50 u51 u52 u53 u54 u55 u56 u57 u58 u59 u60 u61 u62 u63 u64 u65 u66 u67 u68 u69 u70 u71 u72 u73 u74 u75 u76 u77 u78 u79 u80 u81 u82 u83 u84 u85 u86 u87 u88 u89)
  clear hK9
  go_loopw [6, 14] (fun x i wr => ∃ (k : Nat) (ts : List Int), k ≤ l.length ∧ i = .int .i64 k ∧ ts.length = k ∧ wr.ownsRow (w.heap.size + 2) 3 1 x k (ts.map (Value.int .i64)) ∧ Hid (TysAt F c p l ts k) ∧ Ext ((w.alloc (.cells #[.slice AF F.length capF, vc, vp] 83)).alloc (.cells #[.int .i64 o, .int .i64 m, .string s, .slice A l.length cap] 25)) wr) (fun _ i _ => l.length - (RowKit.intOf i).toNat)
  case atStart => exact ⟨0, [], by omega, rfl, rfl, World.ownsRow_nil _ _ _ _, Lib.hid (TysAt.start F c p l), Ext.refl _⟩
  case round =>
    obtain ⟨k, ts, hk, rfl, htk, hown, HH, hb⟩ := hrel
    have htk' := Lib.hid htk; clear htk
    have s0 : wr.cell? ⟨w.heap.size, 0, none⟩ = some (.slice AF F.length capF) := hb.at (by go_simp)
    have s1 : wr.cell? ⟨w.heap.size, 1, none⟩ = some vc := hb.at (by go_simp)
    have s2 : wr.cell? ⟨w.heap.size, 2, none⟩ = some vp := hb.at (by go_simp)
    have e0 : wr.cell? ⟨w.heap.size + 1, 0, none⟩ = some (.int .i64 o) := hb.at (by go_simp)
    have e1 : wr.cell? ⟨w.heap.size + 1, 1, none⟩ = some (.int .i64 m) := hb.at (by go_simp)
    have e2 : wr.cell? ⟨w.heap.size + 1, 2, none⟩ = some (.string s) := hb.at (by go_simp)
    have e3 : wr.cell? ⟨w.heap.size + 1, 3, none⟩ = some (.slice A l.length cap) := hb.at (by go_simp)
    have hw : Ext w wr := (((Ext.refl _).alloc _).alloc _).trans hb
    by_cases hlt : k < l.length
    · obtain ⟨rfl, hSb⟩ := hl3'.out (by omega)
      obtain ⟨A1, cap1, b1, off1, c0, c1, c2, c3, hr', -⟩ := Ex.at (hm'.out.ext (fun _ => hSb) hw) hlt
      have hr2 := Lib.hid hr'
      have hSb' := Lib.hid hSb
      clear hr' hSb
      have hpb : parts l[k] ≤ 1000000 := by rw [parts] at hbd; have := qbi l l[k] (List.getElem_mem hlt); omega
      have s0' : ∀ o1, (wr.alloc o1).cell? ⟨w.heap.size, 0, none⟩ = some (.slice AF F.length capF) := fun o1 => ((Ext.refl _).alloc o1).at s0
      have s1' : ∀ o1, (wr.alloc o1).cell? ⟨w.heap.size, 1, none⟩ = some vc := fun o1 => ((Ext.refl _).alloc o1).at s1
      have s2' : ∀ o1, (wr.alloc o1).cell? ⟨w.heap.size, 2, none⟩ = some vp := fun o1 => ((Ext.refl _).alloc o1).at s2
      go_wp2_with fail
      refine (ih l[k] (List.getElem_mem hlt) S S1 S2 S3 _ vc vp _ _ (hF'.out.ext (by repeat' first | exact Ext.refl _ | assumption | apply Ext.alloc | apply Ext.drew | apply Ext.drewN | (refine Ext.trans ?_ (by assumption)))) (hc'.out.ext (by repeat' first | exact Ext.refl _ | assumption | apply Ext.alloc | apply Ext.drew | apply Ext.drewN | (refine Ext.trans ?_ (by assumption)))) (hp'.out.ext (by repeat' first | exact Ext.refl _ | assumption | apply Ext.alloc | apply Ext.drew | apply Ext.drewN | (refine Ext.trans ?_ (by assumption)))) (hr2.out.ext (by repeat' first | exact Ext.refl _ | assumption | apply Ext.alloc | apply Ext.drew | apply Ext.drewN | (refine Ext.trans ?_ (by assumption)))) hpb).mono ?_
      rintro r w1 ⟨⟨t, ok, rfl, hA⟩, he⟩
      have hA' := Lib.hid hA; clear hA
      cases ok with
      | false =>
        have H2 := Lib.hid (HH.out.none hlt hA'.out.symm)
        go_wp2_with fail
        go_ret2
        exact ⟨by rw [H.out, H2.out]; exact qbf, (by repeat' first | exact Ext.refl _ | assumption | apply Ext.alloc | apply Ext.drew | apply Ext.drewN | (refine Ext.trans ?_ (by assumption)))⟩
      | true =>
        have H2 := Lib.hid (HH.out.next hlt hA'.out.symm)
        have he2 : Ext wr w1 := ((Ext.refl _).alloc _).trans he
        have hown1 : w1.ownsRow (w.heap.size + 2) 3 1 _ k (ts.map (Value.int .i64)) := own_ext hown he2
        have hsz := (hb.trans he2).size
        go_wp2_with (at_builtin; refine wp_append1 _ _ _ rfl _ _ _ rfl (w.heap.size + 2) 3 1 8 _ Tryz.underlying22 Tryz.info3 rfl (by decide) (by decide) _ _ _ rfl hown1 rfl rfl (by intro u hu; simp at hu; subst hu; rfl) (by omega) (by simpa using hsz) ?_; intro v' w2 hown2 hg2 hn2)
        go_roundw
        case rel => exact ⟨k + 1, ts ++ [t], by omega, by go_num, by rw [List.length_append, htk'.out]; rfl, by simpa using hown2, H2, (hb.trans he2).grown hown1 (by simp) hg2⟩
        case measure => simp [RowKit.intOf]; omega
    · have hkl : k = l.length := by omega
      subst hkl
      have H2 := Lib.hid (H.out.trans (by rw [HH.out.done]))
      clear H HH
      have hR := own_ints (S := Any) (by rw [htk'.out]; exact hown) (fun _ _ => trivial)
      have hfin := Lib.hid (show OfEnd F c p o m s l A cap w.heap.size (w.heap.size + 1) (.slice AF F.length capF) vc vp _ w wr from ⟨ts, ⟨s0, s1, s2, e0, e1, e2, e3, Rd.any (hF'.out.ext hw), Rd.any (hc'.out.ext hw), Rd.any (hp'.out.ext hw), hR, Rd.any (hr0.out.ext hw), hll⟩, H2.out, hw⟩)
      clear hR hown H2
      go_wp2_with fail
      exact hfin.out
end Go.Proofs.YtnkimlkoijfcpaaGreatDoor

/- Walks: right functions and types, as the program finds them. -/
namespace Go.Proofs.YtnkimlkoijfcpaaGreatDoor
open Go.RowKit Go.Lib
set_option maxRecDepth 10000 in
set_option maxHeartbeats 1000000 in
theorem typed_any (F : List Fn) (c p : List Int) (e : Ex) (S S1 S2 S3 : Nat → Prop) (vF vc vp : Value) (cs : List Value) (w : World) (hF : Rd w S (.sl (F.map Fn.d)) [vF]) (hc : Rd w S1 (.sl (c.map D.int)) [vc]) (hp : Rd w S2 (.sl (p.map D.int)) [vp]) (hr : Rd w S3 e.d cs) (hbd : parts e ≤ 1000000) :
    Calls Tryz.prog 39 #[.agg #[vF, vc, vp], .agg cs.toArray] w fun r w' => r = .returned (.tuple #[.int .i64 ((tyD F c p e).getD 0), .bool (tyD F c p e).isSome]) ∧ Ext w w' := by
  obtain ⟨A, cap, b, off, rfl, hl1, hl2, hl3, hm⟩ := Ex.open hr
  have hF' := Lib.hid hF; have hc' := Lib.hid hc; have hp' := Lib.hid hp; have hr' := Lib.hid hr
  clear hF hc hp hr hm hl3
  have hlv := levels_bd hbd
  by_cases h12 : levels e > 12
  · have H := Lib.hid (show tyD F c p e = none by unfold tyD; rw [if_pos h12])
    go_enter Tryz.func39, Tryz.ntmps39
    go_wp2_with fail
    refine (levels_any e S3 _ _ (hr'.out.ext (by repeat' first | exact Ext.refl _ | assumption | apply Ext.alloc | apply Ext.drew | apply Ext.drewN | (refine Ext.trans ?_ (by assumption)))) hlv).mono ?_
    rintro r w1 ⟨rfl, he⟩
    go_wp2_with fail
    go_ret2
    exact ⟨by rw [H.out]; rfl, (by repeat' first | exact Ext.refl _ | assumption | apply Ext.alloc | apply Ext.drew | apply Ext.drewN | (refine Ext.trans ?_ (by assumption)))⟩
  · have H := Lib.hid (show tyD F c p e = ty F c p e by unfold tyD; rw [if_neg h12])
    go_enter Tryz.func39, Tryz.ntmps39
    go_wp2_with fail
    refine (levels_any e S3 _ _ (hr'.out.ext (by repeat' first | exact Ext.refl _ | assumption | apply Ext.alloc | apply Ext.drew | apply Ext.drewN | (refine Ext.trans ?_ (by assumption)))) hlv).mono ?_
    rintro r w1 ⟨rfl, he⟩
    have hcs := he.cells
    go_wp2_with fail
    refine (of_any F c p e S S1 S2 S3 vF vc vp _ _ (hF'.out.ext (by repeat' first | exact Ext.refl _ | assumption | apply Ext.alloc | apply Ext.drew | apply Ext.drewN | (refine Ext.trans ?_ (by assumption)))) (hc'.out.ext (by repeat' first | exact Ext.refl _ | assumption | apply Ext.alloc | apply Ext.drew | apply Ext.drewN | (refine Ext.trans ?_ (by assumption)))) (hp'.out.ext (by repeat' first | exact Ext.refl _ | assumption | apply Ext.alloc | apply Ext.drew | apply Ext.drewN | (refine Ext.trans ?_ (by assumption)))) (hr'.out.ext (by repeat' first | exact Ext.refl _ | assumption | apply Ext.alloc | apply Ext.drew | apply Ext.drewN | (refine Ext.trans ?_ (by assumption)))) hbd).mono ?_
    rintro r w2 ⟨⟨t, ok, rfl, hA⟩, he2⟩
    have hA' := Lib.hid hA; clear hA hcs
    cases ok
    all_goals
      go_wp2_with fail
      go_ret2
      exact ⟨by rw [H.out, ← hA'.out]; rfl, (by repeat' first | exact Ext.refl _ | assumption | apply Ext.alloc | apply Ext.drew | apply Ext.drewN | (refine Ext.trans ?_ (by assumption)))⟩
set_option maxRecDepth 10000 in
set_option maxHeartbeats 2000000 in
theorem right_any (F : List Fn) (S : Nat → Prop) (v : Value) (w : World) (hr : Rd w S (.sl (F.map Fn.d)) [v]) (hp : ∀ f ∈ F, parts f.body ≤ 1000000) :
    Calls Tryz.prog 38 #[v] w fun r w' => r = .returned (.bool (qei F)) ∧ Ext w w' := by
  obtain ⟨A, cap, b, off, rfl, hl1, hl2, hl3, hm⟩ := Rd.sl_open hr
  simp only [List.length_map] at *
  have hp' := Lib.hid hp; have hl3' := Lib.hid hl3; have hm' := Lib.hid hm
  clear hp hr hl3 hm
  by_cases h20 : (F.length : Int) ≤ 20
  case neg =>
    have H := Lib.hid (show qei F = false by unfold qei; rw [decide_eq_false h20]; rfl)
    go_enter Tryz.func38, Tryz.ntmps38
    go_wp2_with fail
    go_ret
    exact ⟨qbk (by rw [H.out]), Ext.refl _⟩
  go_enter Tryz.func38, Tryz.ntmps38
  go_wp2_with fail
  go_loopw [13] (fun i wr => ∃ (k : Nat), k ≤ F.length ∧ i = .int .i64 k ∧ Hid (∀ j, j < k → okF F j = true) ∧ Ext w wr) (fun i _ => F.length - (RowKit.intOf i).toNat)
  case atStart => exact ⟨0, by omega, rfl, Lib.hid (fun j h => absurd h (by omega)), Ext.refl _⟩
  case round =>
    obtain ⟨k, hk, rfl, HH, hw⟩ := hrel
    by_cases hlt : k < F.length
    case neg =>
      have hkl : k = F.length := by omega
      subst hkl
      have H := Lib.hid (show qei F = true by rw [rightF_end HH.out, decide_eq_true h20])
      go_wp2_with fail
      go_ret
      exact ⟨qbk (by rw [H.out]), hw⟩
    obtain ⟨rfl, hSb⟩ := hl3'.out (by omega)
    obtain ⟨A1, cap1, b1, off1, A2, cap2, b2, off2, c0, c1, c2, c3, c4, c5, c6, hr', q1, q2, q3, q4, q5, q6, q7, q8⟩ := Fn.at (hm'.out.ext (fun _ => hSb) hw) hlt
    have hfun := Lib.hid (Rd.cut (k := k) (by simpa using hk) (by simpa using hl1) hl2 hSb (hm'.out.ext (fun _ => hSb) hw))
    have hpar := Lib.hid (Rd.sl_mk (w := wr) (S := S) (n := F[k].params.length) (l := F[k].params.map D.int) (by simp) (by simpa using q1) q2 (by simpa using q3) q4)
    have hbod := Lib.hid (Ex.mk_rd q5 q6 q7 q8)
    have hpb := hp'.out F[k] (List.getElem_mem hlt)
    have hok := Lib.hid (okF_at hlt)
    have hSb' := Lib.hid hSb
    clear hr' q3 q4 q5 q7 q8 hSb
    by_cases h6 : (F[k].params.length : Int) ≤ 6
    case neg =>
      have H := Lib.hid (qdt hlt (by rw [hok.out, decide_eq_false h6, Bool.and_false]))
      go_wp2_with fail
      go_ret
      exact ⟨qbk (by rw [H.out]), (by repeat' first | exact Ext.refl _ | assumption | apply Ext.alloc | apply Ext.drew | apply Ext.drewN | (refine Ext.trans ?_ (by assumption)))⟩
    have hany : F[k].params.any (fun n => !kindB n) = !F[k].params.all kindB := by rw [List.any_eq_not_all_not]; simp
    have hcf := fun (w' : World) (hw' : Ext wr w') => containsFunc_any F[k].params (fun n => !kindB n) 86 (fun a w => by kernel_rfl) #[] S _ w' (hpar.out.ext hw') (fun x w'' _ => wrongKind_any x w'')
    rw [hany] at hcf
    cases hall : F[k].params.all kindB with
    | false =>
      rw [hall] at hcf
      have hcf' := Lib.hid hcf
      have H := Lib.hid (qdt hlt (by rw [hok.out, hall]; rfl))
      clear hcf hany hall
      go_wp2_with fail
      refine (hcf'.out _ (by repeat' first | exact Ext.refl _ | assumption | apply Ext.alloc | apply Ext.drew | apply Ext.drewN | (refine Ext.trans ?_ (by assumption)))).mono ?_
      rintro r w1 ⟨rfl, he⟩
      go_wp2_with fail
      go_ret
      exact ⟨qbk (by rw [H.out]), (by repeat' first | exact Ext.refl _ | assumption | apply Ext.alloc | apply Ext.drew | apply Ext.drewN | (refine Ext.trans ?_ (by assumption)))⟩
    | true =>
      rw [hall] at hcf
      have hcf' := Lib.hid hcf
      have hall' := Lib.hid hall
      clear hcf hany hall
      have hcall := fun (x : World) (hx : Ext wr x) => typed_any (F.take k) [] F[k].params F[k].body S Any S S _ (.slice none 0 0) _ _ x (by simpa [List.map_take] using hfun.out.ext hx) (Rd.nil none (by omega)) (hpar.out.ext hx) (hbod.out.ext hx) hpb
      go_wp2_with fail
      refine (hcf'.out _ (by repeat' first | exact Ext.refl _ | assumption | apply Ext.alloc | apply Ext.drew | apply Ext.drewN | (refine Ext.trans ?_ (by assumption)))).mono ?_
      rintro r w1 ⟨rfl, he⟩
      have he9 : Ext wr w1 := ((Ext.refl _).alloc _).trans he
      have f1 : w1.cell? ⟨wr.heap.size, 1, none⟩ = some (.slice A1 F[k].params.length cap1) := he.at (by go_simp)
      have f2 : w1.cell? ⟨wr.heap.size, 2, none⟩ = some (.int .i64 F[k].res) := he.at (by go_simp)
      have f3 : w1.cell? ⟨wr.heap.size, 3, none⟩ = some (.int .i64 F[k].body.op) := he.at (by go_simp)
      have f4 : w1.cell? ⟨wr.heap.size, 4, none⟩ = some (.int .i64 F[k].body.n) := he.at (by go_simp)
      have f5 : w1.cell? ⟨wr.heap.size, 5, none⟩ = some (.string F[k].body.s) := he.at (by go_simp)
      have f6 : w1.cell? ⟨wr.heap.size, 6, none⟩ = some (.slice A2 F[k].body.args.length cap2) := he.at (by go_simp)
      have gf1 := ExtW.at f1
      have gf2 := ExtW.at f2
      have gf3 := ExtW.at f3
      have gf4 := ExtW.at f4
      have gf5 := ExtW.at f5
      have gf6 := ExtW.at f6
      cases hT : tyD (F.take k) [] F[k].params F[k].body with
      | none =>
        rw [hT] at hcall
        have hcall' := Lib.hid (fun x : ExtW w1 => hcall x.val (he9.trans x.ext))
        have H := Lib.hid (qdt hlt (by rw [hok.out, hT]; simp))
        clear hcall hT
        go_wp2_with fail
        refine qy (by kernel_rfl) (by kernel_rfl) ?_
        repeat (go_big_quiet_step ((go_at_call 39; exact Calls.ext_of (hcall'.out _))))
        refine wpQuiet_nil ?_
        intro w2 he2
        go_wp2_with fail
        go_ret
        exact ⟨qbk (by rw [H.out]), (by repeat' first | exact Ext.refl _ | assumption | apply Ext.alloc | apply Ext.drew | apply Ext.drewN | (refine Ext.trans ?_ (by assumption)))⟩
      | some t =>
        rw [hT] at hcall
        have hcall' := Lib.hid (fun x : ExtW w1 => hcall x.val (he9.trans x.ext))
        by_cases ht : t = F[k].res
        · have H := Lib.hid (show okF F k = true by rw [hok.out, hT, hall'.out, ht, decide_eq_true h6]; simp)
          subst ht
          clear hcall hT
          go_wp2_with fail
          refine qy (by kernel_rfl) (by kernel_rfl) ?_
          repeat (go_big_quiet_step ((go_at_call 39; exact Calls.ext_of (hcall'.out _))))
          refine wpQuiet_nil ?_
          intro w2 he2
          have f1 := he2.at f1
          have f2 := he2.at f2
          go_wp2_with fail
          go_roundw
          case rel => exact ⟨k + 1, by omega, by go_num, Lib.hid (fun i h => by rcases Nat.lt_succ_iff_lt_or_eq.1 h with h | rfl; exact HH.out i h; exact H.out), (hw.trans he9).trans he2⟩
          case measure => simp [RowKit.intOf]; omega
        · have H := Lib.hid (qdt hlt (by rw [hok.out, hT]; simp [ht]))
          have ht' : (t != F[k].res) = true := by simp [ht]
          clear hcall hT
          go_wp2_with fail
          refine qy (by kernel_rfl) (by kernel_rfl) ?_
          repeat (go_big_quiet_step ((go_at_call 39; exact Calls.ext_of (hcall'.out _))))
          refine wpQuiet_nil ?_
          intro w2 he2
          have f1 := he2.at f1
          have f2 := he2.at f2
          go_wp2_with fail
          go_ret
          exact ⟨qbk (by rw [H.out]), (by repeat' first | exact Ext.refl _ | assumption | apply Ext.alloc | apply Ext.drew | apply Ext.drewN | (refine Ext.trans ?_ (by assumption)))⟩
set_option maxHeartbeats 1000000 in
theorem type_any (F : List Fn) (c p : List Int) (e : Ex) (S S1 S2 S3 : Nat → Prop) (vF vc vp : Value) (cs : List Value) (w : World) (hF : Rd w S (.sl (F.map Fn.d)) [vF]) (hc : Rd w S1 (.sl (c.map D.int)) [vc]) (hp : Rd w S2 (.sl (p.map D.int)) [vp]) (hr : Rd w S3 e.d cs) (hbd : parts e ≤ 1000000) (hpF : ∀ f ∈ F, parts f.body ≤ 1000000) :
    Calls Tryz.prog 9 #[vF, vc, vp, .agg cs.toArray] w fun r w' => r = .returned (.tuple #[.int .i64 ((typeP F c p e).getD 0), .bool (typeP F c p e).isSome]) ∧ Ext w w' := by
  obtain ⟨A, cap, b, off, rfl, hl1, hl2, hl3, hm⟩ := Ex.open hr
  obtain ⟨x1, x2, x3, x4, rfl, -⟩ := Rd.sl_open hF
  obtain ⟨y1, y2, y3, y4, rfl, -⟩ := Rd.sl_open hc
  obtain ⟨z1, z2, z3, z4, rfl, -⟩ := Rd.sl_open hp
  simp only [List.length_map] at *
  have hF' := Lib.hid hF; have hc' := Lib.hid hc; have hp' := Lib.hid hp; have hr' := Lib.hid hr; have hpF' := Lib.hid hpF
  clear hF hc hp hr hm hl3 hpF
  cases hR : qei F with
  | false =>
    have H := Lib.hid (show typeP F c p e = none by unfold typeP; rw [hR]; rfl)
    have hcall := right_any F S (.slice x1 F.length x2)
    rw [hR] at hcall
    have hcall' := Lib.hid hcall
    clear hcall hR
    go_enter Tryz.func9, Tryz.ntmps9
    go_wp2_with fail
    refine (hcall'.out _ (hF'.out.ext (by repeat' first | exact Ext.refl _ | assumption | apply Ext.alloc | apply Ext.drew | apply Ext.drewN | (refine Ext.trans ?_ (by assumption)))) hpF'.out).mono ?_
    rintro r w1 ⟨rfl, he⟩
    go_wp2_with fail
    go_ret2
    exact ⟨by rw [H.out]; rfl, (by repeat' first | exact Ext.refl _ | assumption | apply Ext.alloc | apply Ext.drew | apply Ext.drewN | (refine Ext.trans ?_ (by assumption)))⟩
  | true =>
    have H := Lib.hid (show typeP F c p e = tyD F c p e by unfold typeP; rw [hR]; rfl)
    have hcall := right_any F S (.slice x1 F.length x2)
    rw [hR] at hcall
    have hcall' := Lib.hid hcall
    clear hcall hR
    go_enter Tryz.func9, Tryz.ntmps9
    go_wp2_with fail
    refine (hcall'.out _ (hF'.out.ext (by repeat' first | exact Ext.refl _ | assumption | apply Ext.alloc | apply Ext.drew | apply Ext.drewN | (refine Ext.trans ?_ (by assumption)))) hpF'.out).mono ?_
    rintro r w1 ⟨rfl, he⟩
    have hcs := he.cells
    go_wp2_with fail
    refine (typed_any F c p e S S1 S2 S3 _ _ _ _ w1 (hF'.out.ext (by repeat' first | exact Ext.refl _ | assumption | apply Ext.alloc | apply Ext.drew | apply Ext.drewN | (refine Ext.trans ?_ (by assumption)))) (hc'.out.ext (by repeat' first | exact Ext.refl _ | assumption | apply Ext.alloc | apply Ext.drew | apply Ext.drewN | (refine Ext.trans ?_ (by assumption)))) (hp'.out.ext (by repeat' first | exact Ext.refl _ | assumption | apply Ext.alloc | apply Ext.drew | apply Ext.drewN | (refine Ext.trans ?_ (by assumption)))) (hr'.out.ext (by repeat' first | exact Ext.refl _ | assumption | apply Ext.alloc | apply Ext.drew | apply Ext.drewN | (refine Ext.trans ?_ (by assumption)))) hbd).mono ?_
    rintro r w2 ⟨rfl, he2⟩
    go_wp2_with fail
    go_ret2
    exact ⟨by rw [H.out]; rfl, (by repeat' first | exact Ext.refl _ | assumption | apply Ext.alloc | apply Ext.drew | apply Ext.drewN | (refine Ext.trans ?_ (by assumption)))⟩
end Go.Proofs.YtnkimlkoijfcpaaGreatDoor
