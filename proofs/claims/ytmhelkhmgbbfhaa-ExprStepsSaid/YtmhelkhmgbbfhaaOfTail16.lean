/- Walk: the end of (scope).of, a theorem for each kind of operation. -/
import Derived.Test.YtmhelkhmgbbfhaaOfP16
namespace Go.Proofs.Ytmhelkhmgbbfhaa
open Go.RowKit Go.Lib

noncomputable def ofTail : Code := restFrom 10 ((Try.f65.body).getD .skip)

theorem tail_oper2 {F : List Fn} {c p : List Int} {op n : Int} {s : ByteArray} {ts : List Int} (h : s.toList = [] ∨ op = 1) (h22 : ¬ op = 22) (hne : ts ≠ []) : tailT F c p op n s ts = operT op n ts := by
  unfold tailT; rw [if_neg (by rw [ne_eq, size_zero]; rintro ⟨a, b⟩; exact h.elim a b), if_neg h22, if_neg hne]

theorem callT_none {F : List Fn} {n : Int} {ts : List Int} (h : n < 0 ∨ (F.length : Int) ≤ n) : callT F n ts = none := by
  unfold callT
  by_cases h0 : n < 0
  · rw [if_pos h0]
  · rw [if_neg h0, List.getElem?_eq_none (by omega)]

/-- what holds where the tail begins -/
def OfAt (F : List Fn) (c p : List Int) (o m : Int) (s : ByteArray) (l : List Ex) (A : Option Addr) (cap : Nat) (ts : List Int) (bs bx : Nat) (vF vc vp vts : Value) (w : World) : Prop :=
  w.cell? ⟨bs, 0, none⟩ = some vF ∧ w.cell? ⟨bs, 1, none⟩ = some vc ∧ w.cell? ⟨bs, 2, none⟩ = some vp ∧
  w.cell? ⟨bx, 0, none⟩ = some (.int .i64 o) ∧ w.cell? ⟨bx, 1, none⟩ = some (.int .i64 m) ∧ w.cell? ⟨bx, 2, none⟩ = some (.string s) ∧ w.cell? ⟨bx, 3, none⟩ = some (.slice A l.length cap) ∧
  Rd w Any (.sl (F.map Fn.d)) [vF] ∧ Rd w Any (.sl (c.map D.int)) [vc] ∧ Rd w Any (.sl (p.map D.int)) [vp] ∧ Rd w Any (.sl (ts.map D.int)) [vts] ∧
  Rd w Any (Ex.mk o m s l).d [.int .i64 o, .int .i64 m, .string s, .slice A l.length cap] ∧ l.length ≤ 1000000

set_option maxRecDepth 100000 in
set_option maxHeartbeats 1000000 in
theorem of_text (F : List Fn) (c p : List Int) (o m : Int) (s : ByteArray) (l : List Ex) (A : Option Addr) (cap : Nat) (ts : List Int) (bs bx : Nat) (vF vc vp vts : Value) (w : World) (h : OfAt F c p o m s l A cap ts bs bx vF vc vp vts w) (hs : ¬ s.toList = []) (ho : ¬ o = 1) (R : Ending → World → Prop) (hR : ∀ r w', Answer (tailT F c p o m s ts) r → Ext w w' → R r w')
    (u4 u5 u7 u8 u9 u10 u11 u12 u13 u14 u15 u16 u17 u18 u19 u20 u21 u22 u23 u24 u25 u26 u27 u28 u29 u30 u31 u32 u33 u34 u35 u36 u37 u38 u39 u40 u41 u42 u43 u44 u45 u46 u47 u48 u49 u50 u51 u52 u53 u54 u55 u56 u57 u58 u59 u60 u61 u62 u63 u64 u65 u66 u67 u68 u69 u70 u71 u72 u73 u74 u75 u76 u77 u78 u79 u80 u81 u82 u83 u84 u85 u86 u87 u88 u89 : Value) : Code.wp Try.prog ofTail (bodyPost Try.prog Try.f65 R) ⟨#[.agg #[vF, vc, vp], .agg #[.int .i64 o, .int .i64 m, .string s, .slice A l.length cap], .pointer (some ⟨bs, 0, none⟩), .pointer (some ⟨bx, 0, none⟩), u4, u5, vts, u7, u8, u9, u10, u11, u12, u13, u14, u15, u16, u17, u18, u19, u20, u21, u22, u23, u24, u25, u26, u27, u28, u29, u30, u31, u32, u33, u34, u35, u36, u37, u38, u39, u40, u41, u42, u43, u44, u45, u46, u47, u48, u49, u50, u51, u52, u53, u54, u55, u56, u57, u58, u59, u60, u61, u62, u63, u64, u65, u66, u67, u68, u69, u70, u71, u72, u73, u74, u75, u76, u77, u78, u79, u80, u81, u82, u83, u84, u85, u86, u87, u88, u89], []⟩ w := by
  obtain ⟨s0, s1, s2, e0, e1, e2, e3, hF, hc, hp, hts, hr, hll⟩ := h
  obtain ⟨A9, cap9, b9, off9, rfl, z1, z2, -, -⟩ := Rd.sl_open hts
  obtain ⟨AF, capF, bF, offF, rfl, F1, F2, F3, F4⟩ := Rd.sl_open hF
  simp only [List.length_map] at *
  have hF' := Lib.hid hF; have hc' := Lib.hid hc; have hp' := Lib.hid hp; have hR' := Lib.hid hR; have hr' := Lib.hid hr
  have F3' := Lib.hid F3; have F4' := Lib.hid F4
  clear hF hc hp hR hr F3 F4
  have hts' := Lib.hid hts
  clear hts
  have hs5 : (!s.toList.isEmpty) = true := by cases h : s.toList with | nil => exact absurd h hs | cons x y => rfl
  have hs4 : (o != 1) = true := by simp [ho]
  conv => arg 2; whnf
  go_wp2_with fail
  try go_ret2
  exact hR'.out _ _ (by rw [tail_text hs ho]; exact answer_none) (Ext.refl _)

set_option maxRecDepth 100000 in
set_option maxHeartbeats 1000000 in
theorem of_call_lo_nil (F : List Fn) (c p : List Int) (o m : Int) (s : ByteArray) (l : List Ex) (A : Option Addr) (cap : Nat) (ts : List Int) (bs bx : Nat) (vF vc vp vts : Value) (w : World) (h : OfAt F c p o m s l A cap ts bs bx vF vc vp vts w) (hs : s.toList = []) (ho : o = 22) (hn : m < 0) (hl : ts.length = 0) (R : Ending → World → Prop) (hR : ∀ r w', Answer (tailT F c p o m s ts) r → Ext w w' → R r w')
    (u4 u5 u7 u8 u9 u10 u11 u12 u13 u14 u15 u16 u17 u18 u19 u20 u21 u22 u23 u24 u25 u26 u27 u28 u29 u30 u31 u32 u33 u34 u35 u36 u37 u38 u39 u40 u41 u42 u43 u44 u45 u46 u47 u48 u49 u50 u51 u52 u53 u54 u55 u56 u57 u58 u59 u60 u61 u62 u63 u64 u65 u66 u67 u68 u69 u70 u71 u72 u73 u74 u75 u76 u77 u78 u79 u80 u81 u82 u83 u84 u85 u86 u87 u88 u89 : Value) : Code.wp Try.prog ofTail (bodyPost Try.prog Try.f65 R) ⟨#[.agg #[vF, vc, vp], .agg #[.int .i64 o, .int .i64 m, .string s, .slice A l.length cap], .pointer (some ⟨bs, 0, none⟩), .pointer (some ⟨bx, 0, none⟩), u4, u5, vts, u7, u8, u9, u10, u11, u12, u13, u14, u15, u16, u17, u18, u19, u20, u21, u22, u23, u24, u25, u26, u27, u28, u29, u30, u31, u32, u33, u34, u35, u36, u37, u38, u39, u40, u41, u42, u43, u44, u45, u46, u47, u48, u49, u50, u51, u52, u53, u54, u55, u56, u57, u58, u59, u60, u61, u62, u63, u64, u65, u66, u67, u68, u69, u70, u71, u72, u73, u74, u75, u76, u77, u78, u79, u80, u81, u82, u83, u84, u85, u86, u87, u88, u89], []⟩ w := by
  obtain ⟨s0, s1, s2, e0, e1, e2, e3, hF, hc, hp, hts, hr, hll⟩ := h
  obtain ⟨A9, cap9, b9, off9, rfl, z1, z2, -, -⟩ := Rd.sl_open hts
  obtain ⟨AF, capF, bF, offF, rfl, F1, F2, F3, F4⟩ := Rd.sl_open hF
  simp only [List.length_map] at *
  have hF' := Lib.hid hF; have hc' := Lib.hid hc; have hp' := Lib.hid hp; have hR' := Lib.hid hR; have hr' := Lib.hid hr
  have F3' := Lib.hid F3; have F4' := Lib.hid F4
  clear hF hc hp hR hr F3 F4
  obtain rfl := List.eq_nil_of_length_eq_zero hl
  simp only [List.length_nil] at *
  have hts' := Lib.hid hts
  clear hts
  subst ho
  have H := Lib.hid ((tail_call (F := F) (c := c) (p := p) (n := m) (ts := []) hs).trans (callT_none (by omega)))
  conv => arg 2; whnf
  go_wp2_with fail
  try go_ret2
  exact hR'.out _ _ (by rw [H.out]; exact answer_none) (Ext.refl _)

set_option maxRecDepth 100000 in
set_option maxHeartbeats 1000000 in
theorem of_call_hi_nil (F : List Fn) (c p : List Int) (o m : Int) (s : ByteArray) (l : List Ex) (A : Option Addr) (cap : Nat) (ts : List Int) (bs bx : Nat) (vF vc vp vts : Value) (w : World) (h : OfAt F c p o m s l A cap ts bs bx vF vc vp vts w) (hs : s.toList = []) (ho : o = 22) (hn : (F.length : Int) ≤ m) (hl : ts.length = 0) (R : Ending → World → Prop) (hR : ∀ r w', Answer (tailT F c p o m s ts) r → Ext w w' → R r w')
    (u4 u5 u7 u8 u9 u10 u11 u12 u13 u14 u15 u16 u17 u18 u19 u20 u21 u22 u23 u24 u25 u26 u27 u28 u29 u30 u31 u32 u33 u34 u35 u36 u37 u38 u39 u40 u41 u42 u43 u44 u45 u46 u47 u48 u49 u50 u51 u52 u53 u54 u55 u56 u57 u58 u59 u60 u61 u62 u63 u64 u65 u66 u67 u68 u69 u70 u71 u72 u73 u74 u75 u76 u77 u78 u79 u80 u81 u82 u83 u84 u85 u86 u87 u88 u89 : Value) : Code.wp Try.prog ofTail (bodyPost Try.prog Try.f65 R) ⟨#[.agg #[vF, vc, vp], .agg #[.int .i64 o, .int .i64 m, .string s, .slice A l.length cap], .pointer (some ⟨bs, 0, none⟩), .pointer (some ⟨bx, 0, none⟩), u4, u5, vts, u7, u8, u9, u10, u11, u12, u13, u14, u15, u16, u17, u18, u19, u20, u21, u22, u23, u24, u25, u26, u27, u28, u29, u30, u31, u32, u33, u34, u35, u36, u37, u38, u39, u40, u41, u42, u43, u44, u45, u46, u47, u48, u49, u50, u51, u52, u53, u54, u55, u56, u57, u58, u59, u60, u61, u62, u63, u64, u65, u66, u67, u68, u69, u70, u71, u72, u73, u74, u75, u76, u77, u78, u79, u80, u81, u82, u83, u84, u85, u86, u87, u88, u89], []⟩ w := by
  obtain ⟨s0, s1, s2, e0, e1, e2, e3, hF, hc, hp, hts, hr, hll⟩ := h
  obtain ⟨A9, cap9, b9, off9, rfl, z1, z2, -, -⟩ := Rd.sl_open hts
  obtain ⟨AF, capF, bF, offF, rfl, F1, F2, F3, F4⟩ := Rd.sl_open hF
  simp only [List.length_map] at *
  have hF' := Lib.hid hF; have hc' := Lib.hid hc; have hp' := Lib.hid hp; have hR' := Lib.hid hR; have hr' := Lib.hid hr
  have F3' := Lib.hid F3; have F4' := Lib.hid F4
  clear hF hc hp hR hr F3 F4
  obtain rfl := List.eq_nil_of_length_eq_zero hl
  simp only [List.length_nil] at *
  have hts' := Lib.hid hts
  clear hts
  subst ho
  have h0 : ¬ m < 0 := by omega
  have H := Lib.hid ((tail_call (F := F) (c := c) (p := p) (n := m) (ts := []) hs).trans (callT_none (by omega)))
  conv => arg 2; whnf
  go_wp2_with fail
  try go_ret2
  exact hR'.out _ _ (by rw [H.out]; exact answer_none) (Ext.refl _)

set_option maxRecDepth 100000 in
set_option maxHeartbeats 1000000 in
theorem of_call_in_nil (F : List Fn) (c p : List Int) (o m : Int) (s : ByteArray) (l : List Ex) (A : Option Addr) (cap : Nat) (ts : List Int) (bs bx : Nat) (vF vc vp vts : Value) (w : World) (h : OfAt F c p o m s l A cap ts bs bx vF vc vp vts w) (hs : s.toList = []) (ho : o = 22) (hn : 0 ≤ m) (hn9 : m < F.length) (hl : ts.length = 0) (R : Ending → World → Prop) (hR : ∀ r w', Answer (tailT F c p o m s ts) r → Ext w w' → R r w')
    (u4 u5 u7 u8 u9 u10 u11 u12 u13 u14 u15 u16 u17 u18 u19 u20 u21 u22 u23 u24 u25 u26 u27 u28 u29 u30 u31 u32 u33 u34 u35 u36 u37 u38 u39 u40 u41 u42 u43 u44 u45 u46 u47 u48 u49 u50 u51 u52 u53 u54 u55 u56 u57 u58 u59 u60 u61 u62 u63 u64 u65 u66 u67 u68 u69 u70 u71 u72 u73 u74 u75 u76 u77 u78 u79 u80 u81 u82 u83 u84 u85 u86 u87 u88 u89 : Value) : Code.wp Try.prog ofTail (bodyPost Try.prog Try.f65 R) ⟨#[.agg #[vF, vc, vp], .agg #[.int .i64 o, .int .i64 m, .string s, .slice A l.length cap], .pointer (some ⟨bs, 0, none⟩), .pointer (some ⟨bx, 0, none⟩), u4, u5, vts, u7, u8, u9, u10, u11, u12, u13, u14, u15, u16, u17, u18, u19, u20, u21, u22, u23, u24, u25, u26, u27, u28, u29, u30, u31, u32, u33, u34, u35, u36, u37, u38, u39, u40, u41, u42, u43, u44, u45, u46, u47, u48, u49, u50, u51, u52, u53, u54, u55, u56, u57, u58, u59, u60, u61, u62, u63, u64, u65, u66, u67, u68, u69, u70, u71, u72, u73, u74, u75, u76, u77, u78, u79, u80, u81, u82, u83, u84, u85, u86, u87, u88, u89], []⟩ w := by
  obtain ⟨s0, s1, s2, e0, e1, e2, e3, hF, hc, hp, hts, hr, hll⟩ := h
  obtain ⟨A9, cap9, b9, off9, rfl, z1, z2, -, -⟩ := Rd.sl_open hts
  obtain ⟨AF, capF, bF, offF, rfl, F1, F2, F3, F4⟩ := Rd.sl_open hF
  simp only [List.length_map] at *
  have hF' := Lib.hid hF; have hc' := Lib.hid hc; have hp' := Lib.hid hp; have hR' := Lib.hid hR; have hr' := Lib.hid hr
  have F3' := Lib.hid F3; have F4' := Lib.hid F4
  clear hF hc hp hR hr F3 F4
  obtain rfl := List.eq_nil_of_length_eq_zero hl
  simp only [List.length_nil] at *
  have hts' := Lib.hid hts
  clear hts
  subst ho
  obtain ⟨k, rfl⟩ := Int.eq_ofNat_of_zero_le hn
  have hlt : k < F.length := by omega
  obtain ⟨rfl, hSF⟩ := F3'.out (by omega)
  obtain ⟨A1, cap1, b1, off1, A2, cap2, b2, off2, c0, c1, c2, c3, c4, c5, c6, hr9, q1, q2, q3, q4, -⟩ := Fn.at F4'.out hlt
  have hpar := Lib.hid (Rd.sl_mk (w := w) (S := Any) (n := F[k].params.length) (l := F[k].params.map D.int) (by simp) (by simpa using q1) q2 (by simpa using q3) q4)
  have H := Lib.hid ((tail_call (F := F) (c := c) (p := p) (n := (k : Int)) (ts := []) hs).trans (show callT F (k : Int) [] = if F[k].params = [] then some F[k].res else none by simp [callT, List.getElem?_eq_getElem hlt, show ¬ ((k : Int) < 0) by omega]))
  have hn1 : ¬ F.length ≤ k := by omega
  have hn2 : ¬ (k : Int) < 0 := by omega
  have hSF2 := Lib.hid hSF
  clear hr9 q3 q4 hn hSF
  have hcall := equal_any F[k].params [] Any Any _ _ w hpar.out hts'.out
  by_cases heq : F[k].params = []
  · rw [decide_eq_true heq] at hcall
    have hcall' := Lib.hid hcall
    have heq' := Lib.hid heq
    clear hcall heq
    conv => arg 2; whnf
    go_wp2_with fail
    refine (hcall'.out).mono ?_
    rintro r w1 ⟨rfl, he⟩
    have e0 := he.at e0
    have e1 := he.at e1
    have s0 := he.at s0
    have c1 := he.at c1
    have c2 := he.at c2
    go_wp2_with fail
    try go_ret2
    exact hR'.out _ _ (by rw [H.out, if_pos heq'.out]; exact answer_some) he
  · rw [decide_eq_false heq] at hcall
    have hcall' := Lib.hid hcall
    have heq' := Lib.hid heq
    clear hcall heq
    conv => arg 2; whnf
    go_wp2_with fail
    refine (hcall'.out).mono ?_
    rintro r w1 ⟨rfl, he⟩
    have e0 := he.at e0
    have e1 := he.at e1
    have s0 := he.at s0
    go_wp2_with fail
    try go_ret2
    exact hR'.out _ _ (by rw [H.out, if_neg heq'.out]; exact answer_none) he

set_option maxRecDepth 100000 in
set_option maxHeartbeats 1000000 in
theorem of_call_lo_cons (F : List Fn) (c p : List Int) (o m : Int) (s : ByteArray) (l : List Ex) (A : Option Addr) (cap : Nat) (ts : List Int) (bs bx : Nat) (vF vc vp vts : Value) (w : World) (h : OfAt F c p o m s l A cap ts bs bx vF vc vp vts w) (hs : s.toList = []) (ho : o = 22) (hn : m < 0) (hl : ts ≠ []) (R : Ending → World → Prop) (hR : ∀ r w', Answer (tailT F c p o m s ts) r → Ext w w' → R r w')
    (u4 u5 u7 u8 u9 u10 u11 u12 u13 u14 u15 u16 u17 u18 u19 u20 u21 u22 u23 u24 u25 u26 u27 u28 u29 u30 u31 u32 u33 u34 u35 u36 u37 u38 u39 u40 u41 u42 u43 u44 u45 u46 u47 u48 u49 u50 u51 u52 u53 u54 u55 u56 u57 u58 u59 u60 u61 u62 u63 u64 u65 u66 u67 u68 u69 u70 u71 u72 u73 u74 u75 u76 u77 u78 u79 u80 u81 u82 u83 u84 u85 u86 u87 u88 u89 : Value) : Code.wp Try.prog ofTail (bodyPost Try.prog Try.f65 R) ⟨#[.agg #[vF, vc, vp], .agg #[.int .i64 o, .int .i64 m, .string s, .slice A l.length cap], .pointer (some ⟨bs, 0, none⟩), .pointer (some ⟨bx, 0, none⟩), u4, u5, vts, u7, u8, u9, u10, u11, u12, u13, u14, u15, u16, u17, u18, u19, u20, u21, u22, u23, u24, u25, u26, u27, u28, u29, u30, u31, u32, u33, u34, u35, u36, u37, u38, u39, u40, u41, u42, u43, u44, u45, u46, u47, u48, u49, u50, u51, u52, u53, u54, u55, u56, u57, u58, u59, u60, u61, u62, u63, u64, u65, u66, u67, u68, u69, u70, u71, u72, u73, u74, u75, u76, u77, u78, u79, u80, u81, u82, u83, u84, u85, u86, u87, u88, u89], []⟩ w := by
  obtain ⟨s0, s1, s2, e0, e1, e2, e3, hF, hc, hp, hts, hr, hll⟩ := h
  obtain ⟨A9, cap9, b9, off9, rfl, z1, z2, -, -⟩ := Rd.sl_open hts
  obtain ⟨AF, capF, bF, offF, rfl, F1, F2, F3, F4⟩ := Rd.sl_open hF
  simp only [List.length_map] at *
  have hF' := Lib.hid hF; have hc' := Lib.hid hc; have hp' := Lib.hid hp; have hR' := Lib.hid hR; have hr' := Lib.hid hr
  have F3' := Lib.hid F3; have F4' := Lib.hid F4
  clear hF hc hp hR hr F3 F4
  obtain ⟨t0, tr, rfl⟩ : ∃ t0 tr, ts = t0 :: tr := by cases ts with | nil => exact absurd rfl hl | cons a b => exact ⟨a, b, rfl⟩
  simp only [List.length_cons] at *
  have hts' := Lib.hid hts
  clear hts
  subst ho
  have H := Lib.hid ((tail_call (F := F) (c := c) (p := p) (n := m) (ts := t0 :: tr) hs).trans (callT_none (by omega)))
  conv => arg 2; whnf
  go_wp2_with fail
  try go_ret2
  exact hR'.out _ _ (by rw [H.out]; exact answer_none) (Ext.refl _)

set_option maxRecDepth 100000 in
set_option maxHeartbeats 1000000 in
theorem of_call_hi_cons (F : List Fn) (c p : List Int) (o m : Int) (s : ByteArray) (l : List Ex) (A : Option Addr) (cap : Nat) (ts : List Int) (bs bx : Nat) (vF vc vp vts : Value) (w : World) (h : OfAt F c p o m s l A cap ts bs bx vF vc vp vts w) (hs : s.toList = []) (ho : o = 22) (hn : (F.length : Int) ≤ m) (hl : ts ≠ []) (R : Ending → World → Prop) (hR : ∀ r w', Answer (tailT F c p o m s ts) r → Ext w w' → R r w')
    (u4 u5 u7 u8 u9 u10 u11 u12 u13 u14 u15 u16 u17 u18 u19 u20 u21 u22 u23 u24 u25 u26 u27 u28 u29 u30 u31 u32 u33 u34 u35 u36 u37 u38 u39 u40 u41 u42 u43 u44 u45 u46 u47 u48 u49 u50 u51 u52 u53 u54 u55 u56 u57 u58 u59 u60 u61 u62 u63 u64 u65 u66 u67 u68 u69 u70 u71 u72 u73 u74 u75 u76 u77 u78 u79 u80 u81 u82 u83 u84 u85 u86 u87 u88 u89 : Value) : Code.wp Try.prog ofTail (bodyPost Try.prog Try.f65 R) ⟨#[.agg #[vF, vc, vp], .agg #[.int .i64 o, .int .i64 m, .string s, .slice A l.length cap], .pointer (some ⟨bs, 0, none⟩), .pointer (some ⟨bx, 0, none⟩), u4, u5, vts, u7, u8, u9, u10, u11, u12, u13, u14, u15, u16, u17, u18, u19, u20, u21, u22, u23, u24, u25, u26, u27, u28, u29, u30, u31, u32, u33, u34, u35, u36, u37, u38, u39, u40, u41, u42, u43, u44, u45, u46, u47, u48, u49, u50, u51, u52, u53, u54, u55, u56, u57, u58, u59, u60, u61, u62, u63, u64, u65, u66, u67, u68, u69, u70, u71, u72, u73, u74, u75, u76, u77, u78, u79, u80, u81, u82, u83, u84, u85, u86, u87, u88, u89], []⟩ w := by
  obtain ⟨s0, s1, s2, e0, e1, e2, e3, hF, hc, hp, hts, hr, hll⟩ := h
  obtain ⟨A9, cap9, b9, off9, rfl, z1, z2, -, -⟩ := Rd.sl_open hts
  obtain ⟨AF, capF, bF, offF, rfl, F1, F2, F3, F4⟩ := Rd.sl_open hF
  simp only [List.length_map] at *
  have hF' := Lib.hid hF; have hc' := Lib.hid hc; have hp' := Lib.hid hp; have hR' := Lib.hid hR; have hr' := Lib.hid hr
  have F3' := Lib.hid F3; have F4' := Lib.hid F4
  clear hF hc hp hR hr F3 F4
  obtain ⟨t0, tr, rfl⟩ : ∃ t0 tr, ts = t0 :: tr := by cases ts with | nil => exact absurd rfl hl | cons a b => exact ⟨a, b, rfl⟩
  simp only [List.length_cons] at *
  have hts' := Lib.hid hts
  clear hts
  subst ho
  have h0 : ¬ m < 0 := by omega
  have H := Lib.hid ((tail_call (F := F) (c := c) (p := p) (n := m) (ts := t0 :: tr) hs).trans (callT_none (by omega)))
  conv => arg 2; whnf
  go_wp2_with fail
  try go_ret2
  exact hR'.out _ _ (by rw [H.out]; exact answer_none) (Ext.refl _)

set_option maxRecDepth 100000 in
set_option maxHeartbeats 1000000 in
theorem of_call_in_cons (F : List Fn) (c p : List Int) (o m : Int) (s : ByteArray) (l : List Ex) (A : Option Addr) (cap : Nat) (ts : List Int) (bs bx : Nat) (vF vc vp vts : Value) (w : World) (h : OfAt F c p o m s l A cap ts bs bx vF vc vp vts w) (hs : s.toList = []) (ho : o = 22) (hn : 0 ≤ m) (hn9 : m < F.length) (hl : ts ≠ []) (R : Ending → World → Prop) (hR : ∀ r w', Answer (tailT F c p o m s ts) r → Ext w w' → R r w')
    (u4 u5 u7 u8 u9 u10 u11 u12 u13 u14 u15 u16 u17 u18 u19 u20 u21 u22 u23 u24 u25 u26 u27 u28 u29 u30 u31 u32 u33 u34 u35 u36 u37 u38 u39 u40 u41 u42 u43 u44 u45 u46 u47 u48 u49 u50 u51 u52 u53 u54 u55 u56 u57 u58 u59 u60 u61 u62 u63 u64 u65 u66 u67 u68 u69 u70 u71 u72 u73 u74 u75 u76 u77 u78 u79 u80 u81 u82 u83 u84 u85 u86 u87 u88 u89 : Value) : Code.wp Try.prog ofTail (bodyPost Try.prog Try.f65 R) ⟨#[.agg #[vF, vc, vp], .agg #[.int .i64 o, .int .i64 m, .string s, .slice A l.length cap], .pointer (some ⟨bs, 0, none⟩), .pointer (some ⟨bx, 0, none⟩), u4, u5, vts, u7, u8, u9, u10, u11, u12, u13, u14, u15, u16, u17, u18, u19, u20, u21, u22, u23, u24, u25, u26, u27, u28, u29, u30, u31, u32, u33, u34, u35, u36, u37, u38, u39, u40, u41, u42, u43, u44, u45, u46, u47, u48, u49, u50, u51, u52, u53, u54, u55, u56, u57, u58, u59, u60, u61, u62, u63, u64, u65, u66, u67, u68, u69, u70, u71, u72, u73, u74, u75, u76, u77, u78, u79, u80, u81, u82, u83, u84, u85, u86, u87, u88, u89], []⟩ w := by
  obtain ⟨s0, s1, s2, e0, e1, e2, e3, hF, hc, hp, hts, hr, hll⟩ := h
  obtain ⟨A9, cap9, b9, off9, rfl, z1, z2, -, -⟩ := Rd.sl_open hts
  obtain ⟨AF, capF, bF, offF, rfl, F1, F2, F3, F4⟩ := Rd.sl_open hF
  simp only [List.length_map] at *
  have hF' := Lib.hid hF; have hc' := Lib.hid hc; have hp' := Lib.hid hp; have hR' := Lib.hid hR; have hr' := Lib.hid hr
  have F3' := Lib.hid F3; have F4' := Lib.hid F4
  clear hF hc hp hR hr F3 F4
  obtain ⟨t0, tr, rfl⟩ : ∃ t0 tr, ts = t0 :: tr := by cases ts with | nil => exact absurd rfl hl | cons a b => exact ⟨a, b, rfl⟩
  simp only [List.length_cons] at *
  have hts' := Lib.hid hts
  clear hts
  subst ho
  obtain ⟨k, rfl⟩ := Int.eq_ofNat_of_zero_le hn
  have hlt : k < F.length := by omega
  obtain ⟨rfl, hSF⟩ := F3'.out (by omega)
  obtain ⟨A1, cap1, b1, off1, A2, cap2, b2, off2, c0, c1, c2, c3, c4, c5, c6, hr9, q1, q2, q3, q4, -⟩ := Fn.at F4'.out hlt
  have hpar := Lib.hid (Rd.sl_mk (w := w) (S := Any) (n := F[k].params.length) (l := F[k].params.map D.int) (by simp) (by simpa using q1) q2 (by simpa using q3) q4)
  have H := Lib.hid ((tail_call (F := F) (c := c) (p := p) (n := (k : Int)) (ts := (t0 :: tr)) hs).trans (show callT F (k : Int) (t0 :: tr) = if F[k].params = (t0 :: tr) then some F[k].res else none by simp [callT, List.getElem?_eq_getElem hlt, show ¬ ((k : Int) < 0) by omega]))
  have hn1 : ¬ F.length ≤ k := by omega
  have hn2 : ¬ (k : Int) < 0 := by omega
  have hSF2 := Lib.hid hSF
  clear hr9 q3 q4 hn hSF
  have hcall := equal_any F[k].params (t0 :: tr) Any Any _ _ w hpar.out hts'.out
  by_cases heq : F[k].params = (t0 :: tr)
  · rw [decide_eq_true heq] at hcall
    have hcall' := Lib.hid hcall
    have heq' := Lib.hid heq
    clear hcall heq
    conv => arg 2; whnf
    go_wp2_with fail
    refine (hcall'.out).mono ?_
    rintro r w1 ⟨rfl, he⟩
    have e0 := he.at e0
    have e1 := he.at e1
    have s0 := he.at s0
    have c1 := he.at c1
    have c2 := he.at c2
    go_wp2_with fail
    try go_ret2
    exact hR'.out _ _ (by rw [H.out, if_pos heq'.out]; exact answer_some) he
  · rw [decide_eq_false heq] at hcall
    have hcall' := Lib.hid hcall
    have heq' := Lib.hid heq
    clear hcall heq
    conv => arg 2; whnf
    go_wp2_with fail
    refine (hcall'.out).mono ?_
    rintro r w1 ⟨rfl, he⟩
    have e0 := he.at e0
    have e1 := he.at e1
    have s0 := he.at s0
    go_wp2_with fail
    try go_ret2
    exact hR'.out _ _ (by rw [H.out, if_neg heq'.out]; exact answer_none) he

set_option maxRecDepth 100000 in
set_option maxHeartbeats 1000000 in
theorem of_leafa (F : List Fn) (c p : List Int) (o m : Int) (s : ByteArray) (l : List Ex) (A : Option Addr) (cap : Nat) (ts : List Int) (bs bx : Nat) (vF vc vp vts : Value) (w : World) (h : OfAt F c p o m s l A cap ts bs bx vF vc vp vts w) (hs : s.toList = []) (h22 : ¬ o = 22) (hl : ts.length = 0) (R : Ending → World → Prop) (hR : ∀ r w', Answer (tailT F c p o m s ts) r → Ext w w' → R r w')
    (u4 u5 u7 u8 u9 u10 u11 u12 u13 u14 u15 u16 u17 u18 u19 u20 u21 u22 u23 u24 u25 u26 u27 u28 u29 u30 u31 u32 u33 u34 u35 u36 u37 u38 u39 u40 u41 u42 u43 u44 u45 u46 u47 u48 u49 u50 u51 u52 u53 u54 u55 u56 u57 u58 u59 u60 u61 u62 u63 u64 u65 u66 u67 u68 u69 u70 u71 u72 u73 u74 u75 u76 u77 u78 u79 u80 u81 u82 u83 u84 u85 u86 u87 u88 u89 : Value) : Code.wp Try.prog ofTail (bodyPost Try.prog Try.f65 R) ⟨#[.agg #[vF, vc, vp], .agg #[.int .i64 o, .int .i64 m, .string s, .slice A l.length cap], .pointer (some ⟨bs, 0, none⟩), .pointer (some ⟨bx, 0, none⟩), u4, u5, vts, u7, u8, u9, u10, u11, u12, u13, u14, u15, u16, u17, u18, u19, u20, u21, u22, u23, u24, u25, u26, u27, u28, u29, u30, u31, u32, u33, u34, u35, u36, u37, u38, u39, u40, u41, u42, u43, u44, u45, u46, u47, u48, u49, u50, u51, u52, u53, u54, u55, u56, u57, u58, u59, u60, u61, u62, u63, u64, u65, u66, u67, u68, u69, u70, u71, u72, u73, u74, u75, u76, u77, u78, u79, u80, u81, u82, u83, u84, u85, u86, u87, u88, u89], []⟩ w := by
  obtain ⟨s0, s1, s2, e0, e1, e2, e3, hF, hc, hp, hts, hr, hll⟩ := h
  obtain ⟨A9, cap9, b9, off9, rfl, z1, z2, -, -⟩ := Rd.sl_open hts
  obtain ⟨AF, capF, bF, offF, rfl, F1, F2, F3, F4⟩ := Rd.sl_open hF
  simp only [List.length_map] at *
  have hF' := Lib.hid hF; have hc' := Lib.hid hc; have hp' := Lib.hid hp; have hR' := Lib.hid hR; have hr' := Lib.hid hr
  have F3' := Lib.hid F3; have F4' := Lib.hid F4
  clear hF hc hp hR hr F3 F4
  obtain rfl := List.eq_nil_of_length_eq_zero hl
  simp only [List.length_nil] at *
  have hts' := Lib.hid hts
  clear hts
  have h22b : (o == 22) = false := by simp [h22]
  have h22c : (o != 22) = true := by simp [h22]
  have H := Lib.hid (tail_leaf (F := F) (c := c) (p := p) (n := m) (s := s) (.inl hs) h22)
  conv => arg 2; whnf
  go_wp2_with fail
  refine (leaf_any c p (.mk o m s l) Any Any Any _ vc vp _ w hc'.out hp'.out hr'.out).mono ?_
  rintro r w1 ⟨⟨t, ok, rfl, hA⟩, he⟩
  have hA' := Lib.hid hA; clear hA
  go_wp2_with fail
  try go_ret2
  exact hR'.out _ _ (answer_of (by rw [hA'.out, H.out]; rfl)) he

set_option maxRecDepth 100000 in
set_option maxHeartbeats 1000000 in
theorem of_leafb (F : List Fn) (c p : List Int) (o m : Int) (s : ByteArray) (l : List Ex) (A : Option Addr) (cap : Nat) (ts : List Int) (bs bx : Nat) (vF vc vp vts : Value) (w : World) (h : OfAt F c p o m s l A cap ts bs bx vF vc vp vts w) (hs : ¬ s.toList = []) (h22 : ¬ o = 22) (ho : o = 1) (hl : ts.length = 0) (R : Ending → World → Prop) (hR : ∀ r w', Answer (tailT F c p o m s ts) r → Ext w w' → R r w')
    (u4 u5 u7 u8 u9 u10 u11 u12 u13 u14 u15 u16 u17 u18 u19 u20 u21 u22 u23 u24 u25 u26 u27 u28 u29 u30 u31 u32 u33 u34 u35 u36 u37 u38 u39 u40 u41 u42 u43 u44 u45 u46 u47 u48 u49 u50 u51 u52 u53 u54 u55 u56 u57 u58 u59 u60 u61 u62 u63 u64 u65 u66 u67 u68 u69 u70 u71 u72 u73 u74 u75 u76 u77 u78 u79 u80 u81 u82 u83 u84 u85 u86 u87 u88 u89 : Value) : Code.wp Try.prog ofTail (bodyPost Try.prog Try.f65 R) ⟨#[.agg #[vF, vc, vp], .agg #[.int .i64 o, .int .i64 m, .string s, .slice A l.length cap], .pointer (some ⟨bs, 0, none⟩), .pointer (some ⟨bx, 0, none⟩), u4, u5, vts, u7, u8, u9, u10, u11, u12, u13, u14, u15, u16, u17, u18, u19, u20, u21, u22, u23, u24, u25, u26, u27, u28, u29, u30, u31, u32, u33, u34, u35, u36, u37, u38, u39, u40, u41, u42, u43, u44, u45, u46, u47, u48, u49, u50, u51, u52, u53, u54, u55, u56, u57, u58, u59, u60, u61, u62, u63, u64, u65, u66, u67, u68, u69, u70, u71, u72, u73, u74, u75, u76, u77, u78, u79, u80, u81, u82, u83, u84, u85, u86, u87, u88, u89], []⟩ w := by
  obtain ⟨s0, s1, s2, e0, e1, e2, e3, hF, hc, hp, hts, hr, hll⟩ := h
  obtain ⟨A9, cap9, b9, off9, rfl, z1, z2, -, -⟩ := Rd.sl_open hts
  obtain ⟨AF, capF, bF, offF, rfl, F1, F2, F3, F4⟩ := Rd.sl_open hF
  simp only [List.length_map] at *
  have hF' := Lib.hid hF; have hc' := Lib.hid hc; have hp' := Lib.hid hp; have hR' := Lib.hid hR; have hr' := Lib.hid hr
  have F3' := Lib.hid F3; have F4' := Lib.hid F4
  clear hF hc hp hR hr F3 F4
  obtain rfl := List.eq_nil_of_length_eq_zero hl
  simp only [List.length_nil] at *
  have hts' := Lib.hid hts
  clear hts
  have h22b : (o == 22) = false := by simp [h22]
  have h22c : (o != 22) = true := by simp [h22]
  subst ho
  have H := Lib.hid (tail_leaf (F := F) (c := c) (p := p) (n := m) (s := s) (.inr rfl) h22)
  conv => arg 2; whnf
  go_wp2_with fail
  refine (leaf_any c p (.mk 1 m s l) Any Any Any _ vc vp _ w hc'.out hp'.out hr'.out).mono ?_
  rintro r w1 ⟨⟨t, ok, rfl, hA⟩, he⟩
  have hA' := Lib.hid hA; clear hA
  go_wp2_with fail
  try go_ret2
  exact hR'.out _ _ (answer_of (by rw [hA'.out, H.out]; rfl)) he

set_option maxRecDepth 100000 in
set_option maxHeartbeats 1000000 in
theorem of_opera (F : List Fn) (c p : List Int) (o m : Int) (s : ByteArray) (l : List Ex) (A : Option Addr) (cap : Nat) (ts : List Int) (bs bx : Nat) (vF vc vp vts : Value) (w : World) (h : OfAt F c p o m s l A cap ts bs bx vF vc vp vts w) (hs : s.toList = []) (h22 : ¬ o = 22) (hl : ts ≠ []) (R : Ending → World → Prop) (hR : ∀ r w', Answer (tailT F c p o m s ts) r → Ext w w' → R r w')
    (u4 u5 u7 u8 u9 u10 u11 u12 u13 u14 u15 u16 u17 u18 u19 u20 u21 u22 u23 u24 u25 u26 u27 u28 u29 u30 u31 u32 u33 u34 u35 u36 u37 u38 u39 u40 u41 u42 u43 u44 u45 u46 u47 u48 u49 u50 u51 u52 u53 u54 u55 u56 u57 u58 u59 u60 u61 u62 u63 u64 u65 u66 u67 u68 u69 u70 u71 u72 u73 u74 u75 u76 u77 u78 u79 u80 u81 u82 u83 u84 u85 u86 u87 u88 u89 : Value) : Code.wp Try.prog ofTail (bodyPost Try.prog Try.f65 R) ⟨#[.agg #[vF, vc, vp], .agg #[.int .i64 o, .int .i64 m, .string s, .slice A l.length cap], .pointer (some ⟨bs, 0, none⟩), .pointer (some ⟨bx, 0, none⟩), u4, u5, vts, u7, u8, u9, u10, u11, u12, u13, u14, u15, u16, u17, u18, u19, u20, u21, u22, u23, u24, u25, u26, u27, u28, u29, u30, u31, u32, u33, u34, u35, u36, u37, u38, u39, u40, u41, u42, u43, u44, u45, u46, u47, u48, u49, u50, u51, u52, u53, u54, u55, u56, u57, u58, u59, u60, u61, u62, u63, u64, u65, u66, u67, u68, u69, u70, u71, u72, u73, u74, u75, u76, u77, u78, u79, u80, u81, u82, u83, u84, u85, u86, u87, u88, u89], []⟩ w := by
  obtain ⟨s0, s1, s2, e0, e1, e2, e3, hF, hc, hp, hts, hr, hll⟩ := h
  obtain ⟨A9, cap9, b9, off9, rfl, z1, z2, -, -⟩ := Rd.sl_open hts
  obtain ⟨AF, capF, bF, offF, rfl, F1, F2, F3, F4⟩ := Rd.sl_open hF
  simp only [List.length_map] at *
  have hF' := Lib.hid hF; have hc' := Lib.hid hc; have hp' := Lib.hid hp; have hR' := Lib.hid hR; have hr' := Lib.hid hr
  have F3' := Lib.hid F3; have F4' := Lib.hid F4
  clear hF hc hp hR hr F3 F4
  obtain ⟨t0, tr, rfl⟩ : ∃ t0 tr, ts = t0 :: tr := by cases ts with | nil => exact absurd rfl hl | cons a b => exact ⟨a, b, rfl⟩
  simp only [List.length_cons] at *
  have hts' := Lib.hid hts
  clear hts
  have h22b : (o == 22) = false := by simp [h22]
  have h22c : (o != 22) = true := by simp [h22]
  have H := Lib.hid (tail_oper2 (F := F) (c := c) (p := p) (n := m) (s := s) (ts := t0 :: tr) (.inl hs) h22 (by simp))
  conv => arg 2; whnf
  go_wp2_with fail
  refine (operation_any (.mk o m s l) (t0 :: tr) Any Any _ _ w hr'.out hts'.out (by simp)).mono ?_
  rintro r w1 ⟨⟨t, ok, rfl, hA⟩, he⟩
  have hA' := Lib.hid hA; clear hA
  go_wp2_with fail
  try go_ret2
  exact hR'.out _ _ (answer_of (by rw [hA'.out, H.out]; rfl)) he

set_option maxRecDepth 100000 in
set_option maxHeartbeats 1000000 in
theorem of_operb (F : List Fn) (c p : List Int) (o m : Int) (s : ByteArray) (l : List Ex) (A : Option Addr) (cap : Nat) (ts : List Int) (bs bx : Nat) (vF vc vp vts : Value) (w : World) (h : OfAt F c p o m s l A cap ts bs bx vF vc vp vts w) (hs : ¬ s.toList = []) (h22 : ¬ o = 22) (ho : o = 1) (hl : ts ≠ []) (R : Ending → World → Prop) (hR : ∀ r w', Answer (tailT F c p o m s ts) r → Ext w w' → R r w')
    (u4 u5 u7 u8 u9 u10 u11 u12 u13 u14 u15 u16 u17 u18 u19 u20 u21 u22 u23 u24 u25 u26 u27 u28 u29 u30 u31 u32 u33 u34 u35 u36 u37 u38 u39 u40 u41 u42 u43 u44 u45 u46 u47 u48 u49 u50 u51 u52 u53 u54 u55 u56 u57 u58 u59 u60 u61 u62 u63 u64 u65 u66 u67 u68 u69 u70 u71 u72 u73 u74 u75 u76 u77 u78 u79 u80 u81 u82 u83 u84 u85 u86 u87 u88 u89 : Value) : Code.wp Try.prog ofTail (bodyPost Try.prog Try.f65 R) ⟨#[.agg #[vF, vc, vp], .agg #[.int .i64 o, .int .i64 m, .string s, .slice A l.length cap], .pointer (some ⟨bs, 0, none⟩), .pointer (some ⟨bx, 0, none⟩), u4, u5, vts, u7, u8, u9, u10, u11, u12, u13, u14, u15, u16, u17, u18, u19, u20, u21, u22, u23, u24, u25, u26, u27, u28, u29, u30, u31, u32, u33, u34, u35, u36, u37, u38, u39, u40, u41, u42, u43, u44, u45, u46, u47, u48, u49, u50, u51, u52, u53, u54, u55, u56, u57, u58, u59, u60, u61, u62, u63, u64, u65, u66, u67, u68, u69, u70, u71, u72, u73, u74, u75, u76, u77, u78, u79, u80, u81, u82, u83, u84, u85, u86, u87, u88, u89], []⟩ w := by
  obtain ⟨s0, s1, s2, e0, e1, e2, e3, hF, hc, hp, hts, hr, hll⟩ := h
  obtain ⟨A9, cap9, b9, off9, rfl, z1, z2, -, -⟩ := Rd.sl_open hts
  obtain ⟨AF, capF, bF, offF, rfl, F1, F2, F3, F4⟩ := Rd.sl_open hF
  simp only [List.length_map] at *
  have hF' := Lib.hid hF; have hc' := Lib.hid hc; have hp' := Lib.hid hp; have hR' := Lib.hid hR; have hr' := Lib.hid hr
  have F3' := Lib.hid F3; have F4' := Lib.hid F4
  clear hF hc hp hR hr F3 F4
  obtain ⟨t0, tr, rfl⟩ : ∃ t0 tr, ts = t0 :: tr := by cases ts with | nil => exact absurd rfl hl | cons a b => exact ⟨a, b, rfl⟩
  simp only [List.length_cons] at *
  have hts' := Lib.hid hts
  clear hts
  have h22b : (o == 22) = false := by simp [h22]
  have h22c : (o != 22) = true := by simp [h22]
  subst ho
  have H := Lib.hid (tail_oper2 (F := F) (c := c) (p := p) (n := m) (s := s) (ts := t0 :: tr) (.inr rfl) h22 (by simp))
  conv => arg 2; whnf
  go_wp2_with fail
  refine (operation_any (.mk 1 m s l) (t0 :: tr) Any Any _ _ w hr'.out hts'.out (by simp)).mono ?_
  rintro r w1 ⟨⟨t, ok, rfl, hA⟩, he⟩
  have hA' := Lib.hid hA; clear hA
  go_wp2_with fail
  try go_ret2
  exact hR'.out _ _ (answer_of (by rw [hA'.out, H.out]; rfl)) he

set_option maxHeartbeats 1000000 in
theorem of_tail (F : List Fn) (c p : List Int) (o m : Int) (s : ByteArray) (l : List Ex) (A : Option Addr) (cap : Nat) (ts : List Int) (bs bx : Nat) (vF vc vp vts : Value) (w : World) (h : OfAt F c p o m s l A cap ts bs bx vF vc vp vts w) (R : Ending → World → Prop) (hR : ∀ r w', Answer (tailT F c p o m s ts) r → Ext w w' → R r w')
    (u4 u5 u7 u8 u9 u10 u11 u12 u13 u14 u15 u16 u17 u18 u19 u20 u21 u22 u23 u24 u25 u26 u27 u28 u29 u30 u31 u32 u33 u34 u35 u36 u37 u38 u39 u40 u41 u42 u43 u44 u45 u46 u47 u48 u49 u50 u51 u52 u53 u54 u55 u56 u57 u58 u59 u60 u61 u62 u63 u64 u65 u66 u67 u68 u69 u70 u71 u72 u73 u74 u75 u76 u77 u78 u79 u80 u81 u82 u83 u84 u85 u86 u87 u88 u89 : Value) : Code.wp Try.prog ofTail (bodyPost Try.prog Try.f65 R) ⟨#[.agg #[vF, vc, vp], .agg #[.int .i64 o, .int .i64 m, .string s, .slice A l.length cap], .pointer (some ⟨bs, 0, none⟩), .pointer (some ⟨bx, 0, none⟩), u4, u5, vts, u7, u8, u9, u10, u11, u12, u13, u14, u15, u16, u17, u18, u19, u20, u21, u22, u23, u24, u25, u26, u27, u28, u29, u30, u31, u32, u33, u34, u35, u36, u37, u38, u39, u40, u41, u42, u43, u44, u45, u46, u47, u48, u49, u50, u51, u52, u53, u54, u55, u56, u57, u58, u59, u60, u61, u62, u63, u64, u65, u66, u67, u68, u69, u70, u71, u72, u73, u74, u75, u76, u77, u78, u79, u80, u81, u82, u83, u84, u85, u86, u87, u88, u89], []⟩ w := by
  by_cases h22 : o = 22
  · by_cases hs : s.toList = []
    · by_cases hl : ts.length = 0
      · by_cases hn : m < 0
        · apply of_call_lo_nil <;> assumption
        · have hn0 : 0 ≤ m := by omega
          by_cases hn1 : (F.length : Int) ≤ m
          · apply of_call_hi_nil <;> assumption
          · have hn2 : m < F.length := by omega
            apply of_call_in_nil <;> assumption
      · have hl2 : ts ≠ [] := fun h => hl (by rw [h]; rfl)
        by_cases hn : m < 0
        · apply of_call_lo_cons <;> assumption
        · have hn0 : 0 ≤ m := by omega
          by_cases hn1 : (F.length : Int) ≤ m
          · apply of_call_hi_cons <;> assumption
          · have hn2 : m < F.length := by omega
            apply of_call_in_cons <;> assumption
    · have ho : ¬ o = 1 := by omega
      apply of_text <;> assumption
  · by_cases hs : s.toList = []
    · by_cases hl : ts.length = 0
      · apply of_leafa <;> assumption
      · have hl2 : ts ≠ [] := fun h => hl (by rw [h]; rfl)
        apply of_opera <;> assumption
    · by_cases ho : o = 1
      · by_cases hl : ts.length = 0
        · apply of_leafb <;> assumption
        · have hl2 : ts ≠ [] := fun h => hl (by rw [h]; rfl)
          apply of_operb <;> assumption
      · apply of_text <;> assumption

end Go.Proofs.Ytmhelkhmgbbfhaa
