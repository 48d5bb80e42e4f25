/- Walk: the end of (frame).eval, behind the loop: a theorem for each kind of operation. (written by gen_eval.py) -/
import Derived.Test.YtmhelkhmgbbfhaaEvalIf16
namespace Go.Proofs.Ytmhelkhmgbbfhaa
open Go.RowKit Go.Lib

noncomputable def evalTail : Code := restFrom 11 ((Try.f42.body).getD .skip)

/-- what holds where the tail begins -/
def EvalAt (F : List Fn) (time : Int) (R P : List Val) (o n : Int) (s : ByteArray) (l : List Ex) (A : Option Addr) (cap : Nat) (vs : List Val) (w0 : World) (vF vR vP vl : Value) (w : World) : Prop :=
  w.cell? ⟨w0.heap.size, 0, none⟩ = some vF ∧ w.cell? ⟨w0.heap.size, 1, none⟩ = some (.int .i64 time) ∧ w.cell? ⟨w0.heap.size, 2, none⟩ = some vR ∧ w.cell? ⟨w0.heap.size, 3, none⟩ = some vP ∧
  w.cell? ⟨w0.heap.size + 1, 0, none⟩ = some (.int .i64 o) ∧ w.cell? ⟨w0.heap.size + 1, 1, none⟩ = some (.int .i64 n) ∧ w.cell? ⟨w0.heap.size + 1, 2, none⟩ = some (.string s) ∧
  w.cell? ⟨w0.heap.size + 1 + 1, 0, none⟩ = some (.int .i64 0) ∧ w.cell? ⟨w0.heap.size + 1 + 1, 1, none⟩ = some (.int .i64 0) ∧ w.cell? ⟨w0.heap.size + 1 + 1, 2, none⟩ = some (.string ByteArray.empty) ∧
  w.frozen? ⟨w0.heap.size + 1 + 1, 0, none⟩ = false ∧ w.frozen? ⟨w0.heap.size + 1 + 1, 1, none⟩ = false ∧ w.frozen? ⟨w0.heap.size + 1 + 1, 2, none⟩ = false ∧ w0.heap.size + 1 + 1 < w.heap.size ∧ Ext w0 w ∧
  Rd w Any (.sl (F.map Fn.d)) [vF] ∧ Rd w Any (.sl (R.map Val.d)) [vR] ∧ Rd w Any (.sl (P.map Val.d)) [vP] ∧ Rd w Any (.sl (vs.map Val.d)) [vl]

set_option maxRecDepth 100000 in
set_option maxHeartbeats 1000000 in
theorem ev_int (F : List Fn) (time : Int) (R P : List Val) (o n : Int) (s : ByteArray) (l : List Ex) (A : Option Addr) (cap : Nat) (vs : List Val) (w0 : World) (vF vR vP vl : Value) (w : World) (h : EvalAt F time R P o n s l A cap vs w0 vF vR vP vl w) (ho : o = 0) (Q : Ending → World → Prop) (hK : ∀ w', Ext w0 w' → Q (.returned (numV n).v) w')
    (u6 u7 u8 u9 u10 u11 u12 u13 u14 u15 u16 u17 u18 u19 u20 u21 u22 u23 u24 u25 u26 u27 u28 u29 u30 u31 u32 u33 u34 u35 u36 u37 u38 u39 u40 u41 u42 u43 u44 u45 u46 u47 u48 u49 u50 u51 u52 u53 u54 u55 u56 u57 u58 u59 u60 u61 u62 u63 u64 u65 u66 u67 u68 u69 u70 u71 u72 u73 u74 u75 u76 u77 u78 u79 u80 u81 u82 u83 u84 u85 u86 u87 u88 u89 u90 u91 u92 u93 u94 u95 u96 u97 u98 u99 u100 u101 u102 u103 u104 u105 u106 u107 u108 u109 u110 u111 u112 u113 u114 u115 u116 u117 u118 u119 u120 u121 u122 u123 u124 u125 u126 u127 u128 u129 u130 u131 u132 u133 u134 u135 u136 u137 u138 : Value) : Code.wp Try.prog evalTail (bodyPost Try.prog Try.f42 Q) ⟨#[frameV vF time vR vP, .agg #[.int .i64 o, .int .i64 n, .string s, .slice A l.length cap], .pointer (some ⟨w0.heap.size, 0, none⟩), .pointer (some ⟨w0.heap.size + 1, 0, none⟩), .pointer (some ⟨w0.heap.size + 1 + 1, 0, none⟩), vl, u6, u7, u8, u9, u10, u11, u12, u13, u14, u15, u16, u17, u18, u19, u20, u21, u22, u23, u24, u25, u26, u27, u28, u29, u30, u31, u32, u33, u34, u35, u36, u37, u38, u39, u40, u41, u42, u43, u44, u45, u46, u47, u48, u49, u50, u51, u52, u53, u54, u55, u56, u57, u58, u59, u60, u61, u62, u63, u64, u65, u66, u67, u68, u69, u70, u71, u72, u73, u74, u75, u76, u77, u78, u79, u80, u81, u82, u83, u84, u85, u86, u87, u88, u89, u90, u91, u92, u93, u94, u95, u96, u97, u98, u99, u100, u101, u102, u103, u104, u105, u106, u107, u108, u109, u110, u111, u112, u113, u114, u115, u116, u117, u118, u119, u120, u121, u122, u123, u124, u125, u126, u127, u128, u129, u130, u131, u132, u133, u134, u135, u136, u137, u138], []⟩ w := by
  obtain ⟨s0, s1, s2, s3, e0, e1, e2, f0, f1, f2, z0, z1, z2, hlt, hw, hF, hR, hP, hl⟩ := h
  have hK' := Lib.hid hK; clear hK
  simp only [frameV]
  subst ho
  clear hF hR hP hl
  conv => arg 2; whnf
  go_wp2_with fail
  refine (number_any _ _).mono ?_
  rintro r w1 ⟨rfl, he⟩
  replace f0 := he.at f0
  replace f1 := he.at f1
  replace f2 := he.at f2
  replace z0 := (he.frozens _ _ hlt).trans z0
  replace z1 := (he.frozens _ _ hlt).trans z1
  replace z2 := (he.frozens _ _ hlt).trans z2
  replace hw : Ext w0 w1 := hw.trans he
  simp only [numV, Val.v]
  go_wp2_with fail
  exact bodyPost_ret (v := .agg #[.int .i64 0, .int .i64 (n), .string ByteArray.empty]) (by simp [results, Try.results42, go_sem, f0, f1, f2]) rfl (hK'.out _ (ext_three hw _ (by omega) _ _ _))

set_option maxRecDepth 100000 in
set_option maxHeartbeats 1000000 in
theorem ev_text (F : List Fn) (time : Int) (R P : List Val) (o n : Int) (s : ByteArray) (l : List Ex) (A : Option Addr) (cap : Nat) (vs : List Val) (w0 : World) (vF vR vP vl : Value) (w : World) (h : EvalAt F time R P o n s l A cap vs w0 vF vR vP vl w) (ho : o = 1) (Q : Ending → World → Prop) (hK : ∀ w', Ext w0 w' → Q (.returned (textV s).v) w')
    (u6 u7 u8 u9 u10 u11 u12 u13 u14 u15 u16 u17 u18 u19 u20 u21 u22 u23 u24 u25 u26 u27 u28 u29 u30 u31 u32 u33 u34 u35 u36 u37 u38 u39 u40 u41 u42 u43 u44 u45 u46 u47 u48 u49 u50 u51 u52 u53 u54 u55 u56 u57 u58 u59 u60 u61 u62 u63 u64 u65 u66 u67 u68 u69 u70 u71 u72 u73 u74 u75 u76 u77 u78 u79 u80 u81 u82 u83 u84 u85 u86 u87 u88 u89 u90 u91 u92 u93 u94 u95 u96 u97 u98 u99 u100 u101 u102 u103 u104 u105 u106 u107 u108 u109 u110 u111 u112 u113 u114 u115 u116 u117 u118 u119 u120 u121 u122 u123 u124 u125 u126 u127 u128 u129 u130 u131 u132 u133 u134 u135 u136 u137 u138 : Value) : Code.wp Try.prog evalTail (bodyPost Try.prog Try.f42 Q) ⟨#[frameV vF time vR vP, .agg #[.int .i64 o, .int .i64 n, .string s, .slice A l.length cap], .pointer (some ⟨w0.heap.size, 0, none⟩), .pointer (some ⟨w0.heap.size + 1, 0, none⟩), .pointer (some ⟨w0.heap.size + 1 + 1, 0, none⟩), vl, u6, u7, u8, u9, u10, u11, u12, u13, u14, u15, u16, u17, u18, u19, u20, u21, u22, u23, u24, u25, u26, u27, u28, u29, u30, u31, u32, u33, u34, u35, u36, u37, u38, u39, u40, u41, u42, u43, u44, u45, u46, u47, u48, u49, u50, u51, u52, u53, u54, u55, u56, u57, u58, u59, u60, u61, u62, u63, u64, u65, u66, u67, u68, u69, u70, u71, u72, u73, u74, u75, u76, u77, u78, u79, u80, u81, u82, u83, u84, u85, u86, u87, u88, u89, u90, u91, u92, u93, u94, u95, u96, u97, u98, u99, u100, u101, u102, u103, u104, u105, u106, u107, u108, u109, u110, u111, u112, u113, u114, u115, u116, u117, u118, u119, u120, u121, u122, u123, u124, u125, u126, u127, u128, u129, u130, u131, u132, u133, u134, u135, u136, u137, u138], []⟩ w := by
  obtain ⟨s0, s1, s2, s3, e0, e1, e2, f0, f1, f2, z0, z1, z2, hlt, hw, hF, hR, hP, hl⟩ := h
  have hK' := Lib.hid hK; clear hK
  simp only [frameV]
  subst ho
  clear hF hR hP hl
  conv => arg 2; whnf
  go_wp2_with fail
  exact bodyPost_ret (v := .agg #[.int .i64 1, .int .i64 0, .string s]) (by simp [results, Try.results42, go_sem, f0, f1, f2]) rfl (hK'.out _ (ext_three hw _ (by omega) _ _ _))

set_option maxRecDepth 100000 in
set_option maxHeartbeats 1000000 in
theorem ev_bool (F : List Fn) (time : Int) (R P : List Val) (o n : Int) (s : ByteArray) (l : List Ex) (A : Option Addr) (cap : Nat) (vs : List Val) (w0 : World) (vF vR vP vl : Value) (w : World) (h : EvalAt F time R P o n s l A cap vs w0 vF vR vP vl w) (ho : o = 2) (Q : Ending → World → Prop) (hK : ∀ w', Ext w0 w' → Q (.returned (boolV (decide (n = 1))).v) w')
    (u6 u7 u8 u9 u10 u11 u12 u13 u14 u15 u16 u17 u18 u19 u20 u21 u22 u23 u24 u25 u26 u27 u28 u29 u30 u31 u32 u33 u34 u35 u36 u37 u38 u39 u40 u41 u42 u43 u44 u45 u46 u47 u48 u49 u50 u51 u52 u53 u54 u55 u56 u57 u58 u59 u60 u61 u62 u63 u64 u65 u66 u67 u68 u69 u70 u71 u72 u73 u74 u75 u76 u77 u78 u79 u80 u81 u82 u83 u84 u85 u86 u87 u88 u89 u90 u91 u92 u93 u94 u95 u96 u97 u98 u99 u100 u101 u102 u103 u104 u105 u106 u107 u108 u109 u110 u111 u112 u113 u114 u115 u116 u117 u118 u119 u120 u121 u122 u123 u124 u125 u126 u127 u128 u129 u130 u131 u132 u133 u134 u135 u136 u137 u138 : Value) : Code.wp Try.prog evalTail (bodyPost Try.prog Try.f42 Q) ⟨#[frameV vF time vR vP, .agg #[.int .i64 o, .int .i64 n, .string s, .slice A l.length cap], .pointer (some ⟨w0.heap.size, 0, none⟩), .pointer (some ⟨w0.heap.size + 1, 0, none⟩), .pointer (some ⟨w0.heap.size + 1 + 1, 0, none⟩), vl, u6, u7, u8, u9, u10, u11, u12, u13, u14, u15, u16, u17, u18, u19, u20, u21, u22, u23, u24, u25, u26, u27, u28, u29, u30, u31, u32, u33, u34, u35, u36, u37, u38, u39, u40, u41, u42, u43, u44, u45, u46, u47, u48, u49, u50, u51, u52, u53, u54, u55, u56, u57, u58, u59, u60, u61, u62, u63, u64, u65, u66, u67, u68, u69, u70, u71, u72, u73, u74, u75, u76, u77, u78, u79, u80, u81, u82, u83, u84, u85, u86, u87, u88, u89, u90, u91, u92, u93, u94, u95, u96, u97, u98, u99, u100, u101, u102, u103, u104, u105, u106, u107, u108, u109, u110, u111, u112, u113, u114, u115, u116, u117, u118, u119, u120, u121, u122, u123, u124, u125, u126, u127, u128, u129, u130, u131, u132, u133, u134, u135, u136, u137, u138], []⟩ w := by
  obtain ⟨s0, s1, s2, s3, e0, e1, e2, f0, f1, f2, z0, z1, z2, hlt, hw, hF, hR, hP, hl⟩ := h
  have hK' := Lib.hid hK; clear hK
  simp only [frameV]
  subst ho
  clear hF hR hP hl
  have hnb : (n == 1) = decide (n = 1) := rfl
  cases hb : decide (n = 1)
  all_goals
    rw [hb] at hnb
    simp only [hb] at hK'
    clear hb
    conv => arg 2; whnf
    go_wp2_with fail
    refine (truth_any _ _).mono ?_
    rintro r w1 ⟨rfl, he⟩
    replace f0 := he.at f0
    replace f1 := he.at f1
    replace f2 := he.at f2
    replace z0 := (he.frozens _ _ hlt).trans z0
    replace z1 := (he.frozens _ _ hlt).trans z1
    replace z2 := (he.frozens _ _ hlt).trans z2
    replace hw : Ext w0 w1 := hw.trans he
    simp only [boolV, Val.v]
    go_wp2_with fail
    first
      | (refine bodyPost_ret (v := .agg #[.int .i64 2, .int .i64 1, .string ByteArray.empty]) ?_ rfl ?_
         · simp [results, Try.results42, go_sem, f0, f1, f2]
         · exact hK'.out _ (ext_three hw _ (by omega) _ _ _))
      | (refine bodyPost_ret (v := .agg #[.int .i64 2, .int .i64 0, .string ByteArray.empty]) ?_ rfl ?_
         · simp [results, Try.results42, go_sem, f0, f1, f2]
         · exact hK'.out _ (ext_three hw _ (by omega) _ _ _))

set_option maxRecDepth 100000 in
set_option maxHeartbeats 1000000 in
theorem ev_col (F : List Fn) (time : Int) (R P : List Val) (o n : Int) (s : ByteArray) (l : List Ex) (A : Option Addr) (cap : Nat) (vs : List Val) (w0 : World) (vF vR vP vl : Value) (w : World) (h : EvalAt F time R P o n s l A cap vs w0 vF vR vP vl w) (ho : o = 3) (hn0 : 0 ≤ n) (hn1 : n.toNat < R.length) (Q : Ending → World → Prop) (hK : ∀ w', Ext w0 w' → Q (.returned (R.getD n.toNat zeroV).v) w')
    (u6 u7 u8 u9 u10 u11 u12 u13 u14 u15 u16 u17 u18 u19 u20 u21 u22 u23 u24 u25 u26 u27 u28 u29 u30 u31 u32 u33 u34 u35 u36 u37 u38 u39 u40 u41 u42 u43 u44 u45 u46 u47 u48 u49 u50 u51 u52 u53 u54 u55 u56 u57 u58 u59 u60 u61 u62 u63 u64 u65 u66 u67 u68 u69 u70 u71 u72 u73 u74 u75 u76 u77 u78 u79 u80 u81 u82 u83 u84 u85 u86 u87 u88 u89 u90 u91 u92 u93 u94 u95 u96 u97 u98 u99 u100 u101 u102 u103 u104 u105 u106 u107 u108 u109 u110 u111 u112 u113 u114 u115 u116 u117 u118 u119 u120 u121 u122 u123 u124 u125 u126 u127 u128 u129 u130 u131 u132 u133 u134 u135 u136 u137 u138 : Value) : Code.wp Try.prog evalTail (bodyPost Try.prog Try.f42 Q) ⟨#[frameV vF time vR vP, .agg #[.int .i64 o, .int .i64 n, .string s, .slice A l.length cap], .pointer (some ⟨w0.heap.size, 0, none⟩), .pointer (some ⟨w0.heap.size + 1, 0, none⟩), .pointer (some ⟨w0.heap.size + 1 + 1, 0, none⟩), vl, u6, u7, u8, u9, u10, u11, u12, u13, u14, u15, u16, u17, u18, u19, u20, u21, u22, u23, u24, u25, u26, u27, u28, u29, u30, u31, u32, u33, u34, u35, u36, u37, u38, u39, u40, u41, u42, u43, u44, u45, u46, u47, u48, u49, u50, u51, u52, u53, u54, u55, u56, u57, u58, u59, u60, u61, u62, u63, u64, u65, u66, u67, u68, u69, u70, u71, u72, u73, u74, u75, u76, u77, u78, u79, u80, u81, u82, u83, u84, u85, u86, u87, u88, u89, u90, u91, u92, u93, u94, u95, u96, u97, u98, u99, u100, u101, u102, u103, u104, u105, u106, u107, u108, u109, u110, u111, u112, u113, u114, u115, u116, u117, u118, u119, u120, u121, u122, u123, u124, u125, u126, u127, u128, u129, u130, u131, u132, u133, u134, u135, u136, u137, u138], []⟩ w := by
  obtain ⟨s0, s1, s2, s3, e0, e1, e2, f0, f1, f2, z0, z1, z2, hlt, hw, hF, hR, hP, hl⟩ := h
  have hK' := Lib.hid hK; clear hK
  simp only [frameV]
  subst ho
  obtain ⟨k, rfl⟩ := Int.eq_ofNat_of_zero_le hn0
  have hk : k < R.length := by omega
  obtain ⟨A9, cap9, b9, off9, rfl, g1, g2, g3, g4⟩ := Rd.sl_open hR
  simp only [List.length_map] at *
  obtain ⟨rfl, -⟩ := g3 (by omega)
  obtain ⟨c0, c1, c2, -⟩ := Val.at g4 hk
  have hv : R.getD (k : Int).toNat zeroV = R[k] := by rw [Int.toNat_natCast, List.getD_eq_getElem?_getD, List.getElem?_eq_getElem hk]; rfl
  simp only [hv] at hK'
  clear hv g3 g4 hF hR hP hl hn1
  generalize R[k] = X at *
  obtain ⟨kx, nx, sx⟩ := X
  simp only [Val.v] at *
  conv => arg 2; whnf
  go_wp2_with fail
  exact bodyPost_ret (v := .agg #[.int .i64 kx, .int .i64 nx, .string sx]) (by simp [results, Try.results42, go_sem, f0, f1, f2]) rfl (hK'.out _ (ext_three hw _ (by omega) _ _ _))

set_option maxRecDepth 100000 in
set_option maxHeartbeats 1000000 in
theorem ev_param (F : List Fn) (time : Int) (R P : List Val) (o n : Int) (s : ByteArray) (l : List Ex) (A : Option Addr) (cap : Nat) (vs : List Val) (w0 : World) (vF vR vP vl : Value) (w : World) (h : EvalAt F time R P o n s l A cap vs w0 vF vR vP vl w) (ho : o = 4) (hn0 : 0 ≤ n) (hn1 : n.toNat < P.length) (Q : Ending → World → Prop) (hK : ∀ w', Ext w0 w' → Q (.returned (P.getD n.toNat zeroV).v) w')
    (u6 u7 u8 u9 u10 u11 u12 u13 u14 u15 u16 u17 u18 u19 u20 u21 u22 u23 u24 u25 u26 u27 u28 u29 u30 u31 u32 u33 u34 u35 u36 u37 u38 u39 u40 u41 u42 u43 u44 u45 u46 u47 u48 u49 u50 u51 u52 u53 u54 u55 u56 u57 u58 u59 u60 u61 u62 u63 u64 u65 u66 u67 u68 u69 u70 u71 u72 u73 u74 u75 u76 u77 u78 u79 u80 u81 u82 u83 u84 u85 u86 u87 u88 u89 u90 u91 u92 u93 u94 u95 u96 u97 u98 u99 u100 u101 u102 u103 u104 u105 u106 u107 u108 u109 u110 u111 u112 u113 u114 u115 u116 u117 u118 u119 u120 u121 u122 u123 u124 u125 u126 u127 u128 u129 u130 u131 u132 u133 u134 u135 u136 u137 u138 : Value) : Code.wp Try.prog evalTail (bodyPost Try.prog Try.f42 Q) ⟨#[frameV vF time vR vP, .agg #[.int .i64 o, .int .i64 n, .string s, .slice A l.length cap], .pointer (some ⟨w0.heap.size, 0, none⟩), .pointer (some ⟨w0.heap.size + 1, 0, none⟩), .pointer (some ⟨w0.heap.size + 1 + 1, 0, none⟩), vl, u6, u7, u8, u9, u10, u11, u12, u13, u14, u15, u16, u17, u18, u19, u20, u21, u22, u23, u24, u25, u26, u27, u28, u29, u30, u31, u32, u33, u34, u35, u36, u37, u38, u39, u40, u41, u42, u43, u44, u45, u46, u47, u48, u49, u50, u51, u52, u53, u54, u55, u56, u57, u58, u59, u60, u61, u62, u63, u64, u65, u66, u67, u68, u69, u70, u71, u72, u73, u74, u75, u76, u77, u78, u79, u80, u81, u82, u83, u84, u85, u86, u87, u88, u89, u90, u91, u92, u93, u94, u95, u96, u97, u98, u99, u100, u101, u102, u103, u104, u105, u106, u107, u108, u109, u110, u111, u112, u113, u114, u115, u116, u117, u118, u119, u120, u121, u122, u123, u124, u125, u126, u127, u128, u129, u130, u131, u132, u133, u134, u135, u136, u137, u138], []⟩ w := by
  obtain ⟨s0, s1, s2, s3, e0, e1, e2, f0, f1, f2, z0, z1, z2, hlt, hw, hF, hR, hP, hl⟩ := h
  have hK' := Lib.hid hK; clear hK
  simp only [frameV]
  subst ho
  obtain ⟨k, rfl⟩ := Int.eq_ofNat_of_zero_le hn0
  have hk : k < P.length := by omega
  obtain ⟨A9, cap9, b9, off9, rfl, g1, g2, g3, g4⟩ := Rd.sl_open hP
  simp only [List.length_map] at *
  obtain ⟨rfl, -⟩ := g3 (by omega)
  obtain ⟨c0, c1, c2, -⟩ := Val.at g4 hk
  have hv : P.getD (k : Int).toNat zeroV = P[k] := by rw [Int.toNat_natCast, List.getD_eq_getElem?_getD, List.getElem?_eq_getElem hk]; rfl
  simp only [hv] at hK'
  clear hv g3 g4 hF hR hP hl hn1
  generalize P[k] = X at *
  obtain ⟨kx, nx, sx⟩ := X
  simp only [Val.v] at *
  conv => arg 2; whnf
  go_wp2_with fail
  exact bodyPost_ret (v := .agg #[.int .i64 kx, .int .i64 nx, .string sx]) (by simp [results, Try.results42, go_sem, f0, f1, f2]) rfl (hK'.out _ (ext_three hw _ (by omega) _ _ _))

set_option maxRecDepth 100000 in
set_option maxHeartbeats 1000000 in
theorem ev_time (F : List Fn) (time : Int) (R P : List Val) (o n : Int) (s : ByteArray) (l : List Ex) (A : Option Addr) (cap : Nat) (vs : List Val) (w0 : World) (vF vR vP vl : Value) (w : World) (h : EvalAt F time R P o n s l A cap vs w0 vF vR vP vl w) (ho : o = 5) (Q : Ending → World → Prop) (hK : ∀ w', Ext w0 w' → Q (.returned (numV time).v) w')
    (u6 u7 u8 u9 u10 u11 u12 u13 u14 u15 u16 u17 u18 u19 u20 u21 u22 u23 u24 u25 u26 u27 u28 u29 u30 u31 u32 u33 u34 u35 u36 u37 u38 u39 u40 u41 u42 u43 u44 u45 u46 u47 u48 u49 u50 u51 u52 u53 u54 u55 u56 u57 u58 u59 u60 u61 u62 u63 u64 u65 u66 u67 u68 u69 u70 u71 u72 u73 u74 u75 u76 u77 u78 u79 u80 u81 u82 u83 u84 u85 u86 u87 u88 u89 u90 u91 u92 u93 u94 u95 u96 u97 u98 u99 u100 u101 u102 u103 u104 u105 u106 u107 u108 u109 u110 u111 u112 u113 u114 u115 u116 u117 u118 u119 u120 u121 u122 u123 u124 u125 u126 u127 u128 u129 u130 u131 u132 u133 u134 u135 u136 u137 u138 : Value) : Code.wp Try.prog evalTail (bodyPost Try.prog Try.f42 Q) ⟨#[frameV vF time vR vP, .agg #[.int .i64 o, .int .i64 n, .string s, .slice A l.length cap], .pointer (some ⟨w0.heap.size, 0, none⟩), .pointer (some ⟨w0.heap.size + 1, 0, none⟩), .pointer (some ⟨w0.heap.size + 1 + 1, 0, none⟩), vl, u6, u7, u8, u9, u10, u11, u12, u13, u14, u15, u16, u17, u18, u19, u20, u21, u22, u23, u24, u25, u26, u27, u28, u29, u30, u31, u32, u33, u34, u35, u36, u37, u38, u39, u40, u41, u42, u43, u44, u45, u46, u47, u48, u49, u50, u51, u52, u53, u54, u55, u56, u57, u58, u59, u60, u61, u62, u63, u64, u65, u66, u67, u68, u69, u70, u71, u72, u73, u74, u75, u76, u77, u78, u79, u80, u81, u82, u83, u84, u85, u86, u87, u88, u89, u90, u91, u92, u93, u94, u95, u96, u97, u98, u99, u100, u101, u102, u103, u104, u105, u106, u107, u108, u109, u110, u111, u112, u113, u114, u115, u116, u117, u118, u119, u120, u121, u122, u123, u124, u125, u126, u127, u128, u129, u130, u131, u132, u133, u134, u135, u136, u137, u138], []⟩ w := by
  obtain ⟨s0, s1, s2, s3, e0, e1, e2, f0, f1, f2, z0, z1, z2, hlt, hw, hF, hR, hP, hl⟩ := h
  have hK' := Lib.hid hK; clear hK
  simp only [frameV]
  subst ho
  clear hF hR hP hl
  conv => arg 2; whnf
  go_wp2_with fail
  refine (number_any _ _).mono ?_
  rintro r w1 ⟨rfl, he⟩
  replace f0 := he.at f0
  replace f1 := he.at f1
  replace f2 := he.at f2
  replace z0 := (he.frozens _ _ hlt).trans z0
  replace z1 := (he.frozens _ _ hlt).trans z1
  replace z2 := (he.frozens _ _ hlt).trans z2
  replace hw : Ext w0 w1 := hw.trans he
  simp only [numV, Val.v]
  go_wp2_with fail
  exact bodyPost_ret (v := .agg #[.int .i64 0, .int .i64 (time), .string ByteArray.empty]) (by simp [results, Try.results42, go_sem, f0, f1, f2]) rfl (hK'.out _ (ext_three hw _ (by omega) _ _ _))

set_option maxRecDepth 100000 in
set_option maxHeartbeats 1000000 in
theorem ev_not (F : List Fn) (time : Int) (R P : List Val) (o n : Int) (s : ByteArray) (l : List Ex) (A : Option Addr) (cap : Nat) (vs : List Val) (w0 : World) (vF vR vP vl : Value) (w : World) (h : EvalAt F time R P o n s l A cap vs w0 vF vR vP vl w) (ho : o = 6) (x : Val) (hvs : vs = [x]) (Q : Ending → World → Prop) (hK : ∀ w', Ext w0 w' → Q (.returned (boolV (decide (x.n = 0))).v) w')
    (u6 u7 u8 u9 u10 u11 u12 u13 u14 u15 u16 u17 u18 u19 u20 u21 u22 u23 u24 u25 u26 u27 u28 u29 u30 u31 u32 u33 u34 u35 u36 u37 u38 u39 u40 u41 u42 u43 u44 u45 u46 u47 u48 u49 u50 u51 u52 u53 u54 u55 u56 u57 u58 u59 u60 u61 u62 u63 u64 u65 u66 u67 u68 u69 u70 u71 u72 u73 u74 u75 u76 u77 u78 u79 u80 u81 u82 u83 u84 u85 u86 u87 u88 u89 u90 u91 u92 u93 u94 u95 u96 u97 u98 u99 u100 u101 u102 u103 u104 u105 u106 u107 u108 u109 u110 u111 u112 u113 u114 u115 u116 u117 u118 u119 u120 u121 u122 u123 u124 u125 u126 u127 u128 u129 u130 u131 u132 u133 u134 u135 u136 u137 u138 : Value) : Code.wp Try.prog evalTail (bodyPost Try.prog Try.f42 Q) ⟨#[frameV vF time vR vP, .agg #[.int .i64 o, .int .i64 n, .string s, .slice A l.length cap], .pointer (some ⟨w0.heap.size, 0, none⟩), .pointer (some ⟨w0.heap.size + 1, 0, none⟩), .pointer (some ⟨w0.heap.size + 1 + 1, 0, none⟩), vl, u6, u7, u8, u9, u10, u11, u12, u13, u14, u15, u16, u17, u18, u19, u20, u21, u22, u23, u24, u25, u26, u27, u28, u29, u30, u31, u32, u33, u34, u35, u36, u37, u38, u39, u40, u41, u42, u43, u44, u45, u46, u47, u48, u49, u50, u51, u52, u53, u54, u55, u56, u57, u58, u59, u60, u61, u62, u63, u64, u65, u66, u67, u68, u69, u70, u71, u72, u73, u74, u75, u76, u77, u78, u79, u80, u81, u82, u83, u84, u85, u86, u87, u88, u89, u90, u91, u92, u93, u94, u95, u96, u97, u98, u99, u100, u101, u102, u103, u104, u105, u106, u107, u108, u109, u110, u111, u112, u113, u114, u115, u116, u117, u118, u119, u120, u121, u122, u123, u124, u125, u126, u127, u128, u129, u130, u131, u132, u133, u134, u135, u136, u137, u138], []⟩ w := by
  obtain ⟨s0, s1, s2, s3, e0, e1, e2, f0, f1, f2, z0, z1, z2, hlt, hw, hF, hR, hP, hl⟩ := h
  have hK' := Lib.hid hK; clear hK
  simp only [frameV]
  subst ho
  subst hvs
  obtain ⟨A9, cap9, b9, off9, rfl, g1, g2, g3, g4⟩ := Rd.sl_open hl
  simp only [List.length_map] at *
  obtain ⟨rfl, -⟩ := g3 (by simp)
  obtain ⟨c0, c1, c2, -⟩ := Val.at g4 (k := 0) (by simp)
  simp only [List.getElem_cons_zero, List.length_cons, List.length_nil, Nat.zero_mul, Nat.add_zero, Nat.zero_add] at *
  clear g3 g4 hF hR hP hl
  obtain ⟨kx, nx, sx⟩ := x
  simp only at *
  have hnb : (nx == 0) = decide (nx = 0) := rfl
  cases hb : decide (nx = 0)
  all_goals
    rw [hb] at hnb
    simp only [hb] at hK'
    clear hb
    conv => arg 2; whnf
    go_wp2_with fail
    refine (truth_any _ _).mono ?_
    rintro r w1 ⟨rfl, he⟩
    replace f0 := he.at f0
    replace f1 := he.at f1
    replace f2 := he.at f2
    replace z0 := (he.frozens _ _ hlt).trans z0
    replace z1 := (he.frozens _ _ hlt).trans z1
    replace z2 := (he.frozens _ _ hlt).trans z2
    replace hw : Ext w0 w1 := hw.trans he
    simp only [boolV, Val.v]
    go_wp2_with fail
    first
      | (refine bodyPost_ret (v := .agg #[.int .i64 2, .int .i64 1, .string ByteArray.empty]) ?_ rfl ?_
         · simp [results, Try.results42, go_sem, f0, f1, f2]
         · exact hK'.out _ (ext_three hw _ (by omega) _ _ _))
      | (refine bodyPost_ret (v := .agg #[.int .i64 2, .int .i64 0, .string ByteArray.empty]) ?_ rfl ?_
         · simp [results, Try.results42, go_sem, f0, f1, f2]
         · exact hK'.out _ (ext_three hw _ (by omega) _ _ _))

set_option maxRecDepth 100000 in
set_option maxHeartbeats 1000000 in
theorem ev_neg (F : List Fn) (time : Int) (R P : List Val) (o n : Int) (s : ByteArray) (l : List Ex) (A : Option Addr) (cap : Nat) (vs : List Val) (w0 : World) (vF vR vP vl : Value) (w : World) (h : EvalAt F time R P o n s l A cap vs w0 vF vR vP vl w) (ho : o = 7) (x : Val) (hvs : vs = [x]) (Q : Ending → World → Prop) (hK : ∀ w', Ext w0 w' → Q (.returned (numV (wrap64 (-x.n))).v) w')
    (u6 u7 u8 u9 u10 u11 u12 u13 u14 u15 u16 u17 u18 u19 u20 u21 u22 u23 u24 u25 u26 u27 u28 u29 u30 u31 u32 u33 u34 u35 u36 u37 u38 u39 u40 u41 u42 u43 u44 u45 u46 u47 u48 u49 u50 u51 u52 u53 u54 u55 u56 u57 u58 u59 u60 u61 u62 u63 u64 u65 u66 u67 u68 u69 u70 u71 u72 u73 u74 u75 u76 u77 u78 u79 u80 u81 u82 u83 u84 u85 u86 u87 u88 u89 u90 u91 u92 u93 u94 u95 u96 u97 u98 u99 u100 u101 u102 u103 u104 u105 u106 u107 u108 u109 u110 u111 u112 u113 u114 u115 u116 u117 u118 u119 u120 u121 u122 u123 u124 u125 u126 u127 u128 u129 u130 u131 u132 u133 u134 u135 u136 u137 u138 : Value) : Code.wp Try.prog evalTail (bodyPost Try.prog Try.f42 Q) ⟨#[frameV vF time vR vP, .agg #[.int .i64 o, .int .i64 n, .string s, .slice A l.length cap], .pointer (some ⟨w0.heap.size, 0, none⟩), .pointer (some ⟨w0.heap.size + 1, 0, none⟩), .pointer (some ⟨w0.heap.size + 1 + 1, 0, none⟩), vl, u6, u7, u8, u9, u10, u11, u12, u13, u14, u15, u16, u17, u18, u19, u20, u21, u22, u23, u24, u25, u26, u27, u28, u29, u30, u31, u32, u33, u34, u35, u36, u37, u38, u39, u40, u41, u42, u43, u44, u45, u46, u47, u48, u49, u50, u51, u52, u53, u54, u55, u56, u57, u58, u59, u60, u61, u62, u63, u64, u65, u66, u67, u68, u69, u70, u71, u72, u73, u74, u75, u76, u77, u78, u79, u80, u81, u82, u83, u84, u85, u86, u87, u88, u89, u90, u91, u92, u93, u94, u95, u96, u97, u98, u99, u100, u101, u102, u103, u104, u105, u106, u107, u108, u109, u110, u111, u112, u113, u114, u115, u116, u117, u118, u119, u120, u121, u122, u123, u124, u125, u126, u127, u128, u129, u130, u131, u132, u133, u134, u135, u136, u137, u138], []⟩ w := by
  obtain ⟨s0, s1, s2, s3, e0, e1, e2, f0, f1, f2, z0, z1, z2, hlt, hw, hF, hR, hP, hl⟩ := h
  have hK' := Lib.hid hK; clear hK
  simp only [frameV]
  subst ho
  subst hvs
  obtain ⟨A9, cap9, b9, off9, rfl, g1, g2, g3, g4⟩ := Rd.sl_open hl
  simp only [List.length_map] at *
  obtain ⟨rfl, -⟩ := g3 (by simp)
  obtain ⟨c0, c1, c2, -⟩ := Val.at g4 (k := 0) (by simp)
  simp only [List.getElem_cons_zero, List.length_cons, List.length_nil, Nat.zero_mul, Nat.add_zero, Nat.zero_add] at *
  clear g3 g4 hF hR hP hl
  obtain ⟨kx, nx, sx⟩ := x
  simp only at *
  conv => arg 2; whnf
  go_wp2_with fail
  refine (number_any _ _).mono ?_
  rintro r w1 ⟨rfl, he⟩
  replace f0 := he.at f0
  replace f1 := he.at f1
  replace f2 := he.at f2
  replace z0 := (he.frozens _ _ hlt).trans z0
  replace z1 := (he.frozens _ _ hlt).trans z1
  replace z2 := (he.frozens _ _ hlt).trans z2
  replace hw : Ext w0 w1 := hw.trans he
  simp only [numV, Val.v]
  go_wp2_with fail
  exact bodyPost_ret (v := .agg #[.int .i64 0, .int .i64 (wrap64 (-nx)), .string ByteArray.empty]) (by simp [results, Try.results42, go_sem, f0, f1, f2]) rfl (hK'.out _ (ext_three hw _ (by omega) _ _ _))

set_option maxRecDepth 100000 in
set_option maxHeartbeats 1000000 in
theorem ev_len (F : List Fn) (time : Int) (R P : List Val) (o n : Int) (s : ByteArray) (l : List Ex) (A : Option Addr) (cap : Nat) (vs : List Val) (w0 : World) (vF vR vP vl : Value) (w : World) (h : EvalAt F time R P o n s l A cap vs w0 vF vR vP vl w) (ho : o = 20) (x : Val) (hvs : vs = [x]) (Q : Ending → World → Prop) (hK : ∀ w', Ext w0 w' → Q (.returned (numV x.s.size).v) w')
    (u6 u7 u8 u9 u10 u11 u12 u13 u14 u15 u16 u17 u18 u19 u20 u21 u22 u23 u24 u25 u26 u27 u28 u29 u30 u31 u32 u33 u34 u35 u36 u37 u38 u39 u40 u41 u42 u43 u44 u45 u46 u47 u48 u49 u50 u51 u52 u53 u54 u55 u56 u57 u58 u59 u60 u61 u62 u63 u64 u65 u66 u67 u68 u69 u70 u71 u72 u73 u74 u75 u76 u77 u78 u79 u80 u81 u82 u83 u84 u85 u86 u87 u88 u89 u90 u91 u92 u93 u94 u95 u96 u97 u98 u99 u100 u101 u102 u103 u104 u105 u106 u107 u108 u109 u110 u111 u112 u113 u114 u115 u116 u117 u118 u119 u120 u121 u122 u123 u124 u125 u126 u127 u128 u129 u130 u131 u132 u133 u134 u135 u136 u137 u138 : Value) : Code.wp Try.prog evalTail (bodyPost Try.prog Try.f42 Q) ⟨#[frameV vF time vR vP, .agg #[.int .i64 o, .int .i64 n, .string s, .slice A l.length cap], .pointer (some ⟨w0.heap.size, 0, none⟩), .pointer (some ⟨w0.heap.size + 1, 0, none⟩), .pointer (some ⟨w0.heap.size + 1 + 1, 0, none⟩), vl, u6, u7, u8, u9, u10, u11, u12, u13, u14, u15, u16, u17, u18, u19, u20, u21, u22, u23, u24, u25, u26, u27, u28, u29, u30, u31, u32, u33, u34, u35, u36, u37, u38, u39, u40, u41, u42, u43, u44, u45, u46, u47, u48, u49, u50, u51, u52, u53, u54, u55, u56, u57, u58, u59, u60, u61, u62, u63, u64, u65, u66, u67, u68, u69, u70, u71, u72, u73, u74, u75, u76, u77, u78, u79, u80, u81, u82, u83, u84, u85, u86, u87, u88, u89, u90, u91, u92, u93, u94, u95, u96, u97, u98, u99, u100, u101, u102, u103, u104, u105, u106, u107, u108, u109, u110, u111, u112, u113, u114, u115, u116, u117, u118, u119, u120, u121, u122, u123, u124, u125, u126, u127, u128, u129, u130, u131, u132, u133, u134, u135, u136, u137, u138], []⟩ w := by
  obtain ⟨s0, s1, s2, s3, e0, e1, e2, f0, f1, f2, z0, z1, z2, hlt, hw, hF, hR, hP, hl⟩ := h
  have hK' := Lib.hid hK; clear hK
  simp only [frameV]
  subst ho
  subst hvs
  obtain ⟨A9, cap9, b9, off9, rfl, g1, g2, g3, g4⟩ := Rd.sl_open hl
  simp only [List.length_map] at *
  obtain ⟨rfl, -⟩ := g3 (by simp)
  obtain ⟨c0, c1, c2, -⟩ := Val.at g4 (k := 0) (by simp)
  simp only [List.getElem_cons_zero, List.length_cons, List.length_nil, Nat.zero_mul, Nat.add_zero, Nat.zero_add] at *
  clear g3 g4 hF hR hP hl
  obtain ⟨kx, nx, sx⟩ := x
  simp only at *
  conv => arg 2; whnf
  go_wp2_with fail
  refine (number_any _ _).mono ?_
  rintro r w1 ⟨rfl, he⟩
  replace f0 := he.at f0
  replace f1 := he.at f1
  replace f2 := he.at f2
  replace z0 := (he.frozens _ _ hlt).trans z0
  replace z1 := (he.frozens _ _ hlt).trans z1
  replace z2 := (he.frozens _ _ hlt).trans z2
  replace hw : Ext w0 w1 := hw.trans he
  simp only [numV, Val.v]
  go_wp2_with fail
  exact bodyPost_ret (v := .agg #[.int .i64 0, .int .i64 ((sx.size : Int)), .string ByteArray.empty]) (by simp [results, Try.results42, go_sem, f0, f1, f2]) rfl (hK'.out _ (ext_three hw _ (by omega) _ _ _))
end Go.Proofs.Ytmhelkhmgbbfhaa
