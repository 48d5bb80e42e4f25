/- Walk: the end of (frame).eval, behind the loop: a theorem for each kind of operation. (written by gen_eval.py) -/
import Derived.WideMake
import Derived.Test.YtnkimlkoijfcpaaGreatDoorGe1
import Derived.Test.YtnkimlkoijfcpaaGreatDoorGe7
set_option linter.unusedSimpArgs false
set_option linter.unusedVariables false
namespace Go.Proofs.YtnkimlkoijfcpaaGreatDoor
open Go.RowKit Go.Lib
noncomputable def evalTail : Code := restFrom 11 ((Tryz.f52.body).getD .skip)
def qce (F : List Fn) (time : Int) (R P : List Val) (o n : Int) (s : ByteArray) (l : List Ex) (A : Option Addr) (cap : Nat) (vs : List Val) (w0 : World) (vF vR vP vl : Value) (w : World) : Prop :=
  w.cell? ⟨w0.heap.size, 0, none⟩ = some vF ∧ w.cell? ⟨w0.heap.size, 1, none⟩ = some (.int .i64 time) ∧ w.cell? ⟨w0.heap.size, 2, none⟩ = some vR ∧ w.cell? ⟨w0.heap.size, 3, none⟩ = some vP ∧
  w.cell? ⟨w0.heap.size + 1, 0, none⟩ = some (.int .i64 o) ∧ w.cell? ⟨w0.heap.size + 1, 1, none⟩ = some (.int .i64 n) ∧ w.cell? ⟨w0.heap.size + 1, 2, none⟩ = some (.string s) ∧
  w.cell? ⟨w0.heap.size + 1 + 1, 0, none⟩ = some (.int .i64 0) ∧ w.cell? ⟨w0.heap.size + 1 + 1, 1, none⟩ = some (.int .i64 0) ∧ w.cell? ⟨w0.heap.size + 1 + 1, 2, none⟩ = some (.string ByteArray.empty) ∧
  w.frozen? ⟨w0.heap.size + 1 + 1, 0, none⟩ = false ∧ w.frozen? ⟨w0.heap.size + 1 + 1, 1, none⟩ = false ∧ w.frozen? ⟨w0.heap.size + 1 + 1, 2, none⟩ = false ∧ w0.heap.size + 1 + 1 < w.heap.size ∧ Ext w0 w ∧
  Rd w Any (.sl (F.map Fn.d)) [vF] ∧ Rd w Any (.sl (R.map Val.d)) [vR] ∧ Rd w Any (.sl (P.map Val.d)) [vP] ∧ Rd w Any (.sl (vs.map Val.d)) [vl]
set_option maxRecDepth 100000 in
set_option maxHeartbeats 1000000 in
theorem ev_int (F : List Fn) (time : Int) (R P : List Val) (o n : Int) (s : ByteArray) (l : List Ex) (A : Option Addr) (cap : Nat) (vs : List Val) (w0 : World) (vF vR vP vl : Value) (w : World) (h : qce F time R P o n s l A cap vs w0 vF vR vP vl w) (ho : o = 0) (Q : Ending → World → Prop) (hK : ∀ w', Ext w0 w' → Q (.returned (numV n).v) w')
    (u6 u7 u8 u9 u10 u11 u12 u13 u14 u15 u16 u17 u18 u19 u20 u21 u22 u23 u24 u25 u26 u27 u28 u29 u30 u31 u32 u33 u34 u35 u36 u37 u38 u39 u40 u41 u42 u43 u44 u45 u46 u47 u48 u49 u50 u51 u52 u53 u54 u55 u56 u57 u58 u59 u60 u61 u62 u63 u64 u65 u66 u67 u68 u69 u70 u71 u72 u73 u74 u75 u76 u77 u78 u79 u80 u81 u82 u83 u84 u85 u86 u87 u88 u89 u90 u91 u92 u93 u94 u95 u96 u97 u98 u99 u100 u101 u102 u103 u104 u105 u106 u107 u108 u109 u110 u111 u112 u113 u114 u115 u116 u117 u118 u119 u120 u121 u122 u123 u124 u125 u126 u127 u128 u129 u130 u131 u132 u133 u134 u135 u136 u137 u138 : Value) : Code.wp Tryz.prog evalTail (bodyPost Tryz.prog Tryz.f52 Q) ⟨#[qx vF time vR vP, .agg #[.int .i64 o, .int .i64 n, .string s, .slice A l.length cap], .pointer (some ⟨w0.heap.size, 0, none⟩), .pointer (some ⟨w0.heap.size + 1, 0, none⟩), .pointer (some ⟨w0.heap.size + 1 + 1, 0, none⟩), vl, u6, u7, u8, u9, u10, u11, u12, u13, u14, u15, u16, u17, u18, u19, u20, u21, u22, u23, u24, u25, u26, u27, u28, u29, u30, u31, u32, u33, u34, u35, u36, u37, u38, u39, u40, u41, u42, u43, u44, u45, u46, u47, u48, u49, u50, u51, u52, u53, u54, u55, u56, u57, u58, u59, u60, u61, u62, u63, u64, u65, u66, u67, u68, u69, u70, u71, u72, u73, u74, u75, u76, u77, u78, u79, u80, u81, u82, u83, u84, u85, u86, u87, u88, u89, u90, u91, u92, u93, u94, u95, u96, u97, u98, u99, u100, u101, u102, u103, u104, u105, u106, u107, u108, u109, u110, u111, u112, u113, u114, u115, u116, u117, u118, u119, u120, u121, u122, u123, u124, u125, u126, u127, u128, u129, u130, u131, u132, u133, u134, u135, u136, u137, u138], []⟩ w := by
  obtain ⟨s0, s1, s2, s3, e0, e1, e2, f0, f1, f2, z0, z1, z2, hlt, hw, hF, hR, hP, hl⟩ := h
  have hK' := Lib.hid hK; clear hK
  simp only [qx]
  subst ho
  clear hF hR hP hl
  conv => arg 2; whnf
  go_wp2_with fail
  refine (qbv _ _).mono ?_
  rintro r w1 ⟨rfl, he⟩
  replace f0 := he.at f0
  replace f1 := he.at f1
  replace f2 := he.at f2
  replace z0 := (he.frozens _ _ hlt).trans z0
  replace z1 := (he.frozens _ _ hlt).trans z1
  replace z2 := (he.frozens _ _ hlt).trans z2
  replace hw : Ext w0 w1 := hw.trans he
  simp only [numV, Val.v]
  go_wp2_with fail
  exact bodyPost_ret (v := .agg #[.int .i64 0, .int .i64 (n), .string ByteArray.empty]) (by simp [results, Tryz.results52, go_sem, f0, f1, f2]) rfl (hK'.out _ (qs hw _ (by omega) _ _ _))
set_option maxRecDepth 100000 in
set_option maxHeartbeats 1000000 in
theorem ev_text (F : List Fn) (time : Int) (R P : List Val) (o n : Int) (s : ByteArray) (l : List Ex) (A : Option Addr) (cap : Nat) (vs : List Val) (w0 : World) (vF vR vP vl : Value) (w : World) (h : qce F time R P o n s l A cap vs w0 vF vR vP vl w) (ho : o = 1) (Q : Ending → World → Prop) (hK : ∀ w', Ext w0 w' → Q (.returned (textV s).v) w')
    (u6 u7 u8 u9 u10 u11 u12 u13 u14 u15 u16 u17 u18 u19 u20 u21 u22 u23 u24 u25 u26 u27 u28 u29 u30 u31 u32 u33 u34 u35 u36 u37 u38 u39 u40 u41 u42 u43 u44 u45 u46 u47 u48 u49 u50 u51 u52 u53 u54 u55 u56 u57 u58 u59 u60 u61 u62 u63 u64 u65 u66 u67 u68 u69 u70 u71 u72 u73 u74 u75 u76 u77 u78 u79 u80 u81 u82 u83 u84 u85 u86 u87 u88 u89 u90 u91 u92 u93 u94 u95 u96 u97 u98 u99 u100 u101 u102 u103 u104 u105 u106 u107 u108 u109 u110 u111 u112 u113 u114 u115 u116 u117 u118 u119 u120 u121 u122 u123 u124 u125 u126 u127 u128 u129 u130 u131 u132 u133 u134 u135 u136 u137 u138 : Value) : Code.wp Tryz.prog evalTail (bodyPost Tryz.prog Tryz.f52 Q) ⟨#[qx vF time vR vP, .agg #[.int .i64 o, .int .i64 n, .string s, .slice A l.length cap], .pointer (some ⟨w0.heap.size, 0, none⟩), .pointer (some ⟨w0.heap.size + 1, 0, none⟩), .pointer (some ⟨w0.heap.size + 1 + 1, 0, none⟩), vl, u6, u7, u8, u9, u10, u11, u12, u13, u14, u15, u16, u17, u18, u19, u20, u21, u22, u23, u24, u25, u26, u27, u28, u29, u30, u31, u32, u33, u34, u35, u36, u37, u38, u39, u40, u41, u42, u43, u44, u45, u46, u47, u48, u49, u50, u51, u52, u53, u54, u55, u56, u57, u58, u59, u60, u61, u62, u63, u64, u65, u66, u67, u68, u69, u70, u71, u72, u73, u74, u75, u76, u77, u78, u79, u80, u81, u82, u83, u84, u85, u86, u87, u88, u89, u90, u91, u92, u93, u94, u95, u96, u97, u98, u99, u100, u101, u102, u103, u104, u105, u106, u107, u108, u109, u110, u111, u112, u113, u114, u115, u116, u117, u118, u119, u120, u121, u122, u123, u124, u125, u126, u127, u128, u129, u130, u131, u132, u133, u134, u135, u136, u137, u138], []⟩ w := by
  obtain ⟨s0, s1, s2, s3, e0, e1, e2, f0, f1, f2, z0, z1, z2, hlt, hw, hF, hR, hP, hl⟩ := h
  have hK' := Lib.hid hK; clear hK
  simp only [qx]
  subst ho
  clear hF hR hP hl
  conv => arg 2; whnf
  go_wp2_with fail
  exact bodyPost_ret (v := .agg #[.int .i64 1, .int .i64 0, .string s]) (by simp [results, Tryz.results52, go_sem, f0, f1, f2]) rfl (hK'.out _ (qs hw _ (by omega) _ _ _))
set_option maxRecDepth 100000 in
set_option maxHeartbeats 1000000 in
theorem ev_bool (F : List Fn) (time : Int) (R P : List Val) (o n : Int) (s : ByteArray) (l : List Ex) (A : Option Addr) (cap : Nat) (vs : List Val) (w0 : World) (vF vR vP vl : Value) (w : World) (h : qce F time R P o n s l A cap vs w0 vF vR vP vl w) (ho : o = 2) (Q : Ending → World → Prop) (hK : ∀ w', Ext w0 w' → Q (.returned (boolV (decide (n = 1))).v) w')
    (u6 u7 u8 u9 u10 u11 u12 u13 u14 u15 u16 u17 u18 u19 u20 u21 u22 u23 u24 u25 u26 u27 u28 u29 u30 u31 u32 u33 u34 u35 u36 u37 u38 u39 u40 u41 u42 u43 u44 u45 u46 u47 u48 u49 u50 u51 u52 u53 u54 u55 u56 u57 u58 u59 u60 u61 u62 u63 u64 u65 u66 u67 u68 u69 u70 u71 u72 u73 u74 u75 u76 u77 u78 u79 u80 u81 u82 u83 u84 u85 u86 u87 u88 u89 u90 u91 u92 u93 u94 u95 u96 u97 u98 u99 u100 u101 u102 u103 u104 u105 u106 u107 u108 u109 u110 u111 u112 u113 u114 u115 u116 u117 u118 u119 u120 u121 u122 u123 u124 u125 u126 u127 u128 u129 u130 u131 u132 u133 u134 u135 u136 u137 u138 : Value) : Code.wp Tryz.prog evalTail (bodyPost Tryz.prog Tryz.f52 Q) ⟨#[qx vF time vR vP, .agg #[.int .i64 o, .int .i64 n, .string s, .slice A l.length cap], .pointer (some ⟨w0.heap.size, 0, none⟩), .pointer (some ⟨w0.heap.size + 1, 0, none⟩), .pointer (some ⟨w0.heap.size + 1 + 1, 0, none⟩), vl, u6, u7, u8, u9, u10, u11, u12, u13, u14, u15, u16, u17, u18, u19, u20, u21, u22, u23, u24, u25, u26, u27, u28, u29, u30, u31, u32, u33, u34, u35, u36, u37, u38, u39, u40, u41, u42, u43, u44, u45, u46, u47, u48, u49, u50, u51, u52, u53, u54, u55, u56, u57, u58, u59, u60, u61, u62, u63, u64, u65, u66, u67, u68, u69, u70, u71, u72, u73, u74, u75, u76, u77, u78, u79, u80, u81, u82, u83, u84, u85, u86, u87, u88, u89, u90, u91, u92, u93, u94, u95, u96, u97, u98, u99, u100, u101, u102, u103, u104, u105, u106, u107, u108, u109, u110, u111, u112, u113, u114, u115, u116, u117, u118, u119, u120, u121, u122, u123, u124, u125, u126, u127, u128, u129, u130, u131, u132, u133, u134, u135, u136, u137, u138], []⟩ w := by
  obtain ⟨s0, s1, s2, s3, e0, e1, e2, f0, f1, f2, z0, z1, z2, hlt, hw, hF, hR, hP, hl⟩ := h
  have hK' := Lib.hid hK; clear hK
  simp only [qx]
  subst ho
  clear hF hR hP hl
  have hnb : (n == 1) = decide (n = 1) := rfl
  cases hb : decide (n = 1)
  all_goals
    rw [hb] at hnb
    simp only [hb] at hK'
    clear hb
    conv => arg 2; whnf
    go_wp2_with fail
    refine (qda _ _).mono ?_
    rintro r w1 ⟨rfl, he⟩
    replace f0 := he.at f0
    replace f1 := he.at f1
    replace f2 := he.at f2
    replace z0 := (he.frozens _ _ hlt).trans z0
    replace z1 := (he.frozens _ _ hlt).trans z1
    replace z2 := (he.frozens _ _ hlt).trans z2
    replace hw : Ext w0 w1 := hw.trans he
    simp only [boolV, Val.v]
    go_wp2_with fail
    first
      | (refine bodyPost_ret (v := .agg #[.int .i64 2, .int .i64 1, .string ByteArray.empty]) ?_ rfl ?_
         · simp [results, Tryz.results52, go_sem, f0, f1, f2]
         · exact hK'.out _ (qs hw _ (by omega) _ _ _))
      | (refine bodyPost_ret (v := .agg #[.int .i64 2, .int .i64 0, .string ByteArray.empty]) ?_ rfl ?_
         · simp [results, Tryz.results52, go_sem, f0, f1, f2]
         · exact hK'.out _ (qs hw _ (by omega) _ _ _))
set_option maxRecDepth 100000 in
set_option maxHeartbeats 1000000 in
theorem ev_col (F : List Fn) (time : Int) (R P : List Val) (o n : Int) (s : ByteArray) (l : List Ex) (A : Option Addr) (cap : Nat) (vs : List Val) (w0 : World) (vF vR vP vl : Value) (w : World) (h : qce F time R P o n s l A cap vs w0 vF vR vP vl w) (ho : o = 3) (hn0 : 0 ≤ n) (hn1 : n.toNat < R.length) (Q : Ending → World → Prop) (hK : ∀ w', Ext w0 w' → Q (.returned (R.getD n.toNat zeroV).v) w')
    (u6 u7 u8 u9 u10 u11 u12 u13 u14 u15 u16 u17 u18 u19 u20 u21 u22 u23 u24 u25 u26 u27 u28 u29 u30 u31 u32 u33 u34 u35 u36 u37 u38 u39 u40 u41 u42 u43 u44 u45 u46 u47 u48 u49 u50 u51 u52 u53 u54 u55 u56 u57 u58 u59 u60 u61 u62 u63 u64 u65 u66 u67 u68 u69 u70 u71 u72 u73 u74 u75 u76 u77 u78 u79 u80 u81 u82 u83 u84 u85 u86 u87 u88 u89 u90 u91 u92 u93 u94 u95 u96 u97 u98 u99 u100 u101 u102 u103 u104 u105 u106 u107 u108 u109 u110 u111 u112 u113 u114 u115 u116 u117 u118 u119 u120 u121 u122 u123 u124 u125 u126 u127 u128 u129 u130 u131 u132 u133 u134 u135 u136 u137 u138 : Value) : Code.wp Tryz.prog evalTail (bodyPost Tryz.prog Tryz.f52 Q) ⟨#[qx vF time vR vP, .agg #[.int .i64 o, .int .i64 n, .string s, .slice A l.length cap], .pointer (some ⟨w0.heap.size, 0, none⟩), .pointer (some ⟨w0.heap.size + 1, 0, none⟩), .pointer (some ⟨w0.heap.size + 1 + 1, 0, none⟩), vl, u6, u7, u8, u9, u10, u11, u12, u13, u14, u15, u16, u17, u18, u19, u20, u21, u22, u23, u24, u25, u26, u27, u28, u29, u30, u31, u32, u33, u34, u35, u36, u37, u38, u39, u40, u41, u42, u43, u44, u45, u46, u47, u48, u49, u50, u51, u52, u53, u54, u55, u56, u57, u58, u59, u60, u61, u62, u63, u64, u65, u66, u67, u68, u69, u70, u71, u72, u73, u74, u75, u76, u77, u78, u79, u80, u81, u82, u83, u84, u85, u86, u87, u88, u89, u90, u91, u92, u93, u94, u95, u96, u97, u98, u99, u100, u101, u102, u103, u104, u105, u106, u107, u108, u109, u110, u111, u112, u113, u114, u115, u116, u117, u118, u119, u120, u121, u122, u123, u124, u125, u126, u127, u128, u129, u130, u131, u132, u133, u134, u135, u136, u137, u138], []⟩ w := by
  obtain ⟨s0, s1, s2, s3, e0, e1, e2, f0, f1, f2, z0, z1, z2, hlt, hw, hF, hR, hP, hl⟩ := h
  have hK' := Lib.hid hK; clear hK
  simp only [qx]
  subst ho
  obtain ⟨k, rfl⟩ := Int.eq_ofNat_of_zero_le hn0
  have hk : k < R.length := by omega
  obtain ⟨A9, cap9, b9, off9, rfl, g1, g2, g3, g4⟩ := Rd.sl_open hR
  simp only [List.length_map] at *
  obtain ⟨rfl, -⟩ := g3 (by omega)
  obtain ⟨c0, c1, c2, -⟩ := Val.at g4 hk
  have hv : R.getD (k : Int).toNat zeroV = R[k] := by rw [Int.toNat_natCast, List.getD_eq_getElem?_getD, List.getElem?_eq_getElem hk]; rfl
  simp only [hv] at hK'
  clear hv g3 g4 hF hR hP hl hn1
  generalize R[k] = X at *
  obtain ⟨kx, nx, sx⟩ := X
  simp only [Val.v] at *
  conv => arg 2; whnf
  go_wp2_with fail
  exact bodyPost_ret (v := .agg #[.int .i64 kx, .int .i64 nx, .string sx]) (by simp [results, Tryz.results52, go_sem, f0, f1, f2]) rfl (hK'.out _ (qs hw _ (by omega) _ _ _))
set_option maxRecDepth 100000 in
set_option maxHeartbeats 1000000 in
theorem ev_param (F : List Fn) (time : Int) (R P : List Val) (o n : Int) (s : ByteArray) (l : List Ex) (A : Option Addr) (cap : Nat) (vs : List Val) (w0 : World) (vF vR vP vl : Value) (w : World) (h : qce F time R P o n s l A cap vs w0 vF vR vP vl w) (ho : o = 4) (hn0 : 0 ≤ n) (hn1 : n.toNat < P.length) (Q : Ending → World → Prop) (hK : ∀ w', Ext w0 w' → Q (.returned (P.getD n.toNat zeroV).v) w')
    (u6 u7 u8 u9 u10 u11 u12 u13 u14 u15 u16 u17 u18 u19 u20 u21 u22 u23 u24 u25 u26 u27 u28 u29 u30 u31 u32 u33 u34 u35 u36 u37 u38 u39 u40 u41 u42 u43 u44 u45 u46 u47 u48 u49 u50 u51 u52 u53 u54 u55 u56 u57 u58 u59 u60 u61 u62 u63 u64 u65 u66 u67 u68 u69 u70 u71 u72 u73 u74 u75 u76 u77 u78 u79 u80 u81 u82 u83 u84 u85 u86 u87 u88 u89 u90 u91 u92 u93 u94 u95 u96 u97 u98 u99 u100 u101 u102 u103 u104 u105 u106 u107 u108 u109 u110 u111 u112 u113 u114 u115 u116 u117 u118 u119 u120 u121 u122 u123 u124 u125 u126 u127 u128 u129 u130 u131 u132 u133 u134 u135 u136 u137 u138 : Value) : Code.wp Tryz.prog evalTail (bodyPost Tryz.prog Tryz.f52 Q) ⟨#[qx vF time vR vP, .agg #[.int .i64 o, .int .i64 n, .string s, .slice A l.length cap], .pointer (some ⟨w0.heap.size, 0, none⟩), .pointer (some ⟨w0.heap.size + 1, 0, none⟩), .pointer (some ⟨w0.heap.size + 1 + 1, 0, none⟩), vl, u6, u7, u8, u9, u10, u11, u12, u13, u14, u15, u16, u17, u18, u19, u20, u21, u22, u23, u24, u25, u26, u27, u28, u29, u30, u31, u32, u33, u34, u35, u36, u37, u38, u39, u40, u41, u42, u43, u44, u45, u46, u47, u48, u49, u50, u51, u52, u53, u54, u55, u56, u57, u58, u59, u60, u61, u62, u63, u64, u65, u66, u67, u68, u69, u70, u71, u72, u73, u74, u75, u76, u77, u78, u79, u80, u81, u82, u83, u84, u85, u86, u87, u88, u89, u90, u91, u92, u93, u94, u95, u96, u97, u98, u99, u100, u101, u102, u103, u104, u105, u106, u107, u108, u109, u110, u111, u112, u113, u114, u115, u116, u117, u118, u119, u120, u121, u122, u123, u124, u125, u126, u127, u128, u129, u130, u131, u132, u133, u134, u135, u136, u137, u138], []⟩ w := by
  obtain ⟨s0, s1, s2, s3, e0, e1, e2, f0, f1, f2, z0, z1, z2, hlt, hw, hF, hR, hP, hl⟩ := h
  have hK' := Lib.hid hK; clear hK
  simp only [qx]
  subst ho
  obtain ⟨k, rfl⟩ := Int.eq_ofNat_of_zero_le hn0
  have hk : k < P.length := by omega
  obtain ⟨A9, cap9, b9, off9, rfl, g1, g2, g3, g4⟩ := Rd.sl_open hP
  simp only [List.length_map] at *
  obtain ⟨rfl, -⟩ := g3 (by omega)
  obtain ⟨c0, c1, c2, -⟩ := Val.at g4 hk
  have hv : P.getD (k : Int).toNat zeroV = P[k] := by rw [Int.toNat_natCast, List.getD_eq_getElem?_getD, List.getElem?_eq_getElem hk]; rfl
  simp only [hv] at hK'
  clear hv g3 g4 hF hR hP hl hn1
  generalize P[k] = X at *
  obtain ⟨kx, nx, sx⟩ := X
  simp only [Val.v] at *
  conv => arg 2; whnf
  go_wp2_with fail
  exact bodyPost_ret (v := .agg #[.int .i64 kx, .int .i64 nx, .string sx]) (by simp [results, Tryz.results52, go_sem, f0, f1, f2]) rfl (hK'.out _ (qs hw _ (by omega) _ _ _))
set_option maxRecDepth 100000 in
set_option maxHeartbeats 1000000 in
theorem ev_time (F : List Fn) (time : Int) (R P : List Val) (o n : Int) (s : ByteArray) (l : List Ex) (A : Option Addr) (cap : Nat) (vs : List Val) (w0 : World) (vF vR vP vl : Value) (w : World) (h : qce F time R P o n s l A cap vs w0 vF vR vP vl w) (ho : o = 5) (Q : Ending → World → Prop) (hK : ∀ w', Ext w0 w' → Q (.returned (numV time).v) w')
    (u6 u7 u8 u9 u10 u11 u12 u13 u14 u15 u16 u17 u18 u19 u20 u21 u22 u23 u24 u25 u26 u27 u28 u29 u30 u31 u32 u33 u34 u35 u36 u37 u38 u39 u40 u41 u42 u43 u44 u45 u46 u47 u48 u49 u50 u51 u52 u53 u54 u55 u56 u57 u58 u59 u60 u61 u62 u63 u64 u65 u66 u67 u68 u69 u70 u71 u72 u73 u74 u75 u76 u77 u78 u79 u80 u81 u82 u83 u84 u85 u86 u87 u88 u89 u90 u91 u92 u93 u94 u95 u96 u97 u98 u99 u100 u101 u102 u103 u104 u105 u106 u107 u108 u109 u110 u111 u112 u113 u114 u115 u116 u117 u118 u119 u120 u121 u122 u123 u124 u125 u126 u127 u128 u129 u130 u131 u132 u133 u134 u135 u136 u137 u138 : Value) : Code.wp Tryz.prog evalTail (bodyPost Tryz.prog Tryz.f52 Q) ⟨#[qx vF time vR vP, .agg #[.int .i64 o, .int .i64 n, .string s, .slice A l.length cap], .pointer (some ⟨w0.heap.size, 0, none⟩), .pointer (some ⟨w0.heap.size + 1, 0, none⟩), .pointer (some ⟨w0.heap.size + 1 + 1, 0, none⟩), vl, u6, u7, u8, u9, u10, u11, u12, u13, u14, u15, u16, u17, u18, u19, u20, u21, u22, u23, u24, u25, u26, u27, u28, u29, u30, u31, u32, u33, u34, u35, u36, u37, u38, u39, u40, u41, u42, u43, u44, u45, u46, u47, u48, u49, u50, u51, u52, u53, u54, u55, u56, u57, u58, u59, u60, u61, u62, u63, u64, u65, u66, u67, u68, u69, u70, u71, u72, u73, u74, u75, u76, u77, u78, u79, u80, u81, u82, u83, u84, u85, u86, u87, u88, u89, u90, u91, u92, u93, u94, u95, u96, u97, u98, u99, u100, u101, u102, u103, u104, u105, u106, u107, u108, u109, u110, u111, u112, u113, u114, u115, u116, u117, u118, u119, u120, u121, u122, u123, u124, u125, u126, u127, u128, u129, u130, u131, u132, u133, u134, u135, u136, u137, u138], []⟩ w := by
  obtain ⟨s0, s1, s2, s3, e0, e1, e2, f0, f1, f2, z0, z1, z2, hlt, hw, hF, hR, hP, hl⟩ := h
  have hK' := Lib.hid hK; clear hK
  simp only [qx]
  subst ho
  clear hF hR hP hl
  conv => arg 2; whnf
  go_wp2_with fail
  refine (qbv _ _).mono ?_
  rintro r w1 ⟨rfl, he⟩
  replace f0 := he.at f0
  replace f1 := he.at f1
  replace f2 := he.at f2
  replace z0 := (he.frozens _ _ hlt).trans z0
  replace z1 := (he.frozens _ _ hlt).trans z1
  replace z2 := (he.frozens _ _ hlt).trans z2
  replace hw : Ext w0 w1 := hw.trans he
  simp only [numV, Val.v]
  go_wp2_with fail
  exact bodyPost_ret (v := .agg #[.int .i64 0, .int .i64 (time), .string ByteArray.empty]) (by simp [results, Tryz.results52, go_sem, f0, f1, f2]) rfl (hK'.out _ (qs hw _ (by omega) _ _ _))
set_option maxRecDepth 100000 in
set_option maxHeartbeats 1000000 in
theorem ev_not (F : List Fn) (time : Int) (R P : List Val) (o n : Int) (s : ByteArray) (l : List Ex) (A : Option Addr) (cap : Nat) (vs : List Val) (w0 : World) (vF vR vP vl : Value) (w : World) (h : qce F time R P o n s l A cap vs w0 vF vR vP vl w) (ho : o = 6) (x : Val) (hvs : vs = [x]) (Q : Ending → World → Prop) (hK : ∀ w', Ext w0 w' → Q (.returned (boolV (decide (x.n = 0))).v) w')
    (u6 u7 u8 u9 u10 u11 u12 u13 u14 u15 u16 u17 u18 u19 u20 u21 u22 u23 u24 u25 u26 u27 u28 u29 u30 u31 u32 u33 u34 u35 u36 u37 u38 u39 u40 u41 u42 u43 u44 u45 u46 u47 u48 u49 u50 u51 u52 u53 u54 u55 u56 u57 u58 u59 u60 u61 u62 u63 u64 u65 u66 u67 u68 u69 u70 u71 u72 u73 u74 u75 u76 u77 u78 u79 u80 u81 u82 u83 u84 u85 u86 u87 u88 u89 u90 u91 u92 u93 u94 u95 u96 u97 u98 u99 u100 u101 u102 u103 u104 u105 u106 u107 u108 u109 u110 u111 u112 u113 u114 u115 u116 u117 u118 u119 u120 u121 u122 u123 u124 u125 u126 u127 u128 u129 u130 u131 u132 u133 u134 u135 u136 u137 u138 : Value) : Code.wp Tryz.prog evalTail (bodyPost Tryz.prog Tryz.f52 Q) ⟨#[qx vF time vR vP, .agg #[.int .i64 o, .int .i64 n, .string s, .slice A l.length cap], .pointer (some ⟨w0.heap.size, 0, none⟩), .pointer (some ⟨w0.heap.size + 1, 0, none⟩), .pointer (some ⟨w0.heap.size + 1 + 1, 0, none⟩), vl, u6, u7, u8, u9, u10, u11, u12, u13, u14, u15, u16, u17, u18, u19, u20, u21, u22, u23, u24, u25, u26, u27, u28, u29, u30, u31, u32, u33, u34, u35, u36, u37, u38, u39, u40, u41, u42, u43, u44, u45, u46, u47, u48, u49, u50, u51, u52, u53, u54, u55, u56, u57, u58, u59, u60, u61, u62, u63, u64, u65, u66, u67, u68, u69, u70, u71, u72, u73, u74, u75, u76, u77, u78, u79, u80, u81, u82, u83, u84, u85, u86, u87, u88, u89, u90, u91, u92, u93, u94, u95, u96, u97, u98, u99, u100, u101, u102, u103, u104, u105, u106, u107, u108, u109, u110, u111, u112, u113, u114, u115, u116, u117, u118, u119, u120, u121, u122, u123, u124, u125, u126, u127, u128, u129, u130, u131, u132, u133, u134, u135, u136, u137, u138], []⟩ w := by
  obtain ⟨s0, s1, s2, s3, e0, e1, e2, f0, f1, f2, z0, z1, z2, hlt, hw, hF, hR, hP, hl⟩ := h
  have hK' := Lib.hid hK; clear hK
  simp only [qx]
  subst ho
  subst hvs
  obtain ⟨A9, cap9, b9, off9, rfl, g1, g2, g3, g4⟩ := Rd.sl_open hl
  simp only [List.length_map] at *
  obtain ⟨rfl, -⟩ := g3 (by simp)
  obtain ⟨c0, c1, c2, -⟩ := Val.at g4 (k := 0) (by simp)
  simp only [List.getElem_cons_zero, List.length_cons, List.length_nil, Nat.zero_mul, Nat.add_zero, Nat.zero_add] at *
  clear g3 g4 hF hR hP hl
  obtain ⟨kx, nx, sx⟩ := x
  simp only at *
  have hnb : (nx == 0) = decide (nx = 0) := rfl
  cases hb : decide (nx = 0)
  all_goals
    rw [hb] at hnb
    simp only [hb] at hK'
    clear hb
    conv => arg 2; whnf
    go_wp2_with fail
    refine (qda _ _).mono ?_
    rintro r w1 ⟨rfl, he⟩
    replace f0 := he.at f0
    replace f1 := he.at f1
    replace f2 := he.at f2
    replace z0 := (he.frozens _ _ hlt).trans z0
    replace z1 := (he.frozens _ _ hlt).trans z1
    replace z2 := (he.frozens _ _ hlt).trans z2
    replace hw : Ext w0 w1 := hw.trans he
    simp only [boolV, Val.v]
    go_wp2_with fail
    first
      | (refine bodyPost_ret (v := .agg #[.int .i64 2, .int .i64 1, .string ByteArray.empty]) ?_ rfl ?_
         · simp [results, Tryz.results52, go_sem, f0, f1, f2]
         · exact hK'.out _ (qs hw _ (by omega) _ _ _))
      | (refine bodyPost_ret (v := .agg #[.int .i64 2, .int .i64 0, .string ByteArray.empty]) ?_ rfl ?_
         · simp [results, Tryz.results52, go_sem, f0, f1, f2]
         · exact hK'.out _ (qs hw _ (by omega) _ _ _))
set_option maxRecDepth 100000 in
set_option maxHeartbeats 1000000 in
theorem ev_neg (F : List Fn) (time : Int) (R P : List Val) (o n : Int) (s : ByteArray) (l : List Ex) (A : Option Addr) (cap : Nat) (vs : List Val) (w0 : World) (vF vR vP vl : Value) (w : World) (h : qce F time R P o n s l A cap vs w0 vF vR vP vl w) (ho : o = 7) (x : Val) (hvs : vs = [x]) (Q : Ending → World → Prop) (hK : ∀ w', Ext w0 w' → Q (.returned (numV (wrap64 (-x.n))).v) w')
    (u6 u7 u8 u9 u10 u11 u12 u13 u14 u15 u16 u17 u18 u19 u20 u21 u22 u23 u24 u25 u26 u27 u28 u29 u30 u31 u32 u33 u34 u35 u36 u37 u38 u39 u40 u41 u42 u43 u44 u45 u46 u47 u48 u49 u50 u51 u52 u53 u54 u55 u56 u57 u58 u59 u60 u61 u62 u63 u64 u65 u66 u67 u68 u69 u70 u71 u72 u73 u74 u75 u76 u77 u78 u79 u80 u81 u82 u83 u84 u85 u86 u87 u88 u89 u90 u91 u92 u93 u94 u95 u96 u97 u98 u99 u100 u101 u102 u103 u104 u105 u106 u107 u108 u109 u110 u111 u112 u113 u114 u115 u116 u117 u118 u119 u120 u121 u122 u123 u124 u125 u126 u127 u128 u129 u130 u131 u132 u133 u134 u135 u136 u137 u138 : Value) : Code.wp Tryz.prog evalTail (bodyPost Tryz.prog Tryz.f52 Q) ⟨#[qx vF time vR vP, .agg #[.int .i64 o, .int .i64 n, .string s, .slice A l.length cap], .pointer (some ⟨w0.heap.size, 0, none⟩), .pointer (some ⟨w0.heap.size + 1, 0, none⟩), .pointer (some ⟨w0.heap.size + 1 + 1, 0, none⟩), vl, u6, u7, u8, u9, u10, u11, u12, u13, u14, u15, u16, u17, u18, u19, u20, u21, u22, u23, u24, u25, u26, u27, u28, u29, u30, u31, u32, u33, u34, u35, u36, u37, u38, u39, u40, u41, u42, u43, u44, u45, u46, u47, u48, u49, u50, u51, u52, u53, u54, u55, u56, u57, u58, u59, u60, u61, u62, u63, u64, u65, u66, u67, u68, u69, u70, u71, u72, u73, u74, u75, u76, u77, u78, u79, u80, u81, u82, u83, u84, u85, u86, u87, u88, u89, u90, u91, u92, u93, u94, u95, u96, u97, u98, u99, u100, u101, u102, u103, u104, u105, u106, u107, u108, u109, u110, u111, u112, u113, u114, u115, u116, u117, u118, u119, u120, u121, u122, u123, u124, u125, u126, u127, u128, u129, u130, u131, u132, u133, u134, u135, u136, u137, u138], []⟩ w := by
  obtain ⟨s0, s1, s2, s3, e0, e1, e2, f0, f1, f2, z0, z1, z2, hlt, hw, hF, hR, hP, hl⟩ := h
  have hK' := Lib.hid hK; clear hK
  simp only [qx]
  subst ho
  subst hvs
  obtain ⟨A9, cap9, b9, off9, rfl, g1, g2, g3, g4⟩ := Rd.sl_open hl
  simp only [List.length_map] at *
  obtain ⟨rfl, -⟩ := g3 (by simp)
  obtain ⟨c0, c1, c2, -⟩ := Val.at g4 (k := 0) (by simp)
  simp only [List.getElem_cons_zero, List.length_cons, List.length_nil, Nat.zero_mul, Nat.add_zero, Nat.zero_add] at *
  clear g3 g4 hF hR hP hl
  obtain ⟨kx, nx, sx⟩ := x
  simp only at *
  conv => arg 2; whnf
  go_wp2_with fail
  refine (qbv _ _).mono ?_
  rintro r w1 ⟨rfl, he⟩
  replace f0 := he.at f0
  replace f1 := he.at f1
  replace f2 := he.at f2
  replace z0 := (he.frozens _ _ hlt).trans z0
  replace z1 := (he.frozens _ _ hlt).trans z1
  replace z2 := (he.frozens _ _ hlt).trans z2
  replace hw : Ext w0 w1 := hw.trans he
  simp only [numV, Val.v]
  go_wp2_with fail
  exact bodyPost_ret (v := .agg #[.int .i64 0, .int .i64 (wrap64 (-nx)), .string ByteArray.empty]) (by simp [results, Tryz.results52, go_sem, f0, f1, f2]) rfl (hK'.out _ (qs hw _ (by omega) _ _ _))
set_option maxRecDepth 100000 in
set_option maxHeartbeats 1000000 in
theorem ev_len (F : List Fn) (time : Int) (R P : List Val) (o n : Int) (s : ByteArray) (l : List Ex) (A : Option Addr) (cap : Nat) (vs : List Val) (w0 : World) (vF vR vP vl : Value) (w : World) (h : qce F time R P o n s l A cap vs w0 vF vR vP vl w) (ho : o = 20) (x : Val) (hvs : vs = [x]) (Q : Ending → World → Prop) (hK : ∀ w', Ext w0 w' → Q (.returned (numV x.s.size).v) w')
    (u6 u7 u8 u9 u10 u11 u12 u13 u14 u15 u16 u17 u18 u19 u20 u21 u22 u23 u24 u25 u26 u27 u28 u29 u30 u31 u32 u33 u34 u35 u36 u37 u38 u39 u40 u41 u42 u43 u44 u45 u46 u47 u48 u49 u50 u51 u52 u53 u54 u55 u56 u57 u58 u59 u60 u61 u62 u63 u64 u65 u66 u67 u68 u69 u70 u71 u72 u73 u74 u75 u76 u77 u78 u79 u80 u81 u82 u83 u84 u85 u86 u87 u88 u89 u90 u91 u92 u93 u94 u95 u96 u97 u98 u99 u100 u101 u102 u103 u104 u105 u106 u107 u108 u109 u110 u111 u112 u113 u114 u115 u116 u117 u118 u119 u120 u121 u122 u123 u124 u125 u126 u127 u128 u129 u130 u131 u132 u133 u134 u135 u136 u137 u138 : Value) : Code.wp Tryz.prog evalTail (bodyPost Tryz.prog Tryz.f52 Q) ⟨#[qx vF time vR vP, .agg #[.int .i64 o, .int .i64 n, .string s, .slice A l.length cap], .pointer (some ⟨w0.heap.size, 0, none⟩), .pointer (some ⟨w0.heap.size + 1, 0, none⟩), .pointer (some ⟨w0.heap.size + 1 + 1, 0, none⟩), vl, u6, u7, u8, u9, u10, u11, u12, u13, u14, u15, u16, u17, u18, u19, u20, u21, u22, u23, u24, u25, u26, u27, u28, u29, u30, u31, u32, u33, u34, u35, u36, u37, u38, u39, u40, u41, u42, u43, u44, u45, u46, u47, u48, u49, u50, u51, u52, u53, u54, u55, u56, u57, u58, u59, u60, u61, u62, u63, u64, u65, u66, u67, u68, u69, u70, u71, u72, u73, u74, u75, u76, u77, u78, u79, u80, u81, u82, u83, u84, u85, u86, u87, u88, u89, u90, u91, u92, u93, u94, u95, u96, u97, u98, u99, u100, u101, u102, u103, u104, u105, u106, u107, u108, u109, u110, u111, u112, u113, u114, u115, u116, u117, u118, u119, u120, u121, u122, u123, u124, u125, u126, u127, u128, u129, u130, u131, u132, u133, u134, u135, u136, u137, u138], []⟩ w := by
  obtain ⟨s0, s1, s2, s3, e0, e1, e2, f0, f1, f2, z0, z1, z2, hlt, hw, hF, hR, hP, hl⟩ := h
  have hK' := Lib.hid hK; clear hK
  simp only [qx]
  subst ho
  subst hvs
  obtain ⟨A9, cap9, b9, off9, rfl, g1, g2, g3, g4⟩ := Rd.sl_open hl
  simp only [List.length_map] at *
  obtain ⟨rfl, -⟩ := g3 (by simp)
  obtain ⟨c0, c1, c2, -⟩ := Val.at g4 (k := 0) (by simp)
  simp only [List.getElem_cons_zero, List.length_cons, List.length_nil, Nat.zero_mul, Nat.add_zero, Nat.zero_add] at *
  clear g3 g4 hF hR hP hl
  obtain ⟨kx, nx, sx⟩ := x
  simp only at *
  conv => arg 2; whnf
  go_wp2_with fail
  refine (qbv _ _).mono ?_
  rintro r w1 ⟨rfl, he⟩
  replace f0 := he.at f0
  replace f1 := he.at f1
  replace f2 := he.at f2
  replace z0 := (he.frozens _ _ hlt).trans z0
  replace z1 := (he.frozens _ _ hlt).trans z1
  replace z2 := (he.frozens _ _ hlt).trans z2
  replace hw : Ext w0 w1 := hw.trans he
  simp only [numV, Val.v]
  go_wp2_with fail
  exact bodyPost_ret (v := .agg #[.int .i64 0, .int .i64 ((sx.size : Int)), .string ByteArray.empty]) (by simp [results, Tryz.results52, go_sem, f0, f1, f2]) rfl (hK'.out _ (qs hw _ (by omega) _ _ _))
end Go.Proofs.YtnkimlkoijfcpaaGreatDoor

/- Walk: the end of (frame).eval: a call. (written by gen_evcall.py) -/
namespace Go.Proofs.YtnkimlkoijfcpaaGreatDoor
open Go.RowKit Go.Lib
set_option maxRecDepth 100000 in
set_option maxHeartbeats 1000000 in
theorem ev_call (F : List Fn) (time : Int) (R P : List Val) (o n : Int) (s : ByteArray) (l : List Ex) (A : Option Addr) (cap : Nat) (vs : List Val) (w0 : World) (vF vR vP vl : Value) (w : World) (h : qce F time R P o n s l A cap vs w0 vF vR vP vl w) (ho : o = 22) (k : Nat) (hn : n = k) (hk : k < F.length) (Z : Val) (hcall : ∀ (vF vl : Value) (cs : List Value) (w' : World), Rd w' Any (.sl (F.map Fn.d)) [vF] → Rd w' Any (.sl (vs.map Val.d)) [vl] → Rd w' Any F[k].body.d cs → Calls Tryz.prog 52 #[qx vF time (.slice none 0 0) vl, .agg cs.toArray] w' fun r w'' => r = .returned Z.v ∧ Ext w' w'') (Q : Ending → World → Prop) (hK : ∀ w', Ext w0 w' → Q (.returned (Z).v) w')
    (u6 u7 u8 u9 u10 u11 u12 u13 u14 u15 u16 u17 u18 u19 u20 u21 u22 u23 u24 u25 u26 u27 u28 u29 u30 u31 u32 u33 u34 u35 u36 u37 u38 u39 u40 u41 u42 u43 u44 u45 u46 u47 u48 u49 u50 u51 u52 u53 u54 u55 u56 u57 u58 u59 u60 u61 u62 u63 u64 u65 u66 u67 u68 u69 u70 u71 u72 u73 u74 u75 u76 u77 u78 u79 u80 u81 u82 u83 u84 u85 u86 u87 u88 u89 u90 u91 u92 u93 u94 u95 u96 u97 u98 u99 u100 u101 u102 u103 u104 u105 u106 u107 u108 u109 u110 u111 u112 u113 u114 u115 u116 u117 u118 u119 u120 u121 u122 u123 u124 u125 u126 u127 u128 u129 u130 u131 u132 u133 u134 u135 u136 u137 u138 : Value) : Code.wp Tryz.prog evalTail (bodyPost Tryz.prog Tryz.f52 Q) ⟨#[qx vF time vR vP, .agg #[.int .i64 o, .int .i64 n, .string s, .slice A l.length cap], .pointer (some ⟨w0.heap.size, 0, none⟩), .pointer (some ⟨w0.heap.size + 1, 0, none⟩), .pointer (some ⟨w0.heap.size + 1 + 1, 0, none⟩), vl, u6, u7, u8, u9, u10, u11, u12, u13, u14, u15, u16, u17, u18, u19, u20, u21, u22, u23, u24, u25, u26, u27, u28, u29, u30, u31, u32, u33, u34, u35, u36, u37, u38, u39, u40, u41, u42, u43, u44, u45, u46, u47, u48, u49, u50, u51, u52, u53, u54, u55, u56, u57, u58, u59, u60, u61, u62, u63, u64, u65, u66, u67, u68, u69, u70, u71, u72, u73, u74, u75, u76, u77, u78, u79, u80, u81, u82, u83, u84, u85, u86, u87, u88, u89, u90, u91, u92, u93, u94, u95, u96, u97, u98, u99, u100, u101, u102, u103, u104, u105, u106, u107, u108, u109, u110, u111, u112, u113, u114, u115, u116, u117, u118, u119, u120, u121, u122, u123, u124, u125, u126, u127, u128, u129, u130, u131, u132, u133, u134, u135, u136, u137, u138], []⟩ w := by
  obtain ⟨s0, s1, s2, s3, e0, e1, e2, f0, f1, f2, z0, z1, z2, hlt, hw, hF, hR, hP, hl⟩ := h
  have hK' := Lib.hid hK; clear hK
  simp only [qx]
  subst ho
  subst hn
  obtain ⟨AF, capF, bF, offF, rfl, g1, g2, g3, g4⟩ := Rd.sl_open hF
  obtain ⟨A9, cap9, b9, off9, rfl, q1, q2, -, -⟩ := Rd.sl_open hl
  simp only [List.length_map] at *
  obtain ⟨rfl, hSF⟩ := g3 (by omega)
  obtain ⟨A1, cap1, b1, off1, A2, cap2, b2, off2, c0, c1, c2, c3, c4, c5, c6, -, -, -, -, -, r1, r2, r3, r4⟩ := Fn.at g4 hk
  have hb' := Lib.hid (Ex.mk_rd r1 r2 r3 r4)
  have hF' := Lib.hid hF; have hl' := Lib.hid hl
  clear hF hl hR hP g3 g4 r3 r4
  obtain ⟨kz, nz, sz⟩ := Z
  simp only [Val.v, qx] at hcall hK'
  have hcall' := Lib.hid hcall; clear hcall
  have hk1 : ¬ F.length ≤ k := by omega
  have hk2 : (0 : Int) ≤ (k : Int) := by omega
  have hk3 : (k : Int) < (F.length : Int) := by omega
  have gs0 := ExtW.at s0
  have gs1 := ExtW.at s1
  have ge0 := ExtW.at e0
  have ge1 := ExtW.at e1
  have gc3 := ExtW.at c3
  have gc4 := ExtW.at c4
  have gc5 := ExtW.at c5
  have gc6 := ExtW.at c6
  conv => arg 2; whnf
  go_wp2_with fail
  refine qt 14 (by kernel_rfl) (by kernel_rfl) ?_
  simp only [List.take_succ_cons, List.take_zero, List.drop_succ_cons, List.drop_zero]
  repeat (go_big_quiet_step (((go_at_call 52; exact Calls.ext_of (hcall'.out _ _ _ _ (hF'.out.ext (ExtW.ext _)) (hl'.out.ext (ExtW.ext _)) (hb'.out.ext (ExtW.ext _)))))))
  refine wpQuiet_nil ?_
  intro w1 he
  replace f0 := he.at f0
  replace f1 := he.at f1
  replace f2 := he.at f2
  replace z0 := (he.frozens _ _ hlt).trans z0
  replace z1 := (he.frozens _ _ hlt).trans z1
  replace z2 := (he.frozens _ _ hlt).trans z2
  replace hw : Ext w0 w1 := hw.trans he
  go_wp2_with fail
  exact bodyPost_ret (v := .agg #[.int .i64 kz, .int .i64 nz, .string sz]) (by simp [results, Tryz.results52, go_sem, f0, f1, f2]) rfl (hK'.out _ (qs hw _ (by omega) _ _ _))
end Go.Proofs.YtnkimlkoijfcpaaGreatDoor

/- A map literal in a new block: its insertions and its look-ups, with integer keys. -/
namespace Go.Proofs.YtnkimlkoijfcpaaGreatDoor
open Go.RowKit Go.Lib
variable {P : Program}
theorem set_new (w : World) (o o' : Obj) : ({ w.alloc o with heap := (w.alloc o).heap.setIfInBounds w.heap.size o' } : World) = w.alloc o' := by
  have h : (w.heap.push o).setIfInBounds w.heap.size o' = w.heap.push o' := by
    apply Array.ext
    · simp
    · intro i h1 h2
      by_cases hi : i = w.heap.size
      · subst hi; simp
      · have : i < w.heap.size := by simp at h2; omega
        rw [Array.getElem_setIfInBounds_ne (by simpa using h1) (fun e => hi e.symm), Array.getElem_push_lt this, Array.getElem_push_lt this]
  show ({ w with heap := (w.heap.push o).setIfInBounds w.heap.size o' } : World) = { w with heap := w.heap.push o' }
  rw [h]
theorem qbo {t kt et : TypeId} {q : IntKind} (hm : P.underlying t = some (.map kt et)) (hk : P.underlying kt = some (.int q)) (w : World) (es : Array MapEntry) (c : Nat) (k : Int) (v : Value)
    (hf : Instr.findNow (.int q) (.int q k) es.toList 0 = some none) :
    (Instr.mapUpdate t (.map (some w.heap.size)) (.int q k) v).run P (w.alloc (.map es c)) = .ok () (w.alloc (.map (es.push { key := .int q k, val := v, born := c }) (c + 1))) := by
  have hb : (w.alloc (.map es c)).heap[w.heap.size]? = some (.map es c) := heap_alloc_new w _
  have hc : (Instr.checkKey false 10000 kt (.int q k)).run P (w.alloc (.map es c)) = .ok () (w.alloc (.map es c)) := MapKept.run_checkKey (k := .int q k) hk (by simp [MapKept.IsKey]) false 9999
  have h := set_new w (.map es c) (.map (es.push { key := .int q k, val := v, born := c }) (c + 1))
  simp [Instr.mapUpdate, run_underlying hm, MapKept.run_getObj_map hb, hc, MapKept.run_findKey hk hf, MapKept.run_setObj_map _ hb, Result.andThen]
  exact h
theorem lookup_lit {t kt et : TypeId} {q : IntKind} (hm : P.underlying t = some (.map kt et)) (hk : P.underlying kt = some (.int q)) (w : World) (b : Nat) (es : Array MapEntry) (c : Nat) (hb : w.heap[b]? = some (.map es c)) (k : Int) (i : Nat) (v : Value)
    (hf : Instr.findNow (.int q) (.int q k) es.toList 0 = some (some (i, v))) :
    (Instr.lookup t (.map (some b)) (.int q k) false).run P w = .ok v w := by
  have hc : (Instr.checkKey es.isEmpty 10000 kt (.int q k)).run P w = .ok () w := MapKept.run_checkKey (k := .int q k) hk (by simp [MapKept.IsKey]) _ 9999
  have hc2 := hc
  simp only [Array.isEmpty] at hc2
  simp [Instr.lookup, run_underlying hm, MapKept.run_getObj_map hb, hc, hc2, MapKept.run_findKey hk hf, Result.andThen]
end Go.Proofs.YtnkimlkoijfcpaaGreatDoor

/- The map of functions that eval makes. (written by gen_bin.py) -/
namespace Go.Proofs.YtnkimlkoijfcpaaGreatDoor
open Go.RowKit Go.Lib
set_option maxRecDepth 10000 in
theorem fn_map (w : World) : ∃ E1 E2 E3 E4 E5 E6 E7 E8 E9 E10 E11 E12 : Array MapEntry,
    (Instr.mapUpdate 142 (.map (some w.heap.size)) (.int .i64 8) (.func (Go.Fn.func 99) #[] #[])).run Tryz.prog (w.alloc (.map #[] 0)) = .ok () (w.alloc (.map E1 1)) ∧
    (Instr.mapUpdate 142 (.map (some w.heap.size)) (.int .i64 9) (.func (Go.Fn.func 100) #[] #[])).run Tryz.prog (w.alloc (.map E1 1)) = .ok () (w.alloc (.map E2 2)) ∧
    (Instr.mapUpdate 142 (.map (some w.heap.size)) (.int .i64 10) (.func (Go.Fn.func 101) #[] #[])).run Tryz.prog (w.alloc (.map E2 2)) = .ok () (w.alloc (.map E3 3)) ∧
    (Instr.mapUpdate 142 (.map (some w.heap.size)) (.int .i64 11) (.func (Go.Fn.func 102) #[] #[])).run Tryz.prog (w.alloc (.map E3 3)) = .ok () (w.alloc (.map E4 4)) ∧
    (Instr.mapUpdate 142 (.map (some w.heap.size)) (.int .i64 12) (.func (Go.Fn.func 103) #[] #[])).run Tryz.prog (w.alloc (.map E4 4)) = .ok () (w.alloc (.map E5 5)) ∧
    (Instr.mapUpdate 142 (.map (some w.heap.size)) (.int .i64 13) (.func (Go.Fn.func 104) #[] #[])).run Tryz.prog (w.alloc (.map E5 5)) = .ok () (w.alloc (.map E6 6)) ∧
    (Instr.mapUpdate 142 (.map (some w.heap.size)) (.int .i64 14) (.func (Go.Fn.func 105) #[] #[])).run Tryz.prog (w.alloc (.map E6 6)) = .ok () (w.alloc (.map E7 7)) ∧
    (Instr.mapUpdate 142 (.map (some w.heap.size)) (.int .i64 15) (.func (Go.Fn.func 106) #[] #[])).run Tryz.prog (w.alloc (.map E7 7)) = .ok () (w.alloc (.map E8 8)) ∧
    (Instr.mapUpdate 142 (.map (some w.heap.size)) (.int .i64 16) (.func (Go.Fn.func 107) #[] #[])).run Tryz.prog (w.alloc (.map E8 8)) = .ok () (w.alloc (.map E9 9)) ∧
    (Instr.mapUpdate 142 (.map (some w.heap.size)) (.int .i64 17) (.func (Go.Fn.func 108) #[] #[])).run Tryz.prog (w.alloc (.map E9 9)) = .ok () (w.alloc (.map E10 10)) ∧
    (Instr.mapUpdate 142 (.map (some w.heap.size)) (.int .i64 18) (.func (Go.Fn.func 109) #[] #[])).run Tryz.prog (w.alloc (.map E10 10)) = .ok () (w.alloc (.map E11 11)) ∧
    (Instr.mapUpdate 142 (.map (some w.heap.size)) (.int .i64 19) (.func (Go.Fn.func 110) #[] #[])).run Tryz.prog (w.alloc (.map E11 11)) = .ok () (w.alloc (.map E12 12)) ∧
    (∀ (op : Int) (v : Value), Instr.findNow (.int .i64) (.int .i64 op) E12.toList 0 = some (some (op.toNat - 8, v)) → ∀ w' : World, Ext (w.alloc (.map E12 12)) w' → (Instr.lookup 142 (.map (some w.heap.size)) (.int .i64 op) false).run Tryz.prog w' = .ok v w') ∧
    E12.toList = [⟨.int .i64 8, (.func (Go.Fn.func 99) #[] #[]), 0⟩, ⟨.int .i64 9, (.func (Go.Fn.func 100) #[] #[]), 1⟩, ⟨.int .i64 10, (.func (Go.Fn.func 101) #[] #[]), 2⟩, ⟨.int .i64 11, (.func (Go.Fn.func 102) #[] #[]), 3⟩, ⟨.int .i64 12, (.func (Go.Fn.func 103) #[] #[]), 4⟩, ⟨.int .i64 13, (.func (Go.Fn.func 104) #[] #[]), 5⟩, ⟨.int .i64 14, (.func (Go.Fn.func 105) #[] #[]), 6⟩, ⟨.int .i64 15, (.func (Go.Fn.func 106) #[] #[]), 7⟩, ⟨.int .i64 16, (.func (Go.Fn.func 107) #[] #[]), 8⟩, ⟨.int .i64 17, (.func (Go.Fn.func 108) #[] #[]), 9⟩, ⟨.int .i64 18, (.func (Go.Fn.func 109) #[] #[]), 10⟩, ⟨.int .i64 19, (.func (Go.Fn.func 110) #[] #[]), 11⟩] := by
  refine ⟨#[⟨.int .i64 8, (.func (Go.Fn.func 99) #[] #[]), 0⟩], #[⟨.int .i64 8, (.func (Go.Fn.func 99) #[] #[]), 0⟩, ⟨.int .i64 9, (.func (Go.Fn.func 100) #[] #[]), 1⟩], #[⟨.int .i64 8, (.func (Go.Fn.func 99) #[] #[]), 0⟩, ⟨.int .i64 9, (.func (Go.Fn.func 100) #[] #[]), 1⟩, ⟨.int .i64 10, (.func (Go.Fn.func 101) #[] #[]), 2⟩], #[⟨.int .i64 8, (.func (Go.Fn.func 99) #[] #[]), 0⟩, ⟨.int .i64 9, (.func (Go.Fn.func 100) #[] #[]), 1⟩, ⟨.int .i64 10, (.func (Go.Fn.func 101) #[] #[]), 2⟩, ⟨.int .i64 11, (.func (Go.Fn.func 102) #[] #[]), 3⟩], #[⟨.int .i64 8, (.func (Go.Fn.func 99) #[] #[]), 0⟩, ⟨.int .i64 9, (.func (Go.Fn.func 100) #[] #[]), 1⟩, ⟨.int .i64 10, (.func (Go.Fn.func 101) #[] #[]), 2⟩, ⟨.int .i64 11, (.func (Go.Fn.func 102) #[] #[]), 3⟩, ⟨.int .i64 12, (.func (Go.Fn.func 103) #[] #[]), 4⟩], #[⟨.int .i64 8, (.func (Go.Fn.func 99) #[] #[]), 0⟩, ⟨.int .i64 9, (.func (Go.Fn.func 100) #[] #[]), 1⟩, ⟨.int .i64 10, (.func (Go.Fn.func 101) #[] #[]), 2⟩, ⟨.int .i64 11, (.func (Go.Fn.func 102) #[] #[]), 3⟩, ⟨.int .i64 12, (.func (Go.Fn.func 103) #[] #[]), 4⟩, ⟨.int .i64 13, (.func (Go.Fn.func 104) #[] #[]), 5⟩], #[⟨.int .i64 8, (.func (Go.Fn.func 99) #[] #[]), 0⟩, ⟨.int .i64 9, (.func (Go.Fn.func 100) #[] #[]), 1⟩, ⟨.int .i64 10, (.func (Go.Fn.func 101) #[] #[]), 2⟩, ⟨.int .i64 11, (.func (Go.Fn.func 102) #[] #[]), 3⟩, ⟨.int .i64 12, (.func (Go.Fn.func 103) #[] #[]), 4⟩, ⟨.int .i64 13, (.func (Go.Fn.func 104) #[] #[]), 5⟩, ⟨.int .i64 14, (.func (Go.Fn.func 105) #[] #[]), 6⟩], #[⟨.int .i64 8, (.func (Go.Fn.func 99) #[] #[]), 0⟩, ⟨.int .i64 9, (.func (Go.Fn.func 100) #[] #[]), 1⟩, ⟨.int .i64 10, (.func (Go.Fn.func 101) #[] #[]), 2⟩, ⟨.int .i64 11, (.func (Go.Fn.func 102) #[] #[]), 3⟩, ⟨.int .i64 12, (.func (Go.Fn.func 103) #[] #[]), 4⟩, ⟨.int .i64 13, (.func (Go.Fn.func 104) #[] #[]), 5⟩, ⟨.int .i64 14, (.func (Go.Fn.func 105) #[] #[]), 6⟩, ⟨.int .i64 15, (.func (Go.Fn.func 106) #[] #[]), 7⟩], #[⟨.int .i64 8, (.func (Go.Fn.func 99) #[] #[]), 0⟩, ⟨.int .i64 9, (.func (Go.Fn.func 100) #[] #[]), 1⟩, ⟨.int .i64 10, (.func (Go.Fn.func 101) #[] #[]), 2⟩, ⟨.int .i64 11, (.func (Go.Fn.func 102) #[] #[]), 3⟩, ⟨.int .i64 12, (.func (Go.Fn.func 103) #[] #[]), 4⟩, ⟨.int .i64 13, (.func (Go.Fn.func 104) #[] #[]), 5⟩, ⟨.int .i64 14, (.func (Go.Fn.func 105) #[] #[]), 6⟩, ⟨.int .i64 15, (.func (Go.Fn.func 106) #[] #[]), 7⟩, ⟨.int .i64 16, (.func (Go.Fn.func 107) #[] #[]), 8⟩], #[⟨.int .i64 8, (.func (Go.Fn.func 99) #[] #[]), 0⟩, ⟨.int .i64 9, (.func (Go.Fn.func 100) #[] #[]), 1⟩, ⟨.int .i64 10, (.func (Go.Fn.func 101) #[] #[]), 2⟩, ⟨.int .i64 11, (.func (Go.Fn.func 102) #[] #[]), 3⟩, ⟨.int .i64 12, (.func (Go.Fn.func 103) #[] #[]), 4⟩, ⟨.int .i64 13, (.func (Go.Fn.func 104) #[] #[]), 5⟩, ⟨.int .i64 14, (.func (Go.Fn.func 105) #[] #[]), 6⟩, ⟨.int .i64 15, (.func (Go.Fn.func 106) #[] #[]), 7⟩, ⟨.int .i64 16, (.func (Go.Fn.func 107) #[] #[]), 8⟩, ⟨.int .i64 17, (.func (Go.Fn.func 108) #[] #[]), 9⟩], #[⟨.int .i64 8, (.func (Go.Fn.func 99) #[] #[]), 0⟩, ⟨.int .i64 9, (.func (Go.Fn.func 100) #[] #[]), 1⟩, ⟨.int .i64 10, (.func (Go.Fn.func 101) #[] #[]), 2⟩, ⟨.int .i64 11, (.func (Go.Fn.func 102) #[] #[]), 3⟩, ⟨.int .i64 12, (.func (Go.Fn.func 103) #[] #[]), 4⟩, ⟨.int .i64 13, (.func (Go.Fn.func 104) #[] #[]), 5⟩, ⟨.int .i64 14, (.func (Go.Fn.func 105) #[] #[]), 6⟩, ⟨.int .i64 15, (.func (Go.Fn.func 106) #[] #[]), 7⟩, ⟨.int .i64 16, (.func (Go.Fn.func 107) #[] #[]), 8⟩, ⟨.int .i64 17, (.func (Go.Fn.func 108) #[] #[]), 9⟩, ⟨.int .i64 18, (.func (Go.Fn.func 109) #[] #[]), 10⟩], #[⟨.int .i64 8, (.func (Go.Fn.func 99) #[] #[]), 0⟩, ⟨.int .i64 9, (.func (Go.Fn.func 100) #[] #[]), 1⟩, ⟨.int .i64 10, (.func (Go.Fn.func 101) #[] #[]), 2⟩, ⟨.int .i64 11, (.func (Go.Fn.func 102) #[] #[]), 3⟩, ⟨.int .i64 12, (.func (Go.Fn.func 103) #[] #[]), 4⟩, ⟨.int .i64 13, (.func (Go.Fn.func 104) #[] #[]), 5⟩, ⟨.int .i64 14, (.func (Go.Fn.func 105) #[] #[]), 6⟩, ⟨.int .i64 15, (.func (Go.Fn.func 106) #[] #[]), 7⟩, ⟨.int .i64 16, (.func (Go.Fn.func 107) #[] #[]), 8⟩, ⟨.int .i64 17, (.func (Go.Fn.func 108) #[] #[]), 9⟩, ⟨.int .i64 18, (.func (Go.Fn.func 109) #[] #[]), 10⟩, ⟨.int .i64 19, (.func (Go.Fn.func 110) #[] #[]), 11⟩], qbo (kt := 3) (et := 138) (q := .i64) (by kernel_rfl) (by kernel_rfl) w _ _ _ _ rfl, qbo (kt := 3) (et := 138) (q := .i64) (by kernel_rfl) (by kernel_rfl) w _ _ _ _ rfl, qbo (kt := 3) (et := 138) (q := .i64) (by kernel_rfl) (by kernel_rfl) w _ _ _ _ rfl, qbo (kt := 3) (et := 138) (q := .i64) (by kernel_rfl) (by kernel_rfl) w _ _ _ _ rfl, qbo (kt := 3) (et := 138) (q := .i64) (by kernel_rfl) (by kernel_rfl) w _ _ _ _ rfl, qbo (kt := 3) (et := 138) (q := .i64) (by kernel_rfl) (by kernel_rfl) w _ _ _ _ rfl, qbo (kt := 3) (et := 138) (q := .i64) (by kernel_rfl) (by kernel_rfl) w _ _ _ _ rfl, qbo (kt := 3) (et := 138) (q := .i64) (by kernel_rfl) (by kernel_rfl) w _ _ _ _ rfl, qbo (kt := 3) (et := 138) (q := .i64) (by kernel_rfl) (by kernel_rfl) w _ _ _ _ rfl, qbo (kt := 3) (et := 138) (q := .i64) (by kernel_rfl) (by kernel_rfl) w _ _ _ _ rfl, qbo (kt := 3) (et := 138) (q := .i64) (by kernel_rfl) (by kernel_rfl) w _ _ _ _ rfl, qbo (kt := 3) (et := 138) (q := .i64) (by kernel_rfl) (by kernel_rfl) w _ _ _ _ rfl, fun op v hf w' he => lookup_lit (kt := 3) (et := 138) (q := .i64) (by kernel_rfl) (by kernel_rfl) w' _ _ _ ((he.block _ (by simp)).trans (heap_alloc_new w _)) _ _ _ hf, rfl⟩
end Go.Proofs.YtnkimlkoijfcpaaGreatDoor
