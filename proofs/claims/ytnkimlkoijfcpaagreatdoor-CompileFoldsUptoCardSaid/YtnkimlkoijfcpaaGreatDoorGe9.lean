/- Walk: the end of (frame).eval: the operations on two values. (written by gen_bin.py) -/
import Derived.Test.YtnkimlkoijfcpaaGreatDoorGe8
set_option linter.unusedSimpArgs false
set_option linter.unusedVariables false
namespace Go.Proofs.YtnkimlkoijfcpaaGreatDoor
open Go.RowKit Go.Lib
set_option maxRecDepth 100000 in
set_option maxHeartbeats 1000000 in
theorem ev_add (F : List Fn) (time : Int) (R P : List Val) (o n : Int) (s : ByteArray) (l : List Ex) (A : Option Addr) (cap : Nat) (vs : List Val) (w0 : World) (vF vR vP vl : Value) (w : World) (h : qce F time R P o n s l A cap vs w0 vF vR vP vl w) (ho : o = 8) (x y : Val) (hvs : vs = [x, y]) (Q : Ending → World → Prop) (hK : ∀ w', Ext w0 w' → Q (.returned (numV (wrap64 (x.n + y.n))).v) w')
    (u6 u7 u8 u9 u10 u11 u12 u13 u14 u15 u16 u17 u18 u19 u20 u21 u22 u23 u24 u25 u26 u27 u28 u29 u30 u31 u32 u33 u34 u35 u36 u37 u38 u39 u40 u41 u42 u43 u44 u45 u46 u47 u48 u49 u50 u51 u52 u53 u54 u55 u56 u57 u58 u59 u60 u61 u62 u63 u64 u65 u66 u67 u68 u69 u70 u71 u72 u73 u74 u75 u76 u77 u78 u79 u80 u81 u82 u83 u84 u85 u86 u87 u88 u89 u90 u91 u92 u93 u94 u95 u96 u97 u98 u99 u100 u101 u102 u103 u104 u105 u106 u107 u108 u109 u110 u111 u112 u113 u114 u115 u116 u117 u118 u119 u120 u121 u122 u123 u124 u125 u126 u127 u128 u129 u130 u131 u132 u133 u134 u135 u136 u137 u138 : Value) : Code.wp Tryz.prog evalTail (bodyPost Tryz.prog Tryz.f52 Q) ⟨#[qx vF time vR vP, .agg #[.int .i64 o, .int .i64 n, .string s, .slice A l.length cap], .pointer (some ⟨w0.heap.size, 0, none⟩), .pointer (some ⟨w0.heap.size + 1, 0, none⟩), .pointer (some ⟨w0.heap.size + 1 + 1, 0, none⟩), vl, u6, u7, u8, u9, u10, u11, u12, u13, u14, u15, u16, u17, u18, u19, u20, u21, u22, u23, u24, u25, u26, u27, u28, u29, u30, u31, u32, u33, u34, u35, u36, u37, u38, u39, u40, u41, u42, u43, u44, u45, u46, u47, u48, u49, u50, u51, u52, u53, u54, u55, u56, u57, u58, u59, u60, u61, u62, u63, u64, u65, u66, u67, u68, u69, u70, u71, u72, u73, u74, u75, u76, u77, u78, u79, u80, u81, u82, u83, u84, u85, u86, u87, u88, u89, u90, u91, u92, u93, u94, u95, u96, u97, u98, u99, u100, u101, u102, u103, u104, u105, u106, u107, u108, u109, u110, u111, u112, u113, u114, u115, u116, u117, u118, u119, u120, u121, u122, u123, u124, u125, u126, u127, u128, u129, u130, u131, u132, u133, u134, u135, u136, u137, u138], []⟩ w := by
  obtain ⟨s0, s1, s2, s3, e0, e1, e2, f0, f1, f2, z0, z1, z2, hlt, hw, hF, hR, hP, hl⟩ := h
  have hK' := Lib.hid hK; clear hK
  simp only [qx]
  subst ho
  subst hvs
  obtain ⟨A9, cap9, b9, off9, rfl, g1, g2, g3, g4⟩ := Rd.sl_open hl
  simp only [List.length_map] at *
  obtain ⟨rfl, -⟩ := g3 (by simp)
  obtain ⟨c0, c1, c2, -⟩ := Val.at g4 (k := 0) (by simp)
  obtain ⟨d0, d1, d2, -⟩ := Val.at g4 (k := 1) (by simp)
  simp only [List.getElem_cons_zero, List.getElem_cons_succ, List.length_cons, List.length_nil, Nat.zero_mul, Nat.one_mul, Nat.add_zero, Nat.zero_add, Nat.reduceAdd] at *
  clear g3 g4 hF hR hP hl
  obtain ⟨kx, nx, sx⟩ := x
  obtain ⟨ky, ny, sy⟩ := y
  have hcall := fun w => add_any ⟨kx, nx, sx⟩ ⟨ky, ny, sy⟩ w
  simp only [pairV] at hcall hK'
  generalize numV (wrap64 (nx + ny)) = Z at *
  obtain ⟨kz, nz, sz⟩ := Z
  simp only [Val.v] at *
  have hcall' := Lib.hid hcall; clear hcall
  have hmm := @run_makeMap Tryz.prog
  obtain ⟨E1, E2, E3, E4, E5, E6, E7, E8, E9, E10, E11, E12, m1, m2, m3, m4, m5, m6, m7, m8, m9, m10, m11, m12, hlk, hE⟩ := fn_map w
  have hk2 := hlk 8 (.func (Go.Fn.func 99) #[] #[]) (by rw [hE]; rfl)
  clear hlk hE
  have hk3 := Lib.hid hk2; clear hk2
  conv => arg 2; whnf
  go_wp2_with fail
  generalize hWe : World.alloc w _ = W1
  have he1 : Ext w W1 := by rw [← hWe]; exact (by repeat' first | exact Ext.refl _ | assumption | apply Ext.alloc | apply Ext.drew | apply Ext.drewN | (refine Ext.trans ?_ (by assumption)))
  have hk4 : ∀ a : ExtW W1, (Instr.lookup 142 (.map (some w.heap.size)) (.int .i64 8) false).run Tryz.prog a.val = .ok (.func (Go.Fn.func 99) #[] #[]) a.val := fun a => hk3.out a.val (by rw [hWe]; exact a.ext)
  clear hWe hmm m1 m2 m3 m4 m5 m6 m7 m8 m9 m10 m11 m12
  have e0 := he1.at e0
  have c0 := he1.at c0
  have c1 := he1.at c1
  have c2 := he1.at c2
  have d0 := he1.at d0
  have d1 := he1.at d1
  have d2 := he1.at d2
  have ge0 := ExtW.at e0
  have gc0 := ExtW.at c0
  have gc1 := ExtW.at c1
  have gc2 := ExtW.at c2
  have gd0 := ExtW.at d0
  have gd1 := ExtW.at d1
  have gd2 := ExtW.at d2
  refine qt 12 (by kernel_rfl) (by kernel_rfl) ?_
  simp only [List.take_succ_cons, List.take_zero, List.drop_succ_cons, List.drop_zero]
  repeat (go_big_quiet_step (((go_at_call 99; exact Calls.ext_of (hcall'.out _)))))
  refine wpQuiet_nil ?_
  intro w2 he2
  have he := he1.trans he2
  clear hcall'
  replace f0 := he.at f0
  replace f1 := he.at f1
  replace f2 := he.at f2
  replace z0 := (he.frozens _ _ hlt).trans z0
  replace z1 := (he.frozens _ _ hlt).trans z1
  replace z2 := (he.frozens _ _ hlt).trans z2
  replace hw : Ext w0 w2 := hw.trans he
  go_wp2_with fail
  exact bodyPost_ret (v := .agg #[.int .i64 kz, .int .i64 nz, .string sz]) (by simp [results, Tryz.results52, go_sem, f0, f1, f2]) rfl (hK'.out _ (qs hw _ (by omega) _ _ _))
set_option maxRecDepth 100000 in
set_option maxHeartbeats 1000000 in
theorem ev_sub (F : List Fn) (time : Int) (R P : List Val) (o n : Int) (s : ByteArray) (l : List Ex) (A : Option Addr) (cap : Nat) (vs : List Val) (w0 : World) (vF vR vP vl : Value) (w : World) (h : qce F time R P o n s l A cap vs w0 vF vR vP vl w) (ho : o = 9) (x y : Val) (hvs : vs = [x, y]) (Q : Ending → World → Prop) (hK : ∀ w', Ext w0 w' → Q (.returned (numV (wrap64 (x.n - y.n))).v) w')
    (u6 u7 u8 u9 u10 u11 u12 u13 u14 u15 u16 u17 u18 u19 u20 u21 u22 u23 u24 u25 u26 u27 u28 u29 u30 u31 u32 u33 u34 u35 u36 u37 u38 u39 u40 u41 u42 u43 u44 u45 u46 u47 u48 u49 u50 u51 u52 u53 u54 u55 u56 u57 u58 u59 u60 u61 u62 u63 u64 u65 u66 u67 u68 u69 u70 u71 u72 u73 u74 u75 u76 u77 u78 u79 u80 u81 u82 u83 u84 u85 u86 u87 u88 u89 u90 u91 u92 u93 u94 u95 u96 u97 u98 u99 u100 u101 u102 u103 u104 u105 u106 u107 u108 u109 u110 u111 u112 u113 u114 u115 u116 u117 u118 u119 u120 u121 u122 u123 u124 u125 u126 u127 u128 u129 u130 u131 u132 u133 u134 u135 u136 u137 u138 : Value) : Code.wp Tryz.prog evalTail (bodyPost Tryz.prog Tryz.f52 Q) ⟨#[qx vF time vR vP, .agg #[.int .i64 o, .int .i64 n, .string s, .slice A l.length cap], .pointer (some ⟨w0.heap.size, 0, none⟩), .pointer (some ⟨w0.heap.size + 1, 0, none⟩), .pointer (some ⟨w0.heap.size + 1 + 1, 0, none⟩), vl, u6, u7, u8, u9, u10, u11, u12, u13, u14, u15, u16, u17, u18, u19, u20, u21, u22, u23, u24, u25, u26, u27, u28, u29, u30, u31, u32, u33, u34, u35, u36, u37, u38, u39, u40, u41, u42, u43, u44, u45, u46, u47, u48, u49, u50, u51, u52, u53, u54, u55, u56, u57, u58, u59, u60, u61, u62, u63, u64, u65, u66, u67, u68, u69, u70, u71, u72, u73, u74, u75, u76, u77, u78, u79, u80, u81, u82, u83, u84, u85, u86, u87, u88, u89, u90, u91, u92, u93, u94, u95, u96, u97, u98, u99, u100, u101, u102, u103, u104, u105, u106, u107, u108, u109, u110, u111, u112, u113, u114, u115, u116, u117, u118, u119, u120, u121, u122, u123, u124, u125, u126, u127, u128, u129, u130, u131, u132, u133, u134, u135, u136, u137, u138], []⟩ w := by
  obtain ⟨s0, s1, s2, s3, e0, e1, e2, f0, f1, f2, z0, z1, z2, hlt, hw, hF, hR, hP, hl⟩ := h
  have hK' := Lib.hid hK; clear hK
  simp only [qx]
  subst ho
  subst hvs
  obtain ⟨A9, cap9, b9, off9, rfl, g1, g2, g3, g4⟩ := Rd.sl_open hl
  simp only [List.length_map] at *
  obtain ⟨rfl, -⟩ := g3 (by simp)
  obtain ⟨c0, c1, c2, -⟩ := Val.at g4 (k := 0) (by simp)
  obtain ⟨d0, d1, d2, -⟩ := Val.at g4 (k := 1) (by simp)
  simp only [List.getElem_cons_zero, List.getElem_cons_succ, List.length_cons, List.length_nil, Nat.zero_mul, Nat.one_mul, Nat.add_zero, Nat.zero_add, Nat.reduceAdd] at *
  clear g3 g4 hF hR hP hl
  obtain ⟨kx, nx, sx⟩ := x
  obtain ⟨ky, ny, sy⟩ := y
  have hcall := fun w => sub_any ⟨kx, nx, sx⟩ ⟨ky, ny, sy⟩ w
  simp only [pairV] at hcall hK'
  generalize numV (wrap64 (nx - ny)) = Z at *
  obtain ⟨kz, nz, sz⟩ := Z
  simp only [Val.v] at *
  have hcall' := Lib.hid hcall; clear hcall
  have hmm := @run_makeMap Tryz.prog
  obtain ⟨E1, E2, E3, E4, E5, E6, E7, E8, E9, E10, E11, E12, m1, m2, m3, m4, m5, m6, m7, m8, m9, m10, m11, m12, hlk, hE⟩ := fn_map w
  have hk2 := hlk 9 (.func (Go.Fn.func 100) #[] #[]) (by rw [hE]; rfl)
  clear hlk hE
  have hk3 := Lib.hid hk2; clear hk2
  conv => arg 2; whnf
  go_wp2_with fail
  generalize hWe : World.alloc w _ = W1
  have he1 : Ext w W1 := by rw [← hWe]; exact (by repeat' first | exact Ext.refl _ | assumption | apply Ext.alloc | apply Ext.drew | apply Ext.drewN | (refine Ext.trans ?_ (by assumption)))
  have hk4 : ∀ a : ExtW W1, (Instr.lookup 142 (.map (some w.heap.size)) (.int .i64 9) false).run Tryz.prog a.val = .ok (.func (Go.Fn.func 100) #[] #[]) a.val := fun a => hk3.out a.val (by rw [hWe]; exact a.ext)
  clear hWe hmm m1 m2 m3 m4 m5 m6 m7 m8 m9 m10 m11 m12
  have e0 := he1.at e0
  have c0 := he1.at c0
  have c1 := he1.at c1
  have c2 := he1.at c2
  have d0 := he1.at d0
  have d1 := he1.at d1
  have d2 := he1.at d2
  have ge0 := ExtW.at e0
  have gc0 := ExtW.at c0
  have gc1 := ExtW.at c1
  have gc2 := ExtW.at c2
  have gd0 := ExtW.at d0
  have gd1 := ExtW.at d1
  have gd2 := ExtW.at d2
  refine qt 12 (by kernel_rfl) (by kernel_rfl) ?_
  simp only [List.take_succ_cons, List.take_zero, List.drop_succ_cons, List.drop_zero]
  repeat (go_big_quiet_step (((go_at_call 100; exact Calls.ext_of (hcall'.out _)))))
  refine wpQuiet_nil ?_
  intro w2 he2
  have he := he1.trans he2
  clear hcall'
  replace f0 := he.at f0
  replace f1 := he.at f1
  replace f2 := he.at f2
  replace z0 := (he.frozens _ _ hlt).trans z0
  replace z1 := (he.frozens _ _ hlt).trans z1
  replace z2 := (he.frozens _ _ hlt).trans z2
  replace hw : Ext w0 w2 := hw.trans he
  go_wp2_with fail
  exact bodyPost_ret (v := .agg #[.int .i64 kz, .int .i64 nz, .string sz]) (by simp [results, Tryz.results52, go_sem, f0, f1, f2]) rfl (hK'.out _ (qs hw _ (by omega) _ _ _))
set_option maxRecDepth 100000 in
set_option maxHeartbeats 1000000 in
theorem ev_mul (F : List Fn) (time : Int) (R P : List Val) (o n : Int) (s : ByteArray) (l : List Ex) (A : Option Addr) (cap : Nat) (vs : List Val) (w0 : World) (vF vR vP vl : Value) (w : World) (h : qce F time R P o n s l A cap vs w0 vF vR vP vl w) (ho : o = 10) (x y : Val) (hvs : vs = [x, y]) (Q : Ending → World → Prop) (hK : ∀ w', Ext w0 w' → Q (.returned (numV (wrap64 (x.n * y.n))).v) w')
    (u6 u7 u8 u9 u10 u11 u12 u13 u14 u15 u16 u17 u18 u19 u20 u21 u22 u23 u24 u25 u26 u27 u28 u29 u30 u31 u32 u33 u34 u35 u36 u37 u38 u39 u40 u41 u42 u43 u44 u45 u46 u47 u48 u49 u50 u51 u52 u53 u54 u55 u56 u57 u58 u59 u60 u61 u62 u63 u64 u65 u66 u67 u68 u69 u70 u71 u72 u73 u74 u75 u76 u77 u78 u79 u80 u81 u82 u83 u84 u85 u86 u87 u88 u89 u90 u91 u92 u93 u94 u95 u96 u97 u98 u99 u100 u101 u102 u103 u104 u105 u106 u107 u108 u109 u110 u111 u112 u113 u114 u115 u116 u117 u118 u119 u120 u121 u122 u123 u124 u125 u126 u127 u128 u129 u130 u131 u132 u133 u134 u135 u136 u137 u138 : Value) : Code.wp Tryz.prog evalTail (bodyPost Tryz.prog Tryz.f52 Q) ⟨#[qx vF time vR vP, .agg #[.int .i64 o, .int .i64 n, .string s, .slice A l.length cap], .pointer (some ⟨w0.heap.size, 0, none⟩), .pointer (some ⟨w0.heap.size + 1, 0, none⟩), .pointer (some ⟨w0.heap.size + 1 + 1, 0, none⟩), vl, u6, u7, u8, u9, u10, u11, u12, u13, u14, u15, u16, u17, u18, u19, u20, u21, u22, u23, u24, u25, u26, u27, u28, u29, u30, u31, u32, u33, u34, u35, u36, u37, u38, u39, u40, u41, u42, u43, u44, u45, u46, u47, u48, u49, u50, u51, u52, u53, u54, u55, u56, u57, u58, u59, u60, u61, u62, u63, u64, u65, u66, u67, u68, u69, u70, u71, u72, u73, u74, u75, u76, u77, u78, u79, u80, u81, u82, u83, u84, u85, u86, u87, u88, u89, u90, u91, u92, u93, u94, u95, u96, u97, u98, u99, u100, u101, u102, u103, u104, u105, u106, u107, u108, u109, u110, u111, u112, u113, u114, u115, u116, u117, u118, u119, u120, u121, u122, u123, u124, u125, u126, u127, u128, u129, u130, u131, u132, u133, u134, u135, u136, u137, u138], []⟩ w := by
  obtain ⟨s0, s1, s2, s3, e0, e1, e2, f0, f1, f2, z0, z1, z2, hlt, hw, hF, hR, hP, hl⟩ := h
  have hK' := Lib.hid hK; clear hK
  simp only [qx]
  subst ho
  subst hvs
  obtain ⟨A9, cap9, b9, off9, rfl, g1, g2, g3, g4⟩ := Rd.sl_open hl
  simp only [List.length_map] at *
  obtain ⟨rfl, -⟩ := g3 (by simp)
  obtain ⟨c0, c1, c2, -⟩ := Val.at g4 (k := 0) (by simp)
  obtain ⟨d0, d1, d2, -⟩ := Val.at g4 (k := 1) (by simp)
  simp only [List.getElem_cons_zero, List.getElem_cons_succ, List.length_cons, List.length_nil, Nat.zero_mul, Nat.one_mul, Nat.add_zero, Nat.zero_add, Nat.reduceAdd] at *
  clear g3 g4 hF hR hP hl
  obtain ⟨kx, nx, sx⟩ := x
  obtain ⟨ky, ny, sy⟩ := y
  have hcall := fun w => mul_any ⟨kx, nx, sx⟩ ⟨ky, ny, sy⟩ w
  simp only [pairV] at hcall hK'
  generalize numV (wrap64 (nx * ny)) = Z at *
  obtain ⟨kz, nz, sz⟩ := Z
  simp only [Val.v] at *
  have hcall' := Lib.hid hcall; clear hcall
  have hmm := @run_makeMap Tryz.prog
  obtain ⟨E1, E2, E3, E4, E5, E6, E7, E8, E9, E10, E11, E12, m1, m2, m3, m4, m5, m6, m7, m8, m9, m10, m11, m12, hlk, hE⟩ := fn_map w
  have hk2 := hlk 10 (.func (Go.Fn.func 101) #[] #[]) (by rw [hE]; rfl)
  clear hlk hE
  have hk3 := Lib.hid hk2; clear hk2
  conv => arg 2; whnf
  go_wp2_with fail
  generalize hWe : World.alloc w _ = W1
  have he1 : Ext w W1 := by rw [← hWe]; exact (by repeat' first | exact Ext.refl _ | assumption | apply Ext.alloc | apply Ext.drew | apply Ext.drewN | (refine Ext.trans ?_ (by assumption)))
  have hk4 : ∀ a : ExtW W1, (Instr.lookup 142 (.map (some w.heap.size)) (.int .i64 10) false).run Tryz.prog a.val = .ok (.func (Go.Fn.func 101) #[] #[]) a.val := fun a => hk3.out a.val (by rw [hWe]; exact a.ext)
  clear hWe hmm m1 m2 m3 m4 m5 m6 m7 m8 m9 m10 m11 m12
  have e0 := he1.at e0
  have c0 := he1.at c0
  have c1 := he1.at c1
  have c2 := he1.at c2
  have d0 := he1.at d0
  have d1 := he1.at d1
  have d2 := he1.at d2
  have ge0 := ExtW.at e0
  have gc0 := ExtW.at c0
  have gc1 := ExtW.at c1
  have gc2 := ExtW.at c2
  have gd0 := ExtW.at d0
  have gd1 := ExtW.at d1
  have gd2 := ExtW.at d2
  refine qt 12 (by kernel_rfl) (by kernel_rfl) ?_
  simp only [List.take_succ_cons, List.take_zero, List.drop_succ_cons, List.drop_zero]
  repeat (go_big_quiet_step (((go_at_call 101; exact Calls.ext_of (hcall'.out _)))))
  refine wpQuiet_nil ?_
  intro w2 he2
  have he := he1.trans he2
  clear hcall'
  replace f0 := he.at f0
  replace f1 := he.at f1
  replace f2 := he.at f2
  replace z0 := (he.frozens _ _ hlt).trans z0
  replace z1 := (he.frozens _ _ hlt).trans z1
  replace z2 := (he.frozens _ _ hlt).trans z2
  replace hw : Ext w0 w2 := hw.trans he
  go_wp2_with fail
  exact bodyPost_ret (v := .agg #[.int .i64 kz, .int .i64 nz, .string sz]) (by simp [results, Tryz.results52, go_sem, f0, f1, f2]) rfl (hK'.out _ (qs hw _ (by omega) _ _ _))
set_option maxRecDepth 100000 in
set_option maxHeartbeats 1000000 in
theorem ev_div (F : List Fn) (time : Int) (R P : List Val) (o n : Int) (s : ByteArray) (l : List Ex) (A : Option Addr) (cap : Nat) (vs : List Val) (w0 : World) (vF vR vP vl : Value) (w : World) (h : qce F time R P o n s l A cap vs w0 vF vR vP vl w) (ho : o = 11) (x y : Val) (hvs : vs = [x, y]) (Q : Ending → World → Prop) (hK : ∀ w', Ext w0 w' → Q (.returned (numV (divI x.n y.n)).v) w')
    (u6 u7 u8 u9 u10 u11 u12 u13 u14 u15 u16 u17 u18 u19 u20 u21 u22 u23 u24 u25 u26 u27 u28 u29 u30 u31 u32 u33 u34 u35 u36 u37 u38 u39 u40 u41 u42 u43 u44 u45 u46 u47 u48 u49 u50 u51 u52 u53 u54 u55 u56 u57 u58 u59 u60 u61 u62 u63 u64 u65 u66 u67 u68 u69 u70 u71 u72 u73 u74 u75 u76 u77 u78 u79 u80 u81 u82 u83 u84 u85 u86 u87 u88 u89 u90 u91 u92 u93 u94 u95 u96 u97 u98 u99 u100 u101 u102 u103 u104 u105 u106 u107 u108 u109 u110 u111 u112 u113 u114 u115 u116 u117 u118 u119 u120 u121 u122 u123 u124 u125 u126 u127 u128 u129 u130 u131 u132 u133 u134 u135 u136 u137 u138 : Value) : Code.wp Tryz.prog evalTail (bodyPost Tryz.prog Tryz.f52 Q) ⟨#[qx vF time vR vP, .agg #[.int .i64 o, .int .i64 n, .string s, .slice A l.length cap], .pointer (some ⟨w0.heap.size, 0, none⟩), .pointer (some ⟨w0.heap.size + 1, 0, none⟩), .pointer (some ⟨w0.heap.size + 1 + 1, 0, none⟩), vl, u6, u7, u8, u9, u10, u11, u12, u13, u14, u15, u16, u17, u18, u19, u20, u21, u22, u23, u24, u25, u26, u27, u28, u29, u30, u31, u32, u33, u34, u35, u36, u37, u38, u39, u40, u41, u42, u43, u44, u45, u46, u47, u48, u49, u50, u51, u52, u53, u54, u55, u56, u57, u58, u59, u60, u61, u62, u63, u64, u65, u66, u67, u68, u69, u70, u71, u72, u73, u74, u75, u76, u77, u78, u79, u80, u81, u82, u83, u84, u85, u86, u87, u88, u89, u90, u91, u92, u93, u94, u95, u96, u97, u98, u99, u100, u101, u102, u103, u104, u105, u106, u107, u108, u109, u110, u111, u112, u113, u114, u115, u116, u117, u118, u119, u120, u121, u122, u123, u124, u125, u126, u127, u128, u129, u130, u131, u132, u133, u134, u135, u136, u137, u138], []⟩ w := by
  obtain ⟨s0, s1, s2, s3, e0, e1, e2, f0, f1, f2, z0, z1, z2, hlt, hw, hF, hR, hP, hl⟩ := h
  have hK' := Lib.hid hK; clear hK
  simp only [qx]
  subst ho
  subst hvs
  obtain ⟨A9, cap9, b9, off9, rfl, g1, g2, g3, g4⟩ := Rd.sl_open hl
  simp only [List.length_map] at *
  obtain ⟨rfl, -⟩ := g3 (by simp)
  obtain ⟨c0, c1, c2, -⟩ := Val.at g4 (k := 0) (by simp)
  obtain ⟨d0, d1, d2, -⟩ := Val.at g4 (k := 1) (by simp)
  simp only [List.getElem_cons_zero, List.getElem_cons_succ, List.length_cons, List.length_nil, Nat.zero_mul, Nat.one_mul, Nat.add_zero, Nat.zero_add, Nat.reduceAdd] at *
  clear g3 g4 hF hR hP hl
  obtain ⟨kx, nx, sx⟩ := x
  obtain ⟨ky, ny, sy⟩ := y
  have hcall := fun w => div_any ⟨kx, nx, sx⟩ ⟨ky, ny, sy⟩ w
  simp only [pairV] at hcall hK'
  generalize numV (divI nx ny) = Z at *
  obtain ⟨kz, nz, sz⟩ := Z
  simp only [Val.v] at *
  have hcall' := Lib.hid hcall; clear hcall
  have hmm := @run_makeMap Tryz.prog
  obtain ⟨E1, E2, E3, E4, E5, E6, E7, E8, E9, E10, E11, E12, m1, m2, m3, m4, m5, m6, m7, m8, m9, m10, m11, m12, hlk, hE⟩ := fn_map w
  have hk2 := hlk 11 (.func (Go.Fn.func 102) #[] #[]) (by rw [hE]; rfl)
  clear hlk hE
  have hk3 := Lib.hid hk2; clear hk2
  conv => arg 2; whnf
  go_wp2_with fail
  generalize hWe : World.alloc w _ = W1
  have he1 : Ext w W1 := by rw [← hWe]; exact (by repeat' first | exact Ext.refl _ | assumption | apply Ext.alloc | apply Ext.drew | apply Ext.drewN | (refine Ext.trans ?_ (by assumption)))
  have hk4 : ∀ a : ExtW W1, (Instr.lookup 142 (.map (some w.heap.size)) (.int .i64 11) false).run Tryz.prog a.val = .ok (.func (Go.Fn.func 102) #[] #[]) a.val := fun a => hk3.out a.val (by rw [hWe]; exact a.ext)
  clear hWe hmm m1 m2 m3 m4 m5 m6 m7 m8 m9 m10 m11 m12
  have e0 := he1.at e0
  have c0 := he1.at c0
  have c1 := he1.at c1
  have c2 := he1.at c2
  have d0 := he1.at d0
  have d1 := he1.at d1
  have d2 := he1.at d2
  have ge0 := ExtW.at e0
  have gc0 := ExtW.at c0
  have gc1 := ExtW.at c1
  have gc2 := ExtW.at c2
  have gd0 := ExtW.at d0
  have gd1 := ExtW.at d1
  have gd2 := ExtW.at d2
  refine qt 12 (by kernel_rfl) (by kernel_rfl) ?_
  simp only [List.take_succ_cons, List.take_zero, List.drop_succ_cons, List.drop_zero]
  repeat (go_big_quiet_step (((go_at_call 102; exact Calls.ext_of (hcall'.out _)))))
  refine wpQuiet_nil ?_
  intro w2 he2
  have he := he1.trans he2
  clear hcall'
  replace f0 := he.at f0
  replace f1 := he.at f1
  replace f2 := he.at f2
  replace z0 := (he.frozens _ _ hlt).trans z0
  replace z1 := (he.frozens _ _ hlt).trans z1
  replace z2 := (he.frozens _ _ hlt).trans z2
  replace hw : Ext w0 w2 := hw.trans he
  go_wp2_with fail
  exact bodyPost_ret (v := .agg #[.int .i64 kz, .int .i64 nz, .string sz]) (by simp [results, Tryz.results52, go_sem, f0, f1, f2]) rfl (hK'.out _ (qs hw _ (by omega) _ _ _))
set_option maxRecDepth 100000 in
set_option maxHeartbeats 1000000 in
theorem ev_mod (F : List Fn) (time : Int) (R P : List Val) (o n : Int) (s : ByteArray) (l : List Ex) (A : Option Addr) (cap : Nat) (vs : List Val) (w0 : World) (vF vR vP vl : Value) (w : World) (h : qce F time R P o n s l A cap vs w0 vF vR vP vl w) (ho : o = 12) (x y : Val) (hvs : vs = [x, y]) (Q : Ending → World → Prop) (hK : ∀ w', Ext w0 w' → Q (.returned (numV (modI x.n y.n)).v) w')
    (u6 u7 u8 u9 u10 u11 u12 u13 u14 u15 u16 u17 u18 u19 u20 u21 u22 u23 u24 u25 u26 u27 u28 u29 u30 u31 u32 u33 u34 u35 u36 u37 u38 u39 u40 u41 u42 u43 u44 u45 u46 u47 u48 u49 u50 u51 u52 u53 u54 u55 u56 u57 u58 u59 u60 u61 u62 u63 u64 u65 u66 u67 u68 u69 u70 u71 u72 u73 u74 u75 u76 u77 u78 u79 u80 u81 u82 u83 u84 u85 u86 u87 u88 u89 u90 u91 u92 u93 u94 u95 u96 u97 u98 u99 u100 u101 u102 u103 u104 u105 u106 u107 u108 u109 u110 u111 u112 u113 u114 u115 u116 u117 u118 u119 u120 u121 u122 u123 u124 u125 u126 u127 u128 u129 u130 u131 u132 u133 u134 u135 u136 u137 u138 : Value) : Code.wp Tryz.prog evalTail (bodyPost Tryz.prog Tryz.f52 Q) ⟨#[qx vF time vR vP, .agg #[.int .i64 o, .int .i64 n, .string s, .slice A l.length cap], .pointer (some ⟨w0.heap.size, 0, none⟩), .pointer (some ⟨w0.heap.size + 1, 0, none⟩), .pointer (some ⟨w0.heap.size + 1 + 1, 0, none⟩), vl, u6, u7, u8, u9, u10, u11, u12, u13, u14, u15, u16, u17, u18, u19, u20, u21, u22, u23, u24, u25, u26, u27, u28, u29, u30, u31, u32, u33, u34, u35, u36, u37, u38, u39, u40, u41, u42, u43, u44, u45, u46, u47, u48, u49, u50, u51, u52, u53, u54, u55, u56, u57, u58, u59, u60, u61, u62, u63, u64, u65, u66, u67, u68, u69, u70, u71, u72, u73, u74, u75, u76, u77, u78, u79, u80, u81, u82, u83, u84, u85, u86, u87, u88, u89, u90, u91, u92, u93, u94, u95, u96, u97, u98, u99, u100, u101, u102, u103, u104, u105, u106, u107, u108, u109, u110, u111, u112, u113, u114, u115, u116, u117, u118, u119, u120, u121, u122, u123, u124, u125, u126, u127, u128, u129, u130, u131, u132, u133, u134, u135, u136, u137, u138], []⟩ w := by
  obtain ⟨s0, s1, s2, s3, e0, e1, e2, f0, f1, f2, z0, z1, z2, hlt, hw, hF, hR, hP, hl⟩ := h
  have hK' := Lib.hid hK; clear hK
  simp only [qx]
  subst ho
  subst hvs
  obtain ⟨A9, cap9, b9, off9, rfl, g1, g2, g3, g4⟩ := Rd.sl_open hl
  simp only [List.length_map] at *
  obtain ⟨rfl, -⟩ := g3 (by simp)
  obtain ⟨c0, c1, c2, -⟩ := Val.at g4 (k := 0) (by simp)
  obtain ⟨d0, d1, d2, -⟩ := Val.at g4 (k := 1) (by simp)
  simp only [List.getElem_cons_zero, List.getElem_cons_succ, List.length_cons, List.length_nil, Nat.zero_mul, Nat.one_mul, Nat.add_zero, Nat.zero_add, Nat.reduceAdd] at *
  clear g3 g4 hF hR hP hl
  obtain ⟨kx, nx, sx⟩ := x
  obtain ⟨ky, ny, sy⟩ := y
  have hcall := fun w => mod_any ⟨kx, nx, sx⟩ ⟨ky, ny, sy⟩ w
  simp only [pairV] at hcall hK'
  generalize numV (modI nx ny) = Z at *
  obtain ⟨kz, nz, sz⟩ := Z
  simp only [Val.v] at *
  have hcall' := Lib.hid hcall; clear hcall
  have hmm := @run_makeMap Tryz.prog
  obtain ⟨E1, E2, E3, E4, E5, E6, E7, E8, E9, E10, E11, E12, m1, m2, m3, m4, m5, m6, m7, m8, m9, m10, m11, m12, hlk, hE⟩ := fn_map w
  have hk2 := hlk 12 (.func (Go.Fn.func 103) #[] #[]) (by rw [hE]; rfl)
  clear hlk hE
  have hk3 := Lib.hid hk2; clear hk2
  conv => arg 2; whnf
  go_wp2_with fail
  generalize hWe : World.alloc w _ = W1
  have he1 : Ext w W1 := by rw [← hWe]; exact (by repeat' first | exact Ext.refl _ | assumption | apply Ext.alloc | apply Ext.drew | apply Ext.drewN | (refine Ext.trans ?_ (by assumption)))
  have hk4 : ∀ a : ExtW W1, (Instr.lookup 142 (.map (some w.heap.size)) (.int .i64 12) false).run Tryz.prog a.val = .ok (.func (Go.Fn.func 103) #[] #[]) a.val := fun a => hk3.out a.val (by rw [hWe]; exact a.ext)
  clear hWe hmm m1 m2 m3 m4 m5 m6 m7 m8 m9 m10 m11 m12
  have e0 := he1.at e0
  have c0 := he1.at c0
  have c1 := he1.at c1
  have c2 := he1.at c2
  have d0 := he1.at d0
  have d1 := he1.at d1
  have d2 := he1.at d2
  have ge0 := ExtW.at e0
  have gc0 := ExtW.at c0
  have gc1 := ExtW.at c1
  have gc2 := ExtW.at c2
  have gd0 := ExtW.at d0
  have gd1 := ExtW.at d1
  have gd2 := ExtW.at d2
  refine qt 12 (by kernel_rfl) (by kernel_rfl) ?_
  simp only [List.take_succ_cons, List.take_zero, List.drop_succ_cons, List.drop_zero]
  repeat (go_big_quiet_step (((go_at_call 103; exact Calls.ext_of (hcall'.out _)))))
  refine wpQuiet_nil ?_
  intro w2 he2
  have he := he1.trans he2
  clear hcall'
  replace f0 := he.at f0
  replace f1 := he.at f1
  replace f2 := he.at f2
  replace z0 := (he.frozens _ _ hlt).trans z0
  replace z1 := (he.frozens _ _ hlt).trans z1
  replace z2 := (he.frozens _ _ hlt).trans z2
  replace hw : Ext w0 w2 := hw.trans he
  go_wp2_with fail
  exact bodyPost_ret (v := .agg #[.int .i64 kz, .int .i64 nz, .string sz]) (by simp [results, Tryz.results52, go_sem, f0, f1, f2]) rfl (hK'.out _ (qs hw _ (by omega) _ _ _))
set_option maxRecDepth 100000 in
set_option maxHeartbeats 1000000 in
theorem ev_eq (F : List Fn) (time : Int) (R P : List Val) (o n : Int) (s : ByteArray) (l : List Ex) (A : Option Addr) (cap : Nat) (vs : List Val) (w0 : World) (vF vR vP vl : Value) (w : World) (h : qce F time R P o n s l A cap vs w0 vF vR vP vl w) (ho : o = 13) (x y : Val) (hvs : vs = [x, y]) (Q : Ending → World → Prop) (hK : ∀ w', Ext w0 w' → Q (.returned (boolV (eqV x y)).v) w')
    (u6 u7 u8 u9 u10 u11 u12 u13 u14 u15 u16 u17 u18 u19 u20 u21 u22 u23 u24 u25 u26 u27 u28 u29 u30 u31 u32 u33 u34 u35 u36 u37 u38 u39 u40 u41 u42 u43 u44 u45 u46 u47 u48 u49 u50 u51 u52 u53 u54 u55 u56 u57 u58 u59 u60 u61 u62 u63 u64 u65 u66 u67 u68 u69 u70 u71 u72 u73 u74 u75 u76 u77 u78 u79 u80 u81 u82 u83 u84 u85 u86 u87 u88 u89 u90 u91 u92 u93 u94 u95 u96 u97 u98 u99 u100 u101 u102 u103 u104 u105 u106 u107 u108 u109 u110 u111 u112 u113 u114 u115 u116 u117 u118 u119 u120 u121 u122 u123 u124 u125 u126 u127 u128 u129 u130 u131 u132 u133 u134 u135 u136 u137 u138 : Value) : Code.wp Tryz.prog evalTail (bodyPost Tryz.prog Tryz.f52 Q) ⟨#[qx vF time vR vP, .agg #[.int .i64 o, .int .i64 n, .string s, .slice A l.length cap], .pointer (some ⟨w0.heap.size, 0, none⟩), .pointer (some ⟨w0.heap.size + 1, 0, none⟩), .pointer (some ⟨w0.heap.size + 1 + 1, 0, none⟩), vl, u6, u7, u8, u9, u10, u11, u12, u13, u14, u15, u16, u17, u18, u19, u20, u21, u22, u23, u24, u25, u26, u27, u28, u29, u30, u31, u32, u33, u34, u35, u36, u37, u38, u39, u40, u41, u42, u43, u44, u45, u46, u47, u48, u49, u50, u51, u52, u53, u54, u55, u56, u57, u58, u59, u60, u61, u62, u63, u64, u65, u66, u67, u68, u69, u70, u71, u72, u73, u74, u75, u76, u77, u78, u79, u80, u81, u82, u83, u84, u85, u86, u87, u88, u89, u90, u91, u92, u93, u94, u95, u96, u97, u98, u99, u100, u101, u102, u103, u104, u105, u106, u107, u108, u109, u110, u111, u112, u113, u114, u115, u116, u117, u118, u119, u120, u121, u122, u123, u124, u125, u126, u127, u128, u129, u130, u131, u132, u133, u134, u135, u136, u137, u138], []⟩ w := by
  obtain ⟨s0, s1, s2, s3, e0, e1, e2, f0, f1, f2, z0, z1, z2, hlt, hw, hF, hR, hP, hl⟩ := h
  have hK' := Lib.hid hK; clear hK
  simp only [qx]
  subst ho
  subst hvs
  obtain ⟨A9, cap9, b9, off9, rfl, g1, g2, g3, g4⟩ := Rd.sl_open hl
  simp only [List.length_map] at *
  obtain ⟨rfl, -⟩ := g3 (by simp)
  obtain ⟨c0, c1, c2, -⟩ := Val.at g4 (k := 0) (by simp)
  obtain ⟨d0, d1, d2, -⟩ := Val.at g4 (k := 1) (by simp)
  simp only [List.getElem_cons_zero, List.getElem_cons_succ, List.length_cons, List.length_nil, Nat.zero_mul, Nat.one_mul, Nat.add_zero, Nat.zero_add, Nat.reduceAdd] at *
  clear g3 g4 hF hR hP hl
  obtain ⟨kx, nx, sx⟩ := x
  obtain ⟨ky, ny, sy⟩ := y
  have hcall := fun w => eq_any ⟨kx, nx, sx⟩ ⟨ky, ny, sy⟩ w
  simp only [pairV] at hcall hK'
  generalize boolV (eqV ⟨kx, nx, sx⟩ ⟨ky, ny, sy⟩) = Z at *
  obtain ⟨kz, nz, sz⟩ := Z
  simp only [Val.v] at *
  have hcall' := Lib.hid hcall; clear hcall
  have hmm := @run_makeMap Tryz.prog
  obtain ⟨E1, E2, E3, E4, E5, E6, E7, E8, E9, E10, E11, E12, m1, m2, m3, m4, m5, m6, m7, m8, m9, m10, m11, m12, hlk, hE⟩ := fn_map w
  have hk2 := hlk 13 (.func (Go.Fn.func 104) #[] #[]) (by rw [hE]; rfl)
  clear hlk hE
  have hk3 := Lib.hid hk2; clear hk2
  conv => arg 2; whnf
  go_wp2_with fail
  generalize hWe : World.alloc w _ = W1
  have he1 : Ext w W1 := by rw [← hWe]; exact (by repeat' first | exact Ext.refl _ | assumption | apply Ext.alloc | apply Ext.drew | apply Ext.drewN | (refine Ext.trans ?_ (by assumption)))
  have hk4 : ∀ a : ExtW W1, (Instr.lookup 142 (.map (some w.heap.size)) (.int .i64 13) false).run Tryz.prog a.val = .ok (.func (Go.Fn.func 104) #[] #[]) a.val := fun a => hk3.out a.val (by rw [hWe]; exact a.ext)
  clear hWe hmm m1 m2 m3 m4 m5 m6 m7 m8 m9 m10 m11 m12
  have e0 := he1.at e0
  have c0 := he1.at c0
  have c1 := he1.at c1
  have c2 := he1.at c2
  have d0 := he1.at d0
  have d1 := he1.at d1
  have d2 := he1.at d2
  have ge0 := ExtW.at e0
  have gc0 := ExtW.at c0
  have gc1 := ExtW.at c1
  have gc2 := ExtW.at c2
  have gd0 := ExtW.at d0
  have gd1 := ExtW.at d1
  have gd2 := ExtW.at d2
  refine qt 12 (by kernel_rfl) (by kernel_rfl) ?_
  simp only [List.take_succ_cons, List.take_zero, List.drop_succ_cons, List.drop_zero]
  repeat (go_big_quiet_step (((go_at_call 104; exact Calls.ext_of (hcall'.out _)))))
  refine wpQuiet_nil ?_
  intro w2 he2
  have he := he1.trans he2
  clear hcall'
  replace f0 := he.at f0
  replace f1 := he.at f1
  replace f2 := he.at f2
  replace z0 := (he.frozens _ _ hlt).trans z0
  replace z1 := (he.frozens _ _ hlt).trans z1
  replace z2 := (he.frozens _ _ hlt).trans z2
  replace hw : Ext w0 w2 := hw.trans he
  go_wp2_with fail
  exact bodyPost_ret (v := .agg #[.int .i64 kz, .int .i64 nz, .string sz]) (by simp [results, Tryz.results52, go_sem, f0, f1, f2]) rfl (hK'.out _ (qs hw _ (by omega) _ _ _))
set_option maxRecDepth 100000 in
set_option maxHeartbeats 1000000 in
theorem ev_ne (F : List Fn) (time : Int) (R P : List Val) (o n : Int) (s : ByteArray) (l : List Ex) (A : Option Addr) (cap : Nat) (vs : List Val) (w0 : World) (vF vR vP vl : Value) (w : World) (h : qce F time R P o n s l A cap vs w0 vF vR vP vl w) (ho : o = 14) (x y : Val) (hvs : vs = [x, y]) (Q : Ending → World → Prop) (hK : ∀ w', Ext w0 w' → Q (.returned (boolV (!eqV x y)).v) w')
    (u6 u7 u8 u9 u10 u11 u12 u13 u14 u15 u16 u17 u18 u19 u20 u21 u22 u23 u24 u25 u26 u27 u28 u29 u30 u31 u32 u33 u34 u35 u36 u37 u38 u39 u40 u41 u42 u43 u44 u45 u46 u47 u48 u49 u50 u51 u52 u53 u54 u55 u56 u57 u58 u59 u60 u61 u62 u63 u64 u65 u66 u67 u68 u69 u70 u71 u72 u73 u74 u75 u76 u77 u78 u79 u80 u81 u82 u83 u84 u85 u86 u87 u88 u89 u90 u91 u92 u93 u94 u95 u96 u97 u98 u99 u100 u101 u102 u103 u104 u105 u106 u107 u108 u109 u110 u111 u112 u113 u114 u115 u116 u117 u118 u119 u120 u121 u122 u123 u124 u125 u126 u127 u128 u129 u130 u131 u132 u133 u134 u135 u136 u137 u138 : Value) : Code.wp Tryz.prog evalTail (bodyPost Tryz.prog Tryz.f52 Q) ⟨#[qx vF time vR vP, .agg #[.int .i64 o, .int .i64 n, .string s, .slice A l.length cap], .pointer (some ⟨w0.heap.size, 0, none⟩), .pointer (some ⟨w0.heap.size + 1, 0, none⟩), .pointer (some ⟨w0.heap.size + 1 + 1, 0, none⟩), vl, u6, u7, u8, u9, u10, u11, u12, u13, u14, u15, u16, u17, u18, u19, u20, u21, u22, u23, u24, u25, u26, u27, u28, u29, u30, u31, u32, u33, u34, u35, u36, u37, u38, u39, u40, u41, u42, u43, u44, u45, u46, u47, u48, u49, u50, u51, u52, u53, u54, u55, u56, u57, u58, u59, u60, u61, u62, u63, u64, u65, u66, u67, u68, u69, u70, u71, u72, u73, u74, u75, u76, u77, u78, u79, u80, u81, u82, u83, u84, u85, u86, u87, u88, u89, u90, u91, u92, u93, u94, u95, u96, u97, u98, u99, u100, u101, u102, u103, u104, u105, u106, u107, u108, u109, u110, u111, u112, u113, u114, u115, u116, u117, u118, u119, u120, u121, u122, u123, u124, u125, u126, u127, u128, u129, u130, u131, u132, u133, u134, u135, u136, u137, u138], []⟩ w := by
  obtain ⟨s0, s1, s2, s3, e0, e1, e2, f0, f1, f2, z0, z1, z2, hlt, hw, hF, hR, hP, hl⟩ := h
  have hK' := Lib.hid hK; clear hK
  simp only [qx]
  subst ho
  subst hvs
  obtain ⟨A9, cap9, b9, off9, rfl, g1, g2, g3, g4⟩ := Rd.sl_open hl
  simp only [List.length_map] at *
  obtain ⟨rfl, -⟩ := g3 (by simp)
  obtain ⟨c0, c1, c2, -⟩ := Val.at g4 (k := 0) (by simp)
  obtain ⟨d0, d1, d2, -⟩ := Val.at g4 (k := 1) (by simp)
  simp only [List.getElem_cons_zero, List.getElem_cons_succ, List.length_cons, List.length_nil, Nat.zero_mul, Nat.one_mul, Nat.add_zero, Nat.zero_add, Nat.reduceAdd] at *
  clear g3 g4 hF hR hP hl
  obtain ⟨kx, nx, sx⟩ := x
  obtain ⟨ky, ny, sy⟩ := y
  have hcall := fun w => ne_any ⟨kx, nx, sx⟩ ⟨ky, ny, sy⟩ w
  simp only [pairV] at hcall hK'
  generalize boolV (!eqV ⟨kx, nx, sx⟩ ⟨ky, ny, sy⟩) = Z at *
  obtain ⟨kz, nz, sz⟩ := Z
  simp only [Val.v] at *
  have hcall' := Lib.hid hcall; clear hcall
  have hmm := @run_makeMap Tryz.prog
  obtain ⟨E1, E2, E3, E4, E5, E6, E7, E8, E9, E10, E11, E12, m1, m2, m3, m4, m5, m6, m7, m8, m9, m10, m11, m12, hlk, hE⟩ := fn_map w
  have hk2 := hlk 14 (.func (Go.Fn.func 105) #[] #[]) (by rw [hE]; rfl)
  clear hlk hE
  have hk3 := Lib.hid hk2; clear hk2
  conv => arg 2; whnf
  go_wp2_with fail
  generalize hWe : World.alloc w _ = W1
  have he1 : Ext w W1 := by rw [← hWe]; exact (by repeat' first | exact Ext.refl _ | assumption | apply Ext.alloc | apply Ext.drew | apply Ext.drewN | (refine Ext.trans ?_ (by assumption)))
  have hk4 : ∀ a : ExtW W1, (Instr.lookup 142 (.map (some w.heap.size)) (.int .i64 14) false).run Tryz.prog a.val = .ok (.func (Go.Fn.func 105) #[] #[]) a.val := fun a => hk3.out a.val (by rw [hWe]; exact a.ext)
  clear hWe hmm m1 m2 m3 m4 m5 m6 m7 m8 m9 m10 m11 m12
  have e0 := he1.at e0
  have c0 := he1.at c0
  have c1 := he1.at c1
  have c2 := he1.at c2
  have d0 := he1.at d0
  have d1 := he1.at d1
  have d2 := he1.at d2
  have ge0 := ExtW.at e0
  have gc0 := ExtW.at c0
  have gc1 := ExtW.at c1
  have gc2 := ExtW.at c2
  have gd0 := ExtW.at d0
  have gd1 := ExtW.at d1
  have gd2 := ExtW.at d2
  refine qt 12 (by kernel_rfl) (by kernel_rfl) ?_
  simp only [List.take_succ_cons, List.take_zero, List.drop_succ_cons, List.drop_zero]
  repeat (go_big_quiet_step (((go_at_call 105; exact Calls.ext_of (hcall'.out _)))))
  refine wpQuiet_nil ?_
  intro w2 he2
  have he := he1.trans he2
  clear hcall'
  replace f0 := he.at f0
  replace f1 := he.at f1
  replace f2 := he.at f2
  replace z0 := (he.frozens _ _ hlt).trans z0
  replace z1 := (he.frozens _ _ hlt).trans z1
  replace z2 := (he.frozens _ _ hlt).trans z2
  replace hw : Ext w0 w2 := hw.trans he
  go_wp2_with fail
  exact bodyPost_ret (v := .agg #[.int .i64 kz, .int .i64 nz, .string sz]) (by simp [results, Tryz.results52, go_sem, f0, f1, f2]) rfl (hK'.out _ (qs hw _ (by omega) _ _ _))
set_option maxRecDepth 100000 in
set_option maxHeartbeats 1000000 in
theorem ev_lt (F : List Fn) (time : Int) (R P : List Val) (o n : Int) (s : ByteArray) (l : List Ex) (A : Option Addr) (cap : Nat) (vs : List Val) (w0 : World) (vF vR vP vl : Value) (w : World) (h : qce F time R P o n s l A cap vs w0 vF vR vP vl w) (ho : o = 15) (x y : Val) (hvs : vs = [x, y]) (Q : Ending → World → Prop) (hK : ∀ w', Ext w0 w' → Q (.returned (boolV (decide (cmpV x y < 0))).v) w')
    (u6 u7 u8 u9 u10 u11 u12 u13 u14 u15 u16 u17 u18 u19 u20 u21 u22 u23 u24 u25 u26 u27 u28 u29 u30 u31 u32 u33 u34 u35 u36 u37 u38 u39 u40 u41 u42 u43 u44 u45 u46 u47 u48 u49 u50 u51 u52 u53 u54 u55 u56 u57 u58 u59 u60 u61 u62 u63 u64 u65 u66 u67 u68 u69 u70 u71 u72 u73 u74 u75 u76 u77 u78 u79 u80 u81 u82 u83 u84 u85 u86 u87 u88 u89 u90 u91 u92 u93 u94 u95 u96 u97 u98 u99 u100 u101 u102 u103 u104 u105 u106 u107 u108 u109 u110 u111 u112 u113 u114 u115 u116 u117 u118 u119 u120 u121 u122 u123 u124 u125 u126 u127 u128 u129 u130 u131 u132 u133 u134 u135 u136 u137 u138 : Value) : Code.wp Tryz.prog evalTail (bodyPost Tryz.prog Tryz.f52 Q) ⟨#[qx vF time vR vP, .agg #[.int .i64 o, .int .i64 n, .string s, .slice A l.length cap], .pointer (some ⟨w0.heap.size, 0, none⟩), .pointer (some ⟨w0.heap.size + 1, 0, none⟩), .pointer (some ⟨w0.heap.size + 1 + 1, 0, none⟩), vl, u6, u7, u8, u9, u10, u11, u12, u13, u14, u15, u16, u17, u18, u19, u20, u21, u22, u23, u24, u25, u26, u27, u28, u29, u30, u31, u32, u33, u34, u35, u36, u37, u38, u39, u40, u41, u42, u43, u44, u45, u46, u47, u48, u49, u50, u51, u52, u53, u54, u55, u56, u57, u58, u59, u60, u61, u62, u63, u64, u65, u66, u67, u68, u69, u70, u71, u72, u73, u74, u75, u76, u77, u78, u79, u80, u81, u82, u83, u84, u85, u86, u87, u88, u89, u90, u91, u92, u93, u94, u95, u96, u97, u98, u99, u100, u101, u102, u103, u104, u105, u106, u107, u108, u109, u110, u111, u112, u113, u114, u115, u116, u117, u118, u119, u120, u121, u122, u123, u124, u125, u126, u127, u128, u129, u130, u131, u132, u133, u134, u135, u136, u137, u138], []⟩ w := by
  obtain ⟨s0, s1, s2, s3, e0, e1, e2, f0, f1, f2, z0, z1, z2, hlt, hw, hF, hR, hP, hl⟩ := h
  have hK' := Lib.hid hK; clear hK
  simp only [qx]
  subst ho
  subst hvs
  obtain ⟨A9, cap9, b9, off9, rfl, g1, g2, g3, g4⟩ := Rd.sl_open hl
  simp only [List.length_map] at *
  obtain ⟨rfl, -⟩ := g3 (by simp)
  obtain ⟨c0, c1, c2, -⟩ := Val.at g4 (k := 0) (by simp)
  obtain ⟨d0, d1, d2, -⟩ := Val.at g4 (k := 1) (by simp)
  simp only [List.getElem_cons_zero, List.getElem_cons_succ, List.length_cons, List.length_nil, Nat.zero_mul, Nat.one_mul, Nat.add_zero, Nat.zero_add, Nat.reduceAdd] at *
  clear g3 g4 hF hR hP hl
  obtain ⟨kx, nx, sx⟩ := x
  obtain ⟨ky, ny, sy⟩ := y
  have hcall := fun w => lt_any ⟨kx, nx, sx⟩ ⟨ky, ny, sy⟩ w
  simp only [pairV] at hcall hK'
  generalize boolV (decide (cmpV ⟨kx, nx, sx⟩ ⟨ky, ny, sy⟩ < 0)) = Z at *
  obtain ⟨kz, nz, sz⟩ := Z
  simp only [Val.v] at *
  have hcall' := Lib.hid hcall; clear hcall
  have hmm := @run_makeMap Tryz.prog
  obtain ⟨E1, E2, E3, E4, E5, E6, E7, E8, E9, E10, E11, E12, m1, m2, m3, m4, m5, m6, m7, m8, m9, m10, m11, m12, hlk, hE⟩ := fn_map w
  have hk2 := hlk 15 (.func (Go.Fn.func 106) #[] #[]) (by rw [hE]; rfl)
  clear hlk hE
  have hk3 := Lib.hid hk2; clear hk2
  conv => arg 2; whnf
  go_wp2_with fail
  generalize hWe : World.alloc w _ = W1
  have he1 : Ext w W1 := by rw [← hWe]; exact (by repeat' first | exact Ext.refl _ | assumption | apply Ext.alloc | apply Ext.drew | apply Ext.drewN | (refine Ext.trans ?_ (by assumption)))
  have hk4 : ∀ a : ExtW W1, (Instr.lookup 142 (.map (some w.heap.size)) (.int .i64 15) false).run Tryz.prog a.val = .ok (.func (Go.Fn.func 106) #[] #[]) a.val := fun a => hk3.out a.val (by rw [hWe]; exact a.ext)
  clear hWe hmm m1 m2 m3 m4 m5 m6 m7 m8 m9 m10 m11 m12
  have e0 := he1.at e0
  have c0 := he1.at c0
  have c1 := he1.at c1
  have c2 := he1.at c2
  have d0 := he1.at d0
  have d1 := he1.at d1
  have d2 := he1.at d2
  have ge0 := ExtW.at e0
  have gc0 := ExtW.at c0
  have gc1 := ExtW.at c1
  have gc2 := ExtW.at c2
  have gd0 := ExtW.at d0
  have gd1 := ExtW.at d1
  have gd2 := ExtW.at d2
  refine qt 12 (by kernel_rfl) (by kernel_rfl) ?_
  simp only [List.take_succ_cons, List.take_zero, List.drop_succ_cons, List.drop_zero]
  repeat (go_big_quiet_step (((go_at_call 106; exact Calls.ext_of (hcall'.out _)))))
  refine wpQuiet_nil ?_
  intro w2 he2
  have he := he1.trans he2
  clear hcall'
  replace f0 := he.at f0
  replace f1 := he.at f1
  replace f2 := he.at f2
  replace z0 := (he.frozens _ _ hlt).trans z0
  replace z1 := (he.frozens _ _ hlt).trans z1
  replace z2 := (he.frozens _ _ hlt).trans z2
  replace hw : Ext w0 w2 := hw.trans he
  go_wp2_with fail
  exact bodyPost_ret (v := .agg #[.int .i64 kz, .int .i64 nz, .string sz]) (by simp [results, Tryz.results52, go_sem, f0, f1, f2]) rfl (hK'.out _ (qs hw _ (by omega) _ _ _))
set_option maxRecDepth 100000 in
set_option maxHeartbeats 1000000 in
theorem ev_le (F : List Fn) (time : Int) (R P : List Val) (o n : Int) (s : ByteArray) (l : List Ex) (A : Option Addr) (cap : Nat) (vs : List Val) (w0 : World) (vF vR vP vl : Value) (w : World) (h : qce F time R P o n s l A cap vs w0 vF vR vP vl w) (ho : o = 16) (x y : Val) (hvs : vs = [x, y]) (Q : Ending → World → Prop) (hK : ∀ w', Ext w0 w' → Q (.returned (boolV (decide (cmpV x y ≤ 0))).v) w')
    (u6 u7 u8 u9 u10 u11 u12 u13 u14 u15 u16 u17 u18 u19 u20 u21 u22 u23 u24 u25 u26 u27 u28 u29 u30 u31 u32 u33 u34 u35 u36 u37 u38 u39 u40 u41 u42 u43 u44 u45 u46 u47 u48 u49 u50 u51 u52 u53 u54 u55 u56 u57 u58 u59 u60 u61 u62 u63 u64 u65 u66 u67 u68 u69 u70 u71 u72 u73 u74 u75 u76 u77 u78 u79 u80 u81 u82 u83 u84 u85 u86 u87 u88 u89 u90 u91 u92 u93 u94 u95 u96 u97 u98 u99 u100 u101 u102 u103 u104 u105 u106 u107 u108 u109 u110 u111 u112 u113 u114 u115 u116 u117 u118 u119 u120 u121 u122 u123 u124 u125 u126 u127 u128 u129 u130 u131 u132 u133 u134 u135 u136 u137 u138 : Value) : Code.wp Tryz.prog evalTail (bodyPost Tryz.prog Tryz.f52 Q) ⟨#[qx vF time vR vP, .agg #[.int .i64 o, .int .i64 n, .string s, .slice A l.length cap], .pointer (some ⟨w0.heap.size, 0, none⟩), .pointer (some ⟨w0.heap.size + 1, 0, none⟩), .pointer (some ⟨w0.heap.size + 1 + 1, 0, none⟩), vl, u6, u7, u8, u9, u10, u11, u12, u13, u14, u15, u16, u17, u18, u19, u20, u21, u22, u23, u24, u25, u26, u27, u28, u29, u30, u31, u32, u33, u34, u35, u36, u37, u38, u39, u40, u41, u42, u43, u44, u45, u46, u47, u48, u49, u50, u51, u52, u53, u54, u55, u56, u57, u58, u59, u60, u61, u62, u63, u64, u65, u66, u67, u68, u69, u70, u71, u72, u73, u74, u75, u76, u77, u78, u79, u80, u81, u82, u83, u84, u85, u86, u87, u88, u89, u90, u91, u92, u93, u94, u95, u96, u97, u98, u99, u100, u101, u102, u103, u104, u105, u106, u107, u108, u109, u110, u111, u112, u113, u114, u115, u116, u117, u118, u119, u120, u121, u122, u123, u124, u125, u126, u127, u128, u129, u130, u131, u132, u133, u134, u135, u136, u137, u138], []⟩ w := by
  obtain ⟨s0, s1, s2, s3, e0, e1, e2, f0, f1, f2, z0, z1, z2, hlt, hw, hF, hR, hP, hl⟩ := h
  have hK' := Lib.hid hK; clear hK
  simp only [qx]
  subst ho
  subst hvs
  obtain ⟨A9, cap9, b9, off9, rfl, g1, g2, g3, g4⟩ := Rd.sl_open hl
  simp only [List.length_map] at *
  obtain ⟨rfl, -⟩ := g3 (by simp)
  obtain ⟨c0, c1, c2, -⟩ := Val.at g4 (k := 0) (by simp)
  obtain ⟨d0, d1, d2, -⟩ := Val.at g4 (k := 1) (by simp)
  simp only [List.getElem_cons_zero, List.getElem_cons_succ, List.length_cons, List.length_nil, Nat.zero_mul, Nat.one_mul, Nat.add_zero, Nat.zero_add, Nat.reduceAdd] at *
  clear g3 g4 hF hR hP hl
  obtain ⟨kx, nx, sx⟩ := x
  obtain ⟨ky, ny, sy⟩ := y
  have hcall := fun w => le_any ⟨kx, nx, sx⟩ ⟨ky, ny, sy⟩ w
  simp only [pairV] at hcall hK'
  generalize boolV (decide (cmpV ⟨kx, nx, sx⟩ ⟨ky, ny, sy⟩ ≤ 0)) = Z at *
  obtain ⟨kz, nz, sz⟩ := Z
  simp only [Val.v] at *
  have hcall' := Lib.hid hcall; clear hcall
  have hmm := @run_makeMap Tryz.prog
  obtain ⟨E1, E2, E3, E4, E5, E6, E7, E8, E9, E10, E11, E12, m1, m2, m3, m4, m5, m6, m7, m8, m9, m10, m11, m12, hlk, hE⟩ := fn_map w
  have hk2 := hlk 16 (.func (Go.Fn.func 107) #[] #[]) (by rw [hE]; rfl)
  clear hlk hE
  have hk3 := Lib.hid hk2; clear hk2
  conv => arg 2; whnf
  go_wp2_with fail
  generalize hWe : World.alloc w _ = W1
  have he1 : Ext w W1 := by rw [← hWe]; exact (by repeat' first | exact Ext.refl _ | assumption | apply Ext.alloc | apply Ext.drew | apply Ext.drewN | (refine Ext.trans ?_ (by assumption)))
  have hk4 : ∀ a : ExtW W1, (Instr.lookup 142 (.map (some w.heap.size)) (.int .i64 16) false).run Tryz.prog a.val = .ok (.func (Go.Fn.func 107) #[] #[]) a.val := fun a => hk3.out a.val (by rw [hWe]; exact a.ext)
  clear hWe hmm m1 m2 m3 m4 m5 m6 m7 m8 m9 m10 m11 m12
  have e0 := he1.at e0
  have c0 := he1.at c0
  have c1 := he1.at c1
  have c2 := he1.at c2
  have d0 := he1.at d0
  have d1 := he1.at d1
  have d2 := he1.at d2
  have ge0 := ExtW.at e0
  have gc0 := ExtW.at c0
  have gc1 := ExtW.at c1
  have gc2 := ExtW.at c2
  have gd0 := ExtW.at d0
  have gd1 := ExtW.at d1
  have gd2 := ExtW.at d2
  refine qt 12 (by kernel_rfl) (by kernel_rfl) ?_
  simp only [List.take_succ_cons, List.take_zero, List.drop_succ_cons, List.drop_zero]
  repeat (go_big_quiet_step (((go_at_call 107; exact Calls.ext_of (hcall'.out _)))))
  refine wpQuiet_nil ?_
  intro w2 he2
  have he := he1.trans he2
  clear hcall'
  replace f0 := he.at f0
  replace f1 := he.at f1
  replace f2 := he.at f2
  replace z0 := (he.frozens _ _ hlt).trans z0
  replace z1 := (he.frozens _ _ hlt).trans z1
  replace z2 := (he.frozens _ _ hlt).trans z2
  replace hw : Ext w0 w2 := hw.trans he
  go_wp2_with fail
  exact bodyPost_ret (v := .agg #[.int .i64 kz, .int .i64 nz, .string sz]) (by simp [results, Tryz.results52, go_sem, f0, f1, f2]) rfl (hK'.out _ (qs hw _ (by omega) _ _ _))
set_option maxRecDepth 100000 in
set_option maxHeartbeats 1000000 in
theorem ev_both (F : List Fn) (time : Int) (R P : List Val) (o n : Int) (s : ByteArray) (l : List Ex) (A : Option Addr) (cap : Nat) (vs : List Val) (w0 : World) (vF vR vP vl : Value) (w : World) (h : qce F time R P o n s l A cap vs w0 vF vR vP vl w) (ho : o = 17) (x y : Val) (hvs : vs = [x, y]) (Q : Ending → World → Prop) (hK : ∀ w', Ext w0 w' → Q (.returned (boolV (decide (x.n = 1) && decide (y.n = 1))).v) w')
    (u6 u7 u8 u9 u10 u11 u12 u13 u14 u15 u16 u17 u18 u19 u20 u21 u22 u23 u24 u25 u26 u27 u28 u29 u30 u31 u32 u33 u34 u35 u36 u37 u38 u39 u40 u41 u42 u43 u44 u45 u46 u47 u48 u49 u50 u51 u52 u53 u54 u55 u56 u57 u58 u59 u60 u61 u62 u63 u64 u65 u66 u67 u68 u69 u70 u71 u72 u73 u74 u75 u76 u77 u78 u79 u80 u81 u82 u83 u84 u85 u86 u87 u88 u89 u90 u91 u92 u93 u94 u95 u96 u97 u98 u99 u100 u101 u102 u103 u104 u105 u106 u107 u108 u109 u110 u111 u112 u113 u114 u115 u116 u117 u118 u119 u120 u121 u122 u123 u124 u125 u126 u127 u128 u129 u130 u131 u132 u133 u134 u135 u136 u137 u138 : Value) : Code.wp Tryz.prog evalTail (bodyPost Tryz.prog Tryz.f52 Q) ⟨#[qx vF time vR vP, .agg #[.int .i64 o, .int .i64 n, .string s, .slice A l.length cap], .pointer (some ⟨w0.heap.size, 0, none⟩), .pointer (some ⟨w0.heap.size + 1, 0, none⟩), .pointer (some ⟨w0.heap.size + 1 + 1, 0, none⟩), vl, u6, u7, u8, u9, u10, u11, u12, u13, u14, u15, u16, u17, u18, u19, u20, u21, u22, u23, u24, u25, u26, u27, u28, u29, u30, u31, u32, u33, u34, u35, u36, u37, u38, u39, u40, u41, u42, u43, u44, u45, u46, u47, u48, u49, u50, u51, u52, u53, u54, u55, u56, u57, u58, u59, u60, u61, u62, u63, u64, u65, u66, u67, u68, u69, u70, u71, u72, u73, u74, u75, u76, u77, u78, u79, u80, u81, u82, u83, u84, u85, u86, u87, u88, u89, u90, u91, u92, u93, u94, u95, u96, u97, u98, u99, u100, u101, u102, u103, u104, u105, u106, u107, u108, u109, u110, u111, u112, u113, u114, u115, u116, u117, u118, u119, u120, u121, u122, u123, u124, u125, u126, u127, u128, u129, u130, u131, u132, u133, u134, u135, u136, u137, u138], []⟩ w := by
  obtain ⟨s0, s1, s2, s3, e0, e1, e2, f0, f1, f2, z0, z1, z2, hlt, hw, hF, hR, hP, hl⟩ := h
  have hK' := Lib.hid hK; clear hK
  simp only [qx]
  subst ho
  subst hvs
  obtain ⟨A9, cap9, b9, off9, rfl, g1, g2, g3, g4⟩ := Rd.sl_open hl
  simp only [List.length_map] at *
  obtain ⟨rfl, -⟩ := g3 (by simp)
  obtain ⟨c0, c1, c2, -⟩ := Val.at g4 (k := 0) (by simp)
  obtain ⟨d0, d1, d2, -⟩ := Val.at g4 (k := 1) (by simp)
  simp only [List.getElem_cons_zero, List.getElem_cons_succ, List.length_cons, List.length_nil, Nat.zero_mul, Nat.one_mul, Nat.add_zero, Nat.zero_add, Nat.reduceAdd] at *
  clear g3 g4 hF hR hP hl
  obtain ⟨kx, nx, sx⟩ := x
  obtain ⟨ky, ny, sy⟩ := y
  have hcall := fun w => both_any ⟨kx, nx, sx⟩ ⟨ky, ny, sy⟩ w
  simp only [pairV] at hcall hK'
  generalize boolV (decide (nx = 1) && decide (ny = 1)) = Z at *
  obtain ⟨kz, nz, sz⟩ := Z
  simp only [Val.v] at *
  have hcall' := Lib.hid hcall; clear hcall
  have hmm := @run_makeMap Tryz.prog
  obtain ⟨E1, E2, E3, E4, E5, E6, E7, E8, E9, E10, E11, E12, m1, m2, m3, m4, m5, m6, m7, m8, m9, m10, m11, m12, hlk, hE⟩ := fn_map w
  have hk2 := hlk 17 (.func (Go.Fn.func 108) #[] #[]) (by rw [hE]; rfl)
  clear hlk hE
  have hk3 := Lib.hid hk2; clear hk2
  conv => arg 2; whnf
  go_wp2_with fail
  generalize hWe : World.alloc w _ = W1
  have he1 : Ext w W1 := by rw [← hWe]; exact (by repeat' first | exact Ext.refl _ | assumption | apply Ext.alloc | apply Ext.drew | apply Ext.drewN | (refine Ext.trans ?_ (by assumption)))
  have hk4 : ∀ a : ExtW W1, (Instr.lookup 142 (.map (some w.heap.size)) (.int .i64 17) false).run Tryz.prog a.val = .ok (.func (Go.Fn.func 108) #[] #[]) a.val := fun a => hk3.out a.val (by rw [hWe]; exact a.ext)
  clear hWe hmm m1 m2 m3 m4 m5 m6 m7 m8 m9 m10 m11 m12
  have e0 := he1.at e0
  have c0 := he1.at c0
  have c1 := he1.at c1
  have c2 := he1.at c2
  have d0 := he1.at d0
  have d1 := he1.at d1
  have d2 := he1.at d2
  have ge0 := ExtW.at e0
  have gc0 := ExtW.at c0
  have gc1 := ExtW.at c1
  have gc2 := ExtW.at c2
  have gd0 := ExtW.at d0
  have gd1 := ExtW.at d1
  have gd2 := ExtW.at d2
  refine qt 12 (by kernel_rfl) (by kernel_rfl) ?_
  simp only [List.take_succ_cons, List.take_zero, List.drop_succ_cons, List.drop_zero]
  repeat (go_big_quiet_step (((go_at_call 108; exact Calls.ext_of (hcall'.out _)))))
  refine wpQuiet_nil ?_
  intro w2 he2
  have he := he1.trans he2
  clear hcall'
  replace f0 := he.at f0
  replace f1 := he.at f1
  replace f2 := he.at f2
  replace z0 := (he.frozens _ _ hlt).trans z0
  replace z1 := (he.frozens _ _ hlt).trans z1
  replace z2 := (he.frozens _ _ hlt).trans z2
  replace hw : Ext w0 w2 := hw.trans he
  go_wp2_with fail
  exact bodyPost_ret (v := .agg #[.int .i64 kz, .int .i64 nz, .string sz]) (by simp [results, Tryz.results52, go_sem, f0, f1, f2]) rfl (hK'.out _ (qs hw _ (by omega) _ _ _))
set_option maxRecDepth 100000 in
set_option maxHeartbeats 1000000 in
theorem ev_any (F : List Fn) (time : Int) (R P : List Val) (o n : Int) (s : ByteArray) (l : List Ex) (A : Option Addr) (cap : Nat) (vs : List Val) (w0 : World) (vF vR vP vl : Value) (w : World) (h : qce F time R P o n s l A cap vs w0 vF vR vP vl w) (ho : o = 18) (x y : Val) (hvs : vs = [x, y]) (Q : Ending → World → Prop) (hK : ∀ w', Ext w0 w' → Q (.returned (boolV (decide (x.n = 1) || decide (y.n = 1))).v) w')
    (u6 u7 u8 u9 u10 u11 u12 u13 u14 u15 u16 u17 u18 u19 u20 u21 u22 u23 u24 u25 u26 u27 u28 u29 u30 u31 u32 u33 u34 u35 u36 u37 u38 u39 u40 u41 u42 u43 u44 u45 u46 u47 u48 u49 u50 u51 u52 u53 u54 u55 u56 u57 u58 u59 u60 u61 u62 u63 u64 u65 u66 u67 u68 u69 u70 u71 u72 u73 u74 u75 u76 u77 u78 u79 u80 u81 u82 u83 u84 u85 u86 u87 u88 u89 u90 u91 u92 u93 u94 u95 u96 u97 u98 u99 u100 u101 u102 u103 u104 u105 u106 u107 u108 u109 u110 u111 u112 u113 u114 u115 u116 u117 u118 u119 u120 u121 u122 u123 u124 u125 u126 u127 u128 u129 u130 u131 u132 u133 u134 u135 u136 u137 u138 : Value) : Code.wp Tryz.prog evalTail (bodyPost Tryz.prog Tryz.f52 Q) ⟨#[qx vF time vR vP, .agg #[.int .i64 o, .int .i64 n, .string s, .slice A l.length cap], .pointer (some ⟨w0.heap.size, 0, none⟩), .pointer (some ⟨w0.heap.size + 1, 0, none⟩), .pointer (some ⟨w0.heap.size + 1 + 1, 0, none⟩), vl, u6, u7, u8, u9, u10, u11, u12, u13, u14, u15, u16, u17, u18, u19, u20, u21, u22, u23, u24, u25, u26, u27, u28, u29, u30, u31, u32, u33, u34, u35, u36, u37, u38, u39, u40, u41, u42, u43, u44, u45, u46, u47, u48, u49, u50, u51, u52, u53, u54, u55, u56, u57, u58, u59, u60, u61, u62, u63, u64, u65, u66, u67, u68, u69, u70, u71, u72, u73, u74, u75, u76, u77, u78, u79, u80, u81, u82, u83, u84, u85, u86, u87, u88, u89, u90, u91, u92, u93, u94, u95, u96, u97, u98, u99, u100, u101, u102, u103, u104, u105, u106, u107, u108, u109, u110, u111, u112, u113, u114, u115, u116, u117, u118, u119, u120, u121, u122, u123, u124, u125, u126, u127, u128, u129, u130, u131, u132, u133, u134, u135, u136, u137, u138], []⟩ w := by
  obtain ⟨s0, s1, s2, s3, e0, e1, e2, f0, f1, f2, z0, z1, z2, hlt, hw, hF, hR, hP, hl⟩ := h
  have hK' := Lib.hid hK; clear hK
  simp only [qx]
  subst ho
  subst hvs
  obtain ⟨A9, cap9, b9, off9, rfl, g1, g2, g3, g4⟩ := Rd.sl_open hl
  simp only [List.length_map] at *
  obtain ⟨rfl, -⟩ := g3 (by simp)
  obtain ⟨c0, c1, c2, -⟩ := Val.at g4 (k := 0) (by simp)
  obtain ⟨d0, d1, d2, -⟩ := Val.at g4 (k := 1) (by simp)
  simp only [List.getElem_cons_zero, List.getElem_cons_succ, List.length_cons, List.length_nil, Nat.zero_mul, Nat.one_mul, Nat.add_zero, Nat.zero_add, Nat.reduceAdd] at *
  clear g3 g4 hF hR hP hl
  obtain ⟨kx, nx, sx⟩ := x
  obtain ⟨ky, ny, sy⟩ := y
  have hcall := fun w => any_any ⟨kx, nx, sx⟩ ⟨ky, ny, sy⟩ w
  simp only [pairV] at hcall hK'
  generalize boolV (decide (nx = 1) || decide (ny = 1)) = Z at *
  obtain ⟨kz, nz, sz⟩ := Z
  simp only [Val.v] at *
  have hcall' := Lib.hid hcall; clear hcall
  have hmm := @run_makeMap Tryz.prog
  obtain ⟨E1, E2, E3, E4, E5, E6, E7, E8, E9, E10, E11, E12, m1, m2, m3, m4, m5, m6, m7, m8, m9, m10, m11, m12, hlk, hE⟩ := fn_map w
  have hk2 := hlk 18 (.func (Go.Fn.func 109) #[] #[]) (by rw [hE]; rfl)
  clear hlk hE
  have hk3 := Lib.hid hk2; clear hk2
  conv => arg 2; whnf
  go_wp2_with fail
  generalize hWe : World.alloc w _ = W1
  have he1 : Ext w W1 := by rw [← hWe]; exact (by repeat' first | exact Ext.refl _ | assumption | apply Ext.alloc | apply Ext.drew | apply Ext.drewN | (refine Ext.trans ?_ (by assumption)))
  have hk4 : ∀ a : ExtW W1, (Instr.lookup 142 (.map (some w.heap.size)) (.int .i64 18) false).run Tryz.prog a.val = .ok (.func (Go.Fn.func 109) #[] #[]) a.val := fun a => hk3.out a.val (by rw [hWe]; exact a.ext)
  clear hWe hmm m1 m2 m3 m4 m5 m6 m7 m8 m9 m10 m11 m12
  have e0 := he1.at e0
  have c0 := he1.at c0
  have c1 := he1.at c1
  have c2 := he1.at c2
  have d0 := he1.at d0
  have d1 := he1.at d1
  have d2 := he1.at d2
  have ge0 := ExtW.at e0
  have gc0 := ExtW.at c0
  have gc1 := ExtW.at c1
  have gc2 := ExtW.at c2
  have gd0 := ExtW.at d0
  have gd1 := ExtW.at d1
  have gd2 := ExtW.at d2
  refine qt 12 (by kernel_rfl) (by kernel_rfl) ?_
  simp only [List.take_succ_cons, List.take_zero, List.drop_succ_cons, List.drop_zero]
  repeat (go_big_quiet_step (((go_at_call 109; exact Calls.ext_of (hcall'.out _)))))
  refine wpQuiet_nil ?_
  intro w2 he2
  have he := he1.trans he2
  clear hcall'
  replace f0 := he.at f0
  replace f1 := he.at f1
  replace f2 := he.at f2
  replace z0 := (he.frozens _ _ hlt).trans z0
  replace z1 := (he.frozens _ _ hlt).trans z1
  replace z2 := (he.frozens _ _ hlt).trans z2
  replace hw : Ext w0 w2 := hw.trans he
  go_wp2_with fail
  exact bodyPost_ret (v := .agg #[.int .i64 kz, .int .i64 nz, .string sz]) (by simp [results, Tryz.results52, go_sem, f0, f1, f2]) rfl (hK'.out _ (qs hw _ (by omega) _ _ _))
set_option maxRecDepth 100000 in
set_option maxHeartbeats 1000000 in
theorem ev_join (F : List Fn) (time : Int) (R P : List Val) (o n : Int) (s : ByteArray) (l : List Ex) (A : Option Addr) (cap : Nat) (vs : List Val) (w0 : World) (vF vR vP vl : Value) (w : World) (h : qce F time R P o n s l A cap vs w0 vF vR vP vl w) (ho : o = 19) (x y : Val) (hvs : vs = [x, y]) (hz : ¬9223372036854775807 < x.s.size + y.s.size) (Q : Ending → World → Prop) (hK : ∀ w', Ext w0 w' → Q (.returned (textV (joinS x.s y.s)).v) w')
    (u6 u7 u8 u9 u10 u11 u12 u13 u14 u15 u16 u17 u18 u19 u20 u21 u22 u23 u24 u25 u26 u27 u28 u29 u30 u31 u32 u33 u34 u35 u36 u37 u38 u39 u40 u41 u42 u43 u44 u45 u46 u47 u48 u49 u50 u51 u52 u53 u54 u55 u56 u57 u58 u59 u60 u61 u62 u63 u64 u65 u66 u67 u68 u69 u70 u71 u72 u73 u74 u75 u76 u77 u78 u79 u80 u81 u82 u83 u84 u85 u86 u87 u88 u89 u90 u91 u92 u93 u94 u95 u96 u97 u98 u99 u100 u101 u102 u103 u104 u105 u106 u107 u108 u109 u110 u111 u112 u113 u114 u115 u116 u117 u118 u119 u120 u121 u122 u123 u124 u125 u126 u127 u128 u129 u130 u131 u132 u133 u134 u135 u136 u137 u138 : Value) : Code.wp Tryz.prog evalTail (bodyPost Tryz.prog Tryz.f52 Q) ⟨#[qx vF time vR vP, .agg #[.int .i64 o, .int .i64 n, .string s, .slice A l.length cap], .pointer (some ⟨w0.heap.size, 0, none⟩), .pointer (some ⟨w0.heap.size + 1, 0, none⟩), .pointer (some ⟨w0.heap.size + 1 + 1, 0, none⟩), vl, u6, u7, u8, u9, u10, u11, u12, u13, u14, u15, u16, u17, u18, u19, u20, u21, u22, u23, u24, u25, u26, u27, u28, u29, u30, u31, u32, u33, u34, u35, u36, u37, u38, u39, u40, u41, u42, u43, u44, u45, u46, u47, u48, u49, u50, u51, u52, u53, u54, u55, u56, u57, u58, u59, u60, u61, u62, u63, u64, u65, u66, u67, u68, u69, u70, u71, u72, u73, u74, u75, u76, u77, u78, u79, u80, u81, u82, u83, u84, u85, u86, u87, u88, u89, u90, u91, u92, u93, u94, u95, u96, u97, u98, u99, u100, u101, u102, u103, u104, u105, u106, u107, u108, u109, u110, u111, u112, u113, u114, u115, u116, u117, u118, u119, u120, u121, u122, u123, u124, u125, u126, u127, u128, u129, u130, u131, u132, u133, u134, u135, u136, u137, u138], []⟩ w := by
  obtain ⟨s0, s1, s2, s3, e0, e1, e2, f0, f1, f2, z0, z1, z2, hlt, hw, hF, hR, hP, hl⟩ := h
  have hK' := Lib.hid hK; clear hK
  simp only [qx]
  subst ho
  subst hvs
  obtain ⟨A9, cap9, b9, off9, rfl, g1, g2, g3, g4⟩ := Rd.sl_open hl
  simp only [List.length_map] at *
  obtain ⟨rfl, -⟩ := g3 (by simp)
  obtain ⟨c0, c1, c2, -⟩ := Val.at g4 (k := 0) (by simp)
  obtain ⟨d0, d1, d2, -⟩ := Val.at g4 (k := 1) (by simp)
  simp only [List.getElem_cons_zero, List.getElem_cons_succ, List.length_cons, List.length_nil, Nat.zero_mul, Nat.one_mul, Nat.add_zero, Nat.zero_add, Nat.reduceAdd] at *
  clear g3 g4 hF hR hP hl
  obtain ⟨kx, nx, sx⟩ := x
  obtain ⟨ky, ny, sy⟩ := y
  have hcall := fun w => join_any ⟨kx, nx, sx⟩ ⟨ky, ny, sy⟩ hz w
  simp only [pairV] at hcall hK'
  generalize textV (joinS sx sy) = Z at *
  obtain ⟨kz, nz, sz⟩ := Z
  simp only [Val.v] at *
  have hcall' := Lib.hid hcall; clear hcall
  have hmm := @run_makeMap Tryz.prog
  obtain ⟨E1, E2, E3, E4, E5, E6, E7, E8, E9, E10, E11, E12, m1, m2, m3, m4, m5, m6, m7, m8, m9, m10, m11, m12, hlk, hE⟩ := fn_map w
  have hk2 := hlk 19 (.func (Go.Fn.func 110) #[] #[]) (by rw [hE]; rfl)
  clear hlk hE
  have hk3 := Lib.hid hk2; clear hk2
  conv => arg 2; whnf
  go_wp2_with fail
  generalize hWe : World.alloc w _ = W1
  have he1 : Ext w W1 := by rw [← hWe]; exact (by repeat' first | exact Ext.refl _ | assumption | apply Ext.alloc | apply Ext.drew | apply Ext.drewN | (refine Ext.trans ?_ (by assumption)))
  have hk4 : ∀ a : ExtW W1, (Instr.lookup 142 (.map (some w.heap.size)) (.int .i64 19) false).run Tryz.prog a.val = .ok (.func (Go.Fn.func 110) #[] #[]) a.val := fun a => hk3.out a.val (by rw [hWe]; exact a.ext)
  clear hWe hmm m1 m2 m3 m4 m5 m6 m7 m8 m9 m10 m11 m12
  have e0 := he1.at e0
  have c0 := he1.at c0
  have c1 := he1.at c1
  have c2 := he1.at c2
  have d0 := he1.at d0
  have d1 := he1.at d1
  have d2 := he1.at d2
  have ge0 := ExtW.at e0
  have gc0 := ExtW.at c0
  have gc1 := ExtW.at c1
  have gc2 := ExtW.at c2
  have gd0 := ExtW.at d0
  have gd1 := ExtW.at d1
  have gd2 := ExtW.at d2
  refine qt 12 (by kernel_rfl) (by kernel_rfl) ?_
  simp only [List.take_succ_cons, List.take_zero, List.drop_succ_cons, List.drop_zero]
  repeat (go_big_quiet_step (((go_at_call 110; exact Calls.ext_of (hcall'.out _)))))
  refine wpQuiet_nil ?_
  intro w2 he2
  have he := he1.trans he2
  clear hcall'
  replace f0 := he.at f0
  replace f1 := he.at f1
  replace f2 := he.at f2
  replace z0 := (he.frozens _ _ hlt).trans z0
  replace z1 := (he.frozens _ _ hlt).trans z1
  replace z2 := (he.frozens _ _ hlt).trans z2
  replace hw : Ext w0 w2 := hw.trans he
  go_wp2_with fail
  exact bodyPost_ret (v := .agg #[.int .i64 kz, .int .i64 nz, .string sz]) (by simp [results, Tryz.results52, go_sem, f0, f1, f2]) rfl (hK'.out _ (qs hw _ (by omega) _ _ _))
end Go.Proofs.YtnkimlkoijfcpaaGreatDoor
