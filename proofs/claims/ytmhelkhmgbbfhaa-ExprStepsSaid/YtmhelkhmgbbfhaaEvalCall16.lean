/- Walk: the end of (frame).eval: a call. (written by gen_evcall.py) -/
import Derived.Test.YtmhelkhmgbbfhaaEvalTail16
namespace Go.Proofs.Ytmhelkhmgbbfhaa
open Go.RowKit Go.Lib

set_option maxRecDepth 100000 in
set_option maxHeartbeats 1000000 in
theorem ev_call (F : List Fn) (time : Int) (R P : List Val) (o n : Int) (s : ByteArray) (l : List Ex) (A : Option Addr) (cap : Nat) (vs : List Val) (w0 : World) (vF vR vP vl : Value) (w : World) (h : EvalAt F time R P o n s l A cap vs w0 vF vR vP vl w) (ho : o = 22) (k : Nat) (hn : n = k) (hk : k < F.length) (Z : Val) (hcall : ∀ (vF vl : Value) (cs : List Value) (w' : World), Rd w' Any (.sl (F.map Fn.d)) [vF] → Rd w' Any (.sl (vs.map Val.d)) [vl] → Rd w' Any F[k].body.d cs → Calls Try.prog 42 #[frameV vF time (.slice none 0 0) vl, .agg cs.toArray] w' fun r w'' => r = .returned Z.v ∧ Ext w' w'') (Q : Ending → World → Prop) (hK : ∀ w', Ext w0 w' → Q (.returned (Z).v) w')
    (u6 u7 u8 u9 u10 u11 u12 u13 u14 u15 u16 u17 u18 u19 u20 u21 u22 u23 u24 u25 u26 u27 u28 u29 u30 u31 u32 u33 u34 u35 u36 u37 u38 u39 u40 u41 u42 u43 u44 u45 u46 u47 u48 u49 u50 u51 u52 u53 u54 u55 u56 u57 u58 u59 u60 u61 u62 u63 u64 u65 u66 u67 u68 u69 u70 u71 u72 u73 u74 u75 u76 u77 u78 u79 u80 u81 u82 u83 u84 u85 u86 u87 u88 u89 u90 u91 u92 u93 u94 u95 u96 u97 u98 u99 u100 u101 u102 u103 u104 u105 u106 u107 u108 u109 u110 u111 u112 u113 u114 u115 u116 u117 u118 u119 u120 u121 u122 u123 u124 u125 u126 u127 u128 u129 u130 u131 u132 u133 u134 u135 u136 u137 u138 : Value) : Code.wp Try.prog evalTail (bodyPost Try.prog Try.f42 Q) ⟨#[frameV vF time vR vP, .agg #[.int .i64 o, .int .i64 n, .string s, .slice A l.length cap], .pointer (some ⟨w0.heap.size, 0, none⟩), .pointer (some ⟨w0.heap.size + 1, 0, none⟩), .pointer (some ⟨w0.heap.size + 1 + 1, 0, none⟩), vl, u6, u7, u8, u9, u10, u11, u12, u13, u14, u15, u16, u17, u18, u19, u20, u21, u22, u23, u24, u25, u26, u27, u28, u29, u30, u31, u32, u33, u34, u35, u36, u37, u38, u39, u40, u41, u42, u43, u44, u45, u46, u47, u48, u49, u50, u51, u52, u53, u54, u55, u56, u57, u58, u59, u60, u61, u62, u63, u64, u65, u66, u67, u68, u69, u70, u71, u72, u73, u74, u75, u76, u77, u78, u79, u80, u81, u82, u83, u84, u85, u86, u87, u88, u89, u90, u91, u92, u93, u94, u95, u96, u97, u98, u99, u100, u101, u102, u103, u104, u105, u106, u107, u108, u109, u110, u111, u112, u113, u114, u115, u116, u117, u118, u119, u120, u121, u122, u123, u124, u125, u126, u127, u128, u129, u130, u131, u132, u133, u134, u135, u136, u137, u138], []⟩ w := by
  obtain ⟨s0, s1, s2, s3, e0, e1, e2, f0, f1, f2, z0, z1, z2, hlt, hw, hF, hR, hP, hl⟩ := h
  have hK' := Lib.hid hK; clear hK
  simp only [frameV]
  subst ho
  subst hn
  obtain ⟨AF, capF, bF, offF, rfl, g1, g2, g3, g4⟩ := Rd.sl_open hF
  obtain ⟨A9, cap9, b9, off9, rfl, q1, q2, -, -⟩ := Rd.sl_open hl
  simp only [List.length_map] at *
  obtain ⟨rfl, hSF⟩ := g3 (by omega)
  obtain ⟨A1, cap1, b1, off1, A2, cap2, b2, off2, c0, c1, c2, c3, c4, c5, c6, -, -, -, -, -, r1, r2, r3, r4⟩ := Fn.at g4 hk
  have hb' := Lib.hid (Ex.mk_rd r1 r2 r3 r4)
  have hF' := Lib.hid hF; have hl' := Lib.hid hl
  clear hF hl hR hP g3 g4 r3 r4
  obtain ⟨kz, nz, sz⟩ := Z
  simp only [Val.v, frameV] at hcall hK'
  have hcall' := Lib.hid hcall; clear hcall
  have hk1 : ¬ F.length ≤ k := by omega
  have hk2 : (0 : Int) ≤ (k : Int) := by omega
  have hk3 : (k : Int) < (F.length : Int) := by omega
  have gs0 := ExtW.at s0
  have gs1 := ExtW.at s1
  have ge0 := ExtW.at e0
  have ge1 := ExtW.at e1
  have gc3 := ExtW.at c3
  have gc4 := ExtW.at c4
  have gc5 := ExtW.at c5
  have gc6 := ExtW.at c6
  conv => arg 2; whnf
  go_wp2_with fail
  refine wp_region_ext_tail 14 (by kernel_rfl) (by kernel_rfl) ?_
  simp only [List.take_succ_cons, List.take_zero, List.drop_succ_cons, List.drop_zero]
  repeat (go_big_quiet_step (((go_at_call 42; exact Calls.ext_of (hcall'.out _ _ _ _ (hF'.out.ext (ExtW.ext _)) (hl'.out.ext (ExtW.ext _)) (hb'.out.ext (ExtW.ext _)))))))
  refine wpQuiet_nil ?_
  intro w1 he
  replace f0 := he.at f0
  replace f1 := he.at f1
  replace f2 := he.at f2
  replace z0 := (he.frozens _ _ hlt).trans z0
  replace z1 := (he.frozens _ _ hlt).trans z1
  replace z2 := (he.frozens _ _ hlt).trans z2
  replace hw : Ext w0 w1 := hw.trans he
  go_wp2_with fail
  exact bodyPost_ret (v := .agg #[.int .i64 kz, .int .i64 nz, .string sz]) (by simp [results, Try.results42, go_sem, f0, f1, f2]) rfl (hK'.out _ (ext_three hw _ (by omega) _ _ _))
end Go.Proofs.Ytmhelkhmgbbfhaa
