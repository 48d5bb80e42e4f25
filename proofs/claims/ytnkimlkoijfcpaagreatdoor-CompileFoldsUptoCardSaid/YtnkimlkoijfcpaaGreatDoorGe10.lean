/- Walk: (frame).eval. (written by gen_evmain.py) -/
import Derived.Maps.Own
import Derived.Lib.SlKeysI
import Derived.Test.YtnkimlkoijfcpaaGreatDoorGe1
import Derived.Test.YtnkimlkoijfcpaaGreatDoorGe2
import Derived.Test.YtnkimlkoijfcpaaGreatDoorGe6
import Derived.Test.YtnkimlkoijfcpaaGreatDoorGe7
import Derived.Test.YtnkimlkoijfcpaaGreatDoorGe8
import Derived.Test.YtnkimlkoijfcpaaGreatDoorGe9
set_option linter.unusedSimpArgs false
set_option linter.unusedVariables false
namespace Go.Proofs.YtnkimlkoijfcpaaGreatDoor
open Go.RowKit Go.Lib
set_option maxRecDepth 100000 in
set_option maxHeartbeats 4000000 in
theorem ev_tail (F : List Fn) (time : Int) (m : Nat) (c p ts : List Int) (t : Int) (R P : List Val) (o n : Int) (s : ByteArray) (l : List Ex) (A : Option Addr) (cap : Nat) (vs : List Val) (w0 : World) (vF vR vP vl : Value) (w : World) (h : qce F time R P o n s l A cap vs w0 vF vR vP vl w)
    (ho : ¬ o = 21) (ht : tailT (F.take m) c p o n s ts = some t) (hk : vs.map Val.k = ts) (hv : ∀ v ∈ vs, qba v) (hc : qbs c R) (hp : P.map Val.k = p) (hR : qbs c R) (hP : ∀ v ∈ P, qba v)
    (hcall : o = 22 → ∀ (k : Nat) (hk : k < F.length), n = k → ∀ (vF vl : Value) (cs : List Value) (w' : World), Rd w' Any (.sl (F.map Fn.d)) [vF] → Rd w' Any (.sl (vs.map Val.d)) [vl] → Rd w' Any F[k].body.d cs → Calls Tryz.prog 52 #[qx vF time (.slice none 0 0) vl, .agg cs.toArray] w' fun r w'' => r = .returned (callN F time m n vs).v ∧ Ext w' w'')
    (Q : Ending → World → Prop) (hK : ∀ w', Ext w0 w' → Q (.returned (opV (callN F time m) time R P o n s vs).v) w')
    (u6 u7 u8 u9 u10 u11 u12 u13 u14 u15 u16 u17 u18 u19 u20 u21 u22 u23 u24 u25 u26 u27 u28 u29 u30 u31 u32 u33 u34 u35 u36 u37 u38 u39 u40 u41 u42 u43 u44 u45 u46 u47 u48 u49 u50 u51 u52 u53 u54 u55 u56 u57 u58 u59 u60 u61 u62 u63 u64 u65 u66 u67 u68 u69 u70 u71 u72 u73 u74 u75 u76 u77 u78 u79 u80 u81 u82 u83 u84 u85 u86 u87 u88 u89 u90 u91 u92 u93 u94 u95 u96 u97 u98 u99 u100 u101 u102 u103 u104 u105 u106 u107 u108 u109 u110 u111 u112 u113 u114 u115 u116 u117 u118 u119 u120 u121 u122 u123 u124 u125 u126 u127 u128 u129 u130 u131 u132 u133 u134 u135 u136 u137 u138 : Value) : Code.wp Tryz.prog evalTail (bodyPost Tryz.prog Tryz.f52 Q) ⟨#[qx vF time vR vP, .agg #[.int .i64 o, .int .i64 n, .string s, .slice A l.length cap], .pointer (some ⟨w0.heap.size, 0, none⟩), .pointer (some ⟨w0.heap.size + 1, 0, none⟩), .pointer (some ⟨w0.heap.size + 1 + 1, 0, none⟩), vl, u6, u7, u8, u9, u10, u11, u12, u13, u14, u15, u16, u17, u18, u19, u20, u21, u22, u23, u24, u25, u26, u27, u28, u29, u30, u31, u32, u33, u34, u35, u36, u37, u38, u39, u40, u41, u42, u43, u44, u45, u46, u47, u48, u49, u50, u51, u52, u53, u54, u55, u56, u57, u58, u59, u60, u61, u62, u63, u64, u65, u66, u67, u68, u69, u70, u71, u72, u73, u74, u75, u76, u77, u78, u79, u80, u81, u82, u83, u84, u85, u86, u87, u88, u89, u90, u91, u92, u93, u94, u95, u96, u97, u98, u99, u100, u101, u102, u103, u104, u105, u106, u107, u108, u109, u110, u111, u112, u113, u114, u115, u116, u117, u118, u119, u120, u121, u122, u123, u124, u125, u126, u127, u128, u129, u130, u131, u132, u133, u134, u135, u136, u137, u138], []⟩ w := by
  have go : ∀ Z : Val, opV (callN F time m) time R P o n s vs = Z → ∀ w', Ext w0 w' → Q (.returned Z.v) w' := by rintro _ rfl; exact hK
  unfold tailT at ht
  split at ht
  · cases ht
  split at ht
  · rename_i h22
    obtain ⟨h0, hlt, f, hf, -, -⟩ := qdy ht
    have hfl : n.toNat < F.length := (List.getElem?_eq_some_iff.1 hf).1
    have hn : n = (n.toNat : Int) := by omega
    exact ev_call F time R P o n s l A cap vs w0 vF vR vP vl w h h22 n.toNat hn hfl (callN F time m n vs) (hcall h22 n.toNat hfl hn) Q (go _ (by subst h22; rfl)) u6 u7 u8 u9 u10 u11 u12 u13 u14 u15 u16 u17 u18 u19 u20 u21 u22 u23 u24 u25 u26 u27 u28 u29 u30 u31 u32 u33 u34 u35 u36 u37 u38 u39 u40 u41 u42 u43 u44 u45 u46 u47 u48 u49 u50 u51 u52 u53 u54 u55 u56 u57 u58 u59 u60 u61 u62 u63 u64 u65 u66 u67 u68 u69 u70 u71 u72 u73 u74 u75 u76 u77 u78 u79 u80 u81 u82 u83 u84 u85 u86 u87 u88 u89 u90 u91 u92 u93 u94 u95 u96 u97 u98 u99 u100 u101 u102 u103 u104 u105 u106 u107 u108 u109 u110 u111 u112 u113 u114 u115 u116 u117 u118 u119 u120 u121 u122 u123 u124 u125 u126 u127 u128 u129 u130 u131 u132 u133 u134 u135 u136 u137 u138
  split at ht
  · rename_i hnil
    have hvs : vs = [] := by rw [hnil] at hk; simpa using hk
    unfold leafT at ht
    split at ht
    · rename_i h1; exact ev_int F time R P o n s l A cap vs w0 vF vR vP vl w h h1 Q (go _ (by subst h1; rfl)) u6 u7 u8 u9 u10 u11 u12 u13 u14 u15 u16 u17 u18 u19 u20 u21 u22 u23 u24 u25 u26 u27 u28 u29 u30 u31 u32 u33 u34 u35 u36 u37 u38 u39 u40 u41 u42 u43 u44 u45 u46 u47 u48 u49 u50 u51 u52 u53 u54 u55 u56 u57 u58 u59 u60 u61 u62 u63 u64 u65 u66 u67 u68 u69 u70 u71 u72 u73 u74 u75 u76 u77 u78 u79 u80 u81 u82 u83 u84 u85 u86 u87 u88 u89 u90 u91 u92 u93 u94 u95 u96 u97 u98 u99 u100 u101 u102 u103 u104 u105 u106 u107 u108 u109 u110 u111 u112 u113 u114 u115 u116 u117 u118 u119 u120 u121 u122 u123 u124 u125 u126 u127 u128 u129 u130 u131 u132 u133 u134 u135 u136 u137 u138
    split at ht
    · rename_i h1; exact ev_bool F time R P o n s l A cap vs w0 vF vR vP vl w h h1 Q (go _ (by subst h1; rfl)) u6 u7 u8 u9 u10 u11 u12 u13 u14 u15 u16 u17 u18 u19 u20 u21 u22 u23 u24 u25 u26 u27 u28 u29 u30 u31 u32 u33 u34 u35 u36 u37 u38 u39 u40 u41 u42 u43 u44 u45 u46 u47 u48 u49 u50 u51 u52 u53 u54 u55 u56 u57 u58 u59 u60 u61 u62 u63 u64 u65 u66 u67 u68 u69 u70 u71 u72 u73 u74 u75 u76 u77 u78 u79 u80 u81 u82 u83 u84 u85 u86 u87 u88 u89 u90 u91 u92 u93 u94 u95 u96 u97 u98 u99 u100 u101 u102 u103 u104 u105 u106 u107 u108 u109 u110 u111 u112 u113 u114 u115 u116 u117 u118 u119 u120 u121 u122 u123 u124 u125 u126 u127 u128 u129 u130 u131 u132 u133 u134 u135 u136 u137 u138
    split at ht
    · rename_i h1
      have hq := pick_fit hc ht
      exact ev_col F time R P o n s l A cap vs w0 vF vR vP vl w h h1 hq.1 hq.2.1 Q (go _ (by subst h1; rfl)) u6 u7 u8 u9 u10 u11 u12 u13 u14 u15 u16 u17 u18 u19 u20 u21 u22 u23 u24 u25 u26 u27 u28 u29 u30 u31 u32 u33 u34 u35 u36 u37 u38 u39 u40 u41 u42 u43 u44 u45 u46 u47 u48 u49 u50 u51 u52 u53 u54 u55 u56 u57 u58 u59 u60 u61 u62 u63 u64 u65 u66 u67 u68 u69 u70 u71 u72 u73 u74 u75 u76 u77 u78 u79 u80 u81 u82 u83 u84 u85 u86 u87 u88 u89 u90 u91 u92 u93 u94 u95 u96 u97 u98 u99 u100 u101 u102 u103 u104 u105 u106 u107 u108 u109 u110 u111 u112 u113 u114 u115 u116 u117 u118 u119 u120 u121 u122 u123 u124 u125 u126 u127 u128 u129 u130 u131 u132 u133 u134 u135 u136 u137 u138
    split at ht
    · rename_i h1
      have hq := pick_sound hp hP ht
      exact ev_param F time R P o n s l A cap vs w0 vF vR vP vl w h h1 hq.1 hq.2.1 Q (go _ (by subst h1; rfl)) u6 u7 u8 u9 u10 u11 u12 u13 u14 u15 u16 u17 u18 u19 u20 u21 u22 u23 u24 u25 u26 u27 u28 u29 u30 u31 u32 u33 u34 u35 u36 u37 u38 u39 u40 u41 u42 u43 u44 u45 u46 u47 u48 u49 u50 u51 u52 u53 u54 u55 u56 u57 u58 u59 u60 u61 u62 u63 u64 u65 u66 u67 u68 u69 u70 u71 u72 u73 u74 u75 u76 u77 u78 u79 u80 u81 u82 u83 u84 u85 u86 u87 u88 u89 u90 u91 u92 u93 u94 u95 u96 u97 u98 u99 u100 u101 u102 u103 u104 u105 u106 u107 u108 u109 u110 u111 u112 u113 u114 u115 u116 u117 u118 u119 u120 u121 u122 u123 u124 u125 u126 u127 u128 u129 u130 u131 u132 u133 u134 u135 u136 u137 u138
    split at ht
    · rename_i h1; exact ev_text F time R P o n s l A cap vs w0 vF vR vP vl w h h1 Q (go _ (by subst h1; rfl)) u6 u7 u8 u9 u10 u11 u12 u13 u14 u15 u16 u17 u18 u19 u20 u21 u22 u23 u24 u25 u26 u27 u28 u29 u30 u31 u32 u33 u34 u35 u36 u37 u38 u39 u40 u41 u42 u43 u44 u45 u46 u47 u48 u49 u50 u51 u52 u53 u54 u55 u56 u57 u58 u59 u60 u61 u62 u63 u64 u65 u66 u67 u68 u69 u70 u71 u72 u73 u74 u75 u76 u77 u78 u79 u80 u81 u82 u83 u84 u85 u86 u87 u88 u89 u90 u91 u92 u93 u94 u95 u96 u97 u98 u99 u100 u101 u102 u103 u104 u105 u106 u107 u108 u109 u110 u111 u112 u113 u114 u115 u116 u117 u118 u119 u120 u121 u122 u123 u124 u125 u126 u127 u128 u129 u130 u131 u132 u133 u134 u135 u136 u137 u138
    split at ht
    · rename_i h1; exact ev_time F time R P o n s l A cap vs w0 vF vR vP vl w h h1 Q (go _ (by subst h1; rfl)) u6 u7 u8 u9 u10 u11 u12 u13 u14 u15 u16 u17 u18 u19 u20 u21 u22 u23 u24 u25 u26 u27 u28 u29 u30 u31 u32 u33 u34 u35 u36 u37 u38 u39 u40 u41 u42 u43 u44 u45 u46 u47 u48 u49 u50 u51 u52 u53 u54 u55 u56 u57 u58 u59 u60 u61 u62 u63 u64 u65 u66 u67 u68 u69 u70 u71 u72 u73 u74 u75 u76 u77 u78 u79 u80 u81 u82 u83 u84 u85 u86 u87 u88 u89 u90 u91 u92 u93 u94 u95 u96 u97 u98 u99 u100 u101 u102 u103 u104 u105 u106 u107 u108 u109 u110 u111 u112 u113 u114 u115 u116 u117 u118 u119 u120 u121 u122 u123 u124 u125 u126 u127 u128 u129 u130 u131 u132 u133 u134 u135 u136 u137 u138
    · cases ht
  · unfold operT at ht
    split at ht
    · cases ht
    split at ht
    · rename_i h1
      split at ht
      · rename_i hts
        obtain ⟨x, hvs, -⟩ := one_of (hk.trans hts)
        exact ev_not F time R P o n s l A cap vs w0 vF vR vP vl w h h1 x hvs Q (go _ (by subst h1; subst hvs; rfl)) u6 u7 u8 u9 u10 u11 u12 u13 u14 u15 u16 u17 u18 u19 u20 u21 u22 u23 u24 u25 u26 u27 u28 u29 u30 u31 u32 u33 u34 u35 u36 u37 u38 u39 u40 u41 u42 u43 u44 u45 u46 u47 u48 u49 u50 u51 u52 u53 u54 u55 u56 u57 u58 u59 u60 u61 u62 u63 u64 u65 u66 u67 u68 u69 u70 u71 u72 u73 u74 u75 u76 u77 u78 u79 u80 u81 u82 u83 u84 u85 u86 u87 u88 u89 u90 u91 u92 u93 u94 u95 u96 u97 u98 u99 u100 u101 u102 u103 u104 u105 u106 u107 u108 u109 u110 u111 u112 u113 u114 u115 u116 u117 u118 u119 u120 u121 u122 u123 u124 u125 u126 u127 u128 u129 u130 u131 u132 u133 u134 u135 u136 u137 u138
      · cases ht
    split at ht
    · rename_i h1
      split at ht
      · rename_i hts
        obtain ⟨x, hvs, -⟩ := one_of (hk.trans hts)
        exact ev_neg F time R P o n s l A cap vs w0 vF vR vP vl w h h1 x hvs Q (go _ (by subst h1; subst hvs; rfl)) u6 u7 u8 u9 u10 u11 u12 u13 u14 u15 u16 u17 u18 u19 u20 u21 u22 u23 u24 u25 u26 u27 u28 u29 u30 u31 u32 u33 u34 u35 u36 u37 u38 u39 u40 u41 u42 u43 u44 u45 u46 u47 u48 u49 u50 u51 u52 u53 u54 u55 u56 u57 u58 u59 u60 u61 u62 u63 u64 u65 u66 u67 u68 u69 u70 u71 u72 u73 u74 u75 u76 u77 u78 u79 u80 u81 u82 u83 u84 u85 u86 u87 u88 u89 u90 u91 u92 u93 u94 u95 u96 u97 u98 u99 u100 u101 u102 u103 u104 u105 u106 u107 u108 u109 u110 u111 u112 u113 u114 u115 u116 u117 u118 u119 u120 u121 u122 u123 u124 u125 u126 u127 u128 u129 u130 u131 u132 u133 u134 u135 u136 u137 u138
      · cases ht
    split at ht
    · rename_i h1
      split at ht
      · rename_i hts
        obtain ⟨x, hvs, -⟩ := one_of (hk.trans hts)
        exact ev_len F time R P o n s l A cap vs w0 vF vR vP vl w h h1 x hvs Q (go _ (by subst h1; subst hvs; rfl)) u6 u7 u8 u9 u10 u11 u12 u13 u14 u15 u16 u17 u18 u19 u20 u21 u22 u23 u24 u25 u26 u27 u28 u29 u30 u31 u32 u33 u34 u35 u36 u37 u38 u39 u40 u41 u42 u43 u44 u45 u46 u47 u48 u49 u50 u51 u52 u53 u54 u55 u56 u57 u58 u59 u60 u61 u62 u63 u64 u65 u66 u67 u68 u69 u70 u71 u72 u73 u74 u75 u76 u77 u78 u79 u80 u81 u82 u83 u84 u85 u86 u87 u88 u89 u90 u91 u92 u93 u94 u95 u96 u97 u98 u99 u100 u101 u102 u103 u104 u105 u106 u107 u108 u109 u110 u111 u112 u113 u114 u115 u116 u117 u118 u119 u120 u121 u122 u123 u124 u125 u126 u127 u128 u129 u130 u131 u132 u133 u134 u135 u136 u137 u138
      · cases ht
    have two : ∀ a b, ts = [a, b] → ∃ x y, vs = [x, y] := by
      intro a b hts
      obtain ⟨x, y, hvs, -⟩ := two_of (hk.trans hts)
      exact ⟨x, y, hvs⟩
    split at ht
    · rename_i h1
      split at ht
      · rename_i hts
        obtain ⟨x, y, hvs⟩ := two _ _ hts
        have h2 : o = 8 ∨ o = 9 ∨ o = 10 ∨ o = 11 ∨ o = 12 := by omega
        rcases h2 with h2 | h2 | h2 | h2 | h2
        · exact ev_add F time R P o n s l A cap vs w0 vF vR vP vl w h h2 x y hvs Q (go _ (by subst h2; subst hvs; rfl)) u6 u7 u8 u9 u10 u11 u12 u13 u14 u15 u16 u17 u18 u19 u20 u21 u22 u23 u24 u25 u26 u27 u28 u29 u30 u31 u32 u33 u34 u35 u36 u37 u38 u39 u40 u41 u42 u43 u44 u45 u46 u47 u48 u49 u50 u51 u52 u53 u54 u55 u56 u57 u58 u59 u60 u61 u62 u63 u64 u65 u66 u67 u68 u69 u70 u71 u72 u73 u74 u75 u76 u77 u78 u79 u80 u81 u82 u83 u84 u85 u86 u87 u88 u89 u90 u91 u92 u93 u94 u95 u96 u97 u98 u99 u100 u101 u102 u103 u104 u105 u106 u107 u108 u109 u110 u111 u112 u113 u114 u115 u116 u117 u118 u119 u120 u121 u122 u123 u124 u125 u126 u127 u128 u129 u130 u131 u132 u133 u134 u135 u136 u137 u138
        · exact ev_sub F time R P o n s l A cap vs w0 vF vR vP vl w h h2 x y hvs Q (go _ (by subst h2; subst hvs; rfl)) u6 u7 u8 u9 u10 u11 u12 u13 u14 u15 u16 u17 u18 u19 u20 u21 u22 u23 u24 u25 u26 u27 u28 u29 u30 u31 u32 u33 u34 u35 u36 u37 u38 u39 u40 u41 u42 u43 u44 u45 u46 u47 u48 u49 u50 u51 u52 u53 u54 u55 u56 u57 u58 u59 u60 u61 u62 u63 u64 u65 u66 u67 u68 u69 u70 u71 u72 u73 u74 u75 u76 u77 u78 u79 u80 u81 u82 u83 u84 u85 u86 u87 u88 u89 u90 u91 u92 u93 u94 u95 u96 u97 u98 u99 u100 u101 u102 u103 u104 u105 u106 u107 u108 u109 u110 u111 u112 u113 u114 u115 u116 u117 u118 u119 u120 u121 u122 u123 u124 u125 u126 u127 u128 u129 u130 u131 u132 u133 u134 u135 u136 u137 u138
        · exact ev_mul F time R P o n s l A cap vs w0 vF vR vP vl w h h2 x y hvs Q (go _ (by subst h2; subst hvs; rfl)) u6 u7 u8 u9 u10 u11 u12 u13 u14 u15 u16 u17 u18 u19 u20 u21 u22 u23 u24 u25 u26 u27 u28 u29 u30 u31 u32 u33 u34 u35 u36 u37 u38 u39 u40 u41 u42 u43 u44 u45 u46 u47 u48 u49 u50 u51 u52 u53 u54 u55 u56 u57 u58 u59 u60 u61 u62 u63 u64 u65 u66 u67 u68 u69 u70 u71 u72 u73 u74 u75 u76 u77 u78 u79 u80 u81 u82 u83 u84 u85 u86 u87 u88 u89 u90 u91 u92 u93 u94 u95 u96 u97 u98 u99 u100 u101 u102 u103 u104 u105 u106 u107 u108 u109 u110 u111 u112 u113 u114 u115 u116 u117 u118 u119 u120 u121 u122 u123 u124 u125 u126 u127 u128 u129 u130 u131 u132 u133 u134 u135 u136 u137 u138
        · exact ev_div F time R P o n s l A cap vs w0 vF vR vP vl w h h2 x y hvs Q (go _ (by subst h2; subst hvs; rfl)) u6 u7 u8 u9 u10 u11 u12 u13 u14 u15 u16 u17 u18 u19 u20 u21 u22 u23 u24 u25 u26 u27 u28 u29 u30 u31 u32 u33 u34 u35 u36 u37 u38 u39 u40 u41 u42 u43 u44 u45 u46 u47 u48 u49 u50 u51 u52 u53 u54 u55 u56 u57 u58 u59 u60 u61 u62 u63 u64 u65 u66 u67 u68 u69 u70 u71 u72 u73 u74 u75 u76 u77 u78 u79 u80 u81 u82 u83 u84 u85 u86 u87 u88 u89 u90 u91 u92 u93 u94 u95 u96 u97 u98 u99 u100 u101 u102 u103 u104 u105 u106 u107 u108 u109 u110 u111 u112 u113 u114 u115 u116 u117 u118 u119 u120 u121 u122 u123 u124 u125 u126 u127 u128 u129 u130 u131 u132 u133 u134 u135 u136 u137 u138
        · exact ev_mod F time R P o n s l A cap vs w0 vF vR vP vl w h h2 x y hvs Q (go _ (by subst h2; subst hvs; rfl)) u6 u7 u8 u9 u10 u11 u12 u13 u14 u15 u16 u17 u18 u19 u20 u21 u22 u23 u24 u25 u26 u27 u28 u29 u30 u31 u32 u33 u34 u35 u36 u37 u38 u39 u40 u41 u42 u43 u44 u45 u46 u47 u48 u49 u50 u51 u52 u53 u54 u55 u56 u57 u58 u59 u60 u61 u62 u63 u64 u65 u66 u67 u68 u69 u70 u71 u72 u73 u74 u75 u76 u77 u78 u79 u80 u81 u82 u83 u84 u85 u86 u87 u88 u89 u90 u91 u92 u93 u94 u95 u96 u97 u98 u99 u100 u101 u102 u103 u104 u105 u106 u107 u108 u109 u110 u111 u112 u113 u114 u115 u116 u117 u118 u119 u120 u121 u122 u123 u124 u125 u126 u127 u128 u129 u130 u131 u132 u133 u134 u135 u136 u137 u138
      · cases ht
    split at ht
    · rename_i h1
      split at ht
      · rename_i a b
        obtain ⟨x, y, hvs⟩ := two _ _ rfl
        have h2 : o = 13 ∨ o = 14 ∨ o = 15 ∨ o = 16 := by omega
        rcases h2 with h2 | h2 | h2 | h2
        · exact ev_eq F time R P o n s l A cap vs w0 vF vR vP vl w h h2 x y hvs Q (go _ (by subst h2; subst hvs; rfl)) u6 u7 u8 u9 u10 u11 u12 u13 u14 u15 u16 u17 u18 u19 u20 u21 u22 u23 u24 u25 u26 u27 u28 u29 u30 u31 u32 u33 u34 u35 u36 u37 u38 u39 u40 u41 u42 u43 u44 u45 u46 u47 u48 u49 u50 u51 u52 u53 u54 u55 u56 u57 u58 u59 u60 u61 u62 u63 u64 u65 u66 u67 u68 u69 u70 u71 u72 u73 u74 u75 u76 u77 u78 u79 u80 u81 u82 u83 u84 u85 u86 u87 u88 u89 u90 u91 u92 u93 u94 u95 u96 u97 u98 u99 u100 u101 u102 u103 u104 u105 u106 u107 u108 u109 u110 u111 u112 u113 u114 u115 u116 u117 u118 u119 u120 u121 u122 u123 u124 u125 u126 u127 u128 u129 u130 u131 u132 u133 u134 u135 u136 u137 u138
        · exact ev_ne F time R P o n s l A cap vs w0 vF vR vP vl w h h2 x y hvs Q (go _ (by subst h2; subst hvs; rfl)) u6 u7 u8 u9 u10 u11 u12 u13 u14 u15 u16 u17 u18 u19 u20 u21 u22 u23 u24 u25 u26 u27 u28 u29 u30 u31 u32 u33 u34 u35 u36 u37 u38 u39 u40 u41 u42 u43 u44 u45 u46 u47 u48 u49 u50 u51 u52 u53 u54 u55 u56 u57 u58 u59 u60 u61 u62 u63 u64 u65 u66 u67 u68 u69 u70 u71 u72 u73 u74 u75 u76 u77 u78 u79 u80 u81 u82 u83 u84 u85 u86 u87 u88 u89 u90 u91 u92 u93 u94 u95 u96 u97 u98 u99 u100 u101 u102 u103 u104 u105 u106 u107 u108 u109 u110 u111 u112 u113 u114 u115 u116 u117 u118 u119 u120 u121 u122 u123 u124 u125 u126 u127 u128 u129 u130 u131 u132 u133 u134 u135 u136 u137 u138
        · exact ev_lt F time R P o n s l A cap vs w0 vF vR vP vl w h h2 x y hvs Q (go _ (by subst h2; subst hvs; rfl)) u6 u7 u8 u9 u10 u11 u12 u13 u14 u15 u16 u17 u18 u19 u20 u21 u22 u23 u24 u25 u26 u27 u28 u29 u30 u31 u32 u33 u34 u35 u36 u37 u38 u39 u40 u41 u42 u43 u44 u45 u46 u47 u48 u49 u50 u51 u52 u53 u54 u55 u56 u57 u58 u59 u60 u61 u62 u63 u64 u65 u66 u67 u68 u69 u70 u71 u72 u73 u74 u75 u76 u77 u78 u79 u80 u81 u82 u83 u84 u85 u86 u87 u88 u89 u90 u91 u92 u93 u94 u95 u96 u97 u98 u99 u100 u101 u102 u103 u104 u105 u106 u107 u108 u109 u110 u111 u112 u113 u114 u115 u116 u117 u118 u119 u120 u121 u122 u123 u124 u125 u126 u127 u128 u129 u130 u131 u132 u133 u134 u135 u136 u137 u138
        · exact ev_le F time R P o n s l A cap vs w0 vF vR vP vl w h h2 x y hvs Q (go _ (by subst h2; subst hvs; rfl)) u6 u7 u8 u9 u10 u11 u12 u13 u14 u15 u16 u17 u18 u19 u20 u21 u22 u23 u24 u25 u26 u27 u28 u29 u30 u31 u32 u33 u34 u35 u36 u37 u38 u39 u40 u41 u42 u43 u44 u45 u46 u47 u48 u49 u50 u51 u52 u53 u54 u55 u56 u57 u58 u59 u60 u61 u62 u63 u64 u65 u66 u67 u68 u69 u70 u71 u72 u73 u74 u75 u76 u77 u78 u79 u80 u81 u82 u83 u84 u85 u86 u87 u88 u89 u90 u91 u92 u93 u94 u95 u96 u97 u98 u99 u100 u101 u102 u103 u104 u105 u106 u107 u108 u109 u110 u111 u112 u113 u114 u115 u116 u117 u118 u119 u120 u121 u122 u123 u124 u125 u126 u127 u128 u129 u130 u131 u132 u133 u134 u135 u136 u137 u138
      · cases ht
    split at ht
    · rename_i h1
      split at ht
      · rename_i hts
        obtain ⟨x, y, hvs⟩ := two _ _ hts
        have h2 : o = 17 ∨ o = 18 := by omega
        rcases h2 with h2 | h2
        · exact ev_both F time R P o n s l A cap vs w0 vF vR vP vl w h h2 x y hvs Q (go _ (by subst h2; subst hvs; rfl)) u6 u7 u8 u9 u10 u11 u12 u13 u14 u15 u16 u17 u18 u19 u20 u21 u22 u23 u24 u25 u26 u27 u28 u29 u30 u31 u32 u33 u34 u35 u36 u37 u38 u39 u40 u41 u42 u43 u44 u45 u46 u47 u48 u49 u50 u51 u52 u53 u54 u55 u56 u57 u58 u59 u60 u61 u62 u63 u64 u65 u66 u67 u68 u69 u70 u71 u72 u73 u74 u75 u76 u77 u78 u79 u80 u81 u82 u83 u84 u85 u86 u87 u88 u89 u90 u91 u92 u93 u94 u95 u96 u97 u98 u99 u100 u101 u102 u103 u104 u105 u106 u107 u108 u109 u110 u111 u112 u113 u114 u115 u116 u117 u118 u119 u120 u121 u122 u123 u124 u125 u126 u127 u128 u129 u130 u131 u132 u133 u134 u135 u136 u137 u138
        · exact ev_any F time R P o n s l A cap vs w0 vF vR vP vl w h h2 x y hvs Q (go _ (by subst h2; subst hvs; rfl)) u6 u7 u8 u9 u10 u11 u12 u13 u14 u15 u16 u17 u18 u19 u20 u21 u22 u23 u24 u25 u26 u27 u28 u29 u30 u31 u32 u33 u34 u35 u36 u37 u38 u39 u40 u41 u42 u43 u44 u45 u46 u47 u48 u49 u50 u51 u52 u53 u54 u55 u56 u57 u58 u59 u60 u61 u62 u63 u64 u65 u66 u67 u68 u69 u70 u71 u72 u73 u74 u75 u76 u77 u78 u79 u80 u81 u82 u83 u84 u85 u86 u87 u88 u89 u90 u91 u92 u93 u94 u95 u96 u97 u98 u99 u100 u101 u102 u103 u104 u105 u106 u107 u108 u109 u110 u111 u112 u113 u114 u115 u116 u117 u118 u119 u120 u121 u122 u123 u124 u125 u126 u127 u128 u129 u130 u131 u132 u133 u134 u135 u136 u137 u138
      · cases ht
    split at ht
    · rename_i h1
      split at ht
      · rename_i hts
        obtain ⟨x, y, hvs⟩ := two _ _ hts
        have hx := (hv x (by rw [hvs]; simp)).2
        have hy := (hv y (by rw [hvs]; simp)).2
        exact ev_join F time R P o n s l A cap vs w0 vF vR vP vl w h h1 x y hvs (by omega) Q (go _ (by subst h1; subst hvs; rfl)) u6 u7 u8 u9 u10 u11 u12 u13 u14 u15 u16 u17 u18 u19 u20 u21 u22 u23 u24 u25 u26 u27 u28 u29 u30 u31 u32 u33 u34 u35 u36 u37 u38 u39 u40 u41 u42 u43 u44 u45 u46 u47 u48 u49 u50 u51 u52 u53 u54 u55 u56 u57 u58 u59 u60 u61 u62 u63 u64 u65 u66 u67 u68 u69 u70 u71 u72 u73 u74 u75 u76 u77 u78 u79 u80 u81 u82 u83 u84 u85 u86 u87 u88 u89 u90 u91 u92 u93 u94 u95 u96 u97 u98 u99 u100 u101 u102 u103 u104 u105 u106 u107 u108 u109 u110 u111 u112 u113 u114 u115 u116 u117 u118 u119 u120 u121 u122 u123 u124 u125 u126 u127 u128 u129 u130 u131 u132 u133 u134 u135 u136 u137 u138
      · cases ht
    first
      | cases ht
      | rw [if_neg ho] at ht; cases ht
end Go.Proofs.YtnkimlkoijfcpaaGreatDoor

/- Walk: (frame).eval. (written by gen_evp.py) -/
namespace Go.Proofs.YtnkimlkoijfcpaaGreatDoor
open Go.RowKit Go.Lib
def cellsV : List Val → List Value
  | [] => []
  | v :: l => [.int .i64 v.k, .int .i64 v.n, .string v.s] ++ cellsV l
theorem cellsV_append : ∀ (a b : List Val), cellsV (a ++ b) = cellsV a ++ cellsV b
  | [], b => rfl
  | v :: a, b => by rw [List.cons_append, cellsV, cellsV, cellsV_append a b, List.append_assoc]
theorem rdS_vals (w : World) (S : Nat → Prop) : ∀ l : List Val, RdS w S (l.map Val.d) (cellsV l)
  | [] => by rw [List.map_nil, RdS, cellsV]
  | v :: l => by
    rw [List.map_cons, RdS]
    refine ⟨[.int .i64 v.k, .int .i64 v.n, .string v.s], _, rfl, ?_, rdS_vals w S l⟩
    simp only [Val.d, Rd, RdS]
    exact ⟨[_], _, rfl, rfl, [_], _, rfl, rfl, [_], _, rfl, rfl, rfl⟩
theorem own_vals {w : World} {B : Nat} {v : Value} {l : List Val} (h : w.ownsRow B 39 3 v l.length (cellsV l)) : Rd w Any (.sl (l.map Val.d)) [v] :=
  own_rd (l := l.map Val.d) (S := Any) (by simpa using h) (rdS_vals w Any l) (fun _ h => h) (fun _ _ => trivial)
theorem cells_next {call : Int → List Val → Val} {time : Int} {R P : List Val} {l : List Ex} {k : Nat} (h : k < l.length) : cellsV (evs call time R P (l.take (k + 1))) = cellsV (evs call time R P (l.take k)) ++ [.int .i64 (ev call time R P l[k]).k, .int .i64 (ev call time R P l[k]).n, .string (ev call time R P l[k]).s] := by
  rw [List.take_succ_eq_append_getElem h, qep, List.map_append, cellsV_append, qep]; rfl
theorem infoVal : (Tryz.prog.info? 39).map (fun i => (i.zero, i.size, i.bytes)) = some (some (.agg #[.int .i64 0, .int .i64 0, .string ByteArray.empty]), 3, 32) := by kernel_rfl
def EvalEnd (F : List Fn) (time : Int) (R P : List Val) (o n : Int) (s : ByteArray) (l : List Ex) (A : Option Addr) (cap : Nat) (vs : List Val) (w0 : World) (vF vR vP vl : Value) (w : World) : Prop :=
  qce F time R P o n s l A cap vs w0 vF vR vP vl w
set_option maxRecDepth 100000 in
set_option maxHeartbeats 4000000 in
theorem eval_step (F : List Fn) (time : Int) (m : Nat) (hOk : ∀ i, i < F.length → okF F i = true) (hFp : ∀ f ∈ F, parts f.body ≤ 1000000)
    (hprev : ∀ m', m = m' + 1 → ∀ e, EvalOk F time m' e) (e : Ex) : EvalOk F time m e := by
  induction e using Ex.ind with | h o n s l ih => ?_
  by_cases ho : o = 21
  · subst ho; exact eval_if F time m n s l ih
  intro c p R P t vF vR vP cs w ht hR hP hsR hsP hpb hF hRr hPr hr
  obtain ⟨A, cap, b, off, rfl, hl1, hl2, hl3, hm⟩ := Ex.open hr
  simp only [Ex.args, Ex.op, Ex.n, Ex.s] at *
  have hll : l.length ≤ 1000000 := by rw [parts] at hpb; have := qbw l; omega
  have hlp : ∀ x ∈ l, parts x ≤ 1000000 := fun x hx => by rw [parts] at hpb; have := qbi l x hx; omega
  obtain ⟨ts, hts, htt⟩ : ∃ ts, tys (F.take m) c p l = some ts ∧ tailT (F.take m) c p o n s ts = some t := by
    rw [ty] at ht
    cases hl : tys (F.take m) c p l with
    | none => rw [hl] at ht; cases ht
    | some ts => rw [hl] at ht; exact ⟨ts, rfl, ht⟩
  have hkinds := evs_kinds (call := callN F time m) (time := time) (row := R) (params := P) l hts (fun x hx t' h' => ev_fit time hOk m x h' hR hP hsP)
  have hcall : o = 22 → ∀ (k : Nat) (hk : k < F.length), n = k → ∀ (vF vl : Value) (cs : List Value) (w' : World), Rd w' Any (.sl (F.map Fn.d)) [vF] → Rd w' Any (.sl ((evs (callN F time m) time R P l).map Val.d)) [vl] → Rd w' Any F[k].body.d cs → Calls Tryz.prog 52 #[qx vF time (.slice none 0 0) vl, .agg cs.toArray] w' fun r w'' => r = .returned (callN F time m n (evs (callN F time m) time R P l)).v ∧ Ext w' w'' := by
    intro h22 k hk hn vF vl cs w' h1 h2 h3
    unfold tailT at htt
    split at htt
    · cases htt
    obtain ⟨h0, hlt, f, hf, hpar, hres⟩ := qdy htt
    obtain ⟨m', rfl⟩ : ∃ m', m = m' + 1 := ⟨m - 1, by omega⟩
    have hkn : n.toNat = k := by omega
    rw [hkn] at hf hlt
    have hfk : F[k] = f := (List.getElem?_eq_some_iff.1 hf).2
    have hb := ty_mono (m := m') (by omega) f.body (okF_body (hOk k hk) hf)
    have hv : callN F time (m' + 1) n (evs (callN F time (m' + 1)) time R P l) = ev (callN F time m') time [] (evs (callN F time (m' + 1)) time R P l) f.body := by
      simp only [callN, hkn, hf]
    rw [hv, ← hfk]
    rw [← hfk] at hb hpar
    exact hprev m' rfl F[k].body [] F[k].params [] _ _ vF (.slice none 0 0) vl cs w' hb (qbs.nil []) (by rw [hkinds.1, hpar]) (qbs.nil []) hkinds.2 (hFp _ (List.getElem_mem hk)) h1 (Rd.nil none (by omega)) h2 h3
  have hstep : ∀ k (hk : k < l.length) (vF' : Value) cs' w', vF' = vF → Rd w' Any (.sl (F.map Fn.d)) [vF] → Rd w' Any (.sl (R.map Val.d)) [vR] → Rd w' Any (.sl (P.map Val.d)) [vP] → Rd w' Any l[k].d cs' → Calls Tryz.prog 52 #[qx vF' time vR vP, .agg cs'.toArray] w' fun r w'' => r = .returned (ev (callN F time m) time R P l[k]).v ∧ Ext w' w'' := by
    intro k hk vF' cs' w' hvf h1 h2 h3 h4
    subst hvf
    obtain ⟨t', ht'⟩ := qer l hts l[k] (List.getElem_mem hk)
    exact ih l[k] (List.getElem_mem hk) c p R P t' _ vR vP cs' w' ht' hR hP hsR hsP (hlp _ (List.getElem_mem hk)) h1 h2 h3 h4
  obtain ⟨AF, capF, bF, offF, rfl, F1, F2, F3, F4⟩ := Rd.sl_open hF
  simp only [List.length_map] at *
  have hE := Lib.hid (show ev (callN F time m) time R P (.mk o n s l) = opV (callN F time m) time R P o n s (evs (callN F time m) time R P l) by rw [ev, if_neg ho])
  have hF' := Lib.hid hF; have hR' := Lib.hid hRr; have hP' := Lib.hid hPr; have hl3' := Lib.hid hl3; have hm' := Lib.hid hm
  have hcall' := Lib.hid hcall; have hstep' := Lib.hid hstep; have htt' := Lib.hid htt; have hkinds' := Lib.hid hkinds; have ho' := Lib.hid ho
  have hsR' := Lib.hid hsR; have hsP' := Lib.hid hsP; have hRk := Lib.hid hR; have hPk := Lib.hid hP
  have hob : (o == 21) = false := by simp [ho]
  clear hF hRr hPr hr hl3 hm F3 F4 hcall hstep htt hkinds ih hprev hlp hts ht hpb hsR hsP hR hP hOk hFp ho
  simp only [qx]
  go_enter Tryz.func52, Tryz.ntmps52
  go_wp2_with fail
  rename_i K9 hK9
  have hK8 : ∀ (u6 u7 u8 u9 u10 u11 u12 u13 u14 u15 u16 u17 u18 u19 u20 u21 u22 u23 u24 u25 u26 u27 u28 u29 u30 u31 u32 u33 u34 u35 u36 u37 u38 u39 u40 u41 u42 u43 u44 u45 u46 u47 u48 u49 u50 u51 u52 u53 u54 u55 u56 u57 u58 u59 u60 u61 u62 u63 u64 u65 u66 u67 u68 u69 u70 u71 u72 u73 u74 u75 u76 u77 u78 u79 u80 u81 u82 u83 u84 u85 u86 u87 u88 u89 u90 u91 u92 u93 u94 u95 u96 u97 u98 u99 u100 u101 u102 u103 u104 u105 u106 u107 u108 u109 u110 u111 u112 u113 u114 u115 u116 u117 u118 u119 u120 u121 u122 u123 u124 u125 u126 u127 u128 u129 u130 u131 u132 u133 u134 u135 u136 u137 u138 : Value) (x9 : Value) (w' : World), EvalEnd F time R P o n s l A cap (evs (callN F time m) time R P l) w (.slice AF F.length capF) vR vP x9 w' → K9 ⟨#[.agg #[.slice AF F.length capF, .int .i64 time, vR, vP], .agg #[.int .i64 o, .int .i64 n, .string s, .slice A l.length cap], .pointer (some ⟨w.heap.size, 0, none⟩), .pointer (some ⟨w.heap.size + 1, 0, none⟩), .pointer (some ⟨w.heap.size + 1 + 1, 0, none⟩), x9, u6, u7, u8, u9, u10, u11, u12, u13, u14, u15, u16, u17, u18, u19, u20, u21, u22, u23, u24, u25, u26, u27, u28, u29, u30, u31, u32, u33, u34, u35, u36, u37, u38, u39, u40, u41, u42, u43, u44, u45, u46, u47, u48, u49, u50, u51, u52, u53, u54, u55, u56, u57, u58, u59, u60, u61, u62, u63, u64, u65, u66, u67, u68, u69, u70, u71, u72, u73, u74, u75, u76, u77, u78, u79, u80, u81, u82, u83, u84, u85, u86, u87, u88, u89, u90, u91, u92, u93, u94, u95, u96, u97, u98, u99, u100, u101, u102, u103, u104, u105, u106, u107, u108, u109, u110, u111, u112, u113, u114, u115, u116, u117, u118, u119, u120, u121, u122, u123, u124, u125, u126, u127, u128, u129, u130, u131, u132, u133, u134, u135, u136, u137, u138], []⟩ w' :=
    fun u6 u7 u8 u9 u10 u11 u12 u13 u14 u15 u16 u17 u18 u19 u20 u21 u22 u23 u24 u25 u26 u27 u28 u29 u30 u31 u32 u33 u34 u35 u36 u37 u38 u39 u40 u41 u42 u43 u44 u45 u46 u47 u48 u49 u50 u51 u52 u53 u54 u55 u56 u57 u58 u59 u60 u61 u62 u63 u64 u65 u66 u67 u68 u69 u70 u71 u72 u73 u74 u75 u76 u77 u78 u79 u80 u81 u82 u83 u84 u85 u86 u87 u88 u89 u90 u91 u92 u93 u94 u95 u96 u97 u98 u99 u100 u101 u102 u103 u104 u105 u106 u107 u108 u109 u110 u111 u112 u113 u114 u115 u116 u117 u118 u119 u120 u121 u122 u123 u124 u125 u126 u127 u128 u129 u130 u131 u132 u133 u134 u135 u136 u137 u138 x9 w' h1 => hK9 _ _ (ev_tail F time m c p ts t R P o n s l A cap _ w (.slice AF F.length capF) vR vP x9 w' h1 ho'.out htt'.out hkinds'.out.1 hkinds'.out.2 hRk.out hPk.out hsR'.out hsP'.out hcall'.out (fun r w'' => r = .returned (ev (callN F time m) time R P (.mk o n s l)).v ∧ Ext w w'') (fun w'' h4 => ⟨by rw [hE.out], h4⟩) u6 u7 u8 u9 u10 u11 u12 u13 u14 u15 u16 u17 u18 u19 u20 u21 u22 u23 u24 u25 u26 u27 u28 u29 u30 u31 u32 u33 u34 u35 u36 u37 u38 u39 u40 u41 u42 u43 u44 u45 u46 u47 u48 u49 u50 u51 u52 u53 u54 u55 u56 u57 u58 u59 u60 u61 u62 u63 u64 u65 u66 u67 u68 u69 u70 u71 u72 u73 u74 u75 u76 u77 u78 u79 u80 u81 u82 u83 u84 u85 u86 u87 u88 u89 u90 u91 u92 u93 u94 u95 u96 u97 u98 u99 u100 u101 u102 u103 u104 u105 u106 u107 u108 u109 u110 u111 u112 u113 u114 u115 u116 u117 u118 u119 u120 u121 u122 u123 u124 u125 u126 u127 u128 u129 u130 u131 u132 u133 u134 u135 u136 u137 u138)
  clear hK9
  generalize hWe : World.alloc (World.alloc (World.alloc w _) _) _ = W
  have s0 : W.cell? ⟨w.heap.size, 0, none⟩ = some (.slice AF F.length capF) := by rw [← hWe]; clear hWe; go_simp
  have s1 : W.cell? ⟨w.heap.size, 1, none⟩ = some (.int .i64 time) := by rw [← hWe]; clear hWe; go_simp
  have s2 : W.cell? ⟨w.heap.size, 2, none⟩ = some vR := by rw [← hWe]; clear hWe; go_simp
  have s3 : W.cell? ⟨w.heap.size, 3, none⟩ = some vP := by rw [← hWe]; clear hWe; go_simp
  have e0 : W.cell? ⟨w.heap.size + 1, 0, none⟩ = some (.int .i64 o) := by rw [← hWe]; clear hWe; go_simp
  have e1 : W.cell? ⟨w.heap.size + 1, 1, none⟩ = some (.int .i64 n) := by rw [← hWe]; clear hWe; go_simp
  have e2 : W.cell? ⟨w.heap.size + 1, 2, none⟩ = some (.string s) := by rw [← hWe]; clear hWe; go_simp
  have f0 : W.cell? ⟨w.heap.size + 1 + 1, 0, none⟩ = some (.int .i64 0) := by rw [← hWe]; clear hWe; go_simp
  have f1 : W.cell? ⟨w.heap.size + 1 + 1, 1, none⟩ = some (.int .i64 0) := by rw [← hWe]; clear hWe; go_simp
  have f2 : W.cell? ⟨w.heap.size + 1 + 1, 2, none⟩ = some (.string ByteArray.empty) := by rw [← hWe]; clear hWe; go_simp; rfl
  have z0 : W.frozen? ⟨w.heap.size + 1 + 1, 0, none⟩ = false := by rw [← hWe]; clear hWe; go_simp
  have z1 : W.frozen? ⟨w.heap.size + 1 + 1, 1, none⟩ = false := by rw [← hWe]; clear hWe; go_simp
  have z2 : W.frozen? ⟨w.heap.size + 1 + 1, 2, none⟩ = false := by rw [← hWe]; clear hWe; go_simp
  have hlt : w.heap.size + 1 + 1 < W.heap.size := by rw [← hWe]; clear hWe; go_simp
  have hwW : Ext w W := by rw [← hWe]; exact (by repeat' first | exact Ext.refl _ | assumption | apply Ext.alloc | apply Ext.drew | apply Ext.drewN | (refine Ext.trans ?_ (by assumption)))
  clear hWe
  go_loopw [5, 35] (fun x i wr => ∃ (k : Nat), k ≤ l.length ∧ i = .int .i64 k ∧ wr.ownsRow W.heap.size 39 3 x k (cellsV (evs (callN F time m) time R P (l.take k))) ∧ Ext W wr) (fun _ i _ => l.length - (RowKit.intOf i).toNat)
  case atStart => exact ⟨0, by omega, rfl, World.ownsRow_nil _ _ _ _, Ext.refl _⟩
  case round =>
    obtain ⟨k, hk, rfl, hown, hb⟩ := hrel
    replace s0 := hb.at s0
    replace s1 := hb.at s1
    replace s2 := hb.at s2
    replace s3 := hb.at s3
    replace e0 := hb.at e0
    replace e1 := hb.at e1
    replace e2 := hb.at e2
    replace f0 := hb.at f0
    replace f1 := hb.at f1
    replace f2 := hb.at f2
    replace z0 := (hb.frozens _ _ hlt).trans z0
    replace z1 := (hb.frozens _ _ hlt).trans z1
    replace z2 := (hb.frozens _ _ hlt).trans z2
    have hw : Ext w wr := hwW.trans hb
    by_cases hk2 : k < l.length
    · obtain ⟨rfl, hSb⟩ := hl3'.out (by omega)
      obtain ⟨A1, cap1, b1, off1, c0, c1, c2, c3, hr', -⟩ := Ex.at (hm'.out.ext (fun _ => hSb) hw) hk2
      have hr2 := Lib.hid hr'
      have hnext := Lib.hid (cells_next (call := callN F time m) (time := time) (R := R) (P := P) hk2)
      have hst := hstep'.out k hk2
      clear hr' hSb
      generalize ev (callN F time m) time R P l[k] = X at hst hnext
      obtain ⟨kx, nx, sx⟩ := X
      simp only [Val.v, qx] at hst hnext
      have hst' := Lib.hid hst; clear hst
      have s0' : ∀ o1, (wr.alloc o1).cell? ⟨w.heap.size, 0, none⟩ = some (.slice AF F.length capF) := fun o1 => ((Ext.refl _).alloc o1).at s0
      have s1' : ∀ o1, (wr.alloc o1).cell? ⟨w.heap.size, 1, none⟩ = some (.int .i64 time) := fun o1 => ((Ext.refl _).alloc o1).at s1
      have s2' : ∀ o1, (wr.alloc o1).cell? ⟨w.heap.size, 2, none⟩ = some vR := fun o1 => ((Ext.refl _).alloc o1).at s2
      have s3' : ∀ o1, (wr.alloc o1).cell? ⟨w.heap.size, 3, none⟩ = some vP := fun o1 => ((Ext.refl _).alloc o1).at s3
      go_wp2_with fail
      refine (hst'.out _ _ _ rfl (hF'.out.ext (by repeat' first | exact Ext.refl _ | assumption | apply Ext.alloc | apply Ext.drew | apply Ext.drewN | (refine Ext.trans ?_ (by assumption)))) (hR'.out.ext (by repeat' first | exact Ext.refl _ | assumption | apply Ext.alloc | apply Ext.drew | apply Ext.drewN | (refine Ext.trans ?_ (by assumption)))) (hP'.out.ext (by repeat' first | exact Ext.refl _ | assumption | apply Ext.alloc | apply Ext.drew | apply Ext.drewN | (refine Ext.trans ?_ (by assumption)))) (hr2.out.ext (by repeat' first | exact Ext.refl _ | assumption | apply Ext.alloc | apply Ext.drew | apply Ext.drewN | (refine Ext.trans ?_ (by assumption))))).mono ?_
      rintro r w1 ⟨rfl, he⟩
      have he2 : Ext wr w1 := ((Ext.refl _).alloc _).trans he
      have hown1 : w1.ownsRow W.heap.size 39 3 _ k _ := own_ext hown he2
      have hsz := (hb.trans he2).size
      go_wp2_with (at_builtin; refine wp_append1 _ _ _ rfl _ _ _ rfl W.heap.size 39 3 32 _ Tryz.underlying26 infoVal rfl (by decide) (by decide) _ _ _ rfl hown1 rfl rfl (by intro u hu; simp at hu; rcases hu with rfl | rfl | rfl <;> rfl) (by omega) (by simpa using hsz) ?_; intro v' w2 hown2 hg2 hn2)
      go_roundw
      case rel => exact ⟨k + 1, by omega, by go_num, by rw [hnext.out]; simpa using hown2, (hb.trans he2).grown hown1 (Nat.le_refl _) hg2⟩
      case measure => simp [RowKit.intOf]; omega
    · have hkl : k = l.length := by omega
      subst hkl
      rw [List.take_length] at hown
      have hRl := own_vals (l := evs (callN F time m) time R P l) (by rw [show (evs (callN F time m) time R P l).length = l.length by rw [qep, List.length_map]]; exact hown)
      have hfin := Lib.hid (show EvalEnd F time R P o n s l A cap (evs (callN F time m) time R P l) w (.slice AF F.length capF) vR vP _ wr from ⟨s0, s1, s2, s3, e0, e1, e2, f0, f1, f2, z0, z1, z2, Nat.lt_of_lt_of_le hlt hb.size, hw, Rd.any (hF'.out.ext hw), Rd.any (hR'.out.ext hw), Rd.any (hP'.out.ext hw), hRl⟩)
      clear hRl hown
      go_wp2_with fail
      exact hfin.out
end Go.Proofs.YtnkimlkoijfcpaaGreatDoor

/- Walk: expr.Eval. -/
namespace Go.Proofs.YtnkimlkoijfcpaaGreatDoor
open Go.RowKit Go.Lib
theorem eval_any (F : List Fn) (time : Int) (hOk : ∀ i, i < F.length → okF F i = true) (hFp : ∀ f ∈ F, parts f.body ≤ 1000000) : ∀ (m : Nat) (e : Ex), EvalOk F time m e := by
  intro m
  induction m with
  | zero => exact fun e => eval_step F time 0 hOk hFp (fun m' h => by omega) e
  | succ m ih => exact fun e => eval_step F time (m + 1) hOk hFp (fun m' h => by obtain rfl : m' = m := by omega
                                                                                 exact ih) e
set_option maxHeartbeats 1000000 in
theorem Eval_fit (F : List Fn) (time : Int) (R : List Val) (e : Ex) (t : Int) (hOk : ∀ i, i < F.length → okF F i = true) (hFp : ∀ f ∈ F, parts f.body ≤ 1000000) (hpb : parts e ≤ 1000000) {c : List Int} (ht : ty F c [] e = some t) (hR : qbs c R)
    (vF vR : Value) (cs : List Value) (w : World) (hF : Rd w Any (.sl (F.map Fn.d)) [vF]) (hRr : Rd w Any (.sl (R.map Val.d)) [vR]) (hr : Rd w Any e.d cs) :
    Calls Tryz.prog 17 #[vF, .agg cs.toArray, .int .i64 time, vR] w fun r w' => r = .returned (evalP F time R e).v ∧ Ext w w' := by
  have hc := fun w (h1 : Rd w Any (.sl (F.map Fn.d)) [vF]) h2 h3 h4 => eval_any F time hOk hFp F.length e c [] R [] t vF vR (.slice none 0 0) cs w (by rw [List.take_length]; exact ht) hR rfl hR (by simp) hpb h1 h2 h3 h4
  obtain ⟨AF, capF, bF, offF, rfl, F1, F2, F3, F4⟩ := Rd.sl_open hF
  obtain ⟨AR, capR, bR, offR, rfl, R1, R2, R3, R4⟩ := Rd.sl_open hRr
  obtain ⟨A, cap, b, off, rfl, hl1, hl2, hl3, hm⟩ := Ex.open hr
  simp only [List.length_map] at *
  have hev : ev (callN F time F.length) time R [] e = evalP F time R e := rfl
  rw [hev] at hc
  generalize evalP F time R e = Z at *
  obtain ⟨kz, nz, sz⟩ := Z
  simp only [Val.v, qx] at *
  have hc' := Lib.hid hc; have hF' := Lib.hid hF; have hR' := Lib.hid hRr; have hr' := Lib.hid hr
  clear hc hF hRr hr hm hl3 F3 F4 R3 R4 hev hR ht hFp hOk hpb
  go_enter Tryz.func17, Tryz.ntmps17
  go_wp2_with fail
  refine (hc'.out _ (hF'.out.ext (by repeat' first | exact Ext.refl _ | assumption | apply Ext.alloc | apply Ext.drew | apply Ext.drewN | (refine Ext.trans ?_ (by assumption)))) (hR'.out.ext (by repeat' first | exact Ext.refl _ | assumption | apply Ext.alloc | apply Ext.drew | apply Ext.drewN | (refine Ext.trans ?_ (by assumption)))) (Rd.nil none (by omega)) (hr'.out.ext (by repeat' first | exact Ext.refl _ | assumption | apply Ext.alloc | apply Ext.drew | apply Ext.drewN | (refine Ext.trans ?_ (by assumption))))).mono ?_
  rintro r w1 ⟨rfl, he⟩
  have f0 : w1.cell? ⟨w.heap.size + 1, 0, none⟩ = some (.int .i64 0) := he.at (by go_simp)
  have f1 : w1.cell? ⟨w.heap.size + 1, 1, none⟩ = some (.int .i64 0) := he.at (by go_simp)
  have f2 : w1.cell? ⟨w.heap.size + 1, 2, none⟩ = some (.string ByteArray.empty) := he.at (by go_simp; rfl)
  have z0 : w1.frozen? ⟨w.heap.size + 1, 0, none⟩ = false := (he.frozens _ _ (by go_simp)).trans (by go_simp)
  have z1 : w1.frozen? ⟨w.heap.size + 1, 1, none⟩ = false := (he.frozens _ _ (by go_simp)).trans (by go_simp)
  have z2 : w1.frozen? ⟨w.heap.size + 1, 2, none⟩ = false := (he.frozens _ _ (by go_simp)).trans (by go_simp)
  have hw : Ext w w1 := ((Ext.refl w).alloc _ |>.alloc _).trans he
  clear he
  go_wp2_with fail
  exact bodyPost_ret (v := .agg #[.int .i64 kz, .int .i64 nz, .string sz]) (by simp [results, Tryz.results17, go_sem, f0, f1, f2]) rfl ⟨rfl, qs hw _ (by omega) _ _ _⟩
end Go.Proofs.YtnkimlkoijfcpaaGreatDoor

/- Layer 25 on plain data: one more instruction. -/
namespace Go.Proofs.YtnkimlkoijfcpaaGreatDoor
open Go.RowKit Go.Lib
theorem doneL_snoc : ∀ (l : List Ins) (x : Ins) (done : List Bool), doneL (l ++ [x]) done = (doneL l done).set x.to.toNat true
  | [], _, _ => rfl
  | y :: l, x, done => by rw [List.cons_append, doneL, doneL_snoc l]; rfl
theorem AllOk.at {cols types : List Int} : ∀ (l : List Ins) (k : Nat) (done : List Bool) (h : k < l.length), AllOk cols types l done → InsOk cols types (doneL (l.take k) done) l[k]
  | x :: l, 0, done, _, ha => ha.1
  | x :: l, k + 1, done, h, ha => by
    have := AllOk.at l k _ (by simpa using h) ha.2
    rw [List.take_succ_cons, doneL]
    exact this
theorem AllOk.take {cols types : List Int} : ∀ (l : List Ins) (k : Nat) (done : List Bool), AllOk cols types l done → AllOk cols types (l.take k) done
  | [], k, done, _ => by simp [AllOk]
  | x :: l, 0, done, _ => trivial
  | x :: l, k + 1, done, ha => ⟨ha.1, AllOk.take l k _ ha.2⟩
theorem nodes_snoc : ∀ (l : List Ins) (x : Ins) (i : Nat) (last : List Nat), nodes (l ++ [x]) i last = nodes l i last ++ [⟨x, (opsP x).map fun r => (lastL l i last).getD r.toNat 0⟩]
  | [], _, _, _ => rfl
  | y :: l, x, i, last => by rw [List.cons_append, nodes, nodes_snoc l]; rfl
theorem lastL_snoc : ∀ (l : List Ins) (x : Ins) (i : Nat) (last : List Nat), lastL (l ++ [x]) i last = (lastL l i last).set x.to.toNat (i + l.length)
  | [], _, _, _ => rfl
  | y :: l, x, i, last => by
    rw [List.cons_append, lastL, lastL_snoc l, List.length_cons]
    rw [show i + 1 + l.length = i + (l.length + 1) by omega]; rfl
theorem lastL_len : ∀ (l : List Ins) (i : Nat) (last : List Nat), (lastL l i last).length = last.length
  | [], _, _ => rfl
  | y :: l, i, last => by rw [lastL, lastL_len l, List.length_set]
end Go.Proofs.YtnkimlkoijfcpaaGreatDoor

/- Walks: the program's steps. -/
namespace Go.Proofs.YtnkimlkoijfcpaaGreatDoor
open Go.RowKit Go.Lib
end Go.Proofs.YtnkimlkoijfcpaaGreatDoor

/- Walks: whether an expression reads the time, of the reference. -/
namespace Go.Proofs.YtnkimlkoijfcpaaGreatDoor
open Go.RowKit Go.Lib
theorem bools_at {w : World} {S : Nat → Prop} {l : List Bool} {b off : Nat} (hm : RdM w S (l.map D.bool) b off) {k : Nat} (hk : k < l.length) : w.cell? ⟨b, off + k, none⟩ = some (.bool l[k]) := by
  obtain ⟨cs, hc, hr⟩ := RdM.get (sz := 1) _ b off hm (fun d hd => by obtain ⟨x, -, rfl⟩ := List.mem_map.1 hd; rfl) k (by simpa using hk)
  rw [List.getElem_map, Rd] at hr
  subst hr
  simp only [qbd, and_true] at hc
  simpa using hc
theorem rdS_bools (w : World) (S : Nat → Prop) : ∀ l : List Bool, RdS w S (l.map D.bool) (l.map Value.bool)
  | [] => by rw [List.map_nil, List.map_nil, RdS]
  | x :: l => by
    rw [List.map_cons, List.map_cons, RdS]
    exact ⟨[.bool x], _, rfl, by rw [Rd], rdS_bools w S l⟩
theorem own_bools {w : World} {S : Nat → Prop} {B : Nat} {v : Value} {l : List Bool} (h : w.ownsRow B 4 1 v l.length (l.map Value.bool)) (hS : ∀ b, v.ownBlock = some b → S b) : Rd w S (.sl (l.map D.bool)) [v] :=
  own_rd (l := l.map D.bool) (S := S) (by simpa using h) (rdS_bools w S l) (fun _ h => h) hS
theorem infoBool : (Tryz.prog.info? 4).map (fun i => (i.zero, i.size, i.bytes)) = some (some (.bool false), 1, 1) := by kernel_rfl
end Go.Proofs.YtnkimlkoijfcpaaGreatDoor

/- Walk: expr.walk calls a function for each part, the expression first. -/
namespace Go.Proofs.YtnkimlkoijfcpaaGreatDoor
open Go.RowKit Go.Lib
mutual
def pre : Ex → List Ex
  | .mk o n s l => .mk o n s l :: preL l
def preL : List Ex → List Ex
  | [] => []
  | e :: l => pre e ++ preL l
end
theorem preL_snoc : ∀ (l : List Ex) (e : Ex), preL (l ++ [e]) = preL l ++ pre e
  | [], e => by rw [List.nil_append, preL, preL, preL]; simp
  | x :: l, e => by rw [List.cons_append, preL, preL, preL_snoc l e]; simp
theorem qbm {w w' : World} (h : Ext w w') (row : Option Nat) : w.grownBy w' row := ⟨h.os, h.tape, h.output, h.size, fun k hk _ => h.block k hk⟩
theorem keeps_of_grown {w w' : World} {m : Nat} {S : Nat → Prop} (h : w.grownBy w' (some m)) (hS : ∀ b, S b → b ≠ m) : Keeps S w w' := fun b hb hlt => h.block b hlt (fun e => hS b hb (by simpa using e))
theorem gcell {w w' : World} {m : Nat} (h : w.grownBy w' (some m)) {p : Addr} {v : Value} (hc : w.cell? p = some v) (hne : p.block ≠ m) : w'.cell? p = some v := qdh h hc (fun e => hne (by simpa using e))
def Steps1 (fid : FuncId) (caps : Array Value) (m : Nat) (S : Nat → Prop) (Inv : List Ex → World → Prop) (ok : Ex → Prop) : Prop :=
  ∀ (L : List Ex) (x : Ex) (cs : List Value) (w : World), ok x → Inv L w → Rd w S x.d cs → m < w.heap.size →
    Calls Tryz.prog fid (#[.agg cs.toArray] ++ caps) w fun r w' => (∃ v, r = .returned v) ∧ Inv (L ++ [x]) w' ∧ w.grownBy w' (some m)
set_option maxRecDepth 10000 in
set_option maxHeartbeats 2000000 in
theorem walk_timed (caps : Array Value) (m : Nat) (S : Nat → Prop) (hS : ∀ b, S b → b ≠ m) (Inv : List Ex → World → Prop) (ok : Ex → Prop) (hok : ∀ o n s l, ok (.mk o n s l) → ∀ x ∈ l, ok x) (hstep : Steps1 50 caps m S Inv ok) (hal : ∀ L w o, Inv L w → Inv L (w.alloc o)) (e : Ex) :
    ∀ (L : List Ex) (cs : List Value) (w : World), ok e → Inv L w → Rd w S e.d cs → m < w.heap.size →
    Calls Tryz.prog 45 #[.agg cs.toArray, .func (.func 50) #[] caps] w fun r w' => (∃ v, r = .returned v) ∧ Inv (L ++ pre e) w' ∧ w.grownBy w' (some m) := by
  induction e using Ex.ind with | h o n s l ih => ?_
  intro L cs w hoke hI hr hm0
  have hr0 := hr
  obtain ⟨A, cap, b, off, rfl, hl1, hl2, hl3, hm⟩ := Ex.open hr
  have ih' := Lib.hid ih
  clear ih
  simp only [Ex.args, Ex.op, Ex.n, Ex.s] at hl1 hl2 hl3 hm hr0 ⊢
  have hl3' := Lib.hid hl3; have hm' := Lib.hid hm; have hst' := Lib.hid hstep; have hok' := Lib.hid hok; have hoke' := Lib.hid hoke; have hal' := Lib.hid hal; have hI' := Lib.hid hI; have hr' := Lib.hid hr0; have hS' := Lib.hid hS
  clear hr hr0 hl3 hm hstep hok hoke hal hI hS
  go_enter Tryz.func45, Tryz.ntmps45
  go_wp2_with fail
  generalize hWe : World.alloc w _ = W
  have e0 : W.cell? ⟨w.heap.size, 0, none⟩ = some (.int .i64 o) := by rw [← hWe]; clear hWe; go_simp
  have e1 : W.cell? ⟨w.heap.size, 1, none⟩ = some (.int .i64 n) := by rw [← hWe]; clear hWe; go_simp
  have e2 : W.cell? ⟨w.heap.size, 2, none⟩ = some (.string s) := by rw [← hWe]; clear hWe; go_simp
  have e3 : W.cell? ⟨w.heap.size, 3, none⟩ = some (.slice A l.length cap) := by rw [← hWe]; clear hWe; go_simp
  have hI1 : Inv L W := by rw [← hWe]; exact hal'.out _ _ _ hI'.out
  have hwW : Ext w W := by rw [← hWe]; exact (by repeat' first | exact Ext.refl _ | assumption | apply Ext.alloc | apply Ext.drew | apply Ext.drewN | (refine Ext.trans ?_ (by assumption)))
  clear hWe
  refine (hst'.out L (.mk o n s l) _ W hoke'.out hI1 (hr'.out.ext hwW) (Nat.lt_of_lt_of_le hm0 hwW.size)).mono ?_
  rintro r w1 ⟨⟨v, rfl⟩, hI2, hg⟩
  have f3 : w1.cell? ⟨w.heap.size, 3, none⟩ = some (.slice A l.length cap) := gcell hg e3 (by dsimp only; omega)
  have hg1 : w.grownBy w1 (some m) := (qbm hwW _).trans hg
  have hI3 := Lib.hid hI2
  clear e0 e1 e2 e3 hI1 hI2 hg hwW
  go_wp2_with fail
  go_loopw [12] (fun i wr => ∃ (k : Nat), k ≤ l.length ∧ i = .int .i64 k ∧ Inv (L ++ .mk o n s l :: preL (l.take k)) wr ∧ w.grownBy wr (some m)) (fun i _ => l.length - (RowKit.intOf i).toNat)
  case atStart => exact ⟨0, by omega, rfl, by rw [List.take_zero, preL]; exact hI3.out, hg1⟩
  case round =>
    obtain ⟨k, hk, rfl, hIk, hgk⟩ := hrel
    have hIk' := Lib.hid hIk
    clear hIk
    by_cases hk2 : k < l.length
    · obtain ⟨rfl, hSb⟩ := hl3'.out (by omega)
      have hmk := RdM.keep (keeps_of_grown hgk hS'.out) (fun _ h => h) _ _ _ hSb hm'.out
      obtain ⟨A1, cap1, b1, off1, c0, c1, c2, c3, hr1, -⟩ := Ex.at hmk hk2
      have hr2 := Lib.hid hr1
      have hSb' := Lib.hid hSb
      clear hr1 hmk hSb
      go_wp2_with fail
      generalize hWe : World.alloc wr _ = W1
      have hw1 : Ext wr W1 := by rw [← hWe]; exact (by repeat' first | exact Ext.refl _ | assumption | apply Ext.alloc | apply Ext.drew | apply Ext.drewN | (refine Ext.trans ?_ (by assumption)))
      have hI4 : Inv (L ++ .mk o n s l :: preL (l.take k)) W1 := by rw [← hWe]; exact hal'.out _ _ _ hIk'.out
      clear hWe
      refine (ih'.out l[k] (List.getElem_mem hk2) (L ++ .mk o n s l :: preL (l.take k)) _ W1 (hok'.out _ _ _ _ hoke'.out _ (List.getElem_mem hk2)) hI4 (hr2.out.ext hw1) (Nat.lt_of_lt_of_le (Nat.lt_of_lt_of_le hm0 hgk.size) hw1.size)).mono ?_
      rintro r w2 ⟨⟨v2, rfl⟩, hI5, hg2⟩
      have hI6 := Lib.hid (show Inv (L ++ .mk o n s l :: preL (l.take (k + 1))) w2 by
        rw [List.take_succ_eq_append_getElem hk2, preL_snoc]
        simpa using hI5)
      have hg3 : w.grownBy w2 (some m) := (hgk.trans (qbm hw1 _)).trans hg2
      clear hI4 hI5 hg2 hw1
      go_wp2_with fail
      go_roundw
      case rel => exact ⟨k + 1, by omega, by go_num, hI6.out, hg3⟩
      case measure => simp [RowKit.intOf]; omega
    · have hkl : k = l.length := by omega
      subst hkl
      go_wp2_with fail
      refine bodyPost_end (v := .tuple #[]) (by simp [results, Tryz.results45, go_sem]; done) rfl ⟨⟨_, rfl⟩, ?_, hgk⟩
      have := hIk'.out
      rw [List.take_length] at this
      rw [pre]
      exact this
end Go.Proofs.YtnkimlkoijfcpaaGreatDoor

/- Walk: the function that notes a part's column in a map (expr.Reads). -/
namespace Go.Proofs.YtnkimlkoijfcpaaGreatDoor
open Go.RowKit Go.Lib Go.Maps
theorem keyed_int : Keyed Tryz.prog 3 := int_keyed Tryz.underlying3
def RInv (m pb : Nat) (L : List Ex) (w : World) : Prop :=
  (∃ D : DataW Unit, w.ownsMap Tryz.prog 3 (plainElem Tryz.prog 4) m L.length D ∧ ∀ x : Int, has D (.int .i64 x) = true ↔ ∃ y ∈ L, y.op = 3 ∧ y.n = x) ∧ w.cell? ⟨pb, 0, none⟩ = some (.map (some m))
mutual
theorem pre_len : ∀ e : Ex, (pre e).length = parts e
  | .mk o n s l => by rw [pre, parts, List.length_cons, preL_len l]
theorem preL_len : ∀ l : List Ex, (preL l).length = qu l
  | [] => by rw [preL, qu]; rfl
  | e :: l => by rw [preL, qu, List.length_append, pre_len e, preL_len l]
end
def StepsB (B : Nat) (fid : FuncId) (caps : Array Value) (m : Nat) (S : Nat → Prop) (Inv : List Ex → World → Prop) (ok : Ex → Prop) : Prop :=
  ∀ (L : List Ex) (x : Ex) (cs : List Value) (w : World), L.length < B → ok x → Inv L w → Rd w S x.d cs → m < w.heap.size →
    Calls Tryz.prog fid (#[.agg cs.toArray] ++ caps) w fun r w' => (∃ v, r = .returned v) ∧ Inv (L ++ [x]) w' ∧ w.grownBy w' (some m)
set_option maxRecDepth 10000 in
set_option maxHeartbeats 2000000 in
theorem walk_readsB (B : Nat) (caps : Array Value) (m : Nat) (S : Nat → Prop) (hS : ∀ b, S b → b ≠ m) (Inv : List Ex → World → Prop) (ok : Ex → Prop) (hok : ∀ o n s l, ok (.mk o n s l) → ∀ x ∈ l, ok x) (hstep : StepsB B 46 caps m S Inv ok) (hal : ∀ L w o, Inv L w → Inv L (w.alloc o)) (e : Ex) :
    ∀ (L : List Ex) (cs : List Value) (w : World), L.length + parts e ≤ B → ok e → Inv L w → Rd w S e.d cs → m < w.heap.size →
    Calls Tryz.prog 45 #[.agg cs.toArray, .func (.func 46) #[] caps] w fun r w' => (∃ v, r = .returned v) ∧ Inv (L ++ pre e) w' ∧ w.grownBy w' (some m) := by
  induction e using Ex.ind with | h o n s l ih => ?_
  intro L cs w hBL hoke hI hr hm0
  rw [parts] at hBL
  have hr0 := hr
  obtain ⟨A, cap, b, off, rfl, hl1, hl2, hl3, hm⟩ := Ex.open hr
  have ih' := Lib.hid ih
  clear ih
  simp only [Ex.args, Ex.op, Ex.n, Ex.s] at hl1 hl2 hl3 hm hr0 ⊢
  have hl3' := Lib.hid hl3; have hm' := Lib.hid hm; have hst' := Lib.hid hstep; have hok' := Lib.hid hok; have hoke' := Lib.hid hoke; have hal' := Lib.hid hal; have hI' := Lib.hid hI; have hr' := Lib.hid hr0; have hS' := Lib.hid hS
  clear hr hr0 hl3 hm hstep hok hoke hal hI hS
  go_enter Tryz.func45, Tryz.ntmps45
  go_wp2_with fail
  generalize hWe : World.alloc w _ = W
  have e0 : W.cell? ⟨w.heap.size, 0, none⟩ = some (.int .i64 o) := by rw [← hWe]; clear hWe; go_simp
  have e1 : W.cell? ⟨w.heap.size, 1, none⟩ = some (.int .i64 n) := by rw [← hWe]; clear hWe; go_simp
  have e2 : W.cell? ⟨w.heap.size, 2, none⟩ = some (.string s) := by rw [← hWe]; clear hWe; go_simp
  have e3 : W.cell? ⟨w.heap.size, 3, none⟩ = some (.slice A l.length cap) := by rw [← hWe]; clear hWe; go_simp
  have hI1 : Inv L W := by rw [← hWe]; exact hal'.out _ _ _ hI'.out
  have hwW : Ext w W := by rw [← hWe]; exact (by repeat' first | exact Ext.refl _ | assumption | apply Ext.alloc | apply Ext.drew | apply Ext.drewN | (refine Ext.trans ?_ (by assumption)))
  clear hWe
  refine (hst'.out L (.mk o n s l) _ W (by omega) hoke'.out hI1 (hr'.out.ext hwW) (Nat.lt_of_lt_of_le hm0 hwW.size)).mono ?_
  rintro r w1 ⟨⟨v, rfl⟩, hI2, hg⟩
  have f3 : w1.cell? ⟨w.heap.size, 3, none⟩ = some (.slice A l.length cap) := gcell hg e3 (by dsimp only; omega)
  have hg1 : w.grownBy w1 (some m) := (qbm hwW _).trans hg
  have hI3 := Lib.hid hI2
  clear e0 e1 e2 e3 hI1 hI2 hg hwW
  go_wp2_with fail
  go_loopw [12] (fun i wr => ∃ (k : Nat), k ≤ l.length ∧ i = .int .i64 k ∧ Inv (L ++ .mk o n s l :: preL (l.take k)) wr ∧ w.grownBy wr (some m)) (fun i _ => l.length - (Go.RowKit.intOf i).toNat)
  case atStart => exact ⟨0, by omega, rfl, by rw [List.take_zero, preL]; exact hI3.out, hg1⟩
  case round =>
    obtain ⟨k, hk, rfl, hIk, hgk⟩ := hrel
    have hIk' := Lib.hid hIk
    clear hIk
    by_cases hk2 : k < l.length
    · obtain ⟨rfl, hSb⟩ := hl3'.out (by omega)
      have hmk := RdM.keep (keeps_of_grown hgk hS'.out) (fun _ h => h) _ _ _ hSb hm'.out
      obtain ⟨A1, cap1, b1, off1, c0, c1, c2, c3, hr1, -⟩ := Ex.at hmk hk2
      have hr2 := Lib.hid hr1
      have hSb' := Lib.hid hSb
      clear hr1 hmk hSb
      go_wp2_with fail
      generalize hWe : World.alloc wr _ = W1
      have hw1 : Ext wr W1 := by rw [← hWe]; exact (by repeat' first | exact Ext.refl _ | assumption | apply Ext.alloc | apply Ext.drew | apply Ext.drewN | (refine Ext.trans ?_ (by assumption)))
      have hI4 : Inv (L ++ .mk o n s l :: preL (l.take k)) W1 := by rw [← hWe]; exact hal'.out _ _ _ hIk'.out
      clear hWe
      refine (ih'.out l[k] (List.getElem_mem hk2) (L ++ .mk o n s l :: preL (l.take k)) _ W1 (by rw [List.length_append, List.length_cons, preL_len]; have h1 := qdm l k hk2; have h2 := qck l (k + 1); omega) (hok'.out _ _ _ _ hoke'.out _ (List.getElem_mem hk2)) hI4 (hr2.out.ext hw1) (Nat.lt_of_lt_of_le (Nat.lt_of_lt_of_le hm0 hgk.size) hw1.size)).mono ?_
      rintro r w2 ⟨⟨v2, rfl⟩, hI5, hg2⟩
      have hI6 := Lib.hid (show Inv (L ++ .mk o n s l :: preL (l.take (k + 1))) w2 by
        rw [List.take_succ_eq_append_getElem hk2, preL_snoc]
        simpa using hI5)
      have hg3 : w.grownBy w2 (some m) := (hgk.trans (qbm hw1 _)).trans hg2
      clear hI4 hI5 hg2 hw1
      go_wp2_with fail
      go_roundw
      case rel => exact ⟨k + 1, by omega, by go_num, hI6.out, hg3⟩
      case measure => simp [Go.RowKit.intOf]; omega
    · have hkl : k = l.length := by omega
      subst hkl
      go_wp2_with fail
      refine bodyPost_end (v := .tuple #[]) (by simp [results, Tryz.results45, go_sem]; done) rfl ⟨⟨_, rfl⟩, ?_, hgk⟩
      have := hIk'.out
      rw [List.take_length] at this
      rw [pre]
      exact this
def colsOk (e : Ex) : Prop := ∀ y ∈ pre e, y.op = 3 → (Lit.int .i64 y.n).wf = true
theorem preL_mem : ∀ (l : List Ex) (x : Ex), x ∈ l → ∀ y ∈ pre x, y ∈ preL l
  | [], x, h, y, _ => by cases h
  | e :: l, x, h, y, hy => by
    rw [preL, List.mem_append]
    rcases List.mem_cons.1 h with rfl | h
    · exact .inl hy
    · exact .inr (preL_mem l x h y hy)
theorem colsOk_args (o n : Int) (s : ByteArray) (l : List Ex) (h : colsOk (.mk o n s l)) : ∀ x ∈ l, colsOk x := fun x hx y hy => h y (by rw [pre]; exact List.mem_cons_of_mem _ (preL_mem l x hx y hy))
theorem RInv.alloc {m pb : Nat} {L : List Ex} {w : World} (h : RInv m pb L w) (o : Obj) : RInv m pb L (w.alloc o) := by
  obtain ⟨⟨D, h1, h2⟩, h3⟩ := h
  exact ⟨⟨D, h1.alloc o, h2⟩, ((Ext.refl w).alloc o).at h3⟩
theorem RInv.same {m pb : Nat} {L : List Ex} {x : Ex} {w : World} (h : RInv m pb L w) (hx : x.op ≠ 3) : RInv m pb (L ++ [x]) w := by
  obtain ⟨⟨D, h1, h2⟩, h3⟩ := h
  refine ⟨⟨D, h1.mono (by simp), fun z => ?_⟩, h3⟩
  rw [h2 z]
  constructor
  · rintro ⟨y, hy, h⟩
    exact ⟨y, by simp [hy], h⟩
  · rintro ⟨y, hy, h⟩
    rcases List.mem_append.1 hy with hy | hy
    · exact ⟨y, hy, h⟩
    · rw [List.mem_singleton] at hy
      subst hy
      exact absurd h.1 hx
theorem RInv.put {m pb : Nat} {L : List Ex} {x : Ex} {w' : World} {D : DataW Unit} (h2 : ∀ x : Int, has D (.int .i64 x) = true ↔ ∃ y ∈ L, y.op = 3 ∧ y.n = x) (hD : IsMap D) (hx : x.op = 3) (d : DataW Unit)
    (h1 : w'.ownsMap Tryz.prog 3 (plainElem Tryz.prog 4) m (L.length + 1) (D.put (.int .i64 x.n) d)) (h3 : w'.cell? ⟨pb, 0, none⟩ = some (.map (some m))) : RInv m pb (L ++ [x]) w' := by
  refine ⟨⟨_, by rw [List.length_append]; exact h1, fun z => ?_⟩, h3⟩
  by_cases hz : z = x.n
  · subst hz
    rw [has_put_same hD (by trivial)]
    exact ⟨fun _ => ⟨x, by simp, hx, rfl⟩, fun _ => rfl⟩
  · rw [has_put_other (by simpa using hz), h2 z]
    constructor
    · rintro ⟨y, hy, h⟩
      exact ⟨y, by simp [hy], h⟩
    · rintro ⟨y, hy, h⟩
      rcases List.mem_append.1 hy with hy | hy
      · exact ⟨y, hy, h⟩
      · rw [List.mem_singleton] at hy
        subst hy
        exact absurd h.2.symm hz
set_option maxRecDepth 100000 in
set_option maxHeartbeats 2000000 in
theorem read_part (S : Nat → Prop) (m pb : Nat) (hpb : pb ≠ m) : StepsB 1000000 46 #[.pointer (some ⟨pb, 0, none⟩)] m S (RInv m pb) colsOk := by
  intro L x cs w hB hok hI hr hm0
  obtain ⟨⟨D, hown, hD⟩, hp⟩ := hI
  obtain ⟨A, cap, b, off, rfl, hl1, hl2, hl3, hm⟩ := Ex.open hr
  obtain ⟨o, n, s, l⟩ := x
  simp only [Ex.args, Ex.op, Ex.n, Ex.s] at hl1 hl2 hl3 hm hr ⊢
  have gp : ∀ o1, (w.alloc o1).cell? _ = some _ := fun o1 => ((Ext.refl w).alloc o1).at hp
  by_cases ho : o = 3
  · subst ho
    have hwf : (Lit.int .i64 n).wf = true := hok (.mk 3 n s l) (by rw [pre]; simp) rfl
    have hkey : keyOf Tryz.prog 3 (.int .i64 n) = some (.int .i64 n) := keyOf_int_mk Tryz.underlying3 hwf
    have hown' := Lib.hid hown; have hp' := Lib.hid hp; have hD' := Lib.hid hD
    clear hr hm hl3 hok hD
    have hown2 : ∀ o1, (w.alloc o1).ownsMap Tryz.prog 3 (plainElem Tryz.prog 4) m L.length D := fun o1 => hown.alloc o1
    clear hown hp
    go_enter Tryz.func46, Tryz.ntmps46
    go_wp2_with (first
      | (at_mapUpdate; refine wpList_mapUpdate_own _ rfl _ _ _ 86 rfl 3 4 keyed_int Tryz.underlying86 _ m L.length _ rfl (hown2 _) (by unfold maxLen; omega) _ _ _ rfl rfl hkey _ [] (plainElem_bool Tryz.underlying4 true) ?_; intro w1 hown1 hgrow1)
      | go_in)
    refine bodyPost_end (v := .tuple #[]) (by simp [results, Tryz.results46, go_sem]; done) rfl ⟨⟨_, rfl⟩, ?_, ?_⟩
    · refine RInv.put (x := .mk 3 n s l) hD'.out ?_ rfl _ hown1 (gcell hgrow1 (((Ext.refl w).alloc _).at hp'.out) hpb)
      obtain ⟨es, h, -⟩ := hown'.out.keysOf
      exact ⟨es, h⟩
    · exact (qbm ((Ext.refl w).alloc _) _).trans hgrow1
  · have hI2 := Lib.hid (RInv.same (x := .mk o n s l) (show RInv m pb L w from ⟨⟨D, hown, hD⟩, hp⟩) ho)
    have hob : (o == 3) = false := by simp [ho]
    clear hr hm hl3 hok hown hD hp
    go_enter Tryz.func46, Tryz.ntmps46
    go_wp2_with fail
    refine bodyPost_end (v := .tuple #[]) (by simp [results, Tryz.results46, go_sem]; done) rfl ⟨⟨_, rfl⟩, hI2.out.alloc _, qbm ((Ext.refl w).alloc _) _⟩
end Go.Proofs.YtnkimlkoijfcpaaGreatDoor
