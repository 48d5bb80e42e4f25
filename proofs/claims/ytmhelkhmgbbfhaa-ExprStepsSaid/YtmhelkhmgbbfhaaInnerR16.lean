/- Walk: the type of an expression, as the reference finds it. -/
import Derived.Test.YtmhelkhmgbbfhaaInnerTail16
import Derived.Deep.Cut
namespace Go.Proofs.Ytmhelkhmgbbfhaa
open Go.RowKit Go.Lib

theorem tys_cons (F : List Fn) (c p : List Int) (e : Ex) (l : List Ex) : tys F c p (e :: l) = (match ty F c p e with | some t => (tys F c p l).map (t :: ·) | none => none) := by
  rw [tys]; cases ty F c p e <;> simp
  cases tys F c p l <;> rfl

/-- what has been collected before place k, and what is to come -/
def TysAt (F : List Fn) (c p : List Int) (l : List Ex) (ts : List Int) (k : Nat) : Prop := tys F c p l = (tys F c p (l.drop k)).map (ts ++ ·)
theorem TysAt.start (F : List Fn) (c p : List Int) (l : List Ex) : TysAt F c p l [] 0 := by simp [TysAt]
theorem TysAt.next {F : List Fn} {c p : List Int} {l : List Ex} {ts : List Int} {k : Nat} (h : TysAt F c p l ts k) (hk : k < l.length) {t : Int} (ht : ty F c p l[k] = some t) : TysAt F c p l (ts ++ [t]) (k + 1) := by
  unfold TysAt at *
  rw [h, List.drop_eq_getElem_cons hk, tys_cons, ht]
  cases tys F c p (l.drop (k + 1)) <;> simp
theorem TysAt.none {F : List Fn} {c p : List Int} {l : List Ex} {ts : List Int} {k : Nat} (h : TysAt F c p l ts k) (hk : k < l.length) (ht : ty F c p l[k] = .none) : tys F c p l = .none := by
  unfold TysAt at h
  rw [h, List.drop_eq_getElem_cons hk, tys_cons, ht]; rfl
theorem TysAt.done {F : List Fn} {c p : List Int} {l : List Ex} {ts : List Int} (h : TysAt F c p l ts l.length) : tys F c p l = some ts := by
  unfold TysAt at h
  rw [h]; simp [tys]

def InnerEnd (F : List Fn) (c p : List Int) (o m : Int) (s : ByteArray) (l : List Ex) (bx : Nat) (vF vc vp vts : Value) (w w' : World) : Prop :=
  ∃ ts, InnerAt F c p o m s ts bx vF vc vp vts w' ∧ ty F c p (.mk o m s l) = tailT F c p o m s ts ∧ Ext w w'

set_option maxRecDepth 100000 in
set_option maxHeartbeats 4000000 in
theorem inner_any (F : List Fn) (c p : List Int) (e : Ex) : ∀ (S S1 S2 S3 : Nat → Prop) (vF vc vp : Value) (cs : List Value) (w : World), Rd w S (.sl (F.map Fn.d)) [vF] → Rd w S1 (.sl (c.map D.int)) [vc] → Rd w S2 (.sl (p.map D.int)) [vp] → Rd w S3 e.d cs → parts e ≤ 1000000 →
    Calls Try.prog 90 #[vF, vc, vp, .agg cs.toArray] w fun r w' => Answer (ty F c p e) r ∧ Ext w w' := by
  induction e using Ex.ind with | h o m s l ih => ?_
  intro S S1 S2 S3 vF vc vp cs w hF hc hp hr hbd
  obtain ⟨A, cap, b, off, rfl, hl1, hl2, hl3, hm⟩ := Ex.open hr
  simp only [Ex.args, Ex.op, Ex.n, Ex.s] at *
  have hll : l.length ≤ 1000000 := by rw [parts] at hbd; have := partsL_len l; omega
  have hF' := Lib.hid hF; have hc' := Lib.hid hc; have hp' := Lib.hid hp; have hl3' := Lib.hid hl3; have hm' := Lib.hid hm
  have H := Lib.hid (show ty F c p (.mk o m s l) = match tys F c p l with | some ts => tailT F c p o m s ts | none => none by rw [ty]; cases tys F c p l <;> rfl)
  clear hF hc hp hr hl3 hm
  go_enter Try.func90, Try.ntmps90
  go_wp2_with fail
  rename_i K9 hK9
  have hK8 : ∀ (u3 u4 u5 u6 u8 u9 u11 u12 u13 u14 u15 u16 u17 u18 u19 u20 u21 u22 u23 u24 u25 u26 u27 u28 u29 u30 u31 u32 u33 u34 u35 u36 u37 u38 u39 u40 u41 u42 u43 u44 u45 u46 u47 u48 u49 u50 u51 u52 u53 u54 u55 u56 u57 u58 u59 u60 u61 u62 u63 u64 u65 u66 u67 u68 u69 u70 u71 u72 u73 u74 u75 u76 u77 u78 u79 u80 u81 u82 u83 u84 u85 u86 u87 u88 u89 u90 u91 u92 u93 u94 u95 u96 u97 u98 u99 u100 u101 u102 u103 u104 u105 u106 u107 u108 u109 u110 u111 u112 u113 u114 u115 u116 u117 u118 u119 u120 u121 u122 u123 u124 u125 u126 u127 u128 u129 u130 u131 u132 u133 u134 u135 u136 u137 u138 u139 u140 u141 u142 u143 u144 u145 u146 u147 u148 u149 u150 u151 u152 u153 u154 u155 u156 u157 u158 u159 u160 u161 u162 u163 u164 u165 u166 u167 u168 u169 u170 u171 u172 u173 u174 u175 u176 u177 u178 u179 u180 u181 u182 u183 u184 u185 u186 u187 u188 u189 u190 u191 u192 : Value) (vts : Value) (w' : World), InnerEnd F c p o m s l w.heap.size vF vc vp vts w w' → K9 ⟨#[vF, vc, vp, u3, u4, u5, u6, .pointer (some ⟨w.heap.size, 0, none⟩), u8, u9, vts, u11, u12, u13, u14, u15, u16, u17, u18, u19, u20, u21, u22, u23, u24, u25, u26, u27, u28, u29, u30, u31, u32, u33, u34, u35, u36, u37, u38, u39, u40, u41, u42, u43, u44, u45, u46, u47, u48, u49, u50, u51, u52, u53, u54, u55, u56, u57, u58, u59, u60, u61, u62, u63, u64, u65, u66, u67, u68, u69, u70, u71, u72, u73, u74, u75, u76, u77, u78, u79, u80, u81, u82, u83, u84, u85, u86, u87, u88, u89, u90, u91, u92, u93, u94, u95, u96, u97, u98, u99, u100, u101, u102, u103, u104, u105, u106, u107, u108, u109, u110, u111, u112, u113, u114, u115, u116, u117, u118, u119, u120, u121, u122, u123, u124, u125, u126, u127, u128, u129, u130, u131, u132, u133, u134, u135, u136, u137, u138, u139, u140, u141, u142, u143, u144, u145, u146, u147, u148, u149, u150, u151, u152, u153, u154, u155, u156, u157, u158, u159, u160, u161, u162, u163, u164, u165, u166, u167, u168, u169, u170, u171, u172, u173, u174, u175, u176, u177, u178, u179, u180, u181, u182, u183, u184, u185, u186, u187, u188, u189, u190, u191, u192], []⟩ w' :=
    fun u3 u4 u5 u6 u8 u9 u11 u12 u13 u14 u15 u16 u17 u18 u19 u20 u21 u22 u23 u24 u25 u26 u27 u28 u29 u30 u31 u32 u33 u34 u35 u36 u37 u38 u39 u40 u41 u42 u43 u44 u45 u46 u47 u48 u49 u50 u51 u52 u53 u54 u55 u56 u57 u58 u59 u60 u61 u62 u63 u64 u65 u66 u67 u68 u69 u70 u71 u72 u73 u74 u75 u76 u77 u78 u79 u80 u81 u82 u83 u84 u85 u86 u87 u88 u89 u90 u91 u92 u93 u94 u95 u96 u97 u98 u99 u100 u101 u102 u103 u104 u105 u106 u107 u108 u109 u110 u111 u112 u113 u114 u115 u116 u117 u118 u119 u120 u121 u122 u123 u124 u125 u126 u127 u128 u129 u130 u131 u132 u133 u134 u135 u136 u137 u138 u139 u140 u141 u142 u143 u144 u145 u146 u147 u148 u149 u150 u151 u152 u153 u154 u155 u156 u157 u158 u159 u160 u161 u162 u163 u164 u165 u166 u167 u168 u169 u170 u171 u172 u173 u174 u175 u176 u177 u178 u179 u180 u181 u182 u183 u184 u185 u186 u187 u188 u189 u190 u191 u192 vts w' ⟨ts, h1, h2, h3⟩ => hK9 _ _ (inner_tail F c p o m s ts w.heap.size vF vc vp vts w' h1 (fun r w'' => Answer (ty F c p (.mk o m s l)) r ∧ Ext w w'') (fun r w'' h4 h5 => ⟨by rw [h2]; exact h4, h3.trans h5⟩) u3 u4 u5 u6 u8 u9 u11 u12 u13 u14 u15 u16 u17 u18 u19 u20 u21 u22 u23 u24 u25 u26 u27 u28 u29 u30 u31 u32 u33 u34 u35 u36 u37 u38 u39 u40 u41 u42 u43 u44 u45 u46 u47 u48 u49 u50 u51 u52 u53 u54 u55 u56 u57 u58 u59 u60 u61 u62 u63 u64 u65 u66 u67 u68 u69 u70 u71 u72 u73 u74 u75 u76 u77 u78 u79 u80 u81 u82 u83 u84 u85 u86 u87 u88 u89 u90 u91 u92 u93 u94 u95 u96 u97 u98 u99 u100 u101 u102 u103 u104 u105 u106 u107 u108 u109 u110 u111 u112 u113 u114 u115 u116 u117 u118 u119 u120 u121 u122 u123 u124 u125 u126 u127 u128 u129 u130 u131 u132 u133 u134 u135 u136 u137 u138 u139 u140 u141 u142 u143 u144 u145 u146 u147 u148 u149 u150 u151 u152 u153 u154 u155 u156 u157 u158 u159 u160 u161 u162 u163 u164 u165 u166 u167 u168 u169 u170 u171 u172 u173 u174 u175 u176 u177 u178 u179 u180 u181 u182 u183 u184 u185 u186 u187 u188 u189 u190 u191 u192)
  clear hK9
  go_loopw [10, 11] (fun x i wr => ∃ (k : Nat) (ts : List Int), k ≤ l.length ∧ i = .int .i64 k ∧ ts.length = k ∧ wr.ownsRow (w.heap.size + 1) 3 1 x k (ts.map (Value.int .i64)) ∧ Hid (TysAt F c p l ts k) ∧ Ext (w.alloc (.cells #[.int .i64 o, .int .i64 m, .string s, .slice A l.length cap] 25)) wr) (fun _ i _ => l.length - (intOf i).toNat)
  case atStart => exact ⟨0, [], by omega, rfl, rfl, World.ownsRow_nil _ _ _ _, Lib.hid (TysAt.start F c p l), Ext.refl _⟩
  case round =>
    obtain ⟨k, ts, hk, rfl, htk, hown, HH, hb⟩ := hrel
    have htk' := Lib.hid htk; clear htk
    have e0 : wr.cell? ⟨w.heap.size, 0, none⟩ = some (.int .i64 o) := hb.at (by go_simp)
    have e1 : wr.cell? ⟨w.heap.size, 1, none⟩ = some (.int .i64 m) := hb.at (by go_simp)
    have e2 : wr.cell? ⟨w.heap.size, 2, none⟩ = some (.string s) := hb.at (by go_simp)
    have e3 : wr.cell? ⟨w.heap.size, 3, none⟩ = some (.slice A l.length cap) := hb.at (by go_simp)
    have hw : Ext w wr := ((Ext.refl _).alloc _).trans hb
    by_cases hlt : k < l.length
    · obtain ⟨rfl, hSb⟩ := hl3'.out (by omega)
      obtain ⟨A1, cap1, b1, off1, c0, c1, c2, c3, hr', -⟩ := Ex.at (hm'.out.ext (fun _ => hSb) hw) hlt
      have hr2 := Lib.hid hr'
      have hSb' := Lib.hid hSb
      clear hr' hSb
      have hpb : parts l[k] ≤ 1000000 := by rw [parts] at hbd; have := partsL_mem l l[k] (List.getElem_mem hlt); omega
      go_wp2_with fail
      refine (ih l[k] (List.getElem_mem hlt) S S1 S2 S3 vF vc vp _ _ (hF'.out.ext hw) (hc'.out.ext hw) (hp'.out.ext hw) hr2.out hpb).mono ?_
      rintro r w1 ⟨⟨t, ok, rfl, hA⟩, he⟩
      have hA' := Lib.hid hA; clear hA
      have e0 := he.at e0
      have e1 := he.at e1
      have e2 := he.at e2
      have e3 := he.at e3
      cases ok with
      | false =>
        have H2 := Lib.hid (HH.out.none hlt hA'.out.symm)
        go_wp2_with fail
        go_ret2
        exact ⟨by rw [H.out, H2.out]; exact answer_none, hw.trans he⟩
      | true =>
        have H2 := Lib.hid (HH.out.next hlt hA'.out.symm)
        have hown1 : w1.ownsRow (w.heap.size + 1) 3 1 _ k (ts.map (Value.int .i64)) := own_ext hown he
        have hsz := (hb.trans he).size
        go_wp2_with (at_builtin; refine wp_append1 _ _ _ rfl _ _ _ rfl (w.heap.size + 1) 3 1 8 _ Try.underlying31 Try.info3 rfl (by decide) (by decide) _ _ _ rfl hown1 rfl rfl (by intro u hu; simp at hu; subst hu; rfl) (by omega) (by simpa using hsz) ?_; intro v' w2 hown2 hg2 hn2)
        go_roundw
        case rel => exact ⟨k + 1, ts ++ [t], by omega, by go_num, by rw [List.length_append, htk'.out]; rfl, by simpa using hown2, H2, (hb.trans he).grown hown1 (by simp) hg2⟩
        case measure => simp [intOf]; omega
    · have hkl : k = l.length := by omega
      subst hkl
      have H2 := Lib.hid (H.out.trans (by rw [HH.out.done]))
      clear H HH
      have hR := own_ints (S := Any) (by rw [htk'.out]; exact hown) (fun _ _ => trivial)
      have hat := Lib.hid (show InnerAt F c p o m s ts w.heap.size vF vc vp _ wr from ⟨e0, e1, e2, Rd.any (hF'.out.ext hw), Rd.any (hc'.out.ext hw), Rd.any (hp'.out.ext hw), hR, by rw [htk'.out]; omega⟩)
      clear hR hown e1 e2
      have hfin := Lib.hid (show InnerEnd F c p o m s l w.heap.size vF vc vp _ w wr from ⟨ts, hat.out, H2.out, hw⟩)
      clear hat H2
      go_wp2_with fail
      exact hfin.out
end Go.Proofs.Ytmhelkhmgbbfhaa
