/- Walk: (scope).of. -/
import Derived.Deep.Cut
import Derived.Test.YtnkimlkoijfcpaaDoorGd1
import Derived.Test.YtnkimlkoijfcpaaDoorGd2
import Derived.Test.YtnkimlkoijfcpaaDoorGd3
set_option linter.unusedSimpArgs false
set_option linter.unusedVariables false
namespace Go.Proofs.YtnkimlkoijfcpaaDoor
open Go.RowKit Go.Lib
def OfEnd (F : List Fn) (c p : List Int) (o m : Int) (s : ByteArray) (l : List Ex) (A : Option Addr) (cap : Nat) (bs bx : Nat) (vF vc vp vts : Value) (w w' : World) : Prop :=
  ∃ ts, OfAt F c p o m s l A cap ts bs bx vF vc vp vts w' ∧ ty F c p (.mk o m s l) = tailT F c p o m s ts ∧ Ext w w'
set_option maxRecDepth 100000 in
set_option maxHeartbeats 4000000 in
theorem of_any (F : List Fn) (c p : List Int) (e : Ex) : ∀ (S S1 S2 S3 : Nat → Prop) (vF vc vp : Value) (cs : List Value) (w : World), Rd w S (.sl (F.map Fn.d)) [vF] → Rd w S1 (.sl (c.map D.int)) [vc] → Rd w S2 (.sl (p.map D.int)) [vp] → Rd w S3 e.d cs → parts e ≤ 1000000 →
    Calls Tryd.prog 62 #[.agg #[vF, vc, vp], .agg cs.toArray] w fun r w' => qcm (ty F c p e) r ∧ Ext w w' := by
  induction e using Ex.ind with | h o m s l ih => ?_
  intro S S1 S2 S3 vF vc vp cs w hF hc hp hr hbd
  obtain ⟨A, cap, b, off, rfl, hl1, hl2, hl3, hm⟩ := Ex.open hr
  simp only [Ex.args, Ex.op, Ex.n, Ex.s] at *
  have hll : l.length ≤ 1000000 := by rw [parts] at hbd; have := qca l; omega
  obtain ⟨AF, capF, bF, offF, rfl, F1, F2, F3, F4⟩ := Rd.sl_open hF
  simp only [List.length_map] at F1 F3
  have hF' := Lib.hid hF; have hc' := Lib.hid hc; have hp' := Lib.hid hp; have hl3' := Lib.hid hl3; have hm' := Lib.hid hm; have hr0 := Lib.hid hr
  have F3' := Lib.hid F3; have F4' := Lib.hid F4
  have H := Lib.hid (show ty F c p (.mk o m s l) = match tys F c p l with | some ts => tailT F c p o m s ts | none => none by rw [ty]; cases tys F c p l <;> rfl)
  simp only [List.length_map] at *
  clear hF hc hp hr hl3 hm F3 F4
  go_enter Tryd.func62, Tryd.ntmps62
  go_wp2_with fail
  rename_i K9 hK9
  have hK8 : ∀ (u4 u5 u7 u8 u9 u10 u11 u12 u13 u14 u15 u16 u17 u18 u19 u20 u21 u22 u23 u24 u25 u26 u27 u28 u29 u30 u31 u32 u33 u34 u35 u36 u37 u38 u39 u40 u41 u42 u43 u44 u45 u46 u47 u48 u49 u50 u51 u52 u53 u54 u55 u56 u57 u58 u59 u60 u61 u62 u63 u64 u65 u66 u67 u68 u69 u70 u71 u72 u73 u74 u75 u76 u77 u78 u79 u80 u81 u82 u83 u84 u85 u86 u87 u88 u89 : Value) (vts : Value) (w' : World), OfEnd F c p o m s l A cap w.heap.size (w.heap.size + 1) (.slice AF F.length capF) vc vp vts w w' → K9 ⟨#[.agg #[.slice AF F.length capF, vc, vp], .agg #[.int .i64 o, .int .i64 m, .string s, .slice A l.length cap], .pointer (some ⟨w.heap.size, 0, none⟩), .pointer (some ⟨w.heap.size + 1, 0, none⟩), u4, u5, vts, u7, u8, u9, u10, u11, u12, u13, u14, u15, u16, u17, u18, u19, u20, u21, u22, u23, u24, u25, u26, u27, u28, u29, u30, u31, u32, u33, u34, u35, u36, u37, u38, u39, u40, u41, u42, u43, u44, u45, u46, u47, u48, u49, u50, u51, u52, u53, u54, u55, u56, u57, u58, u59, u60, u61, u62, u63, u64, u65, u66, u67, u68, u69, u70, u71, u72, u73, u74, u75, u76, u77, u78, u79, u80, u81, u82, u83, u84, u85, u86, u87, u88, u89], []⟩ w' :=
    fun u4 u5 u7 u8 u9 u10 u11 u12 u13 u14 u15 u16 u17 u18 u19 u20 u21 u22 u23 u24 u25 u26 u27 u28 u29 u30 u31 u32 u33 u34 u35 u36 u37 u38 u39 u40 u41 u42 u43 u44 u45 u46 u47 u48 u49 u50 u51 u52 u53 u54 u55 u56 u57 u58 u59 u60 u61 u62 u63 u64 u65 u66 u67 u68 u69 u70 u71 u72 u73 u74 u75 u76 u77 u78 u79 u80 u81 u82 u83 u84 u85 u86 u87 u88 u89 vts w' ⟨ts, h1, h2, h3⟩ => hK9 _ _ (of_tail F c p o m s l A cap ts w.heap.size (w.heap.size + 1) (.slice AF F.length capF) vc vp vts w' h1 (fun r w'' => qcm (ty F c p (.mk o m s l)) r ∧ Ext w w'') (fun r w'' h4 h5 => ⟨by rw [h2]; exact h4, h3.trans h5⟩) u4 u5 u7 u8 u9 u10 u11 u12 u13 u14 u15 u16 u17 u18 u19 u20 u21 u22 u23 u24 u25 u26 u27 u28 u29 u30 u31 u32 u33 u34 u35 u36 u37 u38 u39 u40 u41 u42 u43 u44 u45 u46 u47 u48 u49 u50 u51 u52 u53 u54 u55 u56 u57 u58 u59 u60 u61 u62 u63 u64 u65 u66 u67 u68 u69 u70 u71 u72 u73 u74 u75 u76 u77 u78 u79 u80 u81 u82 u83 u84 u85 u86 u87 u88 u89)
  clear hK9
  go_loopw [6, 14] (fun x i wr => ∃ (k : Nat) (ts : List Int), k ≤ l.length ∧ i = .int .i64 k ∧ ts.length = k ∧ wr.ownsRow (w.heap.size + 2) 3 1 x k (ts.map (Value.int .i64)) ∧ Hid (TysAt F c p l ts k) ∧ Ext ((w.alloc (.cells #[.slice AF F.length capF, vc, vp] 72)).alloc (.cells #[.int .i64 o, .int .i64 m, .string s, .slice A l.length cap] 25)) wr) (fun _ i _ => l.length - (RowKit.intOf i).toNat)
  case atStart => exact ⟨0, [], by omega, rfl, rfl, World.ownsRow_nil _ _ _ _, Lib.hid (TysAt.start F c p l), Ext.refl _⟩
  case round =>
    obtain ⟨k, ts, hk, rfl, htk, hown, HH, hb⟩ := hrel
    have htk' := Lib.hid htk; clear htk
    have s0 : wr.cell? ⟨w.heap.size, 0, none⟩ = some (.slice AF F.length capF) := hb.at (by go_simp)
    have s1 : wr.cell? ⟨w.heap.size, 1, none⟩ = some vc := hb.at (by go_simp)
    have s2 : wr.cell? ⟨w.heap.size, 2, none⟩ = some vp := hb.at (by go_simp)
    have e0 : wr.cell? ⟨w.heap.size + 1, 0, none⟩ = some (.int .i64 o) := hb.at (by go_simp)
    have e1 : wr.cell? ⟨w.heap.size + 1, 1, none⟩ = some (.int .i64 m) := hb.at (by go_simp)
    have e2 : wr.cell? ⟨w.heap.size + 1, 2, none⟩ = some (.string s) := hb.at (by go_simp)
    have e3 : wr.cell? ⟨w.heap.size + 1, 3, none⟩ = some (.slice A l.length cap) := hb.at (by go_simp)
    have hw : Ext w wr := (((Ext.refl _).alloc _).alloc _).trans hb
    by_cases hlt : k < l.length
    · obtain ⟨rfl, hSb⟩ := hl3'.out (by omega)
      obtain ⟨A1, cap1, b1, off1, c0, c1, c2, c3, hr', -⟩ := Ex.at (hm'.out.ext (fun _ => hSb) hw) hlt
      have hr2 := Lib.hid hr'
      have hSb' := Lib.hid hSb
      clear hr' hSb
      have hpb : parts l[k] ≤ 1000000 := by rw [parts] at hbd; have := qbj l l[k] (List.getElem_mem hlt); omega
      have s0' : ∀ o1, (wr.alloc o1).cell? ⟨w.heap.size, 0, none⟩ = some (.slice AF F.length capF) := fun o1 => ((Ext.refl _).alloc o1).at s0
      have s1' : ∀ o1, (wr.alloc o1).cell? ⟨w.heap.size, 1, none⟩ = some vc := fun o1 => ((Ext.refl _).alloc o1).at s1
      have s2' : ∀ o1, (wr.alloc o1).cell? ⟨w.heap.size, 2, none⟩ = some vp := fun o1 => ((Ext.refl _).alloc o1).at s2
      go_wp2_with fail
      refine (ih l[k] (List.getElem_mem hlt) S S1 S2 S3 _ vc vp _ _ (hF'.out.ext (by repeat' first | exact Ext.refl _ | assumption | apply Ext.alloc | apply Ext.drew | apply Ext.drewN | (refine Ext.trans ?_ (by assumption)))) (hc'.out.ext (by repeat' first | exact Ext.refl _ | assumption | apply Ext.alloc | apply Ext.drew | apply Ext.drewN | (refine Ext.trans ?_ (by assumption)))) (hp'.out.ext (by repeat' first | exact Ext.refl _ | assumption | apply Ext.alloc | apply Ext.drew | apply Ext.drewN | (refine Ext.trans ?_ (by assumption)))) (hr2.out.ext (by repeat' first | exact Ext.refl _ | assumption | apply Ext.alloc | apply Ext.drew | apply Ext.drewN | (refine Ext.trans ?_ (by assumption)))) hpb).mono ?_
      rintro r w1 ⟨⟨t, ok, rfl, hA⟩, he⟩
      have hA' := Lib.hid hA; clear hA
      cases ok with
      | false =>
        have H2 := Lib.hid (HH.out.none hlt hA'.out.symm)
        go_wp2_with fail
        go_ret2
        exact ⟨by rw [H.out, H2.out]; exact qbi, (by repeat' first | exact Ext.refl _ | assumption | apply Ext.alloc | apply Ext.drew | apply Ext.drewN | (refine Ext.trans ?_ (by assumption)))⟩
      | true =>
        have H2 := Lib.hid (HH.out.next hlt hA'.out.symm)
        have he2 : Ext wr w1 := ((Ext.refl _).alloc _).trans he
        have hown1 : w1.ownsRow (w.heap.size + 2) 3 1 _ k (ts.map (Value.int .i64)) := own_ext hown he2
        have hsz := (hb.trans he2).size
        go_wp2_with (at_builtin; refine wp_append1 _ _ _ rfl _ _ _ rfl (w.heap.size + 2) 3 1 8 _ Tryd.underlying22 Tryd.info3 rfl (by decide) (by decide) _ _ _ rfl hown1 rfl rfl (by intro u hu; simp at hu; subst hu; rfl) (by omega) (by simpa using hsz) ?_; intro v' w2 hown2 hg2 hn2)
        go_roundw
        case rel => exact ⟨k + 1, ts ++ [t], by omega, by go_num, by rw [List.length_append, htk'.out]; rfl, by simpa using hown2, H2, (hb.trans he2).grown hown1 (by simp) hg2⟩
        case measure => simp [RowKit.intOf]; omega
    · have hkl : k = l.length := by omega
      subst hkl
      have H2 := Lib.hid (H.out.trans (by rw [HH.out.done]))
      clear H HH
      have hR := own_ints (S := Any) (by rw [htk'.out]; exact hown) (fun _ _ => trivial)
      have hfin := Lib.hid (show OfEnd F c p o m s l A cap w.heap.size (w.heap.size + 1) (.slice AF F.length capF) vc vp _ w wr from ⟨ts, ⟨s0, s1, s2, e0, e1, e2, e3, Rd.any (hF'.out.ext hw), Rd.any (hc'.out.ext hw), Rd.any (hp'.out.ext hw), hR, Rd.any (hr0.out.ext hw), hll⟩, H2.out, hw⟩)
      clear hR hown H2
      go_wp2_with fail
      exact hfin.out
end Go.Proofs.YtnkimlkoijfcpaaDoor

/- Walks: right functions and types, as the program finds them. -/
namespace Go.Proofs.YtnkimlkoijfcpaaDoor
open Go.RowKit Go.Lib
set_option maxRecDepth 10000 in
set_option maxHeartbeats 1000000 in
theorem typed_any (F : List Fn) (c p : List Int) (e : Ex) (S S1 S2 S3 : Nat → Prop) (vF vc vp : Value) (cs : List Value) (w : World) (hF : Rd w S (.sl (F.map Fn.d)) [vF]) (hc : Rd w S1 (.sl (c.map D.int)) [vc]) (hp : Rd w S2 (.sl (p.map D.int)) [vp]) (hr : Rd w S3 e.d cs) (hbd : parts e ≤ 1000000) :
    Calls Tryd.prog 29 #[.agg #[vF, vc, vp], .agg cs.toArray] w fun r w' => r = .returned (.tuple #[.int .i64 ((tyD F c p e).getD 0), .bool (tyD F c p e).isSome]) ∧ Ext w w' := by
  obtain ⟨A, cap, b, off, rfl, hl1, hl2, hl3, hm⟩ := Ex.open hr
  have hF' := Lib.hid hF; have hc' := Lib.hid hc; have hp' := Lib.hid hp; have hr' := Lib.hid hr
  clear hF hc hp hr hm hl3
  have hlv := levels_bd hbd
  by_cases h12 : levels e > 12
  · have H := Lib.hid (show tyD F c p e = none by unfold tyD; rw [if_pos h12])
    go_enter Tryd.func29, Tryd.ntmps29
    go_wp2_with fail
    refine (levels_any e S3 _ _ (hr'.out.ext (by repeat' first | exact Ext.refl _ | assumption | apply Ext.alloc | apply Ext.drew | apply Ext.drewN | (refine Ext.trans ?_ (by assumption)))) hlv).mono ?_
    rintro r w1 ⟨rfl, he⟩
    go_wp2_with fail
    go_ret2
    exact ⟨by rw [H.out]; rfl, (by repeat' first | exact Ext.refl _ | assumption | apply Ext.alloc | apply Ext.drew | apply Ext.drewN | (refine Ext.trans ?_ (by assumption)))⟩
  · have H := Lib.hid (show tyD F c p e = ty F c p e by unfold tyD; rw [if_neg h12])
    go_enter Tryd.func29, Tryd.ntmps29
    go_wp2_with fail
    refine (levels_any e S3 _ _ (hr'.out.ext (by repeat' first | exact Ext.refl _ | assumption | apply Ext.alloc | apply Ext.drew | apply Ext.drewN | (refine Ext.trans ?_ (by assumption)))) hlv).mono ?_
    rintro r w1 ⟨rfl, he⟩
    have hcs := he.cells
    go_wp2_with fail
    refine (of_any F c p e S S1 S2 S3 vF vc vp _ _ (hF'.out.ext (by repeat' first | exact Ext.refl _ | assumption | apply Ext.alloc | apply Ext.drew | apply Ext.drewN | (refine Ext.trans ?_ (by assumption)))) (hc'.out.ext (by repeat' first | exact Ext.refl _ | assumption | apply Ext.alloc | apply Ext.drew | apply Ext.drewN | (refine Ext.trans ?_ (by assumption)))) (hp'.out.ext (by repeat' first | exact Ext.refl _ | assumption | apply Ext.alloc | apply Ext.drew | apply Ext.drewN | (refine Ext.trans ?_ (by assumption)))) (hr'.out.ext (by repeat' first | exact Ext.refl _ | assumption | apply Ext.alloc | apply Ext.drew | apply Ext.drewN | (refine Ext.trans ?_ (by assumption)))) hbd).mono ?_
    rintro r w2 ⟨⟨t, ok, rfl, hA⟩, he2⟩
    have hA' := Lib.hid hA; clear hA hcs
    cases ok
    all_goals
      go_wp2_with fail
      go_ret2
      exact ⟨by rw [H.out, ← hA'.out]; rfl, (by repeat' first | exact Ext.refl _ | assumption | apply Ext.alloc | apply Ext.drew | apply Ext.drewN | (refine Ext.trans ?_ (by assumption)))⟩
set_option maxRecDepth 10000 in
set_option maxHeartbeats 2000000 in
theorem right_any (F : List Fn) (S : Nat → Prop) (v : Value) (w : World) (hr : Rd w S (.sl (F.map Fn.d)) [v]) (hp : ∀ f ∈ F, parts f.body ≤ 1000000) :
    Calls Tryd.prog 28 #[v] w fun r w' => r = .returned (.bool (qei F)) ∧ Ext w w' := by
  obtain ⟨A, cap, b, off, rfl, hl1, hl2, hl3, hm⟩ := Rd.sl_open hr
  simp only [List.length_map] at *
  have hp' := Lib.hid hp; have hl3' := Lib.hid hl3; have hm' := Lib.hid hm
  clear hp hr hl3 hm
  by_cases h20 : (F.length : Int) ≤ 20
  case neg =>
    have H := Lib.hid (show qei F = false by unfold qei; rw [decide_eq_false h20]; rfl)
    go_enter Tryd.func28, Tryd.ntmps28
    go_wp2_with fail
    go_ret
    exact ⟨qck (by rw [H.out]), Ext.refl _⟩
  go_enter Tryd.func28, Tryd.ntmps28
  go_wp2_with fail
  go_loopw [13] (fun i wr => ∃ (k : Nat), k ≤ F.length ∧ i = .int .i64 k ∧ Hid (∀ j, j < k → okF F j = true) ∧ Ext w wr) (fun i _ => F.length - (RowKit.intOf i).toNat)
  case atStart => exact ⟨0, by omega, rfl, Lib.hid (fun j h => absurd h (by omega)), Ext.refl _⟩
  case round =>
    obtain ⟨k, hk, rfl, HH, hw⟩ := hrel
    by_cases hlt : k < F.length
    case neg =>
      have hkl : k = F.length := by omega
      subst hkl
      have H := Lib.hid (show qei F = true by rw [rightF_end HH.out, decide_eq_true h20])
      go_wp2_with fail
      go_ret
      exact ⟨qck (by rw [H.out]), hw⟩
    obtain ⟨rfl, hSb⟩ := hl3'.out (by omega)
    obtain ⟨A1, cap1, b1, off1, A2, cap2, b2, off2, c0, c1, c2, c3, c4, c5, c6, hr', q1, q2, q3, q4, q5, q6, q7, q8⟩ := Fn.at (hm'.out.ext (fun _ => hSb) hw) hlt
    have hfun := Lib.hid (Rd.cut (k := k) (by simpa using hk) (by simpa using hl1) hl2 hSb (hm'.out.ext (fun _ => hSb) hw))
    have hpar := Lib.hid (Rd.sl_mk (w := wr) (S := S) (n := F[k].params.length) (l := F[k].params.map D.int) (by simp) (by simpa using q1) q2 (by simpa using q3) q4)
    have hbod := Lib.hid (Ex.mk_rd q5 q6 q7 q8)
    have hpb := hp'.out F[k] (List.getElem_mem hlt)
    have hok := Lib.hid (okF_at hlt)
    have hSb' := Lib.hid hSb
    clear hr' q3 q4 q5 q7 q8 hSb
    by_cases h6 : (F[k].params.length : Int) ≤ 6
    case neg =>
      have H := Lib.hid (qds hlt (by rw [hok.out, decide_eq_false h6, Bool.and_false]))
      go_wp2_with fail
      go_ret
      exact ⟨qck (by rw [H.out]), (by repeat' first | exact Ext.refl _ | assumption | apply Ext.alloc | apply Ext.drew | apply Ext.drewN | (refine Ext.trans ?_ (by assumption)))⟩
    have hany : F[k].params.any (fun n => !kindB n) = !F[k].params.all kindB := by rw [List.any_eq_not_all_not]; simp
    have hcf := fun (w' : World) (hw' : Ext wr w') => containsFunc_any F[k].params (fun n => !kindB n) 59 (fun a w => by kernel_rfl) #[] S _ w' (hpar.out.ext hw') (fun x w'' _ => wrongKind_any x w'')
    rw [hany] at hcf
    cases hall : F[k].params.all kindB with
    | false =>
      rw [hall] at hcf
      have hcf' := Lib.hid hcf
      have H := Lib.hid (qds hlt (by rw [hok.out, hall]; rfl))
      clear hcf hany hall
      go_wp2_with fail
      refine (hcf'.out _ (by repeat' first | exact Ext.refl _ | assumption | apply Ext.alloc | apply Ext.drew | apply Ext.drewN | (refine Ext.trans ?_ (by assumption)))).mono ?_
      rintro r w1 ⟨rfl, he⟩
      go_wp2_with fail
      go_ret
      exact ⟨qck (by rw [H.out]), (by repeat' first | exact Ext.refl _ | assumption | apply Ext.alloc | apply Ext.drew | apply Ext.drewN | (refine Ext.trans ?_ (by assumption)))⟩
    | true =>
      rw [hall] at hcf
      have hcf' := Lib.hid hcf
      have hall' := Lib.hid hall
      clear hcf hany hall
      have hcall := fun (x : World) (hx : Ext wr x) => typed_any (F.take k) [] F[k].params F[k].body S Any S S _ (.slice none 0 0) _ _ x (by simpa [List.map_take] using hfun.out.ext hx) (Rd.nil none (by omega)) (hpar.out.ext hx) (hbod.out.ext hx) hpb
      go_wp2_with fail
      refine (hcf'.out _ (by repeat' first | exact Ext.refl _ | assumption | apply Ext.alloc | apply Ext.drew | apply Ext.drewN | (refine Ext.trans ?_ (by assumption)))).mono ?_
      rintro r w1 ⟨rfl, he⟩
      have he9 : Ext wr w1 := ((Ext.refl _).alloc _).trans he
      have f1 : w1.cell? ⟨wr.heap.size, 1, none⟩ = some (.slice A1 F[k].params.length cap1) := he.at (by go_simp)
      have f2 : w1.cell? ⟨wr.heap.size, 2, none⟩ = some (.int .i64 F[k].res) := he.at (by go_simp)
      have f3 : w1.cell? ⟨wr.heap.size, 3, none⟩ = some (.int .i64 F[k].body.op) := he.at (by go_simp)
      have f4 : w1.cell? ⟨wr.heap.size, 4, none⟩ = some (.int .i64 F[k].body.n) := he.at (by go_simp)
      have f5 : w1.cell? ⟨wr.heap.size, 5, none⟩ = some (.string F[k].body.s) := he.at (by go_simp)
      have f6 : w1.cell? ⟨wr.heap.size, 6, none⟩ = some (.slice A2 F[k].body.args.length cap2) := he.at (by go_simp)
      have gf1 := ExtW.at f1
      have gf2 := ExtW.at f2
      have gf3 := ExtW.at f3
      have gf4 := ExtW.at f4
      have gf5 := ExtW.at f5
      have gf6 := ExtW.at f6
      cases hT : tyD (F.take k) [] F[k].params F[k].body with
      | none =>
        rw [hT] at hcall
        have hcall' := Lib.hid (fun x : ExtW w1 => hcall x.val (he9.trans x.ext))
        have H := Lib.hid (qds hlt (by rw [hok.out, hT]; simp))
        clear hcall hT
        go_wp2_with fail
        refine qbe (by kernel_rfl) (by kernel_rfl) ?_
        repeat (go_big_quiet_step ((go_at_call 29; exact Calls.ext_of (hcall'.out _))))
        refine wpQuiet_nil ?_
        intro w2 he2
        go_wp2_with fail
        go_ret
        exact ⟨qck (by rw [H.out]), (by repeat' first | exact Ext.refl _ | assumption | apply Ext.alloc | apply Ext.drew | apply Ext.drewN | (refine Ext.trans ?_ (by assumption)))⟩
      | some t =>
        rw [hT] at hcall
        have hcall' := Lib.hid (fun x : ExtW w1 => hcall x.val (he9.trans x.ext))
        by_cases ht : t = F[k].res
        · have H := Lib.hid (show okF F k = true by rw [hok.out, hT, hall'.out, ht, decide_eq_true h6]; simp)
          subst ht
          clear hcall hT
          go_wp2_with fail
          refine qbe (by kernel_rfl) (by kernel_rfl) ?_
          repeat (go_big_quiet_step ((go_at_call 29; exact Calls.ext_of (hcall'.out _))))
          refine wpQuiet_nil ?_
          intro w2 he2
          have f1 := he2.at f1
          have f2 := he2.at f2
          go_wp2_with fail
          go_roundw
          case rel => exact ⟨k + 1, by omega, by go_num, Lib.hid (fun i h => by rcases Nat.lt_succ_iff_lt_or_eq.1 h with h | rfl; exact HH.out i h; exact H.out), (hw.trans he9).trans he2⟩
          case measure => simp [RowKit.intOf]; omega
        · have H := Lib.hid (qds hlt (by rw [hok.out, hT]; simp [ht]))
          have ht' : (t != F[k].res) = true := by simp [ht]
          clear hcall hT
          go_wp2_with fail
          refine qbe (by kernel_rfl) (by kernel_rfl) ?_
          repeat (go_big_quiet_step ((go_at_call 29; exact Calls.ext_of (hcall'.out _))))
          refine wpQuiet_nil ?_
          intro w2 he2
          have f1 := he2.at f1
          have f2 := he2.at f2
          go_wp2_with fail
          go_ret
          exact ⟨qck (by rw [H.out]), (by repeat' first | exact Ext.refl _ | assumption | apply Ext.alloc | apply Ext.drew | apply Ext.drewN | (refine Ext.trans ?_ (by assumption)))⟩
set_option maxHeartbeats 1000000 in
theorem type_any (F : List Fn) (c p : List Int) (e : Ex) (S S1 S2 S3 : Nat → Prop) (vF vc vp : Value) (cs : List Value) (w : World) (hF : Rd w S (.sl (F.map Fn.d)) [vF]) (hc : Rd w S1 (.sl (c.map D.int)) [vc]) (hp : Rd w S2 (.sl (p.map D.int)) [vp]) (hr : Rd w S3 e.d cs) (hbd : parts e ≤ 1000000) (hpF : ∀ f ∈ F, parts f.body ≤ 1000000) :
    Calls Tryd.prog 16 #[vF, vc, vp, .agg cs.toArray] w fun r w' => r = .returned (.tuple #[.int .i64 ((typeP F c p e).getD 0), .bool (typeP F c p e).isSome]) ∧ Ext w w' := by
  obtain ⟨A, cap, b, off, rfl, hl1, hl2, hl3, hm⟩ := Ex.open hr
  obtain ⟨x1, x2, x3, x4, rfl, -⟩ := Rd.sl_open hF
  obtain ⟨y1, y2, y3, y4, rfl, -⟩ := Rd.sl_open hc
  obtain ⟨z1, z2, z3, z4, rfl, -⟩ := Rd.sl_open hp
  simp only [List.length_map] at *
  have hF' := Lib.hid hF; have hc' := Lib.hid hc; have hp' := Lib.hid hp; have hr' := Lib.hid hr; have hpF' := Lib.hid hpF
  clear hF hc hp hr hm hl3 hpF
  cases hR : qei F with
  | false =>
    have H := Lib.hid (show typeP F c p e = none by unfold typeP; rw [hR]; rfl)
    have hcall := right_any F S (.slice x1 F.length x2)
    rw [hR] at hcall
    have hcall' := Lib.hid hcall
    clear hcall hR
    go_enter Tryd.func16, Tryd.ntmps16
    go_wp2_with fail
    refine (hcall'.out _ (hF'.out.ext (by repeat' first | exact Ext.refl _ | assumption | apply Ext.alloc | apply Ext.drew | apply Ext.drewN | (refine Ext.trans ?_ (by assumption)))) hpF'.out).mono ?_
    rintro r w1 ⟨rfl, he⟩
    go_wp2_with fail
    go_ret2
    exact ⟨by rw [H.out]; rfl, (by repeat' first | exact Ext.refl _ | assumption | apply Ext.alloc | apply Ext.drew | apply Ext.drewN | (refine Ext.trans ?_ (by assumption)))⟩
  | true =>
    have H := Lib.hid (show typeP F c p e = tyD F c p e by unfold typeP; rw [hR]; rfl)
    have hcall := right_any F S (.slice x1 F.length x2)
    rw [hR] at hcall
    have hcall' := Lib.hid hcall
    clear hcall hR
    go_enter Tryd.func16, Tryd.ntmps16
    go_wp2_with fail
    refine (hcall'.out _ (hF'.out.ext (by repeat' first | exact Ext.refl _ | assumption | apply Ext.alloc | apply Ext.drew | apply Ext.drewN | (refine Ext.trans ?_ (by assumption)))) hpF'.out).mono ?_
    rintro r w1 ⟨rfl, he⟩
    have hcs := he.cells
    go_wp2_with fail
    refine (typed_any F c p e S S1 S2 S3 _ _ _ _ w1 (hF'.out.ext (by repeat' first | exact Ext.refl _ | assumption | apply Ext.alloc | apply Ext.drew | apply Ext.drewN | (refine Ext.trans ?_ (by assumption)))) (hc'.out.ext (by repeat' first | exact Ext.refl _ | assumption | apply Ext.alloc | apply Ext.drew | apply Ext.drewN | (refine Ext.trans ?_ (by assumption)))) (hp'.out.ext (by repeat' first | exact Ext.refl _ | assumption | apply Ext.alloc | apply Ext.drew | apply Ext.drewN | (refine Ext.trans ?_ (by assumption)))) (hr'.out.ext (by repeat' first | exact Ext.refl _ | assumption | apply Ext.alloc | apply Ext.drew | apply Ext.drewN | (refine Ext.trans ?_ (by assumption)))) hbd).mono ?_
    rintro r w2 ⟨rfl, he2⟩
    go_wp2_with fail
    go_ret2
    exact ⟨by rw [H.out]; rfl, (by repeat' first | exact Ext.refl _ | assumption | apply Ext.alloc | apply Ext.drew | apply Ext.drewN | (refine Ext.trans ?_ (by assumption)))⟩
end Go.Proofs.YtnkimlkoijfcpaaDoor

/- What evaluating computes, on plain data; a typed expression's value is right. -/
namespace Go.Proofs.YtnkimlkoijfcpaaDoor
open Go.RowKit Go.Lib
def zeroV : Val := ⟨0, 0, ByteArray.empty⟩
def binV (op : Int) (a b : Val) : Val :=
  if op = 8 then numV (wrap64 (a.n + b.n))
  else if op = 9 then numV (wrap64 (a.n - b.n))
  else if op = 10 then numV (wrap64 (a.n * b.n))
  else if op = 11 then numV (divI a.n b.n)
  else if op = 12 then numV (modI a.n b.n)
  else if op = 13 then boolV (eqV a b)
  else if op = 14 then boolV (!eqV a b)
  else if op = 15 then boolV (decide (cmpV a b < 0))
  else if op = 16 then boolV (decide (cmpV a b ≤ 0))
  else if op = 17 then boolV (decide (a.n = 1) && decide (b.n = 1))
  else if op = 18 then boolV (decide (a.n = 1) || decide (b.n = 1))
  else textV (joinS a.s b.s)
def opV (call : Int → List Val → Val) (time : Int) (row params : List Val) (op n : Int) (s : ByteArray) (vs : List Val) : Val :=
  if op = 0 then numV n
  else if op = 1 then textV s
  else if op = 2 then boolV (decide (n = 1))
  else if op = 3 then row.getD n.toNat zeroV
  else if op = 4 then params.getD n.toNat zeroV
  else if op = 5 then numV time
  else if op = 6 then boolV (decide ((vs.getD 0 zeroV).n = 0))
  else if op = 7 then numV (wrap64 (-(vs.getD 0 zeroV).n))
  else if op = 20 then numV (vs.getD 0 zeroV).s.size
  else if op = 22 then call n vs
  else binV op (vs.getD 0 zeroV) (vs.getD 1 zeroV)
def ifV (vs : List Val) : Val := if (vs.getD 0 zeroV).n = 1 then vs.getD 1 zeroV else vs.getD 2 zeroV
mutual
def ev (call : Int → List Val → Val) (time : Int) (row params : List Val) : Ex → Val
  | .mk op n s l => if op = 21 then ifV (evs call time row params l) else opV call time row params op n s (evs call time row params l)
def evs (call : Int → List Val → Val) (time : Int) (row params : List Val) : List Ex → List Val
  | [] => []
  | e :: l => ev call time row params e :: evs call time row params l
end
def callN (F : List Fn) (time : Int) : Nat → Int → List Val → Val
  | 0 => fun _ _ => zeroV
  | m + 1 => fun i vs => match F[i.toNat]? with
    | some f => ev (callN F time m) time [] vs f.body
    | none => zeroV
theorem qes (call : Int → List Val → Val) (time : Int) (row params : List Val) : ∀ l : List Ex, evs call time row params l = l.map (ev call time row params)
  | [] => by rw [evs]; rfl
  | e :: l => by rw [evs, qes call time row params l]; rfl
def qbc (v : Val) : Prop := okV v = true ∧ v.s.size ≤ 200
theorem empty_list : ByteArray.empty.toList = [] := by
  rw [ByteArray.toList, ByteArray.toList.loop]; rfl
@[simp] theorem numV_k (n : Int) : (numV n).k = 0 := rfl
@[simp] theorem boolV_k (b : Bool) : (boolV b).k = 2 := rfl
@[simp] theorem textV_k (s : ByteArray) : (textV s).k = 1 := rfl
theorem qdo (n : Int) : qbc (numV n) := by
  refine ⟨?_, by simp [numV]⟩
  simp [numV, okV, empty_list]
theorem qcb (b : Bool) : qbc (boolV b) := by
  refine ⟨?_, by simp [boolV]⟩
  cases b <;> simp [boolV, okV, empty_list]
theorem sound_text {s : ByteArray} (h : s.size ≤ 200) : qbc (textV s) := by
  refine ⟨?_, h⟩
  show okV ⟨1, 0, s⟩ = true
  have h2 : (s.size : Int) ≤ 200 := by omega
  unfold okV
  simp only [show ¬ ((1 : Int) = 0) by decide, if_false, if_true, h2, decide_true, Bool.and_self]
theorem joinS_size (a b : ByteArray) : (joinS a b).size ≤ 200 := by
  unfold joinS; rw [ByteArray.size_extract]; omega
theorem callT_mono {F : List Fn} {i m : Nat} (h : i ≤ m) {n r : Int} {ts : List Int} (hc : callT (F.take i) n ts = some r) : callT (F.take m) n ts = some r := by
  unfold callT at *
  split at hc
  · cases hc
  · rename_i hn
    rw [if_neg hn]
    cases hf : (F.take i)[n.toNat]? with
    | none => rw [hf] at hc; cases hc
    | some f =>
      rw [hf] at hc
      have : (F.take m)[n.toNat]? = some f := by
        rw [List.getElem?_take] at hf ⊢
        split at hf
        · rw [if_pos (by omega)]; exact hf
        · cases hf
      rw [this]; exact hc
theorem tailT_mono {F : List Fn} {i m : Nat} (h : i ≤ m) {c p : List Int} {op n r : Int} {s : ByteArray} {ts : List Int} (hc : tailT (F.take i) c p op n s ts = some r) : tailT (F.take m) c p op n s ts = some r := by
  unfold tailT at *
  split at hc
  · cases hc
  · rename_i h1
    rw [if_neg h1]
    split at hc
    · rename_i h2; rw [if_pos h2]; exact callT_mono h hc
    · rename_i h2; rw [if_neg h2]; exact hc
mutual
theorem ty_mono {F : List Fn} {i m : Nat} (h : i ≤ m) {c p : List Int} : ∀ (e : Ex) {r : Int}, ty (F.take i) c p e = some r → ty (F.take m) c p e = some r
  | .mk op n s l, r, hc => by
    rw [ty] at hc ⊢
    cases hl : tys (F.take i) c p l with
    | none => rw [hl] at hc; cases hc
    | some ts => rw [hl] at hc; rw [tys_mono h l hl]; exact tailT_mono h hc
theorem tys_mono {F : List Fn} {i m : Nat} (h : i ≤ m) {c p : List Int} : ∀ (l : List Ex) {ts : List Int}, tys (F.take i) c p l = some ts → tys (F.take m) c p l = some ts
  | [], ts, hc => by rw [tys] at hc ⊢; exact hc
  | e :: l, ts, hc => by
    rw [tys] at hc ⊢
    cases he : ty (F.take i) c p e with
    | none => rw [he] at hc; cases hc
    | some t =>
      rw [he] at hc; rw [ty_mono h e he]
      cases hl : tys (F.take i) c p l with
      | none => rw [hl] at hc; cases hc
      | some us => rw [hl] at hc; rw [tys_mono h l hl]; exact hc
end
theorem tys_mem {F : List Fn} {c p : List Int} : ∀ (l : List Ex) {ts : List Int}, tys F c p l = some ts → ∀ e ∈ l, ∃ t, ty F c p e = some t
  | [], _, _, e, he => by cases he
  | x :: l, ts, hc, e, he => by
    rw [tys] at hc
    cases hx : ty F c p x with
    | none => rw [hx] at hc; cases hc
    | some t =>
      rw [hx] at hc
      cases hl : tys F c p l with
      | none => rw [hl] at hc; cases hc
      | some us =>
        rcases List.mem_cons.1 he with rfl | he
        · exact ⟨t, hx⟩
        · exact tys_mem l hl e he
theorem qdx {F : List Fn} {m : Nat} {n r : Int} {ts : List Int} (hc : callT (F.take m) n ts = some r) : 0 ≤ n ∧ n.toNat < m ∧ ∃ f, F[n.toNat]? = some f ∧ f.params = ts ∧ f.res = r := by
  unfold callT at hc
  split at hc
  · cases hc
  · rename_i hn
    cases hf : (F.take m)[n.toNat]? with
    | none => rw [hf] at hc; cases hc
    | some f =>
      rw [hf] at hc
      rw [List.getElem?_take] at hf
      split at hf
      · rename_i hlt
        dsimp at hc
        split at hc
        · rename_i hp
          exact ⟨by omega, hlt, f, hf, hp, by injection hc⟩
        · cases hc
      · cases hf
theorem okF_body {F : List Fn} {i : Nat} {f : Fn} (h : okF F i = true) (hf : F[i]? = some f) : ty (F.take i) [] f.params f.body = some f.res := by
  unfold okF at h
  rw [hf] at h
  simp only [Bool.and_eq_true, decide_eq_true_eq] at h
  have h2 := h.1.2
  unfold tyD at h2
  split at h2
  · cases h2
  · exact h2
theorem pick_sound {c : List Int} {row : List Val} {n t : Int} (hk : row.map Val.k = c) (hs : ∀ v ∈ row, qbc v) (h : pickT c n = some t) : 0 ≤ n ∧ n.toNat < row.length ∧ (row.getD n.toNat zeroV).k = t ∧ qbc (row.getD n.toNat zeroV) := by
  subst hk
  unfold pickT at h
  split at h
  · cases h
  · rename_i hn
    rw [List.getElem?_map] at h
    cases hv : row[n.toNat]? with
    | none => rw [hv] at h; cases h
    | some v =>
      rw [hv] at h
      obtain ⟨hl, hv2⟩ := List.getElem?_eq_some_iff.1 hv
      have hg : row.getD n.toNat zeroV = v := by rw [List.getD_eq_getElem?_getD, hv]; rfl
      rw [hg]
      dsimp at h
      split at h
      · exact ⟨by omega, hl, by injection h, hs v (by rw [← hv2]; exact List.getElem_mem hl)⟩
      · cases h
def qbo (c : List Int) (R : List Val) : Prop := ∃ R0 R1, R = R0 ++ R1 ∧ R0.map Val.k = c ∧ ∀ v ∈ R0, qbc v
theorem qbo.of {R : List Val} (h : ∀ v ∈ R, qbc v) : qbo (R.map Val.k) R := ⟨R, [], by simp, rfl, h⟩
theorem qbo.nil (R : List Val) : qbo [] R := ⟨[], R, rfl, rfl, by simp⟩
theorem pick_fit {c : List Int} {row : List Val} {n t : Int} (hf : qbo c row) (h : pickT c n = some t) : 0 ≤ n ∧ n.toNat < row.length ∧ (row.getD n.toNat zeroV).k = t ∧ qbc (row.getD n.toNat zeroV) := by
  obtain ⟨R0, R1, rfl, hk, hs⟩ := hf
  obtain ⟨h1, h2, h3, h4⟩ := pick_sound hk hs h
  have hg : (R0 ++ R1).getD n.toNat zeroV = R0.getD n.toNat zeroV := by rw [List.getD_eq_getElem?_getD, List.getElem?_append_left h2, List.getD_eq_getElem?_getD]
  rw [hg]
  exact ⟨h1, by simp; omega, h3, h4⟩
theorem two_of {vs : List Val} {a b : Int} (h : vs.map Val.k = [a, b]) : ∃ x y, vs = [x, y] ∧ x.k = a ∧ y.k = b := by
  match vs, h with
  | [x, y], h => simp at h; exact ⟨x, y, rfl, h.1, h.2⟩
theorem one_of {vs : List Val} {a : Int} (h : vs.map Val.k = [a]) : ∃ x, vs = [x] ∧ x.k = a := by
  match vs, h with
  | [x], h => simp at h; exact ⟨x, rfl, h⟩
theorem three_of {vs : List Val} {a b c : Int} (h : vs.map Val.k = [a, b, c]) : ∃ x y z, vs = [x, y, z] ∧ x.k = a ∧ y.k = b ∧ z.k = c := by
  match vs, h with
  | [x, y, z], h => simp at h; exact ⟨x, y, z, rfl, h.1, h.2.1, h.2.2⟩
theorem oper_sound {call : Int → List Val → Val} {time : Int} {row params vs : List Val} {op n t : Int} {s : ByteArray} (hs : ∀ v ∈ vs, qbc v) (h : operT op n (vs.map Val.k) = some t) :
    op ≠ 22 ∧ (if op = 21 then ifV vs else opV call time row params op n s vs).k = t ∧ qbc (if op = 21 then ifV vs else opV call time row params op n s vs) := by
  unfold operT at h
  split at h
  · cases h
  split at h
  · subst op; split at h <;> cases h
    simp [opV]; exact qcb _
  split at h
  · subst op; split at h <;> cases h
    simp [opV]; exact qdo _
  split at h
  · subst op; split at h <;> cases h
    simp [opV]; exact qdo _
  split at h
  · rename_i ho
    split at h <;> cases h
    have : op = 8 ∨ op = 9 ∨ op = 10 ∨ op = 11 ∨ op = 12 := by omega
    rcases this with rfl | rfl | rfl | rfl | rfl
    all_goals simp [opV, binV]; exact qdo _
  split at h
  · rename_i ho
    have hb : t = 2 := by
      split at h
      · split at h <;> cases h
        rfl
      · cases h
    subst hb
    have : op = 13 ∨ op = 14 ∨ op = 15 ∨ op = 16 := by omega
    rcases this with rfl | rfl | rfl | rfl
    all_goals simp [opV, binV]; exact qcb _
  split at h
  · rename_i ho
    split at h <;> cases h
    have : op = 17 ∨ op = 18 := by omega
    rcases this with rfl | rfl
    all_goals simp [opV, binV]; exact qcb _
  split at h
  · subst op; split at h <;> cases h
    simp [opV, binV]; exact sound_text (joinS_size _ _)
  split at h
  · subst op
    split at h
    · rename_i a b c hk
      split at h
      · rename_i hab
        cases h
        obtain ⟨x, y, z, rfl, hx, hy, hz⟩ := three_of hk
        refine ⟨by decide, ?_⟩
        rw [if_pos rfl]
        unfold ifV
        simp only [List.getD_cons_zero, List.getD_cons_succ]
        split
        · exact ⟨by rw [hy]; exact hab.2, hs y (by simp)⟩
        · exact ⟨hz, hs z (by simp)⟩
      · cases h
    · cases h
  · cases h
theorem leaf_fit {call : Int → List Val → Val} {time : Int} {row params : List Val} {c p : List Int} {op n t : Int} {s : ByteArray} (hc : qbo c row) (hp : params.map Val.k = p) (hq : ∀ v ∈ params, qbc v) (h : leafT c p op n s = some t) :
    op ≠ 21 ∧ op ≠ 22 ∧ (opV call time row params op n s []).k = t ∧ qbc (opV call time row params op n s []) := by
  unfold leafT at h
  split at h
  · subst op; cases h
    simp [opV]; exact qdo _
  split at h
  · subst op; split at h <;> cases h
    simp [opV]; exact qcb _
  split at h
  · subst op
    have := pick_fit hc h
    simp only [opV]; exact ⟨by decide, by decide, this.2.2⟩
  split at h
  · subst op
    have := pick_sound hp hq h
    simp only [opV]; exact ⟨by decide, by decide, this.2.2⟩
  split at h
  · subst op
    split at h
    · rename_i hh
      cases h
      simp [opV]; exact sound_text (by omega)
    · cases h
  split at h
  · subst op; split at h <;> cases h
    simp [opV]; exact qdo _
  · cases h
theorem evs_kinds {F : List Fn} {call : Int → List Val → Val} {time : Int} {row params : List Val} {c p : List Int} : ∀ (l : List Ex) {ts : List Int}, tys F c p l = some ts →
    (∀ e ∈ l, ∀ t, ty F c p e = some t → (ev call time row params e).k = t ∧ qbc (ev call time row params e)) →
    (evs call time row params l).map Val.k = ts ∧ ∀ v ∈ evs call time row params l, qbc v
  | [], ts, hc, _ => by rw [tys] at hc; cases hc; rw [evs]; simp
  | x :: l, ts, hc, ih => by
    rw [tys] at hc
    cases hx : ty F c p x with
    | none => rw [hx] at hc; cases hc
    | some t =>
      rw [hx] at hc
      cases hl : tys F c p l with
      | none => rw [hl] at hc; cases hc
      | some us =>
        rw [hl] at hc
        cases hc
        have h1 := ih x (by simp) t hx
        have h2 := evs_kinds l hl (fun e he => ih e (by simp [he]))
        rw [evs]
        refine ⟨by rw [List.map_cons, h1.1, h2.1], ?_⟩
        intro v hv
        rcases List.mem_cons.1 hv with rfl | hv
        · exact h1.2
        · exact h2.2 v hv
theorem ev_fit {F : List Fn} (time : Int) (hF : ∀ i, i < F.length → okF F i = true) : ∀ (m : Nat) (e : Ex) {c p : List Int} {row params : List Val} {t : Int}, ty (F.take m) c p e = some t →
    qbo c row → params.map Val.k = p → (∀ v ∈ params, qbc v) →
    (ev (callN F time m) time row params e).k = t ∧ qbc (ev (callN F time m) time row params e) := by
  intro m
  induction m with
  | zero =>
    intro e
    induction e using Ex.ind with
    | h op n s l ih =>
    intro c p row params t ht hc hp hq
    rw [ty] at ht
    cases hl : tys (F.take 0) c p l with
    | none => rw [hl] at ht; cases ht
    | some ts =>
      rw [hl] at ht
      dsimp only at ht
      have hk := evs_kinds (call := callN F time 0) (time := time) (row := row) (params := params) l hl (fun e he t h => ih e he h hc hp hq)
      rw [ev]
      unfold tailT at ht
      split at ht
      · cases ht
      split at ht
      · rw [List.take_zero] at ht
        unfold callT at ht
        split at ht
        · cases ht
        · simp at ht
      split at ht
      · rename_i hnil
        obtain ⟨hk1, hk2⟩ := hk
        have he : evs (callN F time 0) time row params l = [] := by rw [hnil] at hk1; simpa using hk1
        rw [he]
        obtain ⟨a, b, d⟩ := leaf_fit (call := callN F time 0) (time := time) hc hp hq ht
        rw [if_neg a]; exact d
      · obtain ⟨hk1, hk2⟩ := hk
        rw [← hk1] at ht
        exact (oper_sound hk2 ht).2
  | succ m ihm =>
    intro e
    induction e using Ex.ind with
    | h op n s l ih =>
    intro c p row params t ht hc hp hq
    rw [ty] at ht
    cases hl : tys (F.take (m + 1)) c p l with
    | none => rw [hl] at ht; cases ht
    | some ts =>
      rw [hl] at ht
      dsimp only at ht
      have hk := evs_kinds (call := callN F time (m + 1)) (time := time) (row := row) (params := params) l hl (fun e he t h => ih e he h hc hp hq)
      rw [ev]
      unfold tailT at ht
      split at ht
      · cases ht
      split at ht
      · rename_i ho
        subst ho
        obtain ⟨h0, hlt, f, hf, hpar, hres⟩ := qdx ht
        have hfl : n.toNat < F.length := (List.getElem?_eq_some_iff.1 hf).1
        have hb := ty_mono (m := m) (by omega) f.body (okF_body (hF n.toNat hfl) hf)
        have := ihm f.body hb (row := []) (params := evs (callN F time (m + 1)) time row params l) (qbo.nil []) (by rw [hk.1, hpar]) hk.2
        simp only [opV]
        rw [← hres]
        simp only [callN, hf]
        exact this
      split at ht
      · rename_i hnil
        obtain ⟨hk1, hk2⟩ := hk
        have he : evs (callN F time (m + 1)) time row params l = [] := by rw [hnil] at hk1; simpa using hk1
        rw [he]
        obtain ⟨a, b, d⟩ := leaf_fit (call := callN F time (m + 1)) (time := time) hc hp hq ht
        rw [if_neg a]; exact d
      · obtain ⟨hk1, hk2⟩ := hk
        rw [← hk1] at ht
        exact (oper_sound hk2 ht).2
theorem ev_sound {F : List Fn} (time : Int) (hF : ∀ i, i < F.length → okF F i = true) : ∀ (m : Nat) (e : Ex) {c p : List Int} {row params : List Val} {t : Int}, ty (F.take m) c p e = some t →
    row.map Val.k = c → params.map Val.k = p → (∀ v ∈ row, qbc v) → (∀ v ∈ params, qbc v) →
    (ev (callN F time m) time row params e).k = t ∧ qbc (ev (callN F time m) time row params e) :=
  fun m e _ _ row params _ ht hc hp hr hq => by
    subst hc
    exact ev_fit time hF m e ht (qbo.of hr) hp hq
def evalP (F : List Fn) (time : Int) (R : List Val) (e : Ex) : Val := ev (callN F time F.length) time R [] e
end Go.Proofs.YtnkimlkoijfcpaaDoor

/- Inlining on plain data: facts. -/
namespace Go.Proofs.YtnkimlkoijfcpaaDoor
open Go.RowKit Go.Lib
theorem inlL_snoc {bs : List (Option Ex)} {e x : Ex} (hx : inlE bs e = some x) : ∀ (l : List Ex) {ys : List Ex}, inlL bs l = some ys → inlL bs (l ++ [e]) = some (ys ++ [x])
  | [], ys, h => by rw [inlL] at h; cases h; simp only [List.nil_append, inlL, hx]
  | a :: l, ys, h => by
    rw [inlL] at h
    cases he : inlE bs a with
    | none => rw [he] at h; cases h
    | some z =>
      rw [he] at h
      cases hl : inlL bs l with
      | none => rw [hl] at h; cases h
      | some xs =>
        rw [hl] at h; cases h
        rw [List.cons_append, inlL, he, inlL_snoc hx l hl]; rfl
theorem inlL_none {bs : List (Option Ex)} : ∀ (l : List Ex) {e : Ex}, e ∈ l → inlE bs e = none → inlL bs l = none
  | [], _, h, _ => by cases h
  | a :: l, e, h, hn => by
    rw [inlL]
    rcases List.mem_cons.1 h with rfl | h
    · rw [hn]
    · rw [inlL_none l h hn]
      cases inlE bs a <;> rfl
theorem inlL_mem {bs : List (Option Ex)} : ∀ (l : List Ex) {ys : List Ex}, inlL bs l = some ys → ∀ y ∈ ys, ∃ e ∈ l, inlE bs e = some y
  | [], ys, h, y, hy => by rw [inlL] at h; cases h; cases hy
  | e :: l, ys, h, y, hy => by
    rw [inlL] at h
    cases he : inlE bs e with
    | none => rw [he] at h; cases h
    | some x =>
      rw [he] at h
      cases hl : inlL bs l with
      | none => rw [hl] at h; cases h
      | some xs =>
        rw [hl] at h; cases h
        rcases List.mem_cons.1 hy with rfl | hy
        · exact ⟨e, by simp, he⟩
        · obtain ⟨e', h1, h2⟩ := inlL_mem l hl y hy
          exact ⟨e', by simp [h1], h2⟩
theorem fitX_parts {x y : Ex} (h : fitX x = some y) : x = y ∧ parts y ≤ 1000 := by
  unfold fitX at h
  split at h
  · cases h
  · cases h; exact ⟨rfl, by omega⟩
theorem inlE_parts {bs : List (Option Ex)} {e y : Ex} (h : inlE bs e = some y) : parts y ≤ 1000 := by
  obtain ⟨o, n, s, l⟩ := e
  rw [inlE] at h
  cases hl : inlL bs l with
  | none => rw [hl] at h; cases h
  | some ys =>
    rw [hl] at h
    dsimp only at h
    split at h
    · cases hb : bs.getD n.toNat none with
      | none => rw [hb] at h; cases h
      | some b => rw [hb] at h; exact (fitX_parts h).2
    · exact (fitX_parts h).2
theorem partsL_bound {K : Nat} : ∀ (l : List Ex), (∀ e ∈ l, parts e ≤ K) → qu l ≤ l.length * K
  | [], _ => by simp [qu]
  | e :: l, h => by
    have h1 := h e (by simp)
    have h2 := partsL_bound l (fun x hx => h x (by simp [hx]))
    rw [qu, List.length_cons, Nat.succ_mul]; omega
mutual
theorem putP_parts {op : Int} {L : List Ex} {K : Nat} (hK : 1 ≤ K) (hL : ∀ y ∈ L, parts y ≤ K) : ∀ (e : Ex) {x : Ex}, putP op L e = some x → parts x ≤ parts e * K
  | .mk o n s l, x, h => by
    rw [putP] at h
    split at h
    · split at h
      · cases h
      · have := hL x (List.mem_of_getElem? h)
        rw [parts, Nat.succ_mul]; omega
    · cases hl : putPs op L l with
      | none => rw [hl] at h; cases h
      | some ys =>
        rw [hl] at h; cases h
        have := putPs_parts hK hL l hl
        rw [parts, parts, Nat.succ_mul]; omega
theorem putPs_parts {op : Int} {L : List Ex} {K : Nat} (hK : 1 ≤ K) (hL : ∀ y ∈ L, parts y ≤ K) : ∀ (l : List Ex) {ys : List Ex}, putPs op L l = some ys → qu ys ≤ qu l * K
  | [], ys, h => by rw [putPs] at h; cases h; simp [qu]
  | e :: l, ys, h => by
    rw [putPs] at h
    cases he : putP op L e with
    | none => rw [he] at h; cases h
    | some x =>
      rw [he] at h
      cases hl : putPs op L l with
      | none => rw [hl] at h; cases h
      | some xs =>
        rw [hl] at h; cases h
        have h1 := putP_parts hK hL e he
        have h2 := putPs_parts hK hL l hl
        rw [qu, qu, Nat.add_mul]; omega
end
theorem inlB_snoc : ∀ (F : List Fn) (f : Fn) (bs : List (Option Ex)), inlB bs (F ++ [f]) = inlB bs F ++ [inlE (inlB bs F) f.body]
  | [], f, bs => rfl
  | g :: F, f, bs => by rw [List.cons_append, inlB, inlB_snoc F f, inlB]
theorem inlB_len : ∀ (F : List Fn) (bs : List (Option Ex)), (inlB bs F).length = bs.length + F.length
  | [], bs => rfl
  | g :: F, bs => by rw [inlB, inlB_len F]; simp; omega
theorem inlB_parts (F : List Fn) : ∀ b ∈ inlB [] F, parts (b.getD zeroE) ≤ 1000 := by
  have : ∀ (F : List Fn) (bs : List (Option Ex)), (∀ b ∈ bs, parts (b.getD zeroE) ≤ 1000) → ∀ b ∈ inlB bs F, parts (b.getD zeroE) ≤ 1000 := fun F => by
    induction F with
    | nil => intro bs h; exact h
    | cons f F ih =>
      intro bs h
      rw [inlB]
      refine ih _ fun b hb => ?_
      rcases List.mem_append.1 hb with hb | hb
      · exact h b hb
      · simp at hb; subst hb
        cases hx : inlE bs f.body with
        | none => show parts zeroE ≤ 1000; simp [zeroE, parts, qu]
        | some y => exact inlE_parts hx
  exact this F [] (by simp)
end Go.Proofs.YtnkimlkoijfcpaaDoor

/- Putting expressions in the place of columns or parameters: types and values, on plain data. -/
namespace Go.Proofs.YtnkimlkoijfcpaaDoor
open Go.RowKit Go.Lib
theorem operT_col {op n : Int} {ts : List Int} (h : op = 3 ∨ op = 4) : operT op n ts = none := by
  unfold operT
  split
  · rfl
  · rw [if_neg (by omega), if_neg (by omega), if_neg (by omega), if_neg (by omega), if_neg (by omega), if_neg (by omega), if_neg (by omega), if_neg (by omega)]
theorem qek {F : List Fn} {c p : List Int} {op n t : Int} {s : ByteArray} {ts : List Int} (h : op = 3 ∨ op = 4) (ht : tailT F c p op n s ts = some t) : (if op = 3 then pickT c n else pickT p n) = some t := by
  unfold tailT at ht
  split at ht
  · cases ht
  · rw [if_neg (by omega)] at ht
    split at ht
    · unfold leafT at ht
      rw [if_neg (by omega), if_neg (by omega)] at ht
      by_cases h3 : op = 3
      · rw [if_pos h3] at ht ⊢; exact ht
      · rw [if_neg h3, if_pos (by omega)] at ht; rw [if_neg h3]; exact ht
    · rw [operT_col h] at ht; cases ht
theorem qew {F : List Fn} {c p c2 p2 : List Int} {op n t : Int} {s : ByteArray} {ts : List Int} (h3 : op = 3 → pickT c n = some t → pickT c2 n = some t) (h4 : op = 4 → pickT p n = some t → pickT p2 n = some t) (ht : tailT F c p op n s ts = some t) : tailT F c2 p2 op n s ts = some t := by
  unfold tailT at ht ⊢
  split at ht
  · cases ht
  · rename_i h1
    rw [if_neg h1]
    split at ht
    · rename_i h2; rw [if_pos h2]; exact ht
    · rename_i h2
      rw [if_neg h2]
      split at ht
      · rename_i h5
        rw [if_pos h5]
        unfold leafT at ht ⊢
        by_cases e3 : op = 3
        · subst e3; exact h3 rfl ht
        · by_cases e4 : op = 4
          · subst e4; exact h4 rfl ht
          · simp only [if_neg e3, if_neg e4] at ht ⊢
            exact ht
      · rename_i h5; rw [if_neg h5]; exact ht
theorem ev_colp (call : Int → List Val → Val) (time : Int) (row params : List Val) {op : Int} (n : Int) (s : ByteArray) (l : List Ex) (h : op = 3 ∨ op = 4) : ev call time row params (.mk op n s l) = if op = 3 then row.getD n.toNat zeroV else params.getD n.toNat zeroV := by
  rw [ev, if_neg (by omega), opV]
  rw [if_neg (by omega), if_neg (by omega), if_neg (by omega)]
  by_cases h3 : op = 3
  · rw [if_pos h3, if_pos h3]
  · rw [if_neg h3, if_neg h3, if_pos (by omega)]
theorem opV_other {call : Int → List Val → Val} {time : Int} {row params row2 params2 : List Val} {op n : Int} {s : ByteArray} {vs : List Val} (h3 : op = 3 → row2.getD n.toNat zeroV = row.getD n.toNat zeroV) (h4 : op = 4 → params2.getD n.toNat zeroV = params.getD n.toNat zeroV) :
    opV call time row2 params2 op n s vs = opV call time row params op n s vs := by
  unfold opV
  by_cases e3 : op = 3
  · subst e3; rw [h3 rfl]; rfl
  · by_cases e4 : op = 4
    · subst e4; rw [h4 rfl]; rfl
    · simp only [if_neg e3, if_neg e4]
section
variable {F : List Fn} {call : Int → List Val → Val} {time : Int} {L : List Ex} {op : Int} {c1 p1 c2 p2 : List Int} {R1 P1 R2 P2 : List Val}
mutual
theorem put_sem (hop : op = 3 ∨ op = 4)
    (h3 : ∀ n t, pickT c1 n = some t → if op = 3 then (∀ x, L[n.toNat]? = some x → ty F c2 p2 x = some t ∧ ev call time R2 P2 x = R1.getD n.toNat zeroV) else (pickT c2 n = some t ∧ R2.getD n.toNat zeroV = R1.getD n.toNat zeroV))
    (h4 : ∀ n t, pickT p1 n = some t → if op = 4 then (∀ x, L[n.toNat]? = some x → ty F c2 p2 x = some t ∧ ev call time R2 P2 x = P1.getD n.toNat zeroV) else (pickT p2 n = some t ∧ P2.getD n.toNat zeroV = P1.getD n.toNat zeroV)) :
    ∀ (e : Ex) {x : Ex} {t : Int}, putP op L e = some x → ty F c1 p1 e = some t → ty F c2 p2 x = some t ∧ ev call time R2 P2 x = ev call time R1 P1 e
  | .mk o n s l, x, t, hx, ht => by
    rw [ty] at ht
    cases hl : tys F c1 p1 l with
    | none => rw [hl] at ht; cases ht
    | some ts =>
      rw [hl] at ht
      dsimp only at ht
      rw [putP] at hx
      by_cases ho : o = op
      · rw [if_pos ho] at hx
        split at hx
        · cases hx
        · subst ho
          have hp := qek hop ht
          rw [ev_colp call time R1 P1 n s l hop]
          by_cases e3 : o = 3
          · rw [if_pos e3] at hp ⊢
            have := h3 n t hp
            rw [if_pos e3] at this
            exact this x hx
          · rw [if_neg e3] at hp ⊢
            have := h4 n t hp
            rw [if_pos (by omega)] at this
            exact this x hx
      · rw [if_neg ho] at hx
        cases hl2 : putPs op L l with
        | none => rw [hl2] at hx; cases hx
        | some l' =>
          rw [hl2] at hx
          cases hx
          obtain ⟨i1, i2⟩ := puts_sem hop h3 h4 l hl2 hl
          have k3 : o = 3 → pickT c1 n = some t → pickT c2 n = some t ∧ R2.getD n.toNat zeroV = R1.getD n.toNat zeroV := fun e3 hp => by
            have := h3 n t hp
            rw [if_neg (by omega)] at this
            exact this
          have k4 : o = 4 → pickT p1 n = some t → pickT p2 n = some t ∧ P2.getD n.toNat zeroV = P1.getD n.toNat zeroV := fun e4 hp => by
            have := h4 n t hp
            rw [if_neg (by omega)] at this
            exact this
          refine ⟨?_, ?_⟩
          · rw [ty, i1]
            exact qew (fun a b => (k3 a b).1) (fun a b => (k4 a b).1) ht
          · rw [ev, ev, i2]
            split
            · rfl
            · refine opV_other (fun e3 => ?_) (fun e4 => ?_)
              · have := qek (.inl e3) ht
                rw [if_pos e3] at this
                exact (k3 e3 this).2
              · have := qek (.inr e4) ht
                rw [if_neg (by omega)] at this
                exact (k4 e4 this).2
theorem puts_sem (hop : op = 3 ∨ op = 4)
    (h3 : ∀ n t, pickT c1 n = some t → if op = 3 then (∀ x, L[n.toNat]? = some x → ty F c2 p2 x = some t ∧ ev call time R2 P2 x = R1.getD n.toNat zeroV) else (pickT c2 n = some t ∧ R2.getD n.toNat zeroV = R1.getD n.toNat zeroV))
    (h4 : ∀ n t, pickT p1 n = some t → if op = 4 then (∀ x, L[n.toNat]? = some x → ty F c2 p2 x = some t ∧ ev call time R2 P2 x = P1.getD n.toNat zeroV) else (pickT p2 n = some t ∧ P2.getD n.toNat zeroV = P1.getD n.toNat zeroV)) :
    ∀ (l : List Ex) {xs : List Ex} {ts : List Int}, putPs op L l = some xs → tys F c1 p1 l = some ts → tys F c2 p2 xs = some ts ∧ evs call time R2 P2 xs = evs call time R1 P1 l
  | [], xs, ts, hx, ht => by
    rw [putPs] at hx; cases hx
    rw [tys] at ht; cases ht
    rw [tys, evs, evs]; exact ⟨rfl, rfl⟩
  | e :: l, xs, ts, hx, ht => by
    rw [tys] at ht
    cases he : ty F c1 p1 e with
    | none => rw [he] at ht; cases ht
    | some t =>
      rw [he] at ht
      cases hl : tys F c1 p1 l with
      | none => rw [hl] at ht; cases ht
      | some us =>
        rw [hl] at ht; cases ht
        rw [putPs] at hx
        cases hx1 : putP op L e with
        | none => rw [hx1] at hx; cases hx
        | some x =>
          rw [hx1] at hx
          cases hx2 : putPs op L l with
          | none => rw [hx2] at hx; cases hx
          | some l' =>
            rw [hx2] at hx; cases hx
            obtain ⟨i1, i2⟩ := put_sem hop h3 h4 e hx1 he
            obtain ⟨j1, j2⟩ := puts_sem hop h3 h4 l hx2 hl
            rw [tys, i1, j1, evs, evs, i2, j2]
            exact ⟨rfl, rfl⟩
end
end
end Go.Proofs.YtnkimlkoijfcpaaDoor
