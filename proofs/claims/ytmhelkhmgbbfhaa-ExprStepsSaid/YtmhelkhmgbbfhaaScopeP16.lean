/- Walk: (scope).of. -/
import Derived.Test.YtmhelkhmgbbfhaaOfTail16
namespace Go.Proofs.Ytmhelkhmgbbfhaa
open Go.RowKit Go.Lib

def OfEnd (F : List Fn) (c p : List Int) (o m : Int) (s : ByteArray) (l : List Ex) (A : Option Addr) (cap : Nat) (bs bx : Nat) (vF vc vp vts : Value) (w w' : World) : Prop :=
  ∃ ts, OfAt F c p o m s l A cap ts bs bx vF vc vp vts w' ∧ ty F c p (.mk o m s l) = tailT F c p o m s ts ∧ Ext w w'

set_option maxRecDepth 100000 in
set_option maxHeartbeats 4000000 in
theorem of_any (F : List Fn) (c p : List Int) (e : Ex) : ∀ (S S1 S2 S3 : Nat → Prop) (vF vc vp : Value) (cs : List Value) (w : World), Rd w S (.sl (F.map Fn.d)) [vF] → Rd w S1 (.sl (c.map D.int)) [vc] → Rd w S2 (.sl (p.map D.int)) [vp] → Rd w S3 e.d cs → parts e ≤ 1000000 →
    Calls Try.prog 65 #[.agg #[vF, vc, vp], .agg cs.toArray] w fun r w' => Answer (ty F c p e) r ∧ Ext w w' := by
  induction e using Ex.ind with | h o m s l ih => ?_
  intro S S1 S2 S3 vF vc vp cs w hF hc hp hr hbd
  obtain ⟨A, cap, b, off, rfl, hl1, hl2, hl3, hm⟩ := Ex.open hr
  simp only [Ex.args, Ex.op, Ex.n, Ex.s] at *
  have hll : l.length ≤ 1000000 := by rw [parts] at hbd; have := partsL_len l; omega
  obtain ⟨AF, capF, bF, offF, rfl, F1, F2, F3, F4⟩ := Rd.sl_open hF
  simp only [List.length_map] at F1 F3
  have hF' := Lib.hid hF; have hc' := Lib.hid hc; have hp' := Lib.hid hp; have hl3' := Lib.hid hl3; have hm' := Lib.hid hm; have hr0 := Lib.hid hr
  have F3' := Lib.hid F3; have F4' := Lib.hid F4
  have H := Lib.hid (show ty F c p (.mk o m s l) = match tys F c p l with | some ts => tailT F c p o m s ts | none => none by rw [ty]; cases tys F c p l <;> rfl)
  simp only [List.length_map] at *
  clear hF hc hp hr hl3 hm F3 F4
  go_enter Try.func65, Try.ntmps65
  go_wp2_with fail
  rename_i K9 hK9
  have hK8 : ∀ (u4 u5 u7 u8 u9 u10 u11 u12 u13 u14 u15 u16 u17 u18 u19 u20 u21 u22 u23 u24 u25 u26 u27 u28 u29 u30 u31 u32 u33 u34 u35 u36 u37 u38 u39 u40 u41 u42 u43 u44 u45 u46 u47 u48 u49 u50 u51 u52 u53 u54 u55 u56 u57 u58 u59 u60 u61 u62 u63 u64 u65 u66 u67 u68 u69 u70 u71 u72 u73 u74 u75 u76 u77 u78 u79 u80 u81 u82 u83 u84 u85 u86 u87 u88 u89 : Value) (vts : Value) (w' : World), OfEnd F c p o m s l A cap w.heap.size (w.heap.size + 1) (.slice AF F.length capF) vc vp vts w w' → K9 ⟨#[.agg #[.slice AF F.length capF, vc, vp], .agg #[.int .i64 o, .int .i64 m, .string s, .slice A l.length cap], .pointer (some ⟨w.heap.size, 0, none⟩), .pointer (some ⟨w.heap.size + 1, 0, none⟩), u4, u5, vts, u7, u8, u9, u10, u11, u12, u13, u14, u15, u16, u17, u18, u19, u20, u21, u22, u23, u24, u25, u26, u27, u28, u29, u30, u31, u32, u33, u34, u35, u36, u37, u38, u39, u40, u41, u42, u43, u44, u45, u46, u47, u48, u49, u50, u51, u52, u53, u54, u55, u56, u57, u58, u59, u60, u61, u62, u63, u64, u65, u66, u67, u68, u69, u70, u71, u72, u73, u74, u75, u76, u77, u78, u79, u80, u81, u82, u83, u84, u85, u86, u87, u88, u89], []⟩ w' :=
    fun u4 u5 u7 u8 u9 u10 u11 u12 u13 u14 u15 u16 u17 u18 u19 u20 u21 u22 u23 u24 u25 u26 u27 u28 u29 u30 u31 u32 u33 u34 u35 u36 u37 u38 u39 u40 u41 u42 u43 u44 u45 u46 u47 u48 u49 u50 u51 u52 u53 u54 u55 u56 u57 u58 u59 u60 u61 u62 u63 u64 u65 u66 u67 u68 u69 u70 u71 u72 u73 u74 u75 u76 u77 u78 u79 u80 u81 u82 u83 u84 u85 u86 u87 u88 u89 vts w' ⟨ts, h1, h2, h3⟩ => hK9 _ _ (of_tail F c p o m s l A cap ts w.heap.size (w.heap.size + 1) (.slice AF F.length capF) vc vp vts w' h1 (fun r w'' => Answer (ty F c p (.mk o m s l)) r ∧ Ext w w'') (fun r w'' h4 h5 => ⟨by rw [h2]; exact h4, h3.trans h5⟩) u4 u5 u7 u8 u9 u10 u11 u12 u13 u14 u15 u16 u17 u18 u19 u20 u21 u22 u23 u24 u25 u26 u27 u28 u29 u30 u31 u32 u33 u34 u35 u36 u37 u38 u39 u40 u41 u42 u43 u44 u45 u46 u47 u48 u49 u50 u51 u52 u53 u54 u55 u56 u57 u58 u59 u60 u61 u62 u63 u64 u65 u66 u67 u68 u69 u70 u71 u72 u73 u74 u75 u76 u77 u78 u79 u80 u81 u82 u83 u84 u85 u86 u87 u88 u89)
  clear hK9
  go_loopw [6, 14] (fun x i wr => ∃ (k : Nat) (ts : List Int), k ≤ l.length ∧ i = .int .i64 k ∧ ts.length = k ∧ wr.ownsRow (w.heap.size + 2) 3 1 x k (ts.map (Value.int .i64)) ∧ Hid (TysAt F c p l ts k) ∧ Ext ((w.alloc (.cells #[.slice AF F.length capF, vc, vp] 61)).alloc (.cells #[.int .i64 o, .int .i64 m, .string s, .slice A l.length cap] 25)) wr) (fun _ i _ => l.length - (intOf i).toNat)
  case atStart => exact ⟨0, [], by omega, rfl, rfl, World.ownsRow_nil _ _ _ _, Lib.hid (TysAt.start F c p l), Ext.refl _⟩
  case round =>
    obtain ⟨k, ts, hk, rfl, htk, hown, HH, hb⟩ := hrel
    have htk' := Lib.hid htk; clear htk
    have s0 : wr.cell? ⟨w.heap.size, 0, none⟩ = some (.slice AF F.length capF) := hb.at (by go_simp)
    have s1 : wr.cell? ⟨w.heap.size, 1, none⟩ = some vc := hb.at (by go_simp)
    have s2 : wr.cell? ⟨w.heap.size, 2, none⟩ = some vp := hb.at (by go_simp)
    have e0 : wr.cell? ⟨w.heap.size + 1, 0, none⟩ = some (.int .i64 o) := hb.at (by go_simp)
    have e1 : wr.cell? ⟨w.heap.size + 1, 1, none⟩ = some (.int .i64 m) := hb.at (by go_simp)
    have e2 : wr.cell? ⟨w.heap.size + 1, 2, none⟩ = some (.string s) := hb.at (by go_simp)
    have e3 : wr.cell? ⟨w.heap.size + 1, 3, none⟩ = some (.slice A l.length cap) := hb.at (by go_simp)
    have hw : Ext w wr := (((Ext.refl _).alloc _).alloc _).trans hb
    by_cases hlt : k < l.length
    · obtain ⟨rfl, hSb⟩ := hl3'.out (by omega)
      obtain ⟨A1, cap1, b1, off1, c0, c1, c2, c3, hr', -⟩ := Ex.at (hm'.out.ext (fun _ => hSb) hw) hlt
      have hr2 := Lib.hid hr'
      have hSb' := Lib.hid hSb
      clear hr' hSb
      have hpb : parts l[k] ≤ 1000000 := by rw [parts] at hbd; have := partsL_mem l l[k] (List.getElem_mem hlt); omega
      have s0' : ∀ o1, (wr.alloc o1).cell? ⟨w.heap.size, 0, none⟩ = some (.slice AF F.length capF) := fun o1 => ((Ext.refl _).alloc o1).at s0
      have s1' : ∀ o1, (wr.alloc o1).cell? ⟨w.heap.size, 1, none⟩ = some vc := fun o1 => ((Ext.refl _).alloc o1).at s1
      have s2' : ∀ o1, (wr.alloc o1).cell? ⟨w.heap.size, 2, none⟩ = some vp := fun o1 => ((Ext.refl _).alloc o1).at s2
      go_wp2_with fail
      refine (ih l[k] (List.getElem_mem hlt) S S1 S2 S3 _ vc vp _ _ (hF'.out.ext (by repeat' first | exact Ext.refl _ | assumption | apply Ext.alloc | apply Ext.drew | apply Ext.drewN | (refine Ext.trans ?_ (by assumption)))) (hc'.out.ext (by repeat' first | exact Ext.refl _ | assumption | apply Ext.alloc | apply Ext.drew | apply Ext.drewN | (refine Ext.trans ?_ (by assumption)))) (hp'.out.ext (by repeat' first | exact Ext.refl _ | assumption | apply Ext.alloc | apply Ext.drew | apply Ext.drewN | (refine Ext.trans ?_ (by assumption)))) (hr2.out.ext (by repeat' first | exact Ext.refl _ | assumption | apply Ext.alloc | apply Ext.drew | apply Ext.drewN | (refine Ext.trans ?_ (by assumption)))) hpb).mono ?_
      rintro r w1 ⟨⟨t, ok, rfl, hA⟩, he⟩
      have hA' := Lib.hid hA; clear hA
      cases ok with
      | false =>
        have H2 := Lib.hid (HH.out.none hlt hA'.out.symm)
        go_wp2_with fail
        go_ret2
        exact ⟨by rw [H.out, H2.out]; exact answer_none, (by repeat' first | exact Ext.refl _ | assumption | apply Ext.alloc | apply Ext.drew | apply Ext.drewN | (refine Ext.trans ?_ (by assumption)))⟩
      | true =>
        have H2 := Lib.hid (HH.out.next hlt hA'.out.symm)
        have he2 : Ext wr w1 := ((Ext.refl _).alloc _).trans he
        have hown1 : w1.ownsRow (w.heap.size + 2) 3 1 _ k (ts.map (Value.int .i64)) := own_ext hown he2
        have hsz := (hb.trans he2).size
        go_wp2_with (at_builtin; refine wp_append1 _ _ _ rfl _ _ _ rfl (w.heap.size + 2) 3 1 8 _ Try.underlying31 Try.info3 rfl (by decide) (by decide) _ _ _ rfl hown1 rfl rfl (by intro u hu; simp at hu; subst hu; rfl) (by omega) (by simpa using hsz) ?_; intro v' w2 hown2 hg2 hn2)
        go_roundw
        case rel => exact ⟨k + 1, ts ++ [t], by omega, by go_num, by rw [List.length_append, htk'.out]; rfl, by simpa using hown2, H2, (hb.trans he2).grown hown1 (by simp) hg2⟩
        case measure => simp [intOf]; omega
    · have hkl : k = l.length := by omega
      subst hkl
      have H2 := Lib.hid (H.out.trans (by rw [HH.out.done]))
      clear H HH
      have hR := own_ints (S := Any) (by rw [htk'.out]; exact hown) (fun _ _ => trivial)
      have hfin := Lib.hid (show OfEnd F c p o m s l A cap w.heap.size (w.heap.size + 1) (.slice AF F.length capF) vc vp _ w wr from ⟨ts, ⟨s0, s1, s2, e0, e1, e2, e3, Rd.any (hF'.out.ext hw), Rd.any (hc'.out.ext hw), Rd.any (hp'.out.ext hw), hR, Rd.any (hr0.out.ext hw), hll⟩, H2.out, hw⟩)
      clear hR hown H2
      go_wp2_with fail
      exact hfin.out

end Go.Proofs.Ytmhelkhmgbbfhaa
