/- Walks: the program's steps. -/
import Derived.Test.YtmhelkhmgbbfhaaSteps16
namespace Go.Proofs.Ytmhelkhmgbbfhaa
open Go.RowKit Go.Lib

set_option maxHeartbeats 1000000 in
theorem plus_any (a b : Int) (w : World) (ha : 0 ≤ a) (ha2 : a ≤ 1099511627777) (hb : 0 ≤ b) (hb2 : b ≤ 1099511627776) : Calls Try.prog 80 #[.int .i64 a, .int .i64 b] w fun r w' => r = .returned (.int .i64 (capS (a + b))) ∧ Ext w w' := by
  go_enter Try.func80, Try.ntmps80
  go_wp2_with fail
  go_ret
  exact ⟨ret_int (by unfold capS; rfl), Ext.refl _⟩

set_option maxRecDepth 100000 in
set_option maxHeartbeats 4000000 in
theorem steps_any (B : List Int) (hB : GoodS B) (e : Ex) : ∀ (S S1 : Nat → Prop) (vB : Value) (cs : List Value) (w : World), Rd w S1 (.sl (B.map D.int)) [vB] → Rd w S e.d cs → parts e ≤ 1000000 → wfS B.length e = true →
    Calls Try.prog 43 #[vB, .agg cs.toArray] w fun r w' => r = .returned (.int .i64 (countE B e)) ∧ Ext w w' := by
  induction e using Ex.ind with | h o m s l ih => ?_
  intro S S1 vB cs w hvB hr hbd hwf
  obtain ⟨A, cap, b, off, rfl, hl1, hl2, hl3, hm⟩ := Ex.open hr
  obtain ⟨AB, capB, bB, offB, rfl, B1, B2, B3, B4⟩ := Rd.sl_open hvB
  simp only [Ex.args, Ex.op, Ex.n, Ex.s, List.length_map] at *
  have hll : l.length ≤ 1000000 := by rw [parts] at hbd; have := partsL_len l; omega
  have hvB' := Lib.hid hvB; have hl3' := Lib.hid hl3; have hm' := Lib.hid hm; have B3' := Lib.hid B3; have B4' := Lib.hid B4
  have hB' := Lib.hid hB
  have H := Lib.hid (show countE B (.mk o m s l) = stepsOf B o m (l.map (countE B)) by rw [countE, countL_map])
  have hks : GoodS (l.map (countE B)) := by rw [← countL_map]; exact countL_good B hB l
  have hks' := Lib.hid hks
  rw [wfS, wfSL_all] at hwf
  simp only [Bool.and_eq_true, List.all_eq_true, Bool.or_eq_true, Bool.not_eq_true', decide_eq_false_iff_not, decide_eq_true_eq] at hwf
  obtain ⟨⟨hw1, hw2⟩, hw3⟩ := hwf
  have hw1' := Lib.hid hw1; have hw2' := Lib.hid hw2; have hw3' := Lib.hid hw3
  clear hvB hr hl3 hm B3 B4 hB hks hw1 hw2 hw3
  go_enter Try.func43, Try.ntmps43
  go_wp2_with fail
  go_loopw [5, 14] (fun x i wr => ∃ (k : Nat), k ≤ l.length ∧ i = .int .i64 k ∧ wr.ownsRow (w.heap.size + 1) 3 1 x k (((l.map (countE B)).take k).map (Value.int .i64)) ∧ Ext (w.alloc (.cells #[.int .i64 o, .int .i64 m, .string s, .slice A l.length cap] 25)) wr) (fun _ i _ => l.length - (intOf i).toNat)
  case atStart => exact ⟨0, by omega, rfl, World.ownsRow_nil _ _ _ _, Ext.refl _⟩
  case round =>
    obtain ⟨k, hk, rfl, hown, hb⟩ := hrel
    have e0 : wr.cell? ⟨w.heap.size, 0, none⟩ = some (.int .i64 o) := hb.at (by go_simp)
    have e1 : wr.cell? ⟨w.heap.size, 1, none⟩ = some (.int .i64 m) := hb.at (by go_simp)
    have e3 : wr.cell? ⟨w.heap.size, 3, none⟩ = some (.slice A l.length cap) := hb.at (by go_simp)
    have hw : Ext w wr := ((Ext.refl _).alloc _).trans hb
    by_cases hlt : k < l.length
    · obtain ⟨rfl, hSb⟩ := hl3'.out (by omega)
      obtain ⟨A1, cap1, b1, off1, c0, c1, c2, c3, hr', -⟩ := Ex.at (hm'.out.ext (fun _ => hSb) hw) hlt
      have hr2 := Lib.hid hr'
      have hSb' := Lib.hid hSb
      clear hr' hSb
      have hpb : parts l[k] ≤ 1000000 := by rw [parts] at hbd; have := partsL_mem l l[k] (List.getElem_mem hlt); omega
      have hwf := hw3'.out l[k] (List.getElem_mem hlt)
      go_wp2_with fail
      refine (ih l[k] (List.getElem_mem hlt) S S1 _ _ _ (hvB'.out.ext (hw.alloc _)) (hr2.out.ext ((Ext.refl _).alloc _)) hpb hwf).mono ?_
      rintro r w1 ⟨rfl, he⟩
      have he2 : Ext wr w1 := ((Ext.refl _).alloc _).trans he
      have hown1 : w1.ownsRow (w.heap.size + 1) 3 1 _ k (((l.map (countE B)).take k).map (Value.int .i64)) := own_ext hown he2
      have hsz := (hb.trans he2).size
      have hd := Lib.hid (show (((l.map (countE B)).take (k + 1)).map (Value.int .i64)) = (((l.map (countE B)).take k).map (Value.int .i64)) ++ [Value.int .i64 (countE B l[k])] by rw [List.take_succ_eq_append_getElem (by simpa using hlt)]; simp)
      go_wp2_with (at_builtin; refine wp_append1 _ _ _ rfl _ _ _ rfl (w.heap.size + 1) 3 1 8 _ Try.underlying31 Try.info3 rfl (by decide) (by decide) _ _ _ rfl hown1 rfl rfl (by intro u hu; simp at hu; subst hu; rfl) (by omega) (by simpa using hsz) ?_; intro v' w2 hown2 hg2 hn2)
      go_roundw
      case rel => exact ⟨k + 1, by omega, by go_num, by rw [hd.out]; exact hown2, (hb.trans he2).grown hown1 (by simp) hg2⟩
      case measure => simp [intOf]; omega
    · have hkl : k = l.length := by omega
      subst hkl
      obtain ⟨ks, hks2⟩ : ∃ ks, ks = l.map (countE B) := ⟨_, rfl⟩
      rw [← hks2] at hown H hks'
      have hlen : ks.length = l.length := by rw [hks2]; simp
      rw [← hlen] at hown
      rw [List.take_length] at hown
      have hR := own_ints (S := Any) hown (fun _ _ => trivial)
      obtain ⟨A9, cap9, b9, off9, rfl, z1, z2, z3, z4⟩ := Rd.sl_open hR
      simp only [List.length_map] at *
      have z3' := Lib.hid z3; have z4' := Lib.hid z4
      have hlen' := Lib.hid hlen
      have hkl2 : ks.length ≤ 1000000 := by omega
      clear hR z3 z4 hown hlt hks2
      by_cases h3 : o = 21
      · subst h3
        have hl : ks.length = 3 := by rw [hlen]; exact hw1'.out.resolve_left (by simp)
        obtain ⟨x0, x1, x2, rfl⟩ := len_3s hl
        obtain ⟨rfl, -⟩ := z3'.out (by simp)
        have y0 := ints_at z4'.out (k := 0) (by simp)
        have y1 := ints_at z4'.out (k := 1) (by simp)
        have y2 := ints_at z4'.out (k := 2) (by simp)
        simp only [List.getElem_cons_zero, List.getElem_cons_succ, Nat.add_zero, List.length_cons, List.length_nil, Nat.zero_add, Nat.reduceAdd] at *
        have k0 := hks'.out x0 (by simp)
        have k1 := hks'.out x1 (by simp)
        have k2 := hks'.out x2 (by simp)
        have H2 := Lib.hid (H.out.trans (stepsOf_if B _ m rfl))
        have hp := Lib.hid (fun X => plus_any (1 + x0) (max x1 x2) X (by omega) (by omega) (by omega) (by omega))
        clear H hlen hl
        have gy0 := ExtW.at y0
        have gy1 := ExtW.at y1
        have gy2 := ExtW.at y2
        go_wp2_with fail
        refine wp_region_ext (by kernel_rfl) (by kernel_rfl) ?_
        repeat (go_big_quiet_step (((go_at_call 80; exact Calls.ext_of (hp.out _)))))
        refine wpQuiet_nil ?_
        intro w1 he
        go_wp2_with fail
        go_ret
        exact ⟨ret_int (by rw [H2.out]), hw.trans he⟩
      · have H2 := Lib.hid (H.out.trans (stepsOf_sum B ks o m (Or.inl h3)))
        have h21 : (o == 21) = false := by simp [h3]
        clear H h3 hlen
        obtain ⟨wo, rfl⟩ : ∃ wo : World, wo = wr := ⟨_, rfl⟩
        by_cases h22 : o = 22
        · subst h22
          obtain ⟨hm1, hm2⟩ := hw2'.out.resolve_left (by simp)
          obtain ⟨j0, rfl⟩ := Int.eq_ofNat_of_zero_le hm1
          have hjB : j0 < B.length := by omega
          obtain ⟨rfl, hSB⟩ := B3'.out (by omega)
          have y0 := ints_at (B4'.out.ext (fun _ => hSB) hw) hjB
          have hgB := hB'.out B[j0] (List.getElem_mem hjB)
          have H4 := show B.getD (j0 : Int).toNat 0 = B[j0] by simp [List.getD_eq_getElem?_getD, List.getElem?_eq_getElem hjB]
          have H3 := Lib.hid (show countE B (.mk 22 j0 s l) = sumS (capS (1 + B[j0])) ks by
            rw [H2.out, if_pos ⟨rfl, hm1, hm2⟩, H4, sumS_swap hks'.out hgB.1 hgB.2])
          clear H2 H4 hSB
          have hcb0 := capS_bd (n := 1 + B[j0]) (by omega)
          go_wp2_with fail
          refine (plus_any 1 B[j0] _ (by omega) (by omega) (by omega) (by omega)).mono ?_
          rintro r w1 ⟨rfl, he⟩
          have e0 := he.at e0
          have e1 := he.at e1
          have e3 := he.at e3
          go_wp2_with fail
          go_loopw [8, 52] (fun x i wr => ∃ (j : Nat) (q : Int), j ≤ ks.length ∧ i = .int .i64 j ∧ x = .int .i64 q ∧ 0 ≤ q ∧ q ≤ 1099511627776 ∧ Hid (q = sumS (capS (1 + B[j0])) (ks.take j)) ∧ Ext wo wr) (fun _ i _ => ks.length - (intOf i).toNat)
          case atStart => exact ⟨0, capS (1 + B[j0]), by omega, rfl, rfl, by omega, by omega, Lib.hid rfl, he⟩
          case round =>
            obtain ⟨j, q, hj, rfl, rfl, hq1, hq2, HH, hx⟩ := hrel
            by_cases hjl : j < ks.length
            · obtain ⟨rfl, -⟩ := z3'.out (by omega)
              have y0 := hx.at (ints_at z4'.out hjl)
              have hkb := hks'.out ks[j] (List.getElem_mem hjl)
              have HH2 := Lib.hid (show capS (q + ks[j]) = sumS (capS (1 + B[j0])) (ks.take (j + 1)) by rw [sumS_take _ ks j hjl, ← HH.out])
              have hcb := capS_bd (n := q + ks[j]) (by omega)
              clear HH
              go_wp2_with fail
              refine (plus_any q ks[j] _ (by omega) (by omega) (by omega) (by omega)).mono ?_
              rintro r w2 ⟨rfl, he3⟩
              go_wp2_with fail
              go_roundw
              case rel => exact ⟨j + 1, capS (q + ks[j]), by omega, by go_num, rfl, by omega, by omega, HH2, hx.trans he3⟩
              case measure => simp [intOf]; omega
            · have hjk : j = ks.length := by omega
              subst hjk
              have HH2 := Lib.hid (show q = sumS (capS (1 + B[j0])) ks by rw [HH.out, List.take_length])
              clear HH
              go_wp2_with fail
              go_ret
              exact ⟨ret_int (by rw [H3.out, HH2.out]), hw.trans hx⟩
        · have H3 := Lib.hid (H2.out.trans (if_neg (fun h => h22 h.1)))
          have h22b : (o == 22) = false := by simp [h22]
          clear H2 h22
          go_wp2_with fail
          go_loopw [8, 52] (fun x i wr => ∃ (j : Nat) (q : Int), j ≤ ks.length ∧ i = .int .i64 j ∧ x = .int .i64 q ∧ 0 ≤ q ∧ q ≤ 1099511627776 ∧ Hid (q = sumS 1 (ks.take j)) ∧ Ext wo wr) (fun _ i _ => ks.length - (intOf i).toNat)
          case atStart => exact ⟨0, 1, by omega, rfl, rfl, by omega, by omega, Lib.hid rfl, Ext.refl _⟩
          case round =>
            obtain ⟨j, q, hj, rfl, rfl, hq1, hq2, HH, hx⟩ := hrel
            by_cases hjl : j < ks.length
            · obtain ⟨rfl, -⟩ := z3'.out (by omega)
              have y0 := hx.at (ints_at z4'.out hjl)
              have hkb := hks'.out ks[j] (List.getElem_mem hjl)
              have HH2 := Lib.hid (show capS (q + ks[j]) = sumS 1 (ks.take (j + 1)) by rw [sumS_take _ ks j hjl, ← HH.out])
              have hcb := capS_bd (n := q + ks[j]) (by omega)
              clear HH
              go_wp2_with fail
              refine (plus_any q ks[j] _ (by omega) (by omega) (by omega) (by omega)).mono ?_
              rintro r w2 ⟨rfl, he3⟩
              go_wp2_with fail
              go_roundw
              case rel => exact ⟨j + 1, capS (q + ks[j]), by omega, by go_num, rfl, by omega, by omega, HH2, hx.trans he3⟩
              case measure => simp [intOf]; omega
            · have hjk : j = ks.length := by omega
              subst hjk
              have HH2 := Lib.hid (show q = sumS 1 ks by rw [HH.out, List.take_length])
              clear HH
              go_wp2_with fail
              go_ret
              exact ⟨ret_int (by rw [H3.out, HH2.out]), hw.trans hx⟩

set_option maxRecDepth 10000 in
set_option maxHeartbeats 2000000 in
theorem Steps_any (F : List Fn) (e : Ex) (S S1 : Nat → Prop) (vF : Value) (cs : List Value) (w : World) (hF : Rd w S1 (.sl (F.map Fn.d)) [vF]) (hr : Rd w S e.d cs) (hbd : parts e ≤ 1000000) (hp : ∀ f ∈ F, parts f.body ≤ 1000000) (hlen : F.length ≤ 1000000) (hwf : wfS F.length e = true) (hwF : ∀ i (h : i < F.length), wfS i F[i].body = true) :
    Calls Try.prog 15 #[vF, .agg cs.toArray] w fun r w' => r = .returned (.int .i64 (stepsP F e)) ∧ Ext w w' := by
  obtain ⟨A, cap, b, off, rfl, hl1, hl2, hl3, hm⟩ := Ex.open hr
  obtain ⟨AF, capF, bF, offF, rfl, F1, F2, F3, F4⟩ := Rd.sl_open hF
  simp only [List.length_map] at *
  have hr' := Lib.hid hr; have F3' := Lib.hid F3; have F4' := Lib.hid F4; have hp' := Lib.hid hp; have hwF' := Lib.hid hwF
  have hwf' := Lib.hid hwf
  clear hF hr hm hl3 F3 F4 hp hwF hwf
  go_enter Try.func15, Try.ntmps15
  go_wp2_with fail
  go_loopw [5, 10] (fun x i wr => ∃ (k : Nat) (B : List Int), k ≤ F.length ∧ i = .int .i64 k ∧ B.length = k ∧ wr.ownsRow (w.heap.size + 1) 3 1 x k (B.map (Value.int .i64)) ∧ Hid (GoodS B ∧ bodiesS [] F = bodiesS B (F.drop k)) ∧ Ext (w.alloc (.cells #[.int .i64 e.op, .int .i64 e.n, .string e.s, .slice A e.args.length cap] 25)) wr) (fun _ i _ => F.length - (intOf i).toNat)
  case atStart => exact ⟨0, [], by omega, rfl, rfl, World.ownsRow_nil _ _ _ _, Lib.hid ⟨fun k hk => by simp at hk, rfl⟩, Ext.refl _⟩
  case round =>
    obtain ⟨k, B, hk, rfl, hBk, hown, HH, hb⟩ := hrel
    have e0 : wr.cell? ⟨w.heap.size, 0, none⟩ = some (.int .i64 e.op) := hb.at (by go_simp)
    have e1 : wr.cell? ⟨w.heap.size, 1, none⟩ = some (.int .i64 e.n) := hb.at (by go_simp)
    have e2 : wr.cell? ⟨w.heap.size, 2, none⟩ = some (.string e.s) := hb.at (by go_simp)
    have e3 : wr.cell? ⟨w.heap.size, 3, none⟩ = some (.slice A e.args.length cap) := hb.at (by go_simp)
    have hw : Ext w wr := ((Ext.refl _).alloc _).trans hb
    subst hBk
    have hR := own_ints (S := Any) hown (fun _ _ => trivial)
    have hR' := Lib.hid hR
    clear hR
    by_cases hlt : B.length < F.length
    · obtain ⟨rfl, hSb⟩ := F3'.out (by omega)
      obtain ⟨A1, cap1, b1, off1, A2, cap2, b2, off2, c0, c1, c2, c3, c4, c5, c6, hr0, q1, q2, q3, q4, q5, q6, q7, q8⟩ := Fn.at (F4'.out.ext (fun _ => hSb) hw) hlt
      have hbod := Lib.hid (Ex.mk_rd q5 q6 q7 q8)
      have hpb := hp'.out F[B.length] (List.getElem_mem hlt)
      have hwb := hwF'.out B.length hlt
      have hSb' := Lib.hid hSb
      clear hr0 q3 q4 q5 q7 q8 hSb
      go_wp2_with fail
      refine (steps_any B HH.out.1 F[B.length].body _ Any _ _ _ (hR'.out.ext ((Ext.refl _).alloc _)) (hbod.out.ext ((Ext.refl _).alloc _)) hpb hwb).mono ?_
      rintro r w1 ⟨rfl, he⟩
      have he2 : Ext wr w1 := ((Ext.refl _).alloc _).trans he
      have hown1 := own_ext hown he2
      have hsz := (hb.trans he2).size
      go_wp2_with (at_builtin; refine wp_append1 _ _ _ rfl _ _ _ rfl (w.heap.size + 1) 3 1 8 _ Try.underlying31 Try.info3 rfl (by decide) (by decide) _ _ _ rfl hown1 rfl rfl (by intro u hu; simp at hu; subst hu; rfl) (by omega) (by simpa using hsz) ?_; intro v' w2 hown2 hg2 hn2)
      have HH2 := Lib.hid (show GoodS (B ++ [countE B F[B.length].body]) ∧ bodiesS [] F = bodiesS (B ++ [countE B F[B.length].body]) (F.drop (B.length + 1)) from ⟨fun x hx => by
        rcases List.mem_append.1 hx with hx | hx
        · exact HH.out.1 x hx
        · simp at hx; subst hx; exact countE_bd B HH.out.1 _, by rw [HH.out.2, List.drop_eq_getElem_cons hlt, bodiesS]⟩)
      go_roundw
      case rel => exact ⟨B.length + 1, B ++ [countE B F[B.length].body], by omega, by go_num, by simp, by simpa using hown2, HH2, (hb.trans he2).grown hown1 (by simp) hg2⟩
      case measure => simp [intOf]; omega
    · have hkl : F.drop B.length = [] := List.drop_eq_nil_of_le (by omega)
      have H := Lib.hid (show stepsP F e = countE B e by unfold stepsP; rw [HH.out.2, hkl, bodiesS])
      have hBF : B.length = F.length := by omega
      clear hkl
      go_wp2_with fail
      refine (steps_any B HH.out.1 e S Any _ _ wr hR'.out (hr'.out.ext hw) hbd (by rw [hBF]; exact hwf'.out)).mono ?_
      rintro r w1 ⟨rfl, he⟩
      go_wp2_with fail
      go_ret
      exact ⟨ret_int (by rw [H.out]), hw.trans he⟩
end Go.Proofs.Ytmhelkhmgbbfhaa
