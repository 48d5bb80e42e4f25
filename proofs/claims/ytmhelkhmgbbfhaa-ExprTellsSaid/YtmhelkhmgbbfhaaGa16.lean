/- Walks: the program's steps. -/
import Derived.ChangeArms
import Derived.Lib.LaidU8
import Derived.Test.YtmhelkhmgbbfhaaGa1
import Derived.Test.YtmhelkhmgbbfhaaGa2
import Derived.Test.YtmhelkhmgbbfhaaGa12
namespace Go.Proofs.Ytmhelkhmgbbfhaa
open Go.RowKit Go.Lib

set_option maxHeartbeats 1000000 in
theorem plus_any (a b : Int) (w : World) (ha : 0 ≤ a) (ha2 : a ≤ 1099511627777) (hb : 0 ≤ b) (hb2 : b ≤ 1099511627776) : Calls Try.prog 80 #[.int .i64 a, .int .i64 b] w fun r w' => r = .returned (.int .i64 (capS (a + b))) ∧ Ext w w' := by
  go_enter Try.func80, Try.ntmps80
  go_wp2_with fail
  go_ret
  exact ⟨ret_int (by unfold capS; rfl), Ext.refl _⟩

set_option maxRecDepth 100000 in
set_option maxHeartbeats 4000000 in
theorem steps_any (B : List Int) (hB : GoodS B) (e : Ex) : ∀ (S S1 : Nat → Prop) (vB : Value) (cs : List Value) (w : World), Rd w S1 (.sl (B.map D.int)) [vB] → Rd w S e.d cs → parts e ≤ 1000000 → wfS B.length e = true →
    Calls Try.prog 43 #[vB, .agg cs.toArray] w fun r w' => r = .returned (.int .i64 (countE B e)) ∧ Ext w w' := by
  induction e using Ex.ind with | h o m s l ih => ?_
  intro S S1 vB cs w hvB hr hbd hwf
  obtain ⟨A, cap, b, off, rfl, hl1, hl2, hl3, hm⟩ := Ex.open hr
  obtain ⟨AB, capB, bB, offB, rfl, B1, B2, B3, B4⟩ := Rd.sl_open hvB
  simp only [Ex.args, Ex.op, Ex.n, Ex.s, List.length_map] at *
  have hll : l.length ≤ 1000000 := by rw [parts] at hbd; have := partsL_len l; omega
  have hvB' := Lib.hid hvB; have hl3' := Lib.hid hl3; have hm' := Lib.hid hm; have B3' := Lib.hid B3; have B4' := Lib.hid B4
  have hB' := Lib.hid hB
  have H := Lib.hid (show countE B (.mk o m s l) = stepsOf B o m (l.map (countE B)) by rw [countE, countL_map])
  have hks : GoodS (l.map (countE B)) := by rw [← countL_map]; exact countL_good B hB l
  have hks' := Lib.hid hks
  rw [wfS, wfSL_all] at hwf
  simp only [Bool.and_eq_true, List.all_eq_true, Bool.or_eq_true, Bool.not_eq_true', decide_eq_false_iff_not, decide_eq_true_eq] at hwf
  obtain ⟨⟨hw1, hw2⟩, hw3⟩ := hwf
  have hw1' := Lib.hid hw1; have hw2' := Lib.hid hw2; have hw3' := Lib.hid hw3
  clear hvB hr hl3 hm B3 B4 hB hks hw1 hw2 hw3
  go_enter Try.func43, Try.ntmps43
  go_wp2_with fail
  go_loopw [5, 14] (fun x i wr => ∃ (k : Nat), k ≤ l.length ∧ i = .int .i64 k ∧ wr.ownsRow (w.heap.size + 1) 3 1 x k (((l.map (countE B)).take k).map (Value.int .i64)) ∧ Ext (w.alloc (.cells #[.int .i64 o, .int .i64 m, .string s, .slice A l.length cap] 25)) wr) (fun _ i _ => l.length - (intOf i).toNat)
  case atStart => exact ⟨0, by omega, rfl, World.ownsRow_nil _ _ _ _, Ext.refl _⟩
  case round =>
    obtain ⟨k, hk, rfl, hown, hb⟩ := hrel
    have e0 : wr.cell? ⟨w.heap.size, 0, none⟩ = some (.int .i64 o) := hb.at (by go_simp)
    have e1 : wr.cell? ⟨w.heap.size, 1, none⟩ = some (.int .i64 m) := hb.at (by go_simp)
    have e3 : wr.cell? ⟨w.heap.size, 3, none⟩ = some (.slice A l.length cap) := hb.at (by go_simp)
    have hw : Ext w wr := ((Ext.refl _).alloc _).trans hb
    by_cases hlt : k < l.length
    · obtain ⟨rfl, hSb⟩ := hl3'.out (by omega)
      obtain ⟨A1, cap1, b1, off1, c0, c1, c2, c3, hr', -⟩ := Ex.at (hm'.out.ext (fun _ => hSb) hw) hlt
      have hr2 := Lib.hid hr'
      have hSb' := Lib.hid hSb
      clear hr' hSb
      have hpb : parts l[k] ≤ 1000000 := by rw [parts] at hbd; have := partsL_mem l l[k] (List.getElem_mem hlt); omega
      have hwf := hw3'.out l[k] (List.getElem_mem hlt)
      go_wp2_with fail
      refine (ih l[k] (List.getElem_mem hlt) S S1 _ _ _ (hvB'.out.ext (hw.alloc _)) (hr2.out.ext ((Ext.refl _).alloc _)) hpb hwf).mono ?_
      rintro r w1 ⟨rfl, he⟩
      have he2 : Ext wr w1 := ((Ext.refl _).alloc _).trans he
      have hown1 : w1.ownsRow (w.heap.size + 1) 3 1 _ k (((l.map (countE B)).take k).map (Value.int .i64)) := own_ext hown he2
      have hsz := (hb.trans he2).size
      have hd := Lib.hid (show (((l.map (countE B)).take (k + 1)).map (Value.int .i64)) = (((l.map (countE B)).take k).map (Value.int .i64)) ++ [Value.int .i64 (countE B l[k])] by rw [List.take_succ_eq_append_getElem (by simpa using hlt)]; simp)
      go_wp2_with (at_builtin; refine wp_append1 _ _ _ rfl _ _ _ rfl (w.heap.size + 1) 3 1 8 _ Try.underlying31 Try.info3 rfl (by decide) (by decide) _ _ _ rfl hown1 rfl rfl (by intro u hu; simp at hu; subst hu; rfl) (by omega) (by simpa using hsz) ?_; intro v' w2 hown2 hg2 hn2)
      go_roundw
      case rel => exact ⟨k + 1, by omega, by go_num, by rw [hd.out]; exact hown2, (hb.trans he2).grown hown1 (by simp) hg2⟩
      case measure => simp [intOf]; omega
    · have hkl : k = l.length := by omega
      subst hkl
      obtain ⟨ks, hks2⟩ : ∃ ks, ks = l.map (countE B) := ⟨_, rfl⟩
      rw [← hks2] at hown H hks'
      have hlen : ks.length = l.length := by rw [hks2]; simp
      rw [← hlen] at hown
      rw [List.take_length] at hown
      have hR := own_ints (S := Any) hown (fun _ _ => trivial)
      obtain ⟨A9, cap9, b9, off9, rfl, z1, z2, z3, z4⟩ := Rd.sl_open hR
      simp only [List.length_map] at *
      have z3' := Lib.hid z3; have z4' := Lib.hid z4
      have hlen' := Lib.hid hlen
      have hkl2 : ks.length ≤ 1000000 := by omega
      clear hR z3 z4 hown hlt hks2
      by_cases h3 : o = 21
      · subst h3
        have hl : ks.length = 3 := by rw [hlen]; exact hw1'.out.resolve_left (by simp)
        obtain ⟨x0, x1, x2, rfl⟩ := len_3s hl
        obtain ⟨rfl, -⟩ := z3'.out (by simp)
        have y0 := ints_at z4'.out (k := 0) (by simp)
        have y1 := ints_at z4'.out (k := 1) (by simp)
        have y2 := ints_at z4'.out (k := 2) (by simp)
        simp only [List.getElem_cons_zero, List.getElem_cons_succ, Nat.add_zero, List.length_cons, List.length_nil, Nat.zero_add, Nat.reduceAdd] at *
        have k0 := hks'.out x0 (by simp)
        have k1 := hks'.out x1 (by simp)
        have k2 := hks'.out x2 (by simp)
        have H2 := Lib.hid (H.out.trans (stepsOf_if B _ m rfl))
        have hp := Lib.hid (fun X => plus_any (1 + x0) (max x1 x2) X (by omega) (by omega) (by omega) (by omega))
        clear H hlen hl
        have gy0 := ExtW.at y0
        have gy1 := ExtW.at y1
        have gy2 := ExtW.at y2
        go_wp2_with fail
        refine wp_region_ext (by kernel_rfl) (by kernel_rfl) ?_
        repeat (go_big_quiet_step (((go_at_call 80; exact Calls.ext_of (hp.out _)))))
        refine wpQuiet_nil ?_
        intro w1 he
        go_wp2_with fail
        go_ret
        exact ⟨ret_int (by rw [H2.out]), hw.trans he⟩
      · have H2 := Lib.hid (H.out.trans (stepsOf_sum B ks o m (Or.inl h3)))
        have h21 : (o == 21) = false := by simp [h3]
        clear H h3 hlen
        obtain ⟨wo, rfl⟩ : ∃ wo : World, wo = wr := ⟨_, rfl⟩
        by_cases h22 : o = 22
        · subst h22
          obtain ⟨hm1, hm2⟩ := hw2'.out.resolve_left (by simp)
          obtain ⟨j0, rfl⟩ := Int.eq_ofNat_of_zero_le hm1
          have hjB : j0 < B.length := by omega
          obtain ⟨rfl, hSB⟩ := B3'.out (by omega)
          have y0 := ints_at (B4'.out.ext (fun _ => hSB) hw) hjB
          have hgB := hB'.out B[j0] (List.getElem_mem hjB)
          have H4 := show B.getD (j0 : Int).toNat 0 = B[j0] by simp [List.getD_eq_getElem?_getD, List.getElem?_eq_getElem hjB]
          have H3 := Lib.hid (show countE B (.mk 22 j0 s l) = sumS (capS (1 + B[j0])) ks by
            rw [H2.out, if_pos ⟨rfl, hm1, hm2⟩, H4, sumS_swap hks'.out hgB.1 hgB.2])
          clear H2 H4 hSB
          have hcb0 := capS_bd (n := 1 + B[j0]) (by omega)
          go_wp2_with fail
          refine (plus_any 1 B[j0] _ (by omega) (by omega) (by omega) (by omega)).mono ?_
          rintro r w1 ⟨rfl, he⟩
          have e0 := he.at e0
          have e1 := he.at e1
          have e3 := he.at e3
          go_wp2_with fail
          go_loopw [8, 52] (fun x i wr => ∃ (j : Nat) (q : Int), j ≤ ks.length ∧ i = .int .i64 j ∧ x = .int .i64 q ∧ 0 ≤ q ∧ q ≤ 1099511627776 ∧ Hid (q = sumS (capS (1 + B[j0])) (ks.take j)) ∧ Ext wo wr) (fun _ i _ => ks.length - (intOf i).toNat)
          case atStart => exact ⟨0, capS (1 + B[j0]), by omega, rfl, rfl, by omega, by omega, Lib.hid rfl, he⟩
          case round =>
            obtain ⟨j, q, hj, rfl, rfl, hq1, hq2, HH, hx⟩ := hrel
            by_cases hjl : j < ks.length
            · obtain ⟨rfl, -⟩ := z3'.out (by omega)
              have y0 := hx.at (ints_at z4'.out hjl)
              have hkb := hks'.out ks[j] (List.getElem_mem hjl)
              have HH2 := Lib.hid (show capS (q + ks[j]) = sumS (capS (1 + B[j0])) (ks.take (j + 1)) by rw [sumS_take _ ks j hjl, ← HH.out])
              have hcb := capS_bd (n := q + ks[j]) (by omega)
              clear HH
              go_wp2_with fail
              refine (plus_any q ks[j] _ (by omega) (by omega) (by omega) (by omega)).mono ?_
              rintro r w2 ⟨rfl, he3⟩
              go_wp2_with fail
              go_roundw
              case rel => exact ⟨j + 1, capS (q + ks[j]), by omega, by go_num, rfl, by omega, by omega, HH2, hx.trans he3⟩
              case measure => simp [intOf]; omega
            · have hjk : j = ks.length := by omega
              subst hjk
              have HH2 := Lib.hid (show q = sumS (capS (1 + B[j0])) ks by rw [HH.out, List.take_length])
              clear HH
              go_wp2_with fail
              go_ret
              exact ⟨ret_int (by rw [H3.out, HH2.out]), hw.trans hx⟩
        · have H3 := Lib.hid (H2.out.trans (if_neg (fun h => h22 h.1)))
          have h22b : (o == 22) = false := by simp [h22]
          clear H2 h22
          go_wp2_with fail
          go_loopw [8, 52] (fun x i wr => ∃ (j : Nat) (q : Int), j ≤ ks.length ∧ i = .int .i64 j ∧ x = .int .i64 q ∧ 0 ≤ q ∧ q ≤ 1099511627776 ∧ Hid (q = sumS 1 (ks.take j)) ∧ Ext wo wr) (fun _ i _ => ks.length - (intOf i).toNat)
          case atStart => exact ⟨0, 1, by omega, rfl, rfl, by omega, by omega, Lib.hid rfl, Ext.refl _⟩
          case round =>
            obtain ⟨j, q, hj, rfl, rfl, hq1, hq2, HH, hx⟩ := hrel
            by_cases hjl : j < ks.length
            · obtain ⟨rfl, -⟩ := z3'.out (by omega)
              have y0 := hx.at (ints_at z4'.out hjl)
              have hkb := hks'.out ks[j] (List.getElem_mem hjl)
              have HH2 := Lib.hid (show capS (q + ks[j]) = sumS 1 (ks.take (j + 1)) by rw [sumS_take _ ks j hjl, ← HH.out])
              have hcb := capS_bd (n := q + ks[j]) (by omega)
              clear HH
              go_wp2_with fail
              refine (plus_any q ks[j] _ (by omega) (by omega) (by omega) (by omega)).mono ?_
              rintro r w2 ⟨rfl, he3⟩
              go_wp2_with fail
              go_roundw
              case rel => exact ⟨j + 1, capS (q + ks[j]), by omega, by go_num, rfl, by omega, by omega, HH2, hx.trans he3⟩
              case measure => simp [intOf]; omega
            · have hjk : j = ks.length := by omega
              subst hjk
              have HH2 := Lib.hid (show q = sumS 1 ks by rw [HH.out, List.take_length])
              clear HH
              go_wp2_with fail
              go_ret
              exact ⟨ret_int (by rw [H3.out, HH2.out]), hw.trans hx⟩

set_option maxRecDepth 10000 in
set_option maxHeartbeats 2000000 in
theorem Steps_any (F : List Fn) (e : Ex) (S S1 : Nat → Prop) (vF : Value) (cs : List Value) (w : World) (hF : Rd w S1 (.sl (F.map Fn.d)) [vF]) (hr : Rd w S e.d cs) (hbd : parts e ≤ 1000000) (hp : ∀ f ∈ F, parts f.body ≤ 1000000) (hlen : F.length ≤ 1000000) (hwf : wfS F.length e = true) (hwF : ∀ i (h : i < F.length), wfS i F[i].body = true) :
    Calls Try.prog 15 #[vF, .agg cs.toArray] w fun r w' => r = .returned (.int .i64 (stepsP F e)) ∧ Ext w w' := by
  obtain ⟨A, cap, b, off, rfl, hl1, hl2, hl3, hm⟩ := Ex.open hr
  obtain ⟨AF, capF, bF, offF, rfl, F1, F2, F3, F4⟩ := Rd.sl_open hF
  simp only [List.length_map] at *
  have hr' := Lib.hid hr; have F3' := Lib.hid F3; have F4' := Lib.hid F4; have hp' := Lib.hid hp; have hwF' := Lib.hid hwF
  have hwf' := Lib.hid hwf
  clear hF hr hm hl3 F3 F4 hp hwF hwf
  go_enter Try.func15, Try.ntmps15
  go_wp2_with fail
  go_loopw [5, 10] (fun x i wr => ∃ (k : Nat) (B : List Int), k ≤ F.length ∧ i = .int .i64 k ∧ B.length = k ∧ wr.ownsRow (w.heap.size + 1) 3 1 x k (B.map (Value.int .i64)) ∧ Hid (GoodS B ∧ bodiesS [] F = bodiesS B (F.drop k)) ∧ Ext (w.alloc (.cells #[.int .i64 e.op, .int .i64 e.n, .string e.s, .slice A e.args.length cap] 25)) wr) (fun _ i _ => F.length - (intOf i).toNat)
  case atStart => exact ⟨0, [], by omega, rfl, rfl, World.ownsRow_nil _ _ _ _, Lib.hid ⟨fun k hk => by simp at hk, rfl⟩, Ext.refl _⟩
  case round =>
    obtain ⟨k, B, hk, rfl, hBk, hown, HH, hb⟩ := hrel
    have e0 : wr.cell? ⟨w.heap.size, 0, none⟩ = some (.int .i64 e.op) := hb.at (by go_simp)
    have e1 : wr.cell? ⟨w.heap.size, 1, none⟩ = some (.int .i64 e.n) := hb.at (by go_simp)
    have e2 : wr.cell? ⟨w.heap.size, 2, none⟩ = some (.string e.s) := hb.at (by go_simp)
    have e3 : wr.cell? ⟨w.heap.size, 3, none⟩ = some (.slice A e.args.length cap) := hb.at (by go_simp)
    have hw : Ext w wr := ((Ext.refl _).alloc _).trans hb
    subst hBk
    have hR := own_ints (S := Any) hown (fun _ _ => trivial)
    have hR' := Lib.hid hR
    clear hR
    by_cases hlt : B.length < F.length
    · obtain ⟨rfl, hSb⟩ := F3'.out (by omega)
      obtain ⟨A1, cap1, b1, off1, A2, cap2, b2, off2, c0, c1, c2, c3, c4, c5, c6, hr0, q1, q2, q3, q4, q5, q6, q7, q8⟩ := Fn.at (F4'.out.ext (fun _ => hSb) hw) hlt
      have hbod := Lib.hid (Ex.mk_rd q5 q6 q7 q8)
      have hpb := hp'.out F[B.length] (List.getElem_mem hlt)
      have hwb := hwF'.out B.length hlt
      have hSb' := Lib.hid hSb
      clear hr0 q3 q4 q5 q7 q8 hSb
      go_wp2_with fail
      refine (steps_any B HH.out.1 F[B.length].body _ Any _ _ _ (hR'.out.ext ((Ext.refl _).alloc _)) (hbod.out.ext ((Ext.refl _).alloc _)) hpb hwb).mono ?_
      rintro r w1 ⟨rfl, he⟩
      have he2 : Ext wr w1 := ((Ext.refl _).alloc _).trans he
      have hown1 := own_ext hown he2
      have hsz := (hb.trans he2).size
      go_wp2_with (at_builtin; refine wp_append1 _ _ _ rfl _ _ _ rfl (w.heap.size + 1) 3 1 8 _ Try.underlying31 Try.info3 rfl (by decide) (by decide) _ _ _ rfl hown1 rfl rfl (by intro u hu; simp at hu; subst hu; rfl) (by omega) (by simpa using hsz) ?_; intro v' w2 hown2 hg2 hn2)
      have HH2 := Lib.hid (show GoodS (B ++ [countE B F[B.length].body]) ∧ bodiesS [] F = bodiesS (B ++ [countE B F[B.length].body]) (F.drop (B.length + 1)) from ⟨fun x hx => by
        rcases List.mem_append.1 hx with hx | hx
        · exact HH.out.1 x hx
        · simp at hx; subst hx; exact countE_bd B HH.out.1 _, by rw [HH.out.2, List.drop_eq_getElem_cons hlt, bodiesS]⟩)
      go_roundw
      case rel => exact ⟨B.length + 1, B ++ [countE B F[B.length].body], by omega, by go_num, by simp, by simpa using hown2, HH2, (hb.trans he2).grown hown1 (by simp) hg2⟩
      case measure => simp [intOf]; omega
    · have hkl : F.drop B.length = [] := List.drop_eq_nil_of_le (by omega)
      have H := Lib.hid (show stepsP F e = countE B e by unfold stepsP; rw [HH.out.2, hkl, bodiesS])
      have hBF : B.length = F.length := by omega
      clear hkl
      go_wp2_with fail
      refine (steps_any B HH.out.1 e S Any _ _ wr hR'.out (hr'.out.ext hw) hbd (by rw [hBF]; exact hwf'.out)).mono ?_
      rintro r w1 ⟨rfl, he⟩
      go_wp2_with fail
      go_ret
      exact ⟨ret_int (by rw [H.out]), hw.trans he⟩
end Go.Proofs.Ytmhelkhmgbbfhaa

/- Walks: whether an expression reads the time, of the reference. -/
namespace Go.Proofs.Ytmhelkhmgbbfhaa
open Go.RowKit Go.Lib

mutual
def timE (B : List Bool) : Ex → Bool
  | .mk o n _ l => decide (o = 5) || (if o = 22 ∧ 0 ≤ n ∧ n < B.length then B.getD n.toNat false else false) || timL B l
def timL (B : List Bool) : List Ex → Bool
  | [] => false
  | e :: l => timE B e || timL B l
end
theorem timL_any (B : List Bool) : ∀ l, timL B l = l.any (timE B)
  | [] => by rw [timL]; rfl
  | e :: l => by rw [timL, timL_any B l]; rfl
def bodiesT : List Bool → List Fn → List Bool
  | B, [] => B
  | B, f :: F => bodiesT (B ++ [timE B f.body]) F
def timedP (F : List Fn) (e : Ex) : Bool := timE (bodiesT [] F) e

theorem bools_at {w : World} {S : Nat → Prop} {l : List Bool} {b off : Nat} (hm : RdM w S (l.map D.bool) b off) {k : Nat} (hk : k < l.length) : w.cell? ⟨b, off + k, none⟩ = some (.bool l[k]) := by
  obtain ⟨cs, hc, hr⟩ := RdM.get (sz := 1) _ b off hm (fun d hd => by obtain ⟨x, -, rfl⟩ := List.mem_map.1 hd; rfl) k (by simpa using hk)
  rw [List.getElem_map, Rd] at hr
  subst hr
  simp only [CellsAt, and_true] at hc
  simpa using hc
theorem rdS_bools (w : World) (S : Nat → Prop) : ∀ l : List Bool, RdS w S (l.map D.bool) (l.map Value.bool)
  | [] => by rw [List.map_nil, List.map_nil, RdS]
  | x :: l => by
    rw [List.map_cons, List.map_cons, RdS]
    exact ⟨[.bool x], _, rfl, by rw [Rd], rdS_bools w S l⟩
theorem own_bools {w : World} {S : Nat → Prop} {B : Nat} {v : Value} {l : List Bool} (h : w.ownsRow B 4 1 v l.length (l.map Value.bool)) (hS : ∀ b, v.ownBlock = some b → S b) : Rd w S (.sl (l.map D.bool)) [v] :=
  own_rd (l := l.map D.bool) (S := S) (by simpa using h) (rdS_bools w S l) (fun _ h => h) hS

set_option maxRecDepth 100000 in
set_option maxHeartbeats 4000000 in
theorem rtimed_any (B : List Bool) (e : Ex) : ∀ (S S1 : Nat → Prop) (vB : Value) (cs : List Value) (w : World), Rd w S1 (.sl (B.map D.bool)) [vB] → Rd w S e.d cs → parts e ≤ 1000000 →
    Calls Try.prog 54 #[vB, .agg cs.toArray] w fun r w' => r = .returned (.bool (timE B e)) ∧ Ext w w' := by
  induction e using Ex.ind with | h o m s l ih => ?_
  intro S S1 vB cs w hvB hr hbd
  obtain ⟨A, cap, b, off, rfl, hl1, hl2, hl3, hm⟩ := Ex.open hr
  obtain ⟨AB, capB, bB, offB, rfl, B1, B2, B3, B4⟩ := Rd.sl_open hvB
  have ih' := Lib.hid ih
  clear ih
  simp only [Ex.args, Ex.op, Ex.n, Ex.s, List.length_map] at hl1 hl2 hl3 hm B1 B2 B3 B4 hvB ⊢
  have hll : l.length ≤ 1000000 := by rw [parts] at hbd; have := partsL_len l; omega
  have hvB' := Lib.hid hvB; have hl3' := Lib.hid hl3; have hm' := Lib.hid hm
  clear hr hl3 hm hvB
  by_cases h5 : o = 5
  · subst h5
    have H := Lib.hid (show timE B (.mk 5 m s l) = true by rw [timE]; simp)
    go_enter Try.func54, Try.ntmps54
    go_wp2_with fail
    go_ret
    exact ⟨ret_bool (by rw [H.out]), (by repeat' first | exact Ext.refl _ | assumption | apply Ext.alloc | apply Ext.drew | apply Ext.drewN | (refine Ext.trans ?_ (by assumption)))⟩
  have h5b : (o == 5) = false := by simp [h5]
  by_cases hc : o = 22 ∧ 0 ≤ m ∧ m < B.length
  · obtain ⟨rfl, hm1, hm2⟩ := hc
    obtain ⟨j, rfl⟩ := Int.eq_ofNat_of_zero_le hm1
    have hjB : j < B.length := by omega
    obtain ⟨rfl, hSB⟩ := B3 (by omega)
    have y0 := bools_at B4 hjB
    have y0' : ∀ o1, (w.alloc o1).cell? _ = some _ := fun o1 => ((Ext.refl w).alloc o1).at y0
    have H4 : B.getD (j : Int).toNat false = B[j] := by simp [List.getD_eq_getElem?_getD, List.getElem?_eq_getElem hjB]
    have H0 := Lib.hid (show timE B (.mk 22 j s l) = (B[j] || timL B l) by rw [timE, if_pos ⟨rfl, hm1, hm2⟩, H4, decide_eq_false (show ¬ ((22 : Int) = 5) by decide), Bool.false_or])
    clear B3 B4 H4 hm1
    cases hbj : B[j] with
    | true =>
      rw [hbj] at y0 y0'
      have H := Lib.hid (show timE B (.mk 22 j s l) = true by rw [H0.out, hbj]; rfl)
      clear hbj
      go_enter Try.func54, Try.ntmps54
      go_wp2_with fail
      go_ret
      exact ⟨ret_bool (by rw [H.out]), (by repeat' first | exact Ext.refl _ | assumption | apply Ext.alloc | apply Ext.drew | apply Ext.drewN | (refine Ext.trans ?_ (by assumption)))⟩
    | false =>
      rw [hbj] at y0 y0'
      have H := Lib.hid (show timE B (.mk 22 j s l) = timL B l by rw [H0.out, hbj]; rfl)
      clear hbj
      go_enter Try.func54, Try.ntmps54
      go_wp2_with fail
      generalize hWe : World.alloc w _ = W
      have e3 : W.cell? ⟨w.heap.size, 3, none⟩ = some (.slice A l.length cap) := by rw [← hWe]; clear hWe; go_simp
      have hwW : Ext w W := by rw [← hWe]; exact (by repeat' first | exact Ext.refl _ | assumption | apply Ext.alloc | apply Ext.drew | apply Ext.drewN | (refine Ext.trans ?_ (by assumption)))
      clear hWe
      go_loopw [5] (fun i wr => ∃ (k : Nat), k ≤ l.length ∧ i = .int .i64 k ∧ Hid (timL B (l.take k) = false) ∧ Ext W wr) (fun i _ => l.length - (intOf i).toNat)
      case atStart => exact ⟨0, by omega, rfl, Lib.hid (by rw [List.take_zero, timL]), Ext.refl _⟩
      case round =>
        obtain ⟨k, hk, rfl, HH, hb⟩ := hrel
        replace e3 := hb.at e3
        have hw : Ext w wr := hwW.trans hb
        by_cases hk2 : k < l.length
        · obtain ⟨rfl, hSb⟩ := hl3'.out (by omega)
          obtain ⟨A1, cp1, bb1, of1, c0, c1, c2, c3, hr', -⟩ := Ex.at (hm'.out.ext (fun _ => hSb) hw) hk2
          have hpk : parts l[k] ≤ 1000000 := by rw [parts] at hbd; have := partsL_mem l l[k] (List.getElem_mem hk2); omega
          have hcall := ih'.out l[k] (List.getElem_mem hk2) S S1 _ _ wr (hvB'.out.ext hw) hr' hpk
          have hcall' := Lib.hid hcall
          have hki : (k : Int) < (l.length : Int) := by omega
          clear hr' hSb hcall
          cases hsk : timE B l[k] with
          | true =>
            have H2 := Lib.hid (H.out.trans (show timL B l = true by rw [timL_any, List.any_eq_true]; exact ⟨l[k], List.getElem_mem hk2, hsk⟩))
            rw [hsk] at hcall'
            clear hsk H
            go_wp2_with fail
            refine (hcall'.out).mono ?_
            rintro r w2 ⟨rfl, he⟩
            go_wp2_with fail
            go_ret
            exact ⟨ret_bool (by rw [H2.out]), hw.trans he⟩
          | false =>
            have HH2 := Lib.hid (show timL B (l.take (k + 1)) = false by rw [timL_any, List.take_succ_eq_append_getElem hk2, List.any_append, ← timL_any, HH.out]; simp [hsk])
            rw [hsk] at hcall'
            clear hsk
            go_wp2_with fail
            refine (hcall'.out).mono ?_
            rintro r w2 ⟨rfl, he⟩
            go_wp2_with fail
            go_roundw
            case rel => exact ⟨k + 1, by omega, by go_num, HH2, hb.trans he⟩
            case measure => simp [intOf]; omega
        · have hkl : k = l.length := by omega
          subst hkl
          have H2 := Lib.hid (H.out.trans (show timL B l = false by have := HH.out; rwa [List.take_length] at this))
          clear H
          go_wp2_with fail
          go_ret
          exact ⟨ret_bool (by rw [H2.out]), hw⟩
  · have H := Lib.hid (show timE B (.mk o m s l) = timL B l by rw [timE, if_neg hc]; simp [h5])
    by_cases h22 : o = 22
    · subst h22
      by_cases hm0 : 0 ≤ m
      · have hm1 : ¬ m < (B.length : Int) := by omega
        clear hc B3 B4
        go_enter Try.func54, Try.ntmps54
        go_wp2_with fail
        generalize hWe : World.alloc w _ = W
        have e3 : W.cell? ⟨w.heap.size, 3, none⟩ = some (.slice A l.length cap) := by rw [← hWe]; clear hWe; go_simp
        have hwW : Ext w W := by rw [← hWe]; exact (by repeat' first | exact Ext.refl _ | assumption | apply Ext.alloc | apply Ext.drew | apply Ext.drewN | (refine Ext.trans ?_ (by assumption)))
        clear hWe
        go_loopw [5] (fun i wr => ∃ (k : Nat), k ≤ l.length ∧ i = .int .i64 k ∧ Hid (timL B (l.take k) = false) ∧ Ext W wr) (fun i _ => l.length - (intOf i).toNat)
        case atStart => exact ⟨0, by omega, rfl, Lib.hid (by rw [List.take_zero, timL]), Ext.refl _⟩
        case round =>
          obtain ⟨k, hk, rfl, HH, hb⟩ := hrel
          replace e3 := hb.at e3
          have hw : Ext w wr := hwW.trans hb
          by_cases hk2 : k < l.length
          · obtain ⟨rfl, hSb⟩ := hl3'.out (by omega)
            obtain ⟨A1, cp1, bb1, of1, c0, c1, c2, c3, hr', -⟩ := Ex.at (hm'.out.ext (fun _ => hSb) hw) hk2
            have hpk : parts l[k] ≤ 1000000 := by rw [parts] at hbd; have := partsL_mem l l[k] (List.getElem_mem hk2); omega
            have hcall := ih'.out l[k] (List.getElem_mem hk2) S S1 _ _ wr (hvB'.out.ext hw) hr' hpk
            have hcall' := Lib.hid hcall
            have hki : (k : Int) < (l.length : Int) := by omega
            clear hr' hSb hcall
            cases hsk : timE B l[k] with
            | true =>
              have H2 := Lib.hid (H.out.trans (show timL B l = true by rw [timL_any, List.any_eq_true]; exact ⟨l[k], List.getElem_mem hk2, hsk⟩))
              rw [hsk] at hcall'
              clear hsk H
              go_wp2_with fail
              refine (hcall'.out).mono ?_
              rintro r w2 ⟨rfl, he⟩
              go_wp2_with fail
              go_ret
              exact ⟨ret_bool (by rw [H2.out]), hw.trans he⟩
            | false =>
              have HH2 := Lib.hid (show timL B (l.take (k + 1)) = false by rw [timL_any, List.take_succ_eq_append_getElem hk2, List.any_append, ← timL_any, HH.out]; simp [hsk])
              rw [hsk] at hcall'
              clear hsk
              go_wp2_with fail
              refine (hcall'.out).mono ?_
              rintro r w2 ⟨rfl, he⟩
              go_wp2_with fail
              go_roundw
              case rel => exact ⟨k + 1, by omega, by go_num, HH2, hb.trans he⟩
              case measure => simp [intOf]; omega
          · have hkl : k = l.length := by omega
            subst hkl
            have H2 := Lib.hid (H.out.trans (show timL B l = false by have := HH.out; rwa [List.take_length] at this))
            clear H
            go_wp2_with fail
            go_ret
            exact ⟨ret_bool (by rw [H2.out]), hw⟩
      · clear hc B3 B4
        go_enter Try.func54, Try.ntmps54
        go_wp2_with fail
        generalize hWe : World.alloc w _ = W
        have e3 : W.cell? ⟨w.heap.size, 3, none⟩ = some (.slice A l.length cap) := by rw [← hWe]; clear hWe; go_simp
        have hwW : Ext w W := by rw [← hWe]; exact (by repeat' first | exact Ext.refl _ | assumption | apply Ext.alloc | apply Ext.drew | apply Ext.drewN | (refine Ext.trans ?_ (by assumption)))
        clear hWe
        go_loopw [5] (fun i wr => ∃ (k : Nat), k ≤ l.length ∧ i = .int .i64 k ∧ Hid (timL B (l.take k) = false) ∧ Ext W wr) (fun i _ => l.length - (intOf i).toNat)
        case atStart => exact ⟨0, by omega, rfl, Lib.hid (by rw [List.take_zero, timL]), Ext.refl _⟩
        case round =>
          obtain ⟨k, hk, rfl, HH, hb⟩ := hrel
          replace e3 := hb.at e3
          have hw : Ext w wr := hwW.trans hb
          by_cases hk2 : k < l.length
          · obtain ⟨rfl, hSb⟩ := hl3'.out (by omega)
            obtain ⟨A1, cp1, bb1, of1, c0, c1, c2, c3, hr', -⟩ := Ex.at (hm'.out.ext (fun _ => hSb) hw) hk2
            have hpk : parts l[k] ≤ 1000000 := by rw [parts] at hbd; have := partsL_mem l l[k] (List.getElem_mem hk2); omega
            have hcall := ih'.out l[k] (List.getElem_mem hk2) S S1 _ _ wr (hvB'.out.ext hw) hr' hpk
            have hcall' := Lib.hid hcall
            have hki : (k : Int) < (l.length : Int) := by omega
            clear hr' hSb hcall
            cases hsk : timE B l[k] with
            | true =>
              have H2 := Lib.hid (H.out.trans (show timL B l = true by rw [timL_any, List.any_eq_true]; exact ⟨l[k], List.getElem_mem hk2, hsk⟩))
              rw [hsk] at hcall'
              clear hsk H
              go_wp2_with fail
              refine (hcall'.out).mono ?_
              rintro r w2 ⟨rfl, he⟩
              go_wp2_with fail
              go_ret
              exact ⟨ret_bool (by rw [H2.out]), hw.trans he⟩
            | false =>
              have HH2 := Lib.hid (show timL B (l.take (k + 1)) = false by rw [timL_any, List.take_succ_eq_append_getElem hk2, List.any_append, ← timL_any, HH.out]; simp [hsk])
              rw [hsk] at hcall'
              clear hsk
              go_wp2_with fail
              refine (hcall'.out).mono ?_
              rintro r w2 ⟨rfl, he⟩
              go_wp2_with fail
              go_roundw
              case rel => exact ⟨k + 1, by omega, by go_num, HH2, hb.trans he⟩
              case measure => simp [intOf]; omega
          · have hkl : k = l.length := by omega
            subst hkl
            have H2 := Lib.hid (H.out.trans (show timL B l = false by have := HH.out; rwa [List.take_length] at this))
            clear H
            go_wp2_with fail
            go_ret
            exact ⟨ret_bool (by rw [H2.out]), hw⟩
    · have h22b : (o == 22) = false := by simp [h22]
      clear hc B3 B4
      go_enter Try.func54, Try.ntmps54
      go_wp2_with fail
      generalize hWe : World.alloc w _ = W
      have e3 : W.cell? ⟨w.heap.size, 3, none⟩ = some (.slice A l.length cap) := by rw [← hWe]; clear hWe; go_simp
      have hwW : Ext w W := by rw [← hWe]; exact (by repeat' first | exact Ext.refl _ | assumption | apply Ext.alloc | apply Ext.drew | apply Ext.drewN | (refine Ext.trans ?_ (by assumption)))
      clear hWe
      go_loopw [5] (fun i wr => ∃ (k : Nat), k ≤ l.length ∧ i = .int .i64 k ∧ Hid (timL B (l.take k) = false) ∧ Ext W wr) (fun i _ => l.length - (intOf i).toNat)
      case atStart => exact ⟨0, by omega, rfl, Lib.hid (by rw [List.take_zero, timL]), Ext.refl _⟩
      case round =>
        obtain ⟨k, hk, rfl, HH, hb⟩ := hrel
        replace e3 := hb.at e3
        have hw : Ext w wr := hwW.trans hb
        by_cases hk2 : k < l.length
        · obtain ⟨rfl, hSb⟩ := hl3'.out (by omega)
          obtain ⟨A1, cp1, bb1, of1, c0, c1, c2, c3, hr', -⟩ := Ex.at (hm'.out.ext (fun _ => hSb) hw) hk2
          have hpk : parts l[k] ≤ 1000000 := by rw [parts] at hbd; have := partsL_mem l l[k] (List.getElem_mem hk2); omega
          have hcall := ih'.out l[k] (List.getElem_mem hk2) S S1 _ _ wr (hvB'.out.ext hw) hr' hpk
          have hcall' := Lib.hid hcall
          have hki : (k : Int) < (l.length : Int) := by omega
          clear hr' hSb hcall
          cases hsk : timE B l[k] with
          | true =>
            have H2 := Lib.hid (H.out.trans (show timL B l = true by rw [timL_any, List.any_eq_true]; exact ⟨l[k], List.getElem_mem hk2, hsk⟩))
            rw [hsk] at hcall'
            clear hsk H
            go_wp2_with fail
            refine (hcall'.out).mono ?_
            rintro r w2 ⟨rfl, he⟩
            go_wp2_with fail
            go_ret
            exact ⟨ret_bool (by rw [H2.out]), hw.trans he⟩
          | false =>
            have HH2 := Lib.hid (show timL B (l.take (k + 1)) = false by rw [timL_any, List.take_succ_eq_append_getElem hk2, List.any_append, ← timL_any, HH.out]; simp [hsk])
            rw [hsk] at hcall'
            clear hsk
            go_wp2_with fail
            refine (hcall'.out).mono ?_
            rintro r w2 ⟨rfl, he⟩
            go_wp2_with fail
            go_roundw
            case rel => exact ⟨k + 1, by omega, by go_num, HH2, hb.trans he⟩
            case measure => simp [intOf]; omega
        · have hkl : k = l.length := by omega
          subst hkl
          have H2 := Lib.hid (H.out.trans (show timL B l = false by have := HH.out; rwa [List.take_length] at this))
          clear H
          go_wp2_with fail
          go_ret
          exact ⟨ret_bool (by rw [H2.out]), hw⟩
theorem infoBool : (Try.prog.info? 4).map (fun i => (i.zero, i.size, i.bytes)) = some (some (.bool false), 1, 1) := by kernel_rfl

set_option maxRecDepth 10000 in
set_option maxHeartbeats 2000000 in
theorem rTimed_any (F : List Fn) (e : Ex) (S S1 : Nat → Prop) (vF : Value) (cs : List Value) (w : World) (hF : Rd w S1 (.sl (F.map Fn.d)) [vF]) (hr : Rd w S e.d cs) (hbd : parts e ≤ 1000000) (hp : ∀ f ∈ F, parts f.body ≤ 1000000) (hlen : F.length ≤ 1000000) :
    Calls Try.prog 27 #[vF, .agg cs.toArray] w fun r w' => r = .returned (.bool (timedP F e)) ∧ Ext w w' := by
  obtain ⟨A, cap, b, off, rfl, hl1, hl2, hl3, hm⟩ := Ex.open hr
  obtain ⟨AF, capF, bF, offF, rfl, F1, F2, F3, F4⟩ := Rd.sl_open hF
  simp only [List.length_map] at *
  have hr' := Lib.hid hr; have F3' := Lib.hid F3; have F4' := Lib.hid F4; have hp' := Lib.hid hp
  clear hF hr hm hl3 F3 F4 hp
  go_enter Try.func27, Try.ntmps27
  go_wp2_with fail
  go_loopw [5, 6] (fun x i wr => ∃ (k : Nat) (B : List Bool), k ≤ F.length ∧ i = .int .i64 k ∧ B.length = k ∧ wr.ownsRow (w.heap.size + 1) 4 1 x k (B.map Value.bool) ∧ Hid (bodiesT [] F = bodiesT B (F.drop k)) ∧ Ext (w.alloc (.cells #[.int .i64 e.op, .int .i64 e.n, .string e.s, .slice A e.args.length cap] 25)) wr) (fun _ i _ => F.length - (intOf i).toNat)
  case atStart => exact ⟨0, [], by omega, rfl, rfl, World.ownsRow_nil _ _ _ _, Lib.hid rfl, Ext.refl _⟩
  case round =>
    obtain ⟨k, B, hk, rfl, hBk, hown, HH, hb⟩ := hrel
    have e0 : wr.cell? ⟨w.heap.size, 0, none⟩ = some (.int .i64 e.op) := hb.at (by go_simp)
    have e1 : wr.cell? ⟨w.heap.size, 1, none⟩ = some (.int .i64 e.n) := hb.at (by go_simp)
    have e2 : wr.cell? ⟨w.heap.size, 2, none⟩ = some (.string e.s) := hb.at (by go_simp)
    have e3 : wr.cell? ⟨w.heap.size, 3, none⟩ = some (.slice A e.args.length cap) := hb.at (by go_simp)
    have hw : Ext w wr := ((Ext.refl _).alloc _).trans hb
    subst hBk
    have hR := own_bools (S := Any) hown (fun _ _ => trivial)
    have hR' := Lib.hid hR
    clear hR
    by_cases hlt : B.length < F.length
    · obtain ⟨rfl, hSb⟩ := F3'.out (by omega)
      obtain ⟨A1, cap1, b1, off1, A2, cap2, b2, off2, c0, c1, c2, c3, c4, c5, c6, hr0, q1, q2, q3, q4, q5, q6, q7, q8⟩ := Fn.at (F4'.out.ext (fun _ => hSb) hw) hlt
      have hbod := Lib.hid (Ex.mk_rd q5 q6 q7 q8)
      have hpb := hp'.out F[B.length] (List.getElem_mem hlt)
      have hSb' := Lib.hid hSb
      clear hr0 q3 q4 q5 q7 q8 hSb
      go_wp2_with fail
      refine (rtimed_any B F[B.length].body _ Any _ _ wr hR'.out hbod.out hpb).mono ?_
      rintro r w1 ⟨rfl, he⟩
      have hown1 := own_ext hown he
      have hsz := (hb.trans he).size
      go_wp2_with (at_builtin; refine wp_append1 _ _ _ rfl _ _ _ rfl (w.heap.size + 1) 4 1 1 _ Try.underlying75 infoBool rfl (by decide) (by decide) _ _ _ rfl hown1 rfl rfl (by intro u hu; simp at hu; subst hu; rfl) (by omega) (by simpa using hsz) ?_; intro v' w2 hown2 hg2 hn2)
      have HH2 := Lib.hid (show bodiesT [] F = bodiesT (B ++ [timE B F[B.length].body]) (F.drop (B.length + 1)) by rw [HH.out, List.drop_eq_getElem_cons hlt, bodiesT])
      go_roundw
      case rel => exact ⟨B.length + 1, B ++ [timE B F[B.length].body], by omega, by go_num, by simp, by simpa using hown2, HH2, (hb.trans he).grown hown1 (by simp) hg2⟩
      case measure => simp [intOf]; omega
    · have hkl : F.drop B.length = [] := List.drop_eq_nil_of_le (by omega)
      have H := Lib.hid (show timedP F e = timE B e by unfold timedP; rw [HH.out, hkl, bodiesT])
      clear hkl
      go_wp2_with fail
      refine (rtimed_any B e S Any _ _ wr hR'.out (hr'.out.ext hw) hbd).mono ?_
      rintro r w1 ⟨rfl, he⟩
      go_wp2_with fail
      go_ret
      exact ⟨ret_bool (by rw [H.out]), hw.trans he⟩
end Go.Proofs.Ytmhelkhmgbbfhaa

/- Walk: expr.walk calls a function for each part, the expression first. -/
namespace Go.Proofs.Ytmhelkhmgbbfhaa
open Go.RowKit Go.Lib

mutual
/-- the parts, each before its Args -/
def pre : Ex → List Ex
  | .mk o n s l => .mk o n s l :: preL l
def preL : List Ex → List Ex
  | [] => []
  | e :: l => pre e ++ preL l
end
theorem preL_snoc : ∀ (l : List Ex) (e : Ex), preL (l ++ [e]) = preL l ++ pre e
  | [], e => by rw [List.nil_append, preL, preL, preL]; simp
  | x :: l, e => by rw [List.cons_append, preL, preL, preL_snoc l e]; simp

theorem grown_of_ext {w w' : World} (h : Ext w w') (row : Option Nat) : w.grownBy w' row := ⟨h.os, h.tape, h.output, h.size, fun k hk _ => h.block k hk⟩
theorem keeps_of_grown {w w' : World} {m : Nat} {S : Nat → Prop} (h : w.grownBy w' (some m)) (hS : ∀ b, S b → b ≠ m) : Keeps S w w' := fun b hb hlt => h.block b hlt (fun e => hS b hb (by simpa using e))
theorem gcell {w w' : World} {m : Nat} (h : w.grownBy w' (some m)) {p : Addr} {v : Value} (hc : w.cell? p = some v) (hne : p.block ≠ m) : w'.cell? p = some v := grown_cell h hc (fun e => hne (by simpa using e))

/-- what the function does with a part -/
def Steps1 (fid : FuncId) (caps : Array Value) (m : Nat) (S : Nat → Prop) (Inv : List Ex → World → Prop) (ok : Ex → Prop) : Prop :=
  ∀ (L : List Ex) (x : Ex) (cs : List Value) (w : World), ok x → Inv L w → Rd w S x.d cs → m < w.heap.size →
    Calls Try.prog fid (#[.agg cs.toArray] ++ caps) w fun r w' => (∃ v, r = .returned v) ∧ Inv (L ++ [x]) w' ∧ w.grownBy w' (some m)

set_option maxRecDepth 10000 in
set_option maxHeartbeats 2000000 in
theorem walk_timed (caps : Array Value) (m : Nat) (S : Nat → Prop) (hS : ∀ b, S b → b ≠ m) (Inv : List Ex → World → Prop) (ok : Ex → Prop) (hok : ∀ o n s l, ok (.mk o n s l) → ∀ x ∈ l, ok x) (hstep : Steps1 53 caps m S Inv ok) (hal : ∀ L w o, Inv L w → Inv L (w.alloc o)) (e : Ex) :
    ∀ (L : List Ex) (cs : List Value) (w : World), ok e → Inv L w → Rd w S e.d cs → m < w.heap.size →
    Calls Try.prog 52 #[.agg cs.toArray, .func (.func 53) #[] caps] w fun r w' => (∃ v, r = .returned v) ∧ Inv (L ++ pre e) w' ∧ w.grownBy w' (some m) := by
  induction e using Ex.ind with | h o n s l ih => ?_
  intro L cs w hoke hI hr hm0
  have hr0 := hr
  obtain ⟨A, cap, b, off, rfl, hl1, hl2, hl3, hm⟩ := Ex.open hr
  have ih' := Lib.hid ih
  clear ih
  simp only [Ex.args, Ex.op, Ex.n, Ex.s] at hl1 hl2 hl3 hm hr0 ⊢
  have hl3' := Lib.hid hl3; have hm' := Lib.hid hm; have hst' := Lib.hid hstep; have hok' := Lib.hid hok; have hoke' := Lib.hid hoke; have hal' := Lib.hid hal; have hI' := Lib.hid hI; have hr' := Lib.hid hr0; have hS' := Lib.hid hS
  clear hr hr0 hl3 hm hstep hok hoke hal hI hS
  go_enter Try.func52, Try.ntmps52
  go_wp2_with fail
  generalize hWe : World.alloc w _ = W
  have e0 : W.cell? ⟨w.heap.size, 0, none⟩ = some (.int .i64 o) := by rw [← hWe]; clear hWe; go_simp
  have e1 : W.cell? ⟨w.heap.size, 1, none⟩ = some (.int .i64 n) := by rw [← hWe]; clear hWe; go_simp
  have e2 : W.cell? ⟨w.heap.size, 2, none⟩ = some (.string s) := by rw [← hWe]; clear hWe; go_simp
  have e3 : W.cell? ⟨w.heap.size, 3, none⟩ = some (.slice A l.length cap) := by rw [← hWe]; clear hWe; go_simp
  have hI1 : Inv L W := by rw [← hWe]; exact hal'.out _ _ _ hI'.out
  have hwW : Ext w W := by rw [← hWe]; exact (by repeat' first | exact Ext.refl _ | assumption | apply Ext.alloc | apply Ext.drew | apply Ext.drewN | (refine Ext.trans ?_ (by assumption)))
  clear hWe
  refine (hst'.out L (.mk o n s l) _ W hoke'.out hI1 (hr'.out.ext hwW) (Nat.lt_of_lt_of_le hm0 hwW.size)).mono ?_
  rintro r w1 ⟨⟨v, rfl⟩, hI2, hg⟩
  have f3 : w1.cell? ⟨w.heap.size, 3, none⟩ = some (.slice A l.length cap) := gcell hg e3 (by dsimp only; omega)
  have hg1 : w.grownBy w1 (some m) := (grown_of_ext hwW _).trans hg
  have hI3 := Lib.hid hI2
  clear e0 e1 e2 e3 hI1 hI2 hg hwW
  go_wp2_with fail
  go_loopw [12] (fun i wr => ∃ (k : Nat), k ≤ l.length ∧ i = .int .i64 k ∧ Inv (L ++ .mk o n s l :: preL (l.take k)) wr ∧ w.grownBy wr (some m)) (fun i _ => l.length - (intOf i).toNat)
  case atStart => exact ⟨0, by omega, rfl, by rw [List.take_zero, preL]; exact hI3.out, hg1⟩
  case round =>
    obtain ⟨k, hk, rfl, hIk, hgk⟩ := hrel
    have hIk' := Lib.hid hIk
    clear hIk
    by_cases hk2 : k < l.length
    · obtain ⟨rfl, hSb⟩ := hl3'.out (by omega)
      have hmk := RdM.keep (keeps_of_grown hgk hS'.out) (fun _ h => h) _ _ _ hSb hm'.out
      obtain ⟨A1, cap1, b1, off1, c0, c1, c2, c3, hr1, -⟩ := Ex.at hmk hk2
      have hr2 := Lib.hid hr1
      have hSb' := Lib.hid hSb
      clear hr1 hmk hSb
      go_wp2_with fail
      generalize hWe : World.alloc wr _ = W1
      have hw1 : Ext wr W1 := by rw [← hWe]; exact (by repeat' first | exact Ext.refl _ | assumption | apply Ext.alloc | apply Ext.drew | apply Ext.drewN | (refine Ext.trans ?_ (by assumption)))
      have hI4 : Inv (L ++ .mk o n s l :: preL (l.take k)) W1 := by rw [← hWe]; exact hal'.out _ _ _ hIk'.out
      clear hWe
      refine (ih'.out l[k] (List.getElem_mem hk2) (L ++ .mk o n s l :: preL (l.take k)) _ W1 (hok'.out _ _ _ _ hoke'.out _ (List.getElem_mem hk2)) hI4 (hr2.out.ext hw1) (Nat.lt_of_lt_of_le (Nat.lt_of_lt_of_le hm0 hgk.size) hw1.size)).mono ?_
      rintro r w2 ⟨⟨v2, rfl⟩, hI5, hg2⟩
      have hI6 := Lib.hid (show Inv (L ++ .mk o n s l :: preL (l.take (k + 1))) w2 by
        rw [List.take_succ_eq_append_getElem hk2, preL_snoc]
        simpa using hI5)
      have hg3 : w.grownBy w2 (some m) := (hgk.trans (grown_of_ext hw1 _)).trans hg2
      clear hI4 hI5 hg2 hw1
      go_wp2_with fail
      go_roundw
      case rel => exact ⟨k + 1, by omega, by go_num, hI6.out, hg3⟩
      case measure => simp [intOf]; omega
    · have hkl : k = l.length := by omega
      subst hkl
      go_wp2_with fail
      refine bodyPost_end (v := .tuple #[]) (by simp [results, Try.results52, go_sem]; done) rfl ⟨⟨_, rfl⟩, ?_, hgk⟩
      have := hIk'.out
      rw [List.take_length] at this
      rw [pre]
      exact this

set_option maxRecDepth 10000 in
set_option maxHeartbeats 2000000 in
theorem walk_reads (caps : Array Value) (m : Nat) (S : Nat → Prop) (hS : ∀ b, S b → b ≠ m) (Inv : List Ex → World → Prop) (ok : Ex → Prop) (hok : ∀ o n s l, ok (.mk o n s l) → ∀ x ∈ l, ok x) (hstep : Steps1 55 caps m S Inv ok) (hal : ∀ L w o, Inv L w → Inv L (w.alloc o)) (e : Ex) :
    ∀ (L : List Ex) (cs : List Value) (w : World), ok e → Inv L w → Rd w S e.d cs → m < w.heap.size →
    Calls Try.prog 52 #[.agg cs.toArray, .func (.func 55) #[] caps] w fun r w' => (∃ v, r = .returned v) ∧ Inv (L ++ pre e) w' ∧ w.grownBy w' (some m) := by
  induction e using Ex.ind with | h o n s l ih => ?_
  intro L cs w hoke hI hr hm0
  have hr0 := hr
  obtain ⟨A, cap, b, off, rfl, hl1, hl2, hl3, hm⟩ := Ex.open hr
  have ih' := Lib.hid ih
  clear ih
  simp only [Ex.args, Ex.op, Ex.n, Ex.s] at hl1 hl2 hl3 hm hr0 ⊢
  have hl3' := Lib.hid hl3; have hm' := Lib.hid hm; have hst' := Lib.hid hstep; have hok' := Lib.hid hok; have hoke' := Lib.hid hoke; have hal' := Lib.hid hal; have hI' := Lib.hid hI; have hr' := Lib.hid hr0; have hS' := Lib.hid hS
  clear hr hr0 hl3 hm hstep hok hoke hal hI hS
  go_enter Try.func52, Try.ntmps52
  go_wp2_with fail
  generalize hWe : World.alloc w _ = W
  have e0 : W.cell? ⟨w.heap.size, 0, none⟩ = some (.int .i64 o) := by rw [← hWe]; clear hWe; go_simp
  have e1 : W.cell? ⟨w.heap.size, 1, none⟩ = some (.int .i64 n) := by rw [← hWe]; clear hWe; go_simp
  have e2 : W.cell? ⟨w.heap.size, 2, none⟩ = some (.string s) := by rw [← hWe]; clear hWe; go_simp
  have e3 : W.cell? ⟨w.heap.size, 3, none⟩ = some (.slice A l.length cap) := by rw [← hWe]; clear hWe; go_simp
  have hI1 : Inv L W := by rw [← hWe]; exact hal'.out _ _ _ hI'.out
  have hwW : Ext w W := by rw [← hWe]; exact (by repeat' first | exact Ext.refl _ | assumption | apply Ext.alloc | apply Ext.drew | apply Ext.drewN | (refine Ext.trans ?_ (by assumption)))
  clear hWe
  refine (hst'.out L (.mk o n s l) _ W hoke'.out hI1 (hr'.out.ext hwW) (Nat.lt_of_lt_of_le hm0 hwW.size)).mono ?_
  rintro r w1 ⟨⟨v, rfl⟩, hI2, hg⟩
  have f3 : w1.cell? ⟨w.heap.size, 3, none⟩ = some (.slice A l.length cap) := gcell hg e3 (by dsimp only; omega)
  have hg1 : w.grownBy w1 (some m) := (grown_of_ext hwW _).trans hg
  have hI3 := Lib.hid hI2
  clear e0 e1 e2 e3 hI1 hI2 hg hwW
  go_wp2_with fail
  go_loopw [12] (fun i wr => ∃ (k : Nat), k ≤ l.length ∧ i = .int .i64 k ∧ Inv (L ++ .mk o n s l :: preL (l.take k)) wr ∧ w.grownBy wr (some m)) (fun i _ => l.length - (intOf i).toNat)
  case atStart => exact ⟨0, by omega, rfl, by rw [List.take_zero, preL]; exact hI3.out, hg1⟩
  case round =>
    obtain ⟨k, hk, rfl, hIk, hgk⟩ := hrel
    have hIk' := Lib.hid hIk
    clear hIk
    by_cases hk2 : k < l.length
    · obtain ⟨rfl, hSb⟩ := hl3'.out (by omega)
      have hmk := RdM.keep (keeps_of_grown hgk hS'.out) (fun _ h => h) _ _ _ hSb hm'.out
      obtain ⟨A1, cap1, b1, off1, c0, c1, c2, c3, hr1, -⟩ := Ex.at hmk hk2
      have hr2 := Lib.hid hr1
      have hSb' := Lib.hid hSb
      clear hr1 hmk hSb
      go_wp2_with fail
      generalize hWe : World.alloc wr _ = W1
      have hw1 : Ext wr W1 := by rw [← hWe]; exact (by repeat' first | exact Ext.refl _ | assumption | apply Ext.alloc | apply Ext.drew | apply Ext.drewN | (refine Ext.trans ?_ (by assumption)))
      have hI4 : Inv (L ++ .mk o n s l :: preL (l.take k)) W1 := by rw [← hWe]; exact hal'.out _ _ _ hIk'.out
      clear hWe
      refine (ih'.out l[k] (List.getElem_mem hk2) (L ++ .mk o n s l :: preL (l.take k)) _ W1 (hok'.out _ _ _ _ hoke'.out _ (List.getElem_mem hk2)) hI4 (hr2.out.ext hw1) (Nat.lt_of_lt_of_le (Nat.lt_of_lt_of_le hm0 hgk.size) hw1.size)).mono ?_
      rintro r w2 ⟨⟨v2, rfl⟩, hI5, hg2⟩
      have hI6 := Lib.hid (show Inv (L ++ .mk o n s l :: preL (l.take (k + 1))) w2 by
        rw [List.take_succ_eq_append_getElem hk2, preL_snoc]
        simpa using hI5)
      have hg3 : w.grownBy w2 (some m) := (hgk.trans (grown_of_ext hw1 _)).trans hg2
      clear hI4 hI5 hg2 hw1
      go_wp2_with fail
      go_roundw
      case rel => exact ⟨k + 1, by omega, by go_num, hI6.out, hg3⟩
      case measure => simp [intOf]; omega
    · have hkl : k = l.length := by omega
      subst hkl
      go_wp2_with fail
      refine bodyPost_end (v := .tuple #[]) (by simp [results, Try.results52, go_sem]; done) rfl ⟨⟨_, rfl⟩, ?_, hgk⟩
      have := hIk'.out
      rw [List.take_length] at this
      rw [pre]
      exact this

set_option maxRecDepth 10000 in
set_option maxHeartbeats 2000000 in
theorem walk_inline (caps : Array Value) (m : Nat) (S : Nat → Prop) (hS : ∀ b, S b → b ≠ m) (Inv : List Ex → World → Prop) (ok : Ex → Prop) (hok : ∀ o n s l, ok (.mk o n s l) → ∀ x ∈ l, ok x) (hstep : Steps1 85 caps m S Inv ok) (hal : ∀ L w o, Inv L w → Inv L (w.alloc o)) (e : Ex) :
    ∀ (L : List Ex) (cs : List Value) (w : World), ok e → Inv L w → Rd w S e.d cs → m < w.heap.size →
    Calls Try.prog 52 #[.agg cs.toArray, .func (.func 85) #[] caps] w fun r w' => (∃ v, r = .returned v) ∧ Inv (L ++ pre e) w' ∧ w.grownBy w' (some m) := by
  induction e using Ex.ind with | h o n s l ih => ?_
  intro L cs w hoke hI hr hm0
  have hr0 := hr
  obtain ⟨A, cap, b, off, rfl, hl1, hl2, hl3, hm⟩ := Ex.open hr
  have ih' := Lib.hid ih
  clear ih
  simp only [Ex.args, Ex.op, Ex.n, Ex.s] at hl1 hl2 hl3 hm hr0 ⊢
  have hl3' := Lib.hid hl3; have hm' := Lib.hid hm; have hst' := Lib.hid hstep; have hok' := Lib.hid hok; have hoke' := Lib.hid hoke; have hal' := Lib.hid hal; have hI' := Lib.hid hI; have hr' := Lib.hid hr0; have hS' := Lib.hid hS
  clear hr hr0 hl3 hm hstep hok hoke hal hI hS
  go_enter Try.func52, Try.ntmps52
  go_wp2_with fail
  generalize hWe : World.alloc w _ = W
  have e0 : W.cell? ⟨w.heap.size, 0, none⟩ = some (.int .i64 o) := by rw [← hWe]; clear hWe; go_simp
  have e1 : W.cell? ⟨w.heap.size, 1, none⟩ = some (.int .i64 n) := by rw [← hWe]; clear hWe; go_simp
  have e2 : W.cell? ⟨w.heap.size, 2, none⟩ = some (.string s) := by rw [← hWe]; clear hWe; go_simp
  have e3 : W.cell? ⟨w.heap.size, 3, none⟩ = some (.slice A l.length cap) := by rw [← hWe]; clear hWe; go_simp
  have hI1 : Inv L W := by rw [← hWe]; exact hal'.out _ _ _ hI'.out
  have hwW : Ext w W := by rw [← hWe]; exact (by repeat' first | exact Ext.refl _ | assumption | apply Ext.alloc | apply Ext.drew | apply Ext.drewN | (refine Ext.trans ?_ (by assumption)))
  clear hWe
  refine (hst'.out L (.mk o n s l) _ W hoke'.out hI1 (hr'.out.ext hwW) (Nat.lt_of_lt_of_le hm0 hwW.size)).mono ?_
  rintro r w1 ⟨⟨v, rfl⟩, hI2, hg⟩
  have f3 : w1.cell? ⟨w.heap.size, 3, none⟩ = some (.slice A l.length cap) := gcell hg e3 (by dsimp only; omega)
  have hg1 : w.grownBy w1 (some m) := (grown_of_ext hwW _).trans hg
  have hI3 := Lib.hid hI2
  clear e0 e1 e2 e3 hI1 hI2 hg hwW
  go_wp2_with fail
  go_loopw [12] (fun i wr => ∃ (k : Nat), k ≤ l.length ∧ i = .int .i64 k ∧ Inv (L ++ .mk o n s l :: preL (l.take k)) wr ∧ w.grownBy wr (some m)) (fun i _ => l.length - (intOf i).toNat)
  case atStart => exact ⟨0, by omega, rfl, by rw [List.take_zero, preL]; exact hI3.out, hg1⟩
  case round =>
    obtain ⟨k, hk, rfl, hIk, hgk⟩ := hrel
    have hIk' := Lib.hid hIk
    clear hIk
    by_cases hk2 : k < l.length
    · obtain ⟨rfl, hSb⟩ := hl3'.out (by omega)
      have hmk := RdM.keep (keeps_of_grown hgk hS'.out) (fun _ h => h) _ _ _ hSb hm'.out
      obtain ⟨A1, cap1, b1, off1, c0, c1, c2, c3, hr1, -⟩ := Ex.at hmk hk2
      have hr2 := Lib.hid hr1
      have hSb' := Lib.hid hSb
      clear hr1 hmk hSb
      go_wp2_with fail
      generalize hWe : World.alloc wr _ = W1
      have hw1 : Ext wr W1 := by rw [← hWe]; exact (by repeat' first | exact Ext.refl _ | assumption | apply Ext.alloc | apply Ext.drew | apply Ext.drewN | (refine Ext.trans ?_ (by assumption)))
      have hI4 : Inv (L ++ .mk o n s l :: preL (l.take k)) W1 := by rw [← hWe]; exact hal'.out _ _ _ hIk'.out
      clear hWe
      refine (ih'.out l[k] (List.getElem_mem hk2) (L ++ .mk o n s l :: preL (l.take k)) _ W1 (hok'.out _ _ _ _ hoke'.out _ (List.getElem_mem hk2)) hI4 (hr2.out.ext hw1) (Nat.lt_of_lt_of_le (Nat.lt_of_lt_of_le hm0 hgk.size) hw1.size)).mono ?_
      rintro r w2 ⟨⟨v2, rfl⟩, hI5, hg2⟩
      have hI6 := Lib.hid (show Inv (L ++ .mk o n s l :: preL (l.take (k + 1))) w2 by
        rw [List.take_succ_eq_append_getElem hk2, preL_snoc]
        simpa using hI5)
      have hg3 : w.grownBy w2 (some m) := (hgk.trans (grown_of_ext hw1 _)).trans hg2
      clear hI4 hI5 hg2 hw1
      go_wp2_with fail
      go_roundw
      case rel => exact ⟨k + 1, by omega, by go_num, hI6.out, hg3⟩
      case measure => simp [intOf]; omega
    · have hkl : k = l.length := by omega
      subst hkl
      go_wp2_with fail
      refine bodyPost_end (v := .tuple #[]) (by simp [results, Try.results52, go_sem]; done) rfl ⟨⟨_, rfl⟩, ?_, hgk⟩
      have := hIk'.out
      rw [List.take_length] at this
      rw [pre]
      exact this

end Go.Proofs.Ytmhelkhmgbbfhaa

/- From the statement's readings (DataW.trod) to trees of plain data (Rd): ints, bools, strings, structs, slices. -/
namespace Go.Proofs.Ytmhelkhmgbbfhaa
open Go.RowKit Go.Lib

theorem CellsAt.of_get {w : World} {b : Nat} : ∀ (cs : List Value) (off : Nat), (∀ i v, cs[i]? = some v → w.cell? ⟨b, off + i, none⟩ = some v) → CellsAt w b off cs
  | [], _, _ => trivial
  | v :: cs, off, h => ⟨h 0 v rfl, CellsAt.of_get cs (off + 1) fun i u hi => by rw [Nat.add_assoc, Nat.add_comm 1 i]; exact h (i + 1) u (by simpa using hi)⟩
theorem mapM_get {α β : Type} {f : α → Option β} : ∀ (l : List α) (ys : List β), l.mapM f = some ys → ∀ i : Nat, (l[i]?).bind f = ys[i]?
  | [], ys, h, i => by simp at h; subst h; simp
  | a :: l, ys, h, i => by
    rw [List.mapM_cons] at h
    cases hf : f a with
    | none => rw [hf] at h; simp at h
    | some b =>
      rw [hf] at h
      cases hl : l.mapM f with
      | none => rw [hl] at h; simp at h
      | some zs =>
        rw [hl] at h
        simp at h
        subst h
        cases i with
        | zero => simpa using hf
        | succ i => simpa using mapM_get l zs hl i
theorem mapM_len {α β : Type} {f : α → Option β} : ∀ (l : List α) (ys : List β), l.mapM f = some ys → ys.length = l.length
  | [], ys, h => by simp at h; subst h; rfl
  | a :: l, ys, h => by
    rw [List.mapM_cons] at h
    cases hf : f a with
    | none => rw [hf] at h; simp at h
    | some b =>
      rw [hf] at h
      cases hl : l.mapM f with
      | none => rw [hl] at h; simp at h
      | some zs =>
        rw [hl] at h
        simp at h
        subst h
        simp [mapM_len l zs hl]
theorem cells_open {w : World} {base : Nat} {a : Addr} {n : Nat} {cs : List Value} (h : w.cells? base a n = some cs) (hn : 0 < n) : a.spot = none ∧ CellsAt w a.block a.off cs := by
  unfold World.cells? at h
  split at h
  · have hg := mapM_get _ _ h
    obtain ⟨b, o, sp⟩ := a
    have h0 := hg 0
    rw [List.getElem?_range (by omega)] at h0
    have hlen : cs.length = n := by
      have := mapM_len _ _ h
      simpa using this
    have h0' : cs[0]? = some (cs[0]'(by omega)) := List.getElem?_eq_getElem (by omega)
    rw [h0'] at h0
    have hs : sp = none := cell_spot (w := w) (b := b) (o := o) (v := cs[0]'(by omega)) (by simpa [Addr.add] using h0)
    subst hs
    refine ⟨rfl, CellsAt.of_get _ _ fun i v hi => ?_⟩
    have hi' : i < n := by
      have := (List.getElem?_eq_some_iff.1 hi).1; omega
    have := hg i
    rw [List.getElem?_range hi', hi] at this
    cases i with
    | zero => simpa [Addr.add] using this
    | succ i => simpa [Addr.add] using this
  · cases h

theorem RdM.of_get {w : World} {S : Nat → Prop} {sz : Nat} : ∀ (l : List D) (b off : Nat), (∀ d ∈ l, d.width = sz) → (∀ i (h : i < l.length), ∃ cs, CellsAt w b (off + i * sz) cs ∧ Rd w S l[i] cs) → RdM w S l b off
  | [], _, _, _, _ => by rw [RdM]; trivial
  | d :: l, b, off, hw, h => by
    rw [RdM]
    refine ⟨?_, RdM.of_get l b _ (fun x hx => hw x (by simp [hx])) fun i hi => ?_⟩
    · obtain ⟨cs, h1, h2⟩ := h 0 (by simp)
      exact ⟨cs, by simpa using h1, by simpa using h2⟩
    have := h (i + 1) (by simpa using hi)
    rw [hw d (by simp)]
    rw [Nat.succ_mul] at this
    rw [show off + sz + i * sz = off + (i * sz + sz) by omega]
    simpa using this

section
variable {H : Type} {enc : TypeId × Value → H} {P : Program} {w : World} {sp : Nat → Bool} {hd : Bool}
/-- all that is read at type t, by less than N fuel, are readings of an α -/
def Trods (enc : TypeId × Value → H) (P : Program) (w : World) (sp : Nat → Bool) (hd : Bool) (t : TypeId) {α : Type} (f : α → D) (N : Nat) : Prop :=
  ∀ n cs x, n < N → DataW.trod enc P w 0 sp hd n t cs = some x → ∃ a, Rd w Any (f a) cs

theorem trods_int {t : TypeId} (ht : P.underlying t = some (.int .i64)) (N : Nat) : Trods enc P w sp hd t D.int N := by
  intro n cs x _ h
  obtain ⟨m, rfl, -, -⟩ := DataW.trod_int ht h
  exact ⟨m, by rw [Rd]⟩
theorem trods_bool {t : TypeId} (ht : P.underlying t = some .bool) (N : Nat) : Trods enc P w sp hd t D.bool N := by
  intro n cs x _ h
  obtain ⟨m, rfl, -⟩ := DataW.trod_bool ht h
  exact ⟨m, by rw [Rd]⟩
theorem trods_str {t : TypeId} (ht : P.underlying t = some .string) (N : Nat) : Trods enc P w sp hd t D.str N := by
  intro n cs x _ h
  obtain ⟨m, rfl, -, -⟩ := DataW.trod_string ht h
  exact ⟨m, by rw [Rd]⟩
theorem trods_sl {t e : TypeId} {α : Type} {f : α → D} {sz N : Nat} (ht : P.underlying t = some (.slice e)) (hc : P.cellsOf e = sz) (hsz : 0 < sz) (hw : ∀ x, (f x).width = sz) (h : Trods enc P w sp hd e f N) :
    Trods enc P w sp hd t (fun l : List α => .sl (l.map f)) (N + 1) := by
  intro n cs x hn hx
  rcases DataW.trod_slice ht hx with ⟨rfl, -⟩ | ⟨a, len, cap, elems, rest, m, rfl, rfl, -, hb, hl, hm, hlen, hel, -, -⟩
  · exact ⟨[], Rd.nil none (by omega)⟩
  · have hmax : cap ≤ 9223372036854775807 := by unfold maxLen at hm; omega
    have hget : ∀ i, i < len → ∃ cs' y, w.cells? 0 (a.add (i * sz)) sz = some cs' ∧ DataW.trod enc P w 0 sp hd m e cs' = some y := by
      intro i hi
      have := hel i hi
      rw [hc, List.getElem?_eq_getElem (by omega)] at this
      obtain ⟨cs', h1, h2⟩ := Option.bind_eq_some_iff.1 this
      exact ⟨cs', _, h1, h2⟩
    have hget2 : ∀ i, i < len → ∃ (z : α) (cs' : List Value), w.cells? 0 (a.add (i * sz)) sz = some cs' ∧ Rd w Any (f z) cs' := by
      intro i hi
      obtain ⟨cs', y, h1, h2⟩ := hget i hi
      obtain ⟨z, hz⟩ := h m cs' y (by omega) h2
      exact ⟨z, cs', h1, hz⟩
    by_cases h0 : len = 0
    · subst h0; exact ⟨[], Rd.nil _ hmax⟩
    have hsp : a.spot = none := by
      obtain ⟨z, cs', h1, -⟩ := hget2 0 (by omega)
      have := (cells_open h1 hsz).1
      simpa [Addr.add] using this
    obtain ⟨b, off, spt⟩ := a
    subst hsp
    have hg3 : ∀ i, ∃ (z : α), i < len → ∃ cs', CellsAt w b (off + i * sz) cs' ∧ Rd w Any (f z) cs' := by
      obtain ⟨z0, -⟩ := hget2 0 (by omega)
      intro i
      by_cases hi : i < len
      · obtain ⟨z, cs', h1, h2⟩ := hget2 i hi
        refine ⟨z, fun _ => ⟨cs', ?_, h2⟩⟩
        have := (cells_open h1 hsz).2
        by_cases hz : i * sz = 0
        · rw [hz] at this ⊢; simpa [Addr.add] using this
        · simpa [Addr.add, hz] using this
      · exact ⟨z0, fun h => absurd h hi⟩
    let g : Nat → α := fun i => Classical.choose (hg3 i)
    have hgs : ∀ i, i < len → ∃ cs', CellsAt w b (off + i * sz) cs' ∧ Rd w Any (f (g i)) cs' := fun i => Classical.choose_spec (hg3 i)
    refine ⟨(List.range len).map g, Rd.sl_mk (b := b) (off := off) (by simp) (by simpa using hl) hmax (fun _ => ⟨rfl, trivial⟩) (RdM.of_get _ _ _ (sz := sz) ?_ ?_)⟩
    · intro d hd
      obtain ⟨x, -, rfl⟩ := List.mem_map.1 hd
      exact hw x
    · intro i hi
      have hi' : i < len := by simpa using hi
      have := hgs i hi'
      simpa using this

theorem rdS_cut {S : Nat → Prop} {d : D} {l : List D} {cs : List Value} {o k : Nat} (h1 : Rd w S d ((cs.drop o).take k)) (h2 : RdS w S l (cs.drop (o + k))) : RdS w S (d :: l) (cs.drop o) := by
  rw [RdS]
  exact ⟨_, _, by rw [← List.drop_drop]; exact (List.take_append_drop k _).symm, h1, h2⟩
theorem rdS_end {S : Nat → Prop} {cs : List Value} {o : Nat} (h : cs.length ≤ o) : RdS w S [] (cs.drop o) := by
  rw [RdS]; exact List.drop_eq_nil_of_le h
theorem rd_st {S : Nat → Prop} {l : List D} {cs : List Value} (h : RdS w S l (cs.drop 0)) : Rd w S (.st l) cs := by
  rw [Rd]; simpa using h
theorem trod_field {fs : Array Field} {n : Nat} {cs : List Value} {xs : List (DataW H × List MemPlace)} (i : Nat) (T : TypeId) (o k : Nat) (hlen : xs.length = fs.size)
    (hf : ∀ (i : Nat) (f : Field), fs[i]? = some f → DataW.trod enc P w 0 sp hd n f.type ((cs.drop f.offset).take (P.cellsOf f.type)) = xs[i]?)
    (hi : ∃ f : Field, fs[i]? = some f ∧ f.type = T ∧ f.offset = o) (hk : P.cellsOf T = k) :
    ∃ y, DataW.trod enc P w 0 sp hd n T ((cs.drop o).take k) = some y := by
  obtain ⟨f, hi, rfl, rfl⟩ := hi
  subst hk
  have hlt : i < fs.size := (Array.getElem?_eq_some_iff.1 hi).1
  have := hf i f hi
  rw [List.getElem?_eq_getElem (by omega)] at this
  exact ⟨_, this⟩
end
end Go.Proofs.Ytmhelkhmgbbfhaa
