/- Walks: right values, and what fits a row. -/
import Derived.Test.YtmhelkhmgbbfhaaShelf
import Derived.Deep.RegionHeld3
import Derived.Test.YtmhelkhmgbbfhaaRows
import Derived.Deep.Cut
import Derived.Test.YtmhelkhmgbbfhaaGa2
import Derived.Test.YtmhelkhmgbbfhaaGa4
import Derived.Test.YtmhelkhmgbbfhaaGa5
namespace Go.Proofs.Ytmhelkhmgbbfhaa
open Go.RowKit Go.Lib

/-- a right value (chapter 3) -/
def okV (v : Val) : Bool :=
  if v.k = 0 then decide (v.s.toList = [])
  else if v.k = 1 then decide (v.n = 0) && decide ((v.s.size : Int) ≤ 200)
  else decide (v.k = 2) && (decide (v.n = 0) || decide (v.n = 1)) && decide (v.s.toList = [])

set_option maxRecDepth 10000 in
set_option maxHeartbeats 1000000 in
theorem rightV_any (v : Val) (w : World) : Calls Try.prog 14 #[v.v] w fun r w' => r = .returned (.bool (okV v)) ∧ Ext w w' := by
  obtain ⟨k, n, s⟩ := v
  simp only [Val.v]
  have hS : s.toList = [] ∨ ¬ s.toList = [] := Decidable.em _
  by_cases h0 : k = 0
  · subst h0
    rcases hS with hs | hs
    all_goals
      have H := Lib.hid (show okV ⟨0, n, s⟩ = decide (s.toList = []) by simp [okV])
      go_enter Try.func14, Try.ntmps14
      go_wp2_with fail
      go_ret
      exact ⟨ret_bool (by rw [H.out]; simp [hs]), (by repeat' first | exact Ext.refl _ | assumption | apply Ext.alloc | apply Ext.drew | apply Ext.drewN | (refine Ext.trans ?_ (by assumption)))⟩
  by_cases h1 : k = 1
  · subst h1
    have H := Lib.hid (show okV ⟨1, n, s⟩ = (decide (n = 0) && decide ((s.size : Int) ≤ 200)) by simp [okV])
    clear h0
    by_cases hn : n = 0
    · subst hn
      go_enter Try.func14, Try.ntmps14
      go_wp2_with fail
      go_ret
      exact ⟨ret_bool (by rw [H.out]; simp), (by repeat' first | exact Ext.refl _ | assumption | apply Ext.alloc | apply Ext.drew | apply Ext.drewN | (refine Ext.trans ?_ (by assumption)))⟩
    · have hn1 : (n == 0) = false := by simp [hn]
      go_enter Try.func14, Try.ntmps14
      go_wp2_with fail
      go_ret
      exact ⟨ret_bool (by rw [H.out]; simp [hn]), (by repeat' first | exact Ext.refl _ | assumption | apply Ext.alloc | apply Ext.drew | apply Ext.drewN | (refine Ext.trans ?_ (by assumption)))⟩
  have H := Lib.hid (show okV ⟨k, n, s⟩ = (decide (k = 2) && (decide (n = 0) || decide (n = 1)) && decide (s.toList = [])) by simp [okV, h0, h1])
  have h0b : (k == 0) = false := by simp [h0]
  have h1b : (k == 1) = false := by simp [h1]
  by_cases h2 : k = 2
  · subst h2
    clear h0 h1 h0b h1b
    rcases hS with hs | hs
    all_goals
      by_cases hn : n = 0
      · subst hn
        go_enter Try.func14, Try.ntmps14
        go_wp2_with fail
        go_ret
        exact ⟨ret_bool (by rw [H.out]; simp [hs]), (by repeat' first | exact Ext.refl _ | assumption | apply Ext.alloc | apply Ext.drew | apply Ext.drewN | (refine Ext.trans ?_ (by assumption)))⟩
      · have hn1 : (n == 0) = false := by simp [hn]
        by_cases hm : n = 1
        · subst hm
          go_enter Try.func14, Try.ntmps14
          go_wp2_with fail
          go_ret
          exact ⟨ret_bool (by rw [H.out]; simp [hs]), (by repeat' first | exact Ext.refl _ | assumption | apply Ext.alloc | apply Ext.drew | apply Ext.drewN | (refine Ext.trans ?_ (by assumption)))⟩
        · have hm1 : (n == 1) = false := by simp [hm]
          go_enter Try.func14, Try.ntmps14
          go_wp2_with fail
          go_ret
          exact ⟨ret_bool (by rw [H.out]; simp [hn, hm]), (by repeat' first | exact Ext.refl _ | assumption | apply Ext.alloc | apply Ext.drew | apply Ext.drewN | (refine Ext.trans ?_ (by assumption)))⟩
  · have h2b : (k == 2) = false := by simp [h2]
    go_enter Try.func14, Try.ntmps14
    go_wp2_with fail
    go_ret
    exact ⟨ret_bool (by rw [H.out]; simp [h2]), (by repeat' first | exact Ext.refl _ | assumption | apply Ext.alloc | apply Ext.drew | apply Ext.drewN | (refine Ext.trans ?_ (by assumption)))⟩

def fitB (v : Val) : Bool := okV v && decide ((v.s.size : Int) ≤ 200)
def fitsR (R : List Val) : Bool := R.all fitB && decide ((R.length : Int) ≤ 20)

set_option maxHeartbeats 1000000 in
theorem fits_any (R : List Val) (S : Nat → Prop) (v : Value) (w : World) (hr : Rd w S (.sl (R.map Val.d)) [v]) :
    Calls Try.prog 28 #[v] w fun r w' => r = .returned (.bool (fitsR R)) ∧ Ext w w' := by
  obtain ⟨A, cap, b, off, rfl, hl1, hl2, hl3, hm⟩ := Rd.sl_open hr
  simp only [List.length_map] at *
  have hl3' := Lib.hid hl3; have hm' := Lib.hid hm
  clear hr hl3 hm
  go_enter Try.func28, Try.ntmps28
  go_wp2_with fail
  go_loopw [3] (fun i wr => ∃ (k : Nat), k ≤ R.length ∧ i = .int .i64 k ∧ Hid (∀ i (hi : i < R.length), i < k → fitB R[i] = true) ∧ Ext w wr) (fun i _ => R.length - (intOf i).toNat)
  case atStart => exact ⟨0, by omega, rfl, Lib.hid (fun j _ h => absurd h (by omega)), Ext.refl _⟩
  case round =>
    obtain ⟨k, hk, rfl, HH, hw⟩ := hrel
    by_cases hlt : k < R.length
    · obtain ⟨rfl, hSb⟩ := hl3'.out (by omega)
      obtain ⟨c0, c1, c2, hr'⟩ := Val.at (hm'.out.ext (fun _ => hSb) hw) hlt
      have hSb' := Lib.hid hSb
      clear hr' hSb
      have hc := rightV_any R[k]
      cases hok : okV R[k] with
      | false =>
        rw [hok] at hc
        have hc' := Lib.hid hc
        have H := Lib.hid (show fitsR R = false by unfold fitsR; rw [all_at_false hlt (by unfold fitB; rw [hok]; rfl)]; rfl)
        clear hc hok
        go_wp2_with fail
        refine (hc'.out _).mono ?_
        rintro r w1 ⟨rfl, he⟩
        go_wp2_with fail
        go_ret
        exact ⟨ret_bool (by rw [H.out]), hw.trans he⟩
      | true =>
        rw [hok] at hc
        have hc' := Lib.hid hc
        by_cases hz : (R[k].s.size : Int) ≤ 200
        · have H := Lib.hid (show fitB R[k] = true by unfold fitB; rw [hok, decide_eq_true hz]; rfl)
          clear hc hok
          go_wp2_with fail
          refine (hc'.out _).mono ?_
          rintro r w1 ⟨rfl, he⟩
          have c2 := he.at c2
          go_wp2_with fail
          go_roundw
          case rel => exact ⟨k + 1, by omega, by go_num, Lib.hid (fun i hi h => by rcases Nat.lt_succ_iff_lt_or_eq.1 h with h | rfl; exact HH.out i hi h; exact H.out), hw.trans he⟩
          case measure => simp [intOf]; omega
        · have H := Lib.hid (show fitsR R = false by unfold fitsR; rw [all_at_false hlt (by unfold fitB; rw [hok, decide_eq_false hz]; rfl)]; rfl)
          clear hc hok
          go_wp2_with fail
          refine (hc'.out _).mono ?_
          rintro r w1 ⟨rfl, he⟩
          have c2 := he.at c2
          go_wp2_with fail
          go_ret
          exact ⟨ret_bool (by rw [H.out]), hw.trans he⟩
    · have hkl : k = R.length := by omega
      subst hkl
      have H := Lib.hid (show fitsR R = decide ((R.length : Int) ≤ 20) by unfold fitsR; rw [all_at_true (fun i hi => HH.out i hi hi)]; rfl)
      go_wp2_with fail
      go_ret
      exact ⟨ret_bool (by rw [H.out]), hw⟩

end Go.Proofs.Ytmhelkhmgbbfhaa

/- Walks: operations on values. -/
namespace Go.Proofs.Ytmhelkhmgbbfhaa
open Go.RowKit Go.Lib

set_option maxHeartbeats 400000 in
theorem number_any (n : Int) (w : World) : Calls Try.prog 66 #[.int .i64 n] w fun r w' => r = .returned (numV n).v ∧ Ext w w' := by
  go_enter Try.func66, Try.ntmps66
  go_wp2_with fail
  exact bodyPost_ret (v := .agg #[.int .i64 0, .int .i64 n, .string ByteArray.empty]) (by simp [results, Try.results66, go_sem]; rfl) rfl ⟨rfl, (by repeat' first | exact Ext.refl _ | assumption | apply Ext.alloc | apply Ext.drew | apply Ext.drewN | (refine Ext.trans ?_ (by assumption)))⟩

set_option maxHeartbeats 400000 in
theorem truth_any (b : Bool) (w : World) : Calls Try.prog 67 #[.bool b] w fun r w' => r = .returned (boolV b).v ∧ Ext w w' := by
  cases b
  · go_enter Try.func67, Try.ntmps67
    go_wp2_with fail
    exact bodyPost_ret (v := .agg #[.int .i64 2, .int .i64 0, .string ByteArray.empty]) (by simp [results, Try.results67, go_sem]; rfl) rfl ⟨rfl, (by repeat' first | exact Ext.refl _ | assumption | apply Ext.alloc | apply Ext.drew | apply Ext.drewN | (refine Ext.trans ?_ (by assumption)))⟩
  · go_enter Try.func67, Try.ntmps67
    go_wp2_with fail
    exact bodyPost_ret (v := .agg #[.int .i64 2, .int .i64 1, .string ByteArray.empty]) (by simp [results, Try.results67, go_sem]; rfl) rfl ⟨rfl, (by repeat' first | exact Ext.refl _ | assumption | apply Ext.alloc | apply Ext.drew | apply Ext.drewN | (refine Ext.trans ?_ (by assumption)))⟩

/-- the first number that is not 0 -/
def orI : List Int → Int
  | [] => 0
  | x :: l => if x ≠ 0 then x else orI l

set_option maxHeartbeats 1000000 in
theorem or_any (l : List Int) (S : Nat → Prop) (v : Value) (w : World) (hr : Rd w S (.sl (l.map D.int)) [v]) :
    Calls Try.prog 105 #[v] w fun r w' => r = .returned (.int .i64 (orI l)) ∧ Ext w w' := by
  obtain ⟨A, cap, b, off, rfl, hl1, hl2, hl3, hm⟩ := Rd.sl_open hr
  simp only [List.length_map] at *
  have hl3' := Lib.hid hl3; have hm' := Lib.hid hm
  clear hr hl3 hm
  go_enter Try.func105, Try.ntmps105
  go_wp2_with fail
  go_loopw [8] (fun i wr => ∃ (k : Nat), k ≤ l.length ∧ i = .int .i64 k ∧ Hid (orI l = orI (l.drop k)) ∧ Ext w wr) (fun i _ => l.length - (intOf i).toNat)
  case atStart => exact ⟨0, by omega, rfl, Lib.hid rfl, Ext.refl _⟩
  case round =>
    obtain ⟨k, hk, rfl, HH, hw⟩ := hrel
    by_cases hlt : k < l.length
    · obtain ⟨rfl, hSb⟩ := hl3'.out (by omega)
      have d0 := ints_at (hm'.out.ext (fun _ => hSb) hw) hlt
      have hSb' := Lib.hid hSb; clear hSb
      have hd := Lib.hid (show orI l = if l[k] ≠ 0 then l[k] else orI (l.drop (k + 1)) by rw [HH.out, List.drop_eq_getElem_cons hlt, orI])
      clear HH
      by_cases h0 : l[k] = 0
      · have hz : (l[k] != 0) = false := by simp [h0]
        have h0' := Lib.hid h0; clear h0
        go_wp2_with fail
        go_roundw
        case rel => exact ⟨k + 1, by omega, by go_num, Lib.hid (by rw [hd.out, if_neg (by rw [h0'.out]; simp)]), hw⟩
        case measure => simp [intOf]; omega
      · have hz : (l[k] != 0) = true := by simp [h0]
        have h0' := Lib.hid h0; clear h0
        go_wp2_with fail
        go_ret
        exact ⟨ret_int (by rw [hd.out, if_pos h0'.out]), hw⟩
    · have hkl : k = l.length := by omega
      subst hkl
      go_wp2_with fail
      go_ret
      exact ⟨ret_int (by rw [HH.out]; simp [orI]), hw⟩

def cmpV (a b : Val) : Int := orI [compareInt a.k b.k, compareInt a.n b.n, compareBytes a.s.data.toList b.s.data.toList]

set_option maxHeartbeats 1000000 in
theorem compare_any (a b : Val) (w : World) : Calls Try.prog 95 #[a.v, b.v] w fun r w' => r = .returned (.int .i64 (cmpV a b)) ∧ Ext w w' := by
  obtain ⟨k, n, s⟩ := a
  obtain ⟨k2, n2, s2⟩ := b
  simp only [Val.v]
  go_enter Try.func95, Try.ntmps95
  go_wp2_with fail
  generalize hWe : World.alloc (World.alloc w _) _ = W
  have a0 : W.cell? ⟨w.heap.size, 0, none⟩ = some (.int .i64 k) := by rw [← hWe]; clear hWe; go_simp
  have a1 : W.cell? ⟨w.heap.size, 1, none⟩ = some (.int .i64 n) := by rw [← hWe]; clear hWe; go_simp
  have a2 : W.cell? ⟨w.heap.size, 2, none⟩ = some (.string s) := by rw [← hWe]; clear hWe; go_simp
  have a3 : W.cell? ⟨w.heap.size + 1, 0, none⟩ = some (.int .i64 k2) := by rw [← hWe]; clear hWe; go_simp
  have a4 : W.cell? ⟨w.heap.size + 1, 1, none⟩ = some (.int .i64 n2) := by rw [← hWe]; clear hWe; go_simp
  have a5 : W.cell? ⟨w.heap.size + 1, 2, none⟩ = some (.string s2) := by rw [← hWe]; clear hWe; go_simp
  have hw : Ext w W := by rw [← hWe]; exact (by repeat' first | exact Ext.refl _ | assumption | apply Ext.alloc | apply Ext.drew | apply Ext.drewN | (refine Ext.trans ?_ (by assumption)))
  clear hWe
  go_region_held3 (fun w' => w'.cell? ⟨w.heap.size, 0, none⟩ = some (.int .i64 k) ∧ w'.cell? ⟨w.heap.size, 1, none⟩ = some (.int .i64 n) ∧ w'.cell? ⟨w.heap.size, 2, none⟩ = some (.string s) ∧ w'.cell? ⟨w.heap.size + 1, 0, none⟩ = some (.int .i64 k2) ∧ w'.cell? ⟨w.heap.size + 1, 1, none⟩ = some (.int .i64 n2) ∧ w'.cell? ⟨w.heap.size + 1, 2, none⟩ = some (.string s2))
    (first
      | exact ⟨a0, a1, a2, a3, a4, a5⟩
      | go_keep
      | exact ⟨he5.at ((((Ext.refl _).alloc _).drew).at a0), he5.at ((((Ext.refl _).alloc _).drew).at a1), he5.at ((((Ext.refl _).alloc _).drew).at a2), he5.at ((((Ext.refl _).alloc _).drew).at a3), he5.at ((((Ext.refl _).alloc _).drew).at a4), he5.at ((((Ext.refl _).alloc _).drew).at a5)⟩)
    ((first
      | (go_at_call 106; refine (Try.cmp_Compare_int _ _ _).mono ?_; rintro r w4 ⟨rfl, rfl⟩)
      | (go_at_call 107; refine (Try.strings_Compare _ _ _).mono ?_; rintro r w4 ⟨rfl, rfl⟩)
      | (go_at_call 105; refine (or_any [compareInt k k2, compareInt n n2, compareBytes s.data.toList s2.data.toList] Any _ _ (Rd.ext (rd_new_ints (by simp) (by rfl) (by rfl) (by simp)) (Ext.refl _).drew)).mono ?_; rintro r w5 ⟨rfl, he5⟩)))
  all_goals
    go_wp2_with fail
    go_ret
    exact ⟨rfl, hw.trans ((((Ext.refl _).alloc _).drew).trans he5)⟩
end Go.Proofs.Ytmhelkhmgbbfhaa

/- Walks: the operations on pairs of values. (written by gen_arith.py) -/
namespace Go.Proofs.Ytmhelkhmgbbfhaa
open Go.RowKit Go.Lib

/-- a pair of values, as the methods take it -/
def pairV (a b : Val) : Value := .agg #[.int .i64 a.k, .int .i64 a.n, .string a.s, .int .i64 b.k, .int .i64 b.n, .string b.s]

theorem ext_three {w w1 : World} (hw : Ext w w1) (B : Nat) (hB : w.heap.size ≤ B) (x y z : Value) : Ext w (((w1.setCell ⟨B, 0, none⟩ x).setCell ⟨B, 1, none⟩ y).setCell ⟨B, 2, none⟩ z) :=
  ((hw.setCell hB x).setCell hB y).setCell hB z

def divI (a b : Int) : Int := if b = 0 then 0 else wrap64 (a.tdiv b)
def modI (a b : Int) : Int := if b = 0 then 0 else a.tmod b

set_option maxHeartbeats 1000000 in
theorem add_any (a b : Val) (w : World) : Calls Try.prog 68 #[pairV a b] w fun r w' => r = .returned (numV (wrap64 (a.n + b.n))).v ∧ Ext w w' := by
  simp only [pairV]
  go_enter Try.func68, Try.ntmps68
  go_wp2_with fail
  refine (number_any _ _).mono ?_
  rintro r w1 ⟨rfl, he⟩
  have f0 : w1.cell? ⟨w.heap.size + 1, 0, none⟩ = some (.int .i64 0) := he.at (by go_simp)
  have f1 : w1.cell? ⟨w.heap.size + 1, 1, none⟩ = some (.int .i64 0) := he.at (by go_simp)
  have f2 : w1.cell? ⟨w.heap.size + 1, 2, none⟩ = some (.string ByteArray.empty) := he.at (by go_simp; rfl)
  have z0 : w1.frozen? ⟨w.heap.size + 1, 0, none⟩ = false := (he.frozens _ _ (by go_simp)).trans (by go_simp)
  have z1 : w1.frozen? ⟨w.heap.size + 1, 1, none⟩ = false := (he.frozens _ _ (by go_simp)).trans (by go_simp)
  have z2 : w1.frozen? ⟨w.heap.size + 1, 2, none⟩ = false := (he.frozens _ _ (by go_simp)).trans (by go_simp)
  have hw : Ext w w1 := ((Ext.refl w).alloc _ |>.alloc _).trans he
  clear he
  simp only [numV, Val.v]
  go_wp2_with fail
  exact bodyPost_ret (v := .agg #[.int .i64 0, .int .i64 (wrap64 (a.n + b.n)), .string ByteArray.empty]) (by simp [results, Try.results68, go_sem, f0, f1, f2]; done) rfl ⟨rfl, ext_three hw _ (by omega) _ _ _⟩

set_option maxHeartbeats 1000000 in
theorem sub_any (a b : Val) (w : World) : Calls Try.prog 69 #[pairV a b] w fun r w' => r = .returned (numV (wrap64 (a.n - b.n))).v ∧ Ext w w' := by
  simp only [pairV]
  go_enter Try.func69, Try.ntmps69
  go_wp2_with fail
  refine (number_any _ _).mono ?_
  rintro r w1 ⟨rfl, he⟩
  have f0 : w1.cell? ⟨w.heap.size + 1, 0, none⟩ = some (.int .i64 0) := he.at (by go_simp)
  have f1 : w1.cell? ⟨w.heap.size + 1, 1, none⟩ = some (.int .i64 0) := he.at (by go_simp)
  have f2 : w1.cell? ⟨w.heap.size + 1, 2, none⟩ = some (.string ByteArray.empty) := he.at (by go_simp; rfl)
  have z0 : w1.frozen? ⟨w.heap.size + 1, 0, none⟩ = false := (he.frozens _ _ (by go_simp)).trans (by go_simp)
  have z1 : w1.frozen? ⟨w.heap.size + 1, 1, none⟩ = false := (he.frozens _ _ (by go_simp)).trans (by go_simp)
  have z2 : w1.frozen? ⟨w.heap.size + 1, 2, none⟩ = false := (he.frozens _ _ (by go_simp)).trans (by go_simp)
  have hw : Ext w w1 := ((Ext.refl w).alloc _ |>.alloc _).trans he
  clear he
  simp only [numV, Val.v]
  go_wp2_with fail
  exact bodyPost_ret (v := .agg #[.int .i64 0, .int .i64 (wrap64 (a.n - b.n)), .string ByteArray.empty]) (by simp [results, Try.results69, go_sem, f0, f1, f2]; done) rfl ⟨rfl, ext_three hw _ (by omega) _ _ _⟩

set_option maxHeartbeats 1000000 in
theorem mul_any (a b : Val) (w : World) : Calls Try.prog 70 #[pairV a b] w fun r w' => r = .returned (numV (wrap64 (a.n * b.n))).v ∧ Ext w w' := by
  simp only [pairV]
  go_enter Try.func70, Try.ntmps70
  go_wp2_with fail
  refine (number_any _ _).mono ?_
  rintro r w1 ⟨rfl, he⟩
  have f0 : w1.cell? ⟨w.heap.size + 1, 0, none⟩ = some (.int .i64 0) := he.at (by go_simp)
  have f1 : w1.cell? ⟨w.heap.size + 1, 1, none⟩ = some (.int .i64 0) := he.at (by go_simp)
  have f2 : w1.cell? ⟨w.heap.size + 1, 2, none⟩ = some (.string ByteArray.empty) := he.at (by go_simp; rfl)
  have z0 : w1.frozen? ⟨w.heap.size + 1, 0, none⟩ = false := (he.frozens _ _ (by go_simp)).trans (by go_simp)
  have z1 : w1.frozen? ⟨w.heap.size + 1, 1, none⟩ = false := (he.frozens _ _ (by go_simp)).trans (by go_simp)
  have z2 : w1.frozen? ⟨w.heap.size + 1, 2, none⟩ = false := (he.frozens _ _ (by go_simp)).trans (by go_simp)
  have hw : Ext w w1 := ((Ext.refl w).alloc _ |>.alloc _).trans he
  clear he
  simp only [numV, Val.v]
  go_wp2_with fail
  exact bodyPost_ret (v := .agg #[.int .i64 0, .int .i64 (wrap64 (a.n * b.n)), .string ByteArray.empty]) (by simp [results, Try.results70, go_sem, f0, f1, f2]; done) rfl ⟨rfl, ext_three hw _ (by omega) _ _ _⟩

set_option maxHeartbeats 1000000 in
theorem div_any (a b : Val) (w : World) : Calls Try.prog 71 #[pairV a b] w fun r w' => r = .returned (numV (divI a.n b.n)).v ∧ Ext w w' := by
  simp only [pairV]
  by_cases hb : b.n = 0
  · have hd : (b.n == 0) = true := by simp [hb]
    have hr : divI a.n b.n = 0 := by simp [divI, hb]
    rw [hr]
    clear hb hr
    go_enter Try.func71, Try.ntmps71
    go_wp2_with fail
    refine (number_any _ _).mono ?_
    rintro r w1 ⟨rfl, he⟩
    have f0 : w1.cell? ⟨w.heap.size + 1, 0, none⟩ = some (.int .i64 0) := he.at (by go_simp)
    have f1 : w1.cell? ⟨w.heap.size + 1, 1, none⟩ = some (.int .i64 0) := he.at (by go_simp)
    have f2 : w1.cell? ⟨w.heap.size + 1, 2, none⟩ = some (.string ByteArray.empty) := he.at (by go_simp; rfl)
    have z0 : w1.frozen? ⟨w.heap.size + 1, 0, none⟩ = false := (he.frozens _ _ (by go_simp)).trans (by go_simp)
    have z1 : w1.frozen? ⟨w.heap.size + 1, 1, none⟩ = false := (he.frozens _ _ (by go_simp)).trans (by go_simp)
    have z2 : w1.frozen? ⟨w.heap.size + 1, 2, none⟩ = false := (he.frozens _ _ (by go_simp)).trans (by go_simp)
    have hw : Ext w w1 := ((Ext.refl w).alloc _ |>.alloc _).trans he
    clear he
    simp only [numV, Val.v]
    go_wp2_with fail
    exact bodyPost_ret (v := .agg #[.int .i64 0, .int .i64 0, .string ByteArray.empty]) (by simp [results, Try.results71, go_sem, f0, f1, f2]; done) rfl ⟨rfl, ext_three hw _ (by omega) _ _ _⟩
  · have hd : (b.n == 0) = false := by simp [hb]
    have hr : divI a.n b.n = wrap64 (a.n.tdiv b.n) := by simp [divI, hb]
    rw [hr]
    clear hr
    go_enter Try.func71, Try.ntmps71
    go_wp2_with fail
    refine (number_any _ _).mono ?_
    rintro r w1 ⟨rfl, he⟩
    have f0 : w1.cell? ⟨w.heap.size + 1, 0, none⟩ = some (.int .i64 0) := he.at (by go_simp)
    have f1 : w1.cell? ⟨w.heap.size + 1, 1, none⟩ = some (.int .i64 0) := he.at (by go_simp)
    have f2 : w1.cell? ⟨w.heap.size + 1, 2, none⟩ = some (.string ByteArray.empty) := he.at (by go_simp; rfl)
    have z0 : w1.frozen? ⟨w.heap.size + 1, 0, none⟩ = false := (he.frozens _ _ (by go_simp)).trans (by go_simp)
    have z1 : w1.frozen? ⟨w.heap.size + 1, 1, none⟩ = false := (he.frozens _ _ (by go_simp)).trans (by go_simp)
    have z2 : w1.frozen? ⟨w.heap.size + 1, 2, none⟩ = false := (he.frozens _ _ (by go_simp)).trans (by go_simp)
    have hw : Ext w w1 := ((Ext.refl w).alloc _ |>.alloc _).trans he
    clear he
    simp only [numV, Val.v]
    go_wp2_with fail
    exact bodyPost_ret (v := .agg #[.int .i64 0, .int .i64 (wrap64 (a.n.tdiv b.n)), .string ByteArray.empty]) (by simp [results, Try.results71, go_sem, f0, f1, f2]; done) rfl ⟨rfl, ext_three hw _ (by omega) _ _ _⟩

set_option maxHeartbeats 1000000 in
theorem mod_any (a b : Val) (w : World) : Calls Try.prog 72 #[pairV a b] w fun r w' => r = .returned (numV (modI a.n b.n)).v ∧ Ext w w' := by
  simp only [pairV]
  by_cases hb : b.n = 0
  · have hd : (b.n == 0) = true := by simp [hb]
    have hr : modI a.n b.n = 0 := by simp [modI, hb]
    rw [hr]
    clear hb hr
    go_enter Try.func72, Try.ntmps72
    go_wp2_with fail
    refine (number_any _ _).mono ?_
    rintro r w1 ⟨rfl, he⟩
    have f0 : w1.cell? ⟨w.heap.size + 1, 0, none⟩ = some (.int .i64 0) := he.at (by go_simp)
    have f1 : w1.cell? ⟨w.heap.size + 1, 1, none⟩ = some (.int .i64 0) := he.at (by go_simp)
    have f2 : w1.cell? ⟨w.heap.size + 1, 2, none⟩ = some (.string ByteArray.empty) := he.at (by go_simp; rfl)
    have z0 : w1.frozen? ⟨w.heap.size + 1, 0, none⟩ = false := (he.frozens _ _ (by go_simp)).trans (by go_simp)
    have z1 : w1.frozen? ⟨w.heap.size + 1, 1, none⟩ = false := (he.frozens _ _ (by go_simp)).trans (by go_simp)
    have z2 : w1.frozen? ⟨w.heap.size + 1, 2, none⟩ = false := (he.frozens _ _ (by go_simp)).trans (by go_simp)
    have hw : Ext w w1 := ((Ext.refl w).alloc _ |>.alloc _).trans he
    clear he
    simp only [numV, Val.v]
    go_wp2_with fail
    exact bodyPost_ret (v := .agg #[.int .i64 0, .int .i64 0, .string ByteArray.empty]) (by simp [results, Try.results72, go_sem, f0, f1, f2]; done) rfl ⟨rfl, ext_three hw _ (by omega) _ _ _⟩
  · have hd : (b.n == 0) = false := by simp [hb]
    have hr : modI a.n b.n = a.n.tmod b.n := by simp [modI, hb]
    rw [hr]
    clear hr
    go_enter Try.func72, Try.ntmps72
    go_wp2_with fail
    refine (number_any _ _).mono ?_
    rintro r w1 ⟨rfl, he⟩
    have f0 : w1.cell? ⟨w.heap.size + 1, 0, none⟩ = some (.int .i64 0) := he.at (by go_simp)
    have f1 : w1.cell? ⟨w.heap.size + 1, 1, none⟩ = some (.int .i64 0) := he.at (by go_simp)
    have f2 : w1.cell? ⟨w.heap.size + 1, 2, none⟩ = some (.string ByteArray.empty) := he.at (by go_simp; rfl)
    have z0 : w1.frozen? ⟨w.heap.size + 1, 0, none⟩ = false := (he.frozens _ _ (by go_simp)).trans (by go_simp)
    have z1 : w1.frozen? ⟨w.heap.size + 1, 1, none⟩ = false := (he.frozens _ _ (by go_simp)).trans (by go_simp)
    have z2 : w1.frozen? ⟨w.heap.size + 1, 2, none⟩ = false := (he.frozens _ _ (by go_simp)).trans (by go_simp)
    have hw : Ext w w1 := ((Ext.refl w).alloc _ |>.alloc _).trans he
    clear he
    simp only [numV, Val.v]
    go_wp2_with fail
    exact bodyPost_ret (v := .agg #[.int .i64 0, .int .i64 (a.n.tmod b.n), .string ByteArray.empty]) (by simp [results, Try.results72, go_sem, f0, f1, f2]; done) rfl ⟨rfl, ext_three hw _ (by omega) _ _ _⟩

def eqV (a b : Val) : Bool := decide (a.k = b.k ∧ a.n = b.n ∧ a.s.toList = b.s.toList)

set_option maxHeartbeats 1000000 in
theorem eq_any (a b : Val) (w : World) : Calls Try.prog 73 #[pairV a b] w fun r w' => r = .returned (boolV (eqV a b)).v ∧ Ext w w' := by
  simp only [pairV]
  go_enter Try.func73, Try.ntmps73
  go_wp2_with fail
  all_goals
    refine (truth_any _ _).mono ?_
    rintro r w1 ⟨rfl, he⟩
    have f0 : w1.cell? ⟨w.heap.size + 1, 0, none⟩ = some (.int .i64 0) := he.at (by go_simp)
    have f1 : w1.cell? ⟨w.heap.size + 1, 1, none⟩ = some (.int .i64 0) := he.at (by go_simp)
    have f2 : w1.cell? ⟨w.heap.size + 1, 2, none⟩ = some (.string ByteArray.empty) := he.at (by go_simp; rfl)
    have z0 : w1.frozen? ⟨w.heap.size + 1, 0, none⟩ = false := (he.frozens _ _ (by go_simp)).trans (by go_simp)
    have z1 : w1.frozen? ⟨w.heap.size + 1, 1, none⟩ = false := (he.frozens _ _ (by go_simp)).trans (by go_simp)
    have z2 : w1.frozen? ⟨w.heap.size + 1, 2, none⟩ = false := (he.frozens _ _ (by go_simp)).trans (by go_simp)
    have hw : Ext w w1 := ((Ext.refl w).alloc _ |>.alloc _).trans he
    clear he
    simp only [boolV, Val.v]
    go_wp2_with fail
    first
      | (refine bodyPost_ret (v := .agg #[.int .i64 2, .int .i64 1, .string ByteArray.empty]) ?_ rfl ⟨?_, ext_three hw _ (by omega) _ _ _⟩
         · simp [results, Try.results73, go_sem, f0, f1, f2]
         · simp [boolV, Val.v, eqV, *])
      | (refine bodyPost_ret (v := .agg #[.int .i64 2, .int .i64 0, .string ByteArray.empty]) ?_ rfl ⟨?_, ext_three hw _ (by omega) _ _ _⟩
         · simp [results, Try.results73, go_sem, f0, f1, f2]
         · simp [boolV, Val.v, eqV, *])

set_option maxHeartbeats 1000000 in
theorem ne_any (a b : Val) (w : World) : Calls Try.prog 74 #[pairV a b] w fun r w' => r = .returned (boolV (!eqV a b)).v ∧ Ext w w' := by
  simp only [pairV]
  go_enter Try.func74, Try.ntmps74
  go_wp2_with fail
  all_goals
    refine (truth_any _ _).mono ?_
    rintro r w1 ⟨rfl, he⟩
    have f0 : w1.cell? ⟨w.heap.size + 1, 0, none⟩ = some (.int .i64 0) := he.at (by go_simp)
    have f1 : w1.cell? ⟨w.heap.size + 1, 1, none⟩ = some (.int .i64 0) := he.at (by go_simp)
    have f2 : w1.cell? ⟨w.heap.size + 1, 2, none⟩ = some (.string ByteArray.empty) := he.at (by go_simp; rfl)
    have z0 : w1.frozen? ⟨w.heap.size + 1, 0, none⟩ = false := (he.frozens _ _ (by go_simp)).trans (by go_simp)
    have z1 : w1.frozen? ⟨w.heap.size + 1, 1, none⟩ = false := (he.frozens _ _ (by go_simp)).trans (by go_simp)
    have z2 : w1.frozen? ⟨w.heap.size + 1, 2, none⟩ = false := (he.frozens _ _ (by go_simp)).trans (by go_simp)
    have hw : Ext w w1 := ((Ext.refl w).alloc _ |>.alloc _).trans he
    clear he
    simp only [boolV, Val.v]
    go_wp2_with fail
    first
      | (refine bodyPost_ret (v := .agg #[.int .i64 2, .int .i64 1, .string ByteArray.empty]) ?_ rfl ⟨?_, ext_three hw _ (by omega) _ _ _⟩
         · simp [results, Try.results74, go_sem, f0, f1, f2]
         · simp [boolV, Val.v, eqV, *])
      | (refine bodyPost_ret (v := .agg #[.int .i64 2, .int .i64 0, .string ByteArray.empty]) ?_ rfl ⟨?_, ext_three hw _ (by omega) _ _ _⟩
         · simp [results, Try.results74, go_sem, f0, f1, f2]
         · simp [boolV, Val.v, eqV, *])

set_option maxHeartbeats 1000000 in
theorem lt_any (a b : Val) (w : World) : Calls Try.prog 75 #[pairV a b] w fun r w' => r = .returned (boolV (decide (cmpV a b < 0))).v ∧ Ext w w' := by
  simp only [pairV]
  go_enter Try.func75, Try.ntmps75
  go_wp2_with fail
  have hc := compare_any a b
  simp only [Val.v] at hc
  refine (hc _).mono ?_
  rintro r w0 ⟨rfl, he0⟩
  clear hc
  go_wp2_with fail
  refine (truth_any _ _).mono ?_
  rintro r w1 ⟨rfl, he⟩
  replace he := he0.trans he
  clear he0
  have f0 : w1.cell? ⟨w.heap.size + 1, 0, none⟩ = some (.int .i64 0) := he.at (by go_simp)
  have f1 : w1.cell? ⟨w.heap.size + 1, 1, none⟩ = some (.int .i64 0) := he.at (by go_simp)
  have f2 : w1.cell? ⟨w.heap.size + 1, 2, none⟩ = some (.string ByteArray.empty) := he.at (by go_simp; rfl)
  have z0 : w1.frozen? ⟨w.heap.size + 1, 0, none⟩ = false := (he.frozens _ _ (by go_simp)).trans (by go_simp)
  have z1 : w1.frozen? ⟨w.heap.size + 1, 1, none⟩ = false := (he.frozens _ _ (by go_simp)).trans (by go_simp)
  have z2 : w1.frozen? ⟨w.heap.size + 1, 2, none⟩ = false := (he.frozens _ _ (by go_simp)).trans (by go_simp)
  have hw : Ext w w1 := ((Ext.refl w).alloc _ |>.alloc _).trans he
  clear he
  cases hcc : decide (cmpV a b < 0)
  all_goals
    simp only [boolV, Val.v]
    go_wp2_with fail
    first
      | (refine bodyPost_ret (v := .agg #[.int .i64 2, .int .i64 1, .string ByteArray.empty]) ?_ rfl ⟨?_, ext_three hw _ (by omega) _ _ _⟩
         · simp [results, Try.results75, go_sem, f0, f1, f2]
         · simp [boolV, Val.v, hcc])
      | (refine bodyPost_ret (v := .agg #[.int .i64 2, .int .i64 0, .string ByteArray.empty]) ?_ rfl ⟨?_, ext_three hw _ (by omega) _ _ _⟩
         · simp [results, Try.results75, go_sem, f0, f1, f2]
         · simp [boolV, Val.v, hcc])

set_option maxHeartbeats 1000000 in
theorem le_any (a b : Val) (w : World) : Calls Try.prog 76 #[pairV a b] w fun r w' => r = .returned (boolV (decide (cmpV a b ≤ 0))).v ∧ Ext w w' := by
  simp only [pairV]
  go_enter Try.func76, Try.ntmps76
  go_wp2_with fail
  have hc := compare_any a b
  simp only [Val.v] at hc
  refine (hc _).mono ?_
  rintro r w0 ⟨rfl, he0⟩
  clear hc
  go_wp2_with fail
  refine (truth_any _ _).mono ?_
  rintro r w1 ⟨rfl, he⟩
  replace he := he0.trans he
  clear he0
  have f0 : w1.cell? ⟨w.heap.size + 1, 0, none⟩ = some (.int .i64 0) := he.at (by go_simp)
  have f1 : w1.cell? ⟨w.heap.size + 1, 1, none⟩ = some (.int .i64 0) := he.at (by go_simp)
  have f2 : w1.cell? ⟨w.heap.size + 1, 2, none⟩ = some (.string ByteArray.empty) := he.at (by go_simp; rfl)
  have z0 : w1.frozen? ⟨w.heap.size + 1, 0, none⟩ = false := (he.frozens _ _ (by go_simp)).trans (by go_simp)
  have z1 : w1.frozen? ⟨w.heap.size + 1, 1, none⟩ = false := (he.frozens _ _ (by go_simp)).trans (by go_simp)
  have z2 : w1.frozen? ⟨w.heap.size + 1, 2, none⟩ = false := (he.frozens _ _ (by go_simp)).trans (by go_simp)
  have hw : Ext w w1 := ((Ext.refl w).alloc _ |>.alloc _).trans he
  clear he
  cases hcc : decide (cmpV a b ≤ 0)
  all_goals
    simp only [boolV, Val.v]
    go_wp2_with fail
    first
      | (refine bodyPost_ret (v := .agg #[.int .i64 2, .int .i64 1, .string ByteArray.empty]) ?_ rfl ⟨?_, ext_three hw _ (by omega) _ _ _⟩
         · simp [results, Try.results76, go_sem, f0, f1, f2]
         · simp [boolV, Val.v, hcc])
      | (refine bodyPost_ret (v := .agg #[.int .i64 2, .int .i64 0, .string ByteArray.empty]) ?_ rfl ⟨?_, ext_three hw _ (by omega) _ _ _⟩
         · simp [results, Try.results76, go_sem, f0, f1, f2]
         · simp [boolV, Val.v, hcc])

set_option maxHeartbeats 1000000 in
theorem both_any (a b : Val) (w : World) : Calls Try.prog 77 #[pairV a b] w fun r w' => r = .returned (boolV (decide (a.n = 1) && decide (b.n = 1))).v ∧ Ext w w' := by
  simp only [pairV]
  by_cases h1 : a.n = 1 <;> by_cases h2 : b.n = 1
  all_goals
    have g1 : (a.n == 1) = decide (a.n = 1) := rfl
    have g2 : (b.n == 1) = decide (b.n = 1) := rfl
    simp only [h1, h2, decide_true, decide_false] at g1 g2
    simp only [h1, h2, decide_true, decide_false]
    go_enter Try.func77, Try.ntmps77
    go_wp2_with fail
    refine (truth_any _ _).mono ?_
    rintro r w1 ⟨rfl, he⟩
    have f0 : w1.cell? ⟨w.heap.size + 1, 0, none⟩ = some (.int .i64 0) := he.at (by go_simp)
    have f1 : w1.cell? ⟨w.heap.size + 1, 1, none⟩ = some (.int .i64 0) := he.at (by go_simp)
    have f2 : w1.cell? ⟨w.heap.size + 1, 2, none⟩ = some (.string ByteArray.empty) := he.at (by go_simp; rfl)
    have z0 : w1.frozen? ⟨w.heap.size + 1, 0, none⟩ = false := (he.frozens _ _ (by go_simp)).trans (by go_simp)
    have z1 : w1.frozen? ⟨w.heap.size + 1, 1, none⟩ = false := (he.frozens _ _ (by go_simp)).trans (by go_simp)
    have z2 : w1.frozen? ⟨w.heap.size + 1, 2, none⟩ = false := (he.frozens _ _ (by go_simp)).trans (by go_simp)
    have hw : Ext w w1 := ((Ext.refl w).alloc _ |>.alloc _).trans he
    clear he
    simp only [boolV, Val.v]
    go_wp2_with fail
    first
      | (refine bodyPost_ret (v := .agg #[.int .i64 2, .int .i64 1, .string ByteArray.empty]) ?_ rfl ⟨?_, ext_three hw _ (by omega) _ _ _⟩
         · simp [results, Try.results77, go_sem, f0, f1, f2]
         · simp [boolV, Val.v, eqV, *])
      | (refine bodyPost_ret (v := .agg #[.int .i64 2, .int .i64 0, .string ByteArray.empty]) ?_ rfl ⟨?_, ext_three hw _ (by omega) _ _ _⟩
         · simp [results, Try.results77, go_sem, f0, f1, f2]
         · simp [boolV, Val.v, eqV, *])

set_option maxHeartbeats 1000000 in
theorem any_any (a b : Val) (w : World) : Calls Try.prog 78 #[pairV a b] w fun r w' => r = .returned (boolV (decide (a.n = 1) || decide (b.n = 1))).v ∧ Ext w w' := by
  simp only [pairV]
  by_cases h1 : a.n = 1 <;> by_cases h2 : b.n = 1
  all_goals
    have g1 : (a.n == 1) = decide (a.n = 1) := rfl
    have g2 : (b.n == 1) = decide (b.n = 1) := rfl
    simp only [h1, h2, decide_true, decide_false] at g1 g2
    simp only [h1, h2, decide_true, decide_false]
    go_enter Try.func78, Try.ntmps78
    go_wp2_with fail
    refine (truth_any _ _).mono ?_
    rintro r w1 ⟨rfl, he⟩
    have f0 : w1.cell? ⟨w.heap.size + 1, 0, none⟩ = some (.int .i64 0) := he.at (by go_simp)
    have f1 : w1.cell? ⟨w.heap.size + 1, 1, none⟩ = some (.int .i64 0) := he.at (by go_simp)
    have f2 : w1.cell? ⟨w.heap.size + 1, 2, none⟩ = some (.string ByteArray.empty) := he.at (by go_simp; rfl)
    have z0 : w1.frozen? ⟨w.heap.size + 1, 0, none⟩ = false := (he.frozens _ _ (by go_simp)).trans (by go_simp)
    have z1 : w1.frozen? ⟨w.heap.size + 1, 1, none⟩ = false := (he.frozens _ _ (by go_simp)).trans (by go_simp)
    have z2 : w1.frozen? ⟨w.heap.size + 1, 2, none⟩ = false := (he.frozens _ _ (by go_simp)).trans (by go_simp)
    have hw : Ext w w1 := ((Ext.refl w).alloc _ |>.alloc _).trans he
    clear he
    simp only [boolV, Val.v]
    go_wp2_with fail
    first
      | (refine bodyPost_ret (v := .agg #[.int .i64 2, .int .i64 1, .string ByteArray.empty]) ?_ rfl ⟨?_, ext_three hw _ (by omega) _ _ _⟩
         · simp [results, Try.results78, go_sem, f0, f1, f2]
         · simp [boolV, Val.v, eqV, *])
      | (refine bodyPost_ret (v := .agg #[.int .i64 2, .int .i64 0, .string ByteArray.empty]) ?_ rfl ⟨?_, ext_three hw _ (by omega) _ _ _⟩
         · simp [results, Try.results78, go_sem, f0, f1, f2]
         · simp [boolV, Val.v, eqV, *])

/-- two texts in one, of at most 200 bytes -/
def joinS (a b : ByteArray) : ByteArray := (a ++ b).extract 0 (min (a.size + b.size) 200)

set_option maxHeartbeats 1000000 in
theorem join_any (a b : Val) (hz : ¬9223372036854775807 < a.s.size + b.s.size) (w : World) : Calls Try.prog 79 #[pairV a b] w fun r w' => r = .returned (textV (joinS a.s b.s)).v ∧ Ext w w' := by
  simp only [pairV]
  have hj := Lib.hid (show joinS a.s b.s = (a.s ++ b.s).extract 0 (min ((a.s.size : Int) + b.s.size) 200).toNat by
    have : (min ((a.s.size : Int) + b.s.size) 200).toNat = min (a.s.size + b.s.size) 200 := by omega
    rw [this]; rfl)
  go_enter Try.func79, Try.ntmps79
  go_wp2_with fail
  exact bodyPost_ret (v := .agg #[.int .i64 1, .int .i64 0, .string ((a.s ++ b.s).extract 0 (min ((a.s.size : Int) + b.s.size) 200).toNat)]) (by simp [results, Try.results79, go_sem]) rfl ⟨by simp only [textV, Val.v, hj.out], (by repeat' first | exact Ext.refl _ | assumption | apply Ext.alloc | apply Ext.drew | apply Ext.drewN | (refine Ext.trans ?_ (by assumption)))⟩
end Go.Proofs.Ytmhelkhmgbbfhaa

/- Walks: types of operations, as the program finds them. -/
namespace Go.Proofs.Ytmhelkhmgbbfhaa
open Go.RowKit Go.Lib

theorem len3 {l : List Int} (h : l.length = 3) : ∃ a b c, l = [a, b, c] := by
  match l, h with | [a, b, c], _ => exact ⟨a, b, c, rfl⟩
theorem allAre_one (ts : List Int) (t : Int) : allAre ts t 1 = decide (ts = [t]) := by
  unfold allAre
  match ts with
  | [] => simp
  | [a] => by_cases h : a = t <;> simp [h]
  | a :: b :: l => simp; omega
theorem allAre_two (ts : List Int) (t : Int) : allAre ts t 2 = decide (ts = [t, t]) := by
  unfold allAre
  match ts with
  | [] => simp
  | [a] => simp
  | [a, b] => by_cases h : a = t <;> by_cases h2 : b = t <;> simp [h, h2]
  | a :: b :: c :: l => simp; omega
theorem answer_dec {p : Prop} [Decidable p] {x : Int} {t : Option Int} (h : t = if p then some x else none) : Answer t (.returned (.tuple #[.int .i64 x, .bool (decide p)])) := by
  refine answer_of ?_
  rw [h]; by_cases hp : p <;> simp [hp]

set_option maxRecDepth 10000 in
set_option maxHeartbeats 4000000 in
theorem operation_any (e : Ex) (ts : List Int) (S S2 : Nat → Prop) (cs : List Value) (v : Value) (w : World) (hr : Rd w S e.d cs) (hts : Rd w S2 (.sl (ts.map D.int)) [v]) (hne : ts ≠ []) :
    Calls Try.prog 94 #[.agg cs.toArray, v] w fun r w' => Answer (operT e.op e.n ts) r ∧ Ext w w' := by
  obtain ⟨A, cap, b, off, rfl, hl1, hl2, hl3, hm⟩ := Ex.open hr
  obtain ⟨o, m, s, l⟩ := e
  simp only [Ex.args, Ex.op, Ex.n, Ex.s] at *
  obtain ⟨A9, cap9, b9, off9, rfl, z1, z2, z3, z4⟩ := Rd.sl_open hts
  simp only [List.length_map] at *
  have hts' := Lib.hid hts
  have hpos : 0 < ts.length := by cases ts with | nil => exact absurd rfl hne | cons a r => simp
  obtain ⟨rfl, hSb⟩ := z3 hpos
  have hne' := Lib.hid hne
  have c0 := ints_at z4 hpos
  simp only [Nat.add_zero] at c0
  have z4' := Lib.hid z4; have hSb' := Lib.hid hSb
  clear hr hm hl3 hts z3 z4 hne hSb
  by_cases hm0 : m = 0
  case neg =>
    have H := Lib.hid (show operT o m ts = none by unfold operT; rw [if_pos hm0])
    go_enter Try.func94, Try.ntmps94
    go_wp2_with fail
    go_ret2
    exact ⟨by rw [H.out]; exact answer_none, (by repeat' first | exact Ext.refl _ | assumption | apply Ext.alloc | apply Ext.drew | apply Ext.drewN | (refine Ext.trans ?_ (by assumption)))⟩
  subst hm0
  have hO : (o = 6 ∨ o = 7 ∨ o = 20) ∨ (o = 8 ∨ o = 9 ∨ o = 10 ∨ o = 11 ∨ o = 12) ∨ (o = 13 ∨ o = 14 ∨ o = 15 ∨ o = 16) ∨ (o = 17 ∨ o = 18 ∨ o = 19) ∨ o = 21 ∨ (o < 6 ∨ 21 < o) := by omega
  have hO' := Lib.hid hO; clear hO
  have hall := Lib.hid (fun (t n : Int) (b : Nat) (w' : World) (h : w'.cell? ⟨b, 0, none⟩ = some (.slice (some ⟨b9, off9, none⟩) ts.length cap9)) (hw : Ext w w') => all_any ts t n b S2 _ w' h (hts'.out.ext hw))
  rcases hO'.out with hC | hC | hC | hC | hC | hC
  · clear hO'
    rcases hC with rfl | rfl | rfl
    all_goals
      go_enter Try.func94, Try.ntmps94
      go_wp2_with fail
      refine (hall.out _ _ _ _ (by go_simp) (by repeat' first | exact Ext.refl _ | assumption | apply Ext.alloc | apply Ext.drew | apply Ext.drewN | (refine Ext.trans ?_ (by assumption)))).mono ?_
      rintro r w1 ⟨rfl, he⟩
      go_wp2_with fail
      go_ret2
      exact ⟨by rw [allAre_one]; exact answer_dec (by simp [operT]), (by repeat' first | exact Ext.refl _ | assumption | apply Ext.alloc | apply Ext.drew | apply Ext.drewN | (refine Ext.trans ?_ (by assumption)))⟩
  · clear hO'
    rcases hC with rfl | rfl | rfl | rfl | rfl
    all_goals
      go_enter Try.func94, Try.ntmps94
      go_wp2_with fail
      refine (hall.out _ _ _ _ (by go_simp) (by repeat' first | exact Ext.refl _ | assumption | apply Ext.alloc | apply Ext.drew | apply Ext.drewN | (refine Ext.trans ?_ (by assumption)))).mono ?_
      rintro r w1 ⟨rfl, he⟩
      go_wp2_with fail
      go_ret2
      exact ⟨by rw [allAre_two]; exact answer_dec (by simp [operT]), (by repeat' first | exact Ext.refl _ | assumption | apply Ext.alloc | apply Ext.drew | apply Ext.drewN | (refine Ext.trans ?_ (by assumption)))⟩
  · clear hO'
    have H := Lib.hid (show ∀ op : Int, 13 ≤ op ∧ op ≤ 16 → operT op 0 ts = if ts = [ts[0], ts[0]] then some 2 else none by
      intro op hop
      unfold operT
      rw [if_neg (by simp), if_neg (by omega), if_neg (by omega), if_neg (by omega), if_neg (by omega), if_pos hop]
      match ts with
      | [a] => simp
      | [a, b] => simp; by_cases hab : a = b <;> simp [hab]; exact fun h => hab h.symm
      | a :: b :: c :: r => simp)
    have hld : ∀ o1 o2, ((w.alloc o1).alloc o2).cell? ⟨b9, off9, none⟩ = some (.int .i64 ts[0]) := fun o1 o2 => (((Ext.refl w).alloc o1).alloc o2).at c0
    rcases hC with rfl | rfl | rfl | rfl
    all_goals
      go_enter Try.func94, Try.ntmps94
      go_wp2_with fail
      refine (hall.out _ _ _ _ (by go_simp) (by repeat' first | exact Ext.refl _ | assumption | apply Ext.alloc | apply Ext.drew | apply Ext.drewN | (refine Ext.trans ?_ (by assumption)))).mono ?_
      rintro r w1 ⟨rfl, he⟩
      go_wp2_with fail
      go_ret2
      exact ⟨by rw [allAre_two]; exact answer_dec (H.out _ (by decide)), (by repeat' first | exact Ext.refl _ | assumption | apply Ext.alloc | apply Ext.drew | apply Ext.drewN | (refine Ext.trans ?_ (by assumption)))⟩
  · clear hO'
    rcases hC with rfl | rfl | rfl
    all_goals
      go_enter Try.func94, Try.ntmps94
      go_wp2_with fail
      refine (hall.out _ _ _ _ (by go_simp) (by repeat' first | exact Ext.refl _ | assumption | apply Ext.alloc | apply Ext.drew | apply Ext.drewN | (refine Ext.trans ?_ (by assumption)))).mono ?_
      rintro r w1 ⟨rfl, he⟩
      go_wp2_with fail
      go_ret2
      exact ⟨by rw [allAre_two]; exact answer_dec (by simp [operT]), (by repeat' first | exact Ext.refl _ | assumption | apply Ext.alloc | apply Ext.drew | apply Ext.drewN | (refine Ext.trans ?_ (by assumption)))⟩
  · clear hO'
    subst hC
    have hbx : ∀ o1 (x : ExtW ((w.alloc o1).alloc (.cells #[.slice (some ⟨b9, off9, none⟩) ts.length cap9] 31))), x.val.cell? ⟨w.heap.size + 1, 0, none⟩ = some (.slice (some ⟨b9, off9, none⟩) ts.length cap9) := fun o1 x => x.ext.at (by go_simp)
    have hcl : ∀ (j : Nat) (hj : j < ts.length) o1 o2 (x : ExtW ((w.alloc o1).alloc o2)), x.val.cell? ⟨b9, off9 + j, none⟩ = some (.int .i64 ts[j]) := fun j hj o1 o2 x => x.ext.at ((((Ext.refl w).alloc o1).alloc o2).at (ints_at z4'.out hj))
    have hcl' := Lib.hid hcl; clear hcl
    by_cases hl : ts.length = 3
    · obtain ⟨t0, t1, t2, rfl⟩ := len3 hl
      have y0 := hcl'.out 0 (by simp)
      have y1 := hcl'.out 1 (by simp)
      have y2 := hcl'.out 2 (by simp)
      simp only [List.getElem_cons_zero, List.getElem_cons_succ, Nat.add_zero, List.length_cons, List.length_nil, Nat.zero_add, Nat.reduceAdd] at y0 y1 y2 hbx
      clear c0
      by_cases ht : t0 = 2
      · subst ht
        go_enter Try.func94, Try.ntmps94
        go_wp2_with fail
        refine wp_region_ext (by kernel_rfl) (by kernel_rfl) ?_
        repeat (go_big_quiet_step ((fail)))
        refine wpQuiet_nil ?_
        intro w1 he
        go_wp2_with fail
        go_ret2
        exact ⟨answer_of (by by_cases hx : t1 = t2 <;> simp [operT, hx]), (by repeat' first | exact Ext.refl _ | assumption | apply Ext.alloc | apply Ext.drew | apply Ext.drewN | (refine Ext.trans ?_ (by assumption)))⟩
      · have ht2 : (t0 == 2) = false := by simp [ht]
        go_enter Try.func94, Try.ntmps94
        go_wp2_with fail
        refine wp_region_ext (by kernel_rfl) (by kernel_rfl) ?_
        repeat (go_big_quiet_step ((fail)))
        refine wpQuiet_nil ?_
        intro w1 he
        go_wp2_with fail
        go_ret2
        exact ⟨answer_of (by simp [operT, ht]), (by repeat' first | exact Ext.refl _ | assumption | apply Ext.alloc | apply Ext.drew | apply Ext.drewN | (refine Ext.trans ?_ (by assumption)))⟩
    · have y0 := hcl'.out (ts.length - 1) (by omega)
      have hl2 : ¬ (ts.length : Int) = 3 := by omega
      have hl3 : ((ts.length : Int) == 3) = false := by simp; omega
      have hz : off9 + (ts.length - 1) = off9 + (ts.length - 1) := rfl
      clear hz
      have H := Lib.hid (show operT 21 0 ts = none by
        unfold operT
        rw [if_neg (by simp), if_neg (by omega), if_neg (by omega), if_neg (by omega), if_neg (by omega), if_neg (by omega), if_neg (by omega), if_neg (by omega), if_pos rfl]
        match ts, hl with
        | [], _ => rfl
        | [a], _ => rfl
        | [a, b], _ => rfl
        | [a, b, c], h => exact absurd rfl h
        | a :: b :: c :: d :: r, _ => rfl)
      go_enter Try.func94, Try.ntmps94
      go_wp2_with fail
      refine wp_region_ext (by kernel_rfl) (by kernel_rfl) ?_
      repeat (go_big_quiet_step ((fail)))
      refine wpQuiet_nil ?_
      intro w1 he
      go_wp2_with fail
      go_ret2
      exact ⟨by rw [H.out]; exact answer_none, (by repeat' first | exact Ext.refl _ | assumption | apply Ext.alloc | apply Ext.drew | apply Ext.drewN | (refine Ext.trans ?_ (by assumption)))⟩
  · clear hO'
    have H := Lib.hid (show operT o 0 ts = none by
      unfold operT
      rw [if_neg (by simp), if_neg (by omega), if_neg (by omega), if_neg (by omega), if_neg (by omega), if_neg (by omega), if_neg (by omega), if_neg (by omega), if_neg (by omega)])
    rcases hC with hC | hC
    all_goals
      go_enter Try.func94, Try.ntmps94
      go_wp2_with fail
      go_ret2
      exact ⟨by rw [H.out]; exact answer_none, (by repeat' first | exact Ext.refl _ | assumption | apply Ext.alloc | apply Ext.drew | apply Ext.drewN | (refine Ext.trans ?_ (by assumption)))⟩

end Go.Proofs.Ytmhelkhmgbbfhaa

/- Walk: slices.Equal at ints. -/
namespace Go.Proofs.Ytmhelkhmgbbfhaa
open Go.RowKit Go.Lib

set_option maxHeartbeats 1000000 in
theorem equal_any (xs ys : List Int) (S S2 : Nat → Prop) (v v2 : Value) (w : World) (hr : Rd w S (.sl (xs.map D.int)) [v]) (hr2 : Rd w S2 (.sl (ys.map D.int)) [v2]) :
    Calls Try.prog 93 #[v, v2] w fun r w' => r = .returned (.bool (decide (xs = ys))) ∧ Ext w w' := by
  obtain ⟨A, cap, b, off, rfl, hl1, hl2, hl3, hm⟩ := Rd.sl_open hr
  obtain ⟨A0, cap0, b0, off0, rfl, k1, k2, k3, km⟩ := Rd.sl_open hr2
  simp only [List.length_map] at *
  have hl3' := Lib.hid hl3; have hm' := Lib.hid hm; have k3' := Lib.hid k3; have km' := Lib.hid km
  clear hr hr2 hl3 hm k3 km
  by_cases hlen : xs.length = ys.length
  · have hlen' := Lib.hid hlen
    obtain ⟨n, hn⟩ : ∃ n, n = ys.length := ⟨_, rfl⟩
    rw [hlen, ← hn] at hl1 ⊢
    rw [← hn] at k1
    have hn' := Lib.hid hn
    clear hlen hn
    go_enter Try.func93, Try.ntmps93
    go_wp2_with fail
    go_loopw [13] (fun i wr => ∃ (k : Nat), k ≤ n ∧ i = .int .i64 k ∧ Hid (xs.take k = ys.take k) ∧ Ext w wr) (fun i _ => n - (intOf i).toNat)
    case atStart => exact ⟨0, by omega, rfl, Lib.hid rfl, Ext.refl _⟩
    case round =>
      obtain ⟨k, hk, rfl, HH, hw⟩ := hrel
      by_cases hlt : k < n
      · have hx : k < xs.length := by rw [hlen'.out, ← hn'.out]; exact hlt
        have hy : k < ys.length := by rw [← hn'.out]; exact hlt
        obtain ⟨rfl, hSb⟩ := hl3'.out (by omega)
        obtain ⟨rfl, hSb2⟩ := k3'.out (by omega)
        have d0 := ints_at (hm'.out.ext (fun _ => hSb) hw) hx
        have d1 := ints_at (km'.out.ext (fun _ => hSb2) hw) hy
        have hSb' := Lib.hid hSb; have hSb2' := Lib.hid hSb2
        clear hSb hSb2
        have gd0 := ExtW.at d0
        have gd1 := ExtW.at d1
        by_cases he : xs[k] = ys[k]
        · have he1 : (xs[k] != ys[k]) = false := by simp [he]
          have he' := Lib.hid he; clear he
          go_wp2_with fail
          refine wp_region_ext (by kernel_rfl) (by kernel_rfl) ?_
          repeat (go_big_quiet_step ((fail)))
          refine wpQuiet_nil ?_
          intro w1 he1
          go_wp2_with fail
          go_roundw
          case rel => exact ⟨k + 1, by omega, by go_num, Lib.hid (by rw [List.take_succ_eq_append_getElem hx, List.take_succ_eq_append_getElem hy, HH.out, he'.out]), hw.trans he1⟩
          case measure => simp [intOf]; omega
        · have he1 : (xs[k] != ys[k]) = true := by simp [he]
          have H := Lib.hid (show decide (xs = ys) = false by rw [decide_eq_false]; intro h; subst h; exact he rfl)
          clear he
          go_wp2_with fail
          refine wp_region_ext (by kernel_rfl) (by kernel_rfl) ?_
          repeat (go_big_quiet_step ((fail)))
          refine wpQuiet_nil ?_
          intro w1 he2
          go_wp2_with fail
          go_ret
          exact ⟨ret_bool (by rw [H.out]), hw.trans he2⟩
      · have hkl : k = n := by omega
        subst hkl
        have H := Lib.hid (show decide (xs = ys) = true by
          rw [decide_eq_true]
          have h1 := HH.out
          rw [List.take_of_length_le (by rw [hlen'.out, ← hn'.out]; omega), List.take_of_length_le (by rw [← hn'.out]; omega)] at h1
          exact h1)
        go_wp2_with fail
        go_ret
        exact ⟨ret_bool (by rw [H.out]), hw⟩
  · have H := Lib.hid (show decide (xs = ys) = false by rw [decide_eq_false]; intro h; subst h; exact hlen rfl)
    have hl4 : ¬ (xs.length : Int) = ys.length := by omega
    go_enter Try.func93, Try.ntmps93
    go_wp2_with fail
    go_ret
    exact ⟨ret_bool (by rw [H.out]), Ext.refl _⟩


end Go.Proofs.Ytmhelkhmgbbfhaa

/- Walk: the type of an expression, as the reference finds it. -/
namespace Go.Proofs.Ytmhelkhmgbbfhaa
open Go.RowKit Go.Lib

theorem tys_cons (F : List Fn) (c p : List Int) (e : Ex) (l : List Ex) : tys F c p (e :: l) = (match ty F c p e with | some t => (tys F c p l).map (t :: ·) | none => none) := by
  rw [tys]; cases ty F c p e <;> simp
  cases tys F c p l <;> rfl

/-- what has been collected before place k, and what is to come -/
def TysAt (F : List Fn) (c p : List Int) (l : List Ex) (ts : List Int) (k : Nat) : Prop := tys F c p l = (tys F c p (l.drop k)).map (ts ++ ·)
theorem TysAt.start (F : List Fn) (c p : List Int) (l : List Ex) : TysAt F c p l [] 0 := by simp [TysAt]
theorem TysAt.next {F : List Fn} {c p : List Int} {l : List Ex} {ts : List Int} {k : Nat} (h : TysAt F c p l ts k) (hk : k < l.length) {t : Int} (ht : ty F c p l[k] = some t) : TysAt F c p l (ts ++ [t]) (k + 1) := by
  unfold TysAt at *
  rw [h, List.drop_eq_getElem_cons hk, tys_cons, ht]
  cases tys F c p (l.drop (k + 1)) <;> simp
theorem TysAt.none {F : List Fn} {c p : List Int} {l : List Ex} {ts : List Int} {k : Nat} (h : TysAt F c p l ts k) (hk : k < l.length) (ht : ty F c p l[k] = .none) : tys F c p l = .none := by
  unfold TysAt at h
  rw [h, List.drop_eq_getElem_cons hk, tys_cons, ht]; rfl
theorem TysAt.done {F : List Fn} {c p : List Int} {l : List Ex} {ts : List Int} (h : TysAt F c p l ts l.length) : tys F c p l = some ts := by
  unfold TysAt at h
  rw [h]; simp [tys]

def InnerEnd (F : List Fn) (c p : List Int) (o m : Int) (s : ByteArray) (l : List Ex) (bx : Nat) (vF vc vp vts : Value) (w w' : World) : Prop :=
  ∃ ts, InnerAt F c p o m s ts bx vF vc vp vts w' ∧ ty F c p (.mk o m s l) = tailT F c p o m s ts ∧ Ext w w'

set_option maxRecDepth 100000 in
set_option maxHeartbeats 4000000 in
theorem inner_any (F : List Fn) (c p : List Int) (e : Ex) : ∀ (S S1 S2 S3 : Nat → Prop) (vF vc vp : Value) (cs : List Value) (w : World), Rd w S (.sl (F.map Fn.d)) [vF] → Rd w S1 (.sl (c.map D.int)) [vc] → Rd w S2 (.sl (p.map D.int)) [vp] → Rd w S3 e.d cs → parts e ≤ 1000000 →
    Calls Try.prog 90 #[vF, vc, vp, .agg cs.toArray] w fun r w' => Answer (ty F c p e) r ∧ Ext w w' := by
  induction e using Ex.ind with | h o m s l ih => ?_
  intro S S1 S2 S3 vF vc vp cs w hF hc hp hr hbd
  obtain ⟨A, cap, b, off, rfl, hl1, hl2, hl3, hm⟩ := Ex.open hr
  simp only [Ex.args, Ex.op, Ex.n, Ex.s] at *
  have hll : l.length ≤ 1000000 := by rw [parts] at hbd; have := partsL_len l; omega
  have hF' := Lib.hid hF; have hc' := Lib.hid hc; have hp' := Lib.hid hp; have hl3' := Lib.hid hl3; have hm' := Lib.hid hm
  have H := Lib.hid (show ty F c p (.mk o m s l) = match tys F c p l with | some ts => tailT F c p o m s ts | none => none by rw [ty]; cases tys F c p l <;> rfl)
  clear hF hc hp hr hl3 hm
  go_enter Try.func90, Try.ntmps90
  go_wp2_with fail
  rename_i K9 hK9
  have hK8 : ∀ (u3 u4 u5 u6 u8 u9 u11 u12 u13 u14 u15 u16 u17 u18 u19 u20 u21 u22 u23 u24 u25 u26 u27 u28 u29 u30 u31 u32 u33 u34 u35 u36 u37 u38 u39 u40 u41 u42 u43 u44 u45 u46 u47 u48 u49 u50 u51 u52 u53 u54 u55 u56 u57 u58 u59 u60 u61 u62 u63 u64 u65 u66 u67 u68 u69 u70 u71 u72 u73 u74 u75 u76 u77 u78 u79 u80 u81 u82 u83 u84 u85 u86 u87 u88 u89 u90 u91 u92 u93 u94 u95 u96 u97 u98 u99 u100 u101 u102 u103 u104 u105 u106 u107 u108 u109 u110 u111 u112 u113 u114 u115 u116 u117 u118 u119 u120 u121 u122 u123 u124 u125 u126 u127 u128 u129 u130 u131 u132 u133 u134 u135 u136 u137 u138 u139 u140 u141 u142 u143 u144 u145 u146 u147 u148 u149 u150 u151 u152 u153 u154 u155 u156 u157 u158 u159 u160 u161 u162 u163 u164 u165 u166 u167 u168 u169 u170 u171 u172 u173 u174 u175 u176 u177 u178 u179 u180 u181 u182 u183 u184 u185 u186 u187 u188 u189 u190 u191 u192 : Value) (vts : Value) (w' : World), InnerEnd F c p o m s l w.heap.size vF vc vp vts w w' → K9 ⟨#[vF, vc, vp, u3, u4, u5, u6, .pointer (some ⟨w.heap.size, 0, none⟩), u8, u9, vts, u11, u12, u13, u14, u15, u16, u17, u18, u19, u20, u21, u22, u23, u24, u25, u26, u27, u28, u29, u30, u31, u32, u33, u34, u35, u36, u37, u38, u39, u40, u41, u42, u43, u44, u45, u46, u47, u48, u49, u50, u51, u52, u53, u54, u55, u56, u57, u58, u59, u60, u61, u62, u63, u64, u65, u66, u67, u68, u69, u70, u71, u72, u73, u74, u75, u76, u77, u78, u79, u80, u81, u82, u83, u84, u85, u86, u87, u88, u89, u90, u91, u92, u93, u94, u95, u96, u97, u98, u99, u100, u101, u102, u103, u104, u105, u106, u107, u108, u109, u110, u111, u112, u113, u114, u115, u116, u117, u118, u119, u120, u121, u122, u123, u124, u125, u126, u127, u128, u129, u130, u131, u132, u133, u134, u135, u136, u137, u138, u139, u140, u141, u142, u143, u144, u145, u146, u147, u148, u149, u150, u151, u152, u153, u154, u155, u156, u157, u158, u159, u160, u161, u162, u163, u164, u165, u166, u167, u168, u169, u170, u171, u172, u173, u174, u175, u176, u177, u178, u179, u180, u181, u182, u183, u184, u185, u186, u187, u188, u189, u190, u191, u192], []⟩ w' :=
    fun u3 u4 u5 u6 u8 u9 u11 u12 u13 u14 u15 u16 u17 u18 u19 u20 u21 u22 u23 u24 u25 u26 u27 u28 u29 u30 u31 u32 u33 u34 u35 u36 u37 u38 u39 u40 u41 u42 u43 u44 u45 u46 u47 u48 u49 u50 u51 u52 u53 u54 u55 u56 u57 u58 u59 u60 u61 u62 u63 u64 u65 u66 u67 u68 u69 u70 u71 u72 u73 u74 u75 u76 u77 u78 u79 u80 u81 u82 u83 u84 u85 u86 u87 u88 u89 u90 u91 u92 u93 u94 u95 u96 u97 u98 u99 u100 u101 u102 u103 u104 u105 u106 u107 u108 u109 u110 u111 u112 u113 u114 u115 u116 u117 u118 u119 u120 u121 u122 u123 u124 u125 u126 u127 u128 u129 u130 u131 u132 u133 u134 u135 u136 u137 u138 u139 u140 u141 u142 u143 u144 u145 u146 u147 u148 u149 u150 u151 u152 u153 u154 u155 u156 u157 u158 u159 u160 u161 u162 u163 u164 u165 u166 u167 u168 u169 u170 u171 u172 u173 u174 u175 u176 u177 u178 u179 u180 u181 u182 u183 u184 u185 u186 u187 u188 u189 u190 u191 u192 vts w' ⟨ts, h1, h2, h3⟩ => hK9 _ _ (inner_tail F c p o m s ts w.heap.size vF vc vp vts w' h1 (fun r w'' => Answer (ty F c p (.mk o m s l)) r ∧ Ext w w'') (fun r w'' h4 h5 => ⟨by rw [h2]; exact h4, h3.trans h5⟩) u3 u4 u5 u6 u8 u9 u11 u12 u13 u14 u15 u16 u17 u18 u19 u20 u21 u22 u23 u24 u25 u26 u27 u28 u29 u30 u31 u32 u33 u34 u35 u36 u37 u38 u39 u40 u41 u42 u43 u44 u45 u46 u47 u48 u49 u50 u51 u52 u53 u54 u55 u56 u57 u58 u59 u60 u61 u62 u63 u64 u65 u66 u67 u68 u69 u70 u71 u72 u73 u74 u75 u76 u77 u78 u79 u80 u81 u82 u83 u84 u85 u86 u87 u88 u89 u90 u91 u92 u93 u94 u95 u96 u97 u98 u99 u100 u101 u102 u103 u104 u105 u106 u107 u108 u109 u110 u111 u112 u113 u114 u115 u116 u117 u118 u119 u120 u121 u122 u123 u124 u125 u126 u127 u128 u129 u130 u131 u132 u133 u134 u135 u136 u137 u138 u139 u140 u141 u142 u143 u144 u145 u146 u147 u148 u149 u150 u151 u152 u153 u154 u155 u156 u157 u158 u159 u160 u161 u162 u163 u164 u165 u166 u167 u168 u169 u170 u171 u172 u173 u174 u175 u176 u177 u178 u179 u180 u181 u182 u183 u184 u185 u186 u187 u188 u189 u190 u191 u192)
  clear hK9
  go_loopw [10, 11] (fun x i wr => ∃ (k : Nat) (ts : List Int), k ≤ l.length ∧ i = .int .i64 k ∧ ts.length = k ∧ wr.ownsRow (w.heap.size + 1) 3 1 x k (ts.map (Value.int .i64)) ∧ Hid (TysAt F c p l ts k) ∧ Ext (w.alloc (.cells #[.int .i64 o, .int .i64 m, .string s, .slice A l.length cap] 25)) wr) (fun _ i _ => l.length - (intOf i).toNat)
  case atStart => exact ⟨0, [], by omega, rfl, rfl, World.ownsRow_nil _ _ _ _, Lib.hid (TysAt.start F c p l), Ext.refl _⟩
  case round =>
    obtain ⟨k, ts, hk, rfl, htk, hown, HH, hb⟩ := hrel
    have htk' := Lib.hid htk; clear htk
    have e0 : wr.cell? ⟨w.heap.size, 0, none⟩ = some (.int .i64 o) := hb.at (by go_simp)
    have e1 : wr.cell? ⟨w.heap.size, 1, none⟩ = some (.int .i64 m) := hb.at (by go_simp)
    have e2 : wr.cell? ⟨w.heap.size, 2, none⟩ = some (.string s) := hb.at (by go_simp)
    have e3 : wr.cell? ⟨w.heap.size, 3, none⟩ = some (.slice A l.length cap) := hb.at (by go_simp)
    have hw : Ext w wr := ((Ext.refl _).alloc _).trans hb
    by_cases hlt : k < l.length
    · obtain ⟨rfl, hSb⟩ := hl3'.out (by omega)
      obtain ⟨A1, cap1, b1, off1, c0, c1, c2, c3, hr', -⟩ := Ex.at (hm'.out.ext (fun _ => hSb) hw) hlt
      have hr2 := Lib.hid hr'
      have hSb' := Lib.hid hSb
      clear hr' hSb
      have hpb : parts l[k] ≤ 1000000 := by rw [parts] at hbd; have := partsL_mem l l[k] (List.getElem_mem hlt); omega
      go_wp2_with fail
      refine (ih l[k] (List.getElem_mem hlt) S S1 S2 S3 vF vc vp _ _ (hF'.out.ext hw) (hc'.out.ext hw) (hp'.out.ext hw) hr2.out hpb).mono ?_
      rintro r w1 ⟨⟨t, ok, rfl, hA⟩, he⟩
      have hA' := Lib.hid hA; clear hA
      have e0 := he.at e0
      have e1 := he.at e1
      have e2 := he.at e2
      have e3 := he.at e3
      cases ok with
      | false =>
        have H2 := Lib.hid (HH.out.none hlt hA'.out.symm)
        go_wp2_with fail
        go_ret2
        exact ⟨by rw [H.out, H2.out]; exact answer_none, hw.trans he⟩
      | true =>
        have H2 := Lib.hid (HH.out.next hlt hA'.out.symm)
        have hown1 : w1.ownsRow (w.heap.size + 1) 3 1 _ k (ts.map (Value.int .i64)) := own_ext hown he
        have hsz := (hb.trans he).size
        go_wp2_with (at_builtin; refine wp_append1 _ _ _ rfl _ _ _ rfl (w.heap.size + 1) 3 1 8 _ Try.underlying31 Try.info3 rfl (by decide) (by decide) _ _ _ rfl hown1 rfl rfl (by intro u hu; simp at hu; subst hu; rfl) (by omega) (by simpa using hsz) ?_; intro v' w2 hown2 hg2 hn2)
        go_roundw
        case rel => exact ⟨k + 1, ts ++ [t], by omega, by go_num, by rw [List.length_append, htk'.out]; rfl, by simpa using hown2, H2, (hb.trans he).grown hown1 (by simp) hg2⟩
        case measure => simp [intOf]; omega
    · have hkl : k = l.length := by omega
      subst hkl
      have H2 := Lib.hid (H.out.trans (by rw [HH.out.done]))
      clear H HH
      have hR := own_ints (S := Any) (by rw [htk'.out]; exact hown) (fun _ _ => trivial)
      have hat := Lib.hid (show InnerAt F c p o m s ts w.heap.size vF vc vp _ wr from ⟨e0, e1, e2, Rd.any (hF'.out.ext hw), Rd.any (hc'.out.ext hw), Rd.any (hp'.out.ext hw), hR, by rw [htk'.out]; omega⟩)
      clear hR hown e1 e2
      have hfin := Lib.hid (show InnerEnd F c p o m s l w.heap.size vF vc vp _ w wr from ⟨ts, hat.out, H2.out, hw⟩)
      clear hat H2
      go_wp2_with fail
      exact hfin.out
end Go.Proofs.Ytmhelkhmgbbfhaa
