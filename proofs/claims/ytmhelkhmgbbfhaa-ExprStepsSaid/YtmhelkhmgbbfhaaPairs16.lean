/- Walks: operations on values. -/
import Derived.Test.YtmhelkhmgbbfhaaShelf
import Derived.Test.YtmhelkhmgbbfhaaFits16
import Derived.Deep.RegionHeld3
import Derived.Test.YtmhelkhmgbbfhaaLit
namespace Go.Proofs.Ytmhelkhmgbbfhaa
open Go.RowKit Go.Lib

set_option maxHeartbeats 400000 in
theorem number_any (n : Int) (w : World) : Calls Try.prog 66 #[.int .i64 n] w fun r w' => r = .returned (numV n).v ∧ Ext w w' := by
  go_enter Try.func66, Try.ntmps66
  go_wp2_with fail
  exact bodyPost_ret (v := .agg #[.int .i64 0, .int .i64 n, .string ByteArray.empty]) (by simp [results, Try.results66, go_sem]; rfl) rfl ⟨rfl, (by repeat' first | exact Ext.refl _ | assumption | apply Ext.alloc | apply Ext.drew | apply Ext.drewN | (refine Ext.trans ?_ (by assumption)))⟩

set_option maxHeartbeats 400000 in
theorem truth_any (b : Bool) (w : World) : Calls Try.prog 67 #[.bool b] w fun r w' => r = .returned (boolV b).v ∧ Ext w w' := by
  cases b
  · go_enter Try.func67, Try.ntmps67
    go_wp2_with fail
    exact bodyPost_ret (v := .agg #[.int .i64 2, .int .i64 0, .string ByteArray.empty]) (by simp [results, Try.results67, go_sem]; rfl) rfl ⟨rfl, (by repeat' first | exact Ext.refl _ | assumption | apply Ext.alloc | apply Ext.drew | apply Ext.drewN | (refine Ext.trans ?_ (by assumption)))⟩
  · go_enter Try.func67, Try.ntmps67
    go_wp2_with fail
    exact bodyPost_ret (v := .agg #[.int .i64 2, .int .i64 1, .string ByteArray.empty]) (by simp [results, Try.results67, go_sem]; rfl) rfl ⟨rfl, (by repeat' first | exact Ext.refl _ | assumption | apply Ext.alloc | apply Ext.drew | apply Ext.drewN | (refine Ext.trans ?_ (by assumption)))⟩

/-- the first number that is not 0 -/
def orI : List Int → Int
  | [] => 0
  | x :: l => if x ≠ 0 then x else orI l

set_option maxHeartbeats 1000000 in
theorem or_any (l : List Int) (S : Nat → Prop) (v : Value) (w : World) (hr : Rd w S (.sl (l.map D.int)) [v]) :
    Calls Try.prog 105 #[v] w fun r w' => r = .returned (.int .i64 (orI l)) ∧ Ext w w' := by
  obtain ⟨A, cap, b, off, rfl, hl1, hl2, hl3, hm⟩ := Rd.sl_open hr
  simp only [List.length_map] at *
  have hl3' := Lib.hid hl3; have hm' := Lib.hid hm
  clear hr hl3 hm
  go_enter Try.func105, Try.ntmps105
  go_wp2_with fail
  go_loopw [8] (fun i wr => ∃ (k : Nat), k ≤ l.length ∧ i = .int .i64 k ∧ Hid (orI l = orI (l.drop k)) ∧ Ext w wr) (fun i _ => l.length - (intOf i).toNat)
  case atStart => exact ⟨0, by omega, rfl, Lib.hid rfl, Ext.refl _⟩
  case round =>
    obtain ⟨k, hk, rfl, HH, hw⟩ := hrel
    by_cases hlt : k < l.length
    · obtain ⟨rfl, hSb⟩ := hl3'.out (by omega)
      have d0 := ints_at (hm'.out.ext (fun _ => hSb) hw) hlt
      have hSb' := Lib.hid hSb; clear hSb
      have hd := Lib.hid (show orI l = if l[k] ≠ 0 then l[k] else orI (l.drop (k + 1)) by rw [HH.out, List.drop_eq_getElem_cons hlt, orI])
      clear HH
      by_cases h0 : l[k] = 0
      · have hz : (l[k] != 0) = false := by simp [h0]
        have h0' := Lib.hid h0; clear h0
        go_wp2_with fail
        go_roundw
        case rel => exact ⟨k + 1, by omega, by go_num, Lib.hid (by rw [hd.out, if_neg (by rw [h0'.out]; simp)]), hw⟩
        case measure => simp [intOf]; omega
      · have hz : (l[k] != 0) = true := by simp [h0]
        have h0' := Lib.hid h0; clear h0
        go_wp2_with fail
        go_ret
        exact ⟨ret_int (by rw [hd.out, if_pos h0'.out]), hw⟩
    · have hkl : k = l.length := by omega
      subst hkl
      go_wp2_with fail
      go_ret
      exact ⟨ret_int (by rw [HH.out]; simp [orI]), hw⟩

def cmpV (a b : Val) : Int := orI [compareInt a.k b.k, compareInt a.n b.n, compareBytes a.s.data.toList b.s.data.toList]

set_option maxHeartbeats 1000000 in
theorem compare_any (a b : Val) (w : World) : Calls Try.prog 95 #[a.v, b.v] w fun r w' => r = .returned (.int .i64 (cmpV a b)) ∧ Ext w w' := by
  obtain ⟨k, n, s⟩ := a
  obtain ⟨k2, n2, s2⟩ := b
  simp only [Val.v]
  go_enter Try.func95, Try.ntmps95
  go_wp2_with fail
  generalize hWe : World.alloc (World.alloc w _) _ = W
  have a0 : W.cell? ⟨w.heap.size, 0, none⟩ = some (.int .i64 k) := by rw [← hWe]; clear hWe; go_simp
  have a1 : W.cell? ⟨w.heap.size, 1, none⟩ = some (.int .i64 n) := by rw [← hWe]; clear hWe; go_simp
  have a2 : W.cell? ⟨w.heap.size, 2, none⟩ = some (.string s) := by rw [← hWe]; clear hWe; go_simp
  have a3 : W.cell? ⟨w.heap.size + 1, 0, none⟩ = some (.int .i64 k2) := by rw [← hWe]; clear hWe; go_simp
  have a4 : W.cell? ⟨w.heap.size + 1, 1, none⟩ = some (.int .i64 n2) := by rw [← hWe]; clear hWe; go_simp
  have a5 : W.cell? ⟨w.heap.size + 1, 2, none⟩ = some (.string s2) := by rw [← hWe]; clear hWe; go_simp
  have hw : Ext w W := by rw [← hWe]; exact (by repeat' first | exact Ext.refl _ | assumption | apply Ext.alloc | apply Ext.drew | apply Ext.drewN | (refine Ext.trans ?_ (by assumption)))
  clear hWe
  go_region_held3 (fun w' => w'.cell? ⟨w.heap.size, 0, none⟩ = some (.int .i64 k) ∧ w'.cell? ⟨w.heap.size, 1, none⟩ = some (.int .i64 n) ∧ w'.cell? ⟨w.heap.size, 2, none⟩ = some (.string s) ∧ w'.cell? ⟨w.heap.size + 1, 0, none⟩ = some (.int .i64 k2) ∧ w'.cell? ⟨w.heap.size + 1, 1, none⟩ = some (.int .i64 n2) ∧ w'.cell? ⟨w.heap.size + 1, 2, none⟩ = some (.string s2))
    (first
      | exact ⟨a0, a1, a2, a3, a4, a5⟩
      | go_keep
      | exact ⟨he5.at ((((Ext.refl _).alloc _).drew).at a0), he5.at ((((Ext.refl _).alloc _).drew).at a1), he5.at ((((Ext.refl _).alloc _).drew).at a2), he5.at ((((Ext.refl _).alloc _).drew).at a3), he5.at ((((Ext.refl _).alloc _).drew).at a4), he5.at ((((Ext.refl _).alloc _).drew).at a5)⟩)
    ((first
      | (go_at_call 106; refine (Try.cmp_Compare_int _ _ _).mono ?_; rintro r w4 ⟨rfl, rfl⟩)
      | (go_at_call 107; refine (Try.strings_Compare _ _ _).mono ?_; rintro r w4 ⟨rfl, rfl⟩)
      | (go_at_call 105; refine (or_any [compareInt k k2, compareInt n n2, compareBytes s.data.toList s2.data.toList] Any _ _ (Rd.ext (rd_new_ints (by simp) (by rfl) (by rfl) (by simp)) (Ext.refl _).drew)).mono ?_; rintro r w5 ⟨rfl, he5⟩)))
  all_goals
    go_wp2_with fail
    go_ret
    exact ⟨rfl, hw.trans ((((Ext.refl _).alloc _).drew).trans he5)⟩
end Go.Proofs.Ytmhelkhmgbbfhaa
