/- Walks: the reference's operations on values. (written by gen_apply.py) -/
import Derived.Test.YtmhelkhmgbbfhaaGa8
namespace Go.Proofs.Ytmhelkhmgbbfhaa
open Go.RowKit Go.Lib

set_option maxHeartbeats 400000 in
theorem rtruth_any (b : Bool) (w : World) : Calls Try.prog 81 #[.bool b] w fun r w' => r = .returned (boolV b).v ∧ Ext w w' := by
  cases b
  · go_enter Try.func81, Try.ntmps81
    go_wp2_with fail
    exact bodyPost_ret (v := .agg #[.int .i64 2, .int .i64 0, .string ByteArray.empty]) (by simp [results, Try.results81, go_sem]; rfl) rfl ⟨rfl, (by repeat' first | exact Ext.refl _ | assumption | apply Ext.alloc | apply Ext.drew | apply Ext.drewN | (refine Ext.trans ?_ (by assumption)))⟩
  · go_enter Try.func81, Try.ntmps81
    go_wp2_with fail
    exact bodyPost_ret (v := .agg #[.int .i64 2, .int .i64 1, .string ByteArray.empty]) (by simp [results, Try.results81, go_sem]; rfl) rfl ⟨rfl, (by repeat' first | exact Ext.refl _ | assumption | apply Ext.alloc | apply Ext.drew | apply Ext.drewN | (refine Ext.trans ?_ (by assumption)))⟩

def lessB (a b : Val) : Bool := if a.k = 1 then Op.bytesLess a.s.toList b.s.toList else decide (a.n < b.n)
set_option maxHeartbeats 400000 in
theorem rless_any (a b : Val) (w : World) : Calls Try.prog 82 #[a.v, b.v] w fun r w' => r = .returned (.bool (lessB a b)) ∧ Ext w w' := by
  obtain ⟨k, n, s⟩ := a
  obtain ⟨k2, n2, s2⟩ := b
  simp only [Val.v, lessB]
  by_cases hk : k = 1
  · subst hk
    go_enter Try.func82, Try.ntmps82
    go_wp2_with fail
    go_ret
    exact ⟨rfl, (by repeat' first | exact Ext.refl _ | assumption | apply Ext.alloc | apply Ext.drew | apply Ext.drewN | (refine Ext.trans ?_ (by assumption)))⟩
  · have hk2 : (k == 1) = false := by simp [hk]
    go_enter Try.func82, Try.ntmps82
    go_wp2_with fail
    go_ret
    exact ⟨rfl, (by repeat' first | exact Ext.refl _ | assumption | apply Ext.alloc | apply Ext.drew | apply Ext.drewN | (refine Ext.trans ?_ (by assumption)))⟩

theorem bytes_cmp : ∀ (x y : List UInt8), (compareBytes x y < 0 ↔ Op.bytesLess x y = true) ∧ (compareBytes x y ≤ 0 ↔ Op.bytesLess y x = false)
  | [], [] => by simp [compareBytes, Op.bytesLess]
  | [], _ :: _ => by simp [compareBytes, Op.bytesLess]
  | _ :: _, [] => by simp [compareBytes, Op.bytesLess]
  | a :: x, b :: y => by
    have ih := bytes_cmp x y
    simp only [compareBytes, Op.bytesLess, Bool.or_eq_true, Bool.and_eq_true, beq_iff_eq, decide_eq_true_eq, Bool.or_eq_false_iff, Bool.and_eq_false_iff, decide_eq_false_iff_not]
    by_cases h1 : a < b
    · have h2 : ¬ b < a := by intro h; exact absurd (UInt8.lt_trans h1 h) (UInt8.lt_irrefl a)
      have h3 : ¬ b = a := by rintro rfl; exact UInt8.lt_irrefl b h1
      rw [if_pos h1]
      simp [h1, h2, h3]
    · by_cases h2 : b < a
      · have h3 : ¬ a = b := by rintro rfl; exact UInt8.lt_irrefl a h2
        rw [if_neg h1, if_pos h2]
        simp [h1, h2, h3]
      · have h3 : a = b := by
          apply UInt8.toNat.inj
          rw [UInt8.lt_iff_toNat_lt] at h1 h2
          omega
        subst h3
        rw [if_neg h1, if_neg h1]
        simp [ih]
theorem orI_two (x : Int) : orI [0, 0, x] = x := by
  simp [orI]; omega
theorem compareInt_self (x : Int) : compareInt x x = 0 := by simp [compareInt]
/-- of two right values of one kind, value.Compare and the reference say the same -/
theorem less_cmp {a b : Val} (ha : soundV a) (hb : soundV b) (hk : a.k = b.k) : (cmpV a b < 0 ↔ lessB a b = true) ∧ (cmpV a b ≤ 0 ↔ lessB b a = false) := by
  obtain ⟨k, n, s⟩ := a
  obtain ⟨k2, n2, s2⟩ := b
  simp only at hk
  subst hk
  obtain ⟨ha, -⟩ := ha
  obtain ⟨hb, -⟩ := hb
  unfold okV at ha hb
  simp only at ha hb
  unfold cmpV lessB
  simp only [compareInt_self]
  by_cases h1 : k = 1
  · subst h1
    simp at ha hb
    rw [ha.1, hb.1, compareInt_self, orI_two]
    simp only [if_true, toList_data]
    exact bytes_cmp _ _
  · rw [if_neg h1, if_neg h1]
    have hs : s.toList = [] := by
      by_cases h0 : k = 0
      · rw [if_pos h0] at ha; simpa using ha
      · rw [if_neg h0, if_neg h1] at ha; simp at ha; exact ha.2
    have hs2 : s2.toList = [] := by
      by_cases h0 : k = 0
      · rw [if_pos h0] at hb; simpa using hb
      · rw [if_neg h0, if_neg h1] at hb; simp at hb; exact hb.2
    rw [toList_data] at hs hs2
    rw [hs, hs2]
    have : orI [0, compareInt n n2, compareBytes [] []] = compareInt n n2 := by
      simp only [compareBytes, orI]; simp; intro h; exact h.symm
    rw [this]
    unfold compareInt
    simp only [decide_eq_true_eq, decide_eq_false_iff_not]
    constructor
    · split
      · simp; omega
      · split <;> simp <;> omega
    · split
      · simp; omega
      · split <;> simp <;> omega


set_option maxRecDepth 10000 in
set_option maxHeartbeats 1000000 in
theorem rap_int (n : Int) (s : ByteArray) (A : Option Addr) (len cap : Nat) (vl : Value) (w : World) : Calls Try.prog 44 #[.agg #[.int .i64 0, .int .i64 n, .string s, .slice A len cap], vl] w fun r w' => r = .returned (numV n).v ∧ Ext w w' := by
  go_enter Try.func44, Try.ntmps44
  go_wp2_with fail
  exact bodyPost_ret (v := .agg #[.int .i64 0, .int .i64 n, .string ByteArray.empty]) (by simp [results, Try.results44, go_sem]; rfl) rfl ⟨rfl, (by repeat' first | exact Ext.refl _ | assumption | apply Ext.alloc | apply Ext.drew | apply Ext.drewN | (refine Ext.trans ?_ (by assumption)))⟩


set_option maxRecDepth 10000 in
set_option maxHeartbeats 1000000 in
theorem rap_text (n : Int) (s : ByteArray) (A : Option Addr) (len cap : Nat) (vl : Value) (w : World) : Calls Try.prog 44 #[.agg #[.int .i64 1, .int .i64 n, .string s, .slice A len cap], vl] w fun r w' => r = .returned (textV s).v ∧ Ext w w' := by
  go_enter Try.func44, Try.ntmps44
  go_wp2_with fail
  exact bodyPost_ret (v := .agg #[.int .i64 1, .int .i64 0, .string s]) (by simp [results, Try.results44, go_sem]) rfl ⟨rfl, (by repeat' first | exact Ext.refl _ | assumption | apply Ext.alloc | apply Ext.drew | apply Ext.drewN | (refine Ext.trans ?_ (by assumption)))⟩

set_option maxRecDepth 10000 in
set_option maxHeartbeats 1000000 in
theorem rap_bool (n : Int) (s : ByteArray) (A : Option Addr) (len cap : Nat) (vl : Value) (w : World) : Calls Try.prog 44 #[.agg #[.int .i64 2, .int .i64 n, .string s, .slice A len cap], vl] w fun r w' => r = .returned (boolV (decide (n = 1))).v ∧ Ext w w' := by
  by_cases hc : n = 1
  · have hb : (n == 1) = true := by simp [hc]
    have hres : boolV (decide (n = 1)) = boolV true := by simp [*]
    rw [hres]; clear hres
    go_enter Try.func44, Try.ntmps44
    go_wp2_with fail
    refine (rtruth_any _ _).mono ?_
    rintro r w1 ⟨rfl, he⟩
    have f0 : w1.cell? ⟨w.heap.size + 1, 0, none⟩ = some (.int .i64 0) := he.at (by go_simp)
    have f1 : w1.cell? ⟨w.heap.size + 1, 1, none⟩ = some (.int .i64 0) := he.at (by go_simp)
    have f2 : w1.cell? ⟨w.heap.size + 1, 2, none⟩ = some (.string ByteArray.empty) := he.at (by go_simp; rfl)
    have z0 : w1.frozen? ⟨w.heap.size + 1, 0, none⟩ = false := (he.frozens _ _ (by go_simp)).trans (by go_simp)
    have z1 : w1.frozen? ⟨w.heap.size + 1, 1, none⟩ = false := (he.frozens _ _ (by go_simp)).trans (by go_simp)
    have z2 : w1.frozen? ⟨w.heap.size + 1, 2, none⟩ = false := (he.frozens _ _ (by go_simp)).trans (by go_simp)
    have hw : Ext w w1 := Ext.trans (by repeat' first | exact Ext.refl _ | assumption | apply Ext.alloc | apply Ext.drew | apply Ext.drewN | (refine Ext.trans ?_ (by assumption))) he
    clear he
    simp only [boolV, Val.v, if_true, Bool.false_eq_true, if_false]
    go_wp2_with fail
    exact bodyPost_ret (v := .agg #[.int .i64 2, .int .i64 1, .string ByteArray.empty]) (by simp [results, Try.results44, go_sem, f0, f1, f2]; done) rfl ⟨rfl, ext_three hw _ (by omega) _ _ _⟩
  · have hb : (n == 1) = false := by simp [hc]
    have hres : boolV (decide (n = 1)) = boolV false := by simp [*]
    rw [hres]; clear hres
    go_enter Try.func44, Try.ntmps44
    go_wp2_with fail
    refine (rtruth_any _ _).mono ?_
    rintro r w1 ⟨rfl, he⟩
    have f0 : w1.cell? ⟨w.heap.size + 1, 0, none⟩ = some (.int .i64 0) := he.at (by go_simp)
    have f1 : w1.cell? ⟨w.heap.size + 1, 1, none⟩ = some (.int .i64 0) := he.at (by go_simp)
    have f2 : w1.cell? ⟨w.heap.size + 1, 2, none⟩ = some (.string ByteArray.empty) := he.at (by go_simp; rfl)
    have z0 : w1.frozen? ⟨w.heap.size + 1, 0, none⟩ = false := (he.frozens _ _ (by go_simp)).trans (by go_simp)
    have z1 : w1.frozen? ⟨w.heap.size + 1, 1, none⟩ = false := (he.frozens _ _ (by go_simp)).trans (by go_simp)
    have z2 : w1.frozen? ⟨w.heap.size + 1, 2, none⟩ = false := (he.frozens _ _ (by go_simp)).trans (by go_simp)
    have hw : Ext w w1 := Ext.trans (by repeat' first | exact Ext.refl _ | assumption | apply Ext.alloc | apply Ext.drew | apply Ext.drewN | (refine Ext.trans ?_ (by assumption))) he
    clear he
    simp only [boolV, Val.v, if_true, Bool.false_eq_true, if_false]
    go_wp2_with fail
    exact bodyPost_ret (v := .agg #[.int .i64 2, .int .i64 0, .string ByteArray.empty]) (by simp [results, Try.results44, go_sem, f0, f1, f2]; done) rfl ⟨rfl, ext_three hw _ (by omega) _ _ _⟩

set_option maxRecDepth 10000 in
set_option maxHeartbeats 1000000 in
theorem rap_not (n : Int) (s : ByteArray) (A : Option Addr) (len cap : Nat) (x : Val) (vl : Value) (w : World) (hl : Rd w Any (.sl ([x].map Val.d)) [vl]) : Calls Try.prog 44 #[.agg #[.int .i64 6, .int .i64 n, .string s, .slice A len cap], vl] w fun r w' => r = .returned (boolV (decide (x.n = 0))).v ∧ Ext w w' := by
  obtain ⟨A9, cap9, b9, off9, rfl, q1, q2, q3, q4⟩ := Rd.sl_open hl
  simp only [List.length_map] at *
  obtain ⟨rfl, -⟩ := q3 (by simp)
  obtain ⟨d0, d1, d2, -⟩ := Val.at q4 (k := 0) (by simp)
  simp only [List.getElem_cons_zero, List.getElem_cons_succ, List.length_cons, List.length_nil, Nat.zero_mul, Nat.one_mul, Nat.add_zero, Nat.reduceAdd, Nat.reduceMul, Nat.zero_add] at *
  clear hl q4
  obtain ⟨kx, nx, sx⟩ := x
  simp only at *
  replace d0 : ∀ o1 o2, ((w.alloc o1).alloc o2).cell? _ = some _ := fun o1 o2 => (((Ext.refl w).alloc o1).alloc o2).at d0
  replace d1 : ∀ o1 o2, ((w.alloc o1).alloc o2).cell? _ = some _ := fun o1 o2 => (((Ext.refl w).alloc o1).alloc o2).at d1
  replace d2 : ∀ o1 o2, ((w.alloc o1).alloc o2).cell? _ = some _ := fun o1 o2 => (((Ext.refl w).alloc o1).alloc o2).at d2
  by_cases hc : nx = 0
  · have hb : (nx == 0) = true := by simp [hc]
    have hres : boolV (decide (nx = 0)) = boolV true := by simp [*]
    rw [hres]; clear hres
    go_enter Try.func44, Try.ntmps44
    go_wp2_with fail
    refine (rtruth_any _ _).mono ?_
    rintro r w1 ⟨rfl, he⟩
    have f0 : w1.cell? ⟨w.heap.size + 1, 0, none⟩ = some (.int .i64 0) := he.at (by go_simp)
    have f1 : w1.cell? ⟨w.heap.size + 1, 1, none⟩ = some (.int .i64 0) := he.at (by go_simp)
    have f2 : w1.cell? ⟨w.heap.size + 1, 2, none⟩ = some (.string ByteArray.empty) := he.at (by go_simp; rfl)
    have z0 : w1.frozen? ⟨w.heap.size + 1, 0, none⟩ = false := (he.frozens _ _ (by go_simp)).trans (by go_simp)
    have z1 : w1.frozen? ⟨w.heap.size + 1, 1, none⟩ = false := (he.frozens _ _ (by go_simp)).trans (by go_simp)
    have z2 : w1.frozen? ⟨w.heap.size + 1, 2, none⟩ = false := (he.frozens _ _ (by go_simp)).trans (by go_simp)
    have hw : Ext w w1 := Ext.trans (by repeat' first | exact Ext.refl _ | assumption | apply Ext.alloc | apply Ext.drew | apply Ext.drewN | (refine Ext.trans ?_ (by assumption))) he
    clear he
    simp only [boolV, Val.v, if_true, Bool.false_eq_true, if_false]
    go_wp2_with fail
    exact bodyPost_ret (v := .agg #[.int .i64 2, .int .i64 1, .string ByteArray.empty]) (by simp [results, Try.results44, go_sem, f0, f1, f2]; done) rfl ⟨rfl, ext_three hw _ (by omega) _ _ _⟩
  · have hb : (nx == 0) = false := by simp [hc]
    have hres : boolV (decide (nx = 0)) = boolV false := by simp [*]
    rw [hres]; clear hres
    go_enter Try.func44, Try.ntmps44
    go_wp2_with fail
    refine (rtruth_any _ _).mono ?_
    rintro r w1 ⟨rfl, he⟩
    have f0 : w1.cell? ⟨w.heap.size + 1, 0, none⟩ = some (.int .i64 0) := he.at (by go_simp)
    have f1 : w1.cell? ⟨w.heap.size + 1, 1, none⟩ = some (.int .i64 0) := he.at (by go_simp)
    have f2 : w1.cell? ⟨w.heap.size + 1, 2, none⟩ = some (.string ByteArray.empty) := he.at (by go_simp; rfl)
    have z0 : w1.frozen? ⟨w.heap.size + 1, 0, none⟩ = false := (he.frozens _ _ (by go_simp)).trans (by go_simp)
    have z1 : w1.frozen? ⟨w.heap.size + 1, 1, none⟩ = false := (he.frozens _ _ (by go_simp)).trans (by go_simp)
    have z2 : w1.frozen? ⟨w.heap.size + 1, 2, none⟩ = false := (he.frozens _ _ (by go_simp)).trans (by go_simp)
    have hw : Ext w w1 := Ext.trans (by repeat' first | exact Ext.refl _ | assumption | apply Ext.alloc | apply Ext.drew | apply Ext.drewN | (refine Ext.trans ?_ (by assumption))) he
    clear he
    simp only [boolV, Val.v, if_true, Bool.false_eq_true, if_false]
    go_wp2_with fail
    exact bodyPost_ret (v := .agg #[.int .i64 2, .int .i64 0, .string ByteArray.empty]) (by simp [results, Try.results44, go_sem, f0, f1, f2]; done) rfl ⟨rfl, ext_three hw _ (by omega) _ _ _⟩


set_option maxRecDepth 10000 in
set_option maxHeartbeats 1000000 in
theorem rap_neg (n : Int) (s : ByteArray) (A : Option Addr) (len cap : Nat) (x : Val) (vl : Value) (w : World) (hl : Rd w Any (.sl ([x].map Val.d)) [vl]) : Calls Try.prog 44 #[.agg #[.int .i64 7, .int .i64 n, .string s, .slice A len cap], vl] w fun r w' => r = .returned (numV (wrap64 (-x.n))).v ∧ Ext w w' := by
  obtain ⟨A9, cap9, b9, off9, rfl, q1, q2, q3, q4⟩ := Rd.sl_open hl
  simp only [List.length_map] at *
  obtain ⟨rfl, -⟩ := q3 (by simp)
  obtain ⟨d0, d1, d2, -⟩ := Val.at q4 (k := 0) (by simp)
  simp only [List.getElem_cons_zero, List.getElem_cons_succ, List.length_cons, List.length_nil, Nat.zero_mul, Nat.one_mul, Nat.add_zero, Nat.reduceAdd, Nat.reduceMul, Nat.zero_add] at *
  clear hl q4
  obtain ⟨kx, nx, sx⟩ := x
  simp only at *
  replace d0 : ∀ o1 o2, ((w.alloc o1).alloc o2).cell? _ = some _ := fun o1 o2 => (((Ext.refl w).alloc o1).alloc o2).at d0
  replace d1 : ∀ o1 o2, ((w.alloc o1).alloc o2).cell? _ = some _ := fun o1 o2 => (((Ext.refl w).alloc o1).alloc o2).at d1
  replace d2 : ∀ o1 o2, ((w.alloc o1).alloc o2).cell? _ = some _ := fun o1 o2 => (((Ext.refl w).alloc o1).alloc o2).at d2
  go_enter Try.func44, Try.ntmps44
  go_wp2_with fail
  exact bodyPost_ret (v := .agg #[.int .i64 0, .int .i64 (wrap64 (-nx)), .string ByteArray.empty]) (by simp [results, Try.results44, go_sem]; rfl) rfl ⟨rfl, (by repeat' first | exact Ext.refl _ | assumption | apply Ext.alloc | apply Ext.drew | apply Ext.drewN | (refine Ext.trans ?_ (by assumption)))⟩


set_option maxRecDepth 10000 in
set_option maxHeartbeats 1000000 in
theorem rap_len (n : Int) (s : ByteArray) (A : Option Addr) (len cap : Nat) (x : Val) (vl : Value) (w : World) (hl : Rd w Any (.sl ([x].map Val.d)) [vl]) : Calls Try.prog 44 #[.agg #[.int .i64 20, .int .i64 n, .string s, .slice A len cap], vl] w fun r w' => r = .returned (numV x.s.size).v ∧ Ext w w' := by
  obtain ⟨A9, cap9, b9, off9, rfl, q1, q2, q3, q4⟩ := Rd.sl_open hl
  simp only [List.length_map] at *
  obtain ⟨rfl, -⟩ := q3 (by simp)
  obtain ⟨d0, d1, d2, -⟩ := Val.at q4 (k := 0) (by simp)
  simp only [List.getElem_cons_zero, List.getElem_cons_succ, List.length_cons, List.length_nil, Nat.zero_mul, Nat.one_mul, Nat.add_zero, Nat.reduceAdd, Nat.reduceMul, Nat.zero_add] at *
  clear hl q4
  obtain ⟨kx, nx, sx⟩ := x
  simp only at *
  replace d0 : ∀ o1 o2, ((w.alloc o1).alloc o2).cell? _ = some _ := fun o1 o2 => (((Ext.refl w).alloc o1).alloc o2).at d0
  replace d1 : ∀ o1 o2, ((w.alloc o1).alloc o2).cell? _ = some _ := fun o1 o2 => (((Ext.refl w).alloc o1).alloc o2).at d1
  replace d2 : ∀ o1 o2, ((w.alloc o1).alloc o2).cell? _ = some _ := fun o1 o2 => (((Ext.refl w).alloc o1).alloc o2).at d2
  go_enter Try.func44, Try.ntmps44
  go_wp2_with fail
  exact bodyPost_ret (v := .agg #[.int .i64 0, .int .i64 (sx.size), .string ByteArray.empty]) (by simp [results, Try.results44, go_sem]; rfl) rfl ⟨rfl, (by repeat' first | exact Ext.refl _ | assumption | apply Ext.alloc | apply Ext.drew | apply Ext.drewN | (refine Ext.trans ?_ (by assumption)))⟩


set_option maxRecDepth 10000 in
set_option maxHeartbeats 1000000 in
theorem rap_add (n : Int) (s : ByteArray) (A : Option Addr) (len cap : Nat) (x y : Val) (vl : Value) (w : World) (hl : Rd w Any (.sl ([x, y].map Val.d)) [vl]) : Calls Try.prog 44 #[.agg #[.int .i64 8, .int .i64 n, .string s, .slice A len cap], vl] w fun r w' => r = .returned (numV (wrap64 (x.n + y.n))).v ∧ Ext w w' := by
  obtain ⟨A9, cap9, b9, off9, rfl, q1, q2, q3, q4⟩ := Rd.sl_open hl
  simp only [List.length_map] at *
  obtain ⟨rfl, -⟩ := q3 (by simp)
  obtain ⟨d0, d1, d2, -⟩ := Val.at q4 (k := 0) (by simp)
  obtain ⟨g0, g1, g2, -⟩ := Val.at q4 (k := 1) (by simp)
  simp only [List.getElem_cons_zero, List.getElem_cons_succ, List.length_cons, List.length_nil, Nat.zero_mul, Nat.one_mul, Nat.add_zero, Nat.reduceAdd, Nat.reduceMul, Nat.zero_add] at *
  clear hl q4
  obtain ⟨kx, nx, sx⟩ := x
  obtain ⟨ky, ny, sy⟩ := y
  simp only at *
  replace d0 : ∀ o1 o2, ((w.alloc o1).alloc o2).cell? _ = some _ := fun o1 o2 => (((Ext.refl w).alloc o1).alloc o2).at d0
  replace d1 : ∀ o1 o2, ((w.alloc o1).alloc o2).cell? _ = some _ := fun o1 o2 => (((Ext.refl w).alloc o1).alloc o2).at d1
  replace d2 : ∀ o1 o2, ((w.alloc o1).alloc o2).cell? _ = some _ := fun o1 o2 => (((Ext.refl w).alloc o1).alloc o2).at d2
  replace g0 : ∀ o1 o2 o3, (((w.alloc o1).alloc o2).alloc o3).cell? _ = some _ := fun o1 o2 o3 => ((((Ext.refl w).alloc o1).alloc o2).alloc o3).at g0
  replace g1 : ∀ o1 o2 o3, (((w.alloc o1).alloc o2).alloc o3).cell? _ = some _ := fun o1 o2 o3 => ((((Ext.refl w).alloc o1).alloc o2).alloc o3).at g1
  replace g2 : ∀ o1 o2 o3, (((w.alloc o1).alloc o2).alloc o3).cell? _ = some _ := fun o1 o2 o3 => ((((Ext.refl w).alloc o1).alloc o2).alloc o3).at g2
  go_enter Try.func44, Try.ntmps44
  go_wp2_with fail
  exact bodyPost_ret (v := .agg #[.int .i64 0, .int .i64 (wrap64 (nx + ny)), .string ByteArray.empty]) (by simp [results, Try.results44, go_sem]; rfl) rfl ⟨rfl, (by repeat' first | exact Ext.refl _ | assumption | apply Ext.alloc | apply Ext.drew | apply Ext.drewN | (refine Ext.trans ?_ (by assumption)))⟩


set_option maxRecDepth 10000 in
set_option maxHeartbeats 1000000 in
theorem rap_sub (n : Int) (s : ByteArray) (A : Option Addr) (len cap : Nat) (x y : Val) (vl : Value) (w : World) (hl : Rd w Any (.sl ([x, y].map Val.d)) [vl]) : Calls Try.prog 44 #[.agg #[.int .i64 9, .int .i64 n, .string s, .slice A len cap], vl] w fun r w' => r = .returned (numV (wrap64 (x.n - y.n))).v ∧ Ext w w' := by
  obtain ⟨A9, cap9, b9, off9, rfl, q1, q2, q3, q4⟩ := Rd.sl_open hl
  simp only [List.length_map] at *
  obtain ⟨rfl, -⟩ := q3 (by simp)
  obtain ⟨d0, d1, d2, -⟩ := Val.at q4 (k := 0) (by simp)
  obtain ⟨g0, g1, g2, -⟩ := Val.at q4 (k := 1) (by simp)
  simp only [List.getElem_cons_zero, List.getElem_cons_succ, List.length_cons, List.length_nil, Nat.zero_mul, Nat.one_mul, Nat.add_zero, Nat.reduceAdd, Nat.reduceMul, Nat.zero_add] at *
  clear hl q4
  obtain ⟨kx, nx, sx⟩ := x
  obtain ⟨ky, ny, sy⟩ := y
  simp only at *
  replace d0 : ∀ o1 o2, ((w.alloc o1).alloc o2).cell? _ = some _ := fun o1 o2 => (((Ext.refl w).alloc o1).alloc o2).at d0
  replace d1 : ∀ o1 o2, ((w.alloc o1).alloc o2).cell? _ = some _ := fun o1 o2 => (((Ext.refl w).alloc o1).alloc o2).at d1
  replace d2 : ∀ o1 o2, ((w.alloc o1).alloc o2).cell? _ = some _ := fun o1 o2 => (((Ext.refl w).alloc o1).alloc o2).at d2
  replace g0 : ∀ o1 o2 o3, (((w.alloc o1).alloc o2).alloc o3).cell? _ = some _ := fun o1 o2 o3 => ((((Ext.refl w).alloc o1).alloc o2).alloc o3).at g0
  replace g1 : ∀ o1 o2 o3, (((w.alloc o1).alloc o2).alloc o3).cell? _ = some _ := fun o1 o2 o3 => ((((Ext.refl w).alloc o1).alloc o2).alloc o3).at g1
  replace g2 : ∀ o1 o2 o3, (((w.alloc o1).alloc o2).alloc o3).cell? _ = some _ := fun o1 o2 o3 => ((((Ext.refl w).alloc o1).alloc o2).alloc o3).at g2
  go_enter Try.func44, Try.ntmps44
  go_wp2_with fail
  exact bodyPost_ret (v := .agg #[.int .i64 0, .int .i64 (wrap64 (nx - ny)), .string ByteArray.empty]) (by simp [results, Try.results44, go_sem]; rfl) rfl ⟨rfl, (by repeat' first | exact Ext.refl _ | assumption | apply Ext.alloc | apply Ext.drew | apply Ext.drewN | (refine Ext.trans ?_ (by assumption)))⟩


set_option maxRecDepth 10000 in
set_option maxHeartbeats 1000000 in
theorem rap_mul (n : Int) (s : ByteArray) (A : Option Addr) (len cap : Nat) (x y : Val) (vl : Value) (w : World) (hl : Rd w Any (.sl ([x, y].map Val.d)) [vl]) : Calls Try.prog 44 #[.agg #[.int .i64 10, .int .i64 n, .string s, .slice A len cap], vl] w fun r w' => r = .returned (numV (wrap64 (x.n * y.n))).v ∧ Ext w w' := by
  obtain ⟨A9, cap9, b9, off9, rfl, q1, q2, q3, q4⟩ := Rd.sl_open hl
  simp only [List.length_map] at *
  obtain ⟨rfl, -⟩ := q3 (by simp)
  obtain ⟨d0, d1, d2, -⟩ := Val.at q4 (k := 0) (by simp)
  obtain ⟨g0, g1, g2, -⟩ := Val.at q4 (k := 1) (by simp)
  simp only [List.getElem_cons_zero, List.getElem_cons_succ, List.length_cons, List.length_nil, Nat.zero_mul, Nat.one_mul, Nat.add_zero, Nat.reduceAdd, Nat.reduceMul, Nat.zero_add] at *
  clear hl q4
  obtain ⟨kx, nx, sx⟩ := x
  obtain ⟨ky, ny, sy⟩ := y
  simp only at *
  replace d0 : ∀ o1 o2, ((w.alloc o1).alloc o2).cell? _ = some _ := fun o1 o2 => (((Ext.refl w).alloc o1).alloc o2).at d0
  replace d1 : ∀ o1 o2, ((w.alloc o1).alloc o2).cell? _ = some _ := fun o1 o2 => (((Ext.refl w).alloc o1).alloc o2).at d1
  replace d2 : ∀ o1 o2, ((w.alloc o1).alloc o2).cell? _ = some _ := fun o1 o2 => (((Ext.refl w).alloc o1).alloc o2).at d2
  replace g0 : ∀ o1 o2 o3, (((w.alloc o1).alloc o2).alloc o3).cell? _ = some _ := fun o1 o2 o3 => ((((Ext.refl w).alloc o1).alloc o2).alloc o3).at g0
  replace g1 : ∀ o1 o2 o3, (((w.alloc o1).alloc o2).alloc o3).cell? _ = some _ := fun o1 o2 o3 => ((((Ext.refl w).alloc o1).alloc o2).alloc o3).at g1
  replace g2 : ∀ o1 o2 o3, (((w.alloc o1).alloc o2).alloc o3).cell? _ = some _ := fun o1 o2 o3 => ((((Ext.refl w).alloc o1).alloc o2).alloc o3).at g2
  go_enter Try.func44, Try.ntmps44
  go_wp2_with fail
  exact bodyPost_ret (v := .agg #[.int .i64 0, .int .i64 (wrap64 (nx * ny)), .string ByteArray.empty]) (by simp [results, Try.results44, go_sem]; rfl) rfl ⟨rfl, (by repeat' first | exact Ext.refl _ | assumption | apply Ext.alloc | apply Ext.drew | apply Ext.drewN | (refine Ext.trans ?_ (by assumption)))⟩

set_option maxRecDepth 10000 in
set_option maxHeartbeats 1000000 in
theorem rap_div (n : Int) (s : ByteArray) (A : Option Addr) (len cap : Nat) (x y : Val) (vl : Value) (w : World) (hl : Rd w Any (.sl ([x, y].map Val.d)) [vl]) : Calls Try.prog 44 #[.agg #[.int .i64 11, .int .i64 n, .string s, .slice A len cap], vl] w fun r w' => r = .returned (numV (divI x.n y.n)).v ∧ Ext w w' := by
  obtain ⟨A9, cap9, b9, off9, rfl, q1, q2, q3, q4⟩ := Rd.sl_open hl
  simp only [List.length_map] at *
  obtain ⟨rfl, -⟩ := q3 (by simp)
  obtain ⟨d0, d1, d2, -⟩ := Val.at q4 (k := 0) (by simp)
  obtain ⟨g0, g1, g2, -⟩ := Val.at q4 (k := 1) (by simp)
  simp only [List.getElem_cons_zero, List.getElem_cons_succ, List.length_cons, List.length_nil, Nat.zero_mul, Nat.one_mul, Nat.add_zero, Nat.reduceAdd, Nat.reduceMul, Nat.zero_add] at *
  clear hl q4
  obtain ⟨kx, nx, sx⟩ := x
  obtain ⟨ky, ny, sy⟩ := y
  simp only at *
  replace d0 : ∀ o1 o2, ((w.alloc o1).alloc o2).cell? _ = some _ := fun o1 o2 => (((Ext.refl w).alloc o1).alloc o2).at d0
  replace d1 : ∀ o1 o2, ((w.alloc o1).alloc o2).cell? _ = some _ := fun o1 o2 => (((Ext.refl w).alloc o1).alloc o2).at d1
  replace d2 : ∀ o1 o2, ((w.alloc o1).alloc o2).cell? _ = some _ := fun o1 o2 => (((Ext.refl w).alloc o1).alloc o2).at d2
  replace g0 : ∀ o1 o2 o3, (((w.alloc o1).alloc o2).alloc o3).cell? _ = some _ := fun o1 o2 o3 => ((((Ext.refl w).alloc o1).alloc o2).alloc o3).at g0
  replace g1 : ∀ o1 o2 o3, (((w.alloc o1).alloc o2).alloc o3).cell? _ = some _ := fun o1 o2 o3 => ((((Ext.refl w).alloc o1).alloc o2).alloc o3).at g1
  replace g2 : ∀ o1 o2 o3, (((w.alloc o1).alloc o2).alloc o3).cell? _ = some _ := fun o1 o2 o3 => ((((Ext.refl w).alloc o1).alloc o2).alloc o3).at g2
  by_cases hb : ny = 0
  · have hd : (ny == 0) = true := by simp [hb]
    have hr : divI nx ny = 0 := by simp [divI, hb]
    rw [hr]
    clear hr
    go_enter Try.func44, Try.ntmps44
    go_wp2_with fail
    exact bodyPost_ret (v := .agg #[.int .i64 0, .int .i64 (0), .string ByteArray.empty]) (by simp [results, Try.results44, go_sem]; rfl) rfl ⟨rfl, (by repeat' first | exact Ext.refl _ | assumption | apply Ext.alloc | apply Ext.drew | apply Ext.drewN | (refine Ext.trans ?_ (by assumption)))⟩
  · have hd : (ny == 0) = false := by simp [hb]
    have hr : divI nx ny = wrap64 (nx.tdiv ny) := by simp [divI, hb]
    rw [hr]
    clear hr
    go_enter Try.func44, Try.ntmps44
    go_wp2_with fail
    exact bodyPost_ret (v := .agg #[.int .i64 0, .int .i64 (wrap64 (nx.tdiv ny)), .string ByteArray.empty]) (by simp [results, Try.results44, go_sem]; rfl) rfl ⟨rfl, (by repeat' first | exact Ext.refl _ | assumption | apply Ext.alloc | apply Ext.drew | apply Ext.drewN | (refine Ext.trans ?_ (by assumption)))⟩

set_option maxRecDepth 10000 in
set_option maxHeartbeats 1000000 in
theorem rap_mod (n : Int) (s : ByteArray) (A : Option Addr) (len cap : Nat) (x y : Val) (vl : Value) (w : World) (hl : Rd w Any (.sl ([x, y].map Val.d)) [vl]) : Calls Try.prog 44 #[.agg #[.int .i64 12, .int .i64 n, .string s, .slice A len cap], vl] w fun r w' => r = .returned (numV (modI x.n y.n)).v ∧ Ext w w' := by
  obtain ⟨A9, cap9, b9, off9, rfl, q1, q2, q3, q4⟩ := Rd.sl_open hl
  simp only [List.length_map] at *
  obtain ⟨rfl, -⟩ := q3 (by simp)
  obtain ⟨d0, d1, d2, -⟩ := Val.at q4 (k := 0) (by simp)
  obtain ⟨g0, g1, g2, -⟩ := Val.at q4 (k := 1) (by simp)
  simp only [List.getElem_cons_zero, List.getElem_cons_succ, List.length_cons, List.length_nil, Nat.zero_mul, Nat.one_mul, Nat.add_zero, Nat.reduceAdd, Nat.reduceMul, Nat.zero_add] at *
  clear hl q4
  obtain ⟨kx, nx, sx⟩ := x
  obtain ⟨ky, ny, sy⟩ := y
  simp only at *
  replace d0 : ∀ o1 o2, ((w.alloc o1).alloc o2).cell? _ = some _ := fun o1 o2 => (((Ext.refl w).alloc o1).alloc o2).at d0
  replace d1 : ∀ o1 o2, ((w.alloc o1).alloc o2).cell? _ = some _ := fun o1 o2 => (((Ext.refl w).alloc o1).alloc o2).at d1
  replace d2 : ∀ o1 o2, ((w.alloc o1).alloc o2).cell? _ = some _ := fun o1 o2 => (((Ext.refl w).alloc o1).alloc o2).at d2
  replace g0 : ∀ o1 o2 o3, (((w.alloc o1).alloc o2).alloc o3).cell? _ = some _ := fun o1 o2 o3 => ((((Ext.refl w).alloc o1).alloc o2).alloc o3).at g0
  replace g1 : ∀ o1 o2 o3, (((w.alloc o1).alloc o2).alloc o3).cell? _ = some _ := fun o1 o2 o3 => ((((Ext.refl w).alloc o1).alloc o2).alloc o3).at g1
  replace g2 : ∀ o1 o2 o3, (((w.alloc o1).alloc o2).alloc o3).cell? _ = some _ := fun o1 o2 o3 => ((((Ext.refl w).alloc o1).alloc o2).alloc o3).at g2
  by_cases hb : ny = 0
  · have hd : (ny == 0) = true := by simp [hb]
    have hr : modI nx ny = 0 := by simp [modI, hb]
    rw [hr]
    clear hr
    go_enter Try.func44, Try.ntmps44
    go_wp2_with fail
    exact bodyPost_ret (v := .agg #[.int .i64 0, .int .i64 (0), .string ByteArray.empty]) (by simp [results, Try.results44, go_sem]; rfl) rfl ⟨rfl, (by repeat' first | exact Ext.refl _ | assumption | apply Ext.alloc | apply Ext.drew | apply Ext.drewN | (refine Ext.trans ?_ (by assumption)))⟩
  · have hd : (ny == 0) = false := by simp [hb]
    have hr : modI nx ny = nx.tmod ny := by simp [modI, hb]
    rw [hr]
    clear hr
    go_enter Try.func44, Try.ntmps44
    go_wp2_with fail
    exact bodyPost_ret (v := .agg #[.int .i64 0, .int .i64 (nx.tmod ny), .string ByteArray.empty]) (by simp [results, Try.results44, go_sem]; rfl) rfl ⟨rfl, (by repeat' first | exact Ext.refl _ | assumption | apply Ext.alloc | apply Ext.drew | apply Ext.drewN | (refine Ext.trans ?_ (by assumption)))⟩

set_option maxRecDepth 10000 in
set_option maxHeartbeats 1000000 in
theorem rap_eq (n : Int) (s : ByteArray) (A : Option Addr) (len cap : Nat) (x y : Val) (vl : Value) (w : World) (hl : Rd w Any (.sl ([x, y].map Val.d)) [vl]) : Calls Try.prog 44 #[.agg #[.int .i64 13, .int .i64 n, .string s, .slice A len cap], vl] w fun r w' => r = .returned (boolV (eqV x y)).v ∧ Ext w w' := by
  obtain ⟨A9, cap9, b9, off9, rfl, q1, q2, q3, q4⟩ := Rd.sl_open hl
  simp only [List.length_map] at *
  obtain ⟨rfl, -⟩ := q3 (by simp)
  obtain ⟨d0, d1, d2, -⟩ := Val.at q4 (k := 0) (by simp)
  obtain ⟨g0, g1, g2, -⟩ := Val.at q4 (k := 1) (by simp)
  simp only [List.getElem_cons_zero, List.getElem_cons_succ, List.length_cons, List.length_nil, Nat.zero_mul, Nat.one_mul, Nat.add_zero, Nat.reduceAdd, Nat.reduceMul, Nat.zero_add] at *
  clear hl q4
  obtain ⟨kx, nx, sx⟩ := x
  obtain ⟨ky, ny, sy⟩ := y
  simp only at *
  replace d0 : ∀ o1 o2, ((w.alloc o1).alloc o2).cell? _ = some _ := fun o1 o2 => (((Ext.refl w).alloc o1).alloc o2).at d0
  replace d1 : ∀ o1 o2, ((w.alloc o1).alloc o2).cell? _ = some _ := fun o1 o2 => (((Ext.refl w).alloc o1).alloc o2).at d1
  replace d2 : ∀ o1 o2, ((w.alloc o1).alloc o2).cell? _ = some _ := fun o1 o2 => (((Ext.refl w).alloc o1).alloc o2).at d2
  replace g0 : ∀ o1 o2 o3, (((w.alloc o1).alloc o2).alloc o3).cell? _ = some _ := fun o1 o2 o3 => ((((Ext.refl w).alloc o1).alloc o2).alloc o3).at g0
  replace g1 : ∀ o1 o2 o3, (((w.alloc o1).alloc o2).alloc o3).cell? _ = some _ := fun o1 o2 o3 => ((((Ext.refl w).alloc o1).alloc o2).alloc o3).at g1
  replace g2 : ∀ o1 o2 o3, (((w.alloc o1).alloc o2).alloc o3).cell? _ = some _ := fun o1 o2 o3 => ((((Ext.refl w).alloc o1).alloc o2).alloc o3).at g2
  go_enter Try.func44, Try.ntmps44
  go_wp2_with fail
  all_goals
    refine (rtruth_any _ _).mono ?_
    rintro r w1 ⟨rfl, he⟩
    have f0 : w1.cell? ⟨w.heap.size + 1, 0, none⟩ = some (.int .i64 0) := he.at (by go_simp)
    have f1 : w1.cell? ⟨w.heap.size + 1, 1, none⟩ = some (.int .i64 0) := he.at (by go_simp)
    have f2 : w1.cell? ⟨w.heap.size + 1, 2, none⟩ = some (.string ByteArray.empty) := he.at (by go_simp; rfl)
    have z0 : w1.frozen? ⟨w.heap.size + 1, 0, none⟩ = false := (he.frozens _ _ (by go_simp)).trans (by go_simp)
    have z1 : w1.frozen? ⟨w.heap.size + 1, 1, none⟩ = false := (he.frozens _ _ (by go_simp)).trans (by go_simp)
    have z2 : w1.frozen? ⟨w.heap.size + 1, 2, none⟩ = false := (he.frozens _ _ (by go_simp)).trans (by go_simp)
    have hw : Ext w w1 := Ext.trans (by repeat' first | exact Ext.refl _ | assumption | apply Ext.alloc | apply Ext.drew | apply Ext.drewN | (refine Ext.trans ?_ (by assumption))) he
    clear he
    simp only [boolV, Val.v]
    go_wp2_with fail
    first
      | (refine bodyPost_ret (v := .agg #[.int .i64 2, .int .i64 1, .string ByteArray.empty]) ?_ rfl ⟨?_, ext_three hw _ (by omega) _ _ _⟩
         · simp [results, Try.results44, go_sem, f0, f1, f2]; done
         · simp [boolV, Val.v, eqV, *]; done)
      | (refine bodyPost_ret (v := .agg #[.int .i64 2, .int .i64 0, .string ByteArray.empty]) ?_ rfl ⟨?_, ext_three hw _ (by omega) _ _ _⟩
         · simp [results, Try.results44, go_sem, f0, f1, f2]; done
         · simp [boolV, Val.v, eqV, *]; done)

set_option maxRecDepth 10000 in
set_option maxHeartbeats 1000000 in
theorem rap_ne (n : Int) (s : ByteArray) (A : Option Addr) (len cap : Nat) (x y : Val) (vl : Value) (w : World) (hl : Rd w Any (.sl ([x, y].map Val.d)) [vl]) : Calls Try.prog 44 #[.agg #[.int .i64 14, .int .i64 n, .string s, .slice A len cap], vl] w fun r w' => r = .returned (boolV (!eqV x y)).v ∧ Ext w w' := by
  obtain ⟨A9, cap9, b9, off9, rfl, q1, q2, q3, q4⟩ := Rd.sl_open hl
  simp only [List.length_map] at *
  obtain ⟨rfl, -⟩ := q3 (by simp)
  obtain ⟨d0, d1, d2, -⟩ := Val.at q4 (k := 0) (by simp)
  obtain ⟨g0, g1, g2, -⟩ := Val.at q4 (k := 1) (by simp)
  simp only [List.getElem_cons_zero, List.getElem_cons_succ, List.length_cons, List.length_nil, Nat.zero_mul, Nat.one_mul, Nat.add_zero, Nat.reduceAdd, Nat.reduceMul, Nat.zero_add] at *
  clear hl q4
  obtain ⟨kx, nx, sx⟩ := x
  obtain ⟨ky, ny, sy⟩ := y
  simp only at *
  replace d0 : ∀ o1 o2, ((w.alloc o1).alloc o2).cell? _ = some _ := fun o1 o2 => (((Ext.refl w).alloc o1).alloc o2).at d0
  replace d1 : ∀ o1 o2, ((w.alloc o1).alloc o2).cell? _ = some _ := fun o1 o2 => (((Ext.refl w).alloc o1).alloc o2).at d1
  replace d2 : ∀ o1 o2, ((w.alloc o1).alloc o2).cell? _ = some _ := fun o1 o2 => (((Ext.refl w).alloc o1).alloc o2).at d2
  replace g0 : ∀ o1 o2 o3, (((w.alloc o1).alloc o2).alloc o3).cell? _ = some _ := fun o1 o2 o3 => ((((Ext.refl w).alloc o1).alloc o2).alloc o3).at g0
  replace g1 : ∀ o1 o2 o3, (((w.alloc o1).alloc o2).alloc o3).cell? _ = some _ := fun o1 o2 o3 => ((((Ext.refl w).alloc o1).alloc o2).alloc o3).at g1
  replace g2 : ∀ o1 o2 o3, (((w.alloc o1).alloc o2).alloc o3).cell? _ = some _ := fun o1 o2 o3 => ((((Ext.refl w).alloc o1).alloc o2).alloc o3).at g2
  go_enter Try.func44, Try.ntmps44
  go_wp2_with fail
  all_goals
    refine (rtruth_any _ _).mono ?_
    rintro r w1 ⟨rfl, he⟩
    have f0 : w1.cell? ⟨w.heap.size + 1, 0, none⟩ = some (.int .i64 0) := he.at (by go_simp)
    have f1 : w1.cell? ⟨w.heap.size + 1, 1, none⟩ = some (.int .i64 0) := he.at (by go_simp)
    have f2 : w1.cell? ⟨w.heap.size + 1, 2, none⟩ = some (.string ByteArray.empty) := he.at (by go_simp; rfl)
    have z0 : w1.frozen? ⟨w.heap.size + 1, 0, none⟩ = false := (he.frozens _ _ (by go_simp)).trans (by go_simp)
    have z1 : w1.frozen? ⟨w.heap.size + 1, 1, none⟩ = false := (he.frozens _ _ (by go_simp)).trans (by go_simp)
    have z2 : w1.frozen? ⟨w.heap.size + 1, 2, none⟩ = false := (he.frozens _ _ (by go_simp)).trans (by go_simp)
    have hw : Ext w w1 := Ext.trans (by repeat' first | exact Ext.refl _ | assumption | apply Ext.alloc | apply Ext.drew | apply Ext.drewN | (refine Ext.trans ?_ (by assumption))) he
    clear he
    simp only [boolV, Val.v]
    go_wp2_with fail
    first
      | (refine bodyPost_ret (v := .agg #[.int .i64 2, .int .i64 1, .string ByteArray.empty]) ?_ rfl ⟨?_, ext_three hw _ (by omega) _ _ _⟩
         · simp [results, Try.results44, go_sem, f0, f1, f2]; done
         · simp [boolV, Val.v, eqV, *]; done)
      | (refine bodyPost_ret (v := .agg #[.int .i64 2, .int .i64 0, .string ByteArray.empty]) ?_ rfl ⟨?_, ext_three hw _ (by omega) _ _ _⟩
         · simp [results, Try.results44, go_sem, f0, f1, f2]; done
         · simp [boolV, Val.v, eqV, *]; done)

set_option maxRecDepth 10000 in
set_option maxHeartbeats 1000000 in
theorem rap_lt (n : Int) (s : ByteArray) (A : Option Addr) (len cap : Nat) (x y : Val) (vl : Value) (w : World) (hl : Rd w Any (.sl ([x, y].map Val.d)) [vl]) : Calls Try.prog 44 #[.agg #[.int .i64 15, .int .i64 n, .string s, .slice A len cap], vl] w fun r w' => r = .returned (boolV (lessB x y)).v ∧ Ext w w' := by
  obtain ⟨A9, cap9, b9, off9, rfl, q1, q2, q3, q4⟩ := Rd.sl_open hl
  simp only [List.length_map] at *
  obtain ⟨rfl, -⟩ := q3 (by simp)
  obtain ⟨d0, d1, d2, -⟩ := Val.at q4 (k := 0) (by simp)
  obtain ⟨g0, g1, g2, -⟩ := Val.at q4 (k := 1) (by simp)
  simp only [List.getElem_cons_zero, List.getElem_cons_succ, List.length_cons, List.length_nil, Nat.zero_mul, Nat.one_mul, Nat.add_zero, Nat.reduceAdd, Nat.reduceMul, Nat.zero_add] at *
  clear hl q4
  obtain ⟨kx, nx, sx⟩ := x
  obtain ⟨ky, ny, sy⟩ := y
  simp only at *
  replace d0 : ∀ o1 o2, ((w.alloc o1).alloc o2).cell? _ = some _ := fun o1 o2 => (((Ext.refl w).alloc o1).alloc o2).at d0
  replace d1 : ∀ o1 o2, ((w.alloc o1).alloc o2).cell? _ = some _ := fun o1 o2 => (((Ext.refl w).alloc o1).alloc o2).at d1
  replace d2 : ∀ o1 o2, ((w.alloc o1).alloc o2).cell? _ = some _ := fun o1 o2 => (((Ext.refl w).alloc o1).alloc o2).at d2
  replace g0 : ∀ o1 o2 o3, (((w.alloc o1).alloc o2).alloc o3).cell? _ = some _ := fun o1 o2 o3 => ((((Ext.refl w).alloc o1).alloc o2).alloc o3).at g0
  replace g1 : ∀ o1 o2 o3, (((w.alloc o1).alloc o2).alloc o3).cell? _ = some _ := fun o1 o2 o3 => ((((Ext.refl w).alloc o1).alloc o2).alloc o3).at g1
  replace g2 : ∀ o1 o2 o3, (((w.alloc o1).alloc o2).alloc o3).cell? _ = some _ := fun o1 o2 o3 => ((((Ext.refl w).alloc o1).alloc o2).alloc o3).at g2
  have hless := fun X => rless_any ⟨kx, nx, sx⟩ ⟨ky, ny, sy⟩ X
  cases hc : lessB ⟨kx, nx, sx⟩ ⟨ky, ny, sy⟩
  case false =>
    rw [hc] at hless
    simp only [Val.v, Bool.not_true, Bool.not_false] at hless ⊢
    have hless' := Lib.hid hless
    clear hless hc
    go_enter Try.func44, Try.ntmps44
    go_wp2_with fail
    refine (hless'.out _).mono ?_
    rintro r w2 ⟨rfl, he2⟩
    have f0 : w2.cell? ⟨w.heap.size + 1, 0, none⟩ = some (.int .i64 0) := he2.at (by go_simp)
    have f1 : w2.cell? ⟨w.heap.size + 1, 1, none⟩ = some (.int .i64 0) := he2.at (by go_simp)
    have f2 : w2.cell? ⟨w.heap.size + 1, 2, none⟩ = some (.string ByteArray.empty) := he2.at (by go_simp; rfl)
    have z0 : w2.frozen? ⟨w.heap.size + 1, 0, none⟩ = false := (he2.frozens _ _ (by go_simp)).trans (by go_simp)
    have z1 : w2.frozen? ⟨w.heap.size + 1, 1, none⟩ = false := (he2.frozens _ _ (by go_simp)).trans (by go_simp)
    have z2 : w2.frozen? ⟨w.heap.size + 1, 2, none⟩ = false := (he2.frozens _ _ (by go_simp)).trans (by go_simp)
    have hlt : w.heap.size + 1 < w2.heap.size := World.block_lt_of_cell? w2 _ f0
    have hw2 : Ext w w2 := Ext.trans (by repeat' first | exact Ext.refl _ | assumption | apply Ext.alloc | apply Ext.drew | apply Ext.drewN | (refine Ext.trans ?_ (by assumption))) he2
    clear he2
    go_wp2_with fail
    refine (rtruth_any _ _).mono ?_
    rintro r w1 ⟨rfl, he⟩
    replace f0 := he.at f0
    replace f1 := he.at f1
    replace f2 := he.at f2
    replace z0 := (he.frozens _ _ hlt).trans z0
    replace z1 := (he.frozens _ _ hlt).trans z1
    replace z2 := (he.frozens _ _ hlt).trans z2
    have hw : Ext w w1 := hw2.trans he
    clear he hw2
    simp only [boolV, Val.v, if_true, Bool.false_eq_true, if_false]
    go_wp2_with fail
    exact bodyPost_ret (v := .agg #[.int .i64 2, .int .i64 0, .string ByteArray.empty]) (by simp [results, Try.results44, go_sem, f0, f1, f2]; done) rfl ⟨rfl, ext_three hw _ (by omega) _ _ _⟩
  case true =>
    rw [hc] at hless
    simp only [Val.v, Bool.not_true, Bool.not_false] at hless ⊢
    have hless' := Lib.hid hless
    clear hless hc
    go_enter Try.func44, Try.ntmps44
    go_wp2_with fail
    refine (hless'.out _).mono ?_
    rintro r w2 ⟨rfl, he2⟩
    have f0 : w2.cell? ⟨w.heap.size + 1, 0, none⟩ = some (.int .i64 0) := he2.at (by go_simp)
    have f1 : w2.cell? ⟨w.heap.size + 1, 1, none⟩ = some (.int .i64 0) := he2.at (by go_simp)
    have f2 : w2.cell? ⟨w.heap.size + 1, 2, none⟩ = some (.string ByteArray.empty) := he2.at (by go_simp; rfl)
    have z0 : w2.frozen? ⟨w.heap.size + 1, 0, none⟩ = false := (he2.frozens _ _ (by go_simp)).trans (by go_simp)
    have z1 : w2.frozen? ⟨w.heap.size + 1, 1, none⟩ = false := (he2.frozens _ _ (by go_simp)).trans (by go_simp)
    have z2 : w2.frozen? ⟨w.heap.size + 1, 2, none⟩ = false := (he2.frozens _ _ (by go_simp)).trans (by go_simp)
    have hlt : w.heap.size + 1 < w2.heap.size := World.block_lt_of_cell? w2 _ f0
    have hw2 : Ext w w2 := Ext.trans (by repeat' first | exact Ext.refl _ | assumption | apply Ext.alloc | apply Ext.drew | apply Ext.drewN | (refine Ext.trans ?_ (by assumption))) he2
    clear he2
    go_wp2_with fail
    refine (rtruth_any _ _).mono ?_
    rintro r w1 ⟨rfl, he⟩
    replace f0 := he.at f0
    replace f1 := he.at f1
    replace f2 := he.at f2
    replace z0 := (he.frozens _ _ hlt).trans z0
    replace z1 := (he.frozens _ _ hlt).trans z1
    replace z2 := (he.frozens _ _ hlt).trans z2
    have hw : Ext w w1 := hw2.trans he
    clear he hw2
    simp only [boolV, Val.v, if_true, Bool.false_eq_true, if_false]
    go_wp2_with fail
    exact bodyPost_ret (v := .agg #[.int .i64 2, .int .i64 1, .string ByteArray.empty]) (by simp [results, Try.results44, go_sem, f0, f1, f2]; done) rfl ⟨rfl, ext_three hw _ (by omega) _ _ _⟩

set_option maxRecDepth 10000 in
set_option maxHeartbeats 1000000 in
theorem rap_le (n : Int) (s : ByteArray) (A : Option Addr) (len cap : Nat) (x y : Val) (vl : Value) (w : World) (hl : Rd w Any (.sl ([x, y].map Val.d)) [vl]) : Calls Try.prog 44 #[.agg #[.int .i64 16, .int .i64 n, .string s, .slice A len cap], vl] w fun r w' => r = .returned (boolV (!lessB y x)).v ∧ Ext w w' := by
  obtain ⟨A9, cap9, b9, off9, rfl, q1, q2, q3, q4⟩ := Rd.sl_open hl
  simp only [List.length_map] at *
  obtain ⟨rfl, -⟩ := q3 (by simp)
  obtain ⟨d0, d1, d2, -⟩ := Val.at q4 (k := 0) (by simp)
  obtain ⟨g0, g1, g2, -⟩ := Val.at q4 (k := 1) (by simp)
  simp only [List.getElem_cons_zero, List.getElem_cons_succ, List.length_cons, List.length_nil, Nat.zero_mul, Nat.one_mul, Nat.add_zero, Nat.reduceAdd, Nat.reduceMul, Nat.zero_add] at *
  clear hl q4
  obtain ⟨kx, nx, sx⟩ := x
  obtain ⟨ky, ny, sy⟩ := y
  simp only at *
  replace d0 : ∀ o1 o2, ((w.alloc o1).alloc o2).cell? _ = some _ := fun o1 o2 => (((Ext.refl w).alloc o1).alloc o2).at d0
  replace d1 : ∀ o1 o2, ((w.alloc o1).alloc o2).cell? _ = some _ := fun o1 o2 => (((Ext.refl w).alloc o1).alloc o2).at d1
  replace d2 : ∀ o1 o2, ((w.alloc o1).alloc o2).cell? _ = some _ := fun o1 o2 => (((Ext.refl w).alloc o1).alloc o2).at d2
  replace g0 : ∀ o1 o2 o3, (((w.alloc o1).alloc o2).alloc o3).cell? _ = some _ := fun o1 o2 o3 => ((((Ext.refl w).alloc o1).alloc o2).alloc o3).at g0
  replace g1 : ∀ o1 o2 o3, (((w.alloc o1).alloc o2).alloc o3).cell? _ = some _ := fun o1 o2 o3 => ((((Ext.refl w).alloc o1).alloc o2).alloc o3).at g1
  replace g2 : ∀ o1 o2 o3, (((w.alloc o1).alloc o2).alloc o3).cell? _ = some _ := fun o1 o2 o3 => ((((Ext.refl w).alloc o1).alloc o2).alloc o3).at g2
  have hless := fun X => rless_any ⟨ky, ny, sy⟩ ⟨kx, nx, sx⟩ X
  cases hc : lessB ⟨ky, ny, sy⟩ ⟨kx, nx, sx⟩
  case false =>
    rw [hc] at hless
    simp only [Val.v, Bool.not_true, Bool.not_false] at hless ⊢
    have hless' := Lib.hid hless
    clear hless hc
    go_enter Try.func44, Try.ntmps44
    go_wp2_with fail
    refine (hless'.out _).mono ?_
    rintro r w2 ⟨rfl, he2⟩
    have f0 : w2.cell? ⟨w.heap.size + 1, 0, none⟩ = some (.int .i64 0) := he2.at (by go_simp)
    have f1 : w2.cell? ⟨w.heap.size + 1, 1, none⟩ = some (.int .i64 0) := he2.at (by go_simp)
    have f2 : w2.cell? ⟨w.heap.size + 1, 2, none⟩ = some (.string ByteArray.empty) := he2.at (by go_simp; rfl)
    have z0 : w2.frozen? ⟨w.heap.size + 1, 0, none⟩ = false := (he2.frozens _ _ (by go_simp)).trans (by go_simp)
    have z1 : w2.frozen? ⟨w.heap.size + 1, 1, none⟩ = false := (he2.frozens _ _ (by go_simp)).trans (by go_simp)
    have z2 : w2.frozen? ⟨w.heap.size + 1, 2, none⟩ = false := (he2.frozens _ _ (by go_simp)).trans (by go_simp)
    have hlt : w.heap.size + 1 < w2.heap.size := World.block_lt_of_cell? w2 _ f0
    have hw2 : Ext w w2 := Ext.trans (by repeat' first | exact Ext.refl _ | assumption | apply Ext.alloc | apply Ext.drew | apply Ext.drewN | (refine Ext.trans ?_ (by assumption))) he2
    clear he2
    go_wp2_with fail
    refine (rtruth_any _ _).mono ?_
    rintro r w1 ⟨rfl, he⟩
    replace f0 := he.at f0
    replace f1 := he.at f1
    replace f2 := he.at f2
    replace z0 := (he.frozens _ _ hlt).trans z0
    replace z1 := (he.frozens _ _ hlt).trans z1
    replace z2 := (he.frozens _ _ hlt).trans z2
    have hw : Ext w w1 := hw2.trans he
    clear he hw2
    simp only [boolV, Val.v, if_true, Bool.false_eq_true, if_false]
    go_wp2_with fail
    exact bodyPost_ret (v := .agg #[.int .i64 2, .int .i64 1, .string ByteArray.empty]) (by simp [results, Try.results44, go_sem, f0, f1, f2]; done) rfl ⟨rfl, ext_three hw _ (by omega) _ _ _⟩
  case true =>
    rw [hc] at hless
    simp only [Val.v, Bool.not_true, Bool.not_false] at hless ⊢
    have hless' := Lib.hid hless
    clear hless hc
    go_enter Try.func44, Try.ntmps44
    go_wp2_with fail
    refine (hless'.out _).mono ?_
    rintro r w2 ⟨rfl, he2⟩
    have f0 : w2.cell? ⟨w.heap.size + 1, 0, none⟩ = some (.int .i64 0) := he2.at (by go_simp)
    have f1 : w2.cell? ⟨w.heap.size + 1, 1, none⟩ = some (.int .i64 0) := he2.at (by go_simp)
    have f2 : w2.cell? ⟨w.heap.size + 1, 2, none⟩ = some (.string ByteArray.empty) := he2.at (by go_simp; rfl)
    have z0 : w2.frozen? ⟨w.heap.size + 1, 0, none⟩ = false := (he2.frozens _ _ (by go_simp)).trans (by go_simp)
    have z1 : w2.frozen? ⟨w.heap.size + 1, 1, none⟩ = false := (he2.frozens _ _ (by go_simp)).trans (by go_simp)
    have z2 : w2.frozen? ⟨w.heap.size + 1, 2, none⟩ = false := (he2.frozens _ _ (by go_simp)).trans (by go_simp)
    have hlt : w.heap.size + 1 < w2.heap.size := World.block_lt_of_cell? w2 _ f0
    have hw2 : Ext w w2 := Ext.trans (by repeat' first | exact Ext.refl _ | assumption | apply Ext.alloc | apply Ext.drew | apply Ext.drewN | (refine Ext.trans ?_ (by assumption))) he2
    clear he2
    go_wp2_with fail
    refine (rtruth_any _ _).mono ?_
    rintro r w1 ⟨rfl, he⟩
    replace f0 := he.at f0
    replace f1 := he.at f1
    replace f2 := he.at f2
    replace z0 := (he.frozens _ _ hlt).trans z0
    replace z1 := (he.frozens _ _ hlt).trans z1
    replace z2 := (he.frozens _ _ hlt).trans z2
    have hw : Ext w w1 := hw2.trans he
    clear he hw2
    simp only [boolV, Val.v, if_true, Bool.false_eq_true, if_false]
    go_wp2_with fail
    exact bodyPost_ret (v := .agg #[.int .i64 2, .int .i64 0, .string ByteArray.empty]) (by simp [results, Try.results44, go_sem, f0, f1, f2]; done) rfl ⟨rfl, ext_three hw _ (by omega) _ _ _⟩

set_option maxRecDepth 10000 in
set_option maxHeartbeats 1000000 in
theorem rap_and (n : Int) (s : ByteArray) (A : Option Addr) (len cap : Nat) (x y : Val) (vl : Value) (w : World) (hl : Rd w Any (.sl ([x, y].map Val.d)) [vl]) : Calls Try.prog 44 #[.agg #[.int .i64 17, .int .i64 n, .string s, .slice A len cap], vl] w fun r w' => r = .returned (boolV (decide (x.n = 1) && decide (y.n = 1))).v ∧ Ext w w' := by
  obtain ⟨A9, cap9, b9, off9, rfl, q1, q2, q3, q4⟩ := Rd.sl_open hl
  simp only [List.length_map] at *
  obtain ⟨rfl, -⟩ := q3 (by simp)
  obtain ⟨d0, d1, d2, -⟩ := Val.at q4 (k := 0) (by simp)
  obtain ⟨g0, g1, g2, -⟩ := Val.at q4 (k := 1) (by simp)
  simp only [List.getElem_cons_zero, List.getElem_cons_succ, List.length_cons, List.length_nil, Nat.zero_mul, Nat.one_mul, Nat.add_zero, Nat.reduceAdd, Nat.reduceMul, Nat.zero_add] at *
  clear hl q4
  obtain ⟨kx, nx, sx⟩ := x
  obtain ⟨ky, ny, sy⟩ := y
  simp only at *
  replace d0 : ∀ o1 o2, ((w.alloc o1).alloc o2).cell? _ = some _ := fun o1 o2 => (((Ext.refl w).alloc o1).alloc o2).at d0
  replace d1 : ∀ o1 o2, ((w.alloc o1).alloc o2).cell? _ = some _ := fun o1 o2 => (((Ext.refl w).alloc o1).alloc o2).at d1
  replace d2 : ∀ o1 o2, ((w.alloc o1).alloc o2).cell? _ = some _ := fun o1 o2 => (((Ext.refl w).alloc o1).alloc o2).at d2
  replace g0 : ∀ o1 o2 o3, (((w.alloc o1).alloc o2).alloc o3).cell? _ = some _ := fun o1 o2 o3 => ((((Ext.refl w).alloc o1).alloc o2).alloc o3).at g0
  replace g1 : ∀ o1 o2 o3, (((w.alloc o1).alloc o2).alloc o3).cell? _ = some _ := fun o1 o2 o3 => ((((Ext.refl w).alloc o1).alloc o2).alloc o3).at g1
  replace g2 : ∀ o1 o2 o3, (((w.alloc o1).alloc o2).alloc o3).cell? _ = some _ := fun o1 o2 o3 => ((((Ext.refl w).alloc o1).alloc o2).alloc o3).at g2
  by_cases hcx : nx = 1
  · have hbx : (nx == 1) = true := by simp [hcx]
    by_cases hcy : ny = 1
    · have hby : (ny == 1) = true := by simp [hcy]
      have hres : boolV (decide (nx = 1) && decide (ny = 1)) = boolV true := by simp [*]
      rw [hres]; clear hres
      go_enter Try.func44, Try.ntmps44
      go_wp2_with fail
      refine (rtruth_any _ _).mono ?_
      rintro r w1 ⟨rfl, he⟩
      have f0 : w1.cell? ⟨w.heap.size + 1, 0, none⟩ = some (.int .i64 0) := he.at (by go_simp)
      have f1 : w1.cell? ⟨w.heap.size + 1, 1, none⟩ = some (.int .i64 0) := he.at (by go_simp)
      have f2 : w1.cell? ⟨w.heap.size + 1, 2, none⟩ = some (.string ByteArray.empty) := he.at (by go_simp; rfl)
      have z0 : w1.frozen? ⟨w.heap.size + 1, 0, none⟩ = false := (he.frozens _ _ (by go_simp)).trans (by go_simp)
      have z1 : w1.frozen? ⟨w.heap.size + 1, 1, none⟩ = false := (he.frozens _ _ (by go_simp)).trans (by go_simp)
      have z2 : w1.frozen? ⟨w.heap.size + 1, 2, none⟩ = false := (he.frozens _ _ (by go_simp)).trans (by go_simp)
      have hw : Ext w w1 := Ext.trans (by repeat' first | exact Ext.refl _ | assumption | apply Ext.alloc | apply Ext.drew | apply Ext.drewN | (refine Ext.trans ?_ (by assumption))) he
      clear he
      simp only [boolV, Val.v, if_true, Bool.false_eq_true, if_false]
      go_wp2_with fail
      exact bodyPost_ret (v := .agg #[.int .i64 2, .int .i64 1, .string ByteArray.empty]) (by simp [results, Try.results44, go_sem, f0, f1, f2]; done) rfl ⟨rfl, ext_three hw _ (by omega) _ _ _⟩
    · have hby : (ny == 1) = false := by simp [hcy]
      have hres : boolV (decide (nx = 1) && decide (ny = 1)) = boolV false := by simp [*]
      rw [hres]; clear hres
      go_enter Try.func44, Try.ntmps44
      go_wp2_with fail
      refine (rtruth_any _ _).mono ?_
      rintro r w1 ⟨rfl, he⟩
      have f0 : w1.cell? ⟨w.heap.size + 1, 0, none⟩ = some (.int .i64 0) := he.at (by go_simp)
      have f1 : w1.cell? ⟨w.heap.size + 1, 1, none⟩ = some (.int .i64 0) := he.at (by go_simp)
      have f2 : w1.cell? ⟨w.heap.size + 1, 2, none⟩ = some (.string ByteArray.empty) := he.at (by go_simp; rfl)
      have z0 : w1.frozen? ⟨w.heap.size + 1, 0, none⟩ = false := (he.frozens _ _ (by go_simp)).trans (by go_simp)
      have z1 : w1.frozen? ⟨w.heap.size + 1, 1, none⟩ = false := (he.frozens _ _ (by go_simp)).trans (by go_simp)
      have z2 : w1.frozen? ⟨w.heap.size + 1, 2, none⟩ = false := (he.frozens _ _ (by go_simp)).trans (by go_simp)
      have hw : Ext w w1 := Ext.trans (by repeat' first | exact Ext.refl _ | assumption | apply Ext.alloc | apply Ext.drew | apply Ext.drewN | (refine Ext.trans ?_ (by assumption))) he
      clear he
      simp only [boolV, Val.v, if_true, Bool.false_eq_true, if_false]
      go_wp2_with fail
      exact bodyPost_ret (v := .agg #[.int .i64 2, .int .i64 0, .string ByteArray.empty]) (by simp [results, Try.results44, go_sem, f0, f1, f2]; done) rfl ⟨rfl, ext_three hw _ (by omega) _ _ _⟩
  · have hbx : (nx == 1) = false := by simp [hcx]
    by_cases hcy : ny = 1
    · have hby : (ny == 1) = true := by simp [hcy]
      have hres : boolV (decide (nx = 1) && decide (ny = 1)) = boolV false := by simp [*]
      rw [hres]; clear hres
      go_enter Try.func44, Try.ntmps44
      go_wp2_with fail
      refine (rtruth_any _ _).mono ?_
      rintro r w1 ⟨rfl, he⟩
      have f0 : w1.cell? ⟨w.heap.size + 1, 0, none⟩ = some (.int .i64 0) := he.at (by go_simp)
      have f1 : w1.cell? ⟨w.heap.size + 1, 1, none⟩ = some (.int .i64 0) := he.at (by go_simp)
      have f2 : w1.cell? ⟨w.heap.size + 1, 2, none⟩ = some (.string ByteArray.empty) := he.at (by go_simp; rfl)
      have z0 : w1.frozen? ⟨w.heap.size + 1, 0, none⟩ = false := (he.frozens _ _ (by go_simp)).trans (by go_simp)
      have z1 : w1.frozen? ⟨w.heap.size + 1, 1, none⟩ = false := (he.frozens _ _ (by go_simp)).trans (by go_simp)
      have z2 : w1.frozen? ⟨w.heap.size + 1, 2, none⟩ = false := (he.frozens _ _ (by go_simp)).trans (by go_simp)
      have hw : Ext w w1 := Ext.trans (by repeat' first | exact Ext.refl _ | assumption | apply Ext.alloc | apply Ext.drew | apply Ext.drewN | (refine Ext.trans ?_ (by assumption))) he
      clear he
      simp only [boolV, Val.v, if_true, Bool.false_eq_true, if_false]
      go_wp2_with fail
      exact bodyPost_ret (v := .agg #[.int .i64 2, .int .i64 0, .string ByteArray.empty]) (by simp [results, Try.results44, go_sem, f0, f1, f2]; done) rfl ⟨rfl, ext_three hw _ (by omega) _ _ _⟩
    · have hby : (ny == 1) = false := by simp [hcy]
      have hres : boolV (decide (nx = 1) && decide (ny = 1)) = boolV false := by simp [*]
      rw [hres]; clear hres
      go_enter Try.func44, Try.ntmps44
      go_wp2_with fail
      refine (rtruth_any _ _).mono ?_
      rintro r w1 ⟨rfl, he⟩
      have f0 : w1.cell? ⟨w.heap.size + 1, 0, none⟩ = some (.int .i64 0) := he.at (by go_simp)
      have f1 : w1.cell? ⟨w.heap.size + 1, 1, none⟩ = some (.int .i64 0) := he.at (by go_simp)
      have f2 : w1.cell? ⟨w.heap.size + 1, 2, none⟩ = some (.string ByteArray.empty) := he.at (by go_simp; rfl)
      have z0 : w1.frozen? ⟨w.heap.size + 1, 0, none⟩ = false := (he.frozens _ _ (by go_simp)).trans (by go_simp)
      have z1 : w1.frozen? ⟨w.heap.size + 1, 1, none⟩ = false := (he.frozens _ _ (by go_simp)).trans (by go_simp)
      have z2 : w1.frozen? ⟨w.heap.size + 1, 2, none⟩ = false := (he.frozens _ _ (by go_simp)).trans (by go_simp)
      have hw : Ext w w1 := Ext.trans (by repeat' first | exact Ext.refl _ | assumption | apply Ext.alloc | apply Ext.drew | apply Ext.drewN | (refine Ext.trans ?_ (by assumption))) he
      clear he
      simp only [boolV, Val.v, if_true, Bool.false_eq_true, if_false]
      go_wp2_with fail
      exact bodyPost_ret (v := .agg #[.int .i64 2, .int .i64 0, .string ByteArray.empty]) (by simp [results, Try.results44, go_sem, f0, f1, f2]; done) rfl ⟨rfl, ext_three hw _ (by omega) _ _ _⟩

set_option maxRecDepth 10000 in
set_option maxHeartbeats 1000000 in
theorem rap_or (n : Int) (s : ByteArray) (A : Option Addr) (len cap : Nat) (x y : Val) (vl : Value) (w : World) (hl : Rd w Any (.sl ([x, y].map Val.d)) [vl]) : Calls Try.prog 44 #[.agg #[.int .i64 18, .int .i64 n, .string s, .slice A len cap], vl] w fun r w' => r = .returned (boolV (decide (x.n = 1) || decide (y.n = 1))).v ∧ Ext w w' := by
  obtain ⟨A9, cap9, b9, off9, rfl, q1, q2, q3, q4⟩ := Rd.sl_open hl
  simp only [List.length_map] at *
  obtain ⟨rfl, -⟩ := q3 (by simp)
  obtain ⟨d0, d1, d2, -⟩ := Val.at q4 (k := 0) (by simp)
  obtain ⟨g0, g1, g2, -⟩ := Val.at q4 (k := 1) (by simp)
  simp only [List.getElem_cons_zero, List.getElem_cons_succ, List.length_cons, List.length_nil, Nat.zero_mul, Nat.one_mul, Nat.add_zero, Nat.reduceAdd, Nat.reduceMul, Nat.zero_add] at *
  clear hl q4
  obtain ⟨kx, nx, sx⟩ := x
  obtain ⟨ky, ny, sy⟩ := y
  simp only at *
  replace d0 : ∀ o1 o2, ((w.alloc o1).alloc o2).cell? _ = some _ := fun o1 o2 => (((Ext.refl w).alloc o1).alloc o2).at d0
  replace d1 : ∀ o1 o2, ((w.alloc o1).alloc o2).cell? _ = some _ := fun o1 o2 => (((Ext.refl w).alloc o1).alloc o2).at d1
  replace d2 : ∀ o1 o2, ((w.alloc o1).alloc o2).cell? _ = some _ := fun o1 o2 => (((Ext.refl w).alloc o1).alloc o2).at d2
  replace g0 : ∀ o1 o2 o3, (((w.alloc o1).alloc o2).alloc o3).cell? _ = some _ := fun o1 o2 o3 => ((((Ext.refl w).alloc o1).alloc o2).alloc o3).at g0
  replace g1 : ∀ o1 o2 o3, (((w.alloc o1).alloc o2).alloc o3).cell? _ = some _ := fun o1 o2 o3 => ((((Ext.refl w).alloc o1).alloc o2).alloc o3).at g1
  replace g2 : ∀ o1 o2 o3, (((w.alloc o1).alloc o2).alloc o3).cell? _ = some _ := fun o1 o2 o3 => ((((Ext.refl w).alloc o1).alloc o2).alloc o3).at g2
  by_cases hcx : nx = 1
  · have hbx : (nx == 1) = true := by simp [hcx]
    by_cases hcy : ny = 1
    · have hby : (ny == 1) = true := by simp [hcy]
      have hres : boolV (decide (nx = 1) || decide (ny = 1)) = boolV true := by simp [*]
      rw [hres]; clear hres
      go_enter Try.func44, Try.ntmps44
      go_wp2_with fail
      refine (rtruth_any _ _).mono ?_
      rintro r w1 ⟨rfl, he⟩
      have f0 : w1.cell? ⟨w.heap.size + 1, 0, none⟩ = some (.int .i64 0) := he.at (by go_simp)
      have f1 : w1.cell? ⟨w.heap.size + 1, 1, none⟩ = some (.int .i64 0) := he.at (by go_simp)
      have f2 : w1.cell? ⟨w.heap.size + 1, 2, none⟩ = some (.string ByteArray.empty) := he.at (by go_simp; rfl)
      have z0 : w1.frozen? ⟨w.heap.size + 1, 0, none⟩ = false := (he.frozens _ _ (by go_simp)).trans (by go_simp)
      have z1 : w1.frozen? ⟨w.heap.size + 1, 1, none⟩ = false := (he.frozens _ _ (by go_simp)).trans (by go_simp)
      have z2 : w1.frozen? ⟨w.heap.size + 1, 2, none⟩ = false := (he.frozens _ _ (by go_simp)).trans (by go_simp)
      have hw : Ext w w1 := Ext.trans (by repeat' first | exact Ext.refl _ | assumption | apply Ext.alloc | apply Ext.drew | apply Ext.drewN | (refine Ext.trans ?_ (by assumption))) he
      clear he
      simp only [boolV, Val.v, if_true, Bool.false_eq_true, if_false]
      go_wp2_with fail
      exact bodyPost_ret (v := .agg #[.int .i64 2, .int .i64 1, .string ByteArray.empty]) (by simp [results, Try.results44, go_sem, f0, f1, f2]; done) rfl ⟨rfl, ext_three hw _ (by omega) _ _ _⟩
    · have hby : (ny == 1) = false := by simp [hcy]
      have hres : boolV (decide (nx = 1) || decide (ny = 1)) = boolV true := by simp [*]
      rw [hres]; clear hres
      go_enter Try.func44, Try.ntmps44
      go_wp2_with fail
      refine (rtruth_any _ _).mono ?_
      rintro r w1 ⟨rfl, he⟩
      have f0 : w1.cell? ⟨w.heap.size + 1, 0, none⟩ = some (.int .i64 0) := he.at (by go_simp)
      have f1 : w1.cell? ⟨w.heap.size + 1, 1, none⟩ = some (.int .i64 0) := he.at (by go_simp)
      have f2 : w1.cell? ⟨w.heap.size + 1, 2, none⟩ = some (.string ByteArray.empty) := he.at (by go_simp; rfl)
      have z0 : w1.frozen? ⟨w.heap.size + 1, 0, none⟩ = false := (he.frozens _ _ (by go_simp)).trans (by go_simp)
      have z1 : w1.frozen? ⟨w.heap.size + 1, 1, none⟩ = false := (he.frozens _ _ (by go_simp)).trans (by go_simp)
      have z2 : w1.frozen? ⟨w.heap.size + 1, 2, none⟩ = false := (he.frozens _ _ (by go_simp)).trans (by go_simp)
      have hw : Ext w w1 := Ext.trans (by repeat' first | exact Ext.refl _ | assumption | apply Ext.alloc | apply Ext.drew | apply Ext.drewN | (refine Ext.trans ?_ (by assumption))) he
      clear he
      simp only [boolV, Val.v, if_true, Bool.false_eq_true, if_false]
      go_wp2_with fail
      exact bodyPost_ret (v := .agg #[.int .i64 2, .int .i64 1, .string ByteArray.empty]) (by simp [results, Try.results44, go_sem, f0, f1, f2]; done) rfl ⟨rfl, ext_three hw _ (by omega) _ _ _⟩
  · have hbx : (nx == 1) = false := by simp [hcx]
    by_cases hcy : ny = 1
    · have hby : (ny == 1) = true := by simp [hcy]
      have hres : boolV (decide (nx = 1) || decide (ny = 1)) = boolV true := by simp [*]
      rw [hres]; clear hres
      go_enter Try.func44, Try.ntmps44
      go_wp2_with fail
      refine (rtruth_any _ _).mono ?_
      rintro r w1 ⟨rfl, he⟩
      have f0 : w1.cell? ⟨w.heap.size + 1, 0, none⟩ = some (.int .i64 0) := he.at (by go_simp)
      have f1 : w1.cell? ⟨w.heap.size + 1, 1, none⟩ = some (.int .i64 0) := he.at (by go_simp)
      have f2 : w1.cell? ⟨w.heap.size + 1, 2, none⟩ = some (.string ByteArray.empty) := he.at (by go_simp; rfl)
      have z0 : w1.frozen? ⟨w.heap.size + 1, 0, none⟩ = false := (he.frozens _ _ (by go_simp)).trans (by go_simp)
      have z1 : w1.frozen? ⟨w.heap.size + 1, 1, none⟩ = false := (he.frozens _ _ (by go_simp)).trans (by go_simp)
      have z2 : w1.frozen? ⟨w.heap.size + 1, 2, none⟩ = false := (he.frozens _ _ (by go_simp)).trans (by go_simp)
      have hw : Ext w w1 := Ext.trans (by repeat' first | exact Ext.refl _ | assumption | apply Ext.alloc | apply Ext.drew | apply Ext.drewN | (refine Ext.trans ?_ (by assumption))) he
      clear he
      simp only [boolV, Val.v, if_true, Bool.false_eq_true, if_false]
      go_wp2_with fail
      exact bodyPost_ret (v := .agg #[.int .i64 2, .int .i64 1, .string ByteArray.empty]) (by simp [results, Try.results44, go_sem, f0, f1, f2]; done) rfl ⟨rfl, ext_three hw _ (by omega) _ _ _⟩
    · have hby : (ny == 1) = false := by simp [hcy]
      have hres : boolV (decide (nx = 1) || decide (ny = 1)) = boolV false := by simp [*]
      rw [hres]; clear hres
      go_enter Try.func44, Try.ntmps44
      go_wp2_with fail
      refine (rtruth_any _ _).mono ?_
      rintro r w1 ⟨rfl, he⟩
      have f0 : w1.cell? ⟨w.heap.size + 1, 0, none⟩ = some (.int .i64 0) := he.at (by go_simp)
      have f1 : w1.cell? ⟨w.heap.size + 1, 1, none⟩ = some (.int .i64 0) := he.at (by go_simp)
      have f2 : w1.cell? ⟨w.heap.size + 1, 2, none⟩ = some (.string ByteArray.empty) := he.at (by go_simp; rfl)
      have z0 : w1.frozen? ⟨w.heap.size + 1, 0, none⟩ = false := (he.frozens _ _ (by go_simp)).trans (by go_simp)
      have z1 : w1.frozen? ⟨w.heap.size + 1, 1, none⟩ = false := (he.frozens _ _ (by go_simp)).trans (by go_simp)
      have z2 : w1.frozen? ⟨w.heap.size + 1, 2, none⟩ = false := (he.frozens _ _ (by go_simp)).trans (by go_simp)
      have hw : Ext w w1 := Ext.trans (by repeat' first | exact Ext.refl _ | assumption | apply Ext.alloc | apply Ext.drew | apply Ext.drewN | (refine Ext.trans ?_ (by assumption))) he
      clear he
      simp only [boolV, Val.v, if_true, Bool.false_eq_true, if_false]
      go_wp2_with fail
      exact bodyPost_ret (v := .agg #[.int .i64 2, .int .i64 0, .string ByteArray.empty]) (by simp [results, Try.results44, go_sem, f0, f1, f2]; done) rfl ⟨rfl, ext_three hw _ (by omega) _ _ _⟩

set_option maxRecDepth 10000 in
set_option maxHeartbeats 1000000 in
theorem rap_concat (n : Int) (s : ByteArray) (A : Option Addr) (len cap : Nat) (x y : Val) (vl : Value) (w : World) (hl : Rd w Any (.sl ([x, y].map Val.d)) [vl]) (hz : ¬9223372036854775807 < x.s.size + y.s.size) : Calls Try.prog 44 #[.agg #[.int .i64 19, .int .i64 n, .string s, .slice A len cap], vl] w fun r w' => r = .returned (textV (joinS x.s y.s)).v ∧ Ext w w' := by
  obtain ⟨A9, cap9, b9, off9, rfl, q1, q2, q3, q4⟩ := Rd.sl_open hl
  simp only [List.length_map] at *
  obtain ⟨rfl, -⟩ := q3 (by simp)
  obtain ⟨d0, d1, d2, -⟩ := Val.at q4 (k := 0) (by simp)
  obtain ⟨g0, g1, g2, -⟩ := Val.at q4 (k := 1) (by simp)
  simp only [List.getElem_cons_zero, List.getElem_cons_succ, List.length_cons, List.length_nil, Nat.zero_mul, Nat.one_mul, Nat.add_zero, Nat.reduceAdd, Nat.reduceMul, Nat.zero_add] at *
  clear hl q4
  obtain ⟨kx, nx, sx⟩ := x
  obtain ⟨ky, ny, sy⟩ := y
  simp only at *
  replace d0 : ∀ o1 o2, ((w.alloc o1).alloc o2).cell? _ = some _ := fun o1 o2 => (((Ext.refl w).alloc o1).alloc o2).at d0
  replace d1 : ∀ o1 o2, ((w.alloc o1).alloc o2).cell? _ = some _ := fun o1 o2 => (((Ext.refl w).alloc o1).alloc o2).at d1
  replace d2 : ∀ o1 o2, ((w.alloc o1).alloc o2).cell? _ = some _ := fun o1 o2 => (((Ext.refl w).alloc o1).alloc o2).at d2
  replace g0 : ∀ o1 o2 o3, (((w.alloc o1).alloc o2).alloc o3).cell? _ = some _ := fun o1 o2 o3 => ((((Ext.refl w).alloc o1).alloc o2).alloc o3).at g0
  replace g1 : ∀ o1 o2 o3, (((w.alloc o1).alloc o2).alloc o3).cell? _ = some _ := fun o1 o2 o3 => ((((Ext.refl w).alloc o1).alloc o2).alloc o3).at g1
  replace g2 : ∀ o1 o2 o3, (((w.alloc o1).alloc o2).alloc o3).cell? _ = some _ := fun o1 o2 o3 => ((((Ext.refl w).alloc o1).alloc o2).alloc o3).at g2
  have hj := Lib.hid (show joinS sx sy = (sx ++ sy).extract 0 (min ((sx.size : Int) + sy.size) 200).toNat by
    have : (min ((sx.size : Int) + sy.size) 200).toNat = min (sx.size + sy.size) 200 := by omega
    rw [this]; rfl)
  go_enter Try.func44, Try.ntmps44
  go_wp2_with fail
  exact bodyPost_ret (v := .agg #[.int .i64 1, .int .i64 0, .string ((sx ++ sy).extract 0 (min ((sx.size : Int) + sy.size) 200).toNat)]) (by simp [results, Try.results44, go_sem]) rfl ⟨by simp only [textV, Val.v, hj.out], (by repeat' first | exact Ext.refl _ | assumption | apply Ext.alloc | apply Ext.drew | apply Ext.drewN | (refine Ext.trans ?_ (by assumption)))⟩
end Go.Proofs.Ytmhelkhmgbbfhaa
