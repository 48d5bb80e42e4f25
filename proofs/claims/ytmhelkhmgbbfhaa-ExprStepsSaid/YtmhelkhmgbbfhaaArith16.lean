/- Walks: the operations on pairs of values. (written by gen_arith.py) -/
import Derived.Test.YtmhelkhmgbbfhaaPairs16
namespace Go.Proofs.Ytmhelkhmgbbfhaa
open Go.RowKit Go.Lib

/-- a pair of values, as the methods take it -/
def pairV (a b : Val) : Value := .agg #[.int .i64 a.k, .int .i64 a.n, .string a.s, .int .i64 b.k, .int .i64 b.n, .string b.s]

theorem ext_three {w w1 : World} (hw : Ext w w1) (B : Nat) (hB : w.heap.size ≤ B) (x y z : Value) : Ext w (((w1.setCell ⟨B, 0, none⟩ x).setCell ⟨B, 1, none⟩ y).setCell ⟨B, 2, none⟩ z) :=
  ((hw.setCell hB x).setCell hB y).setCell hB z

def divI (a b : Int) : Int := if b = 0 then 0 else wrap64 (a.tdiv b)
def modI (a b : Int) : Int := if b = 0 then 0 else a.tmod b

set_option maxHeartbeats 1000000 in
theorem add_any (a b : Val) (w : World) : Calls Try.prog 68 #[pairV a b] w fun r w' => r = .returned (numV (wrap64 (a.n + b.n))).v ∧ Ext w w' := by
  simp only [pairV]
  go_enter Try.func68, Try.ntmps68
  go_wp2_with fail
  refine (number_any _ _).mono ?_
  rintro r w1 ⟨rfl, he⟩
  have f0 : w1.cell? ⟨w.heap.size + 1, 0, none⟩ = some (.int .i64 0) := he.at (by go_simp)
  have f1 : w1.cell? ⟨w.heap.size + 1, 1, none⟩ = some (.int .i64 0) := he.at (by go_simp)
  have f2 : w1.cell? ⟨w.heap.size + 1, 2, none⟩ = some (.string ByteArray.empty) := he.at (by go_simp; rfl)
  have z0 : w1.frozen? ⟨w.heap.size + 1, 0, none⟩ = false := (he.frozens _ _ (by go_simp)).trans (by go_simp)
  have z1 : w1.frozen? ⟨w.heap.size + 1, 1, none⟩ = false := (he.frozens _ _ (by go_simp)).trans (by go_simp)
  have z2 : w1.frozen? ⟨w.heap.size + 1, 2, none⟩ = false := (he.frozens _ _ (by go_simp)).trans (by go_simp)
  have hw : Ext w w1 := ((Ext.refl w).alloc _ |>.alloc _).trans he
  clear he
  simp only [numV, Val.v]
  go_wp2_with fail
  exact bodyPost_ret (v := .agg #[.int .i64 0, .int .i64 (wrap64 (a.n + b.n)), .string ByteArray.empty]) (by simp [results, Try.results68, go_sem, f0, f1, f2]; done) rfl ⟨rfl, ext_three hw _ (by omega) _ _ _⟩

set_option maxHeartbeats 1000000 in
theorem sub_any (a b : Val) (w : World) : Calls Try.prog 69 #[pairV a b] w fun r w' => r = .returned (numV (wrap64 (a.n - b.n))).v ∧ Ext w w' := by
  simp only [pairV]
  go_enter Try.func69, Try.ntmps69
  go_wp2_with fail
  refine (number_any _ _).mono ?_
  rintro r w1 ⟨rfl, he⟩
  have f0 : w1.cell? ⟨w.heap.size + 1, 0, none⟩ = some (.int .i64 0) := he.at (by go_simp)
  have f1 : w1.cell? ⟨w.heap.size + 1, 1, none⟩ = some (.int .i64 0) := he.at (by go_simp)
  have f2 : w1.cell? ⟨w.heap.size + 1, 2, none⟩ = some (.string ByteArray.empty) := he.at (by go_simp; rfl)
  have z0 : w1.frozen? ⟨w.heap.size + 1, 0, none⟩ = false := (he.frozens _ _ (by go_simp)).trans (by go_simp)
  have z1 : w1.frozen? ⟨w.heap.size + 1, 1, none⟩ = false := (he.frozens _ _ (by go_simp)).trans (by go_simp)
  have z2 : w1.frozen? ⟨w.heap.size + 1, 2, none⟩ = false := (he.frozens _ _ (by go_simp)).trans (by go_simp)
  have hw : Ext w w1 := ((Ext.refl w).alloc _ |>.alloc _).trans he
  clear he
  simp only [numV, Val.v]
  go_wp2_with fail
  exact bodyPost_ret (v := .agg #[.int .i64 0, .int .i64 (wrap64 (a.n - b.n)), .string ByteArray.empty]) (by simp [results, Try.results69, go_sem, f0, f1, f2]; done) rfl ⟨rfl, ext_three hw _ (by omega) _ _ _⟩

set_option maxHeartbeats 1000000 in
theorem mul_any (a b : Val) (w : World) : Calls Try.prog 70 #[pairV a b] w fun r w' => r = .returned (numV (wrap64 (a.n * b.n))).v ∧ Ext w w' := by
  simp only [pairV]
  go_enter Try.func70, Try.ntmps70
  go_wp2_with fail
  refine (number_any _ _).mono ?_
  rintro r w1 ⟨rfl, he⟩
  have f0 : w1.cell? ⟨w.heap.size + 1, 0, none⟩ = some (.int .i64 0) := he.at (by go_simp)
  have f1 : w1.cell? ⟨w.heap.size + 1, 1, none⟩ = some (.int .i64 0) := he.at (by go_simp)
  have f2 : w1.cell? ⟨w.heap.size + 1, 2, none⟩ = some (.string ByteArray.empty) := he.at (by go_simp; rfl)
  have z0 : w1.frozen? ⟨w.heap.size + 1, 0, none⟩ = false := (he.frozens _ _ (by go_simp)).trans (by go_simp)
  have z1 : w1.frozen? ⟨w.heap.size + 1, 1, none⟩ = false := (he.frozens _ _ (by go_simp)).trans (by go_simp)
  have z2 : w1.frozen? ⟨w.heap.size + 1, 2, none⟩ = false := (he.frozens _ _ (by go_simp)).trans (by go_simp)
  have hw : Ext w w1 := ((Ext.refl w).alloc _ |>.alloc _).trans he
  clear he
  simp only [numV, Val.v]
  go_wp2_with fail
  exact bodyPost_ret (v := .agg #[.int .i64 0, .int .i64 (wrap64 (a.n * b.n)), .string ByteArray.empty]) (by simp [results, Try.results70, go_sem, f0, f1, f2]; done) rfl ⟨rfl, ext_three hw _ (by omega) _ _ _⟩

set_option maxHeartbeats 1000000 in
theorem div_any (a b : Val) (w : World) : Calls Try.prog 71 #[pairV a b] w fun r w' => r = .returned (numV (divI a.n b.n)).v ∧ Ext w w' := by
  simp only [pairV]
  by_cases hb : b.n = 0
  · have hd : (b.n == 0) = true := by simp [hb]
    have hr : divI a.n b.n = 0 := by simp [divI, hb]
    rw [hr]
    clear hb hr
    go_enter Try.func71, Try.ntmps71
    go_wp2_with fail
    refine (number_any _ _).mono ?_
    rintro r w1 ⟨rfl, he⟩
    have f0 : w1.cell? ⟨w.heap.size + 1, 0, none⟩ = some (.int .i64 0) := he.at (by go_simp)
    have f1 : w1.cell? ⟨w.heap.size + 1, 1, none⟩ = some (.int .i64 0) := he.at (by go_simp)
    have f2 : w1.cell? ⟨w.heap.size + 1, 2, none⟩ = some (.string ByteArray.empty) := he.at (by go_simp; rfl)
    have z0 : w1.frozen? ⟨w.heap.size + 1, 0, none⟩ = false := (he.frozens _ _ (by go_simp)).trans (by go_simp)
    have z1 : w1.frozen? ⟨w.heap.size + 1, 1, none⟩ = false := (he.frozens _ _ (by go_simp)).trans (by go_simp)
    have z2 : w1.frozen? ⟨w.heap.size + 1, 2, none⟩ = false := (he.frozens _ _ (by go_simp)).trans (by go_simp)
    have hw : Ext w w1 := ((Ext.refl w).alloc _ |>.alloc _).trans he
    clear he
    simp only [numV, Val.v]
    go_wp2_with fail
    exact bodyPost_ret (v := .agg #[.int .i64 0, .int .i64 0, .string ByteArray.empty]) (by simp [results, Try.results71, go_sem, f0, f1, f2]; done) rfl ⟨rfl, ext_three hw _ (by omega) _ _ _⟩
  · have hd : (b.n == 0) = false := by simp [hb]
    have hr : divI a.n b.n = wrap64 (a.n.tdiv b.n) := by simp [divI, hb]
    rw [hr]
    clear hr
    go_enter Try.func71, Try.ntmps71
    go_wp2_with fail
    refine (number_any _ _).mono ?_
    rintro r w1 ⟨rfl, he⟩
    have f0 : w1.cell? ⟨w.heap.size + 1, 0, none⟩ = some (.int .i64 0) := he.at (by go_simp)
    have f1 : w1.cell? ⟨w.heap.size + 1, 1, none⟩ = some (.int .i64 0) := he.at (by go_simp)
    have f2 : w1.cell? ⟨w.heap.size + 1, 2, none⟩ = some (.string ByteArray.empty) := he.at (by go_simp; rfl)
    have z0 : w1.frozen? ⟨w.heap.size + 1, 0, none⟩ = false := (he.frozens _ _ (by go_simp)).trans (by go_simp)
    have z1 : w1.frozen? ⟨w.heap.size + 1, 1, none⟩ = false := (he.frozens _ _ (by go_simp)).trans (by go_simp)
    have z2 : w1.frozen? ⟨w.heap.size + 1, 2, none⟩ = false := (he.frozens _ _ (by go_simp)).trans (by go_simp)
    have hw : Ext w w1 := ((Ext.refl w).alloc _ |>.alloc _).trans he
    clear he
    simp only [numV, Val.v]
    go_wp2_with fail
    exact bodyPost_ret (v := .agg #[.int .i64 0, .int .i64 (wrap64 (a.n.tdiv b.n)), .string ByteArray.empty]) (by simp [results, Try.results71, go_sem, f0, f1, f2]; done) rfl ⟨rfl, ext_three hw _ (by omega) _ _ _⟩

set_option maxHeartbeats 1000000 in
theorem mod_any (a b : Val) (w : World) : Calls Try.prog 72 #[pairV a b] w fun r w' => r = .returned (numV (modI a.n b.n)).v ∧ Ext w w' := by
  simp only [pairV]
  by_cases hb : b.n = 0
  · have hd : (b.n == 0) = true := by simp [hb]
    have hr : modI a.n b.n = 0 := by simp [modI, hb]
    rw [hr]
    clear hb hr
    go_enter Try.func72, Try.ntmps72
    go_wp2_with fail
    refine (number_any _ _).mono ?_
    rintro r w1 ⟨rfl, he⟩
    have f0 : w1.cell? ⟨w.heap.size + 1, 0, none⟩ = some (.int .i64 0) := he.at (by go_simp)
    have f1 : w1.cell? ⟨w.heap.size + 1, 1, none⟩ = some (.int .i64 0) := he.at (by go_simp)
    have f2 : w1.cell? ⟨w.heap.size + 1, 2, none⟩ = some (.string ByteArray.empty) := he.at (by go_simp; rfl)
    have z0 : w1.frozen? ⟨w.heap.size + 1, 0, none⟩ = false := (he.frozens _ _ (by go_simp)).trans (by go_simp)
    have z1 : w1.frozen? ⟨w.heap.size + 1, 1, none⟩ = false := (he.frozens _ _ (by go_simp)).trans (by go_simp)
    have z2 : w1.frozen? ⟨w.heap.size + 1, 2, none⟩ = false := (he.frozens _ _ (by go_simp)).trans (by go_simp)
    have hw : Ext w w1 := ((Ext.refl w).alloc _ |>.alloc _).trans he
    clear he
    simp only [numV, Val.v]
    go_wp2_with fail
    exact bodyPost_ret (v := .agg #[.int .i64 0, .int .i64 0, .string ByteArray.empty]) (by simp [results, Try.results72, go_sem, f0, f1, f2]; done) rfl ⟨rfl, ext_three hw _ (by omega) _ _ _⟩
  · have hd : (b.n == 0) = false := by simp [hb]
    have hr : modI a.n b.n = a.n.tmod b.n := by simp [modI, hb]
    rw [hr]
    clear hr
    go_enter Try.func72, Try.ntmps72
    go_wp2_with fail
    refine (number_any _ _).mono ?_
    rintro r w1 ⟨rfl, he⟩
    have f0 : w1.cell? ⟨w.heap.size + 1, 0, none⟩ = some (.int .i64 0) := he.at (by go_simp)
    have f1 : w1.cell? ⟨w.heap.size + 1, 1, none⟩ = some (.int .i64 0) := he.at (by go_simp)
    have f2 : w1.cell? ⟨w.heap.size + 1, 2, none⟩ = some (.string ByteArray.empty) := he.at (by go_simp; rfl)
    have z0 : w1.frozen? ⟨w.heap.size + 1, 0, none⟩ = false := (he.frozens _ _ (by go_simp)).trans (by go_simp)
    have z1 : w1.frozen? ⟨w.heap.size + 1, 1, none⟩ = false := (he.frozens _ _ (by go_simp)).trans (by go_simp)
    have z2 : w1.frozen? ⟨w.heap.size + 1, 2, none⟩ = false := (he.frozens _ _ (by go_simp)).trans (by go_simp)
    have hw : Ext w w1 := ((Ext.refl w).alloc _ |>.alloc _).trans he
    clear he
    simp only [numV, Val.v]
    go_wp2_with fail
    exact bodyPost_ret (v := .agg #[.int .i64 0, .int .i64 (a.n.tmod b.n), .string ByteArray.empty]) (by simp [results, Try.results72, go_sem, f0, f1, f2]; done) rfl ⟨rfl, ext_three hw _ (by omega) _ _ _⟩

def eqV (a b : Val) : Bool := decide (a.k = b.k ∧ a.n = b.n ∧ a.s.toList = b.s.toList)

set_option maxHeartbeats 1000000 in
theorem eq_any (a b : Val) (w : World) : Calls Try.prog 73 #[pairV a b] w fun r w' => r = .returned (boolV (eqV a b)).v ∧ Ext w w' := by
  simp only [pairV]
  go_enter Try.func73, Try.ntmps73
  go_wp2_with fail
  all_goals
    refine (truth_any _ _).mono ?_
    rintro r w1 ⟨rfl, he⟩
    have f0 : w1.cell? ⟨w.heap.size + 1, 0, none⟩ = some (.int .i64 0) := he.at (by go_simp)
    have f1 : w1.cell? ⟨w.heap.size + 1, 1, none⟩ = some (.int .i64 0) := he.at (by go_simp)
    have f2 : w1.cell? ⟨w.heap.size + 1, 2, none⟩ = some (.string ByteArray.empty) := he.at (by go_simp; rfl)
    have z0 : w1.frozen? ⟨w.heap.size + 1, 0, none⟩ = false := (he.frozens _ _ (by go_simp)).trans (by go_simp)
    have z1 : w1.frozen? ⟨w.heap.size + 1, 1, none⟩ = false := (he.frozens _ _ (by go_simp)).trans (by go_simp)
    have z2 : w1.frozen? ⟨w.heap.size + 1, 2, none⟩ = false := (he.frozens _ _ (by go_simp)).trans (by go_simp)
    have hw : Ext w w1 := ((Ext.refl w).alloc _ |>.alloc _).trans he
    clear he
    simp only [boolV, Val.v]
    go_wp2_with fail
    first
      | (refine bodyPost_ret (v := .agg #[.int .i64 2, .int .i64 1, .string ByteArray.empty]) ?_ rfl ⟨?_, ext_three hw _ (by omega) _ _ _⟩
         · simp [results, Try.results73, go_sem, f0, f1, f2]
         · simp [boolV, Val.v, eqV, *])
      | (refine bodyPost_ret (v := .agg #[.int .i64 2, .int .i64 0, .string ByteArray.empty]) ?_ rfl ⟨?_, ext_three hw _ (by omega) _ _ _⟩
         · simp [results, Try.results73, go_sem, f0, f1, f2]
         · simp [boolV, Val.v, eqV, *])

set_option maxHeartbeats 1000000 in
theorem ne_any (a b : Val) (w : World) : Calls Try.prog 74 #[pairV a b] w fun r w' => r = .returned (boolV (!eqV a b)).v ∧ Ext w w' := by
  simp only [pairV]
  go_enter Try.func74, Try.ntmps74
  go_wp2_with fail
  all_goals
    refine (truth_any _ _).mono ?_
    rintro r w1 ⟨rfl, he⟩
    have f0 : w1.cell? ⟨w.heap.size + 1, 0, none⟩ = some (.int .i64 0) := he.at (by go_simp)
    have f1 : w1.cell? ⟨w.heap.size + 1, 1, none⟩ = some (.int .i64 0) := he.at (by go_simp)
    have f2 : w1.cell? ⟨w.heap.size + 1, 2, none⟩ = some (.string ByteArray.empty) := he.at (by go_simp; rfl)
    have z0 : w1.frozen? ⟨w.heap.size + 1, 0, none⟩ = false := (he.frozens _ _ (by go_simp)).trans (by go_simp)
    have z1 : w1.frozen? ⟨w.heap.size + 1, 1, none⟩ = false := (he.frozens _ _ (by go_simp)).trans (by go_simp)
    have z2 : w1.frozen? ⟨w.heap.size + 1, 2, none⟩ = false := (he.frozens _ _ (by go_simp)).trans (by go_simp)
    have hw : Ext w w1 := ((Ext.refl w).alloc _ |>.alloc _).trans he
    clear he
    simp only [boolV, Val.v]
    go_wp2_with fail
    first
      | (refine bodyPost_ret (v := .agg #[.int .i64 2, .int .i64 1, .string ByteArray.empty]) ?_ rfl ⟨?_, ext_three hw _ (by omega) _ _ _⟩
         · simp [results, Try.results74, go_sem, f0, f1, f2]
         · simp [boolV, Val.v, eqV, *])
      | (refine bodyPost_ret (v := .agg #[.int .i64 2, .int .i64 0, .string ByteArray.empty]) ?_ rfl ⟨?_, ext_three hw _ (by omega) _ _ _⟩
         · simp [results, Try.results74, go_sem, f0, f1, f2]
         · simp [boolV, Val.v, eqV, *])

set_option maxHeartbeats 1000000 in
theorem lt_any (a b : Val) (w : World) : Calls Try.prog 75 #[pairV a b] w fun r w' => r = .returned (boolV (decide (cmpV a b < 0))).v ∧ Ext w w' := by
  simp only [pairV]
  go_enter Try.func75, Try.ntmps75
  go_wp2_with fail
  have hc := compare_any a b
  simp only [Val.v] at hc
  refine (hc _).mono ?_
  rintro r w0 ⟨rfl, he0⟩
  clear hc
  go_wp2_with fail
  refine (truth_any _ _).mono ?_
  rintro r w1 ⟨rfl, he⟩
  replace he := he0.trans he
  clear he0
  have f0 : w1.cell? ⟨w.heap.size + 1, 0, none⟩ = some (.int .i64 0) := he.at (by go_simp)
  have f1 : w1.cell? ⟨w.heap.size + 1, 1, none⟩ = some (.int .i64 0) := he.at (by go_simp)
  have f2 : w1.cell? ⟨w.heap.size + 1, 2, none⟩ = some (.string ByteArray.empty) := he.at (by go_simp; rfl)
  have z0 : w1.frozen? ⟨w.heap.size + 1, 0, none⟩ = false := (he.frozens _ _ (by go_simp)).trans (by go_simp)
  have z1 : w1.frozen? ⟨w.heap.size + 1, 1, none⟩ = false := (he.frozens _ _ (by go_simp)).trans (by go_simp)
  have z2 : w1.frozen? ⟨w.heap.size + 1, 2, none⟩ = false := (he.frozens _ _ (by go_simp)).trans (by go_simp)
  have hw : Ext w w1 := ((Ext.refl w).alloc _ |>.alloc _).trans he
  clear he
  cases hcc : decide (cmpV a b < 0)
  all_goals
    simp only [boolV, Val.v]
    go_wp2_with fail
    first
      | (refine bodyPost_ret (v := .agg #[.int .i64 2, .int .i64 1, .string ByteArray.empty]) ?_ rfl ⟨?_, ext_three hw _ (by omega) _ _ _⟩
         · simp [results, Try.results75, go_sem, f0, f1, f2]
         · simp [boolV, Val.v, hcc])
      | (refine bodyPost_ret (v := .agg #[.int .i64 2, .int .i64 0, .string ByteArray.empty]) ?_ rfl ⟨?_, ext_three hw _ (by omega) _ _ _⟩
         · simp [results, Try.results75, go_sem, f0, f1, f2]
         · simp [boolV, Val.v, hcc])

set_option maxHeartbeats 1000000 in
theorem le_any (a b : Val) (w : World) : Calls Try.prog 76 #[pairV a b] w fun r w' => r = .returned (boolV (decide (cmpV a b ≤ 0))).v ∧ Ext w w' := by
  simp only [pairV]
  go_enter Try.func76, Try.ntmps76
  go_wp2_with fail
  have hc := compare_any a b
  simp only [Val.v] at hc
  refine (hc _).mono ?_
  rintro r w0 ⟨rfl, he0⟩
  clear hc
  go_wp2_with fail
  refine (truth_any _ _).mono ?_
  rintro r w1 ⟨rfl, he⟩
  replace he := he0.trans he
  clear he0
  have f0 : w1.cell? ⟨w.heap.size + 1, 0, none⟩ = some (.int .i64 0) := he.at (by go_simp)
  have f1 : w1.cell? ⟨w.heap.size + 1, 1, none⟩ = some (.int .i64 0) := he.at (by go_simp)
  have f2 : w1.cell? ⟨w.heap.size + 1, 2, none⟩ = some (.string ByteArray.empty) := he.at (by go_simp; rfl)
  have z0 : w1.frozen? ⟨w.heap.size + 1, 0, none⟩ = false := (he.frozens _ _ (by go_simp)).trans (by go_simp)
  have z1 : w1.frozen? ⟨w.heap.size + 1, 1, none⟩ = false := (he.frozens _ _ (by go_simp)).trans (by go_simp)
  have z2 : w1.frozen? ⟨w.heap.size + 1, 2, none⟩ = false := (he.frozens _ _ (by go_simp)).trans (by go_simp)
  have hw : Ext w w1 := ((Ext.refl w).alloc _ |>.alloc _).trans he
  clear he
  cases hcc : decide (cmpV a b ≤ 0)
  all_goals
    simp only [boolV, Val.v]
    go_wp2_with fail
    first
      | (refine bodyPost_ret (v := .agg #[.int .i64 2, .int .i64 1, .string ByteArray.empty]) ?_ rfl ⟨?_, ext_three hw _ (by omega) _ _ _⟩
         · simp [results, Try.results76, go_sem, f0, f1, f2]
         · simp [boolV, Val.v, hcc])
      | (refine bodyPost_ret (v := .agg #[.int .i64 2, .int .i64 0, .string ByteArray.empty]) ?_ rfl ⟨?_, ext_three hw _ (by omega) _ _ _⟩
         · simp [results, Try.results76, go_sem, f0, f1, f2]
         · simp [boolV, Val.v, hcc])

set_option maxHeartbeats 1000000 in
theorem both_any (a b : Val) (w : World) : Calls Try.prog 77 #[pairV a b] w fun r w' => r = .returned (boolV (decide (a.n = 1) && decide (b.n = 1))).v ∧ Ext w w' := by
  simp only [pairV]
  by_cases h1 : a.n = 1 <;> by_cases h2 : b.n = 1
  all_goals
    have g1 : (a.n == 1) = decide (a.n = 1) := rfl
    have g2 : (b.n == 1) = decide (b.n = 1) := rfl
    simp only [h1, h2, decide_true, decide_false] at g1 g2
    simp only [h1, h2, decide_true, decide_false]
    go_enter Try.func77, Try.ntmps77
    go_wp2_with fail
    refine (truth_any _ _).mono ?_
    rintro r w1 ⟨rfl, he⟩
    have f0 : w1.cell? ⟨w.heap.size + 1, 0, none⟩ = some (.int .i64 0) := he.at (by go_simp)
    have f1 : w1.cell? ⟨w.heap.size + 1, 1, none⟩ = some (.int .i64 0) := he.at (by go_simp)
    have f2 : w1.cell? ⟨w.heap.size + 1, 2, none⟩ = some (.string ByteArray.empty) := he.at (by go_simp; rfl)
    have z0 : w1.frozen? ⟨w.heap.size + 1, 0, none⟩ = false := (he.frozens _ _ (by go_simp)).trans (by go_simp)
    have z1 : w1.frozen? ⟨w.heap.size + 1, 1, none⟩ = false := (he.frozens _ _ (by go_simp)).trans (by go_simp)
    have z2 : w1.frozen? ⟨w.heap.size + 1, 2, none⟩ = false := (he.frozens _ _ (by go_simp)).trans (by go_simp)
    have hw : Ext w w1 := ((Ext.refl w).alloc _ |>.alloc _).trans he
    clear he
    simp only [boolV, Val.v]
    go_wp2_with fail
    first
      | (refine bodyPost_ret (v := .agg #[.int .i64 2, .int .i64 1, .string ByteArray.empty]) ?_ rfl ⟨?_, ext_three hw _ (by omega) _ _ _⟩
         · simp [results, Try.results77, go_sem, f0, f1, f2]
         · simp [boolV, Val.v, eqV, *])
      | (refine bodyPost_ret (v := .agg #[.int .i64 2, .int .i64 0, .string ByteArray.empty]) ?_ rfl ⟨?_, ext_three hw _ (by omega) _ _ _⟩
         · simp [results, Try.results77, go_sem, f0, f1, f2]
         · simp [boolV, Val.v, eqV, *])

set_option maxHeartbeats 1000000 in
theorem any_any (a b : Val) (w : World) : Calls Try.prog 78 #[pairV a b] w fun r w' => r = .returned (boolV (decide (a.n = 1) || decide (b.n = 1))).v ∧ Ext w w' := by
  simp only [pairV]
  by_cases h1 : a.n = 1 <;> by_cases h2 : b.n = 1
  all_goals
    have g1 : (a.n == 1) = decide (a.n = 1) := rfl
    have g2 : (b.n == 1) = decide (b.n = 1) := rfl
    simp only [h1, h2, decide_true, decide_false] at g1 g2
    simp only [h1, h2, decide_true, decide_false]
    go_enter Try.func78, Try.ntmps78
    go_wp2_with fail
    refine (truth_any _ _).mono ?_
    rintro r w1 ⟨rfl, he⟩
    have f0 : w1.cell? ⟨w.heap.size + 1, 0, none⟩ = some (.int .i64 0) := he.at (by go_simp)
    have f1 : w1.cell? ⟨w.heap.size + 1, 1, none⟩ = some (.int .i64 0) := he.at (by go_simp)
    have f2 : w1.cell? ⟨w.heap.size + 1, 2, none⟩ = some (.string ByteArray.empty) := he.at (by go_simp; rfl)
    have z0 : w1.frozen? ⟨w.heap.size + 1, 0, none⟩ = false := (he.frozens _ _ (by go_simp)).trans (by go_simp)
    have z1 : w1.frozen? ⟨w.heap.size + 1, 1, none⟩ = false := (he.frozens _ _ (by go_simp)).trans (by go_simp)
    have z2 : w1.frozen? ⟨w.heap.size + 1, 2, none⟩ = false := (he.frozens _ _ (by go_simp)).trans (by go_simp)
    have hw : Ext w w1 := ((Ext.refl w).alloc _ |>.alloc _).trans he
    clear he
    simp only [boolV, Val.v]
    go_wp2_with fail
    first
      | (refine bodyPost_ret (v := .agg #[.int .i64 2, .int .i64 1, .string ByteArray.empty]) ?_ rfl ⟨?_, ext_three hw _ (by omega) _ _ _⟩
         · simp [results, Try.results78, go_sem, f0, f1, f2]
         · simp [boolV, Val.v, eqV, *])
      | (refine bodyPost_ret (v := .agg #[.int .i64 2, .int .i64 0, .string ByteArray.empty]) ?_ rfl ⟨?_, ext_three hw _ (by omega) _ _ _⟩
         · simp [results, Try.results78, go_sem, f0, f1, f2]
         · simp [boolV, Val.v, eqV, *])

/-- two texts in one, of at most 200 bytes -/
def joinS (a b : ByteArray) : ByteArray := (a ++ b).extract 0 (min (a.size + b.size) 200)

set_option maxHeartbeats 1000000 in
theorem join_any (a b : Val) (hz : ¬9223372036854775807 < a.s.size + b.s.size) (w : World) : Calls Try.prog 79 #[pairV a b] w fun r w' => r = .returned (textV (joinS a.s b.s)).v ∧ Ext w w' := by
  simp only [pairV]
  have hj := Lib.hid (show joinS a.s b.s = (a.s ++ b.s).extract 0 (min ((a.s.size : Int) + b.s.size) 200).toNat by
    have : (min ((a.s.size : Int) + b.s.size) 200).toNat = min (a.s.size + b.s.size) 200 := by omega
    rw [this]; rfl)
  go_enter Try.func79, Try.ntmps79
  go_wp2_with fail
  exact bodyPost_ret (v := .agg #[.int .i64 1, .int .i64 0, .string ((a.s ++ b.s).extract 0 (min ((a.s.size : Int) + b.s.size) 200).toNat)]) (by simp [results, Try.results79, go_sem]) rfl ⟨by simp only [textV, Val.v, hj.out], (by repeat' first | exact Ext.refl _ | assumption | apply Ext.alloc | apply Ext.drew | apply Ext.drewN | (refine Ext.trans ?_ (by assumption)))⟩
end Go.Proofs.Ytmhelkhmgbbfhaa
