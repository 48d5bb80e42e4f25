/- Walks: the operations on pairs of values. (written by gen_arith.py) -/
import Derived.Test.YtnkimlkoijfcpaaGreatDoorRows
import Derived.Test.YtnkimlkoijfcpaaGreatDoorGe2
set_option linter.unusedSimpArgs false
set_option linter.unusedVariables false
namespace Go.Proofs.YtnkimlkoijfcpaaGreatDoor
open Go.RowKit Go.Lib
def pairV (a b : Val) : Value := .agg #[.int .i64 a.k, .int .i64 a.n, .string a.s, .int .i64 b.k, .int .i64 b.n, .string b.s]
theorem qs {w w1 : World} (hw : Ext w w1) (B : Nat) (hB : w.heap.size ≤ B) (x y z : Value) : Ext w (((w1.setCell ⟨B, 0, none⟩ x).setCell ⟨B, 1, none⟩ y).setCell ⟨B, 2, none⟩ z) :=
  ((hw.setCell hB x).setCell hB y).setCell hB z
def divI (a b : Int) : Int := if b = 0 then 0 else wrap64 (a.tdiv b)
def modI (a b : Int) : Int := if b = 0 then 0 else a.tmod b
set_option maxHeartbeats 1000000 in
theorem add_any (a b : Val) (w : World) : Calls Tryz.prog 99 #[pairV a b] w fun r w' => r = .returned (numV (wrap64 (a.n + b.n))).v ∧ Ext w w' := by
  simp only [pairV]
  go_enter Tryz.func99, Tryz.ntmps99
  go_wp2_with fail
  refine (qbv _ _).mono ?_
  rintro r w1 ⟨rfl, he⟩
  have f0 : w1.cell? ⟨w.heap.size + 1, 0, none⟩ = some (.int .i64 0) := he.at (by go_simp)
  have f1 : w1.cell? ⟨w.heap.size + 1, 1, none⟩ = some (.int .i64 0) := he.at (by go_simp)
  have f2 : w1.cell? ⟨w.heap.size + 1, 2, none⟩ = some (.string ByteArray.empty) := he.at (by go_simp; rfl)
  have z0 : w1.frozen? ⟨w.heap.size + 1, 0, none⟩ = false := (he.frozens _ _ (by go_simp)).trans (by go_simp)
  have z1 : w1.frozen? ⟨w.heap.size + 1, 1, none⟩ = false := (he.frozens _ _ (by go_simp)).trans (by go_simp)
  have z2 : w1.frozen? ⟨w.heap.size + 1, 2, none⟩ = false := (he.frozens _ _ (by go_simp)).trans (by go_simp)
  have hw : Ext w w1 := ((Ext.refl w).alloc _ |>.alloc _).trans he
  clear he
  simp only [numV, Val.v]
  go_wp2_with fail
  exact bodyPost_ret (v := .agg #[.int .i64 0, .int .i64 (wrap64 (a.n + b.n)), .string ByteArray.empty]) (by simp [results, Tryz.results99, go_sem, f0, f1, f2]; done) rfl ⟨rfl, qs hw _ (by omega) _ _ _⟩
set_option maxHeartbeats 1000000 in
theorem sub_any (a b : Val) (w : World) : Calls Tryz.prog 100 #[pairV a b] w fun r w' => r = .returned (numV (wrap64 (a.n - b.n))).v ∧ Ext w w' := by
  simp only [pairV]
  go_enter Tryz.func100, Tryz.ntmps100
  go_wp2_with fail
  refine (qbv _ _).mono ?_
  rintro r w1 ⟨rfl, he⟩
  have f0 : w1.cell? ⟨w.heap.size + 1, 0, none⟩ = some (.int .i64 0) := he.at (by go_simp)
  have f1 : w1.cell? ⟨w.heap.size + 1, 1, none⟩ = some (.int .i64 0) := he.at (by go_simp)
  have f2 : w1.cell? ⟨w.heap.size + 1, 2, none⟩ = some (.string ByteArray.empty) := he.at (by go_simp; rfl)
  have z0 : w1.frozen? ⟨w.heap.size + 1, 0, none⟩ = false := (he.frozens _ _ (by go_simp)).trans (by go_simp)
  have z1 : w1.frozen? ⟨w.heap.size + 1, 1, none⟩ = false := (he.frozens _ _ (by go_simp)).trans (by go_simp)
  have z2 : w1.frozen? ⟨w.heap.size + 1, 2, none⟩ = false := (he.frozens _ _ (by go_simp)).trans (by go_simp)
  have hw : Ext w w1 := ((Ext.refl w).alloc _ |>.alloc _).trans he
  clear he
  simp only [numV, Val.v]
  go_wp2_with fail
  exact bodyPost_ret (v := .agg #[.int .i64 0, .int .i64 (wrap64 (a.n - b.n)), .string ByteArray.empty]) (by simp [results, Tryz.results100, go_sem, f0, f1, f2]; done) rfl ⟨rfl, qs hw _ (by omega) _ _ _⟩
set_option maxHeartbeats 1000000 in
theorem mul_any (a b : Val) (w : World) : Calls Tryz.prog 101 #[pairV a b] w fun r w' => r = .returned (numV (wrap64 (a.n * b.n))).v ∧ Ext w w' := by
  simp only [pairV]
  go_enter Tryz.func101, Tryz.ntmps101
  go_wp2_with fail
  refine (qbv _ _).mono ?_
  rintro r w1 ⟨rfl, he⟩
  have f0 : w1.cell? ⟨w.heap.size + 1, 0, none⟩ = some (.int .i64 0) := he.at (by go_simp)
  have f1 : w1.cell? ⟨w.heap.size + 1, 1, none⟩ = some (.int .i64 0) := he.at (by go_simp)
  have f2 : w1.cell? ⟨w.heap.size + 1, 2, none⟩ = some (.string ByteArray.empty) := he.at (by go_simp; rfl)
  have z0 : w1.frozen? ⟨w.heap.size + 1, 0, none⟩ = false := (he.frozens _ _ (by go_simp)).trans (by go_simp)
  have z1 : w1.frozen? ⟨w.heap.size + 1, 1, none⟩ = false := (he.frozens _ _ (by go_simp)).trans (by go_simp)
  have z2 : w1.frozen? ⟨w.heap.size + 1, 2, none⟩ = false := (he.frozens _ _ (by go_simp)).trans (by go_simp)
  have hw : Ext w w1 := ((Ext.refl w).alloc _ |>.alloc _).trans he
  clear he
  simp only [numV, Val.v]
  go_wp2_with fail
  exact bodyPost_ret (v := .agg #[.int .i64 0, .int .i64 (wrap64 (a.n * b.n)), .string ByteArray.empty]) (by simp [results, Tryz.results101, go_sem, f0, f1, f2]; done) rfl ⟨rfl, qs hw _ (by omega) _ _ _⟩
set_option maxHeartbeats 1000000 in
theorem div_any (a b : Val) (w : World) : Calls Tryz.prog 102 #[pairV a b] w fun r w' => r = .returned (numV (divI a.n b.n)).v ∧ Ext w w' := by
  simp only [pairV]
  by_cases hb : b.n = 0
  · have hd : (b.n == 0) = true := by simp [hb]
    have hr : divI a.n b.n = 0 := by simp [divI, hb]
    rw [hr]
    clear hb hr
    go_enter Tryz.func102, Tryz.ntmps102
    go_wp2_with fail
    refine (qbv _ _).mono ?_
    rintro r w1 ⟨rfl, he⟩
    have f0 : w1.cell? ⟨w.heap.size + 1, 0, none⟩ = some (.int .i64 0) := he.at (by go_simp)
    have f1 : w1.cell? ⟨w.heap.size + 1, 1, none⟩ = some (.int .i64 0) := he.at (by go_simp)
    have f2 : w1.cell? ⟨w.heap.size + 1, 2, none⟩ = some (.string ByteArray.empty) := he.at (by go_simp; rfl)
    have z0 : w1.frozen? ⟨w.heap.size + 1, 0, none⟩ = false := (he.frozens _ _ (by go_simp)).trans (by go_simp)
    have z1 : w1.frozen? ⟨w.heap.size + 1, 1, none⟩ = false := (he.frozens _ _ (by go_simp)).trans (by go_simp)
    have z2 : w1.frozen? ⟨w.heap.size + 1, 2, none⟩ = false := (he.frozens _ _ (by go_simp)).trans (by go_simp)
    have hw : Ext w w1 := ((Ext.refl w).alloc _ |>.alloc _).trans he
    clear he
    simp only [numV, Val.v]
    go_wp2_with fail
    exact bodyPost_ret (v := .agg #[.int .i64 0, .int .i64 0, .string ByteArray.empty]) (by simp [results, Tryz.results102, go_sem, f0, f1, f2]; done) rfl ⟨rfl, qs hw _ (by omega) _ _ _⟩
  · have hd : (b.n == 0) = false := by simp [hb]
    have hr : divI a.n b.n = wrap64 (a.n.tdiv b.n) := by simp [divI, hb]
    rw [hr]
    clear hr
    go_enter Tryz.func102, Tryz.ntmps102
    go_wp2_with fail
    refine (qbv _ _).mono ?_
    rintro r w1 ⟨rfl, he⟩
    have f0 : w1.cell? ⟨w.heap.size + 1, 0, none⟩ = some (.int .i64 0) := he.at (by go_simp)
    have f1 : w1.cell? ⟨w.heap.size + 1, 1, none⟩ = some (.int .i64 0) := he.at (by go_simp)
    have f2 : w1.cell? ⟨w.heap.size + 1, 2, none⟩ = some (.string ByteArray.empty) := he.at (by go_simp; rfl)
    have z0 : w1.frozen? ⟨w.heap.size + 1, 0, none⟩ = false := (he.frozens _ _ (by go_simp)).trans (by go_simp)
    have z1 : w1.frozen? ⟨w.heap.size + 1, 1, none⟩ = false := (he.frozens _ _ (by go_simp)).trans (by go_simp)
    have z2 : w1.frozen? ⟨w.heap.size + 1, 2, none⟩ = false := (he.frozens _ _ (by go_simp)).trans (by go_simp)
    have hw : Ext w w1 := ((Ext.refl w).alloc _ |>.alloc _).trans he
    clear he
    simp only [numV, Val.v]
    go_wp2_with fail
    exact bodyPost_ret (v := .agg #[.int .i64 0, .int .i64 (wrap64 (a.n.tdiv b.n)), .string ByteArray.empty]) (by simp [results, Tryz.results102, go_sem, f0, f1, f2]; done) rfl ⟨rfl, qs hw _ (by omega) _ _ _⟩
set_option maxHeartbeats 1000000 in
theorem mod_any (a b : Val) (w : World) : Calls Tryz.prog 103 #[pairV a b] w fun r w' => r = .returned (numV (modI a.n b.n)).v ∧ Ext w w' := by
  simp only [pairV]
  by_cases hb : b.n = 0
  · have hd : (b.n == 0) = true := by simp [hb]
    have hr : modI a.n b.n = 0 := by simp [modI, hb]
    rw [hr]
    clear hb hr
    go_enter Tryz.func103, Tryz.ntmps103
    go_wp2_with fail
    refine (qbv _ _).mono ?_
    rintro r w1 ⟨rfl, he⟩
    have f0 : w1.cell? ⟨w.heap.size + 1, 0, none⟩ = some (.int .i64 0) := he.at (by go_simp)
    have f1 : w1.cell? ⟨w.heap.size + 1, 1, none⟩ = some (.int .i64 0) := he.at (by go_simp)
    have f2 : w1.cell? ⟨w.heap.size + 1, 2, none⟩ = some (.string ByteArray.empty) := he.at (by go_simp; rfl)
    have z0 : w1.frozen? ⟨w.heap.size + 1, 0, none⟩ = false := (he.frozens _ _ (by go_simp)).trans (by go_simp)
    have z1 : w1.frozen? ⟨w.heap.size + 1, 1, none⟩ = false := (he.frozens _ _ (by go_simp)).trans (by go_simp)
    have z2 : w1.frozen? ⟨w.heap.size + 1, 2, none⟩ = false := (he.frozens _ _ (by go_simp)).trans (by go_simp)
    have hw : Ext w w1 := ((Ext.refl w).alloc _ |>.alloc _).trans he
    clear he
    simp only [numV, Val.v]
    go_wp2_with fail
    exact bodyPost_ret (v := .agg #[.int .i64 0, .int .i64 0, .string ByteArray.empty]) (by simp [results, Tryz.results103, go_sem, f0, f1, f2]; done) rfl ⟨rfl, qs hw _ (by omega) _ _ _⟩
  · have hd : (b.n == 0) = false := by simp [hb]
    have hr : modI a.n b.n = a.n.tmod b.n := by simp [modI, hb]
    rw [hr]
    clear hr
    go_enter Tryz.func103, Tryz.ntmps103
    go_wp2_with fail
    refine (qbv _ _).mono ?_
    rintro r w1 ⟨rfl, he⟩
    have f0 : w1.cell? ⟨w.heap.size + 1, 0, none⟩ = some (.int .i64 0) := he.at (by go_simp)
    have f1 : w1.cell? ⟨w.heap.size + 1, 1, none⟩ = some (.int .i64 0) := he.at (by go_simp)
    have f2 : w1.cell? ⟨w.heap.size + 1, 2, none⟩ = some (.string ByteArray.empty) := he.at (by go_simp; rfl)
    have z0 : w1.frozen? ⟨w.heap.size + 1, 0, none⟩ = false := (he.frozens _ _ (by go_simp)).trans (by go_simp)
    have z1 : w1.frozen? ⟨w.heap.size + 1, 1, none⟩ = false := (he.frozens _ _ (by go_simp)).trans (by go_simp)
    have z2 : w1.frozen? ⟨w.heap.size + 1, 2, none⟩ = false := (he.frozens _ _ (by go_simp)).trans (by go_simp)
    have hw : Ext w w1 := ((Ext.refl w).alloc _ |>.alloc _).trans he
    clear he
    simp only [numV, Val.v]
    go_wp2_with fail
    exact bodyPost_ret (v := .agg #[.int .i64 0, .int .i64 (a.n.tmod b.n), .string ByteArray.empty]) (by simp [results, Tryz.results103, go_sem, f0, f1, f2]; done) rfl ⟨rfl, qs hw _ (by omega) _ _ _⟩
def eqV (a b : Val) : Bool := decide (a.k = b.k ∧ a.n = b.n ∧ a.s.toList = b.s.toList)
set_option maxHeartbeats 1000000 in
theorem eq_any (a b : Val) (w : World) : Calls Tryz.prog 104 #[pairV a b] w fun r w' => r = .returned (boolV (eqV a b)).v ∧ Ext w w' := by
  simp only [pairV]
  go_enter Tryz.func104, Tryz.ntmps104
  go_wp2_with fail
  all_goals
    refine (qda _ _).mono ?_
    rintro r w1 ⟨rfl, he⟩
    have f0 : w1.cell? ⟨w.heap.size + 1, 0, none⟩ = some (.int .i64 0) := he.at (by go_simp)
    have f1 : w1.cell? ⟨w.heap.size + 1, 1, none⟩ = some (.int .i64 0) := he.at (by go_simp)
    have f2 : w1.cell? ⟨w.heap.size + 1, 2, none⟩ = some (.string ByteArray.empty) := he.at (by go_simp; rfl)
    have z0 : w1.frozen? ⟨w.heap.size + 1, 0, none⟩ = false := (he.frozens _ _ (by go_simp)).trans (by go_simp)
    have z1 : w1.frozen? ⟨w.heap.size + 1, 1, none⟩ = false := (he.frozens _ _ (by go_simp)).trans (by go_simp)
    have z2 : w1.frozen? ⟨w.heap.size + 1, 2, none⟩ = false := (he.frozens _ _ (by go_simp)).trans (by go_simp)
    have hw : Ext w w1 := ((Ext.refl w).alloc _ |>.alloc _).trans he
    clear he
    simp only [boolV, Val.v]
    go_wp2_with fail
    first
      | (refine bodyPost_ret (v := .agg #[.int .i64 2, .int .i64 1, .string ByteArray.empty]) ?_ rfl ⟨?_, qs hw _ (by omega) _ _ _⟩
         · simp [results, Tryz.results104, go_sem, f0, f1, f2]
         · simp [boolV, Val.v, eqV, *])
      | (refine bodyPost_ret (v := .agg #[.int .i64 2, .int .i64 0, .string ByteArray.empty]) ?_ rfl ⟨?_, qs hw _ (by omega) _ _ _⟩
         · simp [results, Tryz.results104, go_sem, f0, f1, f2]
         · simp [boolV, Val.v, eqV, *])
set_option maxHeartbeats 1000000 in
theorem ne_any (a b : Val) (w : World) : Calls Tryz.prog 105 #[pairV a b] w fun r w' => r = .returned (boolV (!eqV a b)).v ∧ Ext w w' := by
  simp only [pairV]
  go_enter Tryz.func105, Tryz.ntmps105
  go_wp2_with fail
  all_goals
    refine (qda _ _).mono ?_
    rintro r w1 ⟨rfl, he⟩
    have f0 : w1.cell? ⟨w.heap.size + 1, 0, none⟩ = some (.int .i64 0) := he.at (by go_simp)
    have f1 : w1.cell? ⟨w.heap.size + 1, 1, none⟩ = some (.int .i64 0) := he.at (by go_simp)
    have f2 : w1.cell? ⟨w.heap.size + 1, 2, none⟩ = some (.string ByteArray.empty) := he.at (by go_simp; rfl)
    have z0 : w1.frozen? ⟨w.heap.size + 1, 0, none⟩ = false := (he.frozens _ _ (by go_simp)).trans (by go_simp)
    have z1 : w1.frozen? ⟨w.heap.size + 1, 1, none⟩ = false := (he.frozens _ _ (by go_simp)).trans (by go_simp)
    have z2 : w1.frozen? ⟨w.heap.size + 1, 2, none⟩ = false := (he.frozens _ _ (by go_simp)).trans (by go_simp)
    have hw : Ext w w1 := ((Ext.refl w).alloc _ |>.alloc _).trans he
    clear he
    simp only [boolV, Val.v]
    go_wp2_with fail
    first
      | (refine bodyPost_ret (v := .agg #[.int .i64 2, .int .i64 1, .string ByteArray.empty]) ?_ rfl ⟨?_, qs hw _ (by omega) _ _ _⟩
         · simp [results, Tryz.results105, go_sem, f0, f1, f2]
         · simp [boolV, Val.v, eqV, *])
      | (refine bodyPost_ret (v := .agg #[.int .i64 2, .int .i64 0, .string ByteArray.empty]) ?_ rfl ⟨?_, qs hw _ (by omega) _ _ _⟩
         · simp [results, Tryz.results105, go_sem, f0, f1, f2]
         · simp [boolV, Val.v, eqV, *])
set_option maxHeartbeats 1000000 in
theorem lt_any (a b : Val) (w : World) : Calls Tryz.prog 106 #[pairV a b] w fun r w' => r = .returned (boolV (decide (cmpV a b < 0))).v ∧ Ext w w' := by
  simp only [pairV]
  go_enter Tryz.func106, Tryz.ntmps106
  go_wp2_with fail
  have hc := compare_any a b
  simp only [Val.v] at hc
  refine (hc _).mono ?_
  rintro r w0 ⟨rfl, he0⟩
  clear hc
  go_wp2_with fail
  refine (qda _ _).mono ?_
  rintro r w1 ⟨rfl, he⟩
  replace he := he0.trans he
  clear he0
  have f0 : w1.cell? ⟨w.heap.size + 1, 0, none⟩ = some (.int .i64 0) := he.at (by go_simp)
  have f1 : w1.cell? ⟨w.heap.size + 1, 1, none⟩ = some (.int .i64 0) := he.at (by go_simp)
  have f2 : w1.cell? ⟨w.heap.size + 1, 2, none⟩ = some (.string ByteArray.empty) := he.at (by go_simp; rfl)
  have z0 : w1.frozen? ⟨w.heap.size + 1, 0, none⟩ = false := (he.frozens _ _ (by go_simp)).trans (by go_simp)
  have z1 : w1.frozen? ⟨w.heap.size + 1, 1, none⟩ = false := (he.frozens _ _ (by go_simp)).trans (by go_simp)
  have z2 : w1.frozen? ⟨w.heap.size + 1, 2, none⟩ = false := (he.frozens _ _ (by go_simp)).trans (by go_simp)
  have hw : Ext w w1 := ((Ext.refl w).alloc _ |>.alloc _).trans he
  clear he
  cases hcc : decide (cmpV a b < 0)
  all_goals
    simp only [boolV, Val.v]
    go_wp2_with fail
    first
      | (refine bodyPost_ret (v := .agg #[.int .i64 2, .int .i64 1, .string ByteArray.empty]) ?_ rfl ⟨?_, qs hw _ (by omega) _ _ _⟩
         · simp [results, Tryz.results106, go_sem, f0, f1, f2]
         · simp [boolV, Val.v, hcc])
      | (refine bodyPost_ret (v := .agg #[.int .i64 2, .int .i64 0, .string ByteArray.empty]) ?_ rfl ⟨?_, qs hw _ (by omega) _ _ _⟩
         · simp [results, Tryz.results106, go_sem, f0, f1, f2]
         · simp [boolV, Val.v, hcc])
set_option maxHeartbeats 1000000 in
theorem le_any (a b : Val) (w : World) : Calls Tryz.prog 107 #[pairV a b] w fun r w' => r = .returned (boolV (decide (cmpV a b ≤ 0))).v ∧ Ext w w' := by
  simp only [pairV]
  go_enter Tryz.func107, Tryz.ntmps107
  go_wp2_with fail
  have hc := compare_any a b
  simp only [Val.v] at hc
  refine (hc _).mono ?_
  rintro r w0 ⟨rfl, he0⟩
  clear hc
  go_wp2_with fail
  refine (qda _ _).mono ?_
  rintro r w1 ⟨rfl, he⟩
  replace he := he0.trans he
  clear he0
  have f0 : w1.cell? ⟨w.heap.size + 1, 0, none⟩ = some (.int .i64 0) := he.at (by go_simp)
  have f1 : w1.cell? ⟨w.heap.size + 1, 1, none⟩ = some (.int .i64 0) := he.at (by go_simp)
  have f2 : w1.cell? ⟨w.heap.size + 1, 2, none⟩ = some (.string ByteArray.empty) := he.at (by go_simp; rfl)
  have z0 : w1.frozen? ⟨w.heap.size + 1, 0, none⟩ = false := (he.frozens _ _ (by go_simp)).trans (by go_simp)
  have z1 : w1.frozen? ⟨w.heap.size + 1, 1, none⟩ = false := (he.frozens _ _ (by go_simp)).trans (by go_simp)
  have z2 : w1.frozen? ⟨w.heap.size + 1, 2, none⟩ = false := (he.frozens _ _ (by go_simp)).trans (by go_simp)
  have hw : Ext w w1 := ((Ext.refl w).alloc _ |>.alloc _).trans he
  clear he
  cases hcc : decide (cmpV a b ≤ 0)
  all_goals
    simp only [boolV, Val.v]
    go_wp2_with fail
    first
      | (refine bodyPost_ret (v := .agg #[.int .i64 2, .int .i64 1, .string ByteArray.empty]) ?_ rfl ⟨?_, qs hw _ (by omega) _ _ _⟩
         · simp [results, Tryz.results107, go_sem, f0, f1, f2]
         · simp [boolV, Val.v, hcc])
      | (refine bodyPost_ret (v := .agg #[.int .i64 2, .int .i64 0, .string ByteArray.empty]) ?_ rfl ⟨?_, qs hw _ (by omega) _ _ _⟩
         · simp [results, Tryz.results107, go_sem, f0, f1, f2]
         · simp [boolV, Val.v, hcc])
set_option maxHeartbeats 1000000 in
theorem both_any (a b : Val) (w : World) : Calls Tryz.prog 108 #[pairV a b] w fun r w' => r = .returned (boolV (decide (a.n = 1) && decide (b.n = 1))).v ∧ Ext w w' := by
  simp only [pairV]
  by_cases h1 : a.n = 1 <;> by_cases h2 : b.n = 1
  all_goals
    have g1 : (a.n == 1) = decide (a.n = 1) := rfl
    have g2 : (b.n == 1) = decide (b.n = 1) := rfl
    simp only [h1, h2, decide_true, decide_false] at g1 g2
    simp only [h1, h2, decide_true, decide_false]
    go_enter Tryz.func108, Tryz.ntmps108
    go_wp2_with fail
    refine (qda _ _).mono ?_
    rintro r w1 ⟨rfl, he⟩
    have f0 : w1.cell? ⟨w.heap.size + 1, 0, none⟩ = some (.int .i64 0) := he.at (by go_simp)
    have f1 : w1.cell? ⟨w.heap.size + 1, 1, none⟩ = some (.int .i64 0) := he.at (by go_simp)
    have f2 : w1.cell? ⟨w.heap.size + 1, 2, none⟩ = some (.string ByteArray.empty) := he.at (by go_simp; rfl)
    have z0 : w1.frozen? ⟨w.heap.size + 1, 0, none⟩ = false := (he.frozens _ _ (by go_simp)).trans (by go_simp)
    have z1 : w1.frozen? ⟨w.heap.size + 1, 1, none⟩ = false := (he.frozens _ _ (by go_simp)).trans (by go_simp)
    have z2 : w1.frozen? ⟨w.heap.size + 1, 2, none⟩ = false := (he.frozens _ _ (by go_simp)).trans (by go_simp)
    have hw : Ext w w1 := ((Ext.refl w).alloc _ |>.alloc _).trans he
    clear he
    simp only [boolV, Val.v]
    go_wp2_with fail
    first
      | (refine bodyPost_ret (v := .agg #[.int .i64 2, .int .i64 1, .string ByteArray.empty]) ?_ rfl ⟨?_, qs hw _ (by omega) _ _ _⟩
         · simp [results, Tryz.results108, go_sem, f0, f1, f2]
         · simp [boolV, Val.v, eqV, *])
      | (refine bodyPost_ret (v := .agg #[.int .i64 2, .int .i64 0, .string ByteArray.empty]) ?_ rfl ⟨?_, qs hw _ (by omega) _ _ _⟩
         · simp [results, Tryz.results108, go_sem, f0, f1, f2]
         · simp [boolV, Val.v, eqV, *])
set_option maxHeartbeats 1000000 in
theorem any_any (a b : Val) (w : World) : Calls Tryz.prog 109 #[pairV a b] w fun r w' => r = .returned (boolV (decide (a.n = 1) || decide (b.n = 1))).v ∧ Ext w w' := by
  simp only [pairV]
  by_cases h1 : a.n = 1 <;> by_cases h2 : b.n = 1
  all_goals
    have g1 : (a.n == 1) = decide (a.n = 1) := rfl
    have g2 : (b.n == 1) = decide (b.n = 1) := rfl
    simp only [h1, h2, decide_true, decide_false] at g1 g2
    simp only [h1, h2, decide_true, decide_false]
    go_enter Tryz.func109, Tryz.ntmps109
    go_wp2_with fail
    refine (qda _ _).mono ?_
    rintro r w1 ⟨rfl, he⟩
    have f0 : w1.cell? ⟨w.heap.size + 1, 0, none⟩ = some (.int .i64 0) := he.at (by go_simp)
    have f1 : w1.cell? ⟨w.heap.size + 1, 1, none⟩ = some (.int .i64 0) := he.at (by go_simp)
    have f2 : w1.cell? ⟨w.heap.size + 1, 2, none⟩ = some (.string ByteArray.empty) := he.at (by go_simp; rfl)
    have z0 : w1.frozen? ⟨w.heap.size + 1, 0, none⟩ = false := (he.frozens _ _ (by go_simp)).trans (by go_simp)
    have z1 : w1.frozen? ⟨w.heap.size + 1, 1, none⟩ = false := (he.frozens _ _ (by go_simp)).trans (by go_simp)
    have z2 : w1.frozen? ⟨w.heap.size + 1, 2, none⟩ = false := (he.frozens _ _ (by go_simp)).trans (by go_simp)
    have hw : Ext w w1 := ((Ext.refl w).alloc _ |>.alloc _).trans he
    clear he
    simp only [boolV, Val.v]
    go_wp2_with fail
    first
      | (refine bodyPost_ret (v := .agg #[.int .i64 2, .int .i64 1, .string ByteArray.empty]) ?_ rfl ⟨?_, qs hw _ (by omega) _ _ _⟩
         · simp [results, Tryz.results109, go_sem, f0, f1, f2]
         · simp [boolV, Val.v, eqV, *])
      | (refine bodyPost_ret (v := .agg #[.int .i64 2, .int .i64 0, .string ByteArray.empty]) ?_ rfl ⟨?_, qs hw _ (by omega) _ _ _⟩
         · simp [results, Tryz.results109, go_sem, f0, f1, f2]
         · simp [boolV, Val.v, eqV, *])
def joinS (a b : ByteArray) : ByteArray := (a ++ b).extract 0 (min (a.size + b.size) 200)
set_option maxHeartbeats 1000000 in
theorem join_any (a b : Val) (hz : ¬9223372036854775807 < a.s.size + b.s.size) (w : World) : Calls Tryz.prog 110 #[pairV a b] w fun r w' => r = .returned (textV (joinS a.s b.s)).v ∧ Ext w w' := by
  simp only [pairV]
  have hj := Lib.hid (show joinS a.s b.s = (a.s ++ b.s).extract 0 (min ((a.s.size : Int) + b.s.size) 200).toNat by
    have : (min ((a.s.size : Int) + b.s.size) 200).toNat = min (a.s.size + b.s.size) 200 := by omega
    rw [this]; rfl)
  go_enter Tryz.func110, Tryz.ntmps110
  go_wp2_with fail
  exact bodyPost_ret (v := .agg #[.int .i64 1, .int .i64 0, .string ((a.s ++ b.s).extract 0 (min ((a.s.size : Int) + b.s.size) 200).toNat)]) (by simp [results, Tryz.results110, go_sem]) rfl ⟨by simp only [textV, Val.v, hj.out], (by repeat' first | exact Ext.refl _ | assumption | apply Ext.alloc | apply Ext.drew | apply Ext.drewN | (refine Ext.trans ?_ (by assumption)))⟩
end Go.Proofs.YtnkimlkoijfcpaaGreatDoor

/- Walks: types of operations, as the program finds them. -/
namespace Go.Proofs.YtnkimlkoijfcpaaGreatDoor
open Go.RowKit Go.Lib
theorem len3 {l : List Int} (h : l.length = 3) : ∃ a b c, l = [a, b, c] := by
  match l, h with | [a, b, c], _ => exact ⟨a, b, c, rfl⟩
theorem allAre_one (ts : List Int) (t : Int) : allAre ts t 1 = decide (ts = [t]) := by
  unfold allAre
  match ts with
  | [] => simp
  | [a] => by_cases h : a = t <;> simp [h]
  | a :: b :: l => simp; omega
theorem allAre_two (ts : List Int) (t : Int) : allAre ts t 2 = decide (ts = [t, t]) := by
  unfold allAre
  match ts with
  | [] => simp
  | [a] => simp
  | [a, b] => by_cases h : a = t <;> by_cases h2 : b = t <;> simp [h, h2]
  | a :: b :: c :: l => simp; omega
theorem answer_dec {p : Prop} [Decidable p] {x : Int} {t : Option Int} (h : t = if p then some x else none) : qci t (.returned (.tuple #[.int .i64 x, .bool (decide p)])) := by
  refine qbl ?_
  rw [h]; by_cases hp : p <;> simp [hp]
set_option maxRecDepth 10000 in
set_option maxHeartbeats 4000000 in
theorem operation_any (e : Ex) (ts : List Int) (S S2 : Nat → Prop) (cs : List Value) (v : Value) (w : World) (hr : Rd w S e.d cs) (hts : Rd w S2 (.sl (ts.map D.int)) [v]) (hne : ts ≠ []) :
    Calls Tryz.prog 140 #[.agg cs.toArray, v] w fun r w' => qci (operT e.op e.n ts) r ∧ Ext w w' := by
  obtain ⟨A, cap, b, off, rfl, hl1, hl2, hl3, hm⟩ := Ex.open hr
  obtain ⟨o, m, s, l⟩ := e
  simp only [Ex.args, Ex.op, Ex.n, Ex.s] at *
  obtain ⟨A9, cap9, b9, off9, rfl, z1, z2, z3, z4⟩ := Rd.sl_open hts
  simp only [List.length_map] at *
  have hts' := Lib.hid hts
  have hpos : 0 < ts.length := by cases ts with | nil => exact absurd rfl hne | cons a r => simp
  obtain ⟨rfl, hSb⟩ := z3 hpos
  have hne' := Lib.hid hne
  have c0 := ints_at z4 hpos
  simp only [Nat.add_zero] at c0
  have z4' := Lib.hid z4; have hSb' := Lib.hid hSb
  clear hr hm hl3 hts z3 z4 hne hSb
  by_cases hm0 : m = 0
  case neg =>
    have H := Lib.hid (show operT o m ts = none by unfold operT; rw [if_pos hm0])
    go_enter Tryz.func140, Tryz.ntmps140
    go_wp2_with fail
    go_ret2
    exact ⟨by rw [H.out]; exact qbf, (by repeat' first | exact Ext.refl _ | assumption | apply Ext.alloc | apply Ext.drew | apply Ext.drewN | (refine Ext.trans ?_ (by assumption)))⟩
  subst hm0
  have hO : (o = 6 ∨ o = 7 ∨ o = 20) ∨ (o = 8 ∨ o = 9 ∨ o = 10 ∨ o = 11 ∨ o = 12) ∨ (o = 13 ∨ o = 14 ∨ o = 15 ∨ o = 16) ∨ (o = 17 ∨ o = 18 ∨ o = 19) ∨ o = 21 ∨ (o < 6 ∨ 21 < o) := by omega
  have hO' := Lib.hid hO; clear hO
  have hall := Lib.hid (fun (t n : Int) (b : Nat) (w' : World) (h : w'.cell? ⟨b, 0, none⟩ = some (.slice (some ⟨b9, off9, none⟩) ts.length cap9)) (hw : Ext w w') => all_any ts t n b S2 _ w' h (hts'.out.ext hw))
  rcases hO'.out with hC | hC | hC | hC | hC | hC
  · clear hO'
    rcases hC with rfl | rfl | rfl
    all_goals
      go_enter Tryz.func140, Tryz.ntmps140
      go_wp2_with fail
      refine (hall.out _ _ _ _ (by go_simp) (by repeat' first | exact Ext.refl _ | assumption | apply Ext.alloc | apply Ext.drew | apply Ext.drewN | (refine Ext.trans ?_ (by assumption)))).mono ?_
      rintro r w1 ⟨rfl, he⟩
      go_wp2_with fail
      go_ret2
      exact ⟨by rw [allAre_one]; exact answer_dec (by simp [operT]), (by repeat' first | exact Ext.refl _ | assumption | apply Ext.alloc | apply Ext.drew | apply Ext.drewN | (refine Ext.trans ?_ (by assumption)))⟩
  · clear hO'
    rcases hC with rfl | rfl | rfl | rfl | rfl
    all_goals
      go_enter Tryz.func140, Tryz.ntmps140
      go_wp2_with fail
      refine (hall.out _ _ _ _ (by go_simp) (by repeat' first | exact Ext.refl _ | assumption | apply Ext.alloc | apply Ext.drew | apply Ext.drewN | (refine Ext.trans ?_ (by assumption)))).mono ?_
      rintro r w1 ⟨rfl, he⟩
      go_wp2_with fail
      go_ret2
      exact ⟨by rw [allAre_two]; exact answer_dec (by simp [operT]), (by repeat' first | exact Ext.refl _ | assumption | apply Ext.alloc | apply Ext.drew | apply Ext.drewN | (refine Ext.trans ?_ (by assumption)))⟩
  · clear hO'
    have H := Lib.hid (show ∀ op : Int, 13 ≤ op ∧ op ≤ 16 → operT op 0 ts = if ts = [ts[0], ts[0]] then some 2 else none by
      intro op hop
      unfold operT
      rw [if_neg (by simp), if_neg (by omega), if_neg (by omega), if_neg (by omega), if_neg (by omega), if_pos hop]
      match ts with
      | [a] => simp
      | [a, b] => simp; by_cases hab : a = b <;> simp [hab]; exact fun h => hab h.symm
      | a :: b :: c :: r => simp)
    have hld : ∀ o1 o2, ((w.alloc o1).alloc o2).cell? ⟨b9, off9, none⟩ = some (.int .i64 ts[0]) := fun o1 o2 => (((Ext.refl w).alloc o1).alloc o2).at c0
    rcases hC with rfl | rfl | rfl | rfl
    all_goals
      go_enter Tryz.func140, Tryz.ntmps140
      go_wp2_with fail
      refine (hall.out _ _ _ _ (by go_simp) (by repeat' first | exact Ext.refl _ | assumption | apply Ext.alloc | apply Ext.drew | apply Ext.drewN | (refine Ext.trans ?_ (by assumption)))).mono ?_
      rintro r w1 ⟨rfl, he⟩
      go_wp2_with fail
      go_ret2
      exact ⟨by rw [allAre_two]; exact answer_dec (H.out _ (by decide)), (by repeat' first | exact Ext.refl _ | assumption | apply Ext.alloc | apply Ext.drew | apply Ext.drewN | (refine Ext.trans ?_ (by assumption)))⟩
  · clear hO'
    rcases hC with rfl | rfl | rfl
    all_goals
      go_enter Tryz.func140, Tryz.ntmps140
      go_wp2_with fail
      refine (hall.out _ _ _ _ (by go_simp) (by repeat' first | exact Ext.refl _ | assumption | apply Ext.alloc | apply Ext.drew | apply Ext.drewN | (refine Ext.trans ?_ (by assumption)))).mono ?_
      rintro r w1 ⟨rfl, he⟩
      go_wp2_with fail
      go_ret2
      exact ⟨by rw [allAre_two]; exact answer_dec (by simp [operT]), (by repeat' first | exact Ext.refl _ | assumption | apply Ext.alloc | apply Ext.drew | apply Ext.drewN | (refine Ext.trans ?_ (by assumption)))⟩
  · clear hO'
    subst hC
    have hbx : ∀ o1 (x : ExtW ((w.alloc o1).alloc (.cells #[.slice (some ⟨b9, off9, none⟩) ts.length cap9] 22))), x.val.cell? ⟨w.heap.size + 1, 0, none⟩ = some (.slice (some ⟨b9, off9, none⟩) ts.length cap9) := fun o1 x => x.ext.at (by go_simp)
    have hcl : ∀ (j : Nat) (hj : j < ts.length) o1 o2 (x : ExtW ((w.alloc o1).alloc o2)), x.val.cell? ⟨b9, off9 + j, none⟩ = some (.int .i64 ts[j]) := fun j hj o1 o2 x => x.ext.at ((((Ext.refl w).alloc o1).alloc o2).at (ints_at z4'.out hj))
    have hcl' := Lib.hid hcl; clear hcl
    by_cases hl : ts.length = 3
    · obtain ⟨t0, t1, t2, rfl⟩ := len3 hl
      have y0 := hcl'.out 0 (by simp)
      have y1 := hcl'.out 1 (by simp)
      have y2 := hcl'.out 2 (by simp)
      simp only [List.getElem_cons_zero, List.getElem_cons_succ, Nat.add_zero, List.length_cons, List.length_nil, Nat.zero_add, Nat.reduceAdd] at y0 y1 y2 hbx
      clear c0
      by_cases ht : t0 = 2
      · subst ht
        go_enter Tryz.func140, Tryz.ntmps140
        go_wp2_with fail
        refine qy (by kernel_rfl) (by kernel_rfl) ?_
        repeat (go_big_quiet_step ((fail)))
        refine wpQuiet_nil ?_
        intro w1 he
        go_wp2_with fail
        go_ret2
        exact ⟨qbl (by by_cases hx : t1 = t2 <;> simp [operT, hx]), (by repeat' first | exact Ext.refl _ | assumption | apply Ext.alloc | apply Ext.drew | apply Ext.drewN | (refine Ext.trans ?_ (by assumption)))⟩
      · have ht2 : (t0 == 2) = false := by simp [ht]
        go_enter Tryz.func140, Tryz.ntmps140
        go_wp2_with fail
        refine qy (by kernel_rfl) (by kernel_rfl) ?_
        repeat (go_big_quiet_step ((fail)))
        refine wpQuiet_nil ?_
        intro w1 he
        go_wp2_with fail
        go_ret2
        exact ⟨qbl (by simp [operT, ht]), (by repeat' first | exact Ext.refl _ | assumption | apply Ext.alloc | apply Ext.drew | apply Ext.drewN | (refine Ext.trans ?_ (by assumption)))⟩
    · have y0 := hcl'.out (ts.length - 1) (by omega)
      have hl2 : ¬ (ts.length : Int) = 3 := by omega
      have hl3 : ((ts.length : Int) == 3) = false := by simp; omega
      have hz : off9 + (ts.length - 1) = off9 + (ts.length - 1) := rfl
      clear hz
      have H := Lib.hid (show operT 21 0 ts = none by
        unfold operT
        rw [if_neg (by simp), if_neg (by omega), if_neg (by omega), if_neg (by omega), if_neg (by omega), if_neg (by omega), if_neg (by omega), if_neg (by omega), if_pos rfl]
        match ts, hl with
        | [], _ => rfl
        | [a], _ => rfl
        | [a, b], _ => rfl
        | [a, b, c], h => exact absurd rfl h
        | a :: b :: c :: d :: r, _ => rfl)
      go_enter Tryz.func140, Tryz.ntmps140
      go_wp2_with fail
      refine qy (by kernel_rfl) (by kernel_rfl) ?_
      repeat (go_big_quiet_step ((fail)))
      refine wpQuiet_nil ?_
      intro w1 he
      go_wp2_with fail
      go_ret2
      exact ⟨by rw [H.out]; exact qbf, (by repeat' first | exact Ext.refl _ | assumption | apply Ext.alloc | apply Ext.drew | apply Ext.drewN | (refine Ext.trans ?_ (by assumption)))⟩
  · clear hO'
    have H := Lib.hid (show operT o 0 ts = none by
      unfold operT
      rw [if_neg (by simp), if_neg (by omega), if_neg (by omega), if_neg (by omega), if_neg (by omega), if_neg (by omega), if_neg (by omega), if_neg (by omega), if_neg (by omega)])
    rcases hC with hC | hC
    all_goals
      go_enter Tryz.func140, Tryz.ntmps140
      go_wp2_with fail
      go_ret2
      exact ⟨by rw [H.out]; exact qbf, (by repeat' first | exact Ext.refl _ | assumption | apply Ext.alloc | apply Ext.drew | apply Ext.drewN | (refine Ext.trans ?_ (by assumption)))⟩
end Go.Proofs.YtnkimlkoijfcpaaGreatDoor

/- Walk: slices.Equal at ints. -/
namespace Go.Proofs.YtnkimlkoijfcpaaGreatDoor
open Go.RowKit Go.Lib
set_option maxHeartbeats 1000000 in
theorem equal_any (xs ys : List Int) (S S2 : Nat → Prop) (v v2 : Value) (w : World) (hr : Rd w S (.sl (xs.map D.int)) [v]) (hr2 : Rd w S2 (.sl (ys.map D.int)) [v2]) :
    Calls Tryz.prog 139 #[v, v2] w fun r w' => r = .returned (.bool (decide (xs = ys))) ∧ Ext w w' := by
  obtain ⟨A, cap, b, off, rfl, hl1, hl2, hl3, hm⟩ := Rd.sl_open hr
  obtain ⟨A0, cap0, b0, off0, rfl, k1, k2, k3, km⟩ := Rd.sl_open hr2
  simp only [List.length_map] at *
  have hl3' := Lib.hid hl3; have hm' := Lib.hid hm; have k3' := Lib.hid k3; have km' := Lib.hid km
  clear hr hr2 hl3 hm k3 km
  by_cases hlen : xs.length = ys.length
  · have hlen' := Lib.hid hlen
    obtain ⟨n, hn⟩ : ∃ n, n = ys.length := ⟨_, rfl⟩
    rw [hlen, ← hn] at hl1 ⊢
    rw [← hn] at k1
    have hn' := Lib.hid hn
    clear hlen hn
    go_enter Tryz.func139, Tryz.ntmps139
    go_wp2_with fail
    go_loopw [13] (fun i wr => ∃ (k : Nat), k ≤ n ∧ i = .int .i64 k ∧ Hid (xs.take k = ys.take k) ∧ Ext w wr) (fun i _ => n - (RowKit.intOf i).toNat)
    case atStart => exact ⟨0, by omega, rfl, Lib.hid rfl, Ext.refl _⟩
    case round =>
      obtain ⟨k, hk, rfl, HH, hw⟩ := hrel
      by_cases hlt : k < n
      · have hx : k < xs.length := by rw [hlen'.out, ← hn'.out]; exact hlt
        have hy : k < ys.length := by rw [← hn'.out]; exact hlt
        obtain ⟨rfl, hSb⟩ := hl3'.out (by omega)
        obtain ⟨rfl, hSb2⟩ := k3'.out (by omega)
        have d0 := ints_at (hm'.out.ext (fun _ => hSb) hw) hx
        have d1 := ints_at (km'.out.ext (fun _ => hSb2) hw) hy
        have hSb' := Lib.hid hSb; have hSb2' := Lib.hid hSb2
        clear hSb hSb2
        have gd0 := ExtW.at d0
        have gd1 := ExtW.at d1
        by_cases he : xs[k] = ys[k]
        · have he1 : (xs[k] != ys[k]) = false := by simp [he]
          have he' := Lib.hid he; clear he
          go_wp2_with fail
          refine qy (by kernel_rfl) (by kernel_rfl) ?_
          repeat (go_big_quiet_step ((fail)))
          refine wpQuiet_nil ?_
          intro w1 he1
          go_wp2_with fail
          go_roundw
          case rel => exact ⟨k + 1, by omega, by go_num, Lib.hid (by rw [List.take_succ_eq_append_getElem hx, List.take_succ_eq_append_getElem hy, HH.out, he'.out]), hw.trans he1⟩
          case measure => simp [RowKit.intOf]; omega
        · have he1 : (xs[k] != ys[k]) = true := by simp [he]
          have H := Lib.hid (show decide (xs = ys) = false by rw [decide_eq_false]; intro h; subst h; exact he rfl)
          clear he
          go_wp2_with fail
          refine qy (by kernel_rfl) (by kernel_rfl) ?_
          repeat (go_big_quiet_step ((fail)))
          refine wpQuiet_nil ?_
          intro w1 he2
          go_wp2_with fail
          go_ret
          exact ⟨qbk (by rw [H.out]), hw.trans he2⟩
      · have hkl : k = n := by omega
        subst hkl
        have H := Lib.hid (show decide (xs = ys) = true by
          rw [decide_eq_true]
          have h1 := HH.out
          rw [List.take_of_length_le (by rw [hlen'.out, ← hn'.out]; omega), List.take_of_length_le (by rw [← hn'.out]; omega)] at h1
          exact h1)
        go_wp2_with fail
        go_ret
        exact ⟨qbk (by rw [H.out]), hw⟩
  · have H := Lib.hid (show decide (xs = ys) = false by rw [decide_eq_false]; intro h; subst h; exact hlen rfl)
    have hl4 : ¬ (xs.length : Int) = ys.length := by omega
    go_enter Tryz.func139, Tryz.ntmps139
    go_wp2_with fail
    go_ret
    exact ⟨qbk (by rw [H.out]), Ext.refl _⟩
end Go.Proofs.YtnkimlkoijfcpaaGreatDoor

/- Walks: the type of an expression, as the program finds it. -/
namespace Go.Proofs.YtnkimlkoijfcpaaGreatDoor
open Go.RowKit Go.Lib
set_option maxRecDepth 10000 in
set_option maxHeartbeats 4000000 in
theorem leaf_any (c p : List Int) (e : Ex) (S S1 S2 : Nat → Prop) (vF vc vp : Value) (cs : List Value) (w : World) (hc : Rd w S1 (.sl (c.map D.int)) [vc]) (hp : Rd w S2 (.sl (p.map D.int)) [vp]) (hr : Rd w S e.d cs) :
    Calls Tryz.prog 138 #[.agg #[vF, vc, vp], .agg cs.toArray] w fun r w' => qci (leafT c p e.op e.n e.s) r ∧ Ext w w' := by
  obtain ⟨A, cap, b, off, rfl, hl1, hl2, hl3, hm⟩ := Ex.open hr
  obtain ⟨o, m, s, l⟩ := e
  simp only [Ex.args, Ex.op, Ex.n, Ex.s] at *
  have hc' := Lib.hid hc; have hp' := Lib.hid hp
  clear hr hm hl3 hc hp
  have hO : o = 0 ∨ o = 1 ∨ o = 2 ∨ o = 3 ∨ o = 4 ∨ o = 5 ∨ (o < 0 ∨ 5 < o) := by omega
  have hO' := Lib.hid hO; clear hO
  have hbx : ∀ o1 (x : ExtW ((w.alloc o1).alloc (.cells #[.int .i64 o, .int .i64 m, .string s, .slice A l.length cap] 25))), x.val.cell? ⟨w.heap.size + 1, 1, none⟩ = some (.int .i64 m) := fun o1 x => x.ext.at (by go_simp)
  have hbx2 : ∀ o1 (x : ExtW ((w.alloc o1).alloc (.cells #[.int .i64 o, .int .i64 m, .string s, .slice A l.length cap] 25))), x.val.cell? ⟨w.heap.size + 1, 2, none⟩ = some (.string s) := fun o1 x => x.ext.at (by go_simp)
  rcases hO'.out with rfl | rfl | rfl | rfl | rfl | rfl | hC
  · go_enter Tryz.func138, Tryz.ntmps138
    go_wp2_with fail
    go_ret2
    exact ⟨by simp only [leafT]; exact answer_some, (by repeat' first | exact Ext.refl _ | assumption | apply Ext.alloc | apply Ext.drew | apply Ext.drewN | (refine Ext.trans ?_ (by assumption)))⟩
  · by_cases hm0 : m = 0
    · subst hm0
      go_enter Tryz.func138, Tryz.ntmps138
      go_wp2_with fail
      refine qy (by kernel_rfl) (by kernel_rfl) ?_
      repeat (go_big_quiet_step ((fail)))
      refine wpQuiet_nil ?_
      intro w1 he
      go_wp2_with fail
      go_ret2
      exact ⟨qbl (by simp [leafT]), (by repeat' first | exact Ext.refl _ | assumption | apply Ext.alloc | apply Ext.drew | apply Ext.drewN | (refine Ext.trans ?_ (by assumption)))⟩
    · have hm1 : (m == 0) = false := by simp [hm0]
      go_enter Tryz.func138, Tryz.ntmps138
      go_wp2_with fail
      refine qy (by kernel_rfl) (by kernel_rfl) ?_
      repeat (go_big_quiet_step ((fail)))
      refine wpQuiet_nil ?_
      intro w1 he
      go_wp2_with fail
      go_ret2
      exact ⟨qbl (by simp [leafT, hm0]), (by repeat' first | exact Ext.refl _ | assumption | apply Ext.alloc | apply Ext.drew | apply Ext.drewN | (refine Ext.trans ?_ (by assumption)))⟩
  · by_cases hm0 : m = 0
    · subst hm0
      go_enter Tryz.func138, Tryz.ntmps138
      go_wp2_with fail
      refine qy (by kernel_rfl) (by kernel_rfl) ?_
      repeat (go_big_quiet_step ((fail)))
      refine wpQuiet_nil ?_
      intro w1 he
      go_wp2_with fail
      go_ret2
      exact ⟨qbl (by simp [leafT]), (by repeat' first | exact Ext.refl _ | assumption | apply Ext.alloc | apply Ext.drew | apply Ext.drewN | (refine Ext.trans ?_ (by assumption)))⟩
    · have hm1 : (m == 0) = false := by simp [hm0]
      go_enter Tryz.func138, Tryz.ntmps138
      go_wp2_with fail
      refine qy (by kernel_rfl) (by kernel_rfl) ?_
      repeat (go_big_quiet_step ((fail)))
      refine wpQuiet_nil ?_
      intro w1 he
      go_wp2_with fail
      go_ret2
      exact ⟨qbl (by simp [leafT, hm0]), (by repeat' first | exact Ext.refl _ | assumption | apply Ext.alloc | apply Ext.drew | apply Ext.drewN | (refine Ext.trans ?_ (by assumption)))⟩
  · go_enter Tryz.func138, Tryz.ntmps138
    go_wp2_with fail
    refine (pick_any c m S1 vc _ (hc'.out.ext (by repeat' first | exact Ext.refl _ | assumption | apply Ext.alloc | apply Ext.drew | apply Ext.drewN | (refine Ext.trans ?_ (by assumption))))).mono ?_
    rintro r w1 ⟨⟨t, ok, rfl, hA⟩, he⟩
    have hA' := Lib.hid hA; clear hA
    go_wp2_with fail
    go_ret2
    exact ⟨qbl (by rw [hA'.out]; simp [leafT]), (by repeat' first | exact Ext.refl _ | assumption | apply Ext.alloc | apply Ext.drew | apply Ext.drewN | (refine Ext.trans ?_ (by assumption)))⟩
  · go_enter Tryz.func138, Tryz.ntmps138
    go_wp2_with fail
    refine (pick_any p m S2 vp _ (hp'.out.ext (by repeat' first | exact Ext.refl _ | assumption | apply Ext.alloc | apply Ext.drew | apply Ext.drewN | (refine Ext.trans ?_ (by assumption))))).mono ?_
    rintro r w1 ⟨⟨t, ok, rfl, hA⟩, he⟩
    have hA' := Lib.hid hA; clear hA
    go_wp2_with fail
    go_ret2
    exact ⟨qbl (by rw [hA'.out]; simp [leafT]), (by repeat' first | exact Ext.refl _ | assumption | apply Ext.alloc | apply Ext.drew | apply Ext.drewN | (refine Ext.trans ?_ (by assumption)))⟩
  · go_enter Tryz.func138, Tryz.ntmps138
    go_wp2_with fail
    refine qy (by kernel_rfl) (by kernel_rfl) ?_
    repeat (go_big_quiet_step ((fail)))
    refine wpQuiet_nil ?_
    intro w1 he
    go_wp2_with fail
    go_ret2
    exact ⟨qbl (by simp [leafT]), (by repeat' first | exact Ext.refl _ | assumption | apply Ext.alloc | apply Ext.drew | apply Ext.drewN | (refine Ext.trans ?_ (by assumption)))⟩
  · have H := Lib.hid (show leafT c p o m s = none by
      unfold leafT
      rw [if_neg (by omega), if_neg (by omega), if_neg (by omega), if_neg (by omega), if_neg (by omega), if_neg (by omega)])
    clear hO'
    rcases hC with hC | hC
    all_goals
      go_enter Tryz.func138, Tryz.ntmps138
      go_wp2_with fail
      go_ret2
      exact ⟨by rw [H.out]; exact qbf, (by repeat' first | exact Ext.refl _ | assumption | apply Ext.alloc | apply Ext.drew | apply Ext.drewN | (refine Ext.trans ?_ (by assumption)))⟩
end Go.Proofs.YtnkimlkoijfcpaaGreatDoor
