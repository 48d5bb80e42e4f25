/- Walks of layer 16's reference: operations on values. -/
import Derived.Test.YtnkakofcejkhiaaDoorGa4
import Derived.Test.YtnkakofcejkhiaaDoorGa5
import Derived.Test.YtnkakofcejkhiaaDoorGa14
import Derived.Test.YtnkakofcejkhiaaDoorGa16
import Derived.Test.YtnkakofcejkhiaaDoorGa17
import Derived.Test.YtnkakofcejkhiaaDoorGa18
set_option linter.unusedSimpArgs false
set_option linter.unusedVariables false
namespace Go.Proofs.YtnkakofcejkhiaaDoor
open Go.RowKit Go.Lib
def lessB (a b : Val) : Bool := if a.k = 1 then Op.bytesLess a.s.toList b.s.toList else decide (a.n < b.n)
theorem bytes_cmp : ∀ (x y : List UInt8), (compareBytes x y < 0 ↔ Op.bytesLess x y = true) ∧ (compareBytes x y ≤ 0 ↔ Op.bytesLess y x = false)
  | [], [] => by simp [compareBytes, Op.bytesLess]
  | [], _ :: _ => by simp [compareBytes, Op.bytesLess]
  | _ :: _, [] => by simp [compareBytes, Op.bytesLess]
  | a :: x, b :: y => by
    have ih := bytes_cmp x y
    simp only [compareBytes, Op.bytesLess, Bool.or_eq_true, Bool.and_eq_true, beq_iff_eq, decide_eq_true_eq, Bool.or_eq_false_iff, Bool.and_eq_false_iff, decide_eq_false_iff_not]
    by_cases h1 : a < b
    · have h2 : ¬ b < a := by intro h; exact absurd (UInt8.lt_trans h1 h) (UInt8.lt_irrefl a)
      have h3 : ¬ b = a := by rintro rfl; exact UInt8.lt_irrefl b h1
      rw [if_pos h1]
      simp [h1, h2, h3]
    · by_cases h2 : b < a
      · have h3 : ¬ a = b := by rintro rfl; exact UInt8.lt_irrefl a h2
        rw [if_neg h1, if_pos h2]
        simp [h1, h2, h3]
      · have h3 : a = b := by
          apply UInt8.toNat.inj
          rw [UInt8.lt_iff_toNat_lt] at h1 h2
          omega
        subst h3
        rw [if_neg h1, if_neg h1]
        simp [ih]
theorem orI_two (x : Int) : orI [0, 0, x] = x := by
  simp [orI]; omega
theorem compareInt_self (x : Int) : compareInt x x = 0 := by simp [compareInt]
theorem less_cmp {a b : Val} (ha : qbh a) (hb : qbh b) (hk : a.k = b.k) : (cmpV a b < 0 ↔ lessB a b = true) ∧ (cmpV a b ≤ 0 ↔ lessB b a = false) := by
  obtain ⟨k, n, s⟩ := a
  obtain ⟨k2, n2, s2⟩ := b
  simp only at hk
  subst hk
  obtain ⟨ha, -⟩ := ha
  obtain ⟨hb, -⟩ := hb
  unfold okV at ha hb
  simp only at ha hb
  unfold cmpV lessB
  simp only [compareInt_self]
  by_cases h1 : k = 1
  · subst h1
    simp at ha hb
    rw [ha.1, hb.1, compareInt_self, orI_two]
    simp only [if_true, toList_data]
    exact bytes_cmp _ _
  · rw [if_neg h1, if_neg h1]
    have hs : s.toList = [] := by
      by_cases h0 : k = 0
      · rw [if_pos h0] at ha; simpa using ha
      · rw [if_neg h0, if_neg h1] at ha; simp at ha; exact ha.2
    have hs2 : s2.toList = [] := by
      by_cases h0 : k = 0
      · rw [if_pos h0] at hb; simpa using hb
      · rw [if_neg h0, if_neg h1] at hb; simp at hb; exact hb.2
    rw [toList_data] at hs hs2
    rw [hs, hs2]
    have : orI [0, compareInt n n2, compareBytes [] []] = compareInt n n2 := by
      simp only [compareBytes, orI]; simp; intro h; exact h.symm
    rw [this]
    unfold compareInt
    simp only [decide_eq_true_eq, decide_eq_false_iff_not]
    constructor
    · split
      · simp; omega
      · split <;> simp <;> omega
    · split
      · simp; omega
      · split <;> simp <;> omega
theorem rtruth_g (b : Bool) : Gives Tryd.prog 155 [.bool b] (boolV b).av := by
  cases b
  · refine qm Tryd.func155 Tryd.ntmps155 rfl rfl (by decide) rfl (by intro n; simp) fun σ n0 hcl hft => ?_
    repeat' (first | ((first | ((with_reducible refine qo (fun hg => ?_) (fun hg => ?_)) <;> (try simp only [hg]) <;> (try simp only [beq_iff_eq, beq_eq_false_iff_ne, ne_eq, decide_eq_true_eq, decide_eq_false_iff_not, bne_iff_ne, bne_eq_false_iff_eq] at hg) <;> (try (first | simp only [eq_false hg, if_true, if_false] | simp only [eq_true hg, if_true, if_false]))) | (with_reducible first | refine qd ?_ | refine qc ?_ | refine qi ?_ | refine qh ?_) | refine qf ?_ | refine qj ?_ | refine qk ?_ | refine qn ?_) <;> (try simp (disch := first | omega | simp) [ql, -qu, -qx])) | ((with_reducible first | refine sideG ?_ ?_ | refine qr ?_ ?_ | refine sideS ?_ ?_ | refine qs ?_ ?_ | refine qt ?_ ?_ | refine sideA ?_ ?_ | refine qp ?_ ?_ | refine qq ?_ ?_); first | omega | assumption | (simp; done)) | (refine qg fun K hK => ?_) | (refine qa ?_) | (refine qb true (by kernel_rfl) (by kernel_rfl) ?_) | (refine qb false (by kernel_rfl) (by kernel_rfl) ?_) | (refine hK _ ?_; clear hK K) | (clear hK K; refine hK _ ?_; clear hK K) | (clear hK K; clear hK K; refine hK _ ?_; clear hK K) | refine qe ?_)
    rfl
  · refine qm Tryd.func155 Tryd.ntmps155 rfl rfl (by decide) rfl (by intro n; simp) fun σ n0 hcl hft => ?_
    repeat' (first | ((first | ((with_reducible refine qo (fun hg => ?_) (fun hg => ?_)) <;> (try simp only [hg]) <;> (try simp only [beq_iff_eq, beq_eq_false_iff_ne, ne_eq, decide_eq_true_eq, decide_eq_false_iff_not, bne_iff_ne, bne_eq_false_iff_eq] at hg) <;> (try (first | simp only [eq_false hg, if_true, if_false] | simp only [eq_true hg, if_true, if_false]))) | (with_reducible first | refine qd ?_ | refine qc ?_ | refine qi ?_ | refine qh ?_) | refine qf ?_ | refine qj ?_ | refine qk ?_ | refine qn ?_) <;> (try simp (disch := first | omega | simp) [ql, -qu, -qx])) | ((with_reducible first | refine sideG ?_ ?_ | refine qr ?_ ?_ | refine sideS ?_ ?_ | refine qs ?_ ?_ | refine qt ?_ ?_ | refine sideA ?_ ?_ | refine qp ?_ ?_ | refine qq ?_ ?_); first | omega | assumption | (simp; done)) | (refine qg fun K hK => ?_) | (refine qa ?_) | (refine qb true (by kernel_rfl) (by kernel_rfl) ?_) | (refine qb false (by kernel_rfl) (by kernel_rfl) ?_) | (refine hK _ ?_; clear hK K) | (clear hK K; refine hK _ ?_; clear hK K) | (clear hK K; clear hK K; refine hK _ ?_; clear hK K) | refine qe ?_)
    rfl
theorem rless_g (a b : Val) : Gives Tryd.prog 156 [a.av, b.av] (.bool (lessB a b)) := by
  unfold lessB
  obtain ⟨k, n, s⟩ := a
  obtain ⟨k2, n2, s2⟩ := b
  by_cases h : k = 1
  · subst h
    refine qm Tryd.func156 Tryd.ntmps156 rfl rfl (by decide) rfl (by intro n; simp) fun σ n0 hcl hft => ?_
    repeat' (first | ((first | ((with_reducible refine qo (fun hg => ?_) (fun hg => ?_)) <;> (try simp only [hg]) <;> (try simp only [beq_iff_eq, beq_eq_false_iff_ne, ne_eq, decide_eq_true_eq, decide_eq_false_iff_not, bne_iff_ne, bne_eq_false_iff_eq] at hg) <;> (try (first | simp only [eq_false hg, if_true, if_false] | simp only [eq_true hg, if_true, if_false]))) | (with_reducible first | refine qd ?_ | refine qc ?_ | refine qi ?_ | refine qh ?_) | refine qf ?_ | refine qj ?_ | refine qk ?_ | refine qn ?_) <;> (try simp (disch := first | omega | simp) [ql, -qu, -qx])) | ((with_reducible first | refine sideG ?_ ?_ | refine qr ?_ ?_ | refine sideS ?_ ?_ | refine qs ?_ ?_ | refine qt ?_ ?_ | refine sideA ?_ ?_ | refine qp ?_ ?_ | refine qq ?_ ?_); first | omega | assumption | (simp; done)) | (refine qg fun K hK => ?_) | (refine qa ?_) | (refine qb true (by kernel_rfl) (by kernel_rfl) ?_) | (refine qb false (by kernel_rfl) (by kernel_rfl) ?_) | (refine hK _ ?_; clear hK K) | (clear hK K; refine hK _ ?_; clear hK K) | (clear hK K; clear hK K; refine hK _ ?_; clear hK K) | refine qe ?_)
    all_goals first | rfl | simp
  · refine qm Tryd.func156 Tryd.ntmps156 rfl rfl (by decide) rfl (by intro n; simp) fun σ n0 hcl hft => ?_
    repeat' (first | ((first | ((with_reducible refine qo (fun hg => ?_) (fun hg => ?_)) <;> (try simp only [hg]) <;> (try simp only [beq_iff_eq, beq_eq_false_iff_ne, ne_eq, decide_eq_true_eq, decide_eq_false_iff_not, bne_iff_ne, bne_eq_false_iff_eq] at hg) <;> (try (first | simp only [eq_false hg, if_true, if_false] | simp only [eq_true hg, if_true, if_false]))) | (with_reducible first | refine qd ?_ | refine qc ?_ | refine qi ?_ | refine qh ?_) | refine qf ?_ | refine qj ?_ | refine qk ?_ | refine qn ?_) <;> (try simp (disch := first | omega | simp) [ql, -qu, -qx, h])) | ((with_reducible first | refine sideG ?_ ?_ | refine qr ?_ ?_ | refine sideS ?_ ?_ | refine qs ?_ ?_ | refine qt ?_ ?_ | refine sideA ?_ ?_ | refine qp ?_ ?_ | refine qq ?_ ?_); first | omega | assumption | (simp; done)) | (refine qg fun K hK => ?_) | (refine qa ?_) | (refine qb true (by kernel_rfl) (by kernel_rfl) ?_) | (refine qb false (by kernel_rfl) (by kernel_rfl) ?_) | (refine hK _ ?_; clear hK K) | (clear hK K; refine hK _ ?_; clear hK K) | (clear hK K; clear hK K; refine hK _ ?_; clear hK K) | refine qe ?_)
    all_goals first | exact absurd (by assumption) h | simp_all
section
variable (call : Int → List Val → Val) (time : Int) (row params : List Val)
set_option maxHeartbeats 4000000 in
theorem rap0_g {op n : Int} {s : ByteArray} {l : List Ex} (hop : op = 0 ∨ op = 1 ∨ op = 2) (vs : List Val) : Gives Tryd.prog 150 [(Ex.mk op n s l).av, .sl (vs.map Val.av)] (opV call time row params op n s vs).av := by
  rw [Ex.av_mk]
  rcases hop with rfl | rfl | rfl
  all_goals
    refine qm Tryd.func150 Tryd.ntmps150 rfl rfl (by decide) rfl (by intro n; simp) fun σ n0 hcl hft => ?_
    repeat' (first | ((first | ((with_reducible refine qo (fun hg => ?_) (fun hg => ?_)) <;> (try simp only [hg]) <;> (try simp only [beq_iff_eq, beq_eq_false_iff_ne, ne_eq, decide_eq_true_eq, decide_eq_false_iff_not, bne_iff_ne, bne_eq_false_iff_eq] at hg) <;> (try (first | simp only [eq_false hg, if_true, if_false] | simp only [eq_true hg, if_true, if_false]))) | (with_reducible first | refine qd ?_ | refine qc ?_ | refine qi ?_ | refine qh ?_) | refine acall (rtruth_g _) ?_ | refine qv (rtruth_g _) ?_ | refine qw (rtruth_g _) ?_ | refine qf ?_ | refine qj ?_ | refine qk ?_ | refine qn ?_) <;> (try simp (disch := first | omega | simp) [ql, -qu, -qx])) | ((with_reducible first | refine sideG ?_ ?_ | refine qr ?_ ?_ | refine sideS ?_ ?_ | refine qs ?_ ?_ | refine qt ?_ ?_ | refine sideA ?_ ?_ | refine qp ?_ ?_ | refine qq ?_ ?_); first | omega | assumption | (simp; done)) | (refine qg fun K hK => ?_) | (refine qa ?_) | (refine qb true (by kernel_rfl) (by kernel_rfl) ?_) | (refine qb false (by kernel_rfl) (by kernel_rfl) ?_) | (refine hK _ ?_; clear hK K) | (clear hK K; refine hK _ ?_; clear hK K) | (clear hK K; clear hK K; refine hK _ ?_; clear hK K) | refine qe ?_)
    all_goals simp [opV, numV, boolV, textV, Val.av, -Val.av_fold]
set_option maxHeartbeats 4000000 in
theorem rap1_g {op n : Int} {s : ByteArray} {l : List Ex} (hop : op = 6 ∨ op = 7 ∨ op = 20) (a : Val) : Gives Tryd.prog 150 [(Ex.mk op n s l).av, .sl [a.av]] (opV call time row params op n s [a]).av := by
  rw [Ex.av_mk]
  rcases hop with rfl | rfl | rfl
  all_goals
    refine qm Tryd.func150 Tryd.ntmps150 rfl rfl (by decide) rfl (by intro n; simp) fun σ n0 hcl hft => ?_
    repeat' (first | ((first | ((with_reducible refine qo (fun hg => ?_) (fun hg => ?_)) <;> (try simp only [hg]) <;> (try simp only [beq_iff_eq, beq_eq_false_iff_ne, ne_eq, decide_eq_true_eq, decide_eq_false_iff_not, bne_iff_ne, bne_eq_false_iff_eq] at hg) <;> (try (first | simp only [eq_false hg, if_true, if_false] | simp only [eq_true hg, if_true, if_false]))) | (with_reducible first | refine qd ?_ | refine qc ?_ | refine qi ?_ | refine qh ?_) | refine acall (rtruth_g _) ?_ | refine qv (rtruth_g _) ?_ | refine qw (rtruth_g _) ?_ | refine qf ?_ | refine qj ?_ | refine qk ?_ | refine qn ?_) <;> (try simp (disch := first | omega | simp) [ql, -qu, -qx])) | ((with_reducible first | refine sideG ?_ ?_ | refine qr ?_ ?_ | refine sideS ?_ ?_ | refine qs ?_ ?_ | refine qt ?_ ?_ | refine sideA ?_ ?_ | refine qp ?_ ?_ | refine qq ?_ ?_); first | omega | assumption | (simp; done)) | (refine qg fun K hK => ?_) | (refine qa ?_) | (refine qb true (by kernel_rfl) (by kernel_rfl) ?_) | (refine qb false (by kernel_rfl) (by kernel_rfl) ?_) | (refine hK _ ?_; clear hK K) | (clear hK K; refine hK _ ?_; clear hK K) | (clear hK K; clear hK K; refine hK _ ?_; clear hK K) | refine qe ?_)
    all_goals simp [opV, numV, boolV, textV, Val.av, hw64, -Val.av_fold]
set_option maxHeartbeats 8000000 in
theorem rap2_g {op n : Int} {s : ByteArray} {l : List Ex} (hop : 8 ≤ op ∧ op ≤ 19) (a b : Val) (hc : op = 15 ∨ op = 16 → (cmpV a b < 0 ↔ lessB a b = true) ∧ (cmpV a b ≤ 0 ↔ lessB b a = false)) (hs : a.s.size + b.s.size ≤ 1000) :
    Gives Tryd.prog 150 [(Ex.mk op n s l).av, .sl [a.av, b.av]] (opV call time row params op n s [a, b]).av := by
  rw [Ex.av_mk]
  obtain ⟨R, hR⟩ : ∃ R, R = opV call time row params op n s [a, b] := ⟨_, rfl⟩
  rw [← hR]
  unfold opV at hR
  rw [if_neg (by omega), if_neg (by omega), if_neg (by omega), if_neg (by omega), if_neg (by omega), if_neg (by omega), if_neg (by omega), if_neg (by omega), if_neg (by omega), if_neg (by omega)] at hR
  rw [show [a, b].getD 0 zeroV = a from rfl, show [a, b].getD 1 zeroV = b from rfl] at hR
  unfold binV divI modI at hR
  have hop' : op = 8 ∨ op = 9 ∨ op = 10 ∨ op = 11 ∨ op = 12 ∨ op = 13 ∨ op = 14 ∨ op = 15 ∨ op = 16 ∨ op = 17 ∨ op = 18 ∨ op = 19 := by omega
  have hsz : a.s.size + b.s.size ≤ 9223372036854775807 := by omega
  have hM : (if (200 : Int) < (a.s.size : Int) + (b.s.size : Int) then 200 else (a.s.size : Int) + (b.s.size : Int)) = ((min (a.s.size + b.s.size) 200 : Nat) : Int) := by split <;> omega
  have hM2 : min (a.s.size + b.s.size) 200 ≤ a.s.size + b.s.size := by omega
  have hJ : joinS a.s b.s = (a.s ++ b.s).extract 0 (min (a.s.size + b.s.size) 200) := rfl
  generalize hMM : min (a.s.size + b.s.size) 200 = M at *
  rcases hop' with rfl | rfl | rfl | rfl | rfl | rfl | rfl | rfl | rfl | rfl | rfl | rfl
  all_goals
    refine qm Tryd.func150 Tryd.ntmps150 rfl rfl (by decide) rfl (by intro n; simp) fun σ n0 hcl hft => ?_
    repeat' (first | ((first | ((with_reducible refine qo (fun hg => ?_) (fun hg => ?_)) <;> (try simp only [hg]) <;> (try simp only [beq_iff_eq, beq_eq_false_iff_ne, ne_eq, decide_eq_true_eq, decide_eq_false_iff_not, bne_iff_ne, bne_eq_false_iff_eq] at hg) <;> (try (first | simp only [eq_false hg, if_true, if_false] | simp only [eq_true hg, if_true, if_false]))) | (with_reducible first | refine qd ?_ | refine qc ?_ | refine qi ?_ | refine qh ?_) | refine acall (rtruth_g _) ?_ | refine qv (rtruth_g _) ?_ | refine qw (rtruth_g _) ?_ | refine acall (rless_g _ _) ?_ | refine qv (rless_g _ _) ?_ | refine qw (rless_g _ _) ?_ | refine qf ?_ | refine qj ?_ | refine qk ?_ | refine qn ?_) <;> (try simp (disch := first | omega | simp) [ql, -qu, -qx, hsz, hM, hM2])) | ((with_reducible first | refine sideG ?_ ?_ | refine qr ?_ ?_ | refine sideS ?_ ?_ | refine qs ?_ ?_ | refine qt ?_ ?_ | refine sideA ?_ ?_ | refine qp ?_ ?_ | refine qq ?_ ?_); first | omega | assumption | (simp; done)) | (refine qg fun K hK => ?_) | (refine qa ?_) | (refine qb true (by kernel_rfl) (by kernel_rfl) ?_) | (refine qb false (by kernel_rfl) (by kernel_rfl) ?_) | (refine hK _ ?_; clear hK K) | (clear hK K; refine hK _ ?_; clear hK K) | (clear hK K; clear hK K; refine hK _ ?_; clear hK K) | refine qe ?_)
    all_goals first | (rw [hR]; simp_all [Val.av, numV, boolV, textV, hw64, eqB_eqV, -Val.av_fold]; done)
end
end Go.Proofs.YtnkakofcejkhiaaDoor

/- Walks of layer 25's reference: names, operands, whether an instruction is formed. -/
namespace Go.Proofs.YtnkakofcejkhiaaDoor
open Go.RowKit Go.Lib
theorem rarity_g (o : Int) : Gives Tryd.prog 119 [.int o] (.int (arO o)) := by
  obtain ⟨R, hR⟩ : ∃ R, R = arO o := ⟨_, rfl⟩
  rw [← hR]
  unfold arO at hR
  refine qm Tryd.func119 Tryd.ntmps119 rfl rfl (by decide) rfl (by intro n; simp) fun σ n0 hcl hft => ?_
  repeat' (first | ((first | ((with_reducible refine qo (fun hg => ?_) (fun hg => ?_)) <;> (try simp only [hg]) <;> (try simp only [beq_iff_eq, beq_eq_false_iff_ne, ne_eq, decide_eq_true_eq, decide_eq_false_iff_not, bne_iff_ne, bne_eq_false_iff_eq] at hg) <;> (try (first | simp only [eq_false hg, if_true, if_false] | simp only [eq_true hg, if_true, if_false]))) | (with_reducible first | refine qd ?_ | refine qc ?_ | refine qi ?_ | refine qh ?_) | refine qf ?_ | refine qj ?_ | refine qk ?_ | refine qn ?_ | refine awp_label ?_) <;> (try simp (disch := first | omega | simp) [ql, -qu, -qx])) | ((with_reducible first | refine sideG ?_ ?_ | refine qr ?_ ?_ | refine sideS ?_ ?_ | refine qs ?_ ?_ | refine qt ?_ ?_ | refine sideA ?_ ?_ | refine qp ?_ ?_ | refine qq ?_ ?_); first | omega | assumption | (simp; done)) | (refine qg fun K hK => ?_) | (refine qa ?_) | (refine qb true (by kernel_rfl) (by kernel_rfl) ?_) | (refine qb false (by kernel_rfl) (by kernel_rfl) ?_) | (refine hK _ ?_; clear hK K) | (clear hK K; refine hK _ ?_; clear hK K) | (clear hK K; clear hK K; refine hK _ ?_; clear hK K) | refine qe ?_ | refine awp_scope ?_)
  all_goals (subst hR; simp_all)
def nameS (o : Int) : ByteArray := if 0 ≤ o ∧ o < 23 then (match qz[o.toNat]? with | some (.string s) => s | _ => ByteArray.empty) else ByteArray.empty
theorem cases23 {o : Int} (h : 0 ≤ o ∧ o < 23) : o = 0 ∨ o = 1 ∨ o = 2 ∨ o = 3 ∨ o = 4 ∨ o = 5 ∨ o = 6 ∨ o = 7 ∨ o = 8 ∨ o = 9 ∨ o = 10 ∨ o = 11 ∨ o = 12 ∨ o = 13 ∨ o = 14 ∨ o = 15 ∨ o = 16 ∨ o = 17 ∨ o = 18 ∨ o = 19 ∨ o = 20 ∨ o = 21 ∨ o = 22 := by omega
theorem nameS_ok (o : Int) : (nameS o).toList = [] ↔ opOk o = false := by
  rw [ByteArray.toList_eq]
  by_cases h : 0 ≤ o ∧ o < 23
  · rcases cases23 h with rfl | rfl | rfl | rfl | rfl | rfl | rfl | rfl | rfl | rfl | rfl | rfl | rfl | rfl | rfl | rfl | rfl | rfl | rfl | rfl | rfl | rfl | rfl
    all_goals decide
  · unfold nameS
    rw [if_neg h]
    have hf : opOk o = false := by unfold opOk; simp; omega
    rw [hf]; simp
set_option maxHeartbeats 4000000 in
theorem rname_g (o : Int) : Gives Tryd.prog 118 [.int o] (.str (nameS o)) := by
  by_cases h : 0 ≤ o ∧ o < 23
  · rcases cases23 h with rfl | rfl | rfl | rfl | rfl | rfl | rfl | rfl | rfl | rfl | rfl | rfl | rfl | rfl | rfl | rfl | rfl | rfl | rfl | rfl | rfl | rfl | rfl
    all_goals
      refine qm Tryd.func118 Tryd.ntmps118 rfl rfl (by decide) rfl (by intro n; simp) fun σ n0 hcl hft => ?_
      repeat' (first | ((first | ((with_reducible refine qo (fun hg => ?_) (fun hg => ?_)) <;> (try simp only [hg]) <;> (try simp only [beq_iff_eq, beq_eq_false_iff_ne, ne_eq, decide_eq_true_eq, decide_eq_false_iff_not, bne_iff_ne, bne_eq_false_iff_eq] at hg) <;> (try (first | simp only [eq_false hg, if_true, if_false] | simp only [eq_true hg, if_true, if_false]))) | (with_reducible first | refine qd ?_ | refine qc ?_ | refine qi ?_ | refine qh ?_) | refine qf ?_ | refine qj ?_ | refine qk ?_ | refine qn ?_) <;> (try simp (disch := first | omega | simp) [ql, -qu, -qx])) | ((with_reducible first | refine sideG ?_ ?_ | refine qr ?_ ?_ | refine sideS ?_ ?_ | refine qs ?_ ?_ | refine qt ?_ ?_ | refine sideA ?_ ?_ | refine qp ?_ ?_ | refine qq ?_ ?_); first | omega | assumption | (simp; done)) | (refine qg fun K hK => ?_) | (refine qa ?_) | (refine qb true (by kernel_rfl) (by kernel_rfl) ?_) | (refine hK _ ?_; clear hK K) | (clear hK K; refine hK _ ?_; clear hK K) | (clear hK K; clear hK K; refine hK _ ?_; clear hK K) | refine qe ?_)
      try rfl
  · have hn : nameS o = ByteArray.empty := by unfold nameS; rw [if_neg h]
    rw [hn]
    by_cases h0 : o < 0
    · refine qm Tryd.func118 Tryd.ntmps118 rfl rfl (by decide) rfl (by intro n; simp) fun σ n0 hcl hft => ?_
      repeat' (first | ((first | ((with_reducible refine qo (fun hg => ?_) (fun hg => ?_)) <;> (try simp only [hg]) <;> (try simp only [beq_iff_eq, beq_eq_false_iff_ne, ne_eq, decide_eq_true_eq, decide_eq_false_iff_not, bne_iff_ne, bne_eq_false_iff_eq] at hg) <;> (try (first | simp only [eq_false hg, if_true, if_false] | simp only [eq_true hg, if_true, if_false]))) | (with_reducible first | refine qd ?_ | refine qc ?_ | refine qi ?_ | refine qh ?_) | refine qf ?_ | refine qj ?_ | refine qk ?_ | refine qn ?_) <;> (try simp (disch := first | omega | simp) [ql, -qu, -qx, h0])) | ((with_reducible first | refine sideG ?_ ?_ | refine qr ?_ ?_ | refine sideS ?_ ?_ | refine qs ?_ ?_ | refine qt ?_ ?_ | refine sideA ?_ ?_ | refine qp ?_ ?_ | refine qq ?_ ?_); first | omega | assumption | (simp; done)) | (refine qg fun K hK => ?_) | (refine qa ?_) | (refine qb true (by kernel_rfl) (by kernel_rfl) ?_) | (refine hK _ ?_; clear hK K) | (clear hK K; refine hK _ ?_; clear hK K) | (clear hK K; clear hK K; refine hK _ ?_; clear hK K) | refine qe ?_)
      all_goals first | rfl | (exfalso; omega) | skip
    · have h1 : (23 : Int) ≤ o := by omega
      refine qm Tryd.func118 Tryd.ntmps118 rfl rfl (by decide) rfl (by intro n; simp) fun σ n0 hcl hft => ?_
      repeat' (first | ((first | ((with_reducible refine qo (fun hg => ?_) (fun hg => ?_)) <;> (try simp only [hg]) <;> (try simp only [beq_iff_eq, beq_eq_false_iff_ne, ne_eq, decide_eq_true_eq, decide_eq_false_iff_not, bne_iff_ne, bne_eq_false_iff_eq] at hg) <;> (try (first | simp only [eq_false hg, if_true, if_false] | simp only [eq_true hg, if_true, if_false]))) | (with_reducible first | refine qd ?_ | refine qc ?_ | refine qi ?_ | refine qh ?_) | refine qf ?_ | refine qj ?_ | refine qk ?_ | refine qn ?_) <;> (try simp (disch := first | omega | simp) [ql, -qu, -qx, h0, h1])) | ((with_reducible first | refine sideG ?_ ?_ | refine qr ?_ ?_ | refine sideS ?_ ?_ | refine qs ?_ ?_ | refine qt ?_ ?_ | refine sideA ?_ ?_ | refine qp ?_ ?_ | refine qq ?_ ?_); first | omega | assumption | (simp; done)) | (refine qg fun K hK => ?_) | (refine qa ?_) | (refine qb true (by kernel_rfl) (by kernel_rfl) ?_) | (refine hK _ ?_; clear hK K) | (clear hK K; refine hK _ ?_; clear hK K) | (clear hK K; clear hK K; refine hK _ ?_; clear hK K) | refine qe ?_)
      all_goals first | rfl | (exfalso; omega) | skip
set_option maxHeartbeats 1000000 in
theorem rops_g (x : Ins) : Gives Tryd.prog 72 [x.av] (.sl ((opsP x).map AV.int)) := by
  have c1 := rname_g x.op
  have c2 := rarity_g x.op
  have hle := arO_le x.op
  have hok := nameS_ok x.op
  unfold opsP
  generalize opOk x.op = b at *
  generalize arO x.op = n at *
  generalize nameS x.op = s at *
  have hcl : ∀ m, AV.cls m ([AV.int x.a, .int x.b, .int x.c].take n) := fun m => AV.cls_take (by simp) n
  cases b
  · have hs : s.toList = [] := hok.2 rfl
    refine qm Tryd.func72 Tryd.ntmps72 rfl rfl (by decide) rfl (by intro n; simp) fun σ n0 hcl hft => ?_
    repeat' (first | ((first | ((with_reducible refine qo (fun hg => ?_) (fun hg => ?_)) <;> (try simp only [hg]) <;> (try simp only [beq_iff_eq, beq_eq_false_iff_ne, ne_eq, decide_eq_true_eq, decide_eq_false_iff_not, bne_iff_ne, bne_eq_false_iff_eq] at hg) <;> (try (first | simp only [eq_false hg, if_true, if_false] | simp only [eq_true hg, if_true, if_false]))) | (with_reducible first | refine qd ?_ | refine qc ?_ | refine qi ?_ | refine qh ?_) | refine acall (c1) ?_ | refine qv (c1) ?_ | refine qw (c1) ?_ | refine qf ?_ | refine qj ?_ | refine qk ?_ | refine qn ?_) <;> (try simp (disch := first | omega | simp) [ql, -qu, -qx, hs])) | ((with_reducible first | refine sideG ?_ ?_ | refine qr ?_ ?_ | refine sideS ?_ ?_ | refine qs ?_ ?_ | refine qt ?_ ?_ | refine sideA ?_ ?_ | refine qp ?_ ?_ | refine qq ?_ ?_); first | omega | assumption | (simp; done)) | (refine qg fun K hK => ?_) | (refine qa ?_) | (refine qb true (by kernel_rfl) (by kernel_rfl) ?_) | (refine qb false (by kernel_rfl) (by kernel_rfl) ?_) | (refine hK _ ?_; clear hK K) | (clear hK K; refine hK _ ?_; clear hK K) | (clear hK K; clear hK K; refine hK _ ?_; clear hK K) | refine qe ?_)
    all_goals first | rfl
  · have hs : ¬ s.toList = [] := fun e => by have := hok.1 e; cases this
    refine qm Tryd.func72 Tryd.ntmps72 rfl rfl (by decide) rfl (by intro n; simp) fun σ n0 hcl hft => ?_
    repeat' (first | ((first | ((with_reducible refine qo (fun hg => ?_) (fun hg => ?_)) <;> (try simp only [hg]) <;> (try simp only [beq_iff_eq, beq_eq_false_iff_ne, ne_eq, decide_eq_true_eq, decide_eq_false_iff_not, bne_iff_ne, bne_eq_false_iff_eq] at hg) <;> (try (first | simp only [eq_false hg, if_true, if_false] | simp only [eq_true hg, if_true, if_false]))) | (with_reducible first | refine qd ?_ | refine qc ?_ | refine qi ?_ | refine qh ?_) | refine acall (c1) ?_ | refine qv (c1) ?_ | refine qw (c1) ?_ | refine acall (c2) ?_ | refine qv (c2) ?_ | refine qw (c2) ?_ | refine qf ?_ | refine qj ?_ | refine qk ?_ | refine qn ?_) <;> (try simp (disch := first | omega | simp) [ql, -qu, -qx, hs])) | ((with_reducible first | refine sideG ?_ ?_ | refine qr ?_ ?_ | refine sideS ?_ ?_ | refine qs ?_ ?_ | refine qt ?_ ?_ | refine sideA ?_ ?_ | refine qp ?_ ?_ | refine qq ?_ ?_); first | omega | assumption | (simp; done)) | (refine qg fun K hK => ?_) | (refine qa ?_) | (refine qb true (by kernel_rfl) (by kernel_rfl) ?_) | (refine qb false (by kernel_rfl) (by kernel_rfl) ?_) | (refine hK _ ?_; clear hK K) | (clear hK K; refine hK _ ?_; clear hK K) | (clear hK K; clear hK K; refine hK _ ?_; clear hK K) | refine qe ?_)
    all_goals first | exact hcl _ | (simp_all; done)
set_option maxHeartbeats 4000000 in
theorem rformed_g (x : Ins) : Gives Tryd.prog 71 [x.av] (.bool (qbw x)) := by
  have c1 := rname_g x.op
  have c2 := rarity_g x.op
  have hle := arO_le x.op
  have hok := nameS_ok x.op
  obtain ⟨R, hR⟩ : ∃ R, R = qbw x := ⟨_, rfl⟩
  rw [← hR]
  unfold qbw at hR
  generalize opOk x.op = b at *
  generalize arO x.op = n at *
  generalize nameS x.op = s at *
  have hz : x.s.size = 0 ↔ x.s.toList = [] := by
    rw [Lib.size_eq, ← ByteArray.toList_eq]; exact List.length_eq_zero_iff
  simp only [hz] at hR
  cases b
  · have hs : s.toList = [] := hok.2 rfl
    rw [Bool.false_and, Bool.false_and] at hR
    refine qm Tryd.func71 Tryd.ntmps71 rfl rfl (by decide) rfl (by intro n; simp) fun σ n0 hcl hft => ?_
    repeat' (first | ((first | ((with_reducible refine qo (fun hg => ?_) (fun hg => ?_)) <;> (try simp only [hg]) <;> (try simp only [beq_iff_eq, beq_eq_false_iff_ne, ne_eq, decide_eq_true_eq, decide_eq_false_iff_not, bne_iff_ne, bne_eq_false_iff_eq] at hg) <;> (try (first | simp only [eq_false hg, if_true, if_false] | simp only [eq_true hg, if_true, if_false]))) | (with_reducible first | refine qd ?_ | refine qc ?_ | refine qi ?_ | refine qh ?_) | refine acall (c1) ?_ | refine qv (c1) ?_ | refine qw (c1) ?_ | refine qf ?_ | refine qj ?_ | refine qk ?_ | refine qn ?_) <;> (try simp (disch := first | omega | simp) [ql, -qu, -qx, hs])) | ((with_reducible first | refine sideG ?_ ?_ | refine qr ?_ ?_ | refine sideS ?_ ?_ | refine qs ?_ ?_ | refine qt ?_ ?_ | refine sideA ?_ ?_ | refine qp ?_ ?_ | refine qq ?_ ?_); first | omega | assumption | (simp; done)) | (refine qg fun K hK => ?_) | (refine qa ?_) | (refine qb true (by kernel_rfl) (by kernel_rfl) ?_) | (refine qb false (by kernel_rfl) (by kernel_rfl) ?_) | (refine hK _ ?_; clear hK K) | (clear hK K; refine hK _ ?_; clear hK K) | (clear hK K; clear hK K; refine hK _ ?_; clear hK K) | refine qe ?_)
    all_goals (rw [hR])
  · have hs : ¬ s.toList = [] := fun e => by have := hok.1 e; cases this
    rw [Bool.true_and] at hR
    have hn : n = 0 ∨ n = 1 ∨ n = 2 ∨ n = 3 := by omega
    clear hok
    rcases hn with rfl | rfl | rfl | rfl
    all_goals
      refine qm Tryd.func71 Tryd.ntmps71 rfl rfl (by decide) rfl (by intro n; simp) fun σ n0 hcl hft => ?_
      repeat' (first | ((first | ((with_reducible refine qo (fun hg => ?_) (fun hg => ?_)) <;> (try simp only [hg]) <;> (try simp only [beq_iff_eq, beq_eq_false_iff_ne, ne_eq, decide_eq_true_eq, decide_eq_false_iff_not, bne_iff_ne, bne_eq_false_iff_eq] at hg) <;> (try (first | simp only [eq_false hg, if_true, if_false] | simp only [eq_true hg, if_true, if_false]))) | (with_reducible first | refine qd ?_ | refine qc ?_ | refine qi ?_ | refine qh ?_) | refine acall (c1) ?_ | refine qv (c1) ?_ | refine qw (c1) ?_ | refine acall (c2) ?_ | refine qv (c2) ?_ | refine qw (c2) ?_ | refine qf ?_ | refine qj ?_ | refine qk ?_ | refine qn ?_) <;> (try simp (disch := first | omega | simp) [ql, -qu, -qx, hs])) | ((with_reducible first | refine sideG ?_ ?_ | refine qr ?_ ?_ | refine sideS ?_ ?_ | refine qs ?_ ?_ | refine qt ?_ ?_ | refine sideA ?_ ?_ | refine qp ?_ ?_ | refine qq ?_ ?_); first | omega | assumption | (simp; done)) | (refine qg fun K hK => ?_) | (refine qa ?_) | (refine qb true (by kernel_rfl) (by kernel_rfl) ?_) | (refine qb false (by kernel_rfl) (by kernel_rfl) ?_) | (refine hK _ ?_; clear hK K) | (clear hK K; refine hK _ ?_; clear hK K) | (clear hK K; clear hK K; refine hK _ ?_; clear hK K) | refine qe ?_)
      all_goals first | (rw [hR, Bool.eq_iff_iff]; simp_all; done) | (rw [hR, Bool.eq_iff_iff]; simp_all; omega)
end Go.Proofs.YtnkakofcejkhiaaDoor

/- Walks of layer 25's reference: what an instruction computes; the results of a program; its value. -/
namespace Go.Proofs.YtnkakofcejkhiaaDoor
open Go.RowKit Go.Lib
def konstE (v : Val) : Ex := if v.k = 1 then .mk 1 0 v.s [] else if v.k = 2 then .mk 2 v.n ByteArray.empty [] else .mk 0 v.n ByteArray.empty []
theorem rconst_g (v : Val) : Gives Tryd.prog 121 [v.av] (konstE v).av := by
  unfold konstE
  obtain ⟨k, n, s⟩ := v
  by_cases h1 : k = 1
  · subst h1
    refine qm Tryd.func121 Tryd.ntmps121 rfl rfl (by decide) rfl (by intro n; simp) fun σ n0 hcl hft => ?_
    repeat' (first | ((first | ((with_reducible refine qo (fun hg => ?_) (fun hg => ?_)) <;> (try simp only [hg]) <;> (try simp only [beq_iff_eq, beq_eq_false_iff_ne, ne_eq, decide_eq_true_eq, decide_eq_false_iff_not, bne_iff_ne, bne_eq_false_iff_eq] at hg) <;> (try (first | simp only [eq_false hg, if_true, if_false] | simp only [eq_true hg, if_true, if_false]))) | (with_reducible first | refine qd ?_ | refine qc ?_ | refine qi ?_ | refine qh ?_) | refine qf ?_ | refine qj ?_ | refine qk ?_ | refine qn ?_) <;> (try simp (disch := first | omega | simp) [ql, -qu, -qx])) | ((with_reducible first | refine sideG ?_ ?_ | refine qr ?_ ?_ | refine sideS ?_ ?_ | refine qs ?_ ?_ | refine qt ?_ ?_ | refine sideA ?_ ?_ | refine qp ?_ ?_ | refine qq ?_ ?_); first | omega | assumption | (simp; done)) | (refine qg fun K hK => ?_) | (refine qa ?_) | (refine qb true (by kernel_rfl) (by kernel_rfl) ?_) | (refine qb false (by kernel_rfl) (by kernel_rfl) ?_) | (refine hK _ ?_; clear hK K) | (clear hK K; refine hK _ ?_; clear hK K) | (clear hK K; clear hK K; refine hK _ ?_; clear hK K) | refine qe ?_)
    all_goals (simp [Ex.av_mk])
  · by_cases h2 : k = 2
    · subst h2
      refine qm Tryd.func121 Tryd.ntmps121 rfl rfl (by decide) rfl (by intro n; simp) fun σ n0 hcl hft => ?_
      repeat' (first | ((first | ((with_reducible refine qo (fun hg => ?_) (fun hg => ?_)) <;> (try simp only [hg]) <;> (try simp only [beq_iff_eq, beq_eq_false_iff_ne, ne_eq, decide_eq_true_eq, decide_eq_false_iff_not, bne_iff_ne, bne_eq_false_iff_eq] at hg) <;> (try (first | simp only [eq_false hg, if_true, if_false] | simp only [eq_true hg, if_true, if_false]))) | (with_reducible first | refine qd ?_ | refine qc ?_ | refine qi ?_ | refine qh ?_) | refine qf ?_ | refine qj ?_ | refine qk ?_ | refine qn ?_) <;> (try simp (disch := first | omega | simp) [ql, -qu, -qx])) | ((with_reducible first | refine sideG ?_ ?_ | refine qr ?_ ?_ | refine sideS ?_ ?_ | refine qs ?_ ?_ | refine qt ?_ ?_ | refine sideA ?_ ?_ | refine qp ?_ ?_ | refine qq ?_ ?_); first | omega | assumption | (simp; done)) | (refine qg fun K hK => ?_) | (refine qa ?_) | (refine qb true (by kernel_rfl) (by kernel_rfl) ?_) | (refine qb false (by kernel_rfl) (by kernel_rfl) ?_) | (refine hK _ ?_; clear hK K) | (clear hK K; refine hK _ ?_; clear hK K) | (clear hK K; clear hK K; refine hK _ ?_; clear hK K) | refine qe ?_)
      all_goals (simp [Ex.av_mk])
    · simp only [if_neg h1, if_neg h2]
      refine qm Tryd.func121 Tryd.ntmps121 rfl rfl (by decide) rfl (by intro n; simp) fun σ n0 hcl hft => ?_
      repeat' (first | ((first | ((with_reducible refine qo (fun hg => ?_) (fun hg => ?_)) <;> (try simp only [hg]) <;> (try simp only [beq_iff_eq, beq_eq_false_iff_ne, ne_eq, decide_eq_true_eq, decide_eq_false_iff_not, bne_iff_ne, bne_eq_false_iff_eq] at hg) <;> (try (first | simp only [eq_false hg, if_true, if_false] | simp only [eq_true hg, if_true, if_false]))) | (with_reducible first | refine qd ?_ | refine qc ?_ | refine qi ?_ | refine qh ?_) | refine qf ?_ | refine qj ?_ | refine qk ?_ | refine qn ?_) <;> (try simp (disch := first | omega | simp) [ql, -qu, -qx, h1, h2])) | ((with_reducible first | refine sideG ?_ ?_ | refine qr ?_ ?_ | refine sideS ?_ ?_ | refine qs ?_ ?_ | refine qt ?_ ?_ | refine sideA ?_ ?_ | refine qp ?_ ?_ | refine qq ?_ ?_); first | omega | assumption | (simp; done)) | (refine qg fun K hK => ?_) | (refine qa ?_) | (refine qb true (by kernel_rfl) (by kernel_rfl) ?_) | (refine qb false (by kernel_rfl) (by kernel_rfl) ?_) | (refine hK _ ?_; clear hK K) | (clear hK K; refine hK _ ?_; clear hK K) | (clear hK K; clear hK K; refine hK _ ?_; clear hK K) | refine qe ?_)
      all_goals first | exact absurd (by assumption) h1 | exact absurd (by assumption) h2 | (simp [Ex.av_mk])
def cntAv (v : Val) (n : Int) : AV := .agg [.int v.k, .int v.n, .str v.s, .int n]
abbrev opR (time : Int) (R : List Val) (op n : Int) (s : ByteArray) (vs : List Val) : Val := opV (fun _ _ => zeroV) time R [] op n s vs
set_option maxHeartbeats 8000000 in
theorem rrunG {op n : Int} {s : ByteArray} {time : Int} {R vs : List Val} (hvs : ∀ v ∈ vs, Gives Tryd.prog 139 [.sl [], (konstE v).av, .int time, .sl (R.map Val.av), .sl []] (cntAv v 1))
    (h21 : ¬ op = 21) (h4 : ¬ op = 4) (h22 : ¬ op = 22) (hcol : op = 3 → 0 ≤ n ∧ n < R.length) (c1 : ¬ op = 3 → ¬ op = 5 → Gives Tryd.prog 150 [(Ex.mk op n s (vs.map konstE)).av, .sl (vs.map Val.av)] (opR time R op n s vs).av) (hl : vs.length ≤ 3) :
    Gives Tryd.prog 139 [.sl [], (Ex.mk op n s (vs.map konstE)).av, .int time, .sl (R.map Val.av), .sl []] (cntAv (opR time R op n s vs) (1 + vs.length)) := by
  rw [Ex.av_mk] at c1 ⊢
  obtain ⟨A, hA⟩ : ∃ A, A = vs.map konstE := ⟨_, rfl⟩
  have hAl : A.length = vs.length := by rw [hA, List.length_map]
  have hAg : ∀ i (h : i < vs.length) (h2 : i < A.length), A[i] = konstE vs[i] := fun i h h2 => by subst hA; simp
  rw [← hA] at c1 ⊢
  clear hA
  obtain ⟨V, hV⟩ : ∃ V, V = opR time R op n s vs := ⟨_, rfl⟩
  rw [← hV] at c1 ⊢
  unfold cntAv
  refine qm Tryd.func139 Tryd.ntmps139 rfl rfl (by decide) rfl (by intro n; simp) fun σ n0 hcl hft => ?_
  repeat' (first | ((first | ((with_reducible refine qo (fun hg => ?_) (fun hg => ?_)) <;> (try simp only [hg]) <;> (try simp only [beq_iff_eq, beq_eq_false_iff_ne, ne_eq, decide_eq_true_eq, decide_eq_false_iff_not, bne_iff_ne, bne_eq_false_iff_eq] at hg) <;> (try (first | simp only [eq_false hg, if_true, if_false] | simp only [eq_true hg, if_true, if_false]))) | (with_reducible first | refine qd ?_ | refine qc ?_ | refine qi ?_ | refine qh ?_) | refine qf ?_ | refine qj ?_ | refine qk ?_ | refine qn ?_) <;> (try simp (disch := first | omega | simp) [ql, -qu, -qx, h21])) | ((with_reducible first | refine sideG ?_ ?_ | refine qr ?_ ?_ | refine sideS ?_ ?_ | refine qs ?_ ?_ | refine qt ?_ ?_ | refine sideA ?_ ?_ | refine qp ?_ ?_ | refine qq ?_ ?_); first | omega | assumption | (simp; done)) | (refine qg fun K hK => ?_) | (refine qa ?_) | (refine qb true (by kernel_rfl) (by kernel_rfl) ?_) | (refine qb false (by kernel_rfl) (by kernel_rfl) ?_) | (refine hK _ ?_; clear hK K) | (clear hK K; refine hK _ ?_; clear hK K) | (clear hK K; clear hK K; refine hK _ ?_; clear hK K) | refine qe ?_)
  all_goals first | exact absurd (by assumption) h21 | skip
  refine awp_adoptR 15 39 3 (by simp) ?_
  refine qbb hcl (fun i : Nat => [(0, .sl []), (2, .int time), (3, .sl (R.map Val.av)), (4, .sl []), (6, .ptr n0 0), (10, .ptr (n0 + 1) 0), (14, .int (1 + (i : Int))), (15, .gs (n0 + 2) ((vs.take i).map Val.av)), (16, .int i)])
    (fun i => [.cells [.int op, .int n, .str s, .sl (A.map Ex.av)] 52, .cells [.int 0, .int 0, .str ByteArray.empty, .int 0] 161, .tail i 39 3])
    (fun i => i ≤ vs.length) (fun i => vs.length - i) 0 (by simp) (by simp) fun i hi => ?_
  by_cases hlt : i < vs.length
  · have hltA : i < A.length := by omega
    have c0 := hvs vs[i] (List.getElem_mem _)
    rw [← hAg i hlt hltA] at c0
    have hsz : (i + 1) * 32 ≤ 140737488355328 := by omega
    have htk : (vs.take (i + 1)).map Val.av = (vs.take i).map Val.av ++ [vs[i].av] := by rw [List.take_succ_eq_append_getElem hlt, List.map_append]; rfl
    have hwd : AV.wid (List.take i (List.map Val.av vs)) 3 := by rw [← List.map_take]; exact Val.avs_wid _
    unfold cntAv at c0
    repeat' (first | ((first | ((with_reducible refine qo (fun hg => ?_) (fun hg => ?_)) <;> (try simp only [hg]) <;> (try simp only [beq_iff_eq, beq_eq_false_iff_ne, ne_eq, decide_eq_true_eq, decide_eq_false_iff_not, bne_iff_ne, bne_eq_false_iff_eq] at hg) <;> (try (first | simp only [eq_false hg, if_true, if_false] | simp only [eq_true hg, if_true, if_false]))) | (with_reducible first | refine qd ?_ | refine qc ?_ | refine qi ?_ | refine qh ?_) | refine acall (c0) ?_ | refine qv (c0) ?_ | refine qw (c0) ?_ | refine qf ?_ | refine qj ?_ | refine qk ?_ | refine qn ?_) <;> (try simp (disch := first | omega | simp) [ql, -qu, -qx, hltA, hsz, hwd])) | ((with_reducible first | refine sideG ?_ ?_ | refine qr ?_ ?_ | refine sideS ?_ ?_ | refine qs ?_ ?_ | refine qt ?_ ?_ | refine sideA ?_ ?_ | refine qp ?_ ?_ | refine qq ?_ ?_); first | omega | assumption | (simp; done)) | (refine qg fun K hK => ?_) | (refine qa ?_) | (refine qb true (by kernel_rfl) (by kernel_rfl) ?_) | (refine qb false (by kernel_rfl) (by kernel_rfl) ?_) | (refine hK _ ?_; clear hK K) | (clear hK K; refine hK _ ?_; clear hK K) | (clear hK K; clear hK K; refine hK _ ?_; clear hK K) | refine qe ?_)
    exact ⟨i + 1, by omega, by omega, rfl, by omega, by rw [← List.map_take, ← List.map_take]; exact htk.symm, by omega⟩
  · obtain rfl : i = vs.length := by omega
    have hltA : ¬ vs.length < A.length := by omega
    rw [List.take_length]
    by_cases h3 : op = 3
    · obtain ⟨q0, q1⟩ := hcol h3
      repeat' (first | ((first | ((with_reducible refine qo (fun hg => ?_) (fun hg => ?_)) <;> (try simp only [hg]) <;> (try simp only [beq_iff_eq, beq_eq_false_iff_ne, ne_eq, decide_eq_true_eq, decide_eq_false_iff_not, bne_iff_ne, bne_eq_false_iff_eq] at hg) <;> (try (first | simp only [eq_false hg, if_true, if_false] | simp only [eq_true hg, if_true, if_false]))) | (with_reducible first | refine qd ?_ | refine qc ?_ | refine qi ?_ | refine qh ?_) | refine qf ?_ | refine qj ?_ | refine qk ?_ | refine qn ?_) <;> (try simp (disch := first | omega | simp) [ql, -qu, -qx, hltA, h3, q0, q1])) | ((with_reducible first | refine sideG ?_ ?_ | refine qr ?_ ?_ | refine sideS ?_ ?_ | refine qs ?_ ?_ | refine qt ?_ ?_ | refine sideA ?_ ?_ | refine qp ?_ ?_ | refine qq ?_ ?_); first | omega | assumption | (simp; done)) | (refine qg fun K hK => ?_) | (refine qa ?_) | (refine qb true (by kernel_rfl) (by kernel_rfl) ?_) | (refine qb false (by kernel_rfl) (by kernel_rfl) ?_) | (refine hK _ ?_; clear hK K) | (clear hK K; refine hK _ ?_; clear hK K) | (clear hK K; clear hK K; refine hK _ ?_; clear hK K) | refine qe ?_)
      have hV2 : V = R[n.toNat]'(by omega) := by rw [hV, h3]; unfold opR opV; simp; rw [List.getElem?_eq_getElem (by omega)]; rfl
      rw [hV2]; exact ⟨rfl, rfl, rfl⟩
    · by_cases h5 : op = 5
      · have hV2 : V = numV time := by rw [hV, h5]; unfold opR opV; simp
        repeat' (first | ((first | ((with_reducible refine qo (fun hg => ?_) (fun hg => ?_)) <;> (try simp only [hg]) <;> (try simp only [beq_iff_eq, beq_eq_false_iff_ne, ne_eq, decide_eq_true_eq, decide_eq_false_iff_not, bne_iff_ne, bne_eq_false_iff_eq] at hg) <;> (try (first | simp only [eq_false hg, if_true, if_false] | simp only [eq_true hg, if_true, if_false]))) | (with_reducible first | refine qd ?_ | refine qc ?_ | refine qi ?_ | refine qh ?_) | refine qf ?_ | refine qj ?_ | refine qk ?_ | refine qn ?_) <;> (try simp (disch := first | omega | simp) [ql, -qu, -qx, hltA, h3, h4, h5])) | ((with_reducible first | refine sideG ?_ ?_ | refine qr ?_ ?_ | refine sideS ?_ ?_ | refine qs ?_ ?_ | refine qt ?_ ?_ | refine sideA ?_ ?_ | refine qp ?_ ?_ | refine qq ?_ ?_); first | omega | assumption | (simp; done)) | (refine qg fun K hK => ?_) | (refine qa ?_) | (refine qb true (by kernel_rfl) (by kernel_rfl) ?_) | (refine qb false (by kernel_rfl) (by kernel_rfl) ?_) | (refine hK _ ?_; clear hK K) | (clear hK K; refine hK _ ?_; clear hK K) | (clear hK K; clear hK K; refine hK _ ?_; clear hK K) | refine qe ?_)
        all_goals first | exact absurd (by assumption) h3 | exact absurd (by assumption) h4 | (rw [hV2]; exact ⟨rfl, rfl, rfl⟩)
      · have c2 := c1 h3 h5
        obtain ⟨vk, vn, vz⟩ := V
        repeat' (first | ((first | ((with_reducible refine qo (fun hg => ?_) (fun hg => ?_)) <;> (try simp only [hg]) <;> (try simp only [beq_iff_eq, beq_eq_false_iff_ne, ne_eq, decide_eq_true_eq, decide_eq_false_iff_not, bne_iff_ne, bne_eq_false_iff_eq] at hg) <;> (try (first | simp only [eq_false hg, if_true, if_false] | simp only [eq_true hg, if_true, if_false]))) | (with_reducible first | refine qd ?_ | refine qc ?_ | refine qi ?_ | refine qh ?_) | refine acall (c2) ?_ | refine qv (c2) ?_ | refine qw (c2) ?_ | refine qf ?_ | refine qj ?_ | refine qk ?_ | refine qn ?_) <;> (try simp (disch := first | omega | simp) [ql, -qu, -qx, hltA, h3, h4, h5, h22])) | ((with_reducible first | refine sideG ?_ ?_ | refine qr ?_ ?_ | refine sideS ?_ ?_ | refine qs ?_ ?_ | refine qt ?_ ?_ | refine sideA ?_ ?_ | refine qp ?_ ?_ | refine qq ?_ ?_); first | omega | assumption | (simp; done)) | (refine qg fun K hK => ?_) | (refine qa ?_) | (refine qb true (by kernel_rfl) (by kernel_rfl) ?_) | (refine qb false (by kernel_rfl) (by kernel_rfl) ?_) | (refine hK _ ?_; clear hK K) | (clear hK K; refine hK _ ?_; clear hK K) | (clear hK K; clear hK K; refine hK _ ?_; clear hK K) | refine qe ?_)
        all_goals first | exact absurd (by assumption) h3 | exact absurd (by assumption) h4 | exact absurd (by assumption) h5 | exact absurd (by assumption) h22 | rfl | exact ⟨rfl, rfl, rfl⟩
theorem konst_g {v : Val} (hv : qbh v) (time : Int) (R : List Val) : Gives Tryd.prog 139 [.sl [], (konstE v).av, .int time, .sl (R.map Val.av), .sl []] (cntAv v 1) := by
  have key : ∀ op n s, op = 0 ∨ op = 1 ∨ op = 2 → opR time R op n s [] = v → Gives Tryd.prog 139 [.sl [], (Ex.mk op n s []).av, .int time, .sl (R.map Val.av), .sl []] (cntAv v 1) := fun op n s h1 h2 => by
    have := rrunG (op := op) (n := n) (s := s) (time := time) (R := R) (vs := []) (by simp) (by omega) (by omega) (by omega) (by omega) (fun _ _ => rap0_g (fun _ _ => zeroV) time R [] h1 []) (by simp)
    rw [h2] at this
    exact this
  obtain ⟨h1, -⟩ := hv
  obtain ⟨k, n, s⟩ := v
  unfold okV at h1
  unfold konstE
  dsimp only at h1 ⊢
  have hse : s.toList = [] → s = ByteArray.empty := fun h => by
    apply ByteArray.ext
    rw [ByteArray.toList_eq] at h
    exact Array.toList_eq_nil_iff.1 h
  by_cases hk0 : k = 0
  · subst hk0
    rw [if_pos rfl] at h1
    rw [if_neg (by omega), if_neg (by omega)]
    refine key 0 n _ (.inl rfl) ?_
    rw [hse (by simpa using h1)]
    rfl
  · rw [if_neg hk0] at h1
    by_cases hk1 : k = 1
    · subst hk1
      rw [if_pos rfl] at h1 ⊢
      refine key 1 0 _ (.inr (.inl rfl)) ?_
      have : n = 0 := by simp at h1; exact h1.1
      subst this
      rfl
    · rw [if_neg hk1] at h1 ⊢
      simp only [Bool.and_eq_true, Bool.or_eq_true, decide_eq_true_eq] at h1
      obtain ⟨⟨rfl, hn⟩, hs⟩ := h1
      obtain rfl := hse hs
      rw [if_pos rfl]
      refine key 2 n _ (.inr (.inr rfl)) ?_
      rcases hn with rfl | rfl <;> rfl
set_option maxHeartbeats 4000000 in
theorem rrunI {n : Int} {s : ByteArray} {time : Int} {R : List Val} {a b c : Val} (ha : qbh a) (hb : qbh b) (hc : qbh c) :
    ∃ m, Gives Tryd.prog 139 [.sl [], (Ex.mk 21 n s ([a, b, c].map konstE)).av, .int time, .sl (R.map Val.av), .sl []] (cntAv (ifV [a, b, c]) m) := by
  refine ⟨3, ?_⟩
  have ca := konst_g ha time R
  have cb := konst_g hb time R
  have cc := konst_g hc time R
  rw [Ex.av_mk]
  have hif : ifV [a, b, c] = if a.n = 1 then b else c := rfl
  rw [hif]
  simp only [List.map_cons, List.map_nil]
  generalize konstE a = ea at *
  generalize konstE b = eb at *
  generalize konstE c = ec at *
  unfold cntAv at ca cb cc ⊢
  by_cases h : a.n = 1
  · rw [if_pos h]
    refine qm Tryd.func139 Tryd.ntmps139 rfl rfl (by decide) rfl (by intro n; simp) fun σ n0 hcl hft => ?_
    repeat' (first | ((first | ((with_reducible refine qo (fun hg => ?_) (fun hg => ?_)) <;> (try simp only [hg]) <;> (try simp only [beq_iff_eq, beq_eq_false_iff_ne, ne_eq, decide_eq_true_eq, decide_eq_false_iff_not, bne_iff_ne, bne_eq_false_iff_eq] at hg) <;> (try (first | simp only [eq_false hg, if_true, if_false] | simp only [eq_true hg, if_true, if_false]))) | (with_reducible first | refine qd ?_ | refine qc ?_ | refine qi ?_ | refine qh ?_) | refine acall (ca) ?_ | refine qv (ca) ?_ | refine qw (ca) ?_ | refine acall (cb) ?_ | refine qv (cb) ?_ | refine qw (cb) ?_ | refine qf ?_ | refine qj ?_ | refine qk ?_ | refine qn ?_) <;> (try simp (disch := first | omega | simp) [ql, -qu, -qx, h])) | ((with_reducible first | refine sideG ?_ ?_ | refine qr ?_ ?_ | refine sideS ?_ ?_ | refine qs ?_ ?_ | refine qt ?_ ?_ | refine sideA ?_ ?_ | refine qp ?_ ?_ | refine qq ?_ ?_); first | omega | assumption | (simp; done)) | (refine qg fun K hK => ?_) | (refine qa ?_) | (refine qb true (by kernel_rfl) (by kernel_rfl) ?_) | (refine qb false (by kernel_rfl) (by kernel_rfl) ?_) | (refine hK _ ?_; clear hK K) | (clear hK K; refine hK _ ?_; clear hK K) | (clear hK K; clear hK K; refine hK _ ?_; clear hK K) | refine qe ?_)
    all_goals first | rfl | exact ⟨rfl, rfl, rfl⟩
  · rw [if_neg h]
    refine qm Tryd.func139 Tryd.ntmps139 rfl rfl (by decide) rfl (by intro n; simp) fun σ n0 hcl hft => ?_
    repeat' (first | ((first | ((with_reducible refine qo (fun hg => ?_) (fun hg => ?_)) <;> (try simp only [hg]) <;> (try simp only [beq_iff_eq, beq_eq_false_iff_ne, ne_eq, decide_eq_true_eq, decide_eq_false_iff_not, bne_iff_ne, bne_eq_false_iff_eq] at hg) <;> (try (first | simp only [eq_false hg, if_true, if_false] | simp only [eq_true hg, if_true, if_false]))) | (with_reducible first | refine qd ?_ | refine qc ?_ | refine qi ?_ | refine qh ?_) | refine acall (ca) ?_ | refine qv (ca) ?_ | refine qw (ca) ?_ | refine acall (cc) ?_ | refine qv (cc) ?_ | refine qw (cc) ?_ | refine qf ?_ | refine qj ?_ | refine qk ?_ | refine qn ?_) <;> (try simp (disch := first | omega | simp) [ql, -qu, -qx, h])) | ((with_reducible first | refine sideG ?_ ?_ | refine qr ?_ ?_ | refine sideS ?_ ?_ | refine qs ?_ ?_ | refine qt ?_ ?_ | refine sideA ?_ ?_ | refine qp ?_ ?_ | refine qq ?_ ?_); first | omega | assumption | (simp; done)) | (refine qg fun K hK => ?_) | (refine qa ?_) | (refine qb true (by kernel_rfl) (by kernel_rfl) ?_) | (refine qb false (by kernel_rfl) (by kernel_rfl) ?_) | (refine hK _ ?_; clear hK K) | (clear hK K; refine hK _ ?_; clear hK K) | (clear hK K; clear hK K; refine hK _ ?_; clear hK K) | refine qe ?_)
    all_goals first | exact absurd (by assumption) h | rfl | exact ⟨rfl, rfl, rfl⟩
end Go.Proofs.YtnkakofcejkhiaaDoor

/- Stores of values into elements of own slices: what a value without slices that are nil or grow becomes. -/
namespace Go.Proofs.YtnkakofcejkhiaaDoor
open Go.RowKit Go.Lib
theorem keeps_all : ∀ {l : List AV}, (∀ z ∈ l, z.pub = z ∧ ∀ c, keep1 c z = z) → ∀ cs, keeps cs l = l
  | [], _, cs => keeps_nil
  | y :: l, h, [] => by rw [keeps_cons0, (h y (by simp)).1, keeps_all (fun z hz => h z (by simp [hz]))]
  | y :: l, h, c :: cs => by rw [keeps_cons, (h y (by simp)).2, keeps_all (fun z hz => h z (by simp [hz]))]
theorem keep_all {l : List AV} (h : ∀ z ∈ l, z.pub = z ∧ ∀ c, keep1 c z = z) (hp : (AV.agg l).pub = .agg l) (x : AV) (o : Nat) : x.keep o (.agg l) = .agg l := by
  cases x <;> first | exact hp | (rw [keep_agg, keeps_all h])
@[simp] theorem Val.av_keep (x : AV) (o : Nat) (v : Val) : x.keep o v.av = v.av := by
  have h := v.av_pub
  unfold Val.av at h ⊢
  exact keep_all (by simp) h x o
end Go.Proofs.YtnkakofcejkhiaaDoor

/- append to an empty slice of the call's own, as a slice that the call may write. -/
namespace Go.Proofs.YtnkakofcejkhiaaDoor
open Go.RowKit Go.Lib
variable {P : Program} {s : AS}
theorem own_core {t : TypeId} {x y : Operand} {r n : Nat} {l ys : List AV} {e : TypeId} {sz by_ : Nat} {yv : AV} {K : AV → AS → Prop} {X0 X : St} {a : Act} {oper : Oper} (ho : oper.op = .call { callee := .builtin .append, args := #[x, y], argTypes := #[t, t] }) (hc : Con X0 s a X.w X)
    (ht : vinfo P t = some (e, sz, by_)) (hx : RC X (.own r n) [a.eval x]) (hn : n = l.length) (hσ : s.st r = .vec l e sz) (hy : RR X yv (a.eval y)) (hyl : yv.list = some ys) (hne : 0 < ys.length)
    (hw : ∀ z ∈ ys, z.width = sz) (h1 : ∀ z ∈ ys, z.elem = true) (hb : (l.length + ys.length) * by_ ≤ 140737488355328) (hK : K (.own r (l.length + ys.length)) (s.set r (.vec (l ++ ys) e sz))) (Q : Exit → Act → World → Prop) :
    oper.wp P a X.w (fun a' w' => ∃ v x s1 X', a' = a.put oper.dst v ∧ K x s1 ∧ Con X0 s1 a w' X' ∧ RR X' x v) Q := by
  subst hn
  rw [RC] at hx
  obtain ⟨-, v0, hv0, -, hall⟩ := hx
  have hX : X.σ r = .vec l e sz := by rw [hc.σ, hσ]
  have hvm : a.eval x = X.μ r := by
    have := (hall _ _ _ hX).2 rfl
    rw [← this]; simpa using hv0
  obtain ⟨A, cap, b, off, hyv', hc1, hc2, hA, hm⟩ := RR.list hyl hy
  obtain rfl := hA hne
  obtain ⟨news, hr2, hcell⟩ := hm.row
  have hB := hc.sr.block r
  rw [hX] at hB
  obtain ⟨hwd, xs, hown, hrs⟩ := hB
  obtain ⟨hu1, i, z, hi, hz, hsz, hby, hzs, hsz0, hby0, -⟩ := qcd ht
  have hlen : l.length + ys.length ≤ 140737488355328 := Nat.le_trans (Nat.le_mul_of_pos_right _ hby0) hb
  have hnl := RCs.len hr2 hw
  have hnc : ∀ j u, news[j]? = some u → X.w.cell? ((⟨b, off, none⟩ : Addr).add j) = some u := fun j u hj => by rw [qbp]; exact hcell.at.get j u hj
  have h63 : l.length + ys.length ≤ maxLen := by unfold maxLen; omega
  subst hsz
  subst hby
  obtain ⟨v2, w2, hrun, hown2, hg, h3, h4⟩ := run_append_own_at (P := P) X.w 0 t oper.type e i z i.size i.bytes hu1 hi hz rfl rfl hzs hsz0 (X.μ r) l.length xs hown ⟨b, off, none⟩ ys.length cap news hnl hnc (RCs.oneCell hr2 h1) h63 hb (Nat.zero_le _)
  have hblk : X.blk r = (X.μ r).ownBlock := by unfold St.blk; rw [hX]; rfl
  have hno : ∀ b2 o, X.blk r = some b2 → ¬ X.S b2 o := fun b2 o h5 h6 => by
    obtain ⟨n2, e2, s2, h7, h8⟩ := hc.sr.apart r b2 o h5 h6
    rw [hX] at h7; cases h7
  have hT : Turns X w2 X.S r (.vec (l ++ ys) e i.size) v2 := by
    refine ⟨by rw [hblk]; exact hg, fun b2 h => ?_, ?_, fun b2 o h5 h6 => absurd h6 (hno b2 o h5), fun _ _ h => h, fun b2 o h => .inl h, fun b2 o h5 h6 => ?_, fun b2 h => (hown2.lt b2 h).2⟩
    · change v2.ownBlock = some b2 at h
      rcases h4 with h4 | h4
      · left; rw [hblk, ← h4, h]
      · right; rw [h4] at h; cases h; exact Nat.le_refl _
    · unfold Ver
      rw [hX]
      exact .inr ⟨l ++ ys, by simp [St.turn, upd], .inl (by simp; omega)⟩
    · exfalso
      change v2.ownBlock = some b2 at h5
      rcases h4 with h4 | h4
      · exact hno b2 o (by rw [hblk, ← h4]; exact h5) h6
      · rw [h4] at h5; cases h5
        exact absurd (hc.sr.old _ o h6) (Nat.lt_irrefl _)
  have hF := turn_fr hc.sr hT
  refine qbv (w' := w2) (v := v2) (by simp [execOp, ho, resolve, invoke, builtin, hvm, hyv', hrun])
    ⟨v2, .own r (l.length + ys.length), _, _, rfl, hK, con_turn (v := v2) hc (by rw [hσ]; simp) hT ⟨fun x hx => ?_, xs ++ news, by rw [List.length_append]; exact hown2, ?_⟩, ?_⟩
  · rcases List.mem_append.1 hx with hx | hx
    · exact hwd x hx
    · exact hw x hx
  · exact RCs.fr hF _ _ (hrs.append hr2)
  · show RC _ (.own r _) [_]
    rw [RC]
    refine ⟨by simp [St.turn, upd], v2, rfl, ?_, fun l2 e2 s2 h => ?_⟩
    · rcases hown2.2 with ⟨h5, -⟩ | ⟨g, cap2, cur, h5, -⟩ <;> rw [h5] <;> rfl
    · simp [St.turn, upd] at h
      obtain ⟨rfl, rfl, rfl⟩ := h
      exact ⟨by simp, fun _ => by simp [St.turn, upd]⟩
def ownApp (P : Program) (ops : Array Oper) (s : AS) (o : Oper) (K : AS → Prop) : Prop :=
  match o.op with
  | .call { callee := .builtin .append, args := ⟨[x, y]⟩, argTypes := ⟨[t, t']⟩ } => t' = t ∧ awant ops o s.t = some true ∧ (match vinfo P t with
    | some (e, sz, by_) => match s.eval x, (s.eval y).list with
      | .gs r [], some ys => s.st r = .tail 0 e sz ∧ 0 < ys.length ∧ AV.wid ys sz ∧ AV.elms ys ∧ ys.length * by_ ≤ 140737488355328 ∧ dstOk o.dst ((s.set r .dead).ext (some (.vec ys e sz))).n ∧ K (((s.set r .dead).ext (some (.vec ys e sz))).put o.dst (.own s.nx ys.length))
      | _, _ => False
    | none => False)
  | _ => False
attribute [simp] ownApp
end Go.Proofs.YtnkakofcejkhiaaDoor
