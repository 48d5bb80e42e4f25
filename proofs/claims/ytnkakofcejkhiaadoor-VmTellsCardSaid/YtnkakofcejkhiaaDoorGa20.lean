/- Walks: light, and equal lists of deltas. -/
import Derived.Test.YtnkakofcejkhiaaDoorCards
import Derived.Test.YtnkakofcejkhiaaDoorTie
import Derived.SevenTiedAt
import Derived.Stop.Joined
import Derived.Lib.LaidU8
import Derived.HandedShaped
import Derived.Lay
import Derived.LaidMore
import Derived.OpenShut
import Derived.Test.YtnkakofcejkhiaaDoorProg
import Derived.KernelRfl
import Derived.Test.YtnkakofcejkhiaaDoorGa1
import Derived.Test.YtnkakofcejkhiaaDoorGa4
import Derived.Test.YtnkakofcejkhiaaDoorGa5
import Derived.Test.YtnkakofcejkhiaaDoorGa12
import Derived.Test.YtnkakofcejkhiaaDoorGa14
import Derived.Test.YtnkakofcejkhiaaDoorGa15
import Derived.Test.YtnkakofcejkhiaaDoorGa18
import Derived.Test.YtnkakofcejkhiaaDoorGa19
set_option linter.unusedSimpArgs false
set_option linter.unusedVariables false
namespace Go.Proofs.YtnkakofcejkhiaaDoor
open Go.RowKit Go.Lib
theorem shortA_g (L : List Val) (n : Int) : Gives Tryd.prog 33 [.sl (L.map Val.av), .int n] (.bool (qce L n)) := gives_len fun h => short_g L n (by simpa using h)
theorem two_g27 (a b : Int) : Gives Tryd.prog 32 [.int a, .int b] (Delta.av ⟨1, [⟨0, a, ByteArray.empty⟩, ⟨0, b, ByteArray.empty⟩], 1⟩) := by
  refine qm Tryd.func32 Tryd.ntmps32 rfl rfl (by decide) rfl (by intro n; simp) fun σ n0 hcl hft => ?_
  repeat' (first | ((first | ((with_reducible refine qo (fun hg => ?_) (fun hg => ?_)) <;> (try simp only [hg]) <;> (try simp only [beq_iff_eq, beq_eq_false_iff_ne, ne_eq, decide_eq_true_eq, decide_eq_false_iff_not, bne_iff_ne, bne_eq_false_iff_eq] at hg) <;> (try (first | simp only [eq_false hg, if_true, if_false] | simp only [eq_true hg, if_true, if_false]))) | (with_reducible first | refine qd ?_ | refine qc ?_ | refine qi ?_ | refine qh ?_) | refine qf ?_ | refine qj ?_ | refine qk ?_ | refine qn ?_) <;> (try simp (disch := first | omega | simp) [ql, -qu, -qx])) | ((with_reducible first | refine sideG ?_ ?_ | refine qr ?_ ?_ | refine sideS ?_ ?_ | refine qs ?_ ?_ | refine qt ?_ ?_ | refine sideA ?_ ?_ | refine qp ?_ ?_ | refine qq ?_ ?_); first | omega | assumption | (simp; done)) | (refine qg fun K hK => ?_) | (refine qa ?_) | (refine qb true (by kernel_rfl) (by kernel_rfl) ?_) | (refine hK _ ?_; clear hK K) | (clear hK K; refine hK _ ?_; clear hK K) | (clear hK K; clear hK K; refine hK _ ?_; clear hK K) | refine qe ?_)
  all_goals rfl
def insS (x : Ins) : Bool := decide (x.s.size ≤ 300)
def lightC (c : Cod) (cols : List Int) (l : List Delta) : Bool :=
  (c.ins.take 101).all insS && (l.take 31).all (fun d => qce d.row 15) && decide (c.ins.length ≤ 100) && decide (c.types.length ≤ 100) && decide (cols.length ≤ 20) && decide (l.length ≤ 30)
structure Light (c : Cod) (cols : List Int) (l : List Delta) : Prop where
  ni : c.ins.length ≤ 100
  nt : c.types.length ≤ 100
  nc : cols.length ≤ 20
  nl : l.length ≤ 30
  row : ∀ d ∈ l, d.row.length ≤ 15
  ss : ∀ x ∈ c.ins, x.s.size ≤ 300
theorem lightC_ok {c : Cod} {cols : List Int} {l : List Delta} (h : lightC c cols l = true) : Light c cols l := by
  unfold lightC at h
  simp only [Bool.and_eq_true, decide_eq_true_eq] at h
  obtain ⟨⟨⟨⟨⟨h1, h2⟩, h3⟩, h4⟩, h5⟩, h6⟩ := h
  rw [List.take_of_length_le (by omega), List.all_eq_true] at h1 h2
  refine ⟨h3, h4, h5, h6, fun d hd => ?_, fun x hx => ?_⟩
  · have := h2 d hd
    unfold qce at this
    simp only [Bool.and_eq_true, decide_eq_true_eq] at this
    omega
  · have := h1 x hx
    unfold insS at this
    simpa using this
theorem take_all_hit {α : Type} {l : List α} {p : α → Bool} {k n : Nat} (hk : k < l.length) (hn : k < n) (h : p l[k] = false) : (l.take n).all p = false := by
  rw [List.all_eq_false]
  exact ⟨l[k], List.mem_take_iff_getElem.2 ⟨k, by omega, rfl⟩, by rw [h]; simp⟩
theorem take_all_end {α : Type} {l : List α} {p : α → Bool} {k n : Nat} (h : ∀ j (hj : j < l.length), j < k → p l[j] = true) (hk : ¬ (k < l.length ∧ k < n)) : (l.take n).all p = true := by
  rw [List.all_eq_true]
  intro x hx
  obtain ⟨j, hj, rfl⟩ := List.mem_take_iff_getElem.1 hx
  exact h j (by omega) (by omega)
set_option maxHeartbeats 4000000 in
theorem light27_g (c : Cod) (cols : List Int) (L : List Delta) : Gives Tryd.prog 9 [c.av, .sl (cols.map AV.int), .sl (L.map Delta.av)] (.bool (lightC c cols L)) := by
  obtain ⟨R, hR⟩ : ∃ R, R = lightC c cols L := ⟨_, rfl⟩
  rw [← hR]
  unfold lightC at hR
  obtain ⟨ins, types, out⟩ := c
  refine qm Tryd.func9 Tryd.ntmps9 rfl rfl (by decide) rfl (by intro n; simp) fun σ n0 hcl hft => ?_
  repeat' (first | ((first | ((with_reducible refine qo (fun hg => ?_) (fun hg => ?_)) <;> (try simp only [hg]) <;> (try simp only [beq_iff_eq, beq_eq_false_iff_ne, ne_eq, decide_eq_true_eq, decide_eq_false_iff_not, bne_iff_ne, bne_eq_false_iff_eq] at hg) <;> (try (first | simp only [eq_false hg, if_true, if_false] | simp only [eq_true hg, if_true, if_false]))) | (with_reducible first | refine qd ?_ | refine qc ?_ | refine qi ?_ | refine qh ?_) | refine qf ?_ | refine qj ?_ | refine qk ?_ | refine qn ?_) <;> (try simp (disch := first | omega | simp) [ql, -qu, -qx])) | ((with_reducible first | refine sideG ?_ ?_ | refine qr ?_ ?_ | refine sideS ?_ ?_ | refine qs ?_ ?_ | refine qt ?_ ?_ | refine sideA ?_ ?_ | refine qp ?_ ?_ | refine qq ?_ ?_); first | omega | assumption | (simp; done)) | (refine qg fun K hK => ?_) | (refine qa ?_) | (refine qb true (by kernel_rfl) (by kernel_rfl) ?_) | (refine hK _ ?_; clear hK K) | (clear hK K; refine hK _ ?_; clear hK K) | (clear hK K; clear hK K; refine hK _ ?_; clear hK K) | refine qe ?_)
  refine qbb hcl (fun k : Nat => [(1, .sl (cols.map AV.int)), (2, .sl (L.map Delta.av)), (3, .ptr n0 0), (7, .int k)]) (fun _ => [.cells [.sl (ins.map Ins.av), .sl (types.map AV.int), .int out] 25])
    (fun k => k ≤ 101 ∧ ∀ j (h : j < ins.length), j < k → insS ins[j] = true) (fun k => 101 - k) 0 (by simp) (by simp) fun k ⟨hk, he⟩ => ?_
  by_cases hlt : k < ins.length ∧ k < 101
  · obtain ⟨hlt1, hlt2⟩ := hlt
    cases hs : insS ins[k]
    · have hb : R = false := by rw [hR, take_all_hit hlt1 hlt2 hs]; rfl
      have hlt2 : (k : Int) < 101 := by omega
      have hs2 : (300 : Int) < ins[k].s.size := by unfold insS at hs; simp only [decide_eq_false_iff_not] at hs; omega
      repeat' (first | ((first | ((with_reducible refine qo (fun hg => ?_) (fun hg => ?_)) <;> (try simp only [hg]) <;> (try simp only [beq_iff_eq, beq_eq_false_iff_ne, ne_eq, decide_eq_true_eq, decide_eq_false_iff_not, bne_iff_ne, bne_eq_false_iff_eq] at hg) <;> (try (first | simp only [eq_false hg, if_true, if_false] | simp only [eq_true hg, if_true, if_false]))) | (with_reducible first | refine qd ?_ | refine qc ?_ | refine qi ?_ | refine qh ?_) | refine qf ?_ | refine qj ?_ | refine qk ?_ | refine qn ?_) <;> (try simp (disch := first | omega | simp) [ql, -qu, -qx, hlt1, hlt2, hs2])) | ((with_reducible first | refine sideG ?_ ?_ | refine qr ?_ ?_ | refine sideS ?_ ?_ | refine qs ?_ ?_ | refine qt ?_ ?_ | refine sideA ?_ ?_ | refine qp ?_ ?_ | refine qq ?_ ?_); first | omega | assumption | (simp; done)) | (refine qg fun K hK => ?_) | (refine qa ?_) | (refine qb true (by kernel_rfl) (by kernel_rfl) ?_) | (refine hK _ ?_; clear hK K) | (clear hK K; refine hK _ ?_; clear hK K) | (clear hK K; clear hK K; refine hK _ ?_; clear hK K) | refine qe ?_)
      exact hb
    · have hlt2 : (k : Int) < 101 := by omega
      have hs2 : ¬ (300 : Int) < ins[k].s.size := by unfold insS at hs; simp only [decide_eq_true_eq] at hs; omega
      repeat' (first | ((first | ((with_reducible refine qo (fun hg => ?_) (fun hg => ?_)) <;> (try simp only [hg]) <;> (try simp only [beq_iff_eq, beq_eq_false_iff_ne, ne_eq, decide_eq_true_eq, decide_eq_false_iff_not, bne_iff_ne, bne_eq_false_iff_eq] at hg) <;> (try (first | simp only [eq_false hg, if_true, if_false] | simp only [eq_true hg, if_true, if_false]))) | (with_reducible first | refine qd ?_ | refine qc ?_ | refine qi ?_ | refine qh ?_) | refine qf ?_ | refine qj ?_ | refine qk ?_ | refine qn ?_) <;> (try simp (disch := first | omega | simp) [ql, -qu, -qx, hlt1, hlt2, hs2])) | ((with_reducible first | refine sideG ?_ ?_ | refine qr ?_ ?_ | refine sideS ?_ ?_ | refine qs ?_ ?_ | refine qt ?_ ?_ | refine sideA ?_ ?_ | refine qp ?_ ?_ | refine qq ?_ ?_); first | omega | assumption | (simp; done)) | (refine qg fun K hK => ?_) | (refine qa ?_) | (refine qb true (by kernel_rfl) (by kernel_rfl) ?_) | (refine hK _ ?_; clear hK K) | (clear hK K; refine hK _ ?_; clear hK K) | (clear hK K; clear hK K; refine hK _ ?_; clear hK K) | refine qe ?_)
      exact ⟨k + 1, ⟨by omega, qbs (C := fun x : Ins => insS x = true) he fun _ => hs⟩, by omega, by simp⟩
  · have h1 : (ins.take 101).all insS = true := take_all_end he hlt
    rw [h1, Bool.true_and] at hR
    by_cases hlt1 : k < ins.length
    · have hlt2 : ¬ k < 101 := fun h => hlt ⟨hlt1, h⟩
      have hlt2 : ¬ (k : Int) < 101 := by omega
      repeat' (first | ((first | ((with_reducible refine qo (fun hg => ?_) (fun hg => ?_)) <;> (try simp only [hg]) <;> (try simp only [beq_iff_eq, beq_eq_false_iff_ne, ne_eq, decide_eq_true_eq, decide_eq_false_iff_not, bne_iff_ne, bne_eq_false_iff_eq] at hg) <;> (try (first | simp only [eq_false hg, if_true, if_false] | simp only [eq_true hg, if_true, if_false]))) | (with_reducible first | refine qd ?_ | refine qc ?_ | refine qi ?_ | refine qh ?_) | refine qf ?_ | refine qj ?_ | refine qk ?_ | refine qn ?_) <;> (try simp (disch := first | omega | simp) [ql, -qu, -qx, hlt1, hlt2])) | ((with_reducible first | refine sideG ?_ ?_ | refine qr ?_ ?_ | refine sideS ?_ ?_ | refine qs ?_ ?_ | refine qt ?_ ?_ | refine sideA ?_ ?_ | refine qp ?_ ?_ | refine qq ?_ ?_); first | omega | assumption | (simp; done)) | (refine qg fun K hK => ?_) | (refine qa ?_) | (refine qb true (by kernel_rfl) (by kernel_rfl) ?_) | (refine hK _ ?_; clear hK K) | (clear hK K; refine hK _ ?_; clear hK K) | (clear hK K; clear hK K; refine hK _ ?_; clear hK K) | refine qe ?_)
      refine qbb hcl (fun i : Nat => [(1, .sl (cols.map AV.int)), (2, .sl (L.map Delta.av)), (3, .ptr n0 0), (8, .int i)]) (fun _ => [.cells [.sl (ins.map Ins.av), .sl (types.map AV.int), .int out] 25])
        (fun i => i ≤ 31 ∧ ∀ j (h : j < L.length), j < i → qce L[j].row 15 = true) (fun i => 31 - i) 0 (by simp) (by simp) fun i ⟨hi, hei⟩ => ?_
      by_cases hlt : i < L.length ∧ i < 31
      · obtain ⟨hl1, hl2⟩ := hlt
        have c1 := shortA_g L[i].row 15
        cases hs : qce L[i].row 15
        · have hb : R = false := by rw [hR, take_all_hit (p := fun d : Delta => qce d.row 15) hl1 hl2 hs]; rfl
          rw [hs] at c1
          have hl2 : (i : Int) < 31 := by omega
          repeat' (first | ((first | ((with_reducible refine qo (fun hg => ?_) (fun hg => ?_)) <;> (try simp only [hg]) <;> (try simp only [beq_iff_eq, beq_eq_false_iff_ne, ne_eq, decide_eq_true_eq, decide_eq_false_iff_not, bne_iff_ne, bne_eq_false_iff_eq] at hg) <;> (try (first | simp only [eq_false hg, if_true, if_false] | simp only [eq_true hg, if_true, if_false]))) | (with_reducible first | refine qd ?_ | refine qc ?_ | refine qi ?_ | refine qh ?_) | refine acall (c1) ?_ | refine qv (c1) ?_ | refine qf ?_ | refine qj ?_ | refine qk ?_ | refine qn ?_) <;> (try simp (disch := first | omega | simp) [ql, -qu, -qx, hl1, hl2])) | ((with_reducible first | refine sideG ?_ ?_ | refine qr ?_ ?_ | refine sideS ?_ ?_ | refine qs ?_ ?_ | refine qt ?_ ?_ | refine sideA ?_ ?_ | refine qp ?_ ?_ | refine qq ?_ ?_); first | omega | assumption | (simp; done)) | (refine qg fun K hK => ?_) | (refine qa ?_) | (refine qb true (by kernel_rfl) (by kernel_rfl) ?_) | (refine hK _ ?_; clear hK K) | (clear hK K; refine hK _ ?_; clear hK K) | (clear hK K; clear hK K; refine hK _ ?_; clear hK K) | refine qe ?_)
          exact hb
        · rw [hs] at c1
          have hl2 : (i : Int) < 31 := by omega
          repeat' (first | ((first | ((with_reducible refine qo (fun hg => ?_) (fun hg => ?_)) <;> (try simp only [hg]) <;> (try simp only [beq_iff_eq, beq_eq_false_iff_ne, ne_eq, decide_eq_true_eq, decide_eq_false_iff_not, bne_iff_ne, bne_eq_false_iff_eq] at hg) <;> (try (first | simp only [eq_false hg, if_true, if_false] | simp only [eq_true hg, if_true, if_false]))) | (with_reducible first | refine qd ?_ | refine qc ?_ | refine qi ?_ | refine qh ?_) | refine acall (c1) ?_ | refine qv (c1) ?_ | refine qf ?_ | refine qj ?_ | refine qk ?_ | refine qn ?_) <;> (try simp (disch := first | omega | simp) [ql, -qu, -qx, hl1, hl2])) | ((with_reducible first | refine sideG ?_ ?_ | refine qr ?_ ?_ | refine sideS ?_ ?_ | refine qs ?_ ?_ | refine qt ?_ ?_ | refine sideA ?_ ?_ | refine qp ?_ ?_ | refine qq ?_ ?_); first | omega | assumption | (simp; done)) | (refine qg fun K hK => ?_) | (refine qa ?_) | (refine qb true (by kernel_rfl) (by kernel_rfl) ?_) | (refine hK _ ?_; clear hK K) | (clear hK K; refine hK _ ?_; clear hK K) | (clear hK K; clear hK K; refine hK _ ?_; clear hK K) | refine qe ?_)
          exact ⟨i + 1, ⟨by omega, qbs (C := fun d : Delta => qce d.row 15 = true) hei fun _ => hs⟩, by omega, by simp⟩
      · have h2 : (L.take 31).all (fun d => qce d.row 15) = true := take_all_end (p := fun d : Delta => qce d.row 15) hei hlt
        rw [h2, Bool.true_and] at hR
        by_cases hl1 : i < L.length
        · have hl2 : ¬ i < 31 := fun h => hlt ⟨hl1, h⟩
          have hl2 : ¬ (i : Int) < 31 := by omega
          repeat' (first | ((first | ((with_reducible refine qo (fun hg => ?_) (fun hg => ?_)) <;> (try simp only [hg]) <;> (try simp only [beq_iff_eq, beq_eq_false_iff_ne, ne_eq, decide_eq_true_eq, decide_eq_false_iff_not, bne_iff_ne, bne_eq_false_iff_eq] at hg) <;> (try (first | simp only [eq_false hg, if_true, if_false] | simp only [eq_true hg, if_true, if_false]))) | (with_reducible first | refine qd ?_ | refine qc ?_ | refine qi ?_ | refine qh ?_) | refine qf ?_ | refine qj ?_ | refine qk ?_ | refine qn ?_) <;> (try simp (disch := first | omega | simp) [ql, -qu, -qx, hl1, hl2])) | ((with_reducible first | refine sideG ?_ ?_ | refine qr ?_ ?_ | refine sideS ?_ ?_ | refine qs ?_ ?_ | refine qt ?_ ?_ | refine sideA ?_ ?_ | refine qp ?_ ?_ | refine qq ?_ ?_); first | omega | assumption | (simp; done)) | (refine qg fun K hK => ?_) | (refine qa ?_) | (refine qb true (by kernel_rfl) (by kernel_rfl) ?_) | (refine hK _ ?_; clear hK K) | (clear hK K; refine hK _ ?_; clear hK K) | (clear hK K; clear hK K; refine hK _ ?_; clear hK K) | refine qe ?_)
          all_goals (rw [hR, Bool.eq_iff_iff]; simp; omega)
        · repeat' (first | ((first | ((with_reducible refine qo (fun hg => ?_) (fun hg => ?_)) <;> (try simp only [hg]) <;> (try simp only [beq_iff_eq, beq_eq_false_iff_ne, ne_eq, decide_eq_true_eq, decide_eq_false_iff_not, bne_iff_ne, bne_eq_false_iff_eq] at hg) <;> (try (first | simp only [eq_false hg, if_true, if_false] | simp only [eq_true hg, if_true, if_false]))) | (with_reducible first | refine qd ?_ | refine qc ?_ | refine qi ?_ | refine qh ?_) | refine qf ?_ | refine qj ?_ | refine qk ?_ | refine qn ?_) <;> (try simp (disch := first | omega | simp) [ql, -qu, -qx, hl1])) | ((with_reducible first | refine sideG ?_ ?_ | refine qr ?_ ?_ | refine sideS ?_ ?_ | refine qs ?_ ?_ | refine qt ?_ ?_ | refine sideA ?_ ?_ | refine qp ?_ ?_ | refine qq ?_ ?_); first | omega | assumption | (simp; done)) | (refine qg fun K hK => ?_) | (refine qa ?_) | (refine qb true (by kernel_rfl) (by kernel_rfl) ?_) | (refine qb false (by kernel_rfl) (by kernel_rfl) ?_) | (refine hK _ ?_; clear hK K) | (clear hK K; refine hK _ ?_; clear hK K) | (clear hK K; clear hK K; refine hK _ ?_; clear hK K) | refine qe ?_)
          all_goals (rw [hR, Bool.eq_iff_iff]; simp; omega)
    · repeat' (first | ((first | ((with_reducible refine qo (fun hg => ?_) (fun hg => ?_)) <;> (try simp only [hg]) <;> (try simp only [beq_iff_eq, beq_eq_false_iff_ne, ne_eq, decide_eq_true_eq, decide_eq_false_iff_not, bne_iff_ne, bne_eq_false_iff_eq] at hg) <;> (try (first | simp only [eq_false hg, if_true, if_false] | simp only [eq_true hg, if_true, if_false]))) | (with_reducible first | refine qd ?_ | refine qc ?_ | refine qi ?_ | refine qh ?_) | refine qf ?_ | refine qj ?_ | refine qk ?_ | refine qn ?_) <;> (try simp (disch := first | omega | simp) [ql, -qu, -qx, hlt1])) | ((with_reducible first | refine sideG ?_ ?_ | refine qr ?_ ?_ | refine sideS ?_ ?_ | refine qs ?_ ?_ | refine qt ?_ ?_ | refine sideA ?_ ?_ | refine qp ?_ ?_ | refine qq ?_ ?_); first | omega | assumption | (simp; done)) | (refine qg fun K hK => ?_) | (refine qa ?_) | (refine qb true (by kernel_rfl) (by kernel_rfl) ?_) | (refine qb false (by kernel_rfl) (by kernel_rfl) ?_) | (refine hK _ ?_; clear hK K) | (clear hK K; refine hK _ ?_; clear hK K) | (clear hK K; clear hK K; refine hK _ ?_; clear hK K) | refine qe ?_)
      refine qbb hcl (fun i : Nat => [(1, .sl (cols.map AV.int)), (2, .sl (L.map Delta.av)), (3, .ptr n0 0), (8, .int i)]) (fun _ => [.cells [.sl (ins.map Ins.av), .sl (types.map AV.int), .int out] 25])
        (fun i => i ≤ 31 ∧ ∀ j (h : j < L.length), j < i → qce L[j].row 15 = true) (fun i => 31 - i) 0 (by simp) (by simp) fun i ⟨hi, hei⟩ => ?_
      by_cases hlt : i < L.length ∧ i < 31
      · obtain ⟨hl1, hl2⟩ := hlt
        have c1 := shortA_g L[i].row 15
        cases hs : qce L[i].row 15
        · have hb : R = false := by rw [hR, take_all_hit (p := fun d : Delta => qce d.row 15) hl1 hl2 hs]; rfl
          rw [hs] at c1
          have hl2 : (i : Int) < 31 := by omega
          repeat' (first | ((first | ((with_reducible refine qo (fun hg => ?_) (fun hg => ?_)) <;> (try simp only [hg]) <;> (try simp only [beq_iff_eq, beq_eq_false_iff_ne, ne_eq, decide_eq_true_eq, decide_eq_false_iff_not, bne_iff_ne, bne_eq_false_iff_eq] at hg) <;> (try (first | simp only [eq_false hg, if_true, if_false] | simp only [eq_true hg, if_true, if_false]))) | (with_reducible first | refine qd ?_ | refine qc ?_ | refine qi ?_ | refine qh ?_) | refine acall (c1) ?_ | refine qv (c1) ?_ | refine qf ?_ | refine qj ?_ | refine qk ?_ | refine qn ?_) <;> (try simp (disch := first | omega | simp) [ql, -qu, -qx, hl1, hl2])) | ((with_reducible first | refine sideG ?_ ?_ | refine qr ?_ ?_ | refine sideS ?_ ?_ | refine qs ?_ ?_ | refine qt ?_ ?_ | refine sideA ?_ ?_ | refine qp ?_ ?_ | refine qq ?_ ?_); first | omega | assumption | (simp; done)) | (refine qg fun K hK => ?_) | (refine qa ?_) | (refine qb true (by kernel_rfl) (by kernel_rfl) ?_) | (refine hK _ ?_; clear hK K) | (clear hK K; refine hK _ ?_; clear hK K) | (clear hK K; clear hK K; refine hK _ ?_; clear hK K) | refine qe ?_)
          exact hb
        · rw [hs] at c1
          have hl2 : (i : Int) < 31 := by omega
          repeat' (first | ((first | ((with_reducible refine qo (fun hg => ?_) (fun hg => ?_)) <;> (try simp only [hg]) <;> (try simp only [beq_iff_eq, beq_eq_false_iff_ne, ne_eq, decide_eq_true_eq, decide_eq_false_iff_not, bne_iff_ne, bne_eq_false_iff_eq] at hg) <;> (try (first | simp only [eq_false hg, if_true, if_false] | simp only [eq_true hg, if_true, if_false]))) | (with_reducible first | refine qd ?_ | refine qc ?_ | refine qi ?_ | refine qh ?_) | refine acall (c1) ?_ | refine qv (c1) ?_ | refine qf ?_ | refine qj ?_ | refine qk ?_ | refine qn ?_) <;> (try simp (disch := first | omega | simp) [ql, -qu, -qx, hl1, hl2])) | ((with_reducible first | refine sideG ?_ ?_ | refine qr ?_ ?_ | refine sideS ?_ ?_ | refine qs ?_ ?_ | refine qt ?_ ?_ | refine sideA ?_ ?_ | refine qp ?_ ?_ | refine qq ?_ ?_); first | omega | assumption | (simp; done)) | (refine qg fun K hK => ?_) | (refine qa ?_) | (refine qb true (by kernel_rfl) (by kernel_rfl) ?_) | (refine hK _ ?_; clear hK K) | (clear hK K; refine hK _ ?_; clear hK K) | (clear hK K; clear hK K; refine hK _ ?_; clear hK K) | refine qe ?_)
          exact ⟨i + 1, ⟨by omega, qbs (C := fun d : Delta => qce d.row 15 = true) hei fun _ => hs⟩, by omega, by simp⟩
      · have h2 : (L.take 31).all (fun d => qce d.row 15) = true := take_all_end (p := fun d : Delta => qce d.row 15) hei hlt
        rw [h2, Bool.true_and] at hR
        by_cases hl1 : i < L.length
        · have hl2 : ¬ i < 31 := fun h => hlt ⟨hl1, h⟩
          have hl2 : ¬ (i : Int) < 31 := by omega
          repeat' (first | ((first | ((with_reducible refine qo (fun hg => ?_) (fun hg => ?_)) <;> (try simp only [hg]) <;> (try simp only [beq_iff_eq, beq_eq_false_iff_ne, ne_eq, decide_eq_true_eq, decide_eq_false_iff_not, bne_iff_ne, bne_eq_false_iff_eq] at hg) <;> (try (first | simp only [eq_false hg, if_true, if_false] | simp only [eq_true hg, if_true, if_false]))) | (with_reducible first | refine qd ?_ | refine qc ?_ | refine qi ?_ | refine qh ?_) | refine qf ?_ | refine qj ?_ | refine qk ?_ | refine qn ?_) <;> (try simp (disch := first | omega | simp) [ql, -qu, -qx, hl1, hl2])) | ((with_reducible first | refine sideG ?_ ?_ | refine qr ?_ ?_ | refine sideS ?_ ?_ | refine qs ?_ ?_ | refine qt ?_ ?_ | refine sideA ?_ ?_ | refine qp ?_ ?_ | refine qq ?_ ?_); first | omega | assumption | (simp; done)) | (refine qg fun K hK => ?_) | (refine qa ?_) | (refine qb true (by kernel_rfl) (by kernel_rfl) ?_) | (refine hK _ ?_; clear hK K) | (clear hK K; refine hK _ ?_; clear hK K) | (clear hK K; clear hK K; refine hK _ ?_; clear hK K) | refine qe ?_)
          all_goals (rw [hR, Bool.eq_iff_iff]; simp; omega)
        · repeat' (first | ((first | ((with_reducible refine qo (fun hg => ?_) (fun hg => ?_)) <;> (try simp only [hg]) <;> (try simp only [beq_iff_eq, beq_eq_false_iff_ne, ne_eq, decide_eq_true_eq, decide_eq_false_iff_not, bne_iff_ne, bne_eq_false_iff_eq] at hg) <;> (try (first | simp only [eq_false hg, if_true, if_false] | simp only [eq_true hg, if_true, if_false]))) | (with_reducible first | refine qd ?_ | refine qc ?_ | refine qi ?_ | refine qh ?_) | refine qf ?_ | refine qj ?_ | refine qk ?_ | refine qn ?_) <;> (try simp (disch := first | omega | simp) [ql, -qu, -qx, hl1])) | ((with_reducible first | refine sideG ?_ ?_ | refine qr ?_ ?_ | refine sideS ?_ ?_ | refine qs ?_ ?_ | refine qt ?_ ?_ | refine sideA ?_ ?_ | refine qp ?_ ?_ | refine qq ?_ ?_); first | omega | assumption | (simp; done)) | (refine qg fun K hK => ?_) | (refine qa ?_) | (refine qb true (by kernel_rfl) (by kernel_rfl) ?_) | (refine qb false (by kernel_rfl) (by kernel_rfl) ?_) | (refine hK _ ?_; clear hK K) | (clear hK K; refine hK _ ?_; clear hK K) | (clear hK K; clear hK K; refine hK _ ?_; clear hK K) | refine qe ?_)
          all_goals (rw [hR, Bool.eq_iff_iff]; simp; omega)
set_option maxHeartbeats 4000000 in
theorem rsame27_g (L : List Delta) (hL : L.length ≤ 1000000) (hr : ∀ d ∈ L, d.row.length ≤ 1000000) : Gives Tryd.prog 17 [.sl (L.map Delta.av), .sl (L.map Delta.av)] (.bool true) := by
  refine qm Tryd.func17 Tryd.ntmps17 rfl rfl (by decide) rfl (by intro n; simp) fun σ n0 hcl hft => ?_
  repeat' (first | ((first | ((with_reducible refine qo (fun hg => ?_) (fun hg => ?_)) <;> (try simp only [hg]) <;> (try simp only [beq_iff_eq, beq_eq_false_iff_ne, ne_eq, decide_eq_true_eq, decide_eq_false_iff_not, bne_iff_ne, bne_eq_false_iff_eq] at hg) <;> (try (first | simp only [eq_false hg, if_true, if_false] | simp only [eq_true hg, if_true, if_false]))) | (with_reducible first | refine qd ?_ | refine qc ?_ | refine qi ?_ | refine qh ?_) | refine qf ?_ | refine qj ?_ | refine qk ?_ | refine qn ?_) <;> (try simp (disch := first | omega | simp) [ql, -qu, -qx])) | ((with_reducible first | refine sideG ?_ ?_ | refine qr ?_ ?_ | refine sideS ?_ ?_ | refine qs ?_ ?_ | refine qt ?_ ?_ | refine sideA ?_ ?_ | refine qp ?_ ?_ | refine qq ?_ ?_); first | omega | assumption | (simp; done)) | (refine qg fun K hK => ?_) | (refine qa ?_) | (refine qb true (by kernel_rfl) (by kernel_rfl) ?_) | (refine hK _ ?_; clear hK K) | (clear hK K; refine hK _ ?_; clear hK K) | (clear hK K; clear hK K; refine hK _ ?_; clear hK K) | refine qe ?_)
  refine qbb hcl (fun k : Nat => [(0, .sl (L.map Delta.av)), (1, .sl (L.map Delta.av)), (5, .int k)]) (fun _ => [])
    (fun k => k ≤ L.length) (fun k => L.length - k) 0 (by simp) (by simp) fun k hk => ?_
  by_cases hlt : k < L.length
  · have c1 := rsame03_g L[k].row (hr _ (List.getElem_mem _))
    repeat' (first | ((first | ((with_reducible refine qo (fun hg => ?_) (fun hg => ?_)) <;> (try simp only [hg]) <;> (try simp only [beq_iff_eq, beq_eq_false_iff_ne, ne_eq, decide_eq_true_eq, decide_eq_false_iff_not, bne_iff_ne, bne_eq_false_iff_eq] at hg) <;> (try (first | simp only [eq_false hg, if_true, if_false] | simp only [eq_true hg, if_true, if_false]))) | (with_reducible first | refine qd ?_ | refine qc ?_ | refine qi ?_ | refine qh ?_) | refine acall (c1) ?_ | refine qv (c1) ?_ | refine qf ?_ | refine qj ?_ | refine qk ?_ | refine qn ?_) <;> (try simp (disch := first | omega | simp) [ql, -qu, -qx, hlt])) | ((with_reducible first | refine sideG ?_ ?_ | refine qr ?_ ?_ | refine sideS ?_ ?_ | refine qs ?_ ?_ | refine qt ?_ ?_ | refine sideA ?_ ?_ | refine qp ?_ ?_ | refine qq ?_ ?_); first | omega | assumption | (simp; done)) | (refine qg fun K hK => ?_) | (refine qa ?_) | (refine qb true (by kernel_rfl) (by kernel_rfl) ?_) | (refine hK _ ?_; clear hK K) | (clear hK K; refine hK _ ?_; clear hK K) | (clear hK K; clear hK K; refine hK _ ?_; clear hK K) | refine qe ?_)
    exact ⟨k + 1, by omega, by omega, by simp⟩
  · repeat' (first | ((first | ((with_reducible refine qo (fun hg => ?_) (fun hg => ?_)) <;> (try simp only [hg]) <;> (try simp only [beq_iff_eq, beq_eq_false_iff_ne, ne_eq, decide_eq_true_eq, decide_eq_false_iff_not, bne_iff_ne, bne_eq_false_iff_eq] at hg) <;> (try (first | simp only [eq_false hg, if_true, if_false] | simp only [eq_true hg, if_true, if_false]))) | (with_reducible first | refine qd ?_ | refine qc ?_ | refine qi ?_ | refine qh ?_) | refine qf ?_ | refine qj ?_ | refine qk ?_ | refine qn ?_) <;> (try simp (disch := first | omega | simp) [ql, -qu, -qx, hlt])) | ((with_reducible first | refine sideG ?_ ?_ | refine qr ?_ ?_ | refine sideS ?_ ?_ | refine qs ?_ ?_ | refine qt ?_ ?_ | refine sideA ?_ ?_ | refine qp ?_ ?_ | refine qq ?_ ?_); first | omega | assumption | (simp; done)) | (refine qg fun K hK => ?_) | (refine qa ?_) | (refine qb true (by kernel_rfl) (by kernel_rfl) ?_) | (refine qb false (by kernel_rfl) (by kernel_rfl) ?_) | (refine hK _ ?_; clear hK K) | (clear hK K; refine hK _ ?_; clear hK K) | (clear hK K; clear hK K; refine hK _ ?_; clear hK K) | refine qe ?_)
end Go.Proofs.YtnkakofcejkhiaaDoor

/- Walk: the documented examples of chapter 27. -/
namespace Go.Proofs.YtnkakofcejkhiaaDoor
open Go.RowKit Go.Lib
def sumC : Cod := ⟨[⟨3, 0, 0, 0, 0, 0, ByteArray.empty⟩, ⟨3, 1, 0, 0, 0, 1, ByteArray.empty⟩, ⟨8, 2, 0, 1, 0, 0, ByteArray.empty⟩], [0, 0, 0], 2⟩
def lessC : Cod := ⟨[⟨3, 0, 0, 0, 0, 0, ByteArray.empty⟩, ⟨3, 1, 0, 0, 0, 1, ByteArray.empty⟩, ⟨15, 2, 0, 1, 0, 0, ByteArray.empty⟩], [0, 0, 2], 2⟩
def twoL : List Delta := [⟨1, [⟨0, 1, ByteArray.empty⟩, ⟨0, 2, ByteArray.empty⟩], 1⟩, ⟨1, [⟨0, 5, ByteArray.empty⟩, ⟨0, 4, ByteArray.empty⟩], 1⟩]
theorem sum_run : runP sumC [0, 0] twoL = ([⟨0, 3, ByteArray.empty⟩, ⟨0, 9, ByteArray.empty⟩], 0) := by kernel_rfl
theorem less_sel : selP lessC [0, 0] twoL = ([⟨1, [⟨0, 1, ByteArray.empty⟩, ⟨0, 2, ByteArray.empty⟩], 1⟩], 0) := by kernel_rfl
theorem sum_work : workP sumC 5 = 15 := by kernel_rfl
set_option maxHeartbeats 4000000 in
theorem small27_g : Gives Tryd.prog 8 [] (.bool true) := by
  have c1 := Run_g sumC [0, 0] twoL (by decide) (by decide) (by decide)
  have c2 := Select_g lessC [0, 0] twoL (by decide) (by decide) (by decide)
  have c3 := work_g sumC 5 (by decide) (by decide)
  have c4 := two_g27 1 2
  have c5 := two_g27 5 4
  have c6 := rsame03_g [⟨0, 3, ByteArray.empty⟩, ⟨0, 9, ByteArray.empty⟩] (by decide)
  have c7 := rsame27_g [⟨1, [⟨0, 1, ByteArray.empty⟩, ⟨0, 2, ByteArray.empty⟩], 1⟩] (by decide) (by decide)
  rw [sum_run] at c1
  rw [less_sel] at c2
  rw [sum_work] at c3
  simp only [sumC, lessC, twoL, Cod.av, Ins.av, Delta.av, Val.av, List.map_cons, List.map_nil] at c1 c2 c3 c4 c5 c6 c7
  refine qm Tryd.func8 Tryd.ntmps8 rfl rfl (by decide) rfl (by intro n; simp) fun σ n0 hcl hft => ?_
  repeat' (first | ((first | ((with_reducible refine qo (fun hg => ?_) (fun hg => ?_)) <;> (try simp only [hg]) <;> (try simp only [beq_iff_eq, beq_eq_false_iff_ne, ne_eq, decide_eq_true_eq, decide_eq_false_iff_not, bne_iff_ne, bne_eq_false_iff_eq] at hg) <;> (try (first | simp only [eq_false hg, if_true, if_false] | simp only [eq_true hg, if_true, if_false]))) | (with_reducible first | refine qd ?_ | refine qc ?_ | refine qi ?_ | refine qh ?_) | refine acall (c1) ?_ | refine qv (c1) ?_ | refine qw (c1) ?_ | refine acall (c2) ?_ | refine qv (c2) ?_ | refine qw (c2) ?_ | refine acall (c3) ?_ | refine qv (c3) ?_ | refine qw (c3) ?_ | refine acall (c4) ?_ | refine qv (c4) ?_ | refine qw (c4) ?_ | refine acall (c5) ?_ | refine qv (c5) ?_ | refine qw (c5) ?_ | refine acall (c6) ?_ | refine qv (c6) ?_ | refine qw (c6) ?_ | refine acall (c7) ?_ | refine qv (c7) ?_ | refine qw (c7) ?_ | refine qf ?_ | refine qj ?_ | refine qk ?_ | refine qn ?_) <;> (try simp (disch := first | omega | simp) [ql, -qu, -qx])) | ((with_reducible first | refine sideG ?_ ?_ | refine qr ?_ ?_ | refine sideS ?_ ?_ | refine qs ?_ ?_ | refine qt ?_ ?_ | refine sideA ?_ ?_ | refine qp ?_ ?_ | refine qq ?_ ?_); first | omega | assumption | (simp; done)) | (refine qg fun K hK => ?_) | (refine qa ?_) | (refine qb true (by kernel_rfl) (by kernel_rfl) ?_) | (refine qb false (by kernel_rfl) (by kernel_rfl) ?_) | (refine hK _ ?_; clear hK K) | (clear hK K; refine hK _ ?_; clear hK K) | (clear hK K; clear hK K; refine hK _ ?_; clear hK K) | refine qe ?_)
end Go.Proofs.YtnkakofcejkhiaaDoor

/- Walk of layer 27's reference: which batches fit. -/
namespace Go.Proofs.YtnkakofcejkhiaaDoor
open Go.RowKit Go.Lib
set_option maxHeartbeats 4000000 in
theorem rfits_g (cols : List Int) (L : List Delta) (hc : cols.length ≤ 1000000) (hL : L.length ≤ 1000000) (hr : ∀ d ∈ L, d.row.length ≤ 1000000) : Gives Tryd.prog 10 [.sl (cols.map AV.int), .sl (L.map Delta.av)] (.bool (fitsD cols L)) := by
  obtain ⟨R, hR⟩ : ∃ R, R = fitsD cols L := ⟨_, rfl⟩
  rw [← hR]
  unfold fitsD at hR
  refine qm Tryd.func10 Tryd.ntmps10 rfl rfl (by decide) rfl (by intro n; simp) fun σ n0 hcl hft => ?_
  repeat' (first | ((first | ((with_reducible refine qo (fun hg => ?_) (fun hg => ?_)) <;> (try simp only [hg]) <;> (try simp only [beq_iff_eq, beq_eq_false_iff_ne, ne_eq, decide_eq_true_eq, decide_eq_false_iff_not, bne_iff_ne, bne_eq_false_iff_eq] at hg) <;> (try (first | simp only [eq_false hg, if_true, if_false] | simp only [eq_true hg, if_true, if_false]))) | (with_reducible first | refine qd ?_ | refine qc ?_ | refine qi ?_ | refine qh ?_) | refine qf ?_ | refine qj ?_ | refine qk ?_ | refine qn ?_) <;> (try simp (disch := first | omega | simp) [ql, -qu, -qx])) | ((with_reducible first | refine sideG ?_ ?_ | refine qr ?_ ?_ | refine sideS ?_ ?_ | refine qs ?_ ?_ | refine qt ?_ ?_ | refine sideA ?_ ?_ | refine qp ?_ ?_ | refine qq ?_ ?_); first | omega | assumption | (simp; done)) | (refine qg fun K hK => ?_) | (refine qa ?_) | (refine qb true (by kernel_rfl) (by kernel_rfl) ?_) | (refine hK _ ?_; clear hK K) | (clear hK K; refine hK _ ?_; clear hK K) | (clear hK K; clear hK K; refine hK _ ?_; clear hK K) | refine qe ?_)
  refine qbb hcl (fun k : Nat => [(0, .sl (cols.map AV.int)), (1, .sl (L.map Delta.av)), (5, .int k)]) (fun _ => [])
    (fun k => k ≤ L.length ∧ ∀ j (h : j < L.length), j < k → qbq cols L[j].row = true) (fun k => L.length - k) 0 (by simp) (by simp) fun k ⟨hk, he⟩ => ?_
  by_cases hlt : k < L.length
  · have hbad : qbq cols L[k].row = false → R = false := fun h => by
      rw [hR, all_hit hlt h]
    have hnext : qbq cols L[k].row = true → ∃ b', (b' ≤ L.length ∧ ∀ j (h : j < L.length), j < b' → qbq cols L[j].row = true) ∧ L.length - b' < L.length - k ∧ (k : Int) + 1 = b' := fun h =>
      ⟨k + 1, ⟨by omega, qbs (C := fun d : Delta => qbq cols d.row = true) he fun _ => h⟩, by omega, by omega⟩
    have c1 := rrow_g L[k].row (hr _ (List.getElem_mem _))
    by_cases hl : L[k].row.length = cols.length
    · cases hro : rowOk L[k].row
      · rw [hro] at c1
        have hb := hbad (fitRow_row hro)
        repeat' (first | ((first | ((with_reducible refine qo (fun hg => ?_) (fun hg => ?_)) <;> (try simp only [hg]) <;> (try simp only [beq_iff_eq, beq_eq_false_iff_ne, ne_eq, decide_eq_true_eq, decide_eq_false_iff_not, bne_iff_ne, bne_eq_false_iff_eq] at hg) <;> (try (first | simp only [eq_false hg, if_true, if_false] | simp only [eq_true hg, if_true, if_false]))) | (with_reducible first | refine qd ?_ | refine qc ?_ | refine qi ?_ | refine qh ?_) | refine acall (c1) ?_ | refine qv (c1) ?_ | refine qf ?_ | refine qj ?_ | refine qk ?_ | refine qn ?_) <;> (try simp (disch := first | omega | simp) [ql, -qu, -qx, hlt, hl])) | ((with_reducible first | refine sideG ?_ ?_ | refine qr ?_ ?_ | refine sideS ?_ ?_ | refine qs ?_ ?_ | refine qt ?_ ?_ | refine sideA ?_ ?_ | refine qp ?_ ?_ | refine qq ?_ ?_); first | omega | assumption | (simp; done)) | (refine qg fun K hK => ?_) | (refine qa ?_) | (refine qb true (by kernel_rfl) (by kernel_rfl) ?_) | (refine hK _ ?_; clear hK K) | (clear hK K; refine hK _ ?_; clear hK K) | (clear hK K; clear hK K; refine hK _ ?_; clear hK K) | refine qe ?_)
        exact hb
      · rw [hro] at c1
        repeat' (first | ((first | ((with_reducible refine qo (fun hg => ?_) (fun hg => ?_)) <;> (try simp only [hg]) <;> (try simp only [beq_iff_eq, beq_eq_false_iff_ne, ne_eq, decide_eq_true_eq, decide_eq_false_iff_not, bne_iff_ne, bne_eq_false_iff_eq] at hg) <;> (try (first | simp only [eq_false hg, if_true, if_false] | simp only [eq_true hg, if_true, if_false]))) | (with_reducible first | refine qd ?_ | refine qc ?_ | refine qi ?_ | refine qh ?_) | refine acall (c1) ?_ | refine qv (c1) ?_ | refine qf ?_ | refine qj ?_ | refine qk ?_ | refine qn ?_) <;> (try simp (disch := first | omega | simp) [ql, -qu, -qx, hlt, hl])) | ((with_reducible first | refine sideG ?_ ?_ | refine qr ?_ ?_ | refine sideS ?_ ?_ | refine qs ?_ ?_ | refine qt ?_ ?_ | refine sideA ?_ ?_ | refine qp ?_ ?_ | refine qq ?_ ?_); first | omega | assumption | (simp; done)) | (refine qg fun K hK => ?_) | (refine qa ?_) | (refine qb true (by kernel_rfl) (by kernel_rfl) ?_) | (refine hK _ ?_; clear hK K) | (clear hK K; refine hK _ ?_; clear hK K) | (clear hK K; clear hK K; refine hK _ ?_; clear hK K) | refine qe ?_)
        refine qbb hcl (fun i : Nat => [(0, .sl (cols.map AV.int)), (1, .sl (L.map Delta.av)), (5, .int k), (6, .int i)]) (fun _ => [])
          (fun i => i ≤ cols.length ∧ ∀ j (h : j < cols.length), j < i → L[k].row[j].k = cols[j]) (fun i => cols.length - i) 0 (by simp) (by simp) fun i ⟨hi, hei⟩ => ?_
        by_cases hlt2 : i < cols.length
        · have hi2 : i < L[k].row.length := by omega
          by_cases hkk : L[k].row[i].k = cols[i]
          · repeat' (first | ((first | ((with_reducible refine qo (fun hg => ?_) (fun hg => ?_)) <;> (try simp only [hg]) <;> (try simp only [beq_iff_eq, beq_eq_false_iff_ne, ne_eq, decide_eq_true_eq, decide_eq_false_iff_not, bne_iff_ne, bne_eq_false_iff_eq] at hg) <;> (try (first | simp only [eq_false hg, if_true, if_false] | simp only [eq_true hg, if_true, if_false]))) | (with_reducible first | refine qd ?_ | refine qc ?_ | refine qi ?_ | refine qh ?_) | refine qf ?_ | refine qj ?_ | refine qk ?_ | refine qn ?_) <;> (try simp (disch := first | omega | simp) [ql, -qu, -qx, hlt, hlt2, hi2, hkk])) | ((with_reducible first | refine sideG ?_ ?_ | refine qr ?_ ?_ | refine sideS ?_ ?_ | refine qs ?_ ?_ | refine qt ?_ ?_ | refine sideA ?_ ?_ | refine qp ?_ ?_ | refine qq ?_ ?_); first | omega | assumption | (simp; done)) | (refine qg fun K hK => ?_) | (refine qa ?_) | (refine qb true (by kernel_rfl) (by kernel_rfl) ?_) | (refine qb false (by kernel_rfl) (by kernel_rfl) ?_) | (refine hK _ ?_; clear hK K) | (clear hK K; refine hK _ ?_; clear hK K) | (clear hK K; clear hK K; refine hK _ ?_; clear hK K) | refine qe ?_)
            exact ⟨i + 1, ⟨by omega, fun j hj hji => by
              by_cases hji2 : j = i
              · subst hji2; exact hkk
              · exact hei j hj (by omega)⟩, by omega, by omega⟩
          · have hb := hbad (fitRow_at hl hro hlt2 hkk)
            repeat' (first | ((first | ((with_reducible refine qo (fun hg => ?_) (fun hg => ?_)) <;> (try simp only [hg]) <;> (try simp only [beq_iff_eq, beq_eq_false_iff_ne, ne_eq, decide_eq_true_eq, decide_eq_false_iff_not, bne_iff_ne, bne_eq_false_iff_eq] at hg) <;> (try (first | simp only [eq_false hg, if_true, if_false] | simp only [eq_true hg, if_true, if_false]))) | (with_reducible first | refine qd ?_ | refine qc ?_ | refine qi ?_ | refine qh ?_) | refine qf ?_ | refine qj ?_ | refine qk ?_ | refine qn ?_) <;> (try simp (disch := first | omega | simp) [ql, -qu, -qx, hlt, hlt2, hi2, hkk])) | ((with_reducible first | refine sideG ?_ ?_ | refine qr ?_ ?_ | refine sideS ?_ ?_ | refine qs ?_ ?_ | refine qt ?_ ?_ | refine sideA ?_ ?_ | refine qp ?_ ?_ | refine qq ?_ ?_); first | omega | assumption | (simp; done)) | (refine qg fun K hK => ?_) | (refine qa ?_) | (refine qb true (by kernel_rfl) (by kernel_rfl) ?_) | (refine hK _ ?_; clear hK K) | (clear hK K; refine hK _ ?_; clear hK K) | (clear hK K; clear hK K; refine hK _ ?_; clear hK K) | refine qe ?_)
            all_goals first | exact hb | exact absurd (by assumption) hkk
        · have hn := hnext (fitRow_all hl hro fun j hj => hei j hj (by omega))
          repeat' (first | ((first | ((with_reducible refine qo (fun hg => ?_) (fun hg => ?_)) <;> (try simp only [hg]) <;> (try simp only [beq_iff_eq, beq_eq_false_iff_ne, ne_eq, decide_eq_true_eq, decide_eq_false_iff_not, bne_iff_ne, bne_eq_false_iff_eq] at hg) <;> (try (first | simp only [eq_false hg, if_true, if_false] | simp only [eq_true hg, if_true, if_false]))) | (with_reducible first | refine qd ?_ | refine qc ?_ | refine qi ?_ | refine qh ?_) | refine qf ?_ | refine qj ?_ | refine qk ?_ | refine qn ?_) <;> (try simp (disch := first | omega | simp) [ql, -qu, -qx, hlt, hlt2])) | ((with_reducible first | refine sideG ?_ ?_ | refine qr ?_ ?_ | refine sideS ?_ ?_ | refine qs ?_ ?_ | refine qt ?_ ?_ | refine sideA ?_ ?_ | refine qp ?_ ?_ | refine qq ?_ ?_); first | omega | assumption | (simp; done)) | (refine qg fun K hK => ?_) | (refine qa ?_) | (refine qb true (by kernel_rfl) (by kernel_rfl) ?_) | (refine hK _ ?_; clear hK K) | (clear hK K; refine hK _ ?_; clear hK K) | (clear hK K; clear hK K; refine hK _ ?_; clear hK K) | refine qe ?_)
          exact hn
    · have hb := hbad (fitRow_len hl)
      repeat' (first | ((first | ((with_reducible refine qo (fun hg => ?_) (fun hg => ?_)) <;> (try simp only [hg]) <;> (try simp only [beq_iff_eq, beq_eq_false_iff_ne, ne_eq, decide_eq_true_eq, decide_eq_false_iff_not, bne_iff_ne, bne_eq_false_iff_eq] at hg) <;> (try (first | simp only [eq_false hg, if_true, if_false] | simp only [eq_true hg, if_true, if_false]))) | (with_reducible first | refine qd ?_ | refine qc ?_ | refine qi ?_ | refine qh ?_) | refine qf ?_ | refine qj ?_ | refine qk ?_ | refine qn ?_) <;> (try simp (disch := first | omega | simp) [ql, -qu, -qx, hlt, hl])) | ((with_reducible first | refine sideG ?_ ?_ | refine qr ?_ ?_ | refine sideS ?_ ?_ | refine qs ?_ ?_ | refine qt ?_ ?_ | refine sideA ?_ ?_ | refine qp ?_ ?_ | refine qq ?_ ?_); first | omega | assumption | (simp; done)) | (refine qg fun K hK => ?_) | (refine qa ?_) | (refine qb true (by kernel_rfl) (by kernel_rfl) ?_) | (refine hK _ ?_; clear hK K) | (clear hK K; refine hK _ ?_; clear hK K) | (clear hK K; clear hK K; refine hK _ ?_; clear hK K) | refine qe ?_)
      all_goals first | exact hb | (exfalso; omega)
  · repeat' (first | ((first | ((with_reducible refine qo (fun hg => ?_) (fun hg => ?_)) <;> (try simp only [hg]) <;> (try simp only [beq_iff_eq, beq_eq_false_iff_ne, ne_eq, decide_eq_true_eq, decide_eq_false_iff_not, bne_iff_ne, bne_eq_false_iff_eq] at hg) <;> (try (first | simp only [eq_false hg, if_true, if_false] | simp only [eq_true hg, if_true, if_false]))) | (with_reducible first | refine qd ?_ | refine qc ?_ | refine qi ?_ | refine qh ?_) | refine qf ?_ | refine qj ?_ | refine qk ?_ | refine qn ?_) <;> (try simp (disch := first | omega | simp) [ql, -qu, -qx, hlt])) | ((with_reducible first | refine sideG ?_ ?_ | refine qr ?_ ?_ | refine sideS ?_ ?_ | refine qs ?_ ?_ | refine qt ?_ ?_ | refine sideA ?_ ?_ | refine qp ?_ ?_ | refine qq ?_ ?_); first | omega | assumption | (simp; done)) | (refine qg fun K hK => ?_) | (refine qa ?_) | (refine qb true (by kernel_rfl) (by kernel_rfl) ?_) | (refine qb false (by kernel_rfl) (by kernel_rfl) ?_) | (refine hK _ ?_; clear hK K) | (clear hK K; refine hK _ ?_; clear hK K) | (clear hK K; clear hK K; refine hK _ ?_; clear hK K) | refine qe ?_)
    rw [hR, all_end (qda (C := fun d : Delta => qbq cols d.row = true) he hlt)]
end Go.Proofs.YtnkakofcejkhiaaDoor

/- Lifting a law: the arguments' readings, and what the listed variables hold. -/
namespace Go.Proofs.YtnkakofcejkhiaaDoor
open Go.ChangeShapes Go.WideShapes Go.ChangeAt Go.RowKit Go.Lib
section
variable {H : Type} {enc : TypeId × Value → H}
theorem returnsInHanded_three {a : Assume} {C : Checked} {os : Os} {f : FuncId} {fn : Func} {s : ChangeSpec} {conds : List PathCond} {apart fresh handsOn again : Bool} {X : World → Array Value → Prop}
    (own : ownKnob C.prog.godebug = none) (started : os.Started) (noInit : C.prog.inits.idxOf? f = none) (hfn : C.prog.funcs[f]? = some fn)
    (witness : ∃ (w : World) (tape : Tape) (i : Input), w.os = os ∧ (w.forCall tape i).Shaped C.prog ∧ i.vars = [] ∧ Input.okWide C.prog (w.forCall tape i) .any w.heap.size f i ∧
      ((s.pre enc C.prog fn conds apart (w.forCall tape i).memory i.args ∧ X (w.forCall tape i).memory i.args) ∧ sizedMet enc C.prog fn (OpenSpec.ofChange s) apart (w.forCall tape i).memory i.args) ∧ a.holds C.prog (lone (Frame.enter C.prog f i.args .normal) [] (w.forCall tape i)))
    (hXh : ∀ (w w' : World) (us : Array Value), w.heap = w'.heap → X w us → X w' us)
    (contract : ∀ (W : World) (base : Nat) (args : Array Value) (ds gs : List (DataW H)) (before : List MemPlace),
      (∀ (j : Nat) t v, fn.params[j]? = some t → args[j]? = some v → Value.okWide C.prog W .any base t v) →
      DataW.Whole enc C.prog fn.params.toList s.vars apart W args.toList ds gs before →
      conds.all (PathCond.test C.prog ⟨fn.params.toList, ds, s.plain.varTypes C.prog, gs⟩) = true →
      W.ShapedOpen C.prog → X W args →
      Calls C.prog f args W fun e W' => ∃ v, e = .returned v ∧ s.post enc C.prog fn apart fresh handsOn again W args v W') :
    ReturnsInHanded a C os f .any (fun w args => (s.pre enc C.prog fn conds apart w args ∧ X w args) ∧ sizedMet enc C.prog fn (OpenSpec.ofChange s) apart w args) (s.post enc C.prog fn apart fresh handsOn again) := by
  refine returnsInHanded_of_calls own started noInit witness ?_
  intro w tape i _ hsh _ hok hpre hholds
  obtain ⟨_, _, _, fn', hfn', _, _, _, _, hval⟩ := hok
  have e : fn' = fn := Option.some.inj (hfn'.symm.trans hfn)
  subst e
  obtain ⟨⟨⟨ds, gs, before, hw, hc⟩, hX⟩, -⟩ := hpre
  have hw' := DataW.Whole.of_heap (w' := w.forCall tape i) (by rfl) hw
  refine (contract (w.forCall tape i) w.heap.size i.args ds gs before hval hw' hc hsh (hXh _ _ _ (by rfl) hX)).mono fun e W' ⟨v, he, hp⟩ => ?_
  subst he
  exact ChangeSpec.post_blind hp
end
theorem flat_int02 {w : World} {n : Int} : RR1 (St.flat w) (.int n) (.int .i64 n) := by
  show RC _ _ _
  rw [RC]
section
variable {H : Type} {enc : TypeId × Value → H} {w w0 : World} {sp : Nat → Bool} {hd : Bool} {b0 : Nat} {t : TypeId} {v : Value}
theorem par_intR {P : Program} (ht : P.underlying t = some (.int .i64)) (hval : Value.okWide P w0 .any b0 t v) : ∃ n, v = .int .i64 n ∧ (-9223372036854775808 ≤ n ∧ n ≤ 9223372036854775807) := by
  obtain ⟨n, rfl⟩ := okWide_int ht hval
  refine ⟨n, rfl, ?_⟩
  unfold Value.okWide at hval
  rw [ht] at hval
  dsimp only at hval
  unfold Cell.okWide at hval
  rw [ht] at hval
  dsimp only at hval
  unfold Cell.ok at hval
  rw [ht] at hval
  exact ⟨hval.2.1, hval.2.2⟩
end
section
variable {H : Type} {enc : TypeId × Value → H} {P : Program} {w : World} {base : Nat} {spare : Nat → Bool} {held : Bool} {t0 t1 t2 t3 : TypeId} {args : Array Value} {ds : List (DataW H)} {ps : List MemPlace}
end
theorem var_block {P : Program} {w : World} {n : String} {g : Nat} {cs : Array Value} (hg : P.globalNamed n = some g) (h : w.var? P n = some cs) : ∃ t fz, w.heap[g]? = some (.cells cs t fz) := by
  unfold World.var? at h
  rw [hg] at h
  dsimp only [Option.bind] at h
  split at h
  · rename_i cs' t fz he
    cases h
    exact ⟨t, fz, he⟩
  · cases h
theorem globS_flat {w : World} {b : Nat} {cs : List Value} (h : ∃ t fz, w.heap[b]? = some (.cells cs.toArray t fz)) (hne : cs ≠ []) : GlobS (St.flat w) b 0 cs := by
  obtain ⟨t, fz, hb⟩ := h
  refine ⟨qcu _ 0 fun j u hj => ⟨?_, ?_⟩, ⟨t, fz, hb⟩, (fun r hr => by cases hr), hne⟩
  · show World.cell? w _ = _
    simp [World.cell?, hb, hj]
  · exact (Array.getElem?_eq_some_iff.1 hb).1
def tabS {H : Type} (zs : List ByteArray) : DataW H := .agg (zs.map fun z => .lit (.string z.data.toList))
theorem cells_of_tabS {H : Type} {enc : TypeId × Value → H} {P : Program} {w : World} {base : Nat} {sp : Nat → Bool} {held : Bool} {fuel : Nat} {t e : TypeId} {n : Nat} {cs : List Value} {zs : List ByteArray} {p : List MemPlace}
    (ht : P.underlying t = some (.array n e)) (he : P.underlying e = some .string) (hce : P.cellsOf e = 1) (hct : P.cellsOf t = n)
    (h : DataW.trod enc P w base sp held fuel t cs = some (tabS zs, p)) : cs = zs.map fun z => Value.string z := by
  obtain ⟨xs, m, rfl, hx, hl, hxl, hf⟩ := DataW.trod_array ht h
  rw [hct] at hl
  have hxs : xs.map (·.1) = zs.map fun z => (DataW.lit (.string z.data.toList) : DataW H) := by
    have := congrArg Prod.fst hx
    simpa [tabS] using this.symm
  have hzl : zs.length = n := by
    have := congrArg List.length hxs
    simp at this
    omega
  apply List.ext_getElem?
  intro i
  by_cases hi : i < n
  · have hi2 := hf i hi
    rw [List.getElem?_eq_getElem (by omega)] at hi2
    obtain ⟨s, hc, hxi, -⟩ := DataW.trod_string he hi2
    rw [hce, Nat.mul_one] at hc
    have h1 : cs[i]? = some (.string s) := by
      have := congrArg (·[0]?) hc
      simpa [List.getElem?_take, List.getElem?_drop] using this
    have h2 : (xs.map (·.1))[i]? = some (DataW.lit (.string s.data.toList) : DataW H) := by
      rw [List.getElem?_map, List.getElem?_eq_getElem (by omega), hxi]; rfl
    rw [hxs] at h2
    simp only [List.getElem?_map, Option.map_eq_some_iff, DataW.lit.injEq, Lit.string.injEq] at h2
    obtain ⟨z', hz', hzz⟩ := h2
    have hz3 : z' = s := by
      cases z'; cases s; simp at hzz; rw [hzz]
    subst hz3
    simp [h1, hz']
  · rw [List.getElem?_eq_none (by omega), List.getElem?_eq_none (by simp; omega)]
end Go.Proofs.YtnkakofcejkhiaaDoor

/- Readings of arguments: api.Value. -/
namespace Go.Proofs.YtnkakofcejkhiaaDoor
open Go.RowKit Go.Lib
section
variable {H : Type} {enc : TypeId × Value → H} {w : World} {sp : Nat → Bool} {hd : Bool}
theorem trods_val (N : Nat) : Trods enc Tryd.prog w sp hd 39 Val.d N := by
  intro n cs x hn h
  obtain ⟨xs, m, rfl, -, hlen, hl2, hf⟩ := DataW.trod_struct Tryd.underlying39 h
  have hc : Tryd.prog.cellsOf 39 = 3 := by kernel_rfl
  rw [hc] at hlen
  obtain ⟨y0, h0⟩ := qbe 0 3 0 1 hl2 hf ⟨_, rfl, rfl, rfl⟩ (by kernel_rfl)
  obtain ⟨y1, h1⟩ := qbe 1 3 1 1 hl2 hf ⟨_, rfl, rfl, rfl⟩ (by kernel_rfl)
  obtain ⟨y2, h2⟩ := qbe 2 9 2 1 hl2 hf ⟨_, rfl, rfl, rfl⟩ (by kernel_rfl)
  obtain ⟨a0, r0⟩ := qbl Tryd.underlying3 (m + 1) m _ _ (by omega) h0
  obtain ⟨a1, r1⟩ := qbl Tryd.underlying3 (m + 1) m _ _ (by omega) h1
  obtain ⟨a2, r2⟩ := trods_str Tryd.underlying9 (m + 1) m _ _ (by omega) h2
  exact ⟨⟨a0, a1, a2⟩, rd_st (qbx (k := 1) r0 (qbx (k := 1) r1 (qbx (k := 1) r2 (rdS_end (by omega)))))⟩
end
end Go.Proofs.YtnkakofcejkhiaaDoor

/- Readings of arguments: api.Delta. -/
namespace Go.Proofs.YtnkakofcejkhiaaDoor
open Go.RowKit Go.Lib
section
variable {H : Type} {enc : TypeId × Value → H} {w : World} {sp : Nat → Bool} {hd : Bool}
theorem trods_delta (N : Nat) : Trods enc Tryd.prog w sp hd 37 Delta.d N := by
  intro n cs x hn h
  obtain ⟨xs, m, rfl, -, hlen, hl2, hf⟩ := DataW.trod_struct Tryd.underlying37 h
  have hc : Tryd.prog.cellsOf 37 = 3 := by kernel_rfl
  rw [hc] at hlen
  obtain ⟨y0, h0⟩ := qbe 0 3 0 1 hl2 hf ⟨_, rfl, rfl, rfl⟩ (by kernel_rfl)
  obtain ⟨y1, h1⟩ := qbe 1 33 1 1 hl2 hf ⟨_, rfl, rfl, rfl⟩ (by kernel_rfl)
  obtain ⟨y2, h2⟩ := qbe 2 3 2 1 hl2 hf ⟨_, rfl, rfl, rfl⟩ (by kernel_rfl)
  obtain ⟨a0, r0⟩ := qbl Tryd.underlying3 (m + 1) m _ _ (by omega) h0
  obtain ⟨a1, r1⟩ := trods_sl Tryd.underlying33 (sz := 3) (by kernel_rfl) (by omega) Val.width (trods_val (m + 1)) m _ _ (by omega) h1
  obtain ⟨a2, r2⟩ := qbl Tryd.underlying3 (m + 1) m _ _ (by omega) h2
  exact ⟨⟨a0, a1, a2⟩, rd_st (qbx (k := 1) r0 (qbx (k := 1) r1 (qbx (k := 1) r2 (rdS_end (by omega)))))⟩
theorem trods_deltas (N : Nat) : Trods enc Tryd.prog w sp hd 26 (fun l : List Delta => D.sl (l.map Delta.d)) N := fun n cs x hn h =>
  trods_sl Tryd.underlying26 (sz := 3) (by kernel_rfl) (by omega) Delta.width (trods_delta N) n cs x (by omega) h
end
end Go.Proofs.YtnkakofcejkhiaaDoor

/- Readings of arguments: api.Ins. -/
namespace Go.Proofs.YtnkakofcejkhiaaDoor
open Go.RowKit Go.Lib
section
variable {H : Type} {enc : TypeId × Value → H} {w : World} {sp : Nat → Bool} {hd : Bool}
theorem trods_ins (N : Nat) : Trods enc Tryd.prog w sp hd 68 Ins.d N := by
  intro n cs x hn h
  obtain ⟨xs, m, rfl, -, hlen, hl2, hf⟩ := DataW.trod_struct Tryd.underlying68 h
  have hc : Tryd.prog.cellsOf 68 = 7 := by kernel_rfl
  rw [hc] at hlen
  obtain ⟨y0, h0⟩ := qbe 0 3 0 1 hl2 hf ⟨_, rfl, rfl, rfl⟩ (by kernel_rfl)
  obtain ⟨y1, h1⟩ := qbe 1 3 1 1 hl2 hf ⟨_, rfl, rfl, rfl⟩ (by kernel_rfl)
  obtain ⟨y2, h2⟩ := qbe 2 3 2 1 hl2 hf ⟨_, rfl, rfl, rfl⟩ (by kernel_rfl)
  obtain ⟨y3, h3⟩ := qbe 3 3 3 1 hl2 hf ⟨_, rfl, rfl, rfl⟩ (by kernel_rfl)
  obtain ⟨y4, h4⟩ := qbe 4 3 4 1 hl2 hf ⟨_, rfl, rfl, rfl⟩ (by kernel_rfl)
  obtain ⟨y5, h5⟩ := qbe 5 3 5 1 hl2 hf ⟨_, rfl, rfl, rfl⟩ (by kernel_rfl)
  obtain ⟨y6, h6⟩ := qbe 6 9 6 1 hl2 hf ⟨_, rfl, rfl, rfl⟩ (by kernel_rfl)
  obtain ⟨a0, r0⟩ := qbl Tryd.underlying3 (m + 1) m _ _ (by omega) h0
  obtain ⟨a1, r1⟩ := qbl Tryd.underlying3 (m + 1) m _ _ (by omega) h1
  obtain ⟨a2, r2⟩ := qbl Tryd.underlying3 (m + 1) m _ _ (by omega) h2
  obtain ⟨a3, r3⟩ := qbl Tryd.underlying3 (m + 1) m _ _ (by omega) h3
  obtain ⟨a4, r4⟩ := qbl Tryd.underlying3 (m + 1) m _ _ (by omega) h4
  obtain ⟨a5, r5⟩ := qbl Tryd.underlying3 (m + 1) m _ _ (by omega) h5
  obtain ⟨a6, r6⟩ := trods_str Tryd.underlying9 (m + 1) m _ _ (by omega) h6
  exact ⟨⟨a0, a1, a2, a3, a4, a5, a6⟩, rd_st (qbx (k := 1) r0 (qbx (k := 1) r1 (qbx (k := 1) r2 (qbx (k := 1) r3 (qbx (k := 1) r4 (qbx (k := 1) r5 (qbx (k := 1) r6 (rdS_end (by omega)))))))))⟩
end
end Go.Proofs.YtnkakofcejkhiaaDoor

/- Readings of arguments: api.Code. -/
namespace Go.Proofs.YtnkakofcejkhiaaDoor
open Go.RowKit Go.Lib
section
variable {H : Type} {enc : TypeId × Value → H} {w : World} {sp : Nat → Bool} {hd : Bool}
theorem trods_cod (N : Nat) : Trods enc Tryd.prog w sp hd 25 Cod.d N := by
  intro n cs x hn h
  obtain ⟨xs, m, rfl, -, hlen, hl2, hf⟩ := DataW.trod_struct Tryd.underlying25 h
  have hc : Tryd.prog.cellsOf 25 = 3 := by kernel_rfl
  rw [hc] at hlen
  obtain ⟨y0, h0⟩ := qbe 0 22 0 1 hl2 hf ⟨_, rfl, rfl, rfl⟩ (by kernel_rfl)
  obtain ⟨y1, h1⟩ := qbe 1 23 1 1 hl2 hf ⟨_, rfl, rfl, rfl⟩ (by kernel_rfl)
  obtain ⟨y2, h2⟩ := qbe 2 3 2 1 hl2 hf ⟨_, rfl, rfl, rfl⟩ (by kernel_rfl)
  obtain ⟨a0, r0⟩ := trods_sl Tryd.underlying22 (sz := 7) (by kernel_rfl) (by omega) Ins.width (trods_ins (m + 1)) m _ _ (by omega) h0
  obtain ⟨a1, r1⟩ := trods_sl Tryd.underlying23 (sz := 1) (by kernel_rfl) (by omega) (fun _ => rfl) (qbl Tryd.underlying3 (m + 1)) m _ _ (by omega) h1
  obtain ⟨a2, r2⟩ := qbl Tryd.underlying3 (m + 1) m _ _ (by omega) h2
  exact ⟨⟨a0, a1, a2⟩, rd_st (qbx (k := 1) r0 (qbx (k := 1) r1 (qbx (k := 1) r2 (rdS_end (by omega)))))⟩
end
end Go.Proofs.YtnkakofcejkhiaaDoor

/- What the row's variable holds at a law's entry: the table of names. -/
namespace Go.Proofs.YtnkakofcejkhiaaDoor
open Go.ChangeShapes Go.WideShapes Go.ChangeAt Go.RowKit Go.Lib
def namesZ : List ByteArray := qz.map fun v => match v with | .string s => s | _ => ByteArray.empty
theorem glob27 {W : World} {laid : List (String × DataW Unit)} (hl : laidMet Tryd.prog laid W) (h1 : ("errata/code.names", Rows.laid_errata_code_names) ∈ laid) : globsOk (GlobS (St.flat W)) := by
  obtain ⟨g1, t1, c1, f1, p1, a1, b1, d1, e1⟩ := laidMet.reads hl h1
  obtain rfl : g1 = 0 := Option.some.inj (a1.symm.trans (by kernel_rfl))
  obtain rfl : t1 = 151 := Option.some.inj (b1.symm.trans (by kernel_rfl))
  have e2 : (Rows.laid_errata_code_names : DataW Unit) = tabS namesZ := by kernel_rfl
  rw [e2] at e1
  have y1 := cells_of_tabS (n := 23) (e := 9) Tryd.underlying151 Tryd.underlying9 (by kernel_rfl) (by kernel_rfl) e1
  have e3 : (namesZ.map fun z => Value.string z) = qz := by kernel_rfl
  rw [e3] at y1
  refine ⟨⟨(), globS_flat ?_ (by simp [qz])⟩, trivial⟩
  obtain ⟨t, fz, hb⟩ := var_block a1 d1
  exact ⟨t, fz, by rw [hb, ← y1]⟩
section
variable {H : Type} {enc : TypeId × Value → H} {w : World} {sp : Nat → Bool} {hd : Bool}
theorem trods_ints27 (N : Nat) : Trods enc Tryd.prog w sp hd 23 (fun l : List Int => D.sl (l.map D.int)) N := fun n cs x hn h =>
  trods_sl Tryd.underlying23 (sz := 1) (by kernel_rfl) (by omega) (fun _ => rfl) (qbl Tryd.underlying3 N) n cs x (by omega) h
end
theorem ints_av27 (l : List Int) : (D.sl (l.map D.int)).av = .sl (l.map AV.int) := by
  rw [D.av, D.avs_map, List.map_map]; rfl
theorem ints_flat27 {w : World} {l : List Int} {v : Value} (h : Rd w Any (.sl (l.map D.int)) [v]) : RR1 (St.flat w) (.sl (l.map AV.int)) v := by
  have := qcz h
  rw [ints_av27] at this
  exact this
end Go.Proofs.YtnkakofcejkhiaaDoor
