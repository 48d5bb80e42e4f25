/- Walk of layer 27: Select. -/
import Derived.Test.YtnkimlkoijfcpaaGreatDoorGf14
import Derived.Test.YtnkimlkoijfcpaaGreatDoorGf15
import Derived.Test.YtnkimlkoijfcpaaGreatDoorGf16
import Derived.Test.YtnkimlkoijfcpaaGreatDoorGf17
import Derived.Test.YtnkimlkoijfcpaaGreatDoorGf28
import Derived.Test.YtnkimlkoijfcpaaGreatDoorGf29
set_option linter.unusedSimpArgs false
set_option linter.unusedVariables false
namespace Go.Proofs.YtnkimlkoijfcpaaGreatDoor
open Go.RowKit Go.Lib
def selP (c : Cod) (cols : List Int) (l : List Delta) : List Delta × Int :=
  if (verP c cols).2 ≠ 0 then ([], (verP c cols).2) else if c.types.getD c.out.toNat 0 ≠ 2 then ([], 13) else if fitsD cols l = false then ([], 16)
  else (l.filter fun d => decide ((valC c d.time d.row).n = 1), 0)
theorem filter_snoc {α : Type} (p : α → Bool) (l : List α) {k : Nat} (h : k < l.length) : (l.take (k + 1)).filter p = if p l[k] then (l.take k).filter p ++ [l[k]] else (l.take k).filter p := by
  rw [List.take_succ_eq_append_getElem h, List.filter_append]
  cases hp : p l[k] <;> simp [hp]
theorem filter_le {α : Type} (p : α → Bool) (l : List α) (k : Nat) : ((l.take k).filter p).length ≤ k := by
  have := List.length_filter_le p (l.take k)
  rw [List.length_take] at this; omega
set_option maxHeartbeats 4000000 in
theorem Select_g (c : Cod) (cols : List Int) (L : List Delta) (hc : cols.length ≤ 1000000) (hL : L.length ≤ 1000000) (hr : ∀ d ∈ L, d.row.length ≤ 1000000) :
    Gives Tryz.prog 68 [c.av, .sl (cols.map AV.int), .sl (L.map Delta.av)] (.tup [.sl ((selP c cols L).1.map Delta.av), .int (selP c cols L).2]) := by
  have c1 := verify_g c cols hc
  have c2 := Run_g c cols L hc hL hr
  obtain ⟨R, hR⟩ : ∃ R, R = selP c cols L := ⟨_, rfl⟩
  rw [← hR]
  unfold selP at hR
  unfold runP at c2
  obtain ⟨ins, types, out⟩ := c
  by_cases hv : (verP ⟨ins, types, out⟩ cols).2 = 0
  · rw [if_neg (by omega)] at hR c2
    have hok := verP_ok.1 hv
    rw [hv] at c1
    have o0 : 0 ≤ out := hok.out0
    have o1 : out < types.length := hok.out1
    have hty : types.getD out.toNat 0 = types[out.toNat]'(by omega) := by rw [List.getD_eq_getElem?_getD, List.getElem?_eq_getElem (by omega)]; rfl
    simp only at hR
    rw [hty] at hR
    by_cases ht : types[out.toNat]'(by omega) = 2
    · rw [if_neg (by omega)] at hR
      cases hf : fitsD cols L
      · rw [hf] at c2 hR
        rw [if_pos rfl] at c2 hR
        refine qn Tryz.func68 Tryz.ntmps68 rfl rfl (by decide) rfl (by intro n; simp) fun σ n0 hcl hft => ?_
        repeat' (first | ((first | ((with_reducible refine qo (fun hg => ?_) (fun hg => ?_)) <;> (try simp only [hg]) <;> (try simp only [gS] at hg) <;> (try (first | simp only [eq_false hg, gI] | simp only [eq_true hg, gI]))) | (with_reducible first | refine qg ?_ | refine qf ?_ | refine ql ?_ | refine qk ?_) | refine acall (c1) ?_ | refine qp (c1) ?_ | refine acall (c2) ?_ | refine qp (c2) ?_ | refine qd ?_ | refine qi ?_ | refine qj ?_ | refine qm ?_) <;> (try simp (disch := first | omega | simp) [qh, -qq, -qs, o0, o1, ht])) | ((with_reducible refine sideT ?_ ?_); first | omega | assumption | (simp; done)) | (refine qe fun K hK => ?_) | (refine qa ?_) | (refine qb true (by kernel_rfl) (by kernel_rfl) ?_) | (refine hK _ ?_; clear hK K) | (clear hK K; refine hK _ ?_; clear hK K) | (clear hK K; clear hK K; refine hK _ ?_; clear hK K) | refine qc ?_)
        all_goals (rw [hR]; simp)
      · rw [hf] at c2 hR
        rw [if_neg (by simp)] at c2 hR
        have hVl : (runD ⟨ins, types, out⟩ L).length = L.length := by unfold runD; simp
        refine qn Tryz.func68 Tryz.ntmps68 rfl rfl (by decide) rfl (by intro n; simp) fun σ n0 hcl hft => ?_
        repeat' (first | ((first | ((with_reducible refine qo (fun hg => ?_) (fun hg => ?_)) <;> (try simp only [hg]) <;> (try simp only [gS] at hg) <;> (try (first | simp only [eq_false hg, gI] | simp only [eq_true hg, gI]))) | (with_reducible first | refine qg ?_ | refine qf ?_ | refine ql ?_ | refine qk ?_) | refine acall (c1) ?_ | refine qp (c1) ?_ | refine acall (c2) ?_ | refine qp (c2) ?_ | refine qd ?_ | refine qi ?_ | refine qj ?_ | refine qm ?_) <;> (try simp (disch := first | omega | simp) [qh, -qq, -qs, o0, o1, ht])) | ((with_reducible refine sideT ?_ ?_); first | omega | assumption | (simp; done)) | (refine qe fun K hK => ?_) | (refine qa ?_) | (refine qb true (by kernel_rfl) (by kernel_rfl) ?_) | (refine hK _ ?_; clear hK K) | (clear hK K; refine hK _ ?_; clear hK K) | (clear hK K; clear hK K; refine hK _ ?_; clear hK K) | refine qc ?_)
        refine qcn 12 72 3 (by simp) ?_
        refine qt hcl (fun k : Nat => [(10, .sl ((runD ⟨ins, types, out⟩ L).map Val.av)), (12, .gs (n0 + 1) (((L.take k).filter fun d => decide ((valC ⟨ins, types, out⟩ d.time d.row).n = 1)).map Delta.av)), (41, .sl (L.map Delta.av)), (42, .int L.length), (43, .int k)])
          (fun k => [.cells [.sl (ins.map Ins.av), .sl (types.map AV.int), .int out] 45, .tail ((L.take k).filter fun d => decide ((valC ⟨ins, types, out⟩ d.time d.row).n = 1)).length 72 3])
          (fun k => k ≤ L.length) (fun k => L.length - k) 0 (by omega) (by simp) fun k hk => ?_
        by_cases hlt : k < L.length
        · have hfl := filter_le (fun d : Delta => decide ((valC ⟨ins, types, out⟩ d.time d.row).n = 1)) L k
          have hfs := filter_snoc (fun d : Delta => decide ((valC ⟨ins, types, out⟩ d.time d.row).n = 1)) L hlt
          have hvg : (runD ⟨ins, types, out⟩ L)[k]'(by omega) = valC ⟨ins, types, out⟩ L[k].time L[k].row := by unfold runD; simp
          have hk2 : k < (runD ⟨ins, types, out⟩ L).length := by omega
          have c3 := clone_g L[k].row (hr _ (List.getElem_mem _))
          by_cases hp : (valC ⟨ins, types, out⟩ L[k].time L[k].row).n = 1
          · rw [if_pos (by simpa using hp)] at hfs
            repeat' (first | ((first | ((with_reducible refine qo (fun hg => ?_) (fun hg => ?_)) <;> (try simp only [hg]) <;> (try simp only [gS] at hg) <;> (try (first | simp only [eq_false hg, gI] | simp only [eq_true hg, gI]))) | (with_reducible first | refine qg ?_ | refine qf ?_ | refine ql ?_ | refine qk ?_) | refine acall (c3) ?_ | refine qp (c3) ?_ | refine qd ?_ | refine qi ?_ | refine qj ?_ | refine qm ?_) <;> (try simp (disch := first | omega | simp) [qh, -qq, -qs, hlt, hVl, hk2, hvg, hp])) | ((with_reducible refine sideT ?_ ?_); first | omega | assumption | (simp; done)) | (refine qe fun K hK => ?_) | (refine qa ?_) | (refine qb true (by kernel_rfl) (by kernel_rfl) ?_) | (refine hK _ ?_; clear hK K) | (clear hK K; refine hK _ ?_; clear hK K) | (clear hK K; clear hK K; refine hK _ ?_; clear hK K) | refine qc ?_)
            all_goals first | exact absurd hp (by assumption) | (refine ⟨k + 1, by omega, by omega, ?_⟩; rw [hfs]; simp)
          · rw [if_neg (by simpa using hp)] at hfs
            repeat' (first | ((first | ((with_reducible refine qo (fun hg => ?_) (fun hg => ?_)) <;> (try simp only [hg]) <;> (try simp only [gS] at hg) <;> (try (first | simp only [eq_false hg, gI] | simp only [eq_true hg, gI]))) | (with_reducible first | refine qg ?_ | refine qf ?_ | refine ql ?_ | refine qk ?_) | refine acall (c3) ?_ | refine qp (c3) ?_ | refine qd ?_ | refine qi ?_ | refine qj ?_ | refine qm ?_) <;> (try simp (disch := first | omega | simp) [qh, -qq, -qs, hlt, hVl, hk2, hvg, hp])) | ((with_reducible refine sideT ?_ ?_); first | omega | assumption | (simp; done)) | (refine qe fun K hK => ?_) | (refine qa ?_) | (refine qb true (by kernel_rfl) (by kernel_rfl) ?_) | (refine hK _ ?_; clear hK K) | (clear hK K; refine hK _ ?_; clear hK K) | (clear hK K; clear hK K; refine hK _ ?_; clear hK K) | refine qc ?_)
            all_goals first | exact absurd (by assumption) hp | (refine ⟨k + 1, by omega, by omega, ?_⟩; rw [hfs]; simp)
        · obtain rfl : k = L.length := by omega
          rw [List.take_length]
          repeat' (first | ((first | ((with_reducible refine qo (fun hg => ?_) (fun hg => ?_)) <;> (try simp only [hg]) <;> (try simp only [gS] at hg) <;> (try (first | simp only [eq_false hg, gI] | simp only [eq_true hg, gI]))) | (with_reducible first | refine qg ?_ | refine qf ?_ | refine ql ?_ | refine qk ?_) | refine qd ?_ | refine qi ?_ | refine qj ?_ | refine qm ?_) <;> (try simp (disch := first | omega | simp) [qh, -qq, -qs, hlt])) | ((with_reducible refine sideT ?_ ?_); first | omega | assumption | (simp; done)) | (refine qe fun K hK => ?_) | (refine qa ?_) | (refine qb true (by kernel_rfl) (by kernel_rfl) ?_) | (refine hK _ ?_; clear hK K) | (clear hK K; refine hK _ ?_; clear hK K) | (clear hK K; clear hK K; refine hK _ ?_; clear hK K) | refine qc ?_)
          all_goals (rw [hR]; simp)
    · rw [if_pos ht] at hR
      refine qn Tryz.func68 Tryz.ntmps68 rfl rfl (by decide) rfl (by intro n; simp) fun σ n0 hcl hft => ?_
      repeat' (first | ((first | ((with_reducible refine qo (fun hg => ?_) (fun hg => ?_)) <;> (try simp only [hg]) <;> (try simp only [gS] at hg) <;> (try (first | simp only [eq_false hg, gI] | simp only [eq_true hg, gI]))) | (with_reducible first | refine qg ?_ | refine qf ?_ | refine ql ?_ | refine qk ?_) | refine acall (c1) ?_ | refine qp (c1) ?_ | refine qd ?_ | refine qi ?_ | refine qj ?_ | refine qm ?_) <;> (try simp (disch := first | omega | simp) [qh, -qq, -qs, o0, o1, ht])) | ((with_reducible refine sideT ?_ ?_); first | omega | assumption | (simp; done)) | (refine qe fun K hK => ?_) | (refine qa ?_) | (refine qb true (by kernel_rfl) (by kernel_rfl) ?_) | (refine hK _ ?_; clear hK K) | (clear hK K; refine hK _ ?_; clear hK K) | (clear hK K; clear hK K; refine hK _ ?_; clear hK K) | refine qc ?_)
      all_goals first | exact absurd (by assumption) ht | (rw [hR]; simp)
  · rw [if_pos hv] at hR
    refine qn Tryz.func68 Tryz.ntmps68 rfl rfl (by decide) rfl (by intro n; simp) fun σ n0 hcl hft => ?_
    repeat' (first | ((first | ((with_reducible refine qo (fun hg => ?_) (fun hg => ?_)) <;> (try simp only [hg]) <;> (try simp only [gS] at hg) <;> (try (first | simp only [eq_false hg, gI] | simp only [eq_true hg, gI]))) | (with_reducible first | refine qg ?_ | refine qf ?_ | refine ql ?_ | refine qk ?_) | refine acall (c1) ?_ | refine qp (c1) ?_ | refine qd ?_ | refine qi ?_ | refine qj ?_ | refine qm ?_) <;> (try simp (disch := first | omega | simp) [qh, -qq, -qs, hv])) | ((with_reducible refine sideT ?_ ?_); first | omega | assumption | (simp; done)) | (refine qe fun K hK => ?_) | (refine qa ?_) | (refine qb true (by kernel_rfl) (by kernel_rfl) ?_) | (refine hK _ ?_; clear hK K) | (clear hK K; refine hK _ ?_; clear hK K) | (clear hK K; clear hK K; refine hK _ ?_; clear hK K) | refine qc ?_)
    all_goals first | exact absurd (by assumption) hv | (rw [hR]; simp)
end Go.Proofs.YtnkimlkoijfcpaaGreatDoor

/- A list that is handed to a function as a slice is no longer than an int tells. -/
namespace Go.Proofs.YtnkimlkoijfcpaaGreatDoor
open Go.RowKit Go.Lib
end Go.Proofs.YtnkimlkoijfcpaaGreatDoor

/- Walks: light, and equal lists of deltas. -/
namespace Go.Proofs.YtnkimlkoijfcpaaGreatDoor
open Go.RowKit Go.Lib
theorem two_g27 (a b : Int) : Gives Tryz.prog 67 [.int a, .int b] (Delta.av ⟨1, [⟨0, a, ByteArray.empty⟩, ⟨0, b, ByteArray.empty⟩], 1⟩) := by
  refine qn Tryz.func67 Tryz.ntmps67 rfl rfl (by decide) rfl (by intro n; simp) fun σ n0 hcl hft => ?_
  repeat' (first | ((first | ((with_reducible refine qo (fun hg => ?_) (fun hg => ?_)) <;> (try simp only [hg]) <;> (try simp only [gS] at hg) <;> (try (first | simp only [eq_false hg, gI] | simp only [eq_true hg, gI]))) | (with_reducible first | refine qg ?_ | refine qf ?_ | refine ql ?_ | refine qk ?_) | refine qd ?_ | refine qi ?_ | refine qj ?_ | refine qm ?_) <;> (try simp (disch := first | omega | simp) [qh, -qq, -qs])) | ((with_reducible refine sideT ?_ ?_); first | omega | assumption | (simp; done)) | (refine qe fun K hK => ?_) | (refine qa ?_) | (refine qb true (by kernel_rfl) (by kernel_rfl) ?_) | (refine hK _ ?_; clear hK K) | (clear hK K; refine hK _ ?_; clear hK K) | (clear hK K; clear hK K; refine hK _ ?_; clear hK K) | refine qc ?_)
  all_goals rfl
structure Light (c : Cod) (cols : List Int) (l : List Delta) : Prop where
  ni : c.ins.length ≤ 100
  nt : c.types.length ≤ 100
  nc : cols.length ≤ 20
  nl : l.length ≤ 30
  row : ∀ d ∈ l, d.row.length ≤ 15
  ss : ∀ x ∈ c.ins, x.s.size ≤ 300
set_option maxHeartbeats 4000000 in
theorem rsame27_g (L : List Delta) (hL : L.length ≤ 1000000) (hr : ∀ d ∈ L, d.row.length ≤ 1000000) : Gives Tryz.prog 70 [.sl (L.map Delta.av), .sl (L.map Delta.av)] (.bool true) := by
  refine qn Tryz.func70 Tryz.ntmps70 rfl rfl (by decide) rfl (by intro n; simp) fun σ n0 hcl hft => ?_
  repeat' (first | ((first | ((with_reducible refine qo (fun hg => ?_) (fun hg => ?_)) <;> (try simp only [hg]) <;> (try simp only [gS] at hg) <;> (try (first | simp only [eq_false hg, gI] | simp only [eq_true hg, gI]))) | (with_reducible first | refine qg ?_ | refine qf ?_ | refine ql ?_ | refine qk ?_) | refine qd ?_ | refine qi ?_ | refine qj ?_ | refine qm ?_) <;> (try simp (disch := first | omega | simp) [qh, -qq, -qs])) | ((with_reducible refine sideT ?_ ?_); first | omega | assumption | (simp; done)) | (refine qe fun K hK => ?_) | (refine qa ?_) | (refine qb true (by kernel_rfl) (by kernel_rfl) ?_) | (refine hK _ ?_; clear hK K) | (clear hK K; refine hK _ ?_; clear hK K) | (clear hK K; clear hK K; refine hK _ ?_; clear hK K) | refine qc ?_)
  refine qt hcl (fun k : Nat => [(0, .sl (L.map Delta.av)), (1, .sl (L.map Delta.av)), (5, .int k)]) (fun _ => [])
    (fun k => k ≤ L.length) (fun k => L.length - k) 0 (by simp) (by simp) fun k hk => ?_
  by_cases hlt : k < L.length
  · have c1 := rsame03_g L[k].row (hr _ (List.getElem_mem _))
    repeat' (first | ((first | ((with_reducible refine qo (fun hg => ?_) (fun hg => ?_)) <;> (try simp only [hg]) <;> (try simp only [gS] at hg) <;> (try (first | simp only [eq_false hg, gI] | simp only [eq_true hg, gI]))) | (with_reducible first | refine qg ?_ | refine qf ?_ | refine ql ?_ | refine qk ?_) | refine acall (c1) ?_ | refine qp (c1) ?_ | refine qd ?_ | refine qi ?_ | refine qj ?_ | refine qm ?_) <;> (try simp (disch := first | omega | simp) [qh, -qq, -qs, hlt])) | ((with_reducible refine sideT ?_ ?_); first | omega | assumption | (simp; done)) | (refine qe fun K hK => ?_) | (refine qa ?_) | (refine qb true (by kernel_rfl) (by kernel_rfl) ?_) | (refine hK _ ?_; clear hK K) | (clear hK K; refine hK _ ?_; clear hK K) | (clear hK K; clear hK K; refine hK _ ?_; clear hK K) | refine qc ?_)
    exact ⟨k + 1, by omega, by omega, by simp⟩
  · repeat' (first | ((first | ((with_reducible refine qo (fun hg => ?_) (fun hg => ?_)) <;> (try simp only [hg]) <;> (try simp only [gS] at hg) <;> (try (first | simp only [eq_false hg, gI] | simp only [eq_true hg, gI]))) | (with_reducible first | refine qg ?_ | refine qf ?_ | refine ql ?_ | refine qk ?_) | refine qd ?_ | refine qi ?_ | refine qj ?_ | refine qm ?_) <;> (try simp (disch := first | omega | simp) [qh, -qq, -qs, hlt])) | ((with_reducible refine sideT ?_ ?_); first | omega | assumption | (simp; done)) | (refine qe fun K hK => ?_) | (refine qa ?_) | (refine qb true (by kernel_rfl) (by kernel_rfl) ?_) | (refine qb false (by kernel_rfl) (by kernel_rfl) ?_) | (refine hK _ ?_; clear hK K) | (clear hK K; refine hK _ ?_; clear hK K) | (clear hK K; clear hK K; refine hK _ ?_; clear hK K) | refine qc ?_)
end Go.Proofs.YtnkimlkoijfcpaaGreatDoor

/- Walk: the documented examples of chapter 27. -/
namespace Go.Proofs.YtnkimlkoijfcpaaGreatDoor
open Go.RowKit Go.Lib
def sumC : Cod := ⟨[⟨3, 0, 0, 0, 0, 0, ByteArray.empty⟩, ⟨3, 1, 0, 0, 0, 1, ByteArray.empty⟩, ⟨8, 2, 0, 1, 0, 0, ByteArray.empty⟩], [0, 0, 0], 2⟩
def lessC : Cod := ⟨[⟨3, 0, 0, 0, 0, 0, ByteArray.empty⟩, ⟨3, 1, 0, 0, 0, 1, ByteArray.empty⟩, ⟨15, 2, 0, 1, 0, 0, ByteArray.empty⟩], [0, 0, 2], 2⟩
def twoL : List Delta := [⟨1, [⟨0, 1, ByteArray.empty⟩, ⟨0, 2, ByteArray.empty⟩], 1⟩, ⟨1, [⟨0, 5, ByteArray.empty⟩, ⟨0, 4, ByteArray.empty⟩], 1⟩]
theorem sum_run : runP sumC [0, 0] twoL = ([⟨0, 3, ByteArray.empty⟩, ⟨0, 9, ByteArray.empty⟩], 0) := by kernel_rfl
theorem less_sel : selP lessC [0, 0] twoL = ([⟨1, [⟨0, 1, ByteArray.empty⟩, ⟨0, 2, ByteArray.empty⟩], 1⟩], 0) := by kernel_rfl
theorem sum_work : workP sumC 5 = 15 := by kernel_rfl
set_option maxHeartbeats 4000000 in
theorem small27_g : Gives Tryz.prog 29 [] (.bool true) := by
  have c1 := Run_g sumC [0, 0] twoL (by decide) (by decide) (by decide)
  have c2 := Select_g lessC [0, 0] twoL (by decide) (by decide) (by decide)
  have c3 := work_g sumC 5 (by decide) (by decide)
  have c4 := two_g27 1 2
  have c5 := two_g27 5 4
  have c6 := rsame03_g [⟨0, 3, ByteArray.empty⟩, ⟨0, 9, ByteArray.empty⟩] (by decide)
  have c7 := rsame27_g [⟨1, [⟨0, 1, ByteArray.empty⟩, ⟨0, 2, ByteArray.empty⟩], 1⟩] (by decide) (by decide)
  rw [sum_run] at c1
  rw [less_sel] at c2
  rw [sum_work] at c3
  simp only [sumC, lessC, twoL, Cod.av, Ins.av, Delta.av, Val.av, List.map_cons, List.map_nil] at c1 c2 c3 c4 c5 c6 c7
  refine qn Tryz.func29 Tryz.ntmps29 rfl rfl (by decide) rfl (by intro n; simp) fun σ n0 hcl hft => ?_
  repeat' (first | ((first | ((with_reducible refine qo (fun hg => ?_) (fun hg => ?_)) <;> (try simp only [hg]) <;> (try simp only [gS] at hg) <;> (try (first | simp only [eq_false hg, gI] | simp only [eq_true hg, gI]))) | (with_reducible first | refine qg ?_ | refine qf ?_ | refine ql ?_ | refine qk ?_) | refine acall (c1) ?_ | refine qp (c1) ?_ | refine qr (c1) ?_ | refine acall (c2) ?_ | refine qp (c2) ?_ | refine qr (c2) ?_ | refine acall (c3) ?_ | refine qp (c3) ?_ | refine qr (c3) ?_ | refine acall (c4) ?_ | refine qp (c4) ?_ | refine qr (c4) ?_ | refine acall (c5) ?_ | refine qp (c5) ?_ | refine qr (c5) ?_ | refine acall (c6) ?_ | refine qp (c6) ?_ | refine qr (c6) ?_ | refine acall (c7) ?_ | refine qp (c7) ?_ | refine qr (c7) ?_ | refine qd ?_ | refine qi ?_ | refine qj ?_ | refine qm ?_) <;> (try simp (disch := first | omega | simp) [qh, -qq, -qs])) | ((with_reducible refine sideT ?_ ?_); first | omega | assumption | (simp; done)) | (refine qe fun K hK => ?_) | (refine qa ?_) | (refine qb true (by kernel_rfl) (by kernel_rfl) ?_) | (refine qb false (by kernel_rfl) (by kernel_rfl) ?_) | (refine hK _ ?_; clear hK K) | (clear hK K; refine hK _ ?_; clear hK K) | (clear hK K; clear hK K; refine hK _ ?_; clear hK K) | refine qc ?_)
end Go.Proofs.YtnkimlkoijfcpaaGreatDoor

/- Walk of layer 27's reference: which batches fit. -/
namespace Go.Proofs.YtnkimlkoijfcpaaGreatDoor
open Go.RowKit Go.Lib
set_option maxHeartbeats 4000000 in
theorem rfits_g (cols : List Int) (L : List Delta) (hc : cols.length ≤ 1000000) (hL : L.length ≤ 1000000) (hr : ∀ d ∈ L, d.row.length ≤ 1000000) : Gives Tryz.prog 32 [.sl (cols.map AV.int), .sl (L.map Delta.av)] (.bool (fitsD cols L)) := by
  obtain ⟨R, hR⟩ : ∃ R, R = fitsD cols L := ⟨_, rfl⟩
  rw [← hR]
  unfold fitsD at hR
  refine qn Tryz.func32 Tryz.ntmps32 rfl rfl (by decide) rfl (by intro n; simp) fun σ n0 hcl hft => ?_
  repeat' (first | ((first | ((with_reducible refine qo (fun hg => ?_) (fun hg => ?_)) <;> (try simp only [hg]) <;> (try simp only [gS] at hg) <;> (try (first | simp only [eq_false hg, gI] | simp only [eq_true hg, gI]))) | (with_reducible first | refine qg ?_ | refine qf ?_ | refine ql ?_ | refine qk ?_) | refine qd ?_ | refine qi ?_ | refine qj ?_ | refine qm ?_) <;> (try simp (disch := first | omega | simp) [qh, -qq, -qs])) | ((with_reducible refine sideT ?_ ?_); first | omega | assumption | (simp; done)) | (refine qe fun K hK => ?_) | (refine qa ?_) | (refine qb true (by kernel_rfl) (by kernel_rfl) ?_) | (refine hK _ ?_; clear hK K) | (clear hK K; refine hK _ ?_; clear hK K) | (clear hK K; clear hK K; refine hK _ ?_; clear hK K) | refine qc ?_)
  refine qt hcl (fun k : Nat => [(0, .sl (cols.map AV.int)), (1, .sl (L.map Delta.av)), (5, .int k)]) (fun _ => [])
    (fun k => k ≤ L.length ∧ ∀ j (h : j < L.length), j < k → qby cols L[j].row = true) (fun k => L.length - k) 0 (by simp) (by simp) fun k ⟨hk, he⟩ => ?_
  by_cases hlt : k < L.length
  · have hbad : qby cols L[k].row = false → R = false := fun h => by
      rw [hR, all_hit hlt h]
    have hnext : qby cols L[k].row = true → ∃ b', (b' ≤ L.length ∧ ∀ j (h : j < L.length), j < b' → qby cols L[j].row = true) ∧ L.length - b' < L.length - k ∧ (k : Int) + 1 = b' := fun h =>
      ⟨k + 1, ⟨by omega, qdd (C := fun d : Delta => qby cols d.row = true) he fun _ => h⟩, by omega, by omega⟩
    have c1 := rrow_g L[k].row (hr _ (List.getElem_mem _))
    by_cases hl : L[k].row.length = cols.length
    · cases hro : rowOk L[k].row
      · rw [hro] at c1
        have hb := hbad (fitRow_row hro)
        repeat' (first | ((first | ((with_reducible refine qo (fun hg => ?_) (fun hg => ?_)) <;> (try simp only [hg]) <;> (try simp only [gS] at hg) <;> (try (first | simp only [eq_false hg, gI] | simp only [eq_true hg, gI]))) | (with_reducible first | refine qg ?_ | refine qf ?_ | refine ql ?_ | refine qk ?_) | refine acall (c1) ?_ | refine qp (c1) ?_ | refine qd ?_ | refine qi ?_ | refine qj ?_ | refine qm ?_) <;> (try simp (disch := first | omega | simp) [qh, -qq, -qs, hlt, hl])) | ((with_reducible refine sideT ?_ ?_); first | omega | assumption | (simp; done)) | (refine qe fun K hK => ?_) | (refine qa ?_) | (refine qb true (by kernel_rfl) (by kernel_rfl) ?_) | (refine hK _ ?_; clear hK K) | (clear hK K; refine hK _ ?_; clear hK K) | (clear hK K; clear hK K; refine hK _ ?_; clear hK K) | refine qc ?_)
        exact hb
      · rw [hro] at c1
        repeat' (first | ((first | ((with_reducible refine qo (fun hg => ?_) (fun hg => ?_)) <;> (try simp only [hg]) <;> (try simp only [gS] at hg) <;> (try (first | simp only [eq_false hg, gI] | simp only [eq_true hg, gI]))) | (with_reducible first | refine qg ?_ | refine qf ?_ | refine ql ?_ | refine qk ?_) | refine acall (c1) ?_ | refine qp (c1) ?_ | refine qd ?_ | refine qi ?_ | refine qj ?_ | refine qm ?_) <;> (try simp (disch := first | omega | simp) [qh, -qq, -qs, hlt, hl])) | ((with_reducible refine sideT ?_ ?_); first | omega | assumption | (simp; done)) | (refine qe fun K hK => ?_) | (refine qa ?_) | (refine qb true (by kernel_rfl) (by kernel_rfl) ?_) | (refine hK _ ?_; clear hK K) | (clear hK K; refine hK _ ?_; clear hK K) | (clear hK K; clear hK K; refine hK _ ?_; clear hK K) | refine qc ?_)
        refine qt hcl (fun i : Nat => [(0, .sl (cols.map AV.int)), (1, .sl (L.map Delta.av)), (5, .int k), (6, .int i)]) (fun _ => [])
          (fun i => i ≤ cols.length ∧ ∀ j (h : j < cols.length), j < i → L[k].row[j].k = cols[j]) (fun i => cols.length - i) 0 (by simp) (by simp) fun i ⟨hi, hei⟩ => ?_
        by_cases hlt2 : i < cols.length
        · have hi2 : i < L[k].row.length := by omega
          by_cases hkk : L[k].row[i].k = cols[i]
          · repeat' (first | ((first | ((with_reducible refine qo (fun hg => ?_) (fun hg => ?_)) <;> (try simp only [hg]) <;> (try simp only [gS] at hg) <;> (try (first | simp only [eq_false hg, gI] | simp only [eq_true hg, gI]))) | (with_reducible first | refine qg ?_ | refine qf ?_ | refine ql ?_ | refine qk ?_) | refine qd ?_ | refine qi ?_ | refine qj ?_ | refine qm ?_) <;> (try simp (disch := first | omega | simp) [qh, -qq, -qs, hlt, hlt2, hi2, hkk])) | ((with_reducible refine sideT ?_ ?_); first | omega | assumption | (simp; done)) | (refine qe fun K hK => ?_) | (refine qa ?_) | (refine qb true (by kernel_rfl) (by kernel_rfl) ?_) | (refine qb false (by kernel_rfl) (by kernel_rfl) ?_) | (refine hK _ ?_; clear hK K) | (clear hK K; refine hK _ ?_; clear hK K) | (clear hK K; clear hK K; refine hK _ ?_; clear hK K) | refine qc ?_)
            exact ⟨i + 1, ⟨by omega, fun j hj hji => by
              by_cases hji2 : j = i
              · subst hji2; exact hkk
              · exact hei j hj (by omega)⟩, by omega, by omega⟩
          · have hb := hbad (fitRow_at hl hro hlt2 hkk)
            repeat' (first | ((first | ((with_reducible refine qo (fun hg => ?_) (fun hg => ?_)) <;> (try simp only [hg]) <;> (try simp only [gS] at hg) <;> (try (first | simp only [eq_false hg, gI] | simp only [eq_true hg, gI]))) | (with_reducible first | refine qg ?_ | refine qf ?_ | refine ql ?_ | refine qk ?_) | refine qd ?_ | refine qi ?_ | refine qj ?_ | refine qm ?_) <;> (try simp (disch := first | omega | simp) [qh, -qq, -qs, hlt, hlt2, hi2, hkk])) | ((with_reducible refine sideT ?_ ?_); first | omega | assumption | (simp; done)) | (refine qe fun K hK => ?_) | (refine qa ?_) | (refine qb true (by kernel_rfl) (by kernel_rfl) ?_) | (refine hK _ ?_; clear hK K) | (clear hK K; refine hK _ ?_; clear hK K) | (clear hK K; clear hK K; refine hK _ ?_; clear hK K) | refine qc ?_)
            all_goals first | exact hb | exact absurd (by assumption) hkk
        · have hn := hnext (fitRow_all hl hro fun j hj => hei j hj (by omega))
          repeat' (first | ((first | ((with_reducible refine qo (fun hg => ?_) (fun hg => ?_)) <;> (try simp only [hg]) <;> (try simp only [gS] at hg) <;> (try (first | simp only [eq_false hg, gI] | simp only [eq_true hg, gI]))) | (with_reducible first | refine qg ?_ | refine qf ?_ | refine ql ?_ | refine qk ?_) | refine qd ?_ | refine qi ?_ | refine qj ?_ | refine qm ?_) <;> (try simp (disch := first | omega | simp) [qh, -qq, -qs, hlt, hlt2])) | ((with_reducible refine sideT ?_ ?_); first | omega | assumption | (simp; done)) | (refine qe fun K hK => ?_) | (refine qa ?_) | (refine qb true (by kernel_rfl) (by kernel_rfl) ?_) | (refine hK _ ?_; clear hK K) | (clear hK K; refine hK _ ?_; clear hK K) | (clear hK K; clear hK K; refine hK _ ?_; clear hK K) | refine qc ?_)
          exact hn
    · have hb := hbad (fitRow_len hl)
      repeat' (first | ((first | ((with_reducible refine qo (fun hg => ?_) (fun hg => ?_)) <;> (try simp only [hg]) <;> (try simp only [gS] at hg) <;> (try (first | simp only [eq_false hg, gI] | simp only [eq_true hg, gI]))) | (with_reducible first | refine qg ?_ | refine qf ?_ | refine ql ?_ | refine qk ?_) | refine qd ?_ | refine qi ?_ | refine qj ?_ | refine qm ?_) <;> (try simp (disch := first | omega | simp) [qh, -qq, -qs, hlt, hl])) | ((with_reducible refine sideT ?_ ?_); first | omega | assumption | (simp; done)) | (refine qe fun K hK => ?_) | (refine qa ?_) | (refine qb true (by kernel_rfl) (by kernel_rfl) ?_) | (refine hK _ ?_; clear hK K) | (clear hK K; refine hK _ ?_; clear hK K) | (clear hK K; clear hK K; refine hK _ ?_; clear hK K) | refine qc ?_)
      all_goals first | exact hb | (exfalso; omega)
  · repeat' (first | ((first | ((with_reducible refine qo (fun hg => ?_) (fun hg => ?_)) <;> (try simp only [hg]) <;> (try simp only [gS] at hg) <;> (try (first | simp only [eq_false hg, gI] | simp only [eq_true hg, gI]))) | (with_reducible first | refine qg ?_ | refine qf ?_ | refine ql ?_ | refine qk ?_) | refine qd ?_ | refine qi ?_ | refine qj ?_ | refine qm ?_) <;> (try simp (disch := first | omega | simp) [qh, -qq, -qs, hlt])) | ((with_reducible refine sideT ?_ ?_); first | omega | assumption | (simp; done)) | (refine qe fun K hK => ?_) | (refine qa ?_) | (refine qb true (by kernel_rfl) (by kernel_rfl) ?_) | (refine qb false (by kernel_rfl) (by kernel_rfl) ?_) | (refine hK _ ?_; clear hK K) | (clear hK K; refine hK _ ?_; clear hK K) | (clear hK K; clear hK K; refine hK _ ?_; clear hK K) | refine qc ?_)
    rw [hR, all_end (qep (C := fun d : Delta => qby cols d.row = true) he hlt)]
end Go.Proofs.YtnkimlkoijfcpaaGreatDoor

/- Walk: the law VmExpr. -/
namespace Go.Proofs.YtnkimlkoijfcpaaGreatDoor
open Go.RowKit Go.Lib
theorem runP_fit3 {c : Cod} {cols : List Int} (h : (verP c cols).2 = 0) {L : List Delta} (hf : fitsD cols L = true) : runP c cols L = (runD c L, 0) := by
  unfold runP; rw [if_neg (by omega), if_neg (by rw [hf]; simp)]
theorem val_ne27 (v : Val) : aeq Tryz.prog .neq 39 v.av v.av = some false := by
  simp only [aeq, aeqS, Val.q, Val.av, feq, feq1]
  simp
set_option maxRecDepth 100000 in
set_option maxHeartbeats 16000000 in
theorem vmExpr_g (F : List Fn) (e : Ex) (cols : List Int) (l : List Delta) (hlF : F.length ≤ 1000000) (hF : ∀ f ∈ F, parts f.body ≤ 1000000) (hp : parts e ≤ 1000000) (hrow : ∀ d ∈ l, d.row.length ≤ 1000000) (hn : n64 e) (hnF : ∀ f ∈ F, n64 f.body) :
    Gives Tryz.prog 6 [.sl (F.map Fn.av), e.av, .sl (cols.map AV.int), .sl (l.map Delta.av)] (.bool true) := by
  have hsm := small27_g
  by_cases hl : l.length ≤ 30
  rotate_left
  · have hlb : (30 : Int) < l.length := by omega
    refine qn Tryz.func6 Tryz.ntmps6 rfl rfl (by decide) rfl (by intro n; simp) fun σ n0 hcl hft => ?_
    repeat' (first | ((first | ((with_reducible refine qo (fun hg => ?_) (fun hg => ?_)) <;> (try simp only [hg]) <;> (try simp only [gS] at hg) <;> (try (first | simp only [eq_false hg, gI] | simp only [eq_true hg, gI]))) | (with_reducible first | refine qg ?_ | refine qf ?_ | refine ql ?_ | refine qk ?_) | refine acall (hsm) ?_ | refine qp (hsm) ?_ | refine qr (hsm) ?_ | refine qd ?_ | refine qi ?_ | refine qj ?_ | refine qm ?_) <;> (try simp (disch := first | omega | simp) [qh, -qq, -qs, hlb])) | ((with_reducible refine sideT ?_ ?_); first | omega | assumption | (simp; done)) | (refine qe fun K hK => ?_) | (refine qa ?_) | (refine qb true (by kernel_rfl) (by kernel_rfl) ?_) | (refine qb false (by kernel_rfl) (by kernel_rfl) ?_) | (refine hK _ ?_; clear hK K) | (clear hK K; refine hK _ ?_; clear hK K) | (clear hK K; clear hK K; refine hK _ ?_; clear hK K) | refine qc ?_)
  have hlb : ¬ (30 : Int) < l.length := by omega
  have c1 := rsmall21_g F e hp hF hlF
  unfold nodeA at c1
  cases hs : small21 F e with
  | false =>
    rw [hs] at c1
    refine qn Tryz.func6 Tryz.ntmps6 rfl rfl (by decide) rfl (by intro n; simp) fun σ n0 hcl hft => ?_
    repeat' (first | ((first | ((with_reducible refine qo (fun hg => ?_) (fun hg => ?_)) <;> (try simp only [hg]) <;> (try simp only [gS] at hg) <;> (try (first | simp only [eq_false hg, gI] | simp only [eq_true hg, gI]))) | (with_reducible first | refine qg ?_ | refine qf ?_ | refine ql ?_ | refine qk ?_) | refine acall (hsm) ?_ | refine qp (hsm) ?_ | refine qr (hsm) ?_ | refine acall (c1) ?_ | refine qp (c1) ?_ | refine qr (c1) ?_ | refine qd ?_ | refine qi ?_ | refine qj ?_ | refine qm ?_) <;> (try simp (disch := first | omega | simp) [qh, -qq, -qs, hlb])) | ((with_reducible refine sideT ?_ ?_); first | omega | assumption | (simp; done)) | (refine qe fun K hK => ?_) | (refine qa ?_) | (refine qb true (by kernel_rfl) (by kernel_rfl) ?_) | (refine qb false (by kernel_rfl) (by kernel_rfl) ?_) | (refine hK _ ?_; clear hK K) | (clear hK K; refine hK _ ?_; clear hK K) | (clear hK K; clear hK K; refine hK _ ?_; clear hK K) | refine qc ?_)
  | true =>
  rw [hs] at c1
  unfold small21 at hs
  simp only [Bool.and_eq_true, decide_eq_true_eq, List.all_eq_true] at hs
  obtain ⟨⟨⟨⟨s1, s2⟩, s3⟩, s4⟩, s5⟩ := hs
  have c2 := rright21_g F e cols hp hF
  unfold nodeA at c2
  by_cases hr : qch F = true ∧ 0 < cols.length ∧ cols.length ≤ 12 ∧ (typeP F cols [] e).isSome = true
  rotate_left
  · have : (qch F && (decide (0 < cols.length) && decide (cols.length ≤ 12)) && (typeP F cols [] e).isSome) = false := by
      cases h : (qch F && (decide (0 < cols.length) && decide (cols.length ≤ 12)) && (typeP F cols [] e).isSome) with
      | false => rfl
      | true =>
        simp only [Bool.and_eq_true, decide_eq_true_eq] at h
        exact absurd ⟨h.1.1, h.1.2.1, h.1.2.2, h.2⟩ hr
    rw [this] at c2
    refine qn Tryz.func6 Tryz.ntmps6 rfl rfl (by decide) rfl (by intro n; simp) fun σ n0 hcl hft => ?_
    repeat' (first | ((first | ((with_reducible refine qo (fun hg => ?_) (fun hg => ?_)) <;> (try simp only [hg]) <;> (try simp only [gS] at hg) <;> (try (first | simp only [eq_false hg, gI] | simp only [eq_true hg, gI]))) | (with_reducible first | refine qg ?_ | refine qf ?_ | refine ql ?_ | refine qk ?_) | refine acall (hsm) ?_ | refine qp (hsm) ?_ | refine qr (hsm) ?_ | refine acall (c1) ?_ | refine qp (c1) ?_ | refine qr (c1) ?_ | refine acall (c2) ?_ | refine qp (c2) ?_ | refine qr (c2) ?_ | refine qd ?_ | refine qi ?_ | refine qj ?_ | refine qm ?_) <;> (try simp (disch := first | omega | simp) [qh, -qq, -qs, hlb])) | ((with_reducible refine sideT ?_ ?_); first | omega | assumption | (simp; done)) | (refine qe fun K hK => ?_) | (refine qa ?_) | (refine qb true (by kernel_rfl) (by kernel_rfl) ?_) | (refine qb false (by kernel_rfl) (by kernel_rfl) ?_) | (refine hK _ ?_; clear hK K) | (clear hK K; refine hK _ ?_; clear hK K) | (clear hK K; clear hK K; refine hK _ ?_; clear hK K) | refine qc ?_)
  obtain ⟨r1, r2, r3, r4⟩ := hr
  have : (qch F && (decide (0 < cols.length) && decide (cols.length ≤ 12)) && (typeP F cols [] e).isSome) = true := by
    simp only [Bool.and_eq_true, decide_eq_true_eq]; exact ⟨⟨r1, r2, r3⟩, r4⟩
  rw [this] at c2
  clear this
  have c3 := rfits_g cols l (by omega) (by omega) hrow
  cases hf : fitsD cols l with
  | false =>
    rw [hf] at c3
    refine qn Tryz.func6 Tryz.ntmps6 rfl rfl (by decide) rfl (by intro n; simp) fun σ n0 hcl hft => ?_
    repeat' (first | ((first | ((with_reducible refine qo (fun hg => ?_) (fun hg => ?_)) <;> (try simp only [hg]) <;> (try simp only [gS] at hg) <;> (try (first | simp only [eq_false hg, gI] | simp only [eq_true hg, gI]))) | (with_reducible first | refine qg ?_ | refine qf ?_ | refine ql ?_ | refine qk ?_) | refine acall (hsm) ?_ | refine qp (hsm) ?_ | refine qr (hsm) ?_ | refine acall (c1) ?_ | refine qp (c1) ?_ | refine qr (c1) ?_ | refine acall (c2) ?_ | refine qp (c2) ?_ | refine qr (c2) ?_ | refine acall (c3) ?_ | refine qp (c3) ?_ | refine qr (c3) ?_ | refine qd ?_ | refine qi ?_ | refine qj ?_ | refine qm ?_) <;> (try simp (disch := first | omega | simp) [qh, -qq, -qs, hlb])) | ((with_reducible refine sideT ?_ ?_); first | omega | assumption | (simp; done)) | (refine qe fun K hK => ?_) | (refine qa ?_) | (refine qb true (by kernel_rfl) (by kernel_rfl) ?_) | (refine qb false (by kernel_rfl) (by kernel_rfl) ?_) | (refine hK _ ?_; clear hK K) | (clear hK K; refine hK _ ?_; clear hK K) | (clear hK K; clear hK K; refine hK _ ?_; clear hK K) | refine qc ?_)
  | true =>
  rw [hf] at c3
  obtain ⟨t, ht⟩ := Option.isSome_iff_exists.1 r4
  have c4 := Compile_g F cols e (fun f hf => by have := (s2 f hf).1; omega) (by omega) (by omega) (by omega) hn hnF
  obtain ⟨h1, h2, h3, h4⟩ := typeP_all ht
  unfold compileP at c4
  rw [ht] at c4
  cases hy : qcl F e with
  | none =>
    rw [hy] at c4
    simp only [zeroCd, Cod.av, List.map_nil] at c4
    refine qn Tryz.func6 Tryz.ntmps6 rfl rfl (by decide) rfl (by intro n; simp) fun σ n0 hcl hft => ?_
    repeat' (first | ((first | ((with_reducible refine qo (fun hg => ?_) (fun hg => ?_)) <;> (try simp only [hg]) <;> (try simp only [gS] at hg) <;> (try (first | simp only [eq_false hg, gI] | simp only [eq_true hg, gI]))) | (with_reducible first | refine qg ?_ | refine qf ?_ | refine ql ?_ | refine qk ?_) | refine acall (hsm) ?_ | refine qp (hsm) ?_ | refine qr (hsm) ?_ | refine acall (c1) ?_ | refine qp (c1) ?_ | refine qr (c1) ?_ | refine acall (c2) ?_ | refine qp (c2) ?_ | refine qr (c2) ?_ | refine acall (c3) ?_ | refine qp (c3) ?_ | refine qr (c3) ?_ | refine acall (c4) ?_ | refine qp (c4) ?_ | refine qr (c4) ?_ | refine qd ?_ | refine qi ?_ | refine qj ?_ | refine qm ?_) <;> (try simp (disch := first | omega | simp) [qh, -qq, -qs, hlb])) | ((with_reducible refine sideT ?_ ?_); first | omega | assumption | (simp; done)) | (refine qe fun K hK => ?_) | (refine qa ?_) | (refine qb true (by kernel_rfl) (by kernel_rfl) ?_) | (refine qb false (by kernel_rfl) (by kernel_rfl) ?_) | (refine hK _ ?_; clear hK K) | (clear hK K; refine hK _ ?_; clear hK K) | (clear hK K; clear hK K; refine hK _ ?_; clear hK K) | refine qc ?_)
  | some y =>
  rw [hy] at c4
  dsimp only at c4
  obtain ⟨g1, g2, g3, g4, g5⟩ := compile_typ ht hy
  obtain ⟨k1, k2, k3⟩ := comp_typ g3 g4
  have hval := fun time => @comp_val F cols e y t time
  have hvs : ∀ d ∈ l, valC (compP (rawP cols (foldE y))) d.time d.row = evalP F d.time d.row e := fun d hd => by
    have h := List.all_eq_true.1 hf d hd
    unfold qby at h
    simp only [Bool.and_eq_true, decide_eq_true_eq] at h
    have hs : ∀ v ∈ d.row, qba v := fun v hv => by
      have h2 := h.1.2
      unfold rowOk at h2
      simp only [Bool.and_eq_true] at h2
      exact rightV_sound (List.all_eq_true.1 h2.2 v hv)
    rw [k2]
    exact hval d.time h2 h3 hy g1 h.2 hs
  have hce : ∀ d ∈ l, Gives Tryz.prog 17 [.sl (F.map Fn.av), e.av, .int d.time, .sl (d.row.map Val.av)] (evalP F d.time d.row e).av := fun d hd =>
    eval_fit_g F d.time d.row e t h2 (fun f hf => by have := (s2 f hf).1; omega) (by omega) h3 (fitsD_mem hf hd)
  have hvl : runD (compP (rawP cols (foldE y))) l = l.map fun d => evalP F d.time d.row e := by
    unfold runD; exact List.map_congr_left fun d hd => hvs d hd
  generalize compP (rawP cols (foldE y)) = C at *
  have c5 := Run_g C cols l (by omega) (by omega) hrow
  rw [runP_fit3 (verP_ok.2 k1) hf, hvl] at c5
  clear hvl hvs k1 k2 k3 hval
  obtain ⟨VS, hVS⟩ : ∃ VS, VS = l.map fun d => evalP F d.time d.row e := ⟨_, rfl⟩
  have hVl : VS.length = l.length := by rw [hVS]; simp
  have hVk : ∀ k (h : k < l.length) (h2 : k < VS.length), VS[k] = evalP F l[k].time l[k].row e := fun k h h2 => by subst hVS; simp
  rw [← hVS] at c5
  clear hVS
  obtain ⟨ins, types, out⟩ := C
  simp only [Cod.av] at c4 c5
  refine qn Tryz.func6 Tryz.ntmps6 rfl rfl (by decide) rfl (by intro n; simp) fun σ n0 hcl hft => ?_
  repeat' (first | ((first | ((with_reducible refine qo (fun hg => ?_) (fun hg => ?_)) <;> (try simp only [hg]) <;> (try simp only [gS] at hg) <;> (try (first | simp only [eq_false hg, gI] | simp only [eq_true hg, gI]))) | (with_reducible first | refine qg ?_ | refine qf ?_ | refine ql ?_ | refine qk ?_) | refine acall (hsm) ?_ | refine qp (hsm) ?_ | refine qr (hsm) ?_ | refine acall (c1) ?_ | refine qp (c1) ?_ | refine qr (c1) ?_ | refine acall (c2) ?_ | refine qp (c2) ?_ | refine qr (c2) ?_ | refine acall (c3) ?_ | refine qp (c3) ?_ | refine qr (c3) ?_ | refine acall (c4) ?_ | refine qp (c4) ?_ | refine qr (c4) ?_ | refine acall (c5) ?_ | refine qp (c5) ?_ | refine qr (c5) ?_ | refine qd ?_ | refine qi ?_ | refine qj ?_ | refine qm ?_) <;> (try simp (disch := first | omega | simp) [qh, -qq, -qs, hlb, hVl])) | ((with_reducible refine sideT ?_ ?_); first | omega | assumption | (simp; done)) | (refine qe fun K hK => ?_) | (refine qa ?_) | (refine qb true (by kernel_rfl) (by kernel_rfl) ?_) | (refine qb false (by kernel_rfl) (by kernel_rfl) ?_) | (refine hK _ ?_; clear hK K) | (clear hK K; refine hK _ ?_; clear hK K) | (clear hK K; clear hK K; refine hK _ ?_; clear hK K) | refine qc ?_)
  refine qt hcl (fun k : Nat => [(0, .sl (F.map Fn.av)), (3, .sl (l.map Delta.av)), (5, .ptr n0 0), (9, .bool true), (13, .sl (VS.map Val.av)), (15, .int k)]) (fun _ => [.cells e.av.cells 25])
    (fun k => k ≤ l.length) (fun k => l.length - k) 0 (by omega) (by simp) fun k hk => ?_
  by_cases hlt : k < l.length
  · have c6 := hce l[k] (List.getElem_mem hlt)
    have hk2 : k < VS.length := by omega
    rw [← hVk k hlt hk2] at c6
    obtain ⟨d, hd⟩ : ∃ d, d = l[k] := ⟨_, rfl⟩
    rw [← hd] at c6
    obtain ⟨V, hV⟩ : ∃ V, V = VS[k] := ⟨_, rfl⟩
    rw [← hV] at c6
    have hq := val_ne27 V
    have hqq : V.eqB V = true := by simp [Val.eqB]
    repeat' (first | ((first | ((with_reducible refine qo (fun hg => ?_) (fun hg => ?_)) <;> (try simp only [hg]) <;> (try simp only [gS] at hg) <;> (try (first | simp only [eq_false hg, gI] | simp only [eq_true hg, gI]))) | (with_reducible first | refine qg ?_ | refine qf ?_ | refine ql ?_ | refine qk ?_) | refine acall (c6) ?_ | refine qp (c6) ?_ | refine qr (c6) ?_ | refine qd ?_ | refine qi ?_ | refine qj ?_ | refine qm ?_) <;> (try simp (disch := first | omega | simp) [qh, -qq, -qs, hlt, hk2, hq, hqq, ← hd, ← hV])) | ((with_reducible refine sideT ?_ ?_); first | omega | assumption | (simp; done)) | (refine qe fun K hK => ?_) | (refine qa ?_) | (refine qb true (by kernel_rfl) (by kernel_rfl) ?_) | (refine qb false (by kernel_rfl) (by kernel_rfl) ?_) | (refine hK _ ?_; clear hK K) | (clear hK K; refine hK _ ?_; clear hK K) | (clear hK K; clear hK K; refine hK _ ?_; clear hK K) | refine qc ?_)
    all_goals exact ⟨k + 1, by omega, by omega, by simp⟩
  · repeat' (first | ((first | ((with_reducible refine qo (fun hg => ?_) (fun hg => ?_)) <;> (try simp only [hg]) <;> (try simp only [gS] at hg) <;> (try (first | simp only [eq_false hg, gI] | simp only [eq_true hg, gI]))) | (with_reducible first | refine qg ?_ | refine qf ?_ | refine ql ?_ | refine qk ?_) | refine qd ?_ | refine qi ?_ | refine qj ?_ | refine qm ?_) <;> (try simp (disch := first | omega | simp) [qh, -qq, -qs, hlt])) | ((with_reducible refine sideT ?_ ?_); first | omega | assumption | (simp; done)) | (refine qe fun K hK => ?_) | (refine qa ?_) | (refine qb true (by kernel_rfl) (by kernel_rfl) ?_) | (refine qb false (by kernel_rfl) (by kernel_rfl) ?_) | (refine hK _ ?_; clear hK K) | (clear hK K; refine hK _ ?_; clear hK K) | (clear hK K; clear hK K; refine hK _ ?_; clear hK K) | refine qc ?_)
end Go.Proofs.YtnkimlkoijfcpaaGreatDoor

/- What the bulk of a batch of rows bounds. -/
namespace Go.Proofs.YtnkimlkoijfcpaaGreatDoor
open Go.ChangeShapes Go.WideShapes Go.RowKit Go.Lib
section
variable {H : Type} {enc : TypeId × Value → H} {w : World} {sp : Nat → Bool} {hd : Bool}
theorem delta_bulk (d : Delta) (n : Nat) (cs : List Value) (x : DataW H × List MemPlace) (hr : Rd w Any d.d cs) (h : DataW.trod enc Tryz.prog w 0 sp hd n 72 cs = some x) : True ∧ 4 * d.row.length ≤ Rows.uptoBulk x.1 := by
  obtain ⟨A, cap, b, off, rfl, p1, q1, r1, s1⟩ := Delta.open hr
  have hsl : Rd w Any (.sl (d.row.map Val.d)) [.slice A d.row.length cap] := by
    rw [Rd]; exact ⟨A, cap, b, off, by rw [List.length_map], by rw [List.length_map]; exact p1, q1, by rw [List.length_map]; exact r1, s1⟩
  obtain ⟨xs, m, rfl, rfl, hlen, hx3, hf⟩ := DataW.trod_struct Tryz.underlying72 h
  have hcl : Tryz.prog.cellsOf 26 = 1 := by kernel_rfl
  have hc : Tryz.prog.cellsOf 39 = 3 := by kernel_rfl
  have hx3' : xs.length = 3 := hx3
  match xs, hx3' with
  | [y0, y1, y2], _ =>
    have h1 : DataW.trod enc Tryz.prog w 0 sp hd m 26 [.slice A d.row.length cap] = some y1 := qdp 1 26 1 1 hf ⟨_, rfl, rfl, rfl⟩ hcl
    obtain ⟨-, g2, -⟩ := sl_bulk (Q := fun _ => True) (g := fun _ => 4) Tryz.underlying26 hc (by omega) Val.width hsl h1 fun a ha n c y hr hy => val_bulk a n c y hr hy
    have hs : ∀ l : List Val, (l.map fun _ => 4).sum = 4 * l.length := fun l => by
      induction l with
      | nil => rfl
      | cons a l ih => rw [List.map_cons, List.sum_cons, ih, List.length_cons]; omega
    rw [hs] at g2
    refine ⟨trivial, ?_⟩
    simp only [List.map_cons, List.map_nil, Rows.uptoBulk, Rows.uptoBulkAll]
    omega
end
end Go.Proofs.YtnkimlkoijfcpaaGreatDoor

/- The law VmExpr where what it reads is of bulk at most 1048576, lifted: the row and the tied card. (Printed by gen_lift26.py.) -/
namespace Go.Proofs.YtnkimlkoijfcpaaGreatDoor
open Go.ChangeShapes Go.WideShapes Go.ChangeAt Go.RowKit Go.Lib
noncomputable def vmExprW (os : Os) : World := World.laidAll Tryz.prog os Rows.vmExprUptoRow.laid
def vmExprA : Array Value := #[.slice .none 0 0, .agg #[.int .i64 0, .int .i64 0, .string ByteArray.empty, .slice .none 0 0], .slice .none 0 0, .slice .none 0 0]
theorem vmExpr_reads (os : Os) {H : Type} (enc : TypeId × Value → H) : ∃ places, DataW.whole enc Tryz.prog ((vmExprW os).forCall (fun _ _ => 0) ⟨#[], vmExprA, []⟩).memory Tryz.f6.params.toList Rows.vmExprSpec.vars false vmExprA.toList 8 = some ([.nil, .agg [.lit (.int .i64 0), .lit (.int .i64 0), .lit (.string []), .nil], .nil, .nil], [], places) :=
  ⟨[], by kernel_rfl⟩
theorem vmExpr_laid (os : Os) : laidMet Tryz.prog Rows.vmExprUptoRow.laid ((vmExprW os).forCall (fun _ _ => 0) ⟨#[], vmExprA, []⟩).memory :=
  laidMet_of_run' 8 (by kernel_rfl) (by kernel_rfl)
set_option maxRecDepth 100000 in
theorem vmExpr_lifted (os : Os) (started : os.Started) (H : Type) (enc : TypeId × Value → H) (F : Stop.Interp) :
    ReturnsInHanded {} Tryz.checked os 6 .any ((Rows.OpenSpec.upto Rows.vmExprSpec).preRow enc Tryz.prog Tryz.f6 Rows.vmExprUptoRow.domain false Rows.vmExprUptoRow.laid) (((Rows.OpenSpec.upto Rows.vmExprSpec).at F).post enc Tryz.prog Tryz.f6 false true false false) := by
  obtain ⟨places, hx⟩ := vmExpr_reads os enc
  refine returnsInHanded_of_row (C := Tryz.checked) (s := Rows.OpenSpec.upto Rows.vmExprSpec) Tryz.own started (by kernel_rfl) Tryz.func6
    (witness_row_at (enc := enc) (C := Tryz.checked) false (vmExprW os) vmExprA (World.laidAll_os _ _ _) (by kernel_rfl) (by kernel_rfl) (by kernel_rfl)
      (OpenSpec.preRow_of_cond 8 hx (by kernel_rfl) (fun k hk => by cases hk; kernel_rfl) (by kernel_rfl) (vmExpr_laid os))) ?_
  intro W base args ds gs before hval0 hW _ hcond _ hlaid _ _
  rw [MakeChecks.laidMetH_plain _ _ _ (by kernel_rfl)] at hlaid
  have hglob := glob27 hlaid (by simp [Rows.vmExprUptoRow])
  have hval : ∀ (j : Nat) t v, Tryz.f6.params[j]? = some t → args[j]? = some v → Value.okWide Tryz.prog W .any base t v := hval0
  have hW' := hW
  obtain ⟨p, q, hA0, hV, rfl, hfz, hnd⟩ := hW
  have hA : DataW.TrodAll enc Tryz.prog W 0 (fun _ => true) true Tryz.f6.params.toList args.toList ds p := hA0
  rw [Tryz.params6] at hA hval
  obtain ⟨v0, v1, v2, v3, d0, d1, d2, d3, p0, p1, p2, p3, rfl, rfl, rfl, h0, h1, h2, h3⟩ := trodAll_4_02 hA
  obtain ⟨rfl, rfl⟩ := trodVars_none hV
  have hb0 : Rows.uptoSmall H ([d0, d1, d2, d3] ++ []) = true := hcond _ rfl
  have hb : Rows.uptoBulkAll ([d0, d1, d2, d3] ++ []) ≤ 1048576 := of_decide_eq_true hb0
  simp only [List.append_nil, Rows.uptoBulkAll] at hb
  obtain ⟨x0, r0⟩ := par_sl Tryz.underlying42 (hval 0 _ v0 rfl rfl) h0 trods_fns
  obtain ⟨x1, cs1, rfl, r1⟩ := par_st Tryz.underlying25 (hval 1 _ v1 rfl rfl) h1 trods_ex
  obtain ⟨x2, r2⟩ := par_sl Tryz.underlying22 (hval 2 _ v2 rfl rfl) h2 trods_ints27
  obtain ⟨x3, r3⟩ := par_sl Tryz.underlying59 (hval 3 _ v3 rfl rfl) h3 trods_deltas
  have s0 : (∀ f ∈ x0, n64 f.body) ∧ (x0.map fun f => 5 * parts f.body).sum + 1 ≤ Rows.uptoBulk d0 ∧ x0.length + 1 ≤ Rows.uptoBulk d0 := by
    obtain ⟨A, n, c, rfl⟩ := okWide_slice Tryz.underlying42 (hval 0 _ v0 rfl rfl)
    obtain ⟨k, t⟩ := h0
    exact sl_bulk (Q := fun f => n64 f.body) (g := fun f => 5 * parts f.body) Tryz.underlying42 (by kernel_rfl) (by omega) Fn.width r0 t fun f _ n c y hr hy => fn_bulk f n c y hr hy
  have s1 : n64 x1 ∧ 5 * parts x1 ≤ Rows.uptoBulk d1 := by
    obtain ⟨k, t⟩ := h1
    exact ex_bulk x1 k cs1 _ r1 t
  have s3 : (∀ d ∈ x3, True) ∧ (x3.map fun d => 4 * d.row.length).sum + 1 ≤ Rows.uptoBulk d3 ∧ x3.length + 1 ≤ Rows.uptoBulk d3 := by
    obtain ⟨A, n, c, rfl⟩ := okWide_slice Tryz.underlying59 (hval 3 _ v3 rfl rfl)
    obtain ⟨k, t⟩ := h3
    exact sl_bulk (Q := fun _ => True) (g := fun d => 4 * d.row.length) Tryz.underlying59 (by kernel_rfl) (by omega) Delta.width r3 t fun f _ n c y hr hy => delta_bulk f n c y hr hy
  refine (calls_of_gives (vals := [v0, .agg cs1.toArray, v2, v3]) (vmExpr_g x0 x1 x2 x3 (by have := sum_fns x0; omega) (fun f hf => by have := mem_sum26 (g := fun f : Fn => 5 * parts f.body) hf; omega) (by omega) (fun d hd => by have := mem_sum26 (g := fun d : Delta => 4 * d.row.length) hd; omega) s1.1 s0.1) ⟨_, _, rfl, fns_flat26 r0, _, _, rfl, ex_flat26 r1, _, _, rfl, ints_flat27 r2, _, _, rfl, Delta.flats r3, rfl⟩ hglob).mono ?_
  rintro r W' ⟨rfl, hb⟩
  exact ⟨_, rfl, law_post (P := Tryz.prog) Tryz.laidOut hW' rfl rfl (by kernel_rfl) Tryz.underlying4 (by kernel_rfl) hb⟩
theorem vmExprUpto_row : Rows.VmExprUptoSaid :=
  OpenClaim.holds_of_cond 6 Tryz.f6 rfl rfl rfl rfl rfl rfl rfl ⟨rfl, rfl, rfl, rfl, rfl⟩ rfl rfl rfl rfl rfl (by kernel_rfl) Tryz.func6 (by kernel_rfl)
    (of_decide_eq_true (by kernel_rfl)) (by unfold Func.isWrapper; first | (rw [if_pos (by decide +kernel)]; kernel_rfl) | (rw [if_neg (by decide +kernel)]; exact ⟨rfl, rfl⟩))
    (fun os started H enc _ F => by rw [OpenClaim.pre_eq_preRow]; exact vmExpr_lifted os started H enc F)
theorem vmExprUpto_holds : Rows.VmExprUptoCardSaid :=
  Claim7.holds_tied_plain_at .later [] _ _ _ _ vmExprUpto_row (fun _ h => by cases h) (by kernel_rfl) (fun _ h => by cases h) vmExprUpto_row_tie rfl ⟨rfl, rfl⟩ (by kernel_rfl) rfl
    (fun f fn hf hfn => by
      obtain rfl : f = 6 := Option.some.inj ((show Tryz.prog.funcNamed "errata/erratalaw27.VmExpr" = some 6 by kernel_rfl).symm.trans hf) |>.symm
      obtain rfl : fn = Tryz.f6 := (Option.some.inj (Tryz.func6.symm.trans hfn)).symm
      exact ⟨by kernel_rfl, fun j t ht => by
        rw [Tryz.params6] at ht
        have hm : t ∈ [42, 25, 22, 59] := by simpa using Array.mem_of_getElem? ht
        have hall : ([42, 25, 22, 59].all fun u => !Tryz.prog.wantsStandIn u) = true := by kernel_rfl
        exact (show Tryz.prog.wantsStandIn t = false by simpa using List.all_eq_true.1 hall t hm)⟩)
    (by kernel_rfl)
end Go.Proofs.YtnkimlkoijfcpaaGreatDoor
