/- Walks of layer 25's reference: the type of an instruction; Verify. -/
import Derived.WideShapes
import Derived.Laws.Strings
import Derived.Test.YtgpcpmfdklpifaaGreatDoorGa1
import Derived.Test.YtgpcpmfdklpifaaGreatDoorGa3
import Derived.Test.YtgpcpmfdklpifaaGreatDoorGa8
import Derived.Test.YtgpcpmfdklpifaaGreatDoorGa9
import Derived.Test.YtgpcpmfdklpifaaGreatDoorGa11
import Derived.Test.YtgpcpmfdklpifaaGreatDoorGa13
import Derived.Test.YtgpcpmfdklpifaaGreatDoorGa14
import Derived.Test.YtgpcpmfdklpifaaGreatDoorGa16
import Derived.Test.YtgpcpmfdklpifaaGreatDoorGa17
import Derived.Test.YtgpcpmfdklpifaaGreatDoorGa18
import Derived.Test.YtgpcpmfdklpifaaGreatDoorGa19
set_option linter.unusedSimpArgs false
set_option linter.unusedVariables false
namespace Go.Proofs.YtgpcpmfdklpifaaGreatDoor
open Go.RowKit Go.Lib
theorem ops_le3 (x : Ins) : (opsP x).length ≤ 3 := by
  have h1 := qci x
  have h2 := qdd x.op
  split at h1 <;> omega
set_option maxHeartbeats 4000000 in
theorem rtyped_g (x : Ins) (cols types : List Int) : Gives Tryz.prog 50 [x.av, .sl (cols.map AV.int), .sl (types.map AV.int)] (.tup [.int ((tyI cols types x).getD 0), .bool (tyI cols types x).isSome]) := by
  have c1 := rops_g x
  have hol := ops_le3 x
  have hpx : parts (exI x) ≤ 1000000 := by
    have h1 : ∀ l : List Int, qbt (l.map qba) = l.length := fun l => by
      induction l with
      | nil => rfl
      | cons r l ih => rw [List.map_cons, qbt, ih]; unfold qba; rw [parts, qbt, List.length_cons]; omega
    unfold exI; rw [parts, h1]; omega
  have c3 : Gives Tryz.prog 11 [.sl [], .sl (cols.map AV.int), .sl (types.map AV.int), .agg [.int x.op, .int x.n, .str x.s, .sl ((opsP x).map fun r => (qba r).av)]] (.tup [.int ((tyI cols types x).getD 0), .bool (tyI cols types x).isSome]) := by
    have h1 := rtype_g [] cols types (exI x) hpx (by simp)
    unfold exI at h1
    rw [Ex.av_mk, List.map_map] at h1
    exact h1
  generalize tyI cols types x = T at *
  generalize opsP x = ops at *
  have hex : ∀ r : Int, (AV.agg [.int 4, .int r, .str ByteArray.empty, .sl []]) = (qba r).av := fun r => by unfold qba; rw [Ex.av_mk]; rfl
  refine qn Tryz.func50 Tryz.ntmps50 rfl rfl (by decide) rfl (by intro n; simp) fun σ n0 hcl hft => ?_
  repeat' (first | ((first | ((with_reducible refine qo (fun hg => ?_) (fun hg => ?_)) <;> (try simp only [hg]) <;> (try simp only [gS] at hg) <;> (try (first | simp only [eq_false hg, gI] | simp only [eq_true hg, gI]))) | (with_reducible first | refine qc ?_ | refine qb ?_ | refine qi ?_ | refine qh ?_) | refine acall (c1) ?_ | refine qp (c1) ?_ | refine qe ?_ | refine qj ?_ | refine qk ?_ | refine qm ?_) <;> (try simp (disch := first | omega | simp) [qg, -qq, -qs])) | ((with_reducible refine sideT ?_ ?_); first | omega | assumption | (simp; done)) | (refine qf fun K hK => ?_) | (refine qa ?_) | refine ql ?_ | ((first | refine hK _ ?_ | (clear hK K; refine hK _ ?_) | (clear hK K; clear hK K; refine hK _ ?_)); clear hK K) | refine qd ?_)
  refine qw 1 3 36 4 (by rfl) (by rfl) ?_
  refine qr hcl (fun k : Nat => [(1, .sl (cols.map AV.int)), (2, .sl (types.map AV.int)), (8, .ptr (n0 + 1) 0), (9, .sl (ops.map AV.int)), (10, .int k)])
    (fun k => [.cells [.int x.op, .int x.tgt, .int x.a, .int x.b, .int x.c, .int x.n, .str x.s] 32, .cells [.int x.op, .int x.n, .str x.s, .gs (n0 + 2) ((ops.take k).map fun r => (qba r).av)] 36, .tail k 36 4])
    (fun k => k ≤ ops.length) (fun k => ops.length - k) 0 (by simp) (by simp) fun k hk2 => ?_
  by_cases hlt2 : k < ops.length
  · have htk : (ops.map fun r => (qba r).av).take (k + 1) = (ops.map fun r => (qba r).av).take k ++ [(qba ops[k]).av] := by
      rw [List.take_succ_eq_append_getElem (by simpa using hlt2), List.getElem_map]
    have hsz2 : (k + 1) * 56 ≤ 140737488355328 := by omega
    repeat' (first | ((first | ((with_reducible refine qo (fun hg => ?_) (fun hg => ?_)) <;> (try simp only [hg]) <;> (try simp only [gS] at hg) <;> (try (first | simp only [eq_false hg, gI] | simp only [eq_true hg, gI]))) | (with_reducible first | refine qc ?_ | refine qb ?_ | refine qi ?_ | refine qh ?_) | refine qe ?_ | refine qj ?_ | refine qk ?_ | refine qm ?_) <;> (try simp (disch := first | omega | simp) [qg, -qq, -qs, hlt2, hex, hsz2])) | (with_reducible refine qed (id := 6) false (by kernel_rfl) (by kernel_rfl) ?_) | ((with_reducible refine sideT ?_ ?_); first | omega | assumption | (simp; done)) | (refine qf fun K hK => ?_) | (refine qa ?_) | refine ql ?_ | ((first | refine hK _ ?_ | (clear hK K; refine hK _ ?_) | (clear hK K; clear hK K; refine hK _ ?_)); clear hK K) | refine qd ?_)
    exact ⟨k + 1, by omega, by omega, ⟨htk.symm, rfl⟩, by omega⟩
  · obtain rfl : k = ops.length := by omega
    repeat' (first | ((first | ((with_reducible refine qo (fun hg => ?_) (fun hg => ?_)) <;> (try simp only [hg]) <;> (try simp only [gS] at hg) <;> (try (first | simp only [eq_false hg, gI] | simp only [eq_true hg, gI]))) | (with_reducible first | refine qc ?_ | refine qb ?_ | refine qi ?_ | refine qh ?_) | refine acall (c3) ?_ | refine qp (c3) ?_ | refine qe ?_ | refine qj ?_ | refine qk ?_ | refine qm ?_) <;> (try simp (disch := first | omega | simp) [qg, -qq, -qs, hlt2])) | ((with_reducible refine sideT ?_ ?_); first | omega | assumption | (simp; done)) | (refine qf fun K hK => ?_) | (refine qa ?_) | refine ql ?_ | ((first | refine hK _ ?_ | (clear hK K; refine hK _ ?_) | (clear hK K; clear hK K; refine hK _ ?_)); clear hK K) | refine qd ?_)
def badT (t : Int) : Bool := decide (t < 0) || decide (3 ≤ t)
set_option maxHeartbeats 8000000 in
theorem rverify_g (c : Cod) (cols : List Int) (hc : cols.length ≤ 1000000) : Gives Tryz.prog 21 [c.av, .sl (cols.map AV.int)] (.tup [.int (verP c cols).1, .int (verP c cols).2]) := by
  obtain ⟨R, hR⟩ : ∃ R, R = verP c cols := ⟨_, rfl⟩
  rw [← hR]
  unfold verP at hR
  obtain ⟨ins, types, out⟩ := c
  simp only at hR
  by_cases h1 : 1000 < ins.length ∨ 1000 < types.length
  · rw [if_pos h1] at hR
    by_cases h1a : (1000 : Int) < ins.length
    · refine qn Tryz.func21 Tryz.ntmps21 rfl rfl (by decide) rfl (by intro n; simp) fun σ n0 hcl hft => ?_
      repeat' (first | ((first | ((with_reducible refine qo (fun hg => ?_) (fun hg => ?_)) <;> (try simp only [hg]) <;> (try simp only [gS] at hg) <;> (try (first | simp only [eq_false hg, gI] | simp only [eq_true hg, gI]))) | (with_reducible first | refine qc ?_ | refine qb ?_ | refine qi ?_ | refine qh ?_) | refine qe ?_ | refine qj ?_ | refine qk ?_ | refine qm ?_) <;> (try simp (disch := first | omega | simp) [qg, -qq, -qs, h1a])) | ((with_reducible refine sideT ?_ ?_); first | omega | assumption | (simp; done)) | (refine qf fun K hK => ?_) | (refine qa ?_) | refine ql ?_ | ((first | refine hK _ ?_ | (clear hK K; refine hK _ ?_) | (clear hK K; clear hK K; refine hK _ ?_)); clear hK K) | refine qd ?_)
      all_goals (rw [hR]; first | (simp; done) | omega)
    · have h1b : (1000 : Int) < types.length := by omega
      refine qn Tryz.func21 Tryz.ntmps21 rfl rfl (by decide) rfl (by intro n; simp) fun σ n0 hcl hft => ?_
      repeat' (first | ((first | ((with_reducible refine qo (fun hg => ?_) (fun hg => ?_)) <;> (try simp only [hg]) <;> (try simp only [gS] at hg) <;> (try (first | simp only [eq_false hg, gI] | simp only [eq_true hg, gI]))) | (with_reducible first | refine qc ?_ | refine qb ?_ | refine qi ?_ | refine qh ?_) | refine qe ?_ | refine qj ?_ | refine qk ?_ | refine qm ?_) <;> (try simp (disch := first | omega | simp) [qg, -qq, -qs, h1a, h1b])) | ((with_reducible refine sideT ?_ ?_); first | omega | assumption | (simp; done)) | (refine qf fun K hK => ?_) | (refine qa ?_) | refine ql ?_ | ((first | refine hK _ ?_ | (clear hK K; refine hK _ ?_) | (clear hK K; clear hK K; refine hK _ ?_)); clear hK K) | refine qd ?_)
      all_goals (rw [hR]; first | (simp; done) | omega)
  rw [if_neg h1] at hR
  have h1a : ¬ (1000 : Int) < ins.length := by omega
  have h1b : ¬ (1000 : Int) < types.length := by omega
  change R = if types.any badT = true then (-1, 13) else _ at hR
  obtain ⟨V, hV⟩ : ∃ V, V = verL cols types ins 0 (List.replicate types.length false) := ⟨_, rfl⟩
  rw [← hV] at hR
  have hsz : 1 * types.length ≤ 281474976710656 := by omega
  refine qn Tryz.func21 Tryz.ntmps21 rfl rfl (by decide) rfl (by intro n; simp) fun σ n0 hcl hft => ?_
  repeat' (first | ((first | ((with_reducible refine qo (fun hg => ?_) (fun hg => ?_)) <;> (try simp only [hg]) <;> (try simp only [gS] at hg) <;> (try (first | simp only [eq_false hg, gI] | simp only [eq_true hg, gI]))) | (with_reducible first | refine qc ?_ | refine qb ?_ | refine qi ?_ | refine qh ?_) | refine qe ?_ | refine qj ?_ | refine qk ?_ | refine qm ?_) <;> (try simp (disch := first | omega | simp) [qg, -qq, -qs, h1a, h1b])) | ((with_reducible refine sideT ?_ ?_); first | omega | assumption | (simp; done)) | (refine qf fun K hK => ?_) | (refine qa ?_) | refine ql ?_ | ((first | refine hK _ ?_ | (clear hK K; refine hK _ ?_) | (clear hK K; clear hK K; refine hK _ ?_)); clear hK K) | refine qd ?_)
  refine qr hcl (fun k : Nat => [(1, .sl (cols.map AV.int)), (2, .ptr n0 0), (6, .int k)]) (fun _ => [.cells [.sl (ins.map Ins.av), .sl (types.map AV.int), .int out] 25])
    (fun k => k ≤ types.length ∧ ∀ j (h : j < types.length), j < k → badT types[j] = false) (fun k => types.length - k) 0 (by simp) (by simp) fun k ⟨hk, he⟩ => ?_
  by_cases hlt : k < types.length
  · have hbad : badT types[k] = true → R = (-1, 13) := fun hb => by
      rw [hR, if_pos (List.any_eq_true.2 ⟨types[k], List.getElem_mem _, hb⟩)]
    have hgood : badT types[k] = false → ∃ b', (b' ≤ types.length ∧ ∀ j (h : j < types.length), j < b' → badT types[j] = false) ∧ types.length - b' < types.length - k ∧ (k : Int) + 1 = b' := fun hb =>
      ⟨k + 1, ⟨by omega, qcu (C := fun t => badT t = false) he fun _ => hb⟩, by omega, by omega⟩
    by_cases ht0 : types[k] < 0
    · have hb := hbad (by unfold badT; simp [ht0])
      repeat' (first | ((first | ((with_reducible refine qo (fun hg => ?_) (fun hg => ?_)) <;> (try simp only [hg]) <;> (try simp only [gS] at hg) <;> (try (first | simp only [eq_false hg, gI] | simp only [eq_true hg, gI]))) | (with_reducible first | refine qc ?_ | refine qb ?_ | refine qi ?_ | refine qh ?_) | refine qe ?_ | refine qj ?_ | refine qk ?_ | refine qm ?_) <;> (try simp (disch := first | omega | simp) [qg, -qq, -qs, hlt, ht0])) | ((with_reducible refine sideT ?_ ?_); first | omega | assumption | (simp; done)) | (refine qf fun K hK => ?_) | (refine qa ?_) | refine ql ?_ | ((first | refine hK _ ?_ | (clear hK K; refine hK _ ?_) | (clear hK K; clear hK K; refine hK _ ?_)); clear hK K) | refine qd ?_)
      all_goals (rw [hb]; simp)
    · by_cases ht3 : 3 ≤ types[k]
      · have hb := hbad (by unfold badT; simp [ht3])
        repeat' (first | ((first | ((with_reducible refine qo (fun hg => ?_) (fun hg => ?_)) <;> (try simp only [hg]) <;> (try simp only [gS] at hg) <;> (try (first | simp only [eq_false hg, gI] | simp only [eq_true hg, gI]))) | (with_reducible first | refine qc ?_ | refine qb ?_ | refine qi ?_ | refine qh ?_) | refine qe ?_ | refine qj ?_ | refine qk ?_ | refine qm ?_) <;> (try simp (disch := first | omega | simp) [qg, -qq, -qs, hlt, ht0, ht3])) | ((with_reducible refine sideT ?_ ?_); first | omega | assumption | (simp; done)) | (refine qf fun K hK => ?_) | (refine qa ?_) | refine ql ?_ | ((first | refine hK _ ?_ | (clear hK K; refine hK _ ?_) | (clear hK K; clear hK K; refine hK _ ?_)); clear hK K) | refine qd ?_)
        all_goals (rw [hb]; simp)
      · have hg2 := hgood (by unfold badT; simp; omega)
        repeat' (first | ((first | ((with_reducible refine qo (fun hg => ?_) (fun hg => ?_)) <;> (try simp only [hg]) <;> (try simp only [gS] at hg) <;> (try (first | simp only [eq_false hg, gI] | simp only [eq_true hg, gI]))) | (with_reducible first | refine qc ?_ | refine qb ?_ | refine qi ?_ | refine qh ?_) | refine qe ?_ | refine qj ?_ | refine qk ?_ | refine qm ?_) <;> (try simp (disch := first | omega | simp) [qg, -qq, -qs, hlt, ht0, ht3])) | ((with_reducible refine sideT ?_ ?_); first | omega | assumption | (simp; done)) | (refine qf fun K hK => ?_) | (refine qa ?_) | refine ql ?_ | ((first | refine hK _ ?_ | (clear hK K; refine hK _ ?_) | (clear hK K; clear hK K; refine hK _ ?_)); clear hK K) | refine qd ?_)
        all_goals exact hg2
  · have hany : types.any badT = false := by
      rw [List.any_eq_false]
      intro t ht
      obtain ⟨j, hj, rfl⟩ := List.mem_iff_getElem.1 ht
      have := he j hj (by omega)
      rw [this]; simp
    rw [hany, if_neg (by simp)] at hR
    try dsimp only at hR
    repeat' (first | ((first | ((with_reducible refine qo (fun hg => ?_) (fun hg => ?_)) <;> (try simp only [hg]) <;> (try simp only [gS] at hg) <;> (try (first | simp only [eq_false hg, gI] | simp only [eq_true hg, gI]))) | (with_reducible first | refine qc ?_ | refine qb ?_ | refine qi ?_ | refine qh ?_) | refine qe ?_ | refine qj ?_ | refine qk ?_ | refine qm ?_) <;> (try simp (disch := first | omega | simp) [qg, -qq, -qs, hlt, hsz])) | ((with_reducible refine sideT ?_ ?_); first | omega | assumption | (simp; done)) | (refine qf fun K hK => ?_) | (refine qa ?_) | refine ql ?_ | ((first | refine hK _ ?_ | (clear hK K; refine hK _ ?_) | (clear hK K; clear hK K; refine hK _ ?_)); clear hK K) | refine qd ?_)
    refine qr hcl (fun b : Nat × List Bool => [(1, .sl (cols.map AV.int)), (2, .ptr n0 0), (7, .own (n0 + 1) types.length), (8, .int b.1)])
      (fun b => [.cells [.sl (ins.map Ins.av), .sl (types.map AV.int), .int out] 25, .vec (b.2.map AV.bool) 4 1])
      (fun b => b.1 ≤ ins.length ∧ b.2.length = types.length ∧ V = verL cols types (ins.drop b.1) b.1 b.2) (fun b => ins.length - b.1) (0, List.replicate types.length false) ⟨by omega, by simp, hV⟩ (by simp) fun ⟨k, D⟩ ⟨hk1, hD, hVk⟩ => ?_
    simp only at hk1 hD hVk
    by_cases hlt2 : k < ins.length
    · rw [List.drop_eq_getElem_cons hlt2, verL] at hVk
      have hret : ∀ e, verI cols types D ins[k] = e → e ≠ 0 → R = ((k : Int), e) := fun e h0 h1 => by
        rw [if_neg (by omega), h0] at hVk
        rw [hR, hVk, if_pos (by exact h1)]
      have hgo : verI cols types D ins[k] = 0 → V = verL cols types (ins.drop (k + 1)) (k + 1) (D.set ins[k].tgt.toNat true) := fun h0 => by rw [if_pos h0] at hVk; exact hVk
      clear hVk
      have c0 := rformed_g ins[k]
      have c1 := rops_g ins[k]
      have c3 := rtyped_g ins[k] cols types
      have hol := ops_le3 ins[k]
      unfold verI at hret hgo
      cases hf : qbh ins[k]
      · rw [hf] at c0 hret
        have hr := hret 2 (by simp) (by omega)
        repeat' (first | ((first | ((with_reducible refine qo (fun hg => ?_) (fun hg => ?_)) <;> (try simp only [hg]) <;> (try simp only [gS] at hg) <;> (try (first | simp only [eq_false hg, gI] | simp only [eq_true hg, gI]))) | (with_reducible first | refine qc ?_ | refine qb ?_ | refine qi ?_ | refine qh ?_) | refine acall (c0) ?_ | refine qp (c0) ?_ | refine qe ?_ | refine qj ?_ | refine qk ?_ | refine qm ?_) <;> (try simp (disch := first | omega | simp) [qg, -qq, -qs, hlt2, hD])) | ((with_reducible refine sideT ?_ ?_); first | omega | assumption | (simp; done)) | (refine qf fun K hK => ?_) | (refine qa ?_) | refine ql ?_ | ((first | refine hK _ ?_ | (clear hK K; refine hK _ ?_) | (clear hK K; clear hK K; refine hK _ ?_)); clear hK K) | refine qd ?_)
        all_goals (rw [hr]; simp)
      rw [hf] at c0 hret hgo
      rw [if_neg (by simp)] at hret hgo
      generalize opsP ins[k] = ops at *
      obtain ⟨L, hL⟩ : ∃ L, L = ins[k].tgt :: ops := ⟨_, rfl⟩
      have hLa : AV.int ins[k].tgt :: ops.map AV.int = L.map AV.int := by rw [hL]; rfl
      have hLl : ops.length + 1 = L.length := by rw [hL]; rfl
      have hsz2 : (1 + ops.length) * 8 ≤ 140737488355328 := by omega
      repeat' (first | ((first | ((with_reducible refine qo (fun hg => ?_) (fun hg => ?_)) <;> (try simp only [hg]) <;> (try simp only [gS] at hg) <;> (try (first | simp only [eq_false hg, gI] | simp only [eq_true hg, gI]))) | (with_reducible first | refine qc ?_ | refine qb ?_ | refine qi ?_ | refine qh ?_ | refine qdv ?_ | refine anyF_end ?_) | refine acall (c0) ?_ | refine qp (c0) ?_ | refine acall (c1) ?_ | refine qp (c1) ?_ | refine qe ?_ | refine qj ?_ | refine qk ?_ | refine qm ?_) <;> (try simp (disch := first | omega | simp) [qg, -qq, -qs, hlt2, hD, hsz2])) | (with_reducible refine awp_anyF (id := 15) [] 0 [.M, .M, .M, .M, .M, .W, .R] (by kernel_rfl) (by kernel_rfl) (by simp) ?_) | ((with_reducible refine sideT ?_ ?_); first | omega | assumption | (simp; done)) | (refine qf fun K hK => ?_) | (refine qa ?_) | refine ql ?_ | ((first | refine hK _ ?_ | (clear hK K; refine hK _ ?_) | (clear hK K; clear hK K; refine hK _ ?_)); clear hK K) | refine qd ?_)
      refine qr hcl (fun j : Nat => [(1, .sl (cols.map AV.int)), (2, .ptr n0 0), (7, .own (n0 + 1) types.length), (8, .int k), (9, .ptr (n0 + 2) 0), (10, .own (n0 + 3) L.length), (11, .int j)])
        (fun j => [.cells [.sl (ins.map Ins.av), .sl (types.map AV.int), .int out] 25, .vec (D.map AV.bool) 4 1, .cells [.int ins[k].op, .int ins[k].tgt, .int ins[k].a, .int ins[k].b, .int ins[k].c, .int ins[k].n, .str ins[k].s] 32, .vec (L.map AV.int) 3 1])
        (fun j => j ≤ L.length ∧ ∀ i (h : i < L.length), i < j → 0 ≤ L[i] ∧ L[i] < types.length) (fun j => L.length - j) 0 (by simp) (by simp; exact ⟨hLa, by omega⟩) fun j ⟨hj, hej⟩ => ?_
      have hLn : L.length ≤ 4 := by omega
      by_cases hlt3 : j < L.length
      · have hoff : (L[j] < 0 ∨ (types.length : Int) ≤ L[j]) → R = ((k : Int), 3) := fun ho => hret 3 (by
          rw [if_pos]
          rw [← hL]
          exact List.any_eq_true.2 ⟨L[j], List.getElem_mem _, by simpa using ho⟩) (by omega)
        by_cases ho1 : L[j] < 0
        · have hr := hoff (.inl ho1)
          repeat' (first | ((first | ((with_reducible refine qo (fun hg => ?_) (fun hg => ?_)) <;> (try simp only [hg]) <;> (try simp only [gS] at hg) <;> (try (first | simp only [eq_false hg, gI] | simp only [eq_true hg, gI]))) | (with_reducible first | refine qc ?_ | refine qb ?_ | refine qi ?_ | refine qh ?_) | refine qe ?_ | refine qj ?_ | refine qk ?_ | refine qm ?_) <;> (try simp (disch := first | omega | simp) [qg, -qq, -qs, hlt3, ho1])) | ((with_reducible refine sideT ?_ ?_); first | omega | assumption | (simp; done)) | (refine qf fun K hK => ?_) | (refine qa ?_) | refine ql ?_ | ((first | refine hK _ ?_ | (clear hK K; refine hK _ ?_) | (clear hK K; clear hK K; refine hK _ ?_)); clear hK K) | refine qd ?_)
          all_goals (rw [hr]; simp)
        · by_cases ho2 : (types.length : Int) ≤ L[j]
          · have hr := hoff (.inr ho2)
            repeat' (first | ((first | ((with_reducible refine qo (fun hg => ?_) (fun hg => ?_)) <;> (try simp only [hg]) <;> (try simp only [gS] at hg) <;> (try (first | simp only [eq_false hg, gI] | simp only [eq_true hg, gI]))) | (with_reducible first | refine qc ?_ | refine qb ?_ | refine qi ?_ | refine qh ?_) | refine qe ?_ | refine qj ?_ | refine qk ?_ | refine qm ?_) <;> (try simp (disch := first | omega | simp) [qg, -qq, -qs, hlt3, ho1, ho2])) | ((with_reducible refine sideT ?_ ?_); first | omega | assumption | (simp; done)) | (refine qf fun K hK => ?_) | (refine qa ?_) | refine ql ?_ | ((first | refine hK _ ?_ | (clear hK K; refine hK _ ?_) | (clear hK K; clear hK K; refine hK _ ?_)); clear hK K) | refine qd ?_)
            all_goals (rw [hr]; simp)
          · repeat' (first | ((first | ((with_reducible refine qo (fun hg => ?_) (fun hg => ?_)) <;> (try simp only [hg]) <;> (try simp only [gS] at hg) <;> (try (first | simp only [eq_false hg, gI] | simp only [eq_true hg, gI]))) | (with_reducible first | refine qc ?_ | refine qb ?_ | refine qi ?_ | refine qh ?_) | refine qe ?_ | refine qj ?_ | refine qk ?_ | refine qm ?_) <;> (try simp (disch := first | omega | simp) [qg, -qq, -qs, hlt3, ho1, ho2])) | ((with_reducible refine sideT ?_ ?_); first | omega | assumption | (simp; done)) | (refine qf fun K hK => ?_) | (refine qa ?_) | refine ql ?_ | ((first | refine hK _ ?_ | (clear hK K; refine hK _ ?_) | (clear hK K; clear hK K; refine hK _ ?_)); clear hK K) | refine qd ?_)
            all_goals exact ⟨j + 1, ⟨by omega, fun i hi hij => by
              by_cases hij2 : i = j
              · subst hij2; omega
              · exact hej i hi (by omega)⟩, by omega, by omega⟩
      have hin : ∀ r ∈ L, 0 ≤ r ∧ r < types.length := fun r hr => by
        obtain ⟨i, hi, rfl⟩ := List.mem_iff_getElem.1 hr
        exact hej i hi (by omega)
      have hnoff : ((ins[k].tgt :: ops).any fun r => decide (r < 0) || decide ((types.length : Int) ≤ r)) = false := by
        rw [← hL, List.any_eq_false]
        intro r hr
        have := hin r hr
        simp; omega
      rw [hnoff, if_neg (by simp)] at hret hgo
      have hx0 := hin ins[k].tgt (by rw [hL]; simp)
      by_cases hcol : ins[k].op = 3 ∧ (ins[k].n < 0 ∨ (cols.length : Int) ≤ ins[k].n)
      · have hr := hret 3 (by rw [if_pos hcol]) (by omega)
        obtain ⟨h3, h4⟩ := hcol
        by_cases hn0 : ins[k].n < 0
        · repeat' (first | ((first | ((with_reducible refine qo (fun hg => ?_) (fun hg => ?_)) <;> (try simp only [hg]) <;> (try simp only [gS] at hg) <;> (try (first | simp only [eq_false hg, gI] | simp only [eq_true hg, gI]))) | (with_reducible first | refine qc ?_ | refine qb ?_ | refine qi ?_ | refine qh ?_) | refine qe ?_ | refine qj ?_ | refine qk ?_ | refine qm ?_) <;> (try simp (disch := first | omega | simp) [qg, -qq, -qs, hlt3, h3, hn0])) | ((with_reducible refine sideT ?_ ?_); first | omega | assumption | (simp; done)) | (refine qf fun K hK => ?_) | (refine qa ?_) | refine ql ?_ | ((first | refine hK _ ?_ | (clear hK K; refine hK _ ?_) | (clear hK K; clear hK K; refine hK _ ?_)); clear hK K) | refine qd ?_)
          all_goals (rw [hr]; simp)
        · have hn1 : (cols.length : Int) ≤ ins[k].n := by omega
          repeat' (first | ((first | ((with_reducible refine qo (fun hg => ?_) (fun hg => ?_)) <;> (try simp only [hg]) <;> (try simp only [gS] at hg) <;> (try (first | simp only [eq_false hg, gI] | simp only [eq_true hg, gI]))) | (with_reducible first | refine qc ?_ | refine qb ?_ | refine qi ?_ | refine qh ?_) | refine qe ?_ | refine qj ?_ | refine qk ?_ | refine qm ?_) <;> (try simp (disch := first | omega | simp) [qg, -qq, -qs, hlt3, h3, hn0, hn1])) | ((with_reducible refine sideT ?_ ?_); first | omega | assumption | (simp; done)) | (refine qf fun K hK => ?_) | (refine qa ?_) | refine ql ?_ | ((first | refine hK _ ?_ | (clear hK K; refine hK _ ?_) | (clear hK K; clear hK K; refine hK _ ?_)); clear hK K) | refine qd ?_)
          all_goals (rw [hr]; simp)
      rw [if_neg hcol] at hret hgo
      by_cases h3 : ins[k].op = 3
      · have hn0 : ¬ ins[k].n < 0 := fun h => hcol ⟨h3, .inl h⟩
        have hn1 : ¬ (cols.length : Int) ≤ ins[k].n := fun h => hcol ⟨h3, .inr h⟩
        repeat' (first | ((first | ((with_reducible refine qo (fun hg => ?_) (fun hg => ?_)) <;> (try simp only [hg]) <;> (try simp only [gS] at hg) <;> (try (first | simp only [eq_false hg, gI] | simp only [eq_true hg, gI]))) | (with_reducible first | refine qc ?_ | refine qb ?_ | refine qi ?_ | refine qh ?_) | refine qe ?_ | refine qj ?_ | refine qk ?_ | refine qm ?_) <;> (try simp (disch := first | omega | simp) [qg, -qq, -qs, hlt3, h3, hn0, hn1])) | ((with_reducible refine sideT ?_ ?_); first | omega | assumption | (simp; done)) | (refine qf fun K hK => ?_) | (refine qa ?_) | refine ql ?_ | ((first | refine hK _ ?_ | (clear hK K; refine hK _ ?_) | (clear hK K; clear hK K; refine hK _ ?_)); clear hK K) | refine qd ?_)
        refine qr hcl (fun j : Nat => [(1, .sl (cols.map AV.int)), (2, .ptr n0 0), (7, .own (n0 + 1) types.length), (8, .int k), (9, .ptr (n0 + 2) 0), (10, .own (n0 + 3) L.length), (12, .int j)])
          (fun j => [.cells [.sl (ins.map Ins.av), .sl (types.map AV.int), .int out] 25, .vec (D.map AV.bool) 4 1, .cells [.int ins[k].op, .int ins[k].tgt, .int ins[k].a, .int ins[k].b, .int ins[k].c, .int ins[k].n, .str ins[k].s] 32, .vec (L.map AV.int) 3 1])
          (fun j => 1 ≤ j ∧ j ≤ L.length ∧ ∀ i (h : i < L.length), 1 ≤ i → i < j → D.getD L[i].toNat false = true) (fun j => L.length - j) 1 ⟨by omega, by omega, fun i h h1 h2 => by omega⟩ (by first | (simp; done) | simp [h3]) fun j ⟨hj1, hj, hdj⟩ => ?_
        by_cases hlt4 : j < L.length
        · obtain ⟨q0, q1⟩ := hin L[j] (List.getElem_mem _)
          have hgd : D.getD L[j].toNat false = D[L[j].toNat]'(by omega) := by rw [List.getD_eq_getElem?_getD, List.getElem?_eq_getElem (by omega)]; rfl
          have hmo : L[j] ∈ ops := by
            obtain ⟨j', rfl⟩ : ∃ j', j = j' + 1 := ⟨j - 1, by omega⟩
            simp only [hL, List.getElem_cons_succ]
            exact List.getElem_mem _
          cases hd : D[L[j].toNat]'(by omega)
          · have hr := hret 25 (by rw [if_pos (List.any_eq_true.2 ⟨L[j], hmo, by rw [hgd, hd]; rfl⟩)]) (by omega)
            repeat' (first | ((first | ((with_reducible refine qo (fun hg => ?_) (fun hg => ?_)) <;> (try simp only [hg]) <;> (try simp only [gS] at hg) <;> (try (first | simp only [eq_false hg, gI] | simp only [eq_true hg, gI]))) | (with_reducible first | refine qc ?_ | refine qb ?_ | refine qi ?_ | refine qh ?_) | refine qe ?_ | refine qj ?_ | refine qk ?_ | refine qm ?_) <;> (try simp (disch := first | omega | simp) [qg, -qq, -qs, hlt4, q0, q1, hD, hd])) | ((with_reducible refine sideT ?_ ?_); first | omega | assumption | (simp; done)) | (refine qf fun K hK => ?_) | (refine qa ?_) | refine ql ?_ | ((first | refine hK _ ?_ | (clear hK K; refine hK _ ?_) | (clear hK K; clear hK K; refine hK _ ?_)); clear hK K) | refine qd ?_)
            all_goals (rw [hr]; simp)
          · repeat' (first | ((first | ((with_reducible refine qo (fun hg => ?_) (fun hg => ?_)) <;> (try simp only [hg]) <;> (try simp only [gS] at hg) <;> (try (first | simp only [eq_false hg, gI] | simp only [eq_true hg, gI]))) | (with_reducible first | refine qc ?_ | refine qb ?_ | refine qi ?_ | refine qh ?_) | refine qe ?_ | refine qj ?_ | refine qk ?_ | refine qm ?_) <;> (try simp (disch := first | omega | simp) [qg, -qq, -qs, hlt4, q0, q1, hD, hd])) | ((with_reducible refine sideT ?_ ?_); first | omega | assumption | (simp; done)) | (refine qf fun K hK => ?_) | (refine qa ?_) | refine ql ?_ | ((first | refine hK _ ?_ | (clear hK K; refine hK _ ?_) | (clear hK K; clear hK K; refine hK _ ?_)); clear hK K) | refine qd ?_)
            exact ⟨j + 1, ⟨by omega, by omega, fun i hi h1 hij => by
              by_cases hij2 : i = j
              · subst hij2; first | rw [hgd, hd] | (rw [← List.getD_eq_getElem?_getD, hgd, hd])
              · exact hdj i hi h1 (by omega)⟩, by omega, by omega⟩
        have hnd : (ops.any fun r => !D.getD r.toNat false) = false := by
          rw [List.any_eq_false]
          intro r hr
          obtain ⟨i, hi, rfl⟩ := List.mem_iff_getElem.1 hr
          have h5 : L[i + 1]'(by omega) = ops[i] := by simp only [hL, List.getElem_cons_succ]
          have := hdj (i + 1) (by omega) (by omega) (by omega)
          rw [h5] at this
          rw [this]; simp
        rw [hnd, if_neg (by simp)] at hret hgo
        have t0 := hx0.1
        have t1 := hx0.2
        have hgt : types.getD ins[k].tgt.toNat 0 = types[ins[k].tgt.toNat]'(by omega) := by rw [List.getD_eq_getElem?_getD, List.getElem?_eq_getElem (by omega)]; rfl
        rw [hgt] at hret hgo
        generalize tyI cols types ins[k] = T at *
        cases T with
        | none =>
          have hr := hret 13 (by simp) (by omega)
          repeat' (first | ((first | ((with_reducible refine qo (fun hg => ?_) (fun hg => ?_)) <;> (try simp only [hg]) <;> (try simp only [gS] at hg) <;> (try (first | simp only [eq_false hg, gI] | simp only [eq_true hg, gI]))) | (with_reducible first | refine qc ?_ | refine qb ?_ | refine qi ?_ | refine qh ?_) | refine acall (c3) ?_ | refine qp (c3) ?_ | refine qe ?_ | refine qj ?_ | refine qk ?_ | refine qm ?_) <;> (try simp (disch := first | omega | simp) [qg, -qq, -qs, hlt4, t0, t1])) | ((with_reducible refine sideT ?_ ?_); first | omega | assumption | (simp; done)) | (refine qf fun K hK => ?_) | (refine qa ?_) | refine ql ?_ | ((first | refine hK _ ?_ | (clear hK K; refine hK _ ?_) | (clear hK K; clear hK K; refine hK _ ?_)); clear hK K) | refine qd ?_)
          all_goals (rw [hr]; simp)
        | some t =>
          by_cases htt : t = types[ins[k].tgt.toNat]'(by omega)
          · have hg2 := hgo (by rw [if_pos (by rw [htt])])
            have htt2 := htt.symm
            have hgo1 : ∃ a b, (a ≤ ins.length ∧ b.length = types.length ∧ V = verL cols types (ins.drop a) a b) ∧ ins.length - a < ins.length - k ∧ (D.map AV.bool).set ins[k].tgt.toNat (AV.bool true) = b.map AV.bool ∧ (k : Int) + 1 = (a : Nat) :=
              ⟨k + 1, D.set ins[k].tgt.toNat true, ⟨by omega, by rw [List.length_set]; exact hD, hg2⟩, by omega, by rw [List.map_set], by omega⟩
            repeat' (first | ((first | ((with_reducible refine qo (fun hg => ?_) (fun hg => ?_)) <;> (try simp only [hg]) <;> (try simp only [gS] at hg) <;> (try (first | simp only [eq_false hg, gI] | simp only [eq_true hg, gI]))) | (with_reducible first | refine qc ?_ | refine qb ?_ | refine qi ?_ | refine qh ?_) | refine acall (c3) ?_ | refine qp (c3) ?_ | refine qe ?_ | refine qj ?_ | refine qk ?_ | refine qm ?_) <;> (try simp (disch := first | omega | simp) [qg, -qq, -qs, hlt4, t0, t1, htt, hD])) | ((with_reducible refine sideT ?_ ?_); first | omega | assumption | (simp; done)) | (refine qf fun K hK => ?_) | (refine qa ?_) | refine ql ?_ | ((first | refine hK _ ?_ | (clear hK K; refine hK _ ?_) | (clear hK K; clear hK K; refine hK _ ?_)); clear hK K) | refine qd ?_)
            all_goals first | exact absurd rfl (by assumption) | exact hgo1
          · have hr := hret 13 (by rw [if_neg (fun e => htt (by injection e))]) (by omega)
            repeat' (first | ((first | ((with_reducible refine qo (fun hg => ?_) (fun hg => ?_)) <;> (try simp only [hg]) <;> (try simp only [gS] at hg) <;> (try (first | simp only [eq_false hg, gI] | simp only [eq_true hg, gI]))) | (with_reducible first | refine qc ?_ | refine qb ?_ | refine qi ?_ | refine qh ?_) | refine acall (c3) ?_ | refine qp (c3) ?_ | refine qe ?_ | refine qj ?_ | refine qk ?_ | refine qm ?_) <;> (try simp (disch := first | omega | simp) [qg, -qq, -qs, hlt4, t0, t1, htt])) | ((with_reducible refine sideT ?_ ?_); first | omega | assumption | (simp; done)) | (refine qf fun K hK => ?_) | (refine qa ?_) | refine ql ?_ | ((first | refine hK _ ?_ | (clear hK K; refine hK _ ?_) | (clear hK K; clear hK K; refine hK _ ?_)); clear hK K) | refine qd ?_)
            all_goals first | exact absurd (by assumption) htt | (rw [hr]; simp)
      · repeat' (first | ((first | ((with_reducible refine qo (fun hg => ?_) (fun hg => ?_)) <;> (try simp only [hg]) <;> (try simp only [gS] at hg) <;> (try (first | simp only [eq_false hg, gI] | simp only [eq_true hg, gI]))) | (with_reducible first | refine qc ?_ | refine qb ?_ | refine qi ?_ | refine qh ?_) | refine qe ?_ | refine qj ?_ | refine qk ?_ | refine qm ?_) <;> (try simp (disch := first | omega | simp) [qg, -qq, -qs, hlt3, h3])) | ((with_reducible refine sideT ?_ ?_); first | omega | assumption | (simp; done)) | (refine qf fun K hK => ?_) | (refine qa ?_) | refine ql ?_ | ((first | refine hK _ ?_ | (clear hK K; refine hK _ ?_) | (clear hK K; clear hK K; refine hK _ ?_)); clear hK K) | refine qd ?_)
        all_goals first | exact absurd (by assumption) h3 | skip
        refine qr hcl (fun j : Nat => [(1, .sl (cols.map AV.int)), (2, .ptr n0 0), (7, .own (n0 + 1) types.length), (8, .int k), (9, .ptr (n0 + 2) 0), (10, .own (n0 + 3) L.length), (12, .int j)])
          (fun j => [.cells [.sl (ins.map Ins.av), .sl (types.map AV.int), .int out] 25, .vec (D.map AV.bool) 4 1, .cells [.int ins[k].op, .int ins[k].tgt, .int ins[k].a, .int ins[k].b, .int ins[k].c, .int ins[k].n, .str ins[k].s] 32, .vec (L.map AV.int) 3 1])
          (fun j => 1 ≤ j ∧ j ≤ L.length ∧ ∀ i (h : i < L.length), 1 ≤ i → i < j → D.getD L[i].toNat false = true) (fun j => L.length - j) 1 ⟨by omega, by omega, fun i h h1 h2 => by omega⟩ (by first | (simp; done) | simp [h3]) fun j ⟨hj1, hj, hdj⟩ => ?_
        by_cases hlt4 : j < L.length
        · obtain ⟨q0, q1⟩ := hin L[j] (List.getElem_mem _)
          have hgd : D.getD L[j].toNat false = D[L[j].toNat]'(by omega) := by rw [List.getD_eq_getElem?_getD, List.getElem?_eq_getElem (by omega)]; rfl
          have hmo : L[j] ∈ ops := by
            obtain ⟨j', rfl⟩ : ∃ j', j = j' + 1 := ⟨j - 1, by omega⟩
            simp only [hL, List.getElem_cons_succ]
            exact List.getElem_mem _
          cases hd : D[L[j].toNat]'(by omega)
          · have hr := hret 25 (by rw [if_pos (List.any_eq_true.2 ⟨L[j], hmo, by rw [hgd, hd]; rfl⟩)]) (by omega)
            repeat' (first | ((first | ((with_reducible refine qo (fun hg => ?_) (fun hg => ?_)) <;> (try simp only [hg]) <;> (try simp only [gS] at hg) <;> (try (first | simp only [eq_false hg, gI] | simp only [eq_true hg, gI]))) | (with_reducible first | refine qc ?_ | refine qb ?_ | refine qi ?_ | refine qh ?_) | refine qe ?_ | refine qj ?_ | refine qk ?_ | refine qm ?_) <;> (try simp (disch := first | omega | simp) [qg, -qq, -qs, hlt4, q0, q1, hD, hd])) | ((with_reducible refine sideT ?_ ?_); first | omega | assumption | (simp; done)) | (refine qf fun K hK => ?_) | (refine qa ?_) | refine ql ?_ | ((first | refine hK _ ?_ | (clear hK K; refine hK _ ?_) | (clear hK K; clear hK K; refine hK _ ?_)); clear hK K) | refine qd ?_)
            all_goals (rw [hr]; simp)
          · repeat' (first | ((first | ((with_reducible refine qo (fun hg => ?_) (fun hg => ?_)) <;> (try simp only [hg]) <;> (try simp only [gS] at hg) <;> (try (first | simp only [eq_false hg, gI] | simp only [eq_true hg, gI]))) | (with_reducible first | refine qc ?_ | refine qb ?_ | refine qi ?_ | refine qh ?_) | refine qe ?_ | refine qj ?_ | refine qk ?_ | refine qm ?_) <;> (try simp (disch := first | omega | simp) [qg, -qq, -qs, hlt4, q0, q1, hD, hd])) | ((with_reducible refine sideT ?_ ?_); first | omega | assumption | (simp; done)) | (refine qf fun K hK => ?_) | (refine qa ?_) | refine ql ?_ | ((first | refine hK _ ?_ | (clear hK K; refine hK _ ?_) | (clear hK K; clear hK K; refine hK _ ?_)); clear hK K) | refine qd ?_)
            exact ⟨j + 1, ⟨by omega, by omega, fun i hi h1 hij => by
              by_cases hij2 : i = j
              · subst hij2; first | rw [hgd, hd] | (rw [← List.getD_eq_getElem?_getD, hgd, hd])
              · exact hdj i hi h1 (by omega)⟩, by omega, by omega⟩
        have hnd : (ops.any fun r => !D.getD r.toNat false) = false := by
          rw [List.any_eq_false]
          intro r hr
          obtain ⟨i, hi, rfl⟩ := List.mem_iff_getElem.1 hr
          have h5 : L[i + 1]'(by omega) = ops[i] := by simp only [hL, List.getElem_cons_succ]
          have := hdj (i + 1) (by omega) (by omega) (by omega)
          rw [h5] at this
          rw [this]; simp
        rw [hnd, if_neg (by simp)] at hret hgo
        have t0 := hx0.1
        have t1 := hx0.2
        have hgt : types.getD ins[k].tgt.toNat 0 = types[ins[k].tgt.toNat]'(by omega) := by rw [List.getD_eq_getElem?_getD, List.getElem?_eq_getElem (by omega)]; rfl
        rw [hgt] at hret hgo
        generalize tyI cols types ins[k] = T at *
        cases T with
        | none =>
          have hr := hret 13 (by simp) (by omega)
          repeat' (first | ((first | ((with_reducible refine qo (fun hg => ?_) (fun hg => ?_)) <;> (try simp only [hg]) <;> (try simp only [gS] at hg) <;> (try (first | simp only [eq_false hg, gI] | simp only [eq_true hg, gI]))) | (with_reducible first | refine qc ?_ | refine qb ?_ | refine qi ?_ | refine qh ?_) | refine acall (c3) ?_ | refine qp (c3) ?_ | refine qe ?_ | refine qj ?_ | refine qk ?_ | refine qm ?_) <;> (try simp (disch := first | omega | simp) [qg, -qq, -qs, hlt4, t0, t1])) | ((with_reducible refine sideT ?_ ?_); first | omega | assumption | (simp; done)) | (refine qf fun K hK => ?_) | (refine qa ?_) | refine ql ?_ | ((first | refine hK _ ?_ | (clear hK K; refine hK _ ?_) | (clear hK K; clear hK K; refine hK _ ?_)); clear hK K) | refine qd ?_)
          all_goals (rw [hr]; simp)
        | some t =>
          by_cases htt : t = types[ins[k].tgt.toNat]'(by omega)
          · have hg2 := hgo (by rw [if_pos (by rw [htt])])
            have htt2 := htt.symm
            have hgo1 : ∃ a b, (a ≤ ins.length ∧ b.length = types.length ∧ V = verL cols types (ins.drop a) a b) ∧ ins.length - a < ins.length - k ∧ (D.map AV.bool).set ins[k].tgt.toNat (AV.bool true) = b.map AV.bool ∧ (k : Int) + 1 = (a : Nat) :=
              ⟨k + 1, D.set ins[k].tgt.toNat true, ⟨by omega, by rw [List.length_set]; exact hD, hg2⟩, by omega, by rw [List.map_set], by omega⟩
            repeat' (first | ((first | ((with_reducible refine qo (fun hg => ?_) (fun hg => ?_)) <;> (try simp only [hg]) <;> (try simp only [gS] at hg) <;> (try (first | simp only [eq_false hg, gI] | simp only [eq_true hg, gI]))) | (with_reducible first | refine qc ?_ | refine qb ?_ | refine qi ?_ | refine qh ?_) | refine acall (c3) ?_ | refine qp (c3) ?_ | refine qe ?_ | refine qj ?_ | refine qk ?_ | refine qm ?_) <;> (try simp (disch := first | omega | simp) [qg, -qq, -qs, hlt4, t0, t1, htt, hD])) | ((with_reducible refine sideT ?_ ?_); first | omega | assumption | (simp; done)) | (refine qf fun K hK => ?_) | (refine qa ?_) | refine ql ?_ | ((first | refine hK _ ?_ | (clear hK K; refine hK _ ?_) | (clear hK K; clear hK K; refine hK _ ?_)); clear hK K) | refine qd ?_)
            all_goals first | exact absurd rfl (by assumption) | exact hgo1
          · have hr := hret 13 (by rw [if_neg (fun e => htt (by injection e))]) (by omega)
            repeat' (first | ((first | ((with_reducible refine qo (fun hg => ?_) (fun hg => ?_)) <;> (try simp only [hg]) <;> (try simp only [gS] at hg) <;> (try (first | simp only [eq_false hg, gI] | simp only [eq_true hg, gI]))) | (with_reducible first | refine qc ?_ | refine qb ?_ | refine qi ?_ | refine qh ?_) | refine acall (c3) ?_ | refine qp (c3) ?_ | refine qe ?_ | refine qj ?_ | refine qk ?_ | refine qm ?_) <;> (try simp (disch := first | omega | simp) [qg, -qq, -qs, hlt4, t0, t1, htt])) | ((with_reducible refine sideT ?_ ?_); first | omega | assumption | (simp; done)) | (refine qf fun K hK => ?_) | (refine qa ?_) | refine ql ?_ | ((first | refine hK _ ?_ | (clear hK K; refine hK _ ?_) | (clear hK K; clear hK K; refine hK _ ?_)); clear hK K) | refine qd ?_)
            all_goals first | exact absurd (by assumption) htt | (rw [hr]; simp)
    · have hVe : V = ((-1, 0), D) := by rw [hVk, List.drop_eq_nil_of_le (by omega)]; rfl
      rw [hVe] at hR
      try dsimp only at hR
      rw [if_neg (by simp)] at hR
      have hD' : types.length = D.length := hD.symm
      by_cases ho : out < 0 ∨ (types.length : Int) ≤ out
      · rw [if_pos ho] at hR
        repeat' (first | ((first | ((with_reducible refine qo (fun hg => ?_) (fun hg => ?_)) <;> (try simp only [hg]) <;> (try simp only [gS] at hg) <;> (try (first | simp only [eq_false hg, gI] | simp only [eq_true hg, gI]))) | (with_reducible first | refine qc ?_ | refine qb ?_ | refine qi ?_ | refine qh ?_) | refine qe ?_ | refine qj ?_ | refine qk ?_ | refine qm ?_) <;> (try simp (disch := first | omega | simp) [qg, -qq, -qs, hlt2, hD'])) | ((with_reducible refine sideT ?_ ?_); first | omega | assumption | (simp; done)) | (refine qf fun K hK => ?_) | (refine qa ?_) | refine ql ?_ | ((first | refine hK _ ?_ | (clear hK K; refine hK _ ?_) | (clear hK K; clear hK K; refine hK _ ?_)); clear hK K) | refine qd ?_)
        all_goals
          first
          | (rw [hR]; exact ⟨rfl, rfl⟩)
          | (exfalso; omega)
      · rw [if_neg ho] at hR
        have o0 : ¬ out < 0 := by omega
        have o0' : 0 ≤ out := by omega
        have o1 : ¬ (types.length : Int) ≤ out := by omega
        have o2 : out < types.length := by omega
        have o3 : out < D.length := by omega
        have hgd : D.getD out.toNat false = D[out.toNat]'(by omega) := by rw [List.getD_eq_getElem?_getD, List.getElem?_eq_getElem (by omega)]; rfl
        rw [hgd] at hR
        cases hdo : D[out.toNat]'(by omega)
        · rw [hdo, if_pos rfl] at hR
          repeat' (first | ((first | ((with_reducible refine qo (fun hg => ?_) (fun hg => ?_)) <;> (try simp only [hg]) <;> (try simp only [gS] at hg) <;> (try (first | simp only [eq_false hg, gI] | simp only [eq_true hg, gI]))) | (with_reducible first | refine qc ?_ | refine qb ?_ | refine qi ?_ | refine qh ?_) | refine qe ?_ | refine qj ?_ | refine qk ?_ | refine qm ?_) <;> (try simp (disch := first | omega | simp) [qg, -qq, -qs, hlt2, o0, o0', o1, o2, o3, hD, hdo])) | ((with_reducible refine sideT ?_ ?_); first | omega | assumption | (simp; done)) | (refine qf fun K hK => ?_) | (refine qa ?_) | refine ql ?_ | ((first | refine hK _ ?_ | (clear hK K; refine hK _ ?_) | (clear hK K; clear hK K; refine hK _ ?_)); clear hK K) | refine qd ?_)
          all_goals (rw [hR]; simp)
        · rw [hdo, if_neg (by simp)] at hR
          repeat' (first | ((first | ((with_reducible refine qo (fun hg => ?_) (fun hg => ?_)) <;> (try simp only [hg]) <;> (try simp only [gS] at hg) <;> (try (first | simp only [eq_false hg, gI] | simp only [eq_true hg, gI]))) | (with_reducible first | refine qc ?_ | refine qb ?_ | refine qi ?_ | refine qh ?_) | refine qe ?_ | refine qj ?_ | refine qk ?_ | refine qm ?_) <;> (try simp (disch := first | omega | simp) [qg, -qq, -qs, hlt2, o0, o0', o1, o2, o3, hD, hdo])) | ((with_reducible refine sideT ?_ ?_); first | omega | assumption | (simp; done)) | (refine qf fun K hK => ?_) | (refine qa ?_) | refine ql ?_ | ((first | refine hK _ ?_ | (clear hK K; refine hK _ ?_) | (clear hK K; clear hK K; refine hK _ ?_)); clear hK K) | refine qd ?_)
          all_goals (rw [hR]; simp)
end Go.Proofs.YtgpcpmfdklpifaaGreatDoor

/- Layer 27 on plain data: batches that fit; the columns of a program. -/
namespace Go.Proofs.YtgpcpmfdklpifaaGreatDoor
open Go.RowKit Go.Lib
theorem rightV_sound {v : Val} (h : qcx v = true) : qbf v := by
  rw [rightV_eq] at h
  unfold qbf okV
  by_cases h0 : v.k = 0
  · rw [if_pos h0] at h ⊢
    refine ⟨h, ?_⟩
    have h1 : v.s.toList = [] := by simpa using h
    have h2 : v.s.size = 0 := by rw [Lib.size_eq, ← ByteArray.toList_eq, h1]; rfl
    omega
  · rw [if_neg h0] at h ⊢
    by_cases h1 : v.k = 1
    · rw [if_pos h1] at h ⊢
      simp only [Bool.and_eq_true, decide_eq_true_eq] at h ⊢
      exact ⟨⟨h.1, by omega⟩, h.2⟩
    · rw [if_neg h1] at h ⊢
      refine ⟨h, ?_⟩
      simp only [Bool.and_eq_true, decide_eq_true_eq] at h
      have h2 : v.s.size = 0 := by rw [Lib.size_eq, ← ByteArray.toList_eq, h.2]; rfl
      omega
end Go.Proofs.YtgpcpmfdklpifaaGreatDoor

/- api.Delta as an abstract value. -/
namespace Go.Proofs.YtgpcpmfdklpifaaGreatDoor
open Go.RowKit Go.Lib
def Delta.av (x : Delta) : AV := .agg [.int x.time, .sl (x.row.map Val.av), .int x.n]
@[simp] theorem Delta.av_nt (x : Delta) : x.av.nt = true := rfl
@[simp] theorem Delta.av_sure (x : Delta) : x.av.sure = true := rfl
@[simp] theorem Delta.av_elem (x : Delta) : x.av.elem = true := rfl
@[simp] theorem Delta.av_width (x : Delta) : x.av.width = 3 := rfl
@[simp] theorem Delta.av_pub (x : Delta) : x.av.pub = x.av := by unfold Delta.av; rw [AV.pub]; simp only [AV.pubs_cons, AV.pubs_nil, AV.pub_v, pubV, AV.pub_sl]
@[simp] theorem Delta.av_cells (x : Delta) : x.av.cells = [.int x.time, .sl (x.row.map Val.av), .int x.n] := rfl
@[simp] theorem Delta.av_fold (x : Delta) : AV.agg [.int x.time, .sl (x.row.map Val.av), .int x.n] = x.av := rfl
@[simp] theorem Delta.av_val? (x : Delta) : x.av.val? = none := rfl
@[simp] theorem Delta.rd_all (x : Delta) (σ : Nat → AB) : rdAt σ true 3 (.ep x.av 0) = some x.av := rfl
@[simp] theorem Delta.rd_0 (x : Delta) (σ : Nat → AB) (n : Nat) : rdAt σ false n (.ep x.av 0) = some (.int x.time) := rfl
@[simp] theorem Delta.rd_1 (x : Delta) (σ : Nat → AB) (n : Nat) : rdAt σ false n (.ep x.av 1) = some (.sl (x.row.map Val.av)) := rfl
@[simp] theorem Delta.rd_2 (x : Delta) (σ : Nat → AB) (n : Nat) : rdAt σ false n (.ep x.av 2) = some (.int x.n) := rfl
@[simp] theorem Delta.av_cl (x : Delta) (m : Nat) : x.av.cl m := by unfold Delta.av; simp [-Delta.av_fold]
@[simp] theorem Delta.avs_cl (l : List Delta) (m : Nat) : AV.cls m (l.map Delta.av) := AV.cls_map (fun f => f.av_cl m) l
@[simp] theorem Delta.avs_wid (l : List Delta) : AV.wid (l.map Delta.av) 3 := AV.wid_map (f := Delta.av) (fun a => a.av_width) l
@[simp] theorem Delta.avs_elms (l : List Delta) : AV.elms (l.map Delta.av) := AV.elms_map (f := Delta.av) (fun a => a.av_elem) l
theorem Delta.d_av (x : Delta) : x.d.av = x.av := by
  simp only [Delta.d, Delta.av, D.av, D.cs, D.avs_map, List.map_map, List.nil_append, List.cons_append, List.append_nil]
  rw [show D.av ∘ Val.d = Val.av from funext Val.d_av]
  try rfl
theorem Delta.ds_av (l : List Delta) : (D.sl (l.map Delta.d)).av = .sl (l.map Delta.av) := by
  rw [D.av, D.avs_map, List.map_map]
  first
  | rfl
  | (congr 1; exact List.map_congr_left fun x _ => x.d_av)
theorem Delta.flat {w : World} {x : Delta} {cs : List Value} (h : Rd w Any x.d cs) : RR1 (St.flat w) x.av (.agg cs.toArray) := by
  have := qdg h
  rw [Delta.d_av, Delta.av, RC] at this
  exact ⟨cs, rfl, this⟩
theorem Delta.flats {w : World} {l : List Delta} {v : Value} (h : Rd w Any (.sl (l.map Delta.d)) [v]) : RR1 (St.flat w) (.sl (l.map Delta.av)) v := by
  have := qdg h
  rw [Delta.ds_av] at this
  exact this
end Go.Proofs.YtgpcpmfdklpifaaGreatDoor

/- Walks: the operations on two values, of the program. -/
namespace Go.Proofs.YtgpcpmfdklpifaaGreatDoor
open Go.RowKit Go.Lib
end Go.Proofs.YtgpcpmfdklpifaaGreatDoor

/- Walks of layer 27: what the instructions compute for one row. -/
namespace Go.Proofs.YtgpcpmfdklpifaaGreatDoor
open Go.RowKit Go.Lib
theorem hw64 (n : Int) : IntKind.i64.wrap n = wrap64 n := by rw [IntKind.wrap_i64]; unfold wrap64; rfl
theorem eqB_eqV (a b : Val) : Val.eqB a b = eqV a b := by
  rw [Bool.eq_iff_iff]
  simp [Val.eqB, eqV]
def Upto (σ τ : Nat → AB) : Prop := ∀ r, σ r ≠ .unborn → τ r = σ r
theorem Upto.at {σ τ : Nat → AB} (h : Upto σ τ) {r : Nat} {ab : AB} (hr : σ r = ab) (hn : ab ≠ .unborn) : τ r = ab := by rw [h r (by rw [hr]; exact hn), hr]
section
variable {x : Ins} {L : List Delta} {σ : Nat → AB} {a b c d m v n : Nat}
end
end Go.Proofs.YtgpcpmfdklpifaaGreatDoor

/- Walks of layer 16's reference: operations on values. -/
namespace Go.Proofs.YtgpcpmfdklpifaaGreatDoor
open Go.RowKit Go.Lib
def lessB (a b : Val) : Bool := if a.k = 1 then Op.bytesLess a.s.toList b.s.toList else decide (a.n < b.n)
theorem bytes_cmp : ∀ (x y : List UInt8), (compareBytes x y < 0 ↔ Op.bytesLess x y = true) ∧ (compareBytes x y ≤ 0 ↔ Op.bytesLess y x = false)
  | [], [] => by simp [compareBytes, Op.bytesLess]
  | [], _ :: _ => by simp [compareBytes, Op.bytesLess]
  | _ :: _, [] => by simp [compareBytes, Op.bytesLess]
  | a :: x, b :: y => by
    have ih := bytes_cmp x y
    simp only [compareBytes, Op.bytesLess, Bool.or_eq_true, Bool.and_eq_true, beq_iff_eq, decide_eq_true_eq, Bool.or_eq_false_iff, Bool.and_eq_false_iff, decide_eq_false_iff_not]
    by_cases h1 : a < b
    · have h2 : ¬ b < a := by intro h; exact absurd (UInt8.lt_trans h1 h) (UInt8.lt_irrefl a)
      have h3 : ¬ b = a := by rintro rfl; exact UInt8.lt_irrefl b h1
      rw [if_pos h1]
      simp [h1, h2, h3]
    · by_cases h2 : b < a
      · have h3 : ¬ a = b := by rintro rfl; exact UInt8.lt_irrefl a h2
        rw [if_neg h1, if_pos h2]
        simp [h1, h2, h3]
      · have h3 : a = b := by
          apply UInt8.toNat.inj
          rw [UInt8.lt_iff_toNat_lt] at h1 h2
          omega
        subst h3
        rw [if_neg h1, if_neg h1]
        simp [ih]
theorem orI_two (x : Int) : orI [0, 0, x] = x := by
  simp [orI]; omega
theorem compareInt_self (x : Int) : compareInt x x = 0 := by simp [compareInt]
theorem less_cmp {a b : Val} (ha : qbf a) (hb : qbf b) (hk : a.k = b.k) : (cmpV a b < 0 ↔ lessB a b = true) ∧ (cmpV a b ≤ 0 ↔ lessB b a = false) := by
  obtain ⟨k, n, s⟩ := a
  obtain ⟨k2, n2, s2⟩ := b
  simp only at hk
  subst hk
  obtain ⟨ha, -⟩ := ha
  obtain ⟨hb, -⟩ := hb
  unfold okV at ha hb
  simp only at ha hb
  unfold cmpV lessB
  simp only [compareInt_self]
  by_cases h1 : k = 1
  · subst h1
    simp at ha hb
    rw [ha.1, hb.1, compareInt_self, orI_two]
    simp only [if_true, toList_data]
    exact bytes_cmp _ _
  · rw [if_neg h1, if_neg h1]
    have hs : s.toList = [] := by
      by_cases h0 : k = 0
      · rw [if_pos h0] at ha; simpa using ha
      · rw [if_neg h0, if_neg h1] at ha; simp at ha; exact ha.2
    have hs2 : s2.toList = [] := by
      by_cases h0 : k = 0
      · rw [if_pos h0] at hb; simpa using hb
      · rw [if_neg h0, if_neg h1] at hb; simp at hb; exact hb.2
    rw [toList_data] at hs hs2
    rw [hs, hs2]
    have : orI [0, compareInt n n2, compareBytes [] []] = compareInt n n2 := by
      simp only [compareBytes, orI]; simp; intro h; exact h.symm
    rw [this]
    unfold compareInt
    simp only [decide_eq_true_eq, decide_eq_false_iff_not]
    constructor
    · split
      · simp; omega
      · split <;> simp <;> omega
    · split
      · simp; omega
      · split <;> simp <;> omega
theorem rtruth_g (b : Bool) : Gives Tryz.prog 108 [.bool b] (boolV b).av := by
  cases b
  · refine qn Tryz.func108 Tryz.ntmps108 rfl rfl (by decide) rfl (by intro n; simp) fun σ n0 hcl hft => ?_
    repeat' (first | ((first | ((with_reducible refine qo (fun hg => ?_) (fun hg => ?_)) <;> (try simp only [hg]) <;> (try simp only [gS] at hg) <;> (try (first | simp only [eq_false hg, gI] | simp only [eq_true hg, gI]))) | (with_reducible first | refine qc ?_ | refine qb ?_ | refine qi ?_ | refine qh ?_) | refine qe ?_ | refine qj ?_ | refine qk ?_ | refine qm ?_) <;> (try simp (disch := first | omega | simp) [qg, -qq, -qs])) | ((with_reducible refine sideT ?_ ?_); first | omega | assumption | (simp; done)) | (refine qf fun K hK => ?_) | (refine qa ?_) | refine ql ?_ | ((first | refine hK _ ?_ | (clear hK K; refine hK _ ?_) | (clear hK K; clear hK K; refine hK _ ?_)); clear hK K) | refine qd ?_)
    rfl
  · refine qn Tryz.func108 Tryz.ntmps108 rfl rfl (by decide) rfl (by intro n; simp) fun σ n0 hcl hft => ?_
    repeat' (first | ((first | ((with_reducible refine qo (fun hg => ?_) (fun hg => ?_)) <;> (try simp only [hg]) <;> (try simp only [gS] at hg) <;> (try (first | simp only [eq_false hg, gI] | simp only [eq_true hg, gI]))) | (with_reducible first | refine qc ?_ | refine qb ?_ | refine qi ?_ | refine qh ?_) | refine qe ?_ | refine qj ?_ | refine qk ?_ | refine qm ?_) <;> (try simp (disch := first | omega | simp) [qg, -qq, -qs])) | ((with_reducible refine sideT ?_ ?_); first | omega | assumption | (simp; done)) | (refine qf fun K hK => ?_) | (refine qa ?_) | refine ql ?_ | ((first | refine hK _ ?_ | (clear hK K; refine hK _ ?_) | (clear hK K; clear hK K; refine hK _ ?_)); clear hK K) | refine qd ?_)
    rfl
theorem rless_g (a b : Val) : Gives Tryz.prog 109 [a.av, b.av] (.bool (lessB a b)) := by
  unfold lessB
  obtain ⟨k, n, s⟩ := a
  obtain ⟨k2, n2, s2⟩ := b
  by_cases h : k = 1
  · subst h
    refine qn Tryz.func109 Tryz.ntmps109 rfl rfl (by decide) rfl (by intro n; simp) fun σ n0 hcl hft => ?_
    repeat' (first | ((first | ((with_reducible refine qo (fun hg => ?_) (fun hg => ?_)) <;> (try simp only [hg]) <;> (try simp only [gS] at hg) <;> (try (first | simp only [eq_false hg, gI] | simp only [eq_true hg, gI]))) | (with_reducible first | refine qc ?_ | refine qb ?_ | refine qi ?_ | refine qh ?_) | refine qe ?_ | refine qj ?_ | refine qk ?_ | refine qm ?_) <;> (try simp (disch := first | omega | simp) [qg, -qq, -qs])) | ((with_reducible refine sideT ?_ ?_); first | omega | assumption | (simp; done)) | (refine qf fun K hK => ?_) | (refine qa ?_) | refine ql ?_ | ((first | refine hK _ ?_ | (clear hK K; refine hK _ ?_) | (clear hK K; clear hK K; refine hK _ ?_)); clear hK K) | refine qd ?_)
    all_goals first | rfl | simp
  · refine qn Tryz.func109 Tryz.ntmps109 rfl rfl (by decide) rfl (by intro n; simp) fun σ n0 hcl hft => ?_
    repeat' (first | ((first | ((with_reducible refine qo (fun hg => ?_) (fun hg => ?_)) <;> (try simp only [hg]) <;> (try simp only [gS] at hg) <;> (try (first | simp only [eq_false hg, gI] | simp only [eq_true hg, gI]))) | (with_reducible first | refine qc ?_ | refine qb ?_ | refine qi ?_ | refine qh ?_) | refine qe ?_ | refine qj ?_ | refine qk ?_ | refine qm ?_) <;> (try simp (disch := first | omega | simp) [qg, -qq, -qs, h])) | ((with_reducible refine sideT ?_ ?_); first | omega | assumption | (simp; done)) | (refine qf fun K hK => ?_) | (refine qa ?_) | refine ql ?_ | ((first | refine hK _ ?_ | (clear hK K; refine hK _ ?_) | (clear hK K; clear hK K; refine hK _ ?_)); clear hK K) | refine qd ?_)
    all_goals first | exact absurd (by assumption) h | simp_all
section
variable (call : Int → List Val → Val) (time : Int) (row params : List Val)
set_option maxHeartbeats 4000000 in
theorem rap0_g {op n : Int} {s : ByteArray} {l : List Ex} (hop : op = 0 ∨ op = 1 ∨ op = 2) (vs : List Val) : Gives Tryz.prog 74 [(Ex.mk op n s l).av, .sl (vs.map Val.av)] (opV call time row params op n s vs).av := by
  rw [Ex.av_mk]
  rcases hop with rfl | rfl | rfl
  all_goals
    refine qn Tryz.func74 Tryz.ntmps74 rfl rfl (by decide) rfl (by intro n; simp) fun σ n0 hcl hft => ?_
    repeat' (first | ((first | ((with_reducible refine qo (fun hg => ?_) (fun hg => ?_)) <;> (try simp only [hg]) <;> (try simp only [gS] at hg) <;> (try (first | simp only [eq_false hg, gI] | simp only [eq_true hg, gI]))) | (with_reducible first | refine qc ?_ | refine qb ?_ | refine qi ?_ | refine qh ?_) | refine acall (rtruth_g _) ?_ | refine qp (rtruth_g _) ?_ | refine qe ?_ | refine qj ?_ | refine qk ?_ | refine qm ?_) <;> (try simp (disch := first | omega | simp) [qg, -qq, -qs])) | ((with_reducible refine sideT ?_ ?_); first | omega | assumption | (simp; done)) | (refine qf fun K hK => ?_) | (refine qa ?_) | refine ql ?_ | ((first | refine hK _ ?_ | (clear hK K; refine hK _ ?_) | (clear hK K; clear hK K; refine hK _ ?_)); clear hK K) | refine qd ?_)
    all_goals simp [opV, numV, boolV, textV, Val.av, -Val.av_fold]
set_option maxHeartbeats 4000000 in
theorem rap1_g {op n : Int} {s : ByteArray} {l : List Ex} (hop : op = 6 ∨ op = 7 ∨ op = 20) (a : Val) : Gives Tryz.prog 74 [(Ex.mk op n s l).av, .sl [a.av]] (opV call time row params op n s [a]).av := by
  rw [Ex.av_mk]
  rcases hop with rfl | rfl | rfl
  all_goals
    refine qn Tryz.func74 Tryz.ntmps74 rfl rfl (by decide) rfl (by intro n; simp) fun σ n0 hcl hft => ?_
    repeat' (first | ((first | ((with_reducible refine qo (fun hg => ?_) (fun hg => ?_)) <;> (try simp only [hg]) <;> (try simp only [gS] at hg) <;> (try (first | simp only [eq_false hg, gI] | simp only [eq_true hg, gI]))) | (with_reducible first | refine qc ?_ | refine qb ?_ | refine qi ?_ | refine qh ?_) | refine acall (rtruth_g _) ?_ | refine qp (rtruth_g _) ?_ | refine qe ?_ | refine qj ?_ | refine qk ?_ | refine qm ?_) <;> (try simp (disch := first | omega | simp) [qg, -qq, -qs])) | ((with_reducible refine sideT ?_ ?_); first | omega | assumption | (simp; done)) | (refine qf fun K hK => ?_) | (refine qa ?_) | refine ql ?_ | ((first | refine hK _ ?_ | (clear hK K; refine hK _ ?_) | (clear hK K; clear hK K; refine hK _ ?_)); clear hK K) | refine qd ?_)
    all_goals simp [opV, numV, boolV, textV, Val.av, hw64, -Val.av_fold]
set_option maxHeartbeats 8000000 in
theorem rap2_g {op n : Int} {s : ByteArray} {l : List Ex} (hop : 8 ≤ op ∧ op ≤ 19) (a b : Val) (hc : op = 15 ∨ op = 16 → (cmpV a b < 0 ↔ lessB a b = true) ∧ (cmpV a b ≤ 0 ↔ lessB b a = false)) (hs : a.s.size + b.s.size ≤ 1000) :
    Gives Tryz.prog 74 [(Ex.mk op n s l).av, .sl [a.av, b.av]] (opV call time row params op n s [a, b]).av := by
  rw [Ex.av_mk]
  obtain ⟨R, hR⟩ : ∃ R, R = opV call time row params op n s [a, b] := ⟨_, rfl⟩
  rw [← hR]
  unfold opV at hR
  rw [if_neg (by omega), if_neg (by omega), if_neg (by omega), if_neg (by omega), if_neg (by omega), if_neg (by omega), if_neg (by omega), if_neg (by omega), if_neg (by omega), if_neg (by omega)] at hR
  rw [show [a, b].getD 0 zeroV = a from rfl, show [a, b].getD 1 zeroV = b from rfl] at hR
  unfold binV divI modI at hR
  have hop' : op = 8 ∨ op = 9 ∨ op = 10 ∨ op = 11 ∨ op = 12 ∨ op = 13 ∨ op = 14 ∨ op = 15 ∨ op = 16 ∨ op = 17 ∨ op = 18 ∨ op = 19 := by omega
  have hsz : a.s.size + b.s.size ≤ 9223372036854775807 := by omega
  have hM : (if (200 : Int) < (a.s.size : Int) + (b.s.size : Int) then 200 else (a.s.size : Int) + (b.s.size : Int)) = ((min (a.s.size + b.s.size) 200 : Nat) : Int) := by split <;> omega
  have hM2 : min (a.s.size + b.s.size) 200 ≤ a.s.size + b.s.size := by omega
  have hJ : joinS a.s b.s = (a.s ++ b.s).extract 0 (min (a.s.size + b.s.size) 200) := rfl
  generalize hMM : min (a.s.size + b.s.size) 200 = M at *
  rcases hop' with rfl | rfl | rfl | rfl | rfl | rfl | rfl | rfl | rfl | rfl | rfl | rfl
  all_goals
    refine qn Tryz.func74 Tryz.ntmps74 rfl rfl (by decide) rfl (by intro n; simp) fun σ n0 hcl hft => ?_
    repeat' (first | ((first | ((with_reducible refine qo (fun hg => ?_) (fun hg => ?_)) <;> (try simp only [hg]) <;> (try simp only [gS] at hg) <;> (try (first | simp only [eq_false hg, gI] | simp only [eq_true hg, gI]))) | (with_reducible first | refine qc ?_ | refine qb ?_ | refine qi ?_ | refine qh ?_) | refine acall (rtruth_g _) ?_ | refine qp (rtruth_g _) ?_ | refine acall (rless_g _ _) ?_ | refine qp (rless_g _ _) ?_ | refine qe ?_ | refine qj ?_ | refine qk ?_ | refine qm ?_) <;> (try simp (disch := first | omega | simp) [qg, -qq, -qs, hsz, hM, hM2])) | ((with_reducible refine sideT ?_ ?_); first | omega | assumption | (simp; done)) | (refine qf fun K hK => ?_) | (refine qa ?_) | refine ql ?_ | ((first | refine hK _ ?_ | (clear hK K; refine hK _ ?_) | (clear hK K; clear hK K; refine hK _ ?_)); clear hK K) | refine qd ?_)
    all_goals first | (rw [hR]; simp_all [Val.av, numV, boolV, textV, hw64, eqB_eqV, -Val.av_fold]; done)
end
end Go.Proofs.YtgpcpmfdklpifaaGreatDoor
