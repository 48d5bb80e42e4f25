/- Walk of layer 25: the error of an instruction. -/
import Derived.Test.YtnkimlkoijfcpaaGreatDoorGf5
import Derived.Test.YtnkimlkoijfcpaaGreatDoorGf15
import Derived.Test.YtnkimlkoijfcpaaGreatDoorGf16
import Derived.Test.YtnkimlkoijfcpaaGreatDoorGf18
import Derived.Test.YtnkimlkoijfcpaaGreatDoorGf21
import Derived.Test.YtnkimlkoijfcpaaGreatDoorGf27
set_option linter.unusedSimpArgs false
set_option linter.unusedVariables false
namespace Go.Proofs.YtnkimlkoijfcpaaGreatDoor
open Go.RowKit Go.Lib
set_option maxHeartbeats 4000000 in
theorem ver_g (x : Ins) (cols types : List Int) (done : List Bool) (hdl : done.length = types.length) (ht : types.length ≤ 1000) (hc : cols.length ≤ 1000000) (σ : Nat → AB) (d : Nat) (hd : σ d = .vec (done.map AV.bool) 4 1) :
    qbh Tryz.prog 131 [x.av, .sl (cols.map AV.int), .sl (types.map AV.int), .own d done.length] σ (.int (verI cols types done x)) := by
  have c0 := formed_g x
  have c1 := ops_g x
  obtain ⟨R, hR⟩ : ∃ R, R = verI cols types done x := ⟨_, rfl⟩
  rw [← hR]
  unfold verI at hR
  cases hf : qbj x
  · rw [hf] at c0 hR
    refine qw Tryz.func131 Tryz.ntmps131 rfl rfl (by decide) rfl (by intro n; simp) fun n0 hfin hcl hft => ?_
    have hrn := qcs hfin hd (by simp)
    repeat' (first | ((first | ((with_reducible refine qo (fun hg => ?_) (fun hg => ?_)) <;> (try simp only [hg]) <;> (try simp only [gS] at hg) <;> (try (first | simp only [eq_false hg, gI] | simp only [eq_true hg, gI]))) | (with_reducible first | refine qg ?_ | refine qf ?_ | refine ql ?_ | refine qk ?_) | refine acall (c0) ?_ | refine qp (c0) ?_ | refine qr (c0) ?_ | refine qd ?_ | refine qi ?_ | refine qj ?_ | refine qm ?_) <;> (try simp (disch := first | omega | simp) [qh, -qq, -qs, hrn])) | ((with_reducible refine sideT ?_ ?_); first | omega | assumption | (simp; done)) | (refine qe fun K hK => ?_) | (refine qa ?_) | (refine qb true (by kernel_rfl) (by kernel_rfl) ?_) | (refine qb false (by kernel_rfl) (by kernel_rfl) ?_) | (refine hK _ ?_; clear hK K) | (clear hK K; refine hK _ ?_; clear hK K) | (clear hK K; clear hK K; refine hK _ ?_; clear hK K) | refine qc ?_)
    rw [hR]; rfl
  rw [hf] at c0 hR
  rw [if_neg (by simp)] at hR
  have hol : (opsP x).length ≤ 3 := by
    have h1 := opsP_len x
    have h2 := arO_le x.op
    split at h1 <;> omega
  refine qw Tryz.func131 Tryz.ntmps131 rfl rfl (by decide) rfl (by intro n; simp) fun n0 hfin hcl hft => ?_
  have hrn := qcs hfin hd (by simp)
  have hloc := qbo hfin hd (by simp)
  have hsz : (1 + (opsP x).length) * 8 ≤ 140737488355328 := by omega
  have c2 : ∀ τ : Nat → AB, (∀ r ∈ opsP x, 0 ≤ r ∧ r < types.length) → τ (n0 + 1) = .cells [.own d done.length] 54 → τ d = .vec (done.map AV.bool) 4 1 →
      qbh Tryz.prog 88 [.sl ((opsP x).map AV.int), .fn 167 [.ptr (n0 + 1) 0]] τ (.bool ((opsP x).any fun r => !done.getD r.toNat false)) := fun τ hr h1 h2 =>
    contI_p (opsP x) _ _ (by kernel_rfl) (n0 + 1) τ h1 (fun r hm => bad_g done r (hr r hm).1 (by rw [hdl]; exact (hr r hm).2) τ (n0 + 1) d h1 h2) (by omega)
  have hpx : parts (exI x) ≤ 1000000 := by
    have h1 : ∀ l : List Int, qu (l.map qci) = l.length := fun l => by
      induction l with
      | nil => rfl
      | cons r l ih => rw [List.map_cons, qu, ih]; unfold qci; rw [parts, qu, List.length_cons]; omega
    unfold exI; rw [parts, h1]; omega
  have c3 : Gives Tryz.prog 9 [.sl [], .sl (cols.map AV.int), .sl (types.map AV.int), .agg [.int x.op, .int x.n, .str x.s, .sl ((opsP x).map fun r => (qci r).av)]] (.tup [.int ((tyI cols types x).getD 0), .bool (tyI cols types x).isSome]) := by
    have h1 := type_g [] cols types (exI x) hpx (by simp)
    unfold exI at h1
    rw [Ex.av_mk, List.map_map] at h1
    exact h1
  repeat' (first | ((first | ((with_reducible refine qo (fun hg => ?_) (fun hg => ?_)) <;> (try simp only [hg]) <;> (try simp only [gS] at hg) <;> (try (first | simp only [eq_false hg, gI] | simp only [eq_true hg, gI]))) | (with_reducible first | refine qg ?_ | refine qf ?_ | refine ql ?_ | refine qk ?_ | refine aseqZ_step ?_ | refine aseqZ_end ?_) | refine acall (c0) ?_ | refine qp (c0) ?_ | refine qr (c0) ?_ | refine acall (c1) ?_ | refine qp (c1) ?_ | refine qr (c1) ?_ | refine qd ?_ | refine qi ?_ | refine qj ?_ | refine qm ?_) <;> (try simp (disch := first | omega | simp) [qh, -qq, -qs, hrn, hloc, hsz])) | (with_reducible refine awp_regionZ (id := 4) ?_) | ((with_reducible refine sideT ?_ ?_); first | omega | assumption | (simp; done)) | (refine qe fun K hK => ?_) | (refine qa ?_) | (refine qb true (by kernel_rfl) (by kernel_rfl) ?_) | (refine qb false (by kernel_rfl) (by kernel_rfl) ?_) | (refine hK _ ?_; clear hK K) | (clear hK K; refine hK _ ?_; clear hK K) | (clear hK K; clear hK K; refine hK _ ?_; clear hK K) | refine qc ?_)
  obtain ⟨L, hL⟩ : ∃ L, L = x.to :: opsP x := ⟨_, rfl⟩
  have hLa : AV.int x.to :: (opsP x).map AV.int = L.map AV.int := by rw [hL]; rfl
  have hLl : (opsP x).length + 1 = L.length := by rw [hL]; rfl
  refine qt hcl (fun k : Nat => [(1, .sl (cols.map AV.int)), (2, .sl (types.map AV.int)), (4, .ptr n0 0), (7, .ptr (n0 + 1) 0), (9, .sl ((opsP x).map AV.int)), (26, .gs (n0 + 3) (L.map AV.int)), (27, .int L.length), (28, .int k)])
    (fun _ => [.cells [.int x.op, .int x.to, .int x.a, .int x.b, .int x.c, .int x.n, .str x.s] 78, .cells [.own d done.length] 54, .dead, .tail (1 + (opsP x).length) 3 1])
    (fun k => k ≤ L.length ∧ ∀ j (h : j < L.length), j < k → offR types L[j] = false) (fun k => L.length - k) 0 (by simp) (by simp; exact ⟨by omega, hLa, by omega⟩) fun k ⟨hk, he⟩ => ?_
  by_cases hlt : k < L.length
  · have hbad : offR types L[k] = true → 3 = R := fun ho => by
      rw [hR, if_pos]
      rw [← hL]
      exact List.any_eq_true.2 ⟨L[k], List.getElem_mem _, ho⟩
    repeat' (first | ((first | ((with_reducible refine qo (fun hg => ?_) (fun hg => ?_)) <;> (try simp only [hg]) <;> (try simp only [gS] at hg) <;> (try (first | simp only [eq_false hg, gI] | simp only [eq_true hg, gI]))) | (with_reducible first | refine qg ?_ | refine qf ?_ | refine ql ?_ | refine qk ?_) | refine qd ?_ | refine qi ?_ | refine qj ?_ | refine qm ?_) <;> (try simp (disch := first | omega | simp) [qh, -qq, -qs, hrn, hlt])) | ((with_reducible refine sideT ?_ ?_); first | omega | assumption | (simp; done)) | (refine qe fun K hK => ?_) | (refine qa ?_) | (refine qb true (by kernel_rfl) (by kernel_rfl) ?_) | (refine qb false (by kernel_rfl) (by kernel_rfl) ?_) | (refine hK _ ?_; clear hK K) | (clear hK K; refine hK _ ?_; clear hK K) | (clear hK K; clear hK K; refine hK _ ?_; clear hK K) | refine qc ?_)
    all_goals
      first
      | exact hbad (by unfold offR; simp; omega)
      | exact ⟨k + 1, ⟨by omega, qdd (C := fun r => offR types r = false) he fun _ => by unfold offR; simp; omega⟩, by omega, by simp; omega⟩
  have hall : ∀ r ∈ L, offR types r = false := fun r hr => by
    obtain ⟨j, hj, rfl⟩ := List.mem_iff_getElem.1 hr
    exact he j hj (by omega)
  have hin : ∀ r ∈ L, 0 ≤ r ∧ r < types.length := fun r hr => by
    have := hall r hr
    unfold offR at this
    simp at this; omega
  rw [if_neg (by rw [Bool.not_eq_true, ← hL, List.any_eq_false]; intro r hr; have := hall r hr; unfold offR at this; rw [this]; simp)] at hR
  have hx0 := hin x.to (by rw [hL]; simp)
  have hxs : ∀ r ∈ opsP x, 0 ≤ r ∧ r < types.length := fun r hr => hin r (by rw [hL]; simp [hr])
  have hdn : d < n0 + 4 := by omega
  have hex : ∀ r : Int, (AV.agg [.int 4, .int r, .str ByteArray.empty, .sl []]) = (qci r).av := fun r => by unfold qci; rw [Ex.av_mk]; rfl
  cases hany : (opsP x).any fun r => !done.getD r.toNat false
  · rw [hany] at c2 hR
    repeat' (first | ((first | ((with_reducible refine qo (fun hg => ?_) (fun hg => ?_)) <;> (try simp only [hg]) <;> (try simp only [gS] at hg) <;> (try (first | simp only [eq_false hg, gI] | simp only [eq_true hg, gI]))) | (with_reducible first | refine qg ?_ | refine qf ?_ | refine ql ?_ | refine qk ?_) | refine acall (c2 _ hxs (by simp) (hloc _)) ?_ | refine qp (c2 _ hxs (by simp) (hloc _)) ?_ | refine qr (c2 _ hxs (by simp) (hloc _)) ?_ | refine qd ?_ | refine qi ?_ | refine qj ?_ | refine qm ?_) <;> (try simp (disch := first | omega | simp) [qh, -qq, -qs, hrn, hlt, hdn])) | ((with_reducible refine sideT ?_ ?_); first | omega | assumption | (simp; done)) | (refine qe fun K hK => ?_) | (refine qa ?_) | (refine qb true (by kernel_rfl) (by kernel_rfl) ?_) | (refine qb false (by kernel_rfl) (by kernel_rfl) ?_) | (refine hK _ ?_; clear hK K) | (clear hK K; refine hK _ ?_; clear hK K) | (clear hK K; clear hK K; refine hK _ ?_; clear hK K) | refine qc ?_)
    any_goals (rw [hR, if_pos (by omega)]; done)
    all_goals
      have hncol : ¬ (x.op = 3 ∧ (x.n < 0 ∨ (cols.length : Int) ≤ x.n)) := by omega
      rw [if_neg hncol, if_neg (by simp)] at hR
      refine qcc 4 3 25 4 (by rfl) (by rfl) ?_
      refine qt hcl (fun k : Nat => [(1, .sl (cols.map AV.int)), (2, .sl (types.map AV.int)), (4, .ptr n0 0), (12, .ptr (n0 + 4) 0), (66, .sl ((opsP x).map AV.int)), (67, .int (opsP x).length), (68, .int k)])
        (fun k => [.cells [.int x.op, .int x.to, .int x.a, .int x.b, .int x.c, .int x.n, .str x.s] 78, .cells [.own d done.length] 54, .dead, .tail (1 + (opsP x).length) 3 1,
          .cells [.int x.op, .int x.n, .str x.s, .gs (n0 + 5) (((opsP x).take k).map fun r => (qci r).av)] 25, .tail k 25 4])
        (fun k => k ≤ (opsP x).length) (fun k => (opsP x).length - k) 0 (by simp) (by simp; omega) fun k hk2 => ?_
      by_cases hlt2 : k < (opsP x).length
      · have htk : ((opsP x).map fun r => (qci r).av).take (k + 1) = ((opsP x).map fun r => (qci r).av).take k ++ [(qci (opsP x)[k]).av] := by
          rw [List.take_succ_eq_append_getElem (by simpa using hlt2), List.getElem_map]
        have hsz2 : (k + 1) * 56 ≤ 140737488355328 := by omega
        repeat' (first | ((first | ((with_reducible refine qo (fun hg => ?_) (fun hg => ?_)) <;> (try simp only [hg]) <;> (try simp only [gS] at hg) <;> (try (first | simp only [eq_false hg, gI] | simp only [eq_true hg, gI]))) | (with_reducible first | refine qg ?_ | refine qf ?_ | refine ql ?_ | refine qk ?_) | refine qd ?_ | refine qi ?_ | refine qj ?_ | refine qm ?_) <;> (try simp (disch := first | omega | simp) [qh, -qq, -qs, hlt2, hex, hsz2, hdn])) | ((with_reducible refine sideT ?_ ?_); first | omega | assumption | (simp; done)) | (refine qe fun K hK => ?_) | (refine qa ?_) | (refine qb true (by kernel_rfl) (by kernel_rfl) ?_) | (refine qb false (by kernel_rfl) (by kernel_rfl) ?_) | (refine hK _ ?_; clear hK K) | (clear hK K; refine hK _ ?_; clear hK K) | (clear hK K; clear hK K; refine hK _ ?_; clear hK K) | refine qc ?_)
        exact ⟨k + 1, by omega, by omega, ⟨htk.symm, rfl⟩, by omega, by omega⟩
      · obtain rfl : k = (opsP x).length := by omega
        cases hT : tyI cols types x
        · rw [hT] at c3 hR
          repeat' (first | ((first | ((with_reducible refine qo (fun hg => ?_) (fun hg => ?_)) <;> (try simp only [hg]) <;> (try simp only [gS] at hg) <;> (try (first | simp only [eq_false hg, gI] | simp only [eq_true hg, gI]))) | (with_reducible first | refine qg ?_ | refine qf ?_ | refine ql ?_ | refine qk ?_) | refine acall (c3) ?_ | refine qp (c3) ?_ | refine qr (c3) ?_ | refine qd ?_ | refine qi ?_ | refine qj ?_ | refine qm ?_) <;> (try simp (disch := first | omega | simp) [qh, -qq, -qs, hlt2, hdn])) | ((with_reducible refine sideT ?_ ?_); first | omega | assumption | (simp; done)) | (refine qe fun K hK => ?_) | (refine qa ?_) | (refine qb true (by kernel_rfl) (by kernel_rfl) ?_) | (refine qb false (by kernel_rfl) (by kernel_rfl) ?_) | (refine hK _ ?_; clear hK K) | (clear hK K; refine hK _ ?_; clear hK K) | (clear hK K; clear hK K; refine hK _ ?_; clear hK K) | refine qc ?_)
          rw [hR]; simp
        · rename_i t
          have hgt : types.getD x.to.toNat 0 = types[x.to.toNat]'(by omega) := by rw [List.getD_eq_getElem?_getD, List.getElem?_eq_getElem (by omega)]; rfl
          rw [hT, hgt] at hR
          rw [hT] at c3
          repeat' (first | ((first | ((with_reducible refine qo (fun hg => ?_) (fun hg => ?_)) <;> (try simp only [hg]) <;> (try simp only [gS] at hg) <;> (try (first | simp only [eq_false hg, gI] | simp only [eq_true hg, gI]))) | (with_reducible first | refine qg ?_ | refine qf ?_ | refine ql ?_ | refine qk ?_) | refine acall (c3) ?_ | refine qp (c3) ?_ | refine qr (c3) ?_ | refine qd ?_ | refine qi ?_ | refine qj ?_ | refine qm ?_) <;> (try simp (disch := first | omega | simp) [qh, -qq, -qs, hlt2, hdn])) | ((with_reducible refine sideT ?_ ?_); first | omega | assumption | (simp; done)) | (refine qe fun K hK => ?_) | (refine qa ?_) | (refine qb true (by kernel_rfl) (by kernel_rfl) ?_) | (refine qb false (by kernel_rfl) (by kernel_rfl) ?_) | (refine hK _ ?_; clear hK K) | (clear hK K; refine hK _ ?_; clear hK K) | (clear hK K; clear hK K; refine hK _ ?_; clear hK K) | refine qc ?_)
          all_goals (rw [hR]; simp_all)
  · rw [hany] at c2 hR
    repeat' (first | ((first | ((with_reducible refine qo (fun hg => ?_) (fun hg => ?_)) <;> (try simp only [hg]) <;> (try simp only [gS] at hg) <;> (try (first | simp only [eq_false hg, gI] | simp only [eq_true hg, gI]))) | (with_reducible first | refine qg ?_ | refine qf ?_ | refine ql ?_ | refine qk ?_) | refine acall (c2 _ hxs (by simp) (hloc _)) ?_ | refine qp (c2 _ hxs (by simp) (hloc _)) ?_ | refine qr (c2 _ hxs (by simp) (hloc _)) ?_ | refine qd ?_ | refine qi ?_ | refine qj ?_ | refine qm ?_) <;> (try simp (disch := first | omega | simp) [qh, -qq, -qs, hrn, hlt, hdn])) | ((with_reducible refine sideT ?_ ?_); first | omega | assumption | (simp; done)) | (refine qe fun K hK => ?_) | (refine qa ?_) | (refine qb true (by kernel_rfl) (by kernel_rfl) ?_) | (refine qb false (by kernel_rfl) (by kernel_rfl) ?_) | (refine hK _ ?_; clear hK K) | (clear hK K; refine hK _ ?_; clear hK K) | (clear hK K; clear hK K; refine hK _ ?_; clear hK K) | refine qc ?_)
    all_goals first | (rw [hR, if_pos (by omega)]; done) | (rw [hR, if_neg (by omega), if_pos rfl]; done)
end Go.Proofs.YtnkimlkoijfcpaaGreatDoor

/- Walk of layer 25: Verify. -/
namespace Go.Proofs.YtnkimlkoijfcpaaGreatDoor
open Go.RowKit Go.Lib
theorem vkind_g (t : Int) : Gives Tryz.prog 130 [.int t] (.bool (decide (t < 0) || decide (3 ≤ t))) := by
  refine qn Tryz.func130 Tryz.ntmps130 rfl rfl (by decide) rfl (by intro n; simp) fun σ n0 hcl hft => ?_
  repeat' (first | ((first | ((with_reducible refine qo (fun hg => ?_) (fun hg => ?_)) <;> (try simp only [hg]) <;> (try simp only [gS] at hg) <;> (try (first | simp only [eq_false hg, gI] | simp only [eq_true hg, gI]))) | (with_reducible first | refine qg ?_ | refine qf ?_ | refine ql ?_ | refine qk ?_) | refine qd ?_ | refine qi ?_ | refine qj ?_ | refine qm ?_) <;> (try simp (disch := first | omega | simp) [qh, -qq, -qs])) | ((with_reducible refine sideT ?_ ?_); first | omega | assumption | (simp; done)) | (refine qe fun K hK => ?_) | (refine qa ?_) | (refine qb true (by kernel_rfl) (by kernel_rfl) ?_) | (refine hK _ ?_; clear hK K) | (clear hK K; refine hK _ ?_; clear hK K) | (clear hK K; clear hK K; refine hK _ ?_; clear hK K) | refine qc ?_)
  all_goals simp_all
  all_goals omega
set_option maxHeartbeats 4000000 in
theorem verify_g (c : Cod) (cols : List Int) (hc : cols.length ≤ 1000000) : Gives Tryz.prog 83 [c.av, .sl (cols.map AV.int)] (.tup [.int (verP c cols).1, .int (verP c cols).2]) := by
  obtain ⟨R, hR⟩ : ∃ R, R = verP c cols := ⟨_, rfl⟩
  rw [← hR]
  unfold verP at hR
  obtain ⟨ins, types, out⟩ := c
  simp only at hR
  by_cases h1 : 1000 < ins.length ∨ 1000 < types.length
  · rw [if_pos h1] at hR
    refine qn Tryz.func83 Tryz.ntmps83 rfl rfl (by decide) rfl (by intro n; simp) fun σ n0 hcl hft => ?_
    repeat' (first | ((first | ((with_reducible refine qo (fun hg => ?_) (fun hg => ?_)) <;> (try simp only [hg]) <;> (try simp only [gS] at hg) <;> (try (first | simp only [eq_false hg, gI] | simp only [eq_true hg, gI]))) | (with_reducible first | refine qg ?_ | refine qf ?_ | refine ql ?_ | refine qk ?_) | refine qd ?_ | refine qi ?_ | refine qj ?_ | refine qm ?_) <;> (try simp (disch := first | omega | simp) [qh, -qq, -qs])) | ((with_reducible refine sideT ?_ ?_); first | omega | assumption | (simp; done)) | (refine qe fun K hK => ?_) | (refine qa ?_) | (refine qb true (by kernel_rfl) (by kernel_rfl) ?_) | (refine hK _ ?_; clear hK K) | (clear hK K; refine hK _ ?_; clear hK K) | (clear hK K; clear hK K; refine hK _ ?_; clear hK K) | refine qc ?_)
    all_goals (rw [hR]; first | (simp; done) | omega)
  rw [if_neg h1] at hR
  have h1a : ¬ (1000 : Int) < ins.length := by omega
  have h1b : ¬ (1000 : Int) < types.length := by omega
  have c1 := contI_n types (fun t => decide (t < 0) || decide (3 ≤ t)) 130 (by kernel_rfl) (fun t _ => vkind_g t) (by omega)
  cases hk : types.any (fun t => decide (t < 0) || decide (3 ≤ t))
  · rw [hk] at c1 hR
    rw [if_neg (by simp)] at hR
    obtain ⟨V, hV⟩ : ∃ V, V = verL cols types ins 0 (List.replicate types.length false) := ⟨_, rfl⟩
    rw [← hV] at hR
    try dsimp only at hR
    have hsz : 1 * types.length ≤ 281474976710656 := by omega
    refine qn Tryz.func83 Tryz.ntmps83 rfl rfl (by decide) rfl (by intro n; simp) fun σ n0 hcl hft => ?_
    repeat' (first | ((first | ((with_reducible refine qo (fun hg => ?_) (fun hg => ?_)) <;> (try simp only [hg]) <;> (try simp only [gS] at hg) <;> (try (first | simp only [eq_false hg, gI] | simp only [eq_true hg, gI]))) | (with_reducible first | refine qg ?_ | refine qf ?_ | refine ql ?_ | refine qk ?_) | refine acall (c1) ?_ | refine qp (c1) ?_ | refine qd ?_ | refine qi ?_ | refine qj ?_ | refine qm ?_) <;> (try simp (disch := first | omega | simp) [qh, -qq, -qs, h1a, h1b, hsz])) | ((with_reducible refine sideT ?_ ?_); first | omega | assumption | (simp; done)) | (refine qe fun K hK => ?_) | (refine qa ?_) | (refine qb true (by kernel_rfl) (by kernel_rfl) ?_) | (refine hK _ ?_; clear hK K) | (clear hK K; refine hK _ ?_; clear hK K) | (clear hK K; clear hK K; refine hK _ ?_; clear hK K) | refine qc ?_)
    refine qt hcl (fun b : Nat × List Bool => [(1, .sl (cols.map AV.int)), (2, .ptr n0 0), (6, .own (n0 + 1) types.length), (28, .sl (ins.map Ins.av)), (29, .int ins.length), (30, .int b.1)])
      (fun b => [.cells [.sl (ins.map Ins.av), .sl (types.map AV.int), .int out] 45, .vec (b.2.map AV.bool) 4 1])
      (fun b => b.1 ≤ ins.length ∧ b.2.length = types.length ∧ V = verL cols types (ins.drop b.1) b.1 b.2) (fun b => ins.length - b.1) (0, List.replicate types.length false) ⟨by omega, by simp, hV⟩ (by simp) fun ⟨k, D⟩ ⟨hk1, hD, hVk⟩ => ?_
    simp only at hk1 hD hVk
    by_cases hlt : k < ins.length
    · have hdr : ins.drop k = ins[k] :: ins.drop (k + 1) := List.drop_eq_getElem_cons hlt
      rw [hdr, verL] at hVk
      have c2 : ∀ τ : Nat → AB, τ (n0 + 1) = .vec (D.map AV.bool) 4 1 → qbh Tryz.prog 131 [ins[k].av, .sl (cols.map AV.int), .sl (types.map AV.int), .own (n0 + 1) types.length] τ (.int (verI cols types D ins[k])) := fun τ h => by
        have := ver_g ins[k] cols types D hD (by omega) hc τ (n0 + 1) h
        rwa [hD] at this
      by_cases hv : verI cols types D ins[k] = 0
      · rw [if_pos hv] at hVk
        rw [hv] at c2
        have hok := verI_ok hv
        have t0 := hok.to0
        have t1 : ins[k].to < D.length := by rw [hD]; exact hok.to1
        repeat' (first | ((first | ((with_reducible refine qo (fun hg => ?_) (fun hg => ?_)) <;> (try simp only [hg]) <;> (try simp only [gS] at hg) <;> (try (first | simp only [eq_false hg, gI] | simp only [eq_true hg, gI]))) | (with_reducible first | refine qg ?_ | refine qf ?_ | refine ql ?_ | refine qk ?_) | refine acall (c2 _ (by simp)) ?_ | refine qp (c2 _ (by simp)) ?_ | refine qr (c2 _ (by simp)) ?_ | refine qd ?_ | refine qi ?_ | refine qj ?_ | refine qm ?_) <;> (try simp (disch := first | omega | simp) [qh, -qq, -qs, hlt, hD, t0, t1])) | ((with_reducible refine sideT ?_ ?_); first | omega | assumption | (simp; done)) | (refine qe fun K hK => ?_) | (refine qa ?_) | (refine qb true (by kernel_rfl) (by kernel_rfl) ?_) | (refine qb false (by kernel_rfl) (by kernel_rfl) ?_) | (refine hK _ ?_; clear hK K) | (clear hK K; refine hK _ ?_; clear hK K) | (clear hK K; clear hK K; refine hK _ ?_; clear hK K) | refine qc ?_)
        exact ⟨k + 1, D.set ins[k].to.toNat true, ⟨by omega, by rw [List.length_set]; exact hD, hVk⟩, by omega, by rw [List.map_set], by omega⟩
      · rw [if_neg hv] at hVk
        repeat' (first | ((first | ((with_reducible refine qo (fun hg => ?_) (fun hg => ?_)) <;> (try simp only [hg]) <;> (try simp only [gS] at hg) <;> (try (first | simp only [eq_false hg, gI] | simp only [eq_true hg, gI]))) | (with_reducible first | refine qg ?_ | refine qf ?_ | refine ql ?_ | refine qk ?_) | refine acall (c2 _ (by simp)) ?_ | refine qp (c2 _ (by simp)) ?_ | refine qr (c2 _ (by simp)) ?_ | refine qd ?_ | refine qi ?_ | refine qj ?_ | refine qm ?_) <;> (try simp (disch := first | omega | simp) [qh, -qq, -qs, hlt, hD, hv])) | ((with_reducible refine sideT ?_ ?_); first | omega | assumption | (simp; done)) | (refine qe fun K hK => ?_) | (refine qa ?_) | (refine qb true (by kernel_rfl) (by kernel_rfl) ?_) | (refine qb false (by kernel_rfl) (by kernel_rfl) ?_) | (refine hK _ ?_; clear hK K) | (clear hK K; refine hK _ ?_; clear hK K) | (clear hK K; clear hK K; refine hK _ ?_; clear hK K) | refine qc ?_)
        all_goals
          first
          | exact absurd (by assumption) hv
          | (rw [hR, hVk]; dsimp only; rw [if_pos hv]; exact ⟨rfl, rfl⟩)
    · have hVe : V = ((-1, 0), D) := by rw [hVk, List.drop_eq_nil_of_le (by omega)]; rfl
      rw [hVe] at hR
      dsimp only at hR
      rw [if_neg (by simp)] at hR
      have hD' : types.length = D.length := hD.symm
      by_cases ho : out < 0 ∨ (types.length : Int) ≤ out
      · rw [if_pos ho] at hR
        repeat' (first | ((first | ((with_reducible refine qo (fun hg => ?_) (fun hg => ?_)) <;> (try simp only [hg]) <;> (try simp only [gS] at hg) <;> (try (first | simp only [eq_false hg, gI] | simp only [eq_true hg, gI]))) | (with_reducible first | refine qg ?_ | refine qf ?_ | refine ql ?_ | refine qk ?_) | refine qd ?_ | refine qi ?_ | refine qj ?_ | refine qm ?_) <;> (try simp (disch := first | omega | simp) [qh, -qq, -qs, hlt, hD'])) | ((with_reducible refine sideT ?_ ?_); first | omega | assumption | (simp; done)) | (refine qe fun K hK => ?_) | (refine qa ?_) | (refine qb true (by kernel_rfl) (by kernel_rfl) ?_) | (refine hK _ ?_; clear hK K) | (clear hK K; refine hK _ ?_; clear hK K) | (clear hK K; clear hK K; refine hK _ ?_; clear hK K) | refine qc ?_)
        all_goals
          first
          | (rw [hR]; exact ⟨rfl, rfl⟩)
          | (exfalso; omega)
      · rw [if_neg ho] at hR
        have o0 : ¬ out < 0 := by omega
        have o0' : 0 ≤ out := by omega
        have o1 : ¬ (types.length : Int) ≤ out := by omega
        have o2 : out < types.length := by omega
        have o3 : out < D.length := by omega
        have hgd : D.getD out.toNat false = D[out.toNat]'(by omega) := by rw [List.getD_eq_getElem?_getD, List.getElem?_eq_getElem (by omega)]; rfl
        rw [hgd] at hR
        generalize hB : D[out.toNat]'(by omega) = B at hR
        cases B
        · repeat' (first | ((first | ((with_reducible refine qo (fun hg => ?_) (fun hg => ?_)) <;> (try simp only [hg]) <;> (try simp only [gS] at hg) <;> (try (first | simp only [eq_false hg, gI] | simp only [eq_true hg, gI]))) | (with_reducible first | refine qg ?_ | refine qf ?_ | refine ql ?_ | refine qk ?_) | refine qd ?_ | refine qi ?_ | refine qj ?_ | refine qm ?_) <;> (try simp (disch := first | omega | simp) [qh, -qq, -qs, hlt, hD, o0, o0', o1, o2, o3, hB])) | ((with_reducible refine sideT ?_ ?_); first | omega | assumption | (simp; done)) | (refine qe fun K hK => ?_) | (refine qa ?_) | (refine qb true (by kernel_rfl) (by kernel_rfl) ?_) | (refine qb false (by kernel_rfl) (by kernel_rfl) ?_) | (refine hK _ ?_; clear hK K) | (clear hK K; refine hK _ ?_; clear hK K) | (clear hK K; clear hK K; refine hK _ ?_; clear hK K) | refine qc ?_)
          rw [hR]; simp
        · repeat' (first | ((first | ((with_reducible refine qo (fun hg => ?_) (fun hg => ?_)) <;> (try simp only [hg]) <;> (try simp only [gS] at hg) <;> (try (first | simp only [eq_false hg, gI] | simp only [eq_true hg, gI]))) | (with_reducible first | refine qg ?_ | refine qf ?_ | refine ql ?_ | refine qk ?_) | refine qd ?_ | refine qi ?_ | refine qj ?_ | refine qm ?_) <;> (try simp (disch := first | omega | simp) [qh, -qq, -qs, hlt, hD, o0, o0', o1, o2, o3, hB])) | ((with_reducible refine sideT ?_ ?_); first | omega | assumption | (simp; done)) | (refine qe fun K hK => ?_) | (refine qa ?_) | (refine qb true (by kernel_rfl) (by kernel_rfl) ?_) | (refine qb false (by kernel_rfl) (by kernel_rfl) ?_) | (refine hK _ ?_; clear hK K) | (clear hK K; refine hK _ ?_; clear hK K) | (clear hK K; clear hK K; refine hK _ ?_; clear hK K) | refine qc ?_)
          rw [hR]; simp
  · rw [hk] at c1 hR
    rw [if_pos rfl] at hR
    refine qn Tryz.func83 Tryz.ntmps83 rfl rfl (by decide) rfl (by intro n; simp) fun σ n0 hcl hft => ?_
    repeat' (first | ((first | ((with_reducible refine qo (fun hg => ?_) (fun hg => ?_)) <;> (try simp only [hg]) <;> (try simp only [gS] at hg) <;> (try (first | simp only [eq_false hg, gI] | simp only [eq_true hg, gI]))) | (with_reducible first | refine qg ?_ | refine qf ?_ | refine ql ?_ | refine qk ?_) | refine acall (c1) ?_ | refine qp (c1) ?_ | refine qd ?_ | refine qi ?_ | refine qj ?_ | refine qm ?_) <;> (try simp (disch := first | omega | simp) [qh, -qq, -qs, h1a, h1b])) | ((with_reducible refine sideT ?_ ?_); first | omega | assumption | (simp; done)) | (refine qe fun K hK => ?_) | (refine qa ?_) | (refine qb true (by kernel_rfl) (by kernel_rfl) ?_) | (refine hK _ ?_; clear hK K) | (clear hK K; refine hK _ ?_; clear hK K) | (clear hK K; clear hK K; refine hK _ ?_; clear hK K) | refine qc ?_)
    all_goals (rw [hR]; first | (simp; done) | omega)
end Go.Proofs.YtnkimlkoijfcpaaGreatDoor

/- Layer 26: the value of a program that was compiled. -/
namespace Go.Proofs.YtnkimlkoijfcpaaGreatDoor
open Go.RowKit Go.Lib
theorem comp_val {F : List Fn} {cols : List Int} {e y : Ex} {t time : Int} {row : List Val} (hOk : ∀ i, i < F.length → okF F i = true) (ht : ty F cols [] e = some t) (hy : qcl F e = some y) (g1 : ty [] cols [] y = some t) (hk : row.map Val.k = cols) (hs : ∀ v ∈ row, qba v) :
    ev (fun _ _ => zeroV) time row [] (foldE y) = evalP F time row e := by
  subst hk
  rw [(fold_ok y g1).2 _ _ _ _ (snd_nil (qbn.of hs)), ← (inline_sem hOk hs ht hy).2]
  unfold evalP
  rw [callN_zero]
end Go.Proofs.YtnkimlkoijfcpaaGreatDoor

/- Walks of layer 27: what the instructions compute for one row. -/
namespace Go.Proofs.YtnkimlkoijfcpaaGreatDoor
open Go.RowKit Go.Lib
theorem vnum_g (n : Int) : Gives Tryz.prog 94 [.int n] (numV n).av := vint_g n
theorem vtxt_g (s : ByteArray) : Gives Tryz.prog 95 [.str s] (textV s).av := vtext_g s
theorem qeq (b : Bool) : Gives Tryz.prog 96 [.bool b] (boolV b).av := by
  cases b
  · exact vfalse_g
  · exact vtrue_g
theorem cmp_g (a b : Val) : Gives Tryz.prog 143 [a.av, b.av] (.int (cmpV a b)) := pcompare_g a b
theorem hw64 (n : Int) : IntKind.i64.wrap n = wrap64 n := by rw [IntKind.wrap_i64]; unfold wrap64; rfl
theorem eqB_eqV (a b : Val) : Val.eqB a b = eqV a b := by
  rw [Bool.eq_iff_iff]
  simp [Val.eqB, eqV]
def Upto (σ τ : Nat → AB) : Prop := ∀ r, σ r ≠ .unborn → τ r = σ r
theorem Upto.at {σ τ : Nat → AB} (h : Upto σ τ) {r : Nat} {ab : AB} (hr : σ r = ab) (hn : ab ≠ .unborn) : τ r = ab := by rw [h r (by rw [hr]; exact hn), hr]
theorem upto_loc {σ : Nat → AB} {n0 : Nat} (h : Fin σ n0) (L : List AB) : Upto σ (loc σ n0 L) := fun r hr => qea σ n0 r L (Nat.lt_of_not_le fun hn => hr (h r hn))
section
variable {x : Ins} {L : List Delta} {σ : Nat → AB} {a b c d m v n : Nat}
set_option maxHeartbeats 4000000 in
theorem source1_g (hb : σ b = .cells [.int x.op, .int x.to, .int x.a, .int x.b, .int x.c, .int x.n, .str x.s] 78) (ha : σ a = .cells [.ptr m 0] 164) (hm : σ m = .cells [.sl (L.map Delta.av), .own v n] 167) {i : Nat} (hi : i < L.length)
    (hop : x.op = 0 ∨ x.op = 1 ∨ x.op = 2 ∨ x.op = 3 ∨ x.op = 5) (hc : x.op = 3 → 0 ≤ x.n ∧ x.n < L[i].row.length) : qbh Tryz.prog 170 [.int i, .ptr b 0, .ptr a 0] σ (opI L[i].time L[i].row x []).av := by
  obtain ⟨R, hR⟩ : ∃ R, R = opI L[i].time L[i].row x [] := ⟨_, rfl⟩
  rw [← hR]
  unfold opI at hR
  rw [if_neg (by omega)] at hR
  unfold opV at hR
  refine qw Tryz.func170 Tryz.ntmps170 rfl rfl (by decide) rfl (by intro n; simp) fun n0 hfin hcl hft => ?_
  have hl1 := qbo hfin hb (by simp)
  have hl2 := qbo hfin ha (by simp)
  have hl3 := qbo hfin hm (by simp)
  repeat' (first | ((first | ((with_reducible refine qo (fun hg => ?_) (fun hg => ?_)) <;> (try simp only [hg]) <;> (try simp only [gS] at hg) <;> (try (first | simp only [eq_false hg, gI] | simp only [eq_true hg, gI]))) | (with_reducible first | refine qg ?_ | refine qf ?_ | refine ql ?_ | refine qk ?_) | refine acall (vnum_g _) ?_ | refine qp (vnum_g _) ?_ | refine qr (vnum_g _) ?_ | refine acall (qeq _) ?_ | refine qp (qeq _) ?_ | refine qr (qeq _) ?_ | refine acall (vtxt_g _) ?_ | refine qp (vtxt_g _) ?_ | refine qr (vtxt_g _) ?_ | refine qd ?_ | refine qi ?_ | refine qj ?_ | refine qm ?_) <;> (try simp (disch := first | omega | simp) [qh, -qq, -qs, hl1, hl2, hl3, hi])) | ((with_reducible refine sideT ?_ ?_); first | omega | assumption | (simp; done)) | (refine qe fun K hK => ?_) | (refine qa ?_) | (refine qb true (by kernel_rfl) (by kernel_rfl) ?_) | (refine qb false (by kernel_rfl) (by kernel_rfl) ?_) | (refine hK _ ?_; clear hK K) | (clear hK K; refine hK _ ?_; clear hK K) | (clear hK K; clear hK K; refine hK _ ?_; clear hK K) | refine qc ?_ | (clear hK; clear K; clear hK; clear K; clear hK; clear K; refine hK _ ?_; clear hK; clear K) | (clear hK; clear K; clear hK; clear K; clear hK; clear K; clear hK; clear K; refine hK _ ?_; clear hK; clear K) | (clear hK; clear K; clear hK; clear K; clear hK; clear K; clear hK; clear K; clear hK; clear K; refine hK _ ?_; clear hK; clear K) | (clear hK; clear K; clear hK; clear K; clear hK; clear K; clear hK; clear K; clear hK; clear K; clear hK; clear K; refine hK _ ?_; clear hK; clear K))
  all_goals
    by_cases h3 : x.op = 3
    · obtain ⟨q0, q1⟩ := hc h3
      first
      | (exfalso; omega)
      | (rw [hR, if_neg (by omega), if_neg (by omega), if_neg (by omega), if_pos h3, List.getD_eq_getElem?_getD, List.getElem?_eq_getElem (by omega)]; rfl)
    · first
      | (exfalso; omega)
      | (rw [hR]; simp_all [Val.av, numV, boolV, textV, hw64, -Val.av_fold]; done)
set_option maxHeartbeats 4000000 in
theorem one1_g {A : List Val} (hb : σ b = .cells [.int x.op, .int x.to, .int x.a, .int x.b, .int x.c, .int x.n, .str x.s] 78) (ha : σ a = .cells [.sl (A.map Val.av)] 26) {i : Nat} (hi : i < A.length)
    (hop : x.op = 6 ∨ x.op = 7 ∨ x.op = 20) (time : Int) (row : List Val) : qbh Tryz.prog 171 [.int i, .ptr b 0, .ptr a 0] σ (opI time row x [A[i]]).av := by
  obtain ⟨R, hR⟩ : ∃ R, R = opI time row x [A[i]] := ⟨_, rfl⟩
  rw [← hR]
  unfold opI at hR
  rw [if_neg (by omega)] at hR
  unfold opV at hR
  rw [if_neg (by omega), if_neg (by omega), if_neg (by omega), if_neg (by omega), if_neg (by omega), if_neg (by omega)] at hR
  refine qw Tryz.func171 Tryz.ntmps171 rfl rfl (by decide) rfl (by intro n; simp) fun n0 hfin hcl hft => ?_
  have hl1 := qbo hfin hb (by simp)
  have hl2 := qbo hfin ha (by simp)
  repeat' (first | ((first | ((with_reducible refine qo (fun hg => ?_) (fun hg => ?_)) <;> (try simp only [hg]) <;> (try simp only [gS] at hg) <;> (try (first | simp only [eq_false hg, gI] | simp only [eq_true hg, gI]))) | (with_reducible first | refine qg ?_ | refine qf ?_ | refine ql ?_ | refine qk ?_) | refine acall (vnum_g _) ?_ | refine qp (vnum_g _) ?_ | refine qr (vnum_g _) ?_ | refine acall (qeq _) ?_ | refine qp (qeq _) ?_ | refine qr (qeq _) ?_ | refine qd ?_ | refine qi ?_ | refine qj ?_ | refine qm ?_) <;> (try simp (disch := first | omega | simp) [qh, -qq, -qs, hl1, hl2, hi])) | ((with_reducible refine sideT ?_ ?_); first | omega | assumption | (simp; done)) | (refine qe fun K hK => ?_) | (refine qa ?_) | (refine qb true (by kernel_rfl) (by kernel_rfl) ?_) | (refine qb false (by kernel_rfl) (by kernel_rfl) ?_) | (refine hK _ ?_; clear hK K) | (clear hK K; refine hK _ ?_; clear hK K) | (clear hK K; clear hK K; refine hK _ ?_; clear hK K) | refine qc ?_ | (clear hK; clear K; clear hK; clear K; clear hK; clear K; refine hK _ ?_; clear hK; clear K) | (clear hK; clear K; clear hK; clear K; clear hK; clear K; clear hK; clear K; refine hK _ ?_; clear hK; clear K) | (clear hK; clear K; clear hK; clear K; clear hK; clear K; clear hK; clear K; clear hK; clear K; refine hK _ ?_; clear hK; clear K) | (clear hK; clear K; clear hK; clear K; clear hK; clear K; clear hK; clear K; clear hK; clear K; clear hK; clear K; refine hK _ ?_; clear hK; clear K))
  all_goals (rw [hR]; simp_all [Val.av, numV, boolV, textV, hw64, -Val.av_fold])
theorem div_g (p q : Int) : Gives Tryz.prog 196 [.int p, .int q] (.tup [.int (divI p q), .int (modI p q)]) := by
  by_cases h : q = 0
  · subst h
    refine qn Tryz.func196 Tryz.ntmps196 rfl rfl (by decide) rfl (by intro n; simp) fun σ n0 hcl hft => ?_
    repeat' (first | ((first | ((with_reducible refine qo (fun hg => ?_) (fun hg => ?_)) <;> (try simp only [hg]) <;> (try simp only [gS] at hg) <;> (try (first | simp only [eq_false hg, gI] | simp only [eq_true hg, gI]))) | (with_reducible first | refine qg ?_ | refine qf ?_ | refine ql ?_ | refine qk ?_) | refine qd ?_ | refine qi ?_ | refine qj ?_ | refine qm ?_) <;> (try simp (disch := first | omega | simp) [qh, -qq, -qs])) | ((with_reducible refine sideT ?_ ?_); first | omega | assumption | (simp; done)) | (refine qe fun K hK => ?_) | (refine qa ?_) | (refine qb true (by kernel_rfl) (by kernel_rfl) ?_) | (refine hK _ ?_; clear hK K) | (clear hK K; refine hK _ ?_; clear hK K) | (clear hK K; clear hK K; refine hK _ ?_; clear hK K) | refine qc ?_)
    all_goals simp [divI, modI]
  · have e1 : divI p q = wrap64 (p.tdiv q) := if_neg h
    have e2 : modI p q = p.tmod q := if_neg h
    rw [e1, e2]
    refine qn Tryz.func196 Tryz.ntmps196 rfl rfl (by decide) rfl (by intro n; simp) fun σ n0 hcl hft => ?_
    repeat' (first | ((first | ((with_reducible refine qo (fun hg => ?_) (fun hg => ?_)) <;> (try simp only [hg]) <;> (try simp only [gS] at hg) <;> (try (first | simp only [eq_false hg, gI] | simp only [eq_true hg, gI]))) | (with_reducible first | refine qg ?_ | refine qf ?_ | refine ql ?_ | refine qk ?_) | refine qd ?_ | refine qi ?_ | refine qj ?_ | refine qm ?_) <;> (try simp (disch := first | omega | simp) [qh, -qq, -qs, h])) | ((with_reducible refine sideT ?_ ?_); first | omega | assumption | (simp; done)) | (refine qe fun K hK => ?_) | (refine qa ?_) | (refine qb true (by kernel_rfl) (by kernel_rfl) ?_) | (refine hK _ ?_; clear hK K) | (clear hK K; refine hK _ ?_; clear hK K) | (clear hK K; clear hK K; refine hK _ ?_; clear hK K) | refine qc ?_)
    all_goals first | exact absurd (by assumption) h | exact (hw64 _).symm
set_option maxHeartbeats 4000000 in
theorem num_g (op : Int) (p q : Val) (hop : 8 ≤ op ∧ op ≤ 12) : Gives Tryz.prog 173 [.int op, .int p.n, .int q.n] (binV op p q).av := by
  obtain ⟨R, hR⟩ : ∃ R, R = binV op p q := ⟨_, rfl⟩
  rw [← hR]
  unfold binV at hR
  refine qn Tryz.func173 Tryz.ntmps173 rfl rfl (by decide) rfl (by intro n; simp) fun σ n0 hcl hft => ?_
  repeat' (first | ((first | ((with_reducible refine qo (fun hg => ?_) (fun hg => ?_)) <;> (try simp only [hg]) <;> (try simp only [gS] at hg) <;> (try (first | simp only [eq_false hg, gI] | simp only [eq_true hg, gI]))) | (with_reducible first | refine qg ?_ | refine qf ?_ | refine ql ?_ | refine qk ?_) | refine acall (div_g _ _) ?_ | refine qp (div_g _ _) ?_ | refine qr (div_g _ _) ?_ | refine acall (vnum_g _) ?_ | refine qp (vnum_g _) ?_ | refine qr (vnum_g _) ?_ | refine qd ?_ | refine qi ?_ | refine qj ?_ | refine qm ?_) <;> (try simp (disch := first | omega | simp) [qh, -qq, -qs])) | ((with_reducible refine sideT ?_ ?_); first | omega | assumption | (simp; done)) | (refine qe fun K hK => ?_) | (refine qa ?_) | (refine qb true (by kernel_rfl) (by kernel_rfl) ?_) | (refine qb false (by kernel_rfl) (by kernel_rfl) ?_) | (refine hK _ ?_; clear hK K) | (clear hK K; refine hK _ ?_; clear hK K) | (clear hK K; clear hK K; refine hK _ ?_; clear hK K) | refine qc ?_ | (clear hK; clear K; clear hK; clear K; clear hK; clear K; refine hK _ ?_; clear hK; clear K) | (clear hK; clear K; clear hK; clear K; clear hK; clear K; clear hK; clear K; refine hK _ ?_; clear hK; clear K) | (clear hK; clear K; clear hK; clear K; clear hK; clear K; clear hK; clear K; clear hK; clear K; refine hK _ ?_; clear hK; clear K) | (clear hK; clear K; clear hK; clear K; clear hK; clear K; clear hK; clear K; clear hK; clear K; clear hK; clear K; refine hK _ ?_; clear hK; clear K))
  all_goals (rw [hR]; simp_all [Val.av, numV, boolV, textV, hw64, -Val.av_fold])
  all_goals (rw [if_pos (by omega)]; exact ⟨rfl, rfl, rfl⟩)
set_option maxHeartbeats 8000000 in
theorem two1_g {A B : List Val} (hb : σ b = .cells [.int x.op, .int x.to, .int x.a, .int x.b, .int x.c, .int x.n, .str x.s] 78) (ha : σ a = .cells [.sl (A.map Val.av)] 26) (hc : σ c = .cells [.sl (B.map Val.av)] 26)
    {i : Nat} (hi : i < A.length) (hi2 : i < B.length) (hop : 8 ≤ x.op ∧ x.op ≤ 19) (hs : A[i].s.size + B[i].s.size ≤ 1000) (time : Int) (row : List Val) : qbh Tryz.prog 172 [.int i, .ptr b 0, .ptr a 0, .ptr c 0] σ (opI time row x [A[i], B[i]]).av := by
  obtain ⟨R, hR⟩ : ∃ R, R = opI time row x [A[i], B[i]] := ⟨_, rfl⟩
  rw [← hR]
  unfold opI at hR
  rw [if_neg (by omega)] at hR
  unfold opV at hR
  rw [if_neg (by omega), if_neg (by omega), if_neg (by omega), if_neg (by omega), if_neg (by omega), if_neg (by omega), if_neg (by omega), if_neg (by omega), if_neg (by omega), if_neg (by omega)] at hR
  rw [show [A[i], B[i]].getD 0 zeroV = A[i] from rfl, show [A[i], B[i]].getD 1 zeroV = B[i] from rfl] at hR
  unfold binV at hR
  have hnum : x.op ≤ 12 → Gives Tryz.prog 173 [.int x.op, .int A[i].n, .int B[i].n] R.av := fun h => by
    have := num_g x.op A[i] B[i] ⟨by omega, h⟩
    unfold binV at this
    rwa [← hR] at this
  have hsz : A[i].s.size + B[i].s.size ≤ 9223372036854775807 := by omega
  have hM : (if (200 : Int) < (A[i].s.size : Int) + (B[i].s.size : Int) then 200 else (A[i].s.size : Int) + (B[i].s.size : Int)) = ((min (A[i].s.size + B[i].s.size) 200 : Nat) : Int) := by split <;> omega
  have hM2 : min (A[i].s.size + B[i].s.size) 200 ≤ A[i].s.size + B[i].s.size := by omega
  have hJ : joinS A[i].s B[i].s = (A[i].s ++ B[i].s).extract 0 (min (A[i].s.size + B[i].s.size) 200) := rfl
  generalize hMM : min (A[i].s.size + B[i].s.size) 200 = M at *
  refine qw Tryz.func172 Tryz.ntmps172 rfl rfl (by decide) rfl (by intro n; simp) fun n0 hfin hcl hft => ?_
  have hl1 := qbo hfin hb (by simp)
  have hl2 := qbo hfin ha (by simp)
  have hl3 := qbo hfin hc (by simp)
  repeat' (first | ((first | ((with_reducible refine qo (fun hg => ?_) (fun hg => ?_)) <;> (try simp only [hg]) <;> (try simp only [gS] at hg) <;> (try (first | simp only [eq_false hg, gI] | simp only [eq_true hg, gI]))) | (with_reducible first | refine qg ?_ | refine qf ?_ | refine ql ?_ | refine qk ?_) | refine acall (cmp_g _ _) ?_ | refine qp (cmp_g _ _) ?_ | refine qr (cmp_g _ _) ?_ | refine acall (qeq _) ?_ | refine qp (qeq _) ?_ | refine qr (qeq _) ?_ | refine acall (vtxt_g _) ?_ | refine qp (vtxt_g _) ?_ | refine qr (vtxt_g _) ?_ | refine acall (hnum (by omega)) ?_ | refine qp (hnum (by omega)) ?_ | refine qr (hnum (by omega)) ?_ | refine qd ?_ | refine qi ?_ | refine qj ?_ | refine qm ?_) <;> (try simp (disch := first | omega | simp) [qh, -qq, -qs, hl1, hl2, hl3, hi, hi2, hsz, hM, hM2])) | ((with_reducible refine sideT ?_ ?_); first | omega | assumption | (simp; done)) | (refine qe fun K hK => ?_) | (refine qa ?_) | (refine qb true (by kernel_rfl) (by kernel_rfl) ?_) | (refine qb false (by kernel_rfl) (by kernel_rfl) ?_) | (refine hK _ ?_; clear hK K) | (clear hK K; refine hK _ ?_; clear hK K) | (clear hK K; clear hK K; refine hK _ ?_; clear hK K) | refine qc ?_ | (clear hK; clear K; clear hK; clear K; clear hK; clear K; refine hK _ ?_; clear hK; clear K) | (clear hK; clear K; clear hK; clear K; clear hK; clear K; clear hK; clear K; refine hK _ ?_; clear hK; clear K) | (clear hK; clear K; clear hK; clear K; clear hK; clear K; clear hK; clear K; clear hK; clear K; refine hK _ ?_; clear hK; clear K) | (clear hK; clear K; clear hK; clear K; clear hK; clear K; clear hK; clear K; clear hK; clear K; clear hK; clear K; refine hK _ ?_; clear hK; clear K))
  all_goals (rw [hR]; simp_all [Val.av, numV, boolV, textV, hw64, eqB_eqV, -Val.av_fold])
set_option maxHeartbeats 4000000 in
theorem three1_g {A B C : List Val} (ha : σ a = .cells [.sl (A.map Val.av)] 26) (hb : σ b = .cells [.sl (B.map Val.av)] 26) (hc : σ c = .cells [.sl (C.map Val.av)] 26)
    {i : Nat} (hi : i < A.length) (hi2 : i < B.length) (hi3 : i < C.length) : qbh Tryz.prog 174 [.int i, .ptr a 0, .ptr b 0, .ptr c 0] σ (ifV [A[i], B[i], C[i]]).av := by
  obtain ⟨R, hR⟩ : ∃ R, R = ifV [A[i], B[i], C[i]] := ⟨_, rfl⟩
  rw [← hR]
  unfold ifV at hR
  rw [show [A[i], B[i], C[i]].getD 0 zeroV = A[i] from rfl, show [A[i], B[i], C[i]].getD 1 zeroV = B[i] from rfl, show [A[i], B[i], C[i]].getD 2 zeroV = C[i] from rfl] at hR
  refine qw Tryz.func174 Tryz.ntmps174 rfl rfl (by decide) rfl (by intro n; simp) fun n0 hfin hcl hft => ?_
  have hl1 := qbo hfin ha (by simp)
  have hl2 := qbo hfin hb (by simp)
  have hl3 := qbo hfin hc (by simp)
  repeat' (first | ((first | ((with_reducible refine qo (fun hg => ?_) (fun hg => ?_)) <;> (try simp only [hg]) <;> (try simp only [gS] at hg) <;> (try (first | simp only [eq_false hg, gI] | simp only [eq_true hg, gI]))) | (with_reducible first | refine qg ?_ | refine qf ?_ | refine ql ?_ | refine qk ?_) | refine qd ?_ | refine qi ?_ | refine qj ?_ | refine qm ?_) <;> (try simp (disch := first | omega | simp) [qh, -qq, -qs, hl1, hl2, hl3, hi, hi2, hi3])) | ((with_reducible refine sideT ?_ ?_); first | omega | assumption | (simp; done)) | (refine qe fun K hK => ?_) | (refine qa ?_) | (refine qb true (by kernel_rfl) (by kernel_rfl) ?_) | (refine hK _ ?_; clear hK K) | (clear hK K; refine hK _ ?_; clear hK K) | (clear hK K; clear hK K; refine hK _ ?_; clear hK K) | refine qc ?_)
  all_goals (rw [hR]; simp_all)
end
end Go.Proofs.YtnkimlkoijfcpaaGreatDoor
