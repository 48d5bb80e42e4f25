/- Walks of layer 25: Needed and Trim, of the reference. -/
import Derived.Test.YtgpcpmfdklpifaaGreatDoorGa27
import Derived.Test.YtgpcpmfdklpifaaGreatDoorGa29
import Derived.Test.YtgpcpmfdklpifaaGreatDoorGa30
import Derived.Test.YtgpcpmfdklpifaaGreatDoorGa31
set_option linter.unusedSimpArgs false
set_option linter.unusedVariables false
namespace Go.Proofs.YtgpcpmfdklpifaaGreatDoor
open Go.RowKit Go.Lib
set_option maxRecDepth 10000 in
set_option maxHeartbeats 8000000 in
theorem rneeded_g {c : Cod} {cols : List Int} (h : CodOk c cols) : Gives Tryz.prog 25 [c.av] (.sl ((needP (qt c) (rootC c)).map AV.bool)) := by
  have hni := h.ni
  have hro := (h.val_res 0 []).1
  have c1 := rlastP_g c c.ins.length c.out (Nat.le_refl _) (by omega)
  have c3 := fun i r hi => rlastP_g c i r hi (by omega)
  rw [root_last h] at c1
  have hdl : (qt c).length = c.ins.length := by unfold qt; exact qx _ _ _
  have hea := h.early
  have hsrc : ∀ i (hi : i < c.ins.length), (opsP c.ins[i]).map (lastP c.ins i) = (srcOf (qt c) i).map fun k : Nat => (k : Int) := fun i hi => src_last h hi
  obtain ⟨R, hR⟩ : ∃ R, R = needP (qt c) (rootC c) := ⟨_, rfl⟩
  rw [← hR]
  unfold needP at hR
  generalize qt c = ds at *
  generalize rootC c = root at *
  obtain ⟨ins, types, out⟩ := c
  simp only [Cod.av] at *
  have hsz1 : 1 * ins.length ≤ 281474976710656 := by omega
  refine qn Tryz.func25 Tryz.ntmps25 rfl rfl (by decide) rfl (by intro n; simp) fun σ n0 hcl hft => ?_
  repeat' (first | ((first | ((with_reducible refine qo (fun hg => ?_) (fun hg => ?_)) <;> (try simp only [hg]) <;> (try simp only [gS] at hg) <;> (try (first | simp only [eq_false hg, gI] | simp only [eq_true hg, gI]))) | (with_reducible first | refine qc ?_ | refine qb ?_ | refine qi ?_ | refine qh ?_) | refine acall (c1) ?_ | refine qp (c1) ?_ | refine qe ?_ | refine qj ?_ | refine qk ?_ | refine qm ?_) <;> (try simp (disch := first | omega | simp) [qg, -qq, -qs, hsz1, hro])) | ((with_reducible refine sideT ?_ ?_); first | omega | assumption | (simp; done)) | (refine qf fun K hK => ?_) | (refine qa ?_) | refine ql ?_ | ((first | refine hK _ ?_ | (clear hK K; refine hK _ ?_) | (clear hK K; clear hK K; refine hK _ ?_)); clear hK K) | refine qd ?_)
  refine qr hcl (fun b : Nat × Int × List Bool => [(1, .ptr n0 0), (3, .own (n0 + 1) ins.length), (5, .int b.2.1)])
    (fun b => [.cells [.sl (ins.map Ins.av), .sl (types.map AV.int), .int out] 25, .vec (b.2.2.map AV.bool) 4 1])
    (fun b => b.1 ≤ ins.length ∧ b.2.1 = (b.1 : Int) - 1 ∧ b.2.2.length = ins.length ∧ R = needI ds b.1 b.2.2) (fun b => b.1) (ins.length, (ins.length : Int) - 1, (List.replicate ins.length false).set root true)
    ⟨by omega, rfl, by simp, by rw [hR, hdl]⟩ (by simp [AV.cls_map]; exact cls_set (AV.cls_replicate (by simp)) (by simp)) fun ⟨k, i, G⟩ ⟨hk, hi, hG, hRk⟩ => ?_
  simp only at hk hi hG hRk
  by_cases hi0 : 0 ≤ i
  · obtain ⟨m, rfl⟩ : ∃ m : Nat, i = m := ⟨i.toNat, by omega⟩
    obtain rfl : k = m + 1 := by omega
    have hm : m < ins.length := by omega
    have hmd : m < ds.length := by omega
    have hGm : G.getD m false = G[m]'(by omega) := by rw [List.getD_eq_getElem?_getD, List.getElem?_eq_getElem (by omega)]; rfl
    have hsd : (ds.getD m ⟨⟨0, 0, 0, 0, 0, 0, ByteArray.empty⟩, []⟩).src = srcOf ds m := rfl
    have hse := hea m hmd
    have hsm := hsrc m hm
    rw [needI, hGm, hsd] at hRk
    generalize srcOf ds m = src at *
    have c2 := rops_g ins[m]
    have hol : (opsP ins[m]).length ≤ 3 := by have h1 := qci ins[m]; have h2 := qdd ins[m].op; split at h1 <;> omega
    obtain ⟨x, hx⟩ : ∃ x, x = ins[m] := ⟨_, rfl⟩
    rw [← hx] at c2 hol hsm
    generalize opsP x = O at *
    have hOl : O.length = src.length := by have := congrArg List.length hsm; simpa using this
    have hOs : ∀ j (h1 : j < O.length) (h2 : j < src.length), lastP ins m O[j] = (src[j] : Nat) := fun j h1 h2 => by
      have := congrArg (fun l => l[j]?) hsm
      simpa [h1, h2] using this
    cases hgz : G[m]'(by omega)
    · rw [hgz, if_neg (by simp)] at hRk
      repeat' (first | ((first | ((with_reducible refine qo (fun hg => ?_) (fun hg => ?_)) <;> (try simp only [hg]) <;> (try simp only [gS] at hg) <;> (try (first | simp only [eq_false hg, gI] | simp only [eq_true hg, gI]))) | (with_reducible first | refine qc ?_ | refine qb ?_ | refine qi ?_ | refine qh ?_) | refine acall (c2) ?_ | refine qp (c2) ?_ | refine qe ?_ | refine qj ?_ | refine qk ?_ | refine qm ?_) <;> (try simp (disch := first | omega | simp) [qg, -qq, -qs, hG, hm, hgz, ← hx])) | ((with_reducible refine sideT ?_ ?_); first | omega | assumption | (simp; done)) | (refine qf fun K hK => ?_) | (refine qa ?_) | refine ql ?_ | ((first | refine hK _ ?_ | (clear hK K; refine hK _ ?_) | (clear hK K; clear hK K; refine hK _ ?_)); clear hK K) | refine qd ?_)
      refine qr hcl (fun j : Nat => [(1, .ptr n0 0), (3, .own (n0 + 1) ins.length), (5, .int m), (6, .sl (O.map AV.int)), (7, .int j)])
        (fun j => [.cells [.sl (ins.map Ins.av), .sl (types.map AV.int), .int out] 25, .vec (G.map AV.bool) 4 1])
        (fun j => j = 0) (fun j => 1 - j) 0 rfl (by simp) fun j hj => ?_
      subst hj
      by_cases hO0 : 0 < O.length
      · repeat' (first | ((first | ((with_reducible refine qo (fun hg => ?_) (fun hg => ?_)) <;> (try simp only [hg]) <;> (try simp only [gS] at hg) <;> (try (first | simp only [eq_false hg, gI] | simp only [eq_true hg, gI]))) | (with_reducible first | refine qc ?_ | refine qb ?_ | refine qi ?_ | refine qh ?_) | refine qe ?_ | refine qj ?_ | refine qk ?_ | refine qm ?_) <;> (try simp (disch := first | omega | simp) [qg, -qq, -qs, hO0, hG, hm, hgz])) | ((with_reducible refine sideT ?_ ?_); first | omega | assumption | (simp; done)) | (refine qf fun K hK => ?_) | (refine qa ?_) | refine ql ?_ | ((first | refine hK _ ?_ | (clear hK K; refine hK _ ?_) | (clear hK K; clear hK K; refine hK _ ?_)); clear hK K) | refine qd ?_)
        all_goals exact ⟨m, (m : Int) - 1, G, ⟨by omega, rfl, hG, hRk⟩, by omega, rfl, rfl⟩
      · repeat' (first | ((first | ((with_reducible refine qo (fun hg => ?_) (fun hg => ?_)) <;> (try simp only [hg]) <;> (try simp only [gS] at hg) <;> (try (first | simp only [eq_false hg, gI] | simp only [eq_true hg, gI]))) | (with_reducible first | refine qc ?_ | refine qb ?_ | refine qi ?_ | refine qh ?_) | refine qe ?_ | refine qj ?_ | refine qk ?_ | refine qm ?_) <;> (try simp (disch := first | omega | simp) [qg, -qq, -qs, hO0])) | ((with_reducible refine sideT ?_ ?_); first | omega | assumption | (simp; done)) | (refine qf fun K hK => ?_) | (refine qa ?_) | refine ql ?_ | ((first | refine hK _ ?_ | (clear hK K; refine hK _ ?_) | (clear hK K; clear hK K; refine hK _ ?_)); clear hK K) | refine qd ?_)
        all_goals exact ⟨m, (m : Int) - 1, G, ⟨by omega, rfl, hG, hRk⟩, by omega, rfl, rfl⟩
    · rw [hgz, if_pos rfl] at hRk
      repeat' (first | ((first | ((with_reducible refine qo (fun hg => ?_) (fun hg => ?_)) <;> (try simp only [hg]) <;> (try simp only [gS] at hg) <;> (try (first | simp only [eq_false hg, gI] | simp only [eq_true hg, gI]))) | (with_reducible first | refine qc ?_ | refine qb ?_ | refine qi ?_ | refine qh ?_) | refine acall (c2) ?_ | refine qp (c2) ?_ | refine qe ?_ | refine qj ?_ | refine qk ?_ | refine qm ?_) <;> (try simp (disch := first | omega | simp) [qg, -qq, -qs, hG, hm, hgz, ← hx])) | ((with_reducible refine sideT ?_ ?_); first | omega | assumption | (simp; done)) | (refine qf fun K hK => ?_) | (refine qa ?_) | refine ql ?_ | ((first | refine hK _ ?_ | (clear hK K; refine hK _ ?_) | (clear hK K; clear hK K; refine hK _ ?_)); clear hK K) | refine qd ?_)
      refine qr hcl (fun j : Nat => [(1, .ptr n0 0), (3, .own (n0 + 1) ins.length), (5, .int m), (6, .sl (O.map AV.int)), (7, .int j)])
        (fun j => [.cells [.sl (ins.map Ins.av), .sl (types.map AV.int), .int out] 25, .vec ((qbi G (src.take j)).map AV.bool) 4 1])
        (fun j => j ≤ O.length) (fun j => O.length - j) 0 (by omega) (by simp [qbi]) fun j hj => ?_
      have hsl : (qbi G (src.take j)).length = ins.length := by rw [qbs]; exact hG
      by_cases hlt : j < O.length
      · have hls : j < src.length := by omega
        have hs1 := hse src[j] (List.getElem_mem _)
        have hs2 : src[j] < ins.length := by omega
        have hsn : qbi G (src.take (j + 1)) = (qbi G (src.take j)).set src[j] true := by rw [List.take_succ_eq_append_getElem hls, setAll_snoc]
        have hgm : (qbi G (src.take j))[m]'(by omega) = true := by
          have := (qda (src.take j) G m (by omega)).2 (.inl (by rw [hGm]; exact hgz))
          rw [List.getD_eq_getElem?_getD, List.getElem?_eq_getElem (by omega)] at this
          exact this
        have c4 := c3 m O[j] (by omega)
        rw [hOs j hlt hls] at c4
        repeat' (first | ((first | ((with_reducible refine qo (fun hg => ?_) (fun hg => ?_)) <;> (try simp only [hg]) <;> (try simp only [gS] at hg) <;> (try (first | simp only [eq_false hg, gI] | simp only [eq_true hg, gI]))) | (with_reducible first | refine qc ?_ | refine qb ?_ | refine qi ?_ | refine qh ?_) | refine acall (c4) ?_ | refine qp (c4) ?_ | refine qe ?_ | refine qj ?_ | refine qk ?_ | refine qm ?_) <;> (try simp (disch := first | omega | simp) [qg, -qq, -qs, hlt, hsl, hs2, hgm])) | ((with_reducible refine sideT ?_ ?_); first | omega | assumption | (simp; done)) | (refine qf fun K hK => ?_) | (refine qa ?_) | refine ql ?_ | ((first | refine hK _ ?_ | (clear hK K; refine hK _ ?_) | (clear hK K; clear hK K; refine hK _ ?_)); clear hK K) | refine qd ?_)
        all_goals (refine ⟨j + 1, by omega, by omega, ?_⟩; rw [hsn]; simp [List.map_set])
      · obtain rfl : j = O.length := by omega
        rw [List.take_of_length_le (by omega)] at hsl ⊢
        repeat' (first | ((first | ((with_reducible refine qo (fun hg => ?_) (fun hg => ?_)) <;> (try simp only [hg]) <;> (try simp only [gS] at hg) <;> (try (first | simp only [eq_false hg, gI] | simp only [eq_true hg, gI]))) | (with_reducible first | refine qc ?_ | refine qb ?_ | refine qi ?_ | refine qh ?_) | refine qe ?_ | refine qj ?_ | refine qk ?_ | refine qm ?_) <;> (try simp (disch := first | omega | simp) [qg, -qq, -qs, hlt])) | ((with_reducible refine sideT ?_ ?_); first | omega | assumption | (simp; done)) | (refine qf fun K hK => ?_) | (refine qa ?_) | refine ql ?_ | ((first | refine hK _ ?_ | (clear hK K; refine hK _ ?_) | (clear hK K; clear hK K; refine hK _ ?_)); clear hK K) | refine qd ?_)
        all_goals exact ⟨m, (m : Int) - 1, qbi G src, ⟨by omega, rfl, hsl, hRk⟩, by omega, rfl, rfl⟩
  · obtain rfl : k = 0 := by omega
    rw [needI] at hRk
    subst hRk
    refine awp_freezeR 3 1 (k := ins.length) (by simp) (by rfl) (by simp [hG]) ?_
    repeat' (first | ((first | ((with_reducible refine qo (fun hg => ?_) (fun hg => ?_)) <;> (try simp only [hg]) <;> (try simp only [gS] at hg) <;> (try (first | simp only [eq_false hg, gI] | simp only [eq_true hg, gI]))) | (with_reducible first | refine qc ?_ | refine qb ?_ | refine qi ?_ | refine qh ?_) | refine qe ?_ | refine qj ?_ | refine qk ?_ | refine qm ?_) <;> (try simp (disch := first | omega | simp) [qg, -qq, -qs, hi0])) | ((with_reducible refine sideT ?_ ?_); first | omega | assumption | (simp; done)) | (refine qf fun K hK => ?_) | (refine qa ?_) | refine ql ?_ | ((first | refine hK _ ?_ | (clear hK K; refine hK _ ?_) | (clear hK K; clear hK K; refine hK _ ?_)); clear hK K) | refine qd ?_)
end Go.Proofs.YtgpcpmfdklpifaaGreatDoor

/- Walks of layer 25: Trim, of the reference. -/
namespace Go.Proofs.YtgpcpmfdklpifaaGreatDoor
open Go.RowKit Go.Lib
set_option maxHeartbeats 4000000 in
theorem rtrim_g {c : Cod} {cols : List Int} (h : CodOk c cols) : Gives Tryz.prog 26 [c.av] (trimP c).av := by
  have c1 := rneeded_g h
  have hnt := h.nt
  have hni := h.ni
  have hnl : (needP (qt c) (rootC c)).length = c.ins.length := by rw [needP_len]; unfold qt; exact qx _ _ _
  unfold trimP
  generalize needP (qt c) (rootC c) = need at *
  obtain ⟨ins, types, out⟩ := c
  simp only at hnt hni hnl
  have hz1 : types.length * 8 ≤ 140737488355328 := by omega
  have w1 : AV.wid (types.map AV.int) 1 := AV.wid_ints types
  have w2 : AV.elms (types.map AV.int) := AV.elms_ints types
  refine qn Tryz.func26 Tryz.ntmps26 rfl rfl (by decide) rfl (by intro n; simp) fun σ n0 hcl hft => ?_
  repeat' (first | ((first | ((with_reducible refine qo (fun hg => ?_) (fun hg => ?_)) <;> (try simp only [hg]) <;> (try simp only [gS] at hg) <;> (try (first | simp only [eq_false hg, gI] | simp only [eq_true hg, gI]))) | (with_reducible first | refine qc ?_ | refine qb ?_ | refine qi ?_ | refine qh ?_) | refine acall (c1) ?_ | refine qp (c1) ?_ | refine qe ?_ | refine qj ?_ | refine qk ?_ | refine qm ?_) <;> (try simp (disch := first | omega | simp) [qg, -qq, -qs, hz1, w1, w2])) | (with_reducible refine awp_anyQ (id := 2) [] 0 [.R, .M, .M, .R, .M, .M, .R, .M, .W] (by kernel_rfl) (by kernel_rfl) (by simp) ?_) | ((with_reducible refine sideT ?_ ?_); first | omega | assumption | (simp; done)) | (refine qf fun K hK => ?_) | (refine qa ?_) | refine ql ?_ | ((first | refine hK _ ?_ | (clear hK K; refine hK _ ?_) | (clear hK K; clear hK K; refine hK _ ?_)); clear hK K) | refine qd ?_)
  refine qw 2 0 32 7 (by rfl) (by rfl) ?_
  obtain ⟨F, hF⟩ : ∃ F : Nat → List Ins, F = fun k => trimI need (ins.take k) 0 := ⟨_, rfl⟩
  have F0 : F 0 = [] := by rw [hF]; rfl
  have F1 : ∀ k (h : k < ins.length), F (k + 1) = F k ++ if need[k]'(by omega) then [ins[k]] else [] := fun k h => by
    have hg : need.getD k false = need[k]'(by omega) := by rw [List.getD_eq_getElem?_getD, List.getElem?_eq_getElem (by omega)]; rfl
    rw [hF]; dsimp only
    rw [List.take_succ_eq_append_getElem h, trimI_snoc, Nat.zero_add, List.length_take, Nat.min_eq_left (by omega), hg]
  have F2 : F ins.length = trimI need ins 0 := by rw [hF]; dsimp only; rw [List.take_length]
  have FL : ∀ k, (F k).length ≤ ins.length := fun k => by
    rw [hF]; have := trimI_le need (ins.take k) 0; rw [List.length_take] at this; dsimp only; omega
  clear hF
  refine qr hcl (fun k : Nat => [(1, .ptr n0 0), (2, .ptr (n0 + 1) 0), (3, .sl (need.map AV.bool)), (4, .ptr (n0 + 2) 0), (5, .int k)])
    (fun k => [.cells [.sl (ins.map Ins.av), .sl (types.map AV.int), .int out] 25, .cells [.v (.slice none 0 0), .v (.slice none 0 0), .int 0] 25, .cells [.gs (n0 + 3) ((F k).map Ins.av), .sl (types.map AV.int), .int out] 25, .tail (F k).length 32 7])
    (fun k => k ≤ ins.length) (fun k => ins.length - k) 0 (by omega) (by simp [F0]) fun k hk => ?_
  by_cases hlt : k < ins.length
  · have hlt2 : k < need.length := by omega
    have f1 := F1 k hlt
    have fl := FL k
    have hz : ((F k).length + 1) * 56 ≤ 140737488355328 := by omega
    cases hnk : need[k]'(by omega)
    · rw [hnk] at f1
      repeat' (first | ((first | ((with_reducible refine qo (fun hg => ?_) (fun hg => ?_)) <;> (try simp only [hg]) <;> (try simp only [gS] at hg) <;> (try (first | simp only [eq_false hg, gI] | simp only [eq_true hg, gI]))) | (with_reducible first | refine qc ?_ | refine qb ?_ | refine qi ?_ | refine qh ?_) | refine qe ?_ | refine qj ?_ | refine qk ?_ | refine qm ?_) <;> (try simp (disch := first | omega | simp) [qg, -qq, -qs, hlt, hlt2, hnk, hz])) | (with_reducible refine qed (id := 7) false (by kernel_rfl) (by kernel_rfl) ?_) | ((with_reducible refine sideT ?_ ?_); first | omega | assumption | (simp; done)) | (refine qf fun K hK => ?_) | (refine qa ?_) | refine ql ?_ | ((first | refine hK _ ?_ | (clear hK K; refine hK _ ?_) | (clear hK K; clear hK K; refine hK _ ?_)); clear hK K) | refine qd ?_)
      all_goals first | (refine ⟨k + 1, by omega, by omega, ?_⟩; rw [f1]; simp; done) | (exfalso; simp_all; done)
    · rw [hnk] at f1
      repeat' (first | ((first | ((with_reducible refine qo (fun hg => ?_) (fun hg => ?_)) <;> (try simp only [hg]) <;> (try simp only [gS] at hg) <;> (try (first | simp only [eq_false hg, gI] | simp only [eq_true hg, gI]))) | (with_reducible first | refine qc ?_ | refine qb ?_ | refine qi ?_ | refine qh ?_) | refine qe ?_ | refine qj ?_ | refine qk ?_ | refine qm ?_) <;> (try simp (disch := first | omega | simp) [qg, -qq, -qs, hlt, hlt2, hnk, hz])) | (with_reducible refine qed (id := 7) false (by kernel_rfl) (by kernel_rfl) ?_) | ((with_reducible refine sideT ?_ ?_); first | omega | assumption | (simp; done)) | (refine qf fun K hK => ?_) | (refine qa ?_) | refine ql ?_ | ((first | refine hK _ ?_ | (clear hK K; refine hK _ ?_) | (clear hK K; clear hK K; refine hK _ ?_)); clear hK K) | refine qd ?_)
      all_goals first | (refine ⟨k + 1, by omega, by omega, ?_⟩; rw [f1]; simp; done) | (exfalso; simp_all; done)
  · obtain rfl : k = ins.length := by omega
    repeat' (first | ((first | ((with_reducible refine qo (fun hg => ?_) (fun hg => ?_)) <;> (try simp only [hg]) <;> (try simp only [gS] at hg) <;> (try (first | simp only [eq_false hg, gI] | simp only [eq_true hg, gI]))) | (with_reducible first | refine qc ?_ | refine qb ?_ | refine qi ?_ | refine qh ?_) | refine qe ?_ | refine qj ?_ | refine qk ?_ | refine qm ?_) <;> (try simp (disch := first | omega | simp) [qg, -qq, -qs, hlt])) | ((with_reducible refine sideT ?_ ?_); first | omega | assumption | (simp; done)) | (refine qf fun K hK => ?_) | (refine qa ?_) | refine ql ?_ | ((first | refine hK _ ?_ | (clear hK K; refine hK _ ?_) | (clear hK K; clear hK K; refine hK _ ?_)); clear hK K) | refine qd ?_)
    rw [F2]; rfl
end Go.Proofs.YtgpcpmfdklpifaaGreatDoor

/- Walk of layer 25: Compact, of the reference. -/
namespace Go.Proofs.YtgpcpmfdklpifaaGreatDoor
open Go.RowKit Go.Lib
theorem formed_zero {x : Ins} (h : qbh x = true) : ((opsP x).length < 3 → x.c = 0) ∧ ((opsP x).length < 2 → x.b = 0) ∧ ((opsP x).length < 1 → x.a = 0) := by
  have ho := form_op h
  rw [qci, if_pos ho]
  unfold qbh at h
  simp only [Bool.and_eq_true, decide_eq_true_eq] at h
  exact ⟨h.1.2.1.1, h.1.2.1.2, h.1.2.2⟩
def freeH (E : List Nat) (i : Nat) (hs : List Nat) : List Int := hs.map fun q => if E.getD q 0 ≤ i then -1 else (q : Int)
structure RelH (E : List Nat) (i : Nat) (hs : List Nat) (H : List Int) : Prop where
  len : H.length = hs.length
  at' : ∀ m (h : m < H.length), H[m] = (hs.getD m 0 : Nat) ∨ (H[m] = -1 ∧ E.getD (hs.getD m 0) 0 ≤ i)
theorem freeH_len (E : List Nat) (i : Nat) (hs : List Nat) : (freeH E i hs).length = hs.length := by simp [freeH]
theorem freeH_at (E : List Nat) (i : Nat) (hs : List Nat) {m : Nat} (h : m < (freeH E i hs).length) : (freeH E i hs)[m] = if E.getD (hs.getD m 0) 0 ≤ i then -1 else ((hs.getD m 0 : Nat) : Int) := by
  have h1 : m < hs.length := by simpa [freeH] using h
  have h2 : hs.getD m 0 = hs[m] := by rw [List.getD_eq_getElem?_getD, List.getElem?_eq_getElem h1]; rfl
  rw [h2]; simp [freeH]
theorem RelH.put {E : List Nat} {i k : Nat} {hs : List Nat} (hk : k < hs.length) : RelH E (i + 1) (hs.set k i) ((freeH E i hs).set k i) where
  len := by simp [freeH]
  at' := fun m h => by
    have hm : m < hs.length := by simpa [freeH] using h
    by_cases hmk : k = m
    · subst hmk; left
      rw [List.getD_eq_getElem?_getD, List.getElem?_set_self hk, List.getElem_set_self]; rfl
    · rw [List.getElem_set_ne hmk, List.getD_eq_getElem?_getD, List.getElem?_set_ne hmk, ← List.getD_eq_getElem?_getD, freeH_at]
      split
      · right; exact ⟨rfl, by omega⟩
      · left; rfl
theorem RelH.more {E : List Nat} {i : Nat} {hs : List Nat} : RelH E (i + 1) (hs ++ [i]) (freeH E i hs ++ [(i : Int)]) where
  len := by simp [freeH]
  at' := fun m h => by
    have hm : m < hs.length + 1 := by simpa [freeH] using h
    rw [qcd]
    by_cases hmk : m < hs.length
    · rw [if_pos hmk, List.getElem_append_left (by rw [freeH_len]; exact hmk), freeH_at]
      split
      · right; exact ⟨rfl, by omega⟩
      · left; rfl
    · have : m = hs.length := by omega
      subst this
      left
      rw [if_neg hmk, if_pos rfl, List.getElem_append_right (by rw [freeH_len]; exact Nat.le_refl _)]
      simp
set_option maxHeartbeats 8000000 in
theorem rcompact_g {c : Cod} {cols : List Int} (h : CodOk c cols) : Gives Tryz.prog 27 [c.av] (compP c).av := by
  have c1 := rtrim_g h
  obtain ⟨hd, -, -⟩ := trim_ok h 0 []
  have hro := (hd.val_res 0 []).1
  have hni := hd.ni
  have hnt := hd.nt
  have c3 := fun i r hi => rlastP_g (trimP c) i r hi (by omega)
  have c4 := rlastP_g (trimP c) (trimP c).ins.length (trimP c).out (Nat.le_refl _) (by omega)
  rw [root_last hd] at c4
  have c5 : ∀ a v : Nat, v ≤ a → a < (trimP c).ins.length → Gives Tryz.prog 53 [(trimP c).av, .int a, .int v] (.bool (decide (a < (endP (qt (trimP c)) (rootC (trimP c))).getD v 0))) := fun a v h1 h2 => by
    rw [← later_end hd h1 h2]; exact rlater_g (trimP c) a v (by omega) (by omega)
  have hsrc : ∀ i (hi : i < (trimP c).ins.length), (opsP (trimP c).ins[i]).map (lastP (trimP c).ins i) = (srcOf (qt (trimP c)) i).map fun k : Nat => (k : Int) := fun i hi => src_last hd hi
  have hdl : (qt (trimP c)).length = (trimP c).ins.length := by unfold qt; exact qx _ _ _
  have hea := hd.early
  have hs3 : ∀ d ∈ qt (trimP c), d.src.length ≤ 3 := nodes_src _ _ _
  have hxs : ∀ k (h1 : k < (qt (trimP c)).length) (h2 : k < (trimP c).ins.length), ((qt (trimP c))[k]).x = (trimP c).ins[k] := by
    have : ∀ (l : List Ins) (i : Nat) (last : List Nat) (k : Nat) (h1 : k < (nodes l i last).length) (h2 : k < l.length), ((nodes l i last)[k]).x = l[k] := fun l => by
      induction l with
      | nil => intro _ _ k h1 h2; simp at h2
      | cons x l ih =>
        intro i last k h1 h2
        cases k with
        | zero => rfl
        | succ k => exact ih (i + 1) _ k _ _
    exact this _ _ _
  have hto : ∀ x ∈ (trimP c).ins, 0 ≤ x.tgt ∧ x.tgt < (trimP c).types.length ∧ qbh x = true := by
    have : ∀ (l : List Ins) (done : List Bool), AllOk cols (trimP c).types l done → ∀ x ∈ l, 0 ≤ x.tgt ∧ x.tgt < (trimP c).types.length ∧ qbh x = true := fun l => by
      induction l with
      | nil => intro _ _ x hx; cases hx
      | cons y l ih =>
        intro done ha x hx
        rcases List.mem_cons.1 hx with rfl | hx
        · exact ⟨ha.1.to0, ha.1.to1, ha.1.form⟩
        · exact ih _ ha.2 x hx
    exact this _ _ hd.all
  have hEl : (endP (qt (trimP c)) (rootC (trimP c))).length = (trimP c).ins.length := by rw [endP_len, hdl]
  have hE0 : ∀ i, i < (trimP c).ins.length → i ≤ (endP (qt (trimP c)) (rootC (trimP c))).getD i 0 ∨ True := fun _ _ => .inr trivial
  clear hE0
  obtain ⟨R, hR⟩ : ∃ R, R = compP c := ⟨_, rfl⟩
  rw [← hR]
  unfold compP compS at hR
  dsimp only at hR
  generalize endP (qt (trimP c)) (rootC (trimP c)) = E at *
  generalize qt (trimP c) = ds at *
  generalize rootC (trimP c) = root at *
  generalize trimP c = d at *
  obtain ⟨ins, types, out⟩ := d
  obtain ⟨cins, ctypes, cout⟩ := c
  simp only [Cod.av] at *
  obtain ⟨S, hS⟩ : ∃ S, S = compI E types ds 0 ⟨[], [], [], List.replicate ins.length 0⟩ := ⟨_, rfl⟩
  rw [← hS] at hR
  have hsz1 : 8 * ins.length ≤ 281474976710656 := by omega
  refine qn Tryz.func27 Tryz.ntmps27 rfl rfl (by decide) rfl (by intro n; simp) fun σ n0 hcl hft => ?_
  repeat' (first | ((first | ((with_reducible refine qo (fun hg => ?_) (fun hg => ?_)) <;> (try simp only [hg]) <;> (try simp only [gS] at hg) <;> (try (first | simp only [eq_false hg, gI] | simp only [eq_true hg, gI]))) | (with_reducible first | refine qc ?_ | refine qb ?_ | refine qi ?_ | refine qh ?_) | refine acall (c1) ?_ | refine qp (c1) ?_ | refine qe ?_ | refine qj ?_ | refine qk ?_ | refine qm ?_) <;> (try simp (disch := first | omega | simp) [qg, -qq, -qs, hsz1])) | ((with_reducible refine sideT ?_ ?_); first | omega | assumption | (simp; done)) | (refine qf fun K hK => ?_) | (refine qa ?_) | refine ql ?_ | ((first | refine hK _ ?_ | (clear hK K; refine hK _ ?_) | (clear hK K; clear hK K; refine hK _ ?_)); clear hK K) | refine qd ?_)
  refine qw 2 0 32 7 (by rfl) (by rfl) ?_
  refine qw 2 1 3 1 (by rfl) (by rfl) ?_
  refine qby 5 3 1 (by simp) ?_
  refine awp_thawR 5 6 (et := 3) (sz := 1) (by simp) (by rfl) ?_
  refine qr hcl (fun b : Nat × CompS × List Int => [(1, .ptr n0 0), (2, .ptr (n0 + 1) 0), (3, .ptr (n0 + 2) 0), (4, .own (n0 + 3) ins.length), (5, .own (n0 + 7) b.2.2.length), (6, .int b.1)])
    (fun b => [.cells [.sl (ins.map Ins.av), .sl (types.map AV.int), .int out] 25, .cells [.v (.slice none 0 0), .v (.slice none 0 0), .int 0] 25,
      .cells [.gs (n0 + 4) (b.2.1.ins.map Ins.av), .gs (n0 + 5) (b.2.1.tys.map AV.int), .int 0] 25, .vec (natAv b.2.1.place) 3 1, .tail b.2.1.ins.length 32 7, .tail b.2.1.tys.length 3 1, .dead, .vec (b.2.2.map AV.int) 3 1])
    (fun b => b.1 ≤ ins.length ∧ S = compI E types (ds.drop b.1) b.1 b.2.1 ∧ b.2.1.ins.length = b.1 ∧ b.2.1.holds.length = b.2.1.tys.length ∧ b.2.1.holds.length ≤ b.1 ∧ (∀ q ∈ b.2.1.holds, q < b.1) ∧ b.2.1.place.length = ins.length ∧ RelH E b.1 b.2.1.holds b.2.2)
    (fun b => ins.length - b.1) (0, ⟨[], [], [], List.replicate ins.length 0⟩, []) ⟨by omega, hS, rfl, rfl, by simp, by simp, by simp, ⟨rfl, fun m h => by simp at h⟩⟩ (by simp [natAv_rep]) fun ⟨i, s, H⟩ ⟨hi, hSi, s1, s2, s3, s4, s5, s6⟩ => ?_
  dsimp only at hi hSi s1 s2 s3 s4 s5 s6
  by_cases hlt : i < ins.length
  · have hltd : i < ds.length := by omega
    have hsd : (ds.getD i ⟨⟨0, 0, 0, 0, 0, 0, ByteArray.empty⟩, []⟩).src = ds[i].src := by rw [List.getD_eq_getElem?_getD, List.getElem?_eq_getElem hltd]; rfl
    have hse : ∀ j ∈ ds[i].src, j < i := fun j hj => hea i hltd j (by unfold srcOf; rw [hsd]; exact hj)
    have hsl3 := hs3 ds[i] (List.getElem_mem _)
    have hx := hxs i hltd hlt
    have hxto := hto ins[i] (List.getElem_mem _)
    have hsm := hsrc i hlt
    have hso : srcOf ds i = ds[i].src := hsd
    rw [hso] at hsm
    rw [List.drop_eq_getElem_cons hltd, compI] at hSi
    try dsimp only at hSi
    rw [hx] at hSi
    generalize hsrc' : ds[i].src = src at *
    have c2 := rops_g ins[i]
    have hfz := formed_zero hxto.2.2
    have t0 := hxto.1
    have t1 := hxto.2.1
    obtain ⟨x, hx2⟩ : ∃ x, x = ins[i] := ⟨_, rfl⟩
    rw [← hx2] at c2 hsm hSi hfz t0 t1
    have htd : types.getD x.tgt.toNat 0 = types[x.tgt.toNat]'(by omega) := by rw [List.getD_eq_getElem?_getD, List.getElem?_eq_getElem (by omega)]; rfl
    rw [htd] at hSi
    generalize ht : types[x.tgt.toNat]'(by omega) = t at *
    clear hxto hxs hsd hso hx htd
    have hol : (opsP x).length = src.length := by have := congrArg List.length hsm; simpa using this
    obtain ⟨O, hO⟩ : ∃ O, O = opsP x := ⟨_, rfl⟩
    rw [← hO] at c2 hsm hfz hol
    have hOs : ∀ j (h1 : j < O.length) (h2 : j < src.length), lastP ins i O[j] = (src[j] : Nat) := fun j h1 h2 => by
      have := congrArg (fun l => l[j]?) hsm
      simpa [h1, h2] using this
    obtain ⟨args, hargs⟩ : ∃ args, args = src.map fun j => ((s.place.getD j 0 : Nat) : Int) := ⟨_, rfl⟩
    have hal : args.length = src.length := by rw [hargs, List.length_map]
    have haj : ∀ j (h : j < src.length), args[j]'(by omega) = ((s.place[src[j]]'(by have := hse _ (List.getElem_mem h); omega) : Nat) : Int) := fun j h => by
      have := hse _ (List.getElem_mem h)
      simp only [hargs, List.getElem_map]
      rw [List.getD_eq_getElem?_getD, List.getElem?_eq_getElem (by omega)]; rfl
    rw [← hargs] at hSi
    clear hargs
    obtain ⟨Y, hY⟩ : ∃ Y : Nat → Nat → Int, Y = fun j m => if m < j then args.getD m 0 else [x.a, x.b, x.c].getD m 0 := ⟨_, rfl⟩
    have Y0 : Y 0 0 = x.a ∧ Y 0 1 = x.b ∧ Y 0 2 = x.c := by rw [hY]; simp
    have Y1 : ∀ j m (h : j < src.length), Y (j + 1) m = if m = j then ((s.place[src[j]]'(by have := hse _ (List.getElem_mem h); omega) : Nat) : Int) else Y j m := fun j m h => by
      rw [hY]
      dsimp only
      by_cases hm : m = j
      · rw [if_pos (by omega), if_pos hm, hm, List.getD_eq_getElem?_getD, List.getElem?_eq_getElem (by omega), ← haj j h]; rfl
      · rw [if_neg hm]
        by_cases hm2 : m < j
        · rw [if_pos (by omega), if_pos hm2]
        · rw [if_neg (by omega), if_neg hm2]
    have Y2 : ∀ k, newI x args k = ⟨x.op, k, Y src.length 0, Y src.length 1, Y src.length 2, x.n, x.s⟩ := fun k => by
      have hz : ∀ m, src.length ≤ m → args.getD m 0 = 0 := fun m hm => by rw [List.getD_eq_getElem?_getD, List.getElem?_eq_none (by omega)]; rfl
      have e0 : args.getD 0 0 = Y src.length 0 := by
        rw [hY]; dsimp only; split
        · rfl
        · rename_i hn; rw [hz 0 (by omega)]; exact (hfz.2.2 (by omega)).symm
      have e1 : args.getD 1 0 = Y src.length 1 := by
        rw [hY]; dsimp only; split
        · rfl
        · rename_i hn; rw [hz 1 (by omega)]; exact (hfz.2.1 (by omega)).symm
      have e2 : args.getD 2 0 = Y src.length 2 := by
        rw [hY]; dsimp only; split
        · rfl
        · rename_i hn; rw [hz 2 (by omega)]; exact (hfz.1 (by omega)).symm
      unfold newI
      rw [e0, e1, e2]
    clear hY haj hfz hal
    repeat' (first | ((first | with_reducible refine awp_regionL (id := 10) ?_ | ((with_reducible refine qo (fun hg => ?_) (fun hg => ?_)) <;> (try simp only [hg]) <;> (try simp only [gS] at hg) <;> (try (first | simp only [eq_false hg, gI] | simp only [eq_true hg, gI]))) | (with_reducible first | refine qc ?_ | refine qb ?_ | refine qi ?_ | refine qh ?_) | refine acall (c2) ?_ | refine qp (c2) ?_ | refine qe ?_ | refine qj ?_ | refine qk ?_ | refine qm ?_) <;> (try simp (disch := first | omega | simp) [qg, -qq, -qs, hlt, ← hx2])) | ((with_reducible refine sideT ?_ ?_); first | omega | assumption | (simp; done)) | (refine qf fun K hK => ?_) | (refine qa ?_) | refine ql ?_ | ((first | refine hK _ ?_ | (clear hK K; refine hK _ ?_) | (clear hK K; clear hK K; refine hK _ ?_)); clear hK K) | refine qd ?_)
    refine qr hcl (fun j : Nat => [(1, .ptr n0 0), (2, .ptr (n0 + 1) 0), (3, .ptr (n0 + 2) 0), (4, .own (n0 + 3) ins.length), (5, .own (n0 + 7) H.length), (6, .int i), (7, .ptr (n0 + 8) 0), (8, .sl (O.map AV.int)), (9, .own (n0 + 9) 3), (10, .int j)])
      (fun j => [.cells [.sl (ins.map Ins.av), .sl (types.map AV.int), .int out] 25, .cells [.v (.slice none 0 0), .v (.slice none 0 0), .int 0] 25,
        .cells [.gs (n0 + 4) (s.ins.map Ins.av), .gs (n0 + 5) (s.tys.map AV.int), .int 0] 25, .vec (natAv s.place) 3 1, .tail s.ins.length 32 7, .tail s.tys.length 3 1, .dead, .vec (H.map AV.int) 3 1,
        .cells [.int x.op, .int x.tgt, .int x.a, .int x.b, .int x.c, .int x.n, .str x.s] 32, .vec [.int (Y j 0), .int (Y j 1), .int (Y j 2)] 3 1])
      (fun j => j ≤ src.length) (fun j => src.length - j) 0 (by omega) (by simp [Y0]) fun j hj => ?_
    by_cases hlt2 : j < src.length
    · have hs1 := hse src[j] (List.getElem_mem _)
      have hs2 : src[j] < ins.length := by omega
      have hs3 : src[j] < s.place.length := by omega
      have hj3 : j = 0 ∨ j = 1 ∨ j = 2 := by omega
      have y0 := Y1 j 0 hlt2
      have y1 := Y1 j 1 hlt2
      have y2 := Y1 j 2 hlt2
      have hlo : j < O.length := by omega
      have c6 := c3 i O[j] (by omega)
      rw [hOs j hlo hlt2] at c6
      have hm0 : (if 0 < src[j] then ((src[j] : Nat) : Int) else 0) = (src[j] : Nat) := by split <;> omega
      rcases hj3 with rfl | rfl | rfl
      · have hq : O ≠ [] := fun e => by rw [e] at hlo; simp at hlo
        simp at y0 y1 y2
        repeat' (first | ((first | ((with_reducible refine qo (fun hg => ?_) (fun hg => ?_)) <;> (try simp only [hg]) <;> (try simp only [gS] at hg) <;> (try (first | simp only [eq_false hg, gI] | simp only [eq_true hg, gI]))) | (with_reducible first | refine qc ?_ | refine qb ?_ | refine qi ?_ | refine qh ?_) | refine acall (c6) ?_ | refine qp (c6) ?_ | refine qe ?_ | refine qj ?_ | refine qk ?_ | refine qm ?_) <;> (try simp (disch := first | omega | simp) [qg, -qq, -qs, hlo, hq, s5, hs2, hs3, hm0])) | ((with_reducible refine sideT ?_ ?_); first | omega | assumption | (simp; done)) | (refine qf fun K hK => ?_) | (refine qa ?_) | refine ql ?_ | ((first | refine hK _ ?_ | (clear hK K; refine hK _ ?_) | (clear hK K; clear hK K; refine hK _ ?_)); clear hK K) | refine qd ?_)
        refine ⟨1, by omega, by omega, ?_⟩
        simp [y0, y1, y2]
      · have hq : (1 : Int) < O.length := by omega
        simp at y0 y1 y2
        repeat' (first | ((first | ((with_reducible refine qo (fun hg => ?_) (fun hg => ?_)) <;> (try simp only [hg]) <;> (try simp only [gS] at hg) <;> (try (first | simp only [eq_false hg, gI] | simp only [eq_true hg, gI]))) | (with_reducible first | refine qc ?_ | refine qb ?_ | refine qi ?_ | refine qh ?_) | refine acall (c6) ?_ | refine qp (c6) ?_ | refine qe ?_ | refine qj ?_ | refine qk ?_ | refine qm ?_) <;> (try simp (disch := first | omega | simp) [qg, -qq, -qs, hlo, hq, s5, hs2, hs3, hm0])) | ((with_reducible refine sideT ?_ ?_); first | omega | assumption | (simp; done)) | (refine qf fun K hK => ?_) | (refine qa ?_) | refine ql ?_ | ((first | refine hK _ ?_ | (clear hK K; refine hK _ ?_) | (clear hK K; clear hK K; refine hK _ ?_)); clear hK K) | refine qd ?_)
        refine ⟨2, by omega, by omega, ?_⟩
        simp [y0, y1, y2]
      · have hq : (2 : Int) < O.length := by omega
        simp at y0 y1 y2
        repeat' (first | ((first | ((with_reducible refine qo (fun hg => ?_) (fun hg => ?_)) <;> (try simp only [hg]) <;> (try simp only [gS] at hg) <;> (try (first | simp only [eq_false hg, gI] | simp only [eq_true hg, gI]))) | (with_reducible first | refine qc ?_ | refine qb ?_ | refine qi ?_ | refine qh ?_) | refine acall (c6) ?_ | refine qp (c6) ?_ | refine qe ?_ | refine qj ?_ | refine qk ?_ | refine qm ?_) <;> (try simp (disch := first | omega | simp) [qg, -qq, -qs, hlo, hq, s5, hs2, hs3, hm0])) | ((with_reducible refine sideT ?_ ?_); first | omega | assumption | (simp; done)) | (refine qf fun K hK => ?_) | (refine qa ?_) | refine ql ?_ | ((first | refine hK _ ?_ | (clear hK K; refine hK _ ?_) | (clear hK K; clear hK K; refine hK _ ?_)); clear hK K) | refine qd ?_)
        refine ⟨3, by omega, by omega, ?_⟩
        simp [y0, y1, y2]
    · obtain rfl : j = src.length := by omega
      have hlo : ¬ src.length < O.length := by omega
      have s7 := s6.len
      obtain ⟨F, hF⟩ : ∃ F, F = freeH E i s.holds := ⟨_, rfl⟩
      have hFl : F.length = s.holds.length := by rw [hF, freeH_len]
      have hFa : ∀ m (h : m < F.length), F[m] = if E.getD (s.holds.getD m 0) 0 ≤ i then -1 else ((s.holds.getD m 0 : Nat) : Int) := fun m h => by subst hF; exact freeH_at _ _ _ h
      obtain ⟨G, hG⟩ : ∃ G : Nat → List Int, G = fun n => F.take n ++ H.drop n := ⟨_, rfl⟩
      have G0 : G 0 = H := by rw [hG]; rfl
      have GL : G H.length = F := by rw [hG]; dsimp only; rw [List.drop_length, List.append_nil, List.take_of_length_le (by omega)]
      have Gl : ∀ n, n ≤ H.length → (G n).length = H.length := fun n hn => by rw [hG]; simp; omega
      have Gn : ∀ n (h : n < H.length) (h2 : n < (G n).length), (G n)[n] = H[n] := fun n h h2 => by
        simp only [hG]
        rw [List.getElem_append_right (by simp; omega)]
        have : n - (List.take n F).length = 0 := by simp; omega
        simp only [this]
        simp
      have Gs : ∀ n (h : n < H.length) (h2 : n < F.length), G (n + 1) = (G n).set n F[n] := fun n h h2 => by
        rw [hG]; dsimp only
        rw [List.take_succ_eq_append_getElem h2, List.set_append_right _ _ (by simp; omega)]
        have : n - (List.take n F).length = 0 := by simp; omega
        rw [this, List.drop_eq_getElem_cons h, List.set_cons_zero, List.append_assoc]; rfl
      have Hn := s6.at'
      clear hG
      repeat' (first | ((first | ((with_reducible refine qo (fun hg => ?_) (fun hg => ?_)) <;> (try simp only [hg]) <;> (try simp only [gS] at hg) <;> (try (first | simp only [eq_false hg, gI] | simp only [eq_true hg, gI]))) | (with_reducible first | refine qc ?_ | refine qb ?_ | refine qi ?_ | refine qh ?_) | refine qe ?_ | refine qj ?_ | refine qk ?_ | refine qm ?_) <;> (try simp (disch := first | omega | simp) [qg, -qq, -qs, hlo])) | ((with_reducible refine sideT ?_ ?_); first | omega | assumption | (simp; done)) | (refine qf fun K hK => ?_) | (refine qa ?_) | refine ql ?_ | ((first | refine hK _ ?_ | (clear hK K; refine hK _ ?_) | (clear hK K; clear hK K; refine hK _ ?_)); clear hK K) | refine qd ?_)
      refine qr hcl (fun n : Nat => [(1, .ptr n0 0), (2, .ptr (n0 + 1) 0), (3, .ptr (n0 + 2) 0), (4, .own (n0 + 3) ins.length), (5, .own (n0 + 7) H.length), (6, .int i), (7, .ptr (n0 + 8) 0), (11, .int n)])
        (fun n => [.cells [.sl (ins.map Ins.av), .sl (types.map AV.int), .int out] 25, .cells [.v (.slice none 0 0), .v (.slice none 0 0), .int 0] 25,
          .cells [.gs (n0 + 4) (s.ins.map Ins.av), .gs (n0 + 5) (s.tys.map AV.int), .int 0] 25, .vec (natAv s.place) 3 1, .tail s.ins.length 32 7, .tail s.tys.length 3 1, .dead, .vec ((G n).map AV.int) 3 1,
          .cells [.int x.op, .int x.tgt, .int (Y src.length 0), .int (Y src.length 1), .int (Y src.length 2), .int x.n, .str x.s] 32])
        (fun n => n ≤ H.length) (fun n => H.length - n) 0 (by omega) (by simp [G0]) fun n hn => ?_
      have hgl := Gl n hn
      by_cases hnl : n < H.length
      · have hgn := Gn n hnl (by omega)
        have hgs := Gs n hnl (by omega)
        have hfa := hFa n (by omega)
        have hq := s4 (s.holds.getD n 0) (by rw [List.getD_eq_getElem?_getD, List.getElem?_eq_getElem (by omega)]; exact List.getElem_mem _)
        have c7 := c5 i (s.holds.getD n 0) (by omega) hlt
        have hh := Hn n hnl
        generalize s.holds.getD n 0 = q at *
        rw [hfa] at hgs
        have hsame : H[n] = (if E.getD q 0 ≤ i then -1 else (q : Int)) → G (n + 1) = G n := fun e => by
          rw [hgs, ← e, ← hgn, List.set_getElem_self]
        by_cases hE : E.getD q 0 ≤ i
        · rw [if_pos hE] at hgs hsame
          rcases hh with hh | hh
          · rw [hh] at hgn
            rw [decide_eq_false (by omega)] at c7
            repeat' (first | ((first | ((with_reducible refine qo (fun hg => ?_) (fun hg => ?_)) <;> (try simp only [hg]) <;> (try simp only [gS] at hg) <;> (try (first | simp only [eq_false hg, gI] | simp only [eq_true hg, gI]))) | (with_reducible first | refine qc ?_ | refine qb ?_ | refine qi ?_ | refine qh ?_) | refine acall (c7) ?_ | refine qp (c7) ?_ | refine qe ?_ | refine qj ?_ | refine qk ?_ | refine qm ?_) <;> (try simp (disch := first | omega | simp) [qg, -qq, -qs, hnl, hgl, hgn])) | ((with_reducible refine sideT ?_ ?_); first | omega | assumption | (simp; done)) | (refine qf fun K hK => ?_) | (refine qa ?_) | refine ql ?_ | ((first | refine hK _ ?_ | (clear hK K; refine hK _ ?_) | (clear hK K; clear hK K; refine hK _ ?_)); clear hK K) | refine qd ?_)
            exact ⟨n + 1, by omega, by omega, by rw [hgs]; simp⟩
          · rw [hh.1] at hgn
            repeat' (first | ((first | ((with_reducible refine qo (fun hg => ?_) (fun hg => ?_)) <;> (try simp only [hg]) <;> (try simp only [gS] at hg) <;> (try (first | simp only [eq_false hg, gI] | simp only [eq_true hg, gI]))) | (with_reducible first | refine qc ?_ | refine qb ?_ | refine qi ?_ | refine qh ?_) | refine acall (c7) ?_ | refine qp (c7) ?_ | refine qe ?_ | refine qj ?_ | refine qk ?_ | refine qm ?_) <;> (try simp (disch := first | omega | simp) [qg, -qq, -qs, hnl, hgl, hgn])) | ((with_reducible refine sideT ?_ ?_); first | omega | assumption | (simp; done)) | (refine qf fun K hK => ?_) | (refine qa ?_) | refine ql ?_ | ((first | refine hK _ ?_ | (clear hK K; refine hK _ ?_) | (clear hK K; clear hK K; refine hK _ ?_)); clear hK K) | refine qd ?_)
            exact ⟨n + 1, by omega, by omega, by rw [hsame hh.1]; simp⟩
        · rw [if_neg hE] at hgs hsame
          have hh : H[n] = (q : Int) := by
            rcases hh with hh | hh
            · exact hh
            · exact absurd hh.2 hE
          rw [hh] at hgn
          rw [decide_eq_true (by omega)] at c7
          repeat' (first | ((first | ((with_reducible refine qo (fun hg => ?_) (fun hg => ?_)) <;> (try simp only [hg]) <;> (try simp only [gS] at hg) <;> (try (first | simp only [eq_false hg, gI] | simp only [eq_true hg, gI]))) | (with_reducible first | refine qc ?_ | refine qb ?_ | refine qi ?_ | refine qh ?_) | refine acall (c7) ?_ | refine qp (c7) ?_ | refine qe ?_ | refine qj ?_ | refine qk ?_ | refine qm ?_) <;> (try simp (disch := first | omega | simp) [qg, -qq, -qs, hnl, hgl, hgn])) | ((with_reducible refine sideT ?_ ?_); first | omega | assumption | (simp; done)) | (refine qf fun K hK => ?_) | (refine qa ?_) | refine ql ?_ | ((first | refine hK _ ?_ | (clear hK K; refine hK _ ?_) | (clear hK K; clear hK K; refine hK _ ?_)); clear hK K) | refine qd ?_)
          exact ⟨n + 1, by omega, by omega, by rw [hsame hh]; simp⟩
      · obtain rfl : n = H.length := by omega
        rw [GL]
        clear Gl Gn Gs G0 GL
        have hsl4 : ∀ k, (∀ m, m < k → i < E.getD (s.holds.getD m 0) 0 ∨ s.tys.getD m 0 ≠ t) → k ≤ s.holds.length → (k = s.holds.length ∨ ¬ (i < E.getD (s.holds.getD k 0) 0 ∨ s.tys.getD k 0 ≠ t)) → slot E i t s.holds s.tys = k := fun k => slot_uniq s2
        generalize hsk : slot E i t s.holds s.tys = sk at *
        obtain ⟨P, hP⟩ : ∃ P : Nat → Prop, P = fun m => i < E.getD (s.holds.getD m 0) 0 ∨ s.tys.getD m 0 ≠ t := ⟨_, rfl⟩
        replace hsl4 : ∀ k, (∀ m, m < k → P m) → k ≤ s.holds.length → (k = s.holds.length ∨ ¬ P k) → sk = k := by rw [hP]; exact hsl4
        have hPk : ∀ k, P k ↔ (i < E.getD (s.holds.getD k 0) 0 ∨ s.tys.getD k 0 ≠ t) := fun k => by rw [hP]
        clear hP
        rw [s7, ← hFl]
        repeat' (first | ((first | ((with_reducible refine qo (fun hg => ?_) (fun hg => ?_)) <;> (try simp only [hg]) <;> (try simp only [gS] at hg) <;> (try (first | simp only [eq_false hg, gI] | simp only [eq_true hg, gI]))) | (with_reducible first | refine qc ?_ | refine qb ?_ | refine qi ?_ | refine qh ?_) | refine qe ?_ | refine qj ?_ | refine qk ?_ | refine qm ?_) <;> (try simp (disch := first | omega | simp) [qg, -qq, -qs, hnl, t0, t1, ht])) | ((with_reducible refine sideT ?_ ?_); first | omega | assumption | (simp; done)) | (refine qf fun K hK => ?_) | (refine qa ?_) | refine ql ?_ | ((first | refine hK _ ?_ | (clear hK K; refine hK _ ?_) | (clear hK K; clear hK K; refine hK _ ?_)); clear hK K) | refine qd ?_)
        refine qr hcl (fun k : Nat => [(1, .ptr n0 0), (2, .ptr (n0 + 1) 0), (3, .ptr (n0 + 2) 0), (4, .own (n0 + 3) ins.length), (5, .own (n0 + 7) F.length), (6, .int i), (7, .ptr (n0 + 8) 0), (12, .int t), (13, .int k)])
          (fun k => [.cells [.sl (ins.map Ins.av), .sl (types.map AV.int), .int out] 25, .cells [.v (.slice none 0 0), .v (.slice none 0 0), .int 0] 25,
            .cells [.gs (n0 + 4) (s.ins.map Ins.av), .gs (n0 + 5) (s.tys.map AV.int), .int 0] 25, .vec (natAv s.place) 3 1, .tail s.ins.length 32 7, .tail s.tys.length 3 1, .dead, .vec (F.map AV.int) 3 1,
            .cells [.int x.op, .int x.tgt, .int (Y src.length 0), .int (Y src.length 1), .int (Y src.length 2), .int x.n, .str x.s] 32])
          (fun k => k ≤ F.length ∧ ∀ m, m < k → P m) (fun k => F.length - k) 0 ⟨by omega, fun m hm => by omega⟩ (by simp) fun k ⟨hk, hkm⟩ => ?_
        have hz1 : (F.length + 1) * 8 ≤ 140737488355328 := by omega
        have hz2 : (s.tys.length + 1) * 8 ≤ 140737488355328 := by omega
        have hz3 : (s.ins.length + 1) * 56 ≤ 140737488355328 := by omega
        have hip : i < s.place.length := by omega
        have hgT : ∀ m (h : m < s.tys.length), s.tys.getD m 0 = s.tys[m] := fun m h => by rw [List.getD_eq_getElem?_getD, List.getElem?_eq_getElem h]; rfl
        by_cases hlk : k < F.length
        · have hlk2 : k < s.tys.length := by omega
          have hm : ¬ (F.length : Int) - 1 < k := by omega
          have hkn : ¬ (k : Int) = F.length := by omega
          have hkn2 : ¬ k = F.length := by omega
          have hfa := hFa k hlk
          have g3 := hgT k hlk2
          have hpk := hPk k
          have hskk := hsl4 k hkm (by omega)
          rw [g3] at hpk
          by_cases hE : E.getD (s.holds.getD k 0) 0 ≤ i
          · rw [if_pos hE] at hfa
            by_cases hc2 : s.tys[k] = t
            · have hskk : sk = k := hskk (.inr fun hp => by
                rcases hpk.1 hp with hp | hp
                · omega
                · exact hp hc2)
              rw [hskk, if_neg (by omega), if_neg (by omega)] at hSi
              repeat' (first | ((first | ((with_reducible refine qo (fun hg => ?_) (fun hg => ?_)) <;> (try simp only [hg]) <;> (try simp only [gS] at hg) <;> (try (first | simp only [eq_false hg, gI] | simp only [eq_true hg, gI]))) | (with_reducible first | refine qc ?_ | refine qb ?_ | refine qi ?_ | refine qh ?_) | refine qe ?_ | refine qj ?_ | refine qk ?_ | refine qm ?_) <;> (try simp (disch := first | omega | simp) [qg, -qq, -qs, hlk, hlk2, hfa, hm, hc2, hkn, hkn2, hz3, s5, hip, hlt])) | ((with_reducible refine sideT ?_ ?_); first | omega | assumption | (simp; done)) | (refine qf fun K hK => ?_) | (refine qa ?_) | refine ql ?_ | ((first | refine hK _ ?_ | (clear hK K; refine hK _ ?_) | (clear hK K; clear hK K; refine hK _ ?_)); clear hK K) | refine qd ?_)
              all_goals first | exact absurd hc2 (by assumption) | exact absurd (by assumption) hkn | exact absurd (by assumption) hkn2 | skip
              refine ⟨i + 1, ⟨s.ins ++ [newI x args k], s.holds.set k i, s.tys, s.place.set i k⟩, F.set k i, ⟨by omega, hSi, by simp [s1], by simp [s2], by simp; omega, fun q hq => ?_, by simp [s5], by rw [hF]; exact RelH.put (by omega)⟩, by omega, ?_⟩
              · rcases List.mem_or_eq_of_mem_set hq with hq | rfl
                · have := s4 q hq; omega
                · omega
              · simp [Y2, Ins.av, -Ins.av_fold, qce]
            · have hstep : ∀ m, m < k + 1 → P m := fun m hm => by
                by_cases hmk : m = k
                · subst hmk; exact hpk.2 (.inr hc2)
                · exact hkm m (by omega)
              repeat' (first | ((first | ((with_reducible refine qo (fun hg => ?_) (fun hg => ?_)) <;> (try simp only [hg]) <;> (try simp only [gS] at hg) <;> (try (first | simp only [eq_false hg, gI] | simp only [eq_true hg, gI]))) | (with_reducible first | refine qc ?_ | refine qb ?_ | refine qi ?_ | refine qh ?_) | refine qe ?_ | refine qj ?_ | refine qk ?_ | refine qm ?_) <;> (try simp (disch := first | omega | simp) [qg, -qq, -qs, hlk, hlk2, hfa, hm, hc2])) | ((with_reducible refine sideT ?_ ?_); first | omega | assumption | (simp; done)) | (refine qf fun K hK => ?_) | (refine qa ?_) | refine ql ?_ | ((first | refine hK _ ?_ | (clear hK K; refine hK _ ?_) | (clear hK K; clear hK K; refine hK _ ?_)); clear hK K) | refine qd ?_)
              all_goals first | exact absurd (by assumption) hc2 | exact absurd rfl (by assumption) | exact ⟨k + 1, ⟨by omega, hstep⟩, by omega, by simp⟩ | skip
          · rw [if_neg hE] at hfa
            have hstep : ∀ m, m < k + 1 → P m := fun m hm => by
              by_cases hmk : m = k
              · subst hmk; exact hpk.2 (.inl (by omega))
              · exact hkm m (by omega)
            repeat' (first | ((first | ((with_reducible refine qo (fun hg => ?_) (fun hg => ?_)) <;> (try simp only [hg]) <;> (try simp only [gS] at hg) <;> (try (first | simp only [eq_false hg, gI] | simp only [eq_true hg, gI]))) | (with_reducible first | refine qc ?_ | refine qb ?_ | refine qi ?_ | refine qh ?_) | refine qe ?_ | refine qj ?_ | refine qk ?_ | refine qm ?_) <;> (try simp (disch := first | omega | simp) [qg, -qq, -qs, hlk, hlk2, hfa, hm])) | ((with_reducible refine sideT ?_ ?_); first | omega | assumption | (simp; done)) | (refine qf fun K hK => ?_) | (refine qa ?_) | refine ql ?_ | ((first | refine hK _ ?_ | (clear hK K; refine hK _ ?_) | (clear hK K; clear hK K; refine hK _ ?_)); clear hK K) | refine qd ?_)
            exact ⟨k + 1, ⟨by omega, hstep⟩, by omega, by simp⟩
        · obtain rfl : k = F.length := by omega
          have hskk : sk = s.holds.length := hsl4 _ (fun m hm => hkm m (by omega)) (Nat.le_refl _) (.inl rfl)
          rw [hskk, if_pos rfl, if_pos rfl] at hSi
          have hap : (F.map AV.int ++ [AV.int (-1)]).set F.length (AV.int i) = (F ++ [(i : Int)]).map AV.int := by simp
          repeat' (first | ((first | ((with_reducible refine qo (fun hg => ?_) (fun hg => ?_)) <;> (try simp only [hg]) <;> (try simp only [gS] at hg) <;> (try (first | simp only [eq_false hg, gI] | simp only [eq_true hg, gI]))) | (with_reducible first | refine qc ?_ | refine qb ?_ | refine qi ?_ | refine qh ?_) | refine awp_regionW (id := 28) 2 (by rfl) ?_ | refine qe ?_ | refine qj ?_ | refine qk ?_ | refine qm ?_) <;> (try simp (disch := first | omega | simp) [qg, -qq, -qs, hlk, hz1, hz2, hz3, s5, hip, hlt, hap, List.take_succ_cons, List.drop_succ_cons])) | ((with_reducible refine sideT ?_ ?_); first | omega | assumption | (simp; done)) | (refine qf fun K hK => ?_) | (refine qa ?_) | refine ql ?_ | ((first | refine hK _ ?_ | (clear hK K; refine hK _ ?_) | (clear hK K; clear hK K; refine hK _ ?_)); clear hK K) | refine qd ?_)
          refine ⟨i + 1, ⟨s.ins ++ [newI x args s.holds.length], s.holds ++ [i], s.tys ++ [t], s.place.set i s.holds.length⟩, F ++ [(i : Int)], ⟨by omega, hSi, by simp [s1], by simp [s2], by simp; omega, fun q hq => ?_, by simp [s5], by rw [hF]; exact RelH.more⟩, by omega, ?_⟩
          · rcases List.mem_append.1 hq with hq | hq
            · have := s4 q hq; omega
            · rw [List.mem_singleton] at hq; omega
          · simp [Y2, Ins.av, -Ins.av_fold, qce, natAv_snoc, hFl]
  · obtain rfl : i = ins.length := by omega
    rw [List.drop_of_length_le (by omega), compI] at hSi
    subst hSi
    have hrp : root < S.place.length := by omega
    have hgp : S.place.getD root 0 = S.place[root] := by rw [List.getD_eq_getElem?_getD, List.getElem?_eq_getElem hrp]; rfl
    rw [hgp] at hR
    repeat' (first | ((first | ((with_reducible refine qo (fun hg => ?_) (fun hg => ?_)) <;> (try simp only [hg]) <;> (try simp only [gS] at hg) <;> (try (first | simp only [eq_false hg, gI] | simp only [eq_true hg, gI]))) | (with_reducible first | refine qc ?_ | refine qb ?_ | refine qi ?_ | refine qh ?_) | refine acall (c4) ?_ | refine qp (c4) ?_ | refine qe ?_ | refine qj ?_ | refine qk ?_ | refine qm ?_) <;> (try simp (disch := first | omega | simp) [qg, -qq, -qs, hlt, s5, hro, hrp])) | ((with_reducible refine sideT ?_ ?_); first | omega | assumption | (simp; done)) | (refine qf fun K hK => ?_) | (refine qa ?_) | refine ql ?_ | ((first | refine hK _ ?_ | (clear hK K; refine hK _ ?_) | (clear hK K; clear hK K; refine hK _ ?_)); clear hK K) | refine qd ?_)
    rw [hR]; rfl
end Go.Proofs.YtgpcpmfdklpifaaGreatDoor
