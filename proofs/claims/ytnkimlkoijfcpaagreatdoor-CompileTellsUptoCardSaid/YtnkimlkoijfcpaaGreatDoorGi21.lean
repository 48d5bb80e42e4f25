/- Walks of layer 25: Trim, of the reference. -/
import Derived.Test.YtnkimlkoijfcpaaGreatDoorGi16
import Derived.Test.YtnkimlkoijfcpaaGreatDoorGi20
set_option linter.unusedSimpArgs false
set_option linter.unusedVariables false
namespace Go.Proofs.YtnkimlkoijfcpaaGreatDoor
open Go.RowKit Go.Lib
set_option maxHeartbeats 4000000 in
theorem rtrim_g {c : Cod} {cols : List Int} (h : CodOk c cols) : Gives Tryz.prog 119 [c.av] (trimP c).av := by
  have c1 := rneeded_g h
  have hnt := h.nt
  have hni := h.ni
  have hnl : (needP (qv c) (rootC c)).length = c.ins.length := by rw [needP_len]; unfold qv; exact qbp _ _ _
  unfold trimP
  generalize needP (qv c) (rootC c) = need at *
  obtain ⟨ins, types, out⟩ := c
  simp only at hnt hni hnl
  have hz1 : types.length * 8 ≤ 140737488355328 := by omega
  have w1 : AV.wid (types.map AV.int) 1 := AV.wid_ints types
  have w2 : AV.elms (types.map AV.int) := AV.elms_ints types
  refine qn Tryz.func119 Tryz.ntmps119 rfl rfl (by decide) rfl (by intro n; simp) fun σ n0 hcl hft => ?_
  repeat' (first | ((first | ((with_reducible refine qo (fun hg => ?_) (fun hg => ?_)) <;> (try simp only [hg]) <;> (try simp only [gS] at hg) <;> (try (first | simp only [eq_false hg, gI] | simp only [eq_true hg, gI]))) | (with_reducible first | refine qf ?_ | refine qe ?_ | refine qk ?_ | refine qj ?_) | refine acall (c1) ?_ | refine qp (c1) ?_ | refine qc ?_ | refine qh ?_ | refine qi ?_ | refine qm ?_) <;> (try simp (disch := first | omega | simp) [qg, -qq, -qr, hz1, w1, w2])) | (with_reducible refine awp_anyQ (id := 2) [] 0 [.R, .M, .M, .R, .M, .M, .R, .M, .W] (by kernel_rfl) (by kernel_rfl) (by simp) ?_) | ((with_reducible refine sideT ?_ ?_); first | omega | assumption | (simp; done)) | (refine qd fun K hK => ?_) | (refine qa ?_) | refine ql ?_ | ((first | refine hK _ ?_ | (clear hK K; refine hK _ ?_) | (clear hK K; clear hK K; refine hK _ ?_)); clear hK K) | refine qb ?_)
  refine qbf 2 0 78 7 (by rfl) (by rfl) ?_
  obtain ⟨F, hF⟩ : ∃ F : Nat → List Ins, F = fun k => trimI need (ins.take k) 0 := ⟨_, rfl⟩
  have F0 : F 0 = [] := by rw [hF]; rfl
  have F1 : ∀ k (h : k < ins.length), F (k + 1) = F k ++ if need[k]'(by omega) then [ins[k]] else [] := fun k h => by
    have hg : need.getD k false = need[k]'(by omega) := by rw [List.getD_eq_getElem?_getD, List.getElem?_eq_getElem (by omega)]; rfl
    rw [hF]; dsimp only
    rw [List.take_succ_eq_append_getElem h, trimI_snoc, Nat.zero_add, List.length_take, Nat.min_eq_left (by omega), hg]
  have F2 : F ins.length = trimI need ins 0 := by rw [hF]; dsimp only; rw [List.take_length]
  have FL : ∀ k, (F k).length ≤ ins.length := fun k => by
    rw [hF]; have := trimI_le need (ins.take k) 0; rw [List.length_take] at this; dsimp only; omega
  clear hF
  refine qs hcl (fun k : Nat => [(1, .ptr n0 0), (2, .ptr (n0 + 1) 0), (3, .sl (need.map AV.bool)), (4, .ptr (n0 + 2) 0), (5, .int k)])
    (fun k => [.cells [.sl (ins.map Ins.av), .sl (types.map AV.int), .int out] 45, .cells [.v (.slice none 0 0), .v (.slice none 0 0), .int 0] 45, .cells [.gs (n0 + 3) ((F k).map Ins.av), .sl (types.map AV.int), .int out] 45, .tail (F k).length 78 7])
    (fun k => k ≤ ins.length) (fun k => ins.length - k) 0 (by omega) (by simp [F0]) fun k hk => ?_
  by_cases hlt : k < ins.length
  · have hlt2 : k < need.length := by omega
    have f1 := F1 k hlt
    have fl := FL k
    have hz : ((F k).length + 1) * 56 ≤ 140737488355328 := by omega
    cases hnk : need[k]'(by omega)
    · rw [hnk] at f1
      repeat' (first | ((first | ((with_reducible refine qo (fun hg => ?_) (fun hg => ?_)) <;> (try simp only [hg]) <;> (try simp only [gS] at hg) <;> (try (first | simp only [eq_false hg, gI] | simp only [eq_true hg, gI]))) | (with_reducible first | refine qf ?_ | refine qe ?_ | refine qk ?_ | refine qj ?_) | refine qc ?_ | refine qh ?_ | refine qi ?_ | refine qm ?_) <;> (try simp (disch := first | omega | simp) [qg, -qq, -qr, hlt, hlt2, hnk, hz])) | (with_reducible refine qdd (id := 7) false (by kernel_rfl) (by kernel_rfl) ?_) | ((with_reducible refine sideT ?_ ?_); first | omega | assumption | (simp; done)) | (refine qd fun K hK => ?_) | (refine qa ?_) | refine ql ?_ | ((first | refine hK _ ?_ | (clear hK K; refine hK _ ?_) | (clear hK K; clear hK K; refine hK _ ?_)); clear hK K) | refine qb ?_)
      all_goals first | (refine ⟨k + 1, by omega, by omega, ?_⟩; rw [f1]; simp; done) | (exfalso; simp_all; done)
    · rw [hnk] at f1
      repeat' (first | ((first | ((with_reducible refine qo (fun hg => ?_) (fun hg => ?_)) <;> (try simp only [hg]) <;> (try simp only [gS] at hg) <;> (try (first | simp only [eq_false hg, gI] | simp only [eq_true hg, gI]))) | (with_reducible first | refine qf ?_ | refine qe ?_ | refine qk ?_ | refine qj ?_) | refine qc ?_ | refine qh ?_ | refine qi ?_ | refine qm ?_) <;> (try simp (disch := first | omega | simp) [qg, -qq, -qr, hlt, hlt2, hnk, hz])) | (with_reducible refine qdd (id := 7) false (by kernel_rfl) (by kernel_rfl) ?_) | ((with_reducible refine sideT ?_ ?_); first | omega | assumption | (simp; done)) | (refine qd fun K hK => ?_) | (refine qa ?_) | refine ql ?_ | ((first | refine hK _ ?_ | (clear hK K; refine hK _ ?_) | (clear hK K; clear hK K; refine hK _ ?_)); clear hK K) | refine qb ?_)
      all_goals first | (refine ⟨k + 1, by omega, by omega, ?_⟩; rw [f1]; simp; done) | (exfalso; simp_all; done)
  · obtain rfl : k = ins.length := by omega
    repeat' (first | ((first | ((with_reducible refine qo (fun hg => ?_) (fun hg => ?_)) <;> (try simp only [hg]) <;> (try simp only [gS] at hg) <;> (try (first | simp only [eq_false hg, gI] | simp only [eq_true hg, gI]))) | (with_reducible first | refine qf ?_ | refine qe ?_ | refine qk ?_ | refine qj ?_) | refine qc ?_ | refine qh ?_ | refine qi ?_ | refine qm ?_) <;> (try simp (disch := first | omega | simp) [qg, -qq, -qr, hlt])) | ((with_reducible refine sideT ?_ ?_); first | omega | assumption | (simp; done)) | (refine qd fun K hK => ?_) | (refine qa ?_) | refine ql ?_ | ((first | refine hK _ ?_ | (clear hK K; refine hK _ ?_) | (clear hK K; clear hK K; refine hK _ ?_)); clear hK K) | refine qb ?_)
    rw [F2]; rfl
end Go.Proofs.YtnkimlkoijfcpaaGreatDoor

/- Walk of layer 25: Compact. -/
namespace Go.Proofs.YtnkimlkoijfcpaaGreatDoor
open Go.RowKit Go.Lib
theorem qcj (l : List Nat) (i v : Nat) : natAv (l.set i v) = (natAv l).set i (.int v) := by unfold natAv; rw [List.map_set]
theorem natAv_snoc (l : List Nat) (v : Nat) : natAv (l ++ [v]) = natAv l ++ [.int v] := by unfold natAv; rw [List.map_append]; rfl
theorem natAv_rep (n : Nat) : natAv (List.replicate n 0) = List.replicate n (.int 0) := by unfold natAv; rw [List.map_replicate]; rfl
def endS (i : Nat) (e : List Nat) (src : List Nat) : List Nat := src.foldl (fun e k => e.set k i) e
theorem endS_snoc (i : Nat) (e src : List Nat) (k : Nat) : endS i e (src ++ [k]) = (endS i e src).set k i := by unfold endS; rw [List.foldl_append]; rfl
theorem endS_len (i : Nat) : ∀ (src e : List Nat), (endS i e src).length = e.length
  | [], _ => rfl
  | k :: src, e => by unfold endS; rw [List.foldl_cons]; have := endS_len i src (e.set k i); unfold endS at this; rw [this, List.length_set]
theorem slot_uniq {e : List Nat} {i : Nat} {t : Int} {hs : List Nat} {us : List Int} (hl : hs.length = us.length) {k : Nat} (h : ∀ m, m < k → i < e.getD (hs.getD m 0) 0 ∨ us.getD m 0 ≠ t) (hk : k ≤ hs.length)
    (h2 : k = hs.length ∨ ¬ (i < e.getD (hs.getD k 0) 0 ∨ us.getD k 0 ≠ t)) : slot e i t hs us = k := by
  obtain ⟨h3, h4, h5⟩ := slot_spec e i t hs us hl
  rcases Nat.lt_trichotomy (slot e i t hs us) k with h6 | h6 | h6
  · have h7 := h _ h6
    have h8 := h4 (by omega)
    rcases h7 with h7 | h7
    · omega
    · exact absurd h8.2 h7
  · exact h6
  · have h7 := h5 k h6
    rcases h2 with h2 | h2
    · omega
    · exact absurd h7 h2
set_option maxHeartbeats 8000000 in
theorem compact_g {c : Cod} {cols : List Int} (h : CodOk c cols) : Gives Tryz.prog 22 [c.av] (compP c).av := by
  have c1 := trim_g h
  obtain ⟨hd, -, -⟩ := trim_ok h 0 []
  have c2 := sources_g hd
  have hro := (hd.val_res 0 []).1
  have hdl : (qv (trimP c)).length = (trimP c).ins.length := by unfold qv; exact qbp _ _ _
  have hea := hd.early
  have hs3 : ∀ d ∈ qv (trimP c), d.src.length ≤ 3 := nodes_src _ _ _
  have hxs : ∀ k (h1 : k < (qv (trimP c)).length) (h2 : k < (trimP c).ins.length), ((qv (trimP c))[k]).x = (trimP c).ins[k] := by
    have : ∀ (l : List Ins) (i : Nat) (last : List Nat) (k : Nat) (h1 : k < (nodes l i last).length) (h2 : k < l.length), ((nodes l i last)[k]).x = l[k] := fun l => by
      induction l with
      | nil => intro _ _ k h1 h2; simp at h2
      | cons x l ih =>
        intro i last k h1 h2
        cases k with
        | zero => rfl
        | succ k => exact ih (i + 1) _ k _ _
    exact this _ _ _
  have hto : ∀ x ∈ (trimP c).ins, 0 ≤ x.to ∧ x.to < (trimP c).types.length := by
    have : ∀ (l : List Ins) (done : List Bool), AllOk cols (trimP c).types l done → ∀ x ∈ l, 0 ≤ x.to ∧ x.to < (trimP c).types.length := fun l => by
      induction l with
      | nil => intro _ _ x hx; cases hx
      | cons y l ih =>
        intro done ha x hx
        rcases List.mem_cons.1 hx with rfl | hx
        · exact ⟨ha.1.to0, ha.1.to1⟩
        · exact ih _ ha.2 x hx
    exact this _ _ hd.all
  have hni := hd.ni
  have hnt := hd.nt
  obtain ⟨R, hR⟩ : ∃ R, R = compP c := ⟨_, rfl⟩
  rw [← hR]
  unfold compP compS at hR
  dsimp only at hR
  generalize qv (trimP c) = ds at *
  generalize rootC (trimP c) = root at *
  generalize trimP c = d at *
  obtain ⟨ins, types, out⟩ := d
  obtain ⟨cins, ctypes, cout⟩ := c
  simp only at hro hdl hni hnt hxs hto hR
  have hsz1 : 8 * ins.length ≤ 281474976710656 := by omega
  have hsz2 : 1 * ins.length ≤ 281474976710656 := by omega
  refine qn Tryz.func22 Tryz.ntmps22 rfl rfl (by decide) rfl (by intro n; simp) fun σ n0 hcl hft => ?_
  repeat' (first | ((first | ((with_reducible refine qo (fun hg => ?_) (fun hg => ?_)) <;> (try simp only [hg]) <;> (try simp only [gS] at hg) <;> (try (first | simp only [eq_false hg, gI] | simp only [eq_true hg, gI]))) | (with_reducible first | refine qf ?_ | refine qe ?_ | refine qk ?_ | refine qj ?_) | refine acall (c1) ?_ | refine qp (c1) ?_ | refine acall (c2) ?_ | refine qp (c2) ?_ | refine qc ?_ | refine qh ?_ | refine qi ?_ | refine qm ?_) <;> (try simp (disch := first | omega | simp) [qg, -qq, -qr, hsz1, hsz2])) | ((with_reducible refine sideT ?_ ?_); first | omega | assumption | (simp; done)) | (refine qd fun K hK => ?_) | (refine qa ?_) | refine ql ?_ | ((first | refine hK _ ?_ | (clear hK K; refine hK _ ?_) | (clear hK K; clear hK K; refine hK _ ?_)); clear hK K) | refine qb ?_)
  obtain ⟨EI, hEI⟩ : ∃ EI, EI = endI ds 0 (List.replicate ins.length 0) := ⟨_, rfl⟩
  refine qs hcl (fun b : Nat × List Nat => [(1, .ptr n0 0), (2, .ptr (n0 + 1) 0), (3, .sl (srcAv ds)), (4, .int root), (5, .own (n0 + 2) ins.length), (31, .sl (srcAv ds)), (32, .int ds.length), (33, .int b.1)])
    (fun b => [.cells [.sl (ins.map Ins.av), .sl (types.map AV.int), .int out] 45, .cells [.v (.slice none 0 0), .v (.slice none 0 0), .int 0] 45, .vec (natAv b.2) 3 1])
    (fun b => b.1 ≤ ins.length ∧ b.2.length = ins.length ∧ EI = endI (ds.drop b.1) b.1 b.2) (fun b => ins.length - b.1) (0, List.replicate ins.length 0) ⟨by omega, by simp, hEI⟩ (by simp [natAv_rep]) fun ⟨k, e⟩ ⟨hk, hel, he⟩ => ?_
  dsimp only at hk hel he
  by_cases hlt : k < ins.length
  · have hltd : k < ds.length := by omega
    have hsd : (ds.getD k ⟨⟨0, 0, 0, 0, 0, 0, ByteArray.empty⟩, []⟩).src = ds[k].src := by rw [List.getD_eq_getElem?_getD, List.getElem?_eq_getElem hltd]; rfl
    have hse : ∀ j ∈ ds[k].src, j < k := fun j hj => hea k hltd j (by unfold srcOf; rw [hsd]; exact hj)
    have hsl3 := hs3 ds[k] (List.getElem_mem _)
    rw [List.drop_eq_getElem_cons hltd, endI] at he
    change EI = endI (ds.drop (k + 1)) (k + 1) (endS k (e.set k k) ds[k].src) at he
    generalize hsrc : ds[k].src = src at *
    repeat' (first | ((first | ((with_reducible refine qo (fun hg => ?_) (fun hg => ?_)) <;> (try simp only [hg]) <;> (try simp only [gS] at hg) <;> (try (first | simp only [eq_false hg, gI] | simp only [eq_true hg, gI]))) | (with_reducible first | refine qf ?_ | refine qe ?_ | refine qk ?_ | refine qj ?_) | refine qc ?_ | refine qh ?_ | refine qi ?_ | refine qm ?_) <;> (try simp (disch := first | omega | simp) [qg, -qq, -qr, hltd, hel, hsrc, hlt])) | ((with_reducible refine sideT ?_ ?_); first | omega | assumption | (simp; done)) | (refine qd fun K hK => ?_) | (refine qa ?_) | refine ql ?_ | ((first | refine hK _ ?_ | (clear hK K; refine hK _ ?_) | (clear hK K; clear hK K; refine hK _ ?_)); clear hK K) | refine qb ?_)
    refine qs hcl (fun j : Nat => [(1, .ptr n0 0), (2, .ptr (n0 + 1) 0), (3, .sl (srcAv ds)), (4, .int root), (5, .own (n0 + 2) ins.length), (6, .int k), (31, .sl (srcAv ds)), (32, .int ds.length), (33, .int k), (42, .sl (natAv src)), (43, .int src.length), (44, .int j)])
      (fun j => [.cells [.sl (ins.map Ins.av), .sl (types.map AV.int), .int out] 45, .cells [.v (.slice none 0 0), .v (.slice none 0 0), .int 0] 45, .vec (natAv (endS k (e.set k k) (src.take j))) 3 1])
      (fun j => j ≤ src.length) (fun j => src.length - j) 0 (by omega) (by simp [endS, qcj]; exact cls_set (natAv_cl _ _) (by simp)) fun j hj => ?_
    have hl2 : (endS k (e.set k k) (src.take j)).length = ins.length := by rw [endS_len, List.length_set]; exact hel
    by_cases hlt2 : j < src.length
    · have hs1 := hse src[j] (List.getElem_mem _)
      have hs2 : src[j] < ins.length := by omega
      have hsn : endS k (e.set k k) (src.take (j + 1)) = (endS k (e.set k k) (src.take j)).set src[j] k := by rw [List.take_succ_eq_append_getElem hlt2, endS_snoc]
      repeat' (first | ((first | ((with_reducible refine qo (fun hg => ?_) (fun hg => ?_)) <;> (try simp only [hg]) <;> (try simp only [gS] at hg) <;> (try (first | simp only [eq_false hg, gI] | simp only [eq_true hg, gI]))) | (with_reducible first | refine qf ?_ | refine qe ?_ | refine qk ?_ | refine qj ?_) | refine qc ?_ | refine qh ?_ | refine qi ?_ | refine qm ?_) <;> (try simp (disch := first | omega | simp) [qg, -qq, -qr, hlt2, hl2, hs2])) | ((with_reducible refine sideT ?_ ?_); first | omega | assumption | (simp; done)) | (refine qd fun K hK => ?_) | (refine qa ?_) | refine ql ?_ | ((first | refine hK _ ?_ | (clear hK K; refine hK _ ?_) | (clear hK K; clear hK K; refine hK _ ?_)); clear hK K) | refine qb ?_)
      refine ⟨j + 1, by omega, by omega, ?_⟩
      rw [hsn]; simp [qcj]
    · obtain rfl : j = src.length := by omega
      rw [List.take_length] at hl2 ⊢
      repeat' (first | ((first | ((with_reducible refine qo (fun hg => ?_) (fun hg => ?_)) <;> (try simp only [hg]) <;> (try simp only [gS] at hg) <;> (try (first | simp only [eq_false hg, gI] | simp only [eq_true hg, gI]))) | (with_reducible first | refine qf ?_ | refine qe ?_ | refine qk ?_ | refine qj ?_) | refine qc ?_ | refine qh ?_ | refine qi ?_ | refine qm ?_) <;> (try simp (disch := first | omega | simp) [qg, -qq, -qr, hlt2])) | ((with_reducible refine sideT ?_ ?_); first | omega | assumption | (simp; done)) | (refine qd fun K hK => ?_) | (refine qa ?_) | refine ql ?_ | ((first | refine hK _ ?_ | (clear hK K; refine hK _ ?_) | (clear hK K; clear hK K; refine hK _ ?_)); clear hK K) | refine qb ?_)
      refine ⟨k + 1, endS k (e.set k k) src, ⟨by omega, hl2, he⟩, by omega, ?_⟩
      simp
  · obtain rfl : k = ins.length := by omega
    rw [List.drop_of_length_le (by omega), endI] at he
    subst he
    have hltd : ¬ ins.length < ds.length := by omega
    repeat' (first | ((first | ((with_reducible refine qo (fun hg => ?_) (fun hg => ?_)) <;> (try simp only [hg]) <;> (try simp only [gS] at hg) <;> (try (first | simp only [eq_false hg, gI] | simp only [eq_true hg, gI]))) | (with_reducible first | refine qf ?_ | refine qe ?_ | refine qk ?_ | refine qj ?_) | refine qc ?_ | refine qh ?_ | refine qi ?_ | refine qm ?_) <;> (try simp (disch := first | omega | simp) [qg, -qq, -qr, hltd, hel, hro, hsz1, hsz2])) | ((with_reducible refine sideT ?_ ?_); first | omega | assumption | (simp; done)) | (refine qd fun K hK => ?_) | (refine qa ?_) | refine ql ?_ | ((first | refine hK _ ?_ | (clear hK K; refine hK _ ?_) | (clear hK K; clear hK K; refine hK _ ?_)); clear hK K) | refine qb ?_)
    obtain ⟨E, hE⟩ : ∃ E, E = EI.set root ins.length := ⟨_, rfl⟩
    have hEl : E.length = ins.length := by rw [hE, List.length_set]; exact hel
    obtain ⟨S, hS⟩ : ∃ S, S = compI E types ds 0 ⟨[], [], [], List.replicate ins.length 0⟩ := ⟨_, rfl⟩
    have hR2 : R = ⟨S.ins, S.tys, (S.place.getD root 0 : Nat)⟩ := by rw [hR, hS, hE, hEI, endP, hdl]
    clear hR hEI
    refine qbf 3 0 78 7 (by rfl) (by rfl) ?_
    refine qbf 3 1 3 1 (by rfl) (by rfl) ?_
    refine qbk 12 3 1 (by simp) ?_
    refine awp_thawR 12 7 (et := 3) (sz := 1) (by simp) (by rfl) ?_
    refine qs hcl (fun b : Nat × CompS => [(1, .ptr n0 0), (2, .ptr (n0 + 1) 0), (3, .sl (srcAv ds)), (4, .int root), (5, .own (n0 + 2) ins.length), (10, .ptr (n0 + 3) 0), (11, .own (n0 + 4) ins.length), (12, .own (n0 + 8) b.2.holds.length), (65, .sl (ins.map Ins.av)), (66, .int ins.length), (67, .int b.1)])
      (fun b => [.cells [.sl (ins.map Ins.av), .sl (types.map AV.int), .int out] 45, .cells [.v (.slice none 0 0), .v (.slice none 0 0), .int 0] 45, .vec (natAv E) 3 1,
        .cells [.gs (n0 + 5) (b.2.ins.map Ins.av), .gs (n0 + 6) (b.2.tys.map AV.int), .int 0] 45, .vec (natAv b.2.place) 3 1, .tail b.2.ins.length 78 7, .tail b.2.tys.length 3 1, .dead, .vec (natAv b.2.holds) 3 1])
      (fun b => b.1 ≤ ins.length ∧ S = compI E types (ds.drop b.1) b.1 b.2 ∧ b.2.ins.length = b.1 ∧ b.2.holds.length = b.2.tys.length ∧ b.2.holds.length ≤ b.1 ∧ (∀ q ∈ b.2.holds, q < b.1) ∧ b.2.place.length = ins.length)
      (fun b => ins.length - b.1) (0, ⟨[], [], [], List.replicate ins.length 0⟩) ⟨by omega, hS, rfl, rfl, by simp, by simp, by simp⟩ (by simp [hE, qcj, natAv_rep, show natAv ([] : List Nat) = [] from rfl]; exact cls_set (natAv_cl _ _) (by simp)) fun ⟨i, s⟩ ⟨hi, hSi, s1, s2, s3, s4, s5⟩ => ?_
    dsimp only at hi hSi s1 s2 s3 s4 s5
    clear hE hel
    by_cases hlt : i < ins.length
    · have hltd : i < ds.length := by omega
      have hsd : (ds.getD i ⟨⟨0, 0, 0, 0, 0, 0, ByteArray.empty⟩, []⟩).src = ds[i].src := by rw [List.getD_eq_getElem?_getD, List.getElem?_eq_getElem hltd]; rfl
      have hse : ∀ j ∈ ds[i].src, j < i := fun j hj => hea i hltd j (by unfold srcOf; rw [hsd]; exact hj)
      have hsl3 := hs3 ds[i] (List.getElem_mem _)
      have hx := hxs i hltd hlt
      have hxto := hto ins[i] (List.getElem_mem _)
      rw [List.drop_eq_getElem_cons hltd, compI] at hSi
      try dsimp only at hSi
      rw [hx] at hSi
      have htd : types.getD ins[i].to.toNat 0 = types[ins[i].to.toNat]'(by omega) := by rw [List.getD_eq_getElem?_getD, List.getElem?_eq_getElem (by omega)]; rfl
      rw [htd] at hSi
      generalize hsrc : ds[i].src = src at *
      repeat' (first | ((first | ((with_reducible refine qo (fun hg => ?_) (fun hg => ?_)) <;> (try simp only [hg]) <;> (try simp only [gS] at hg) <;> (try (first | simp only [eq_false hg, gI] | simp only [eq_true hg, gI]))) | (with_reducible first | refine qf ?_ | refine qe ?_ | refine qk ?_ | refine qj ?_) | refine qc ?_ | refine qh ?_ | refine qi ?_ | refine qm ?_) <;> (try simp (disch := first | omega | simp) [qg, -qq, -qr, hltd, hlt, hsrc])) | ((with_reducible refine sideT ?_ ?_); first | omega | assumption | (simp; done)) | (refine qd fun K hK => ?_) | (refine qa ?_) | refine ql ?_ | ((first | refine hK _ ?_ | (clear hK K; refine hK _ ?_) | (clear hK K; clear hK K; refine hK _ ?_)); clear hK K) | refine qb ?_)
      obtain ⟨args, hargs⟩ : ∃ args, args = src.map fun j => ((s.place.getD j 0 : Nat) : Int) := ⟨_, rfl⟩
      have hal : args.length = src.length := by rw [hargs, List.length_map]
      have haj : ∀ j (h : j < src.length), args[j]'(by omega) = ((s.place[src[j]]'(by have := hse _ (List.getElem_mem h); omega) : Nat) : Int) := fun j h => by
        have := hse _ (List.getElem_mem h)
        simp only [hargs, List.getElem_map]
        rw [List.getD_eq_getElem?_getD, List.getElem?_eq_getElem (by omega)]; rfl
      rw [← hargs] at hSi
      clear hargs
      obtain ⟨Y, hY⟩ : ∃ Y : Nat → Nat → Int, Y = fun j m => (args.take j).getD m 0 := ⟨_, rfl⟩
      have Y0 : ∀ m, Y 0 m = 0 := fun m => by rw [hY]; simp
      have Y1 : ∀ j m (h : j < src.length), Y (j + 1) m = if m = j then ((s.place[src[j]]'(by have := hse _ (List.getElem_mem h); omega) : Nat) : Int) else Y j m := fun j m h => by
        rw [hY]
        dsimp only
        rw [List.take_succ_eq_append_getElem (by omega), haj j h, qch, List.length_take, Nat.min_eq_left (by omega)]
        by_cases hm : m < j
        · rw [if_pos hm, if_neg (by omega)]
        · rw [if_neg hm]
          by_cases hm2 : m = j
          · rw [if_pos hm2, if_pos hm2]
          · rw [if_neg hm2, if_neg hm2, List.getD_eq_getElem?_getD, List.getElem?_eq_none (by rw [List.length_take]; omega)]; rfl
      have Y2 : ∀ k, newI ins[i] args k = ⟨ins[i].op, k, Y src.length 0, Y src.length 1, Y src.length 2, ins[i].n, ins[i].s⟩ := fun k => by
        rw [hY]; dsimp only; rw [← hal, List.take_length]; rfl
      clear hY haj
      refine qs hcl (fun j : Nat => [(1, .ptr n0 0), (2, .ptr (n0 + 1) 0), (3, .sl (srcAv ds)), (4, .int root), (5, .own (n0 + 2) ins.length), (10, .ptr (n0 + 3) 0), (11, .own (n0 + 4) ins.length), (12, .own (n0 + 8) s.holds.length), (13, .int i), (14, .ptr (n0 + 9) 0), (15, .ptr (n0 + 10) 0), (16, .sl [.ptr (n0 + 10) 2, .ptr (n0 + 10) 3, .ptr (n0 + 10) 4]), (65, .sl (ins.map Ins.av)), (66, .int ins.length), (67, .int i), (86, .sl (natAv src)), (87, .int src.length), (88, .int j)])
        (fun j => [.cells [.sl (ins.map Ins.av), .sl (types.map AV.int), .int out] 45, .cells [.v (.slice none 0 0), .v (.slice none 0 0), .int 0] 45, .vec (natAv E) 3 1,
          .cells [.gs (n0 + 5) (s.ins.map Ins.av), .gs (n0 + 6) (s.tys.map AV.int), .int 0] 45, .vec (natAv s.place) 3 1, .tail s.ins.length 78 7, .tail s.tys.length 3 1, .dead, .vec (natAv s.holds) 3 1,
          .cells [.int ins[i].op, .int ins[i].to, .int ins[i].a, .int ins[i].b, .int ins[i].c, .int ins[i].n, .str ins[i].s] 78,
          .cells [.int ins[i].op, .int 0, .int (Y j 0), .int (Y j 1), .int (Y j 2), .int ins[i].n, .str ins[i].s] 78])
        (fun j => j ≤ src.length) (fun j => src.length - j) 0 (by omega) (by simp [Y0]) fun j hj => ?_
      by_cases hlt2 : j < src.length
      · have hs1 := hse src[j] (List.getElem_mem _)
        have hs2 : src[j] < ins.length := by omega
        have hs3 : src[j] < s.place.length := by omega
        have hj3 : j = 0 ∨ j = 1 ∨ j = 2 := by omega
        have y0 := Y1 j 0 hlt2
        have y1 := Y1 j 1 hlt2
        have y2 := Y1 j 2 hlt2
        have hrp : ∀ (τ : Nat → AB) (r o : Nat), rdAt τ false 1 (.ep (.ptr r o) 0) = some (.ptr r o) := fun _ _ _ => rfl
        rcases hj3 with rfl | rfl | rfl
        · have hq : src ≠ [] := fun e => by rw [e] at hlt2; simp at hlt2
          simp at y0 y1 y2
          repeat' (first | ((first | ((with_reducible refine qo (fun hg => ?_) (fun hg => ?_)) <;> (try simp only [hg]) <;> (try simp only [gS] at hg) <;> (try (first | simp only [eq_false hg, gI] | simp only [eq_true hg, gI]))) | (with_reducible first | refine qf ?_ | refine qe ?_ | refine qk ?_ | refine qj ?_) | refine qc ?_ | refine qh ?_ | refine qi ?_ | refine qm ?_) <;> (try simp (disch := first | omega | simp) [qg, -qq, -qr, hlt2, hq, s5, hs2, hs3, hrp])) | ((with_reducible refine sideT ?_ ?_); first | omega | assumption | (simp; done)) | (refine qd fun K hK => ?_) | (refine qa ?_) | refine ql ?_ | ((first | refine hK _ ?_ | (clear hK K; refine hK _ ?_) | (clear hK K; clear hK K; refine hK _ ?_)); clear hK K) | refine qb ?_)
          refine ⟨1, by omega, by omega, ?_⟩
          simp [y0, y1, y2, qcj]
        · have hq : (1 : Int) < src.length := by omega
          simp at y0 y1 y2
          repeat' (first | ((first | ((with_reducible refine qo (fun hg => ?_) (fun hg => ?_)) <;> (try simp only [hg]) <;> (try simp only [gS] at hg) <;> (try (first | simp only [eq_false hg, gI] | simp only [eq_true hg, gI]))) | (with_reducible first | refine qf ?_ | refine qe ?_ | refine qk ?_ | refine qj ?_) | refine qc ?_ | refine qh ?_ | refine qi ?_ | refine qm ?_) <;> (try simp (disch := first | omega | simp) [qg, -qq, -qr, hlt2, hq, s5, hs2, hs3, hrp])) | ((with_reducible refine sideT ?_ ?_); first | omega | assumption | (simp; done)) | (refine qd fun K hK => ?_) | (refine qa ?_) | refine ql ?_ | ((first | refine hK _ ?_ | (clear hK K; refine hK _ ?_) | (clear hK K; clear hK K; refine hK _ ?_)); clear hK K) | refine qb ?_)
          refine ⟨2, by omega, by omega, ?_⟩
          simp [y0, y1, y2, qcj]
        · have hq : (2 : Int) < src.length := by omega
          simp at y0 y1 y2
          repeat' (first | ((first | ((with_reducible refine qo (fun hg => ?_) (fun hg => ?_)) <;> (try simp only [hg]) <;> (try simp only [gS] at hg) <;> (try (first | simp only [eq_false hg, gI] | simp only [eq_true hg, gI]))) | (with_reducible first | refine qf ?_ | refine qe ?_ | refine qk ?_ | refine qj ?_) | refine qc ?_ | refine qh ?_ | refine qi ?_ | refine qm ?_) <;> (try simp (disch := first | omega | simp) [qg, -qq, -qr, hlt2, hq, s5, hs2, hs3, hrp])) | ((with_reducible refine sideT ?_ ?_); first | omega | assumption | (simp; done)) | (refine qd fun K hK => ?_) | (refine qa ?_) | refine ql ?_ | ((first | refine hK _ ?_ | (clear hK K; refine hK _ ?_) | (clear hK K; clear hK K; refine hK _ ?_)); clear hK K) | refine qb ?_)
          refine ⟨3, by omega, by omega, ?_⟩
          simp [y0, y1, y2, qcj]
      · obtain rfl : j = src.length := by omega
        have t0 := hxto.1
        have t1 := hxto.2
        have hgE : ∀ m (h : m < ins.length), E.getD m 0 = E[m]'(by omega) := fun m h => by rw [List.getD_eq_getElem?_getD, List.getElem?_eq_getElem (by omega)]; rfl
        have hgH : ∀ m (h : m < s.holds.length), s.holds.getD m 0 = s.holds[m] := fun m h => by rw [List.getD_eq_getElem?_getD, List.getElem?_eq_getElem h]; rfl
        have hgT : ∀ m (h : m < s.tys.length), s.tys.getD m 0 = s.tys[m] := fun m h => by rw [List.getD_eq_getElem?_getD, List.getElem?_eq_getElem h]; rfl
        generalize ht : types[ins[i].to.toNat]'(by omega) = t at *
        have hsl4 : ∀ k, (∀ m, m < k → i < E.getD (s.holds.getD m 0) 0 ∨ s.tys.getD m 0 ≠ t) → k ≤ s.holds.length → (k = s.holds.length ∨ ¬ (i < E.getD (s.holds.getD k 0) 0 ∨ s.tys.getD k 0 ≠ t)) → slot E i t s.holds s.tys = k := fun k => slot_uniq s2
        generalize hsk : slot E i t s.holds s.tys = sk at *
        obtain ⟨P, hP⟩ : ∃ P : Nat → Prop, P = fun m => i < E.getD (s.holds.getD m 0) 0 ∨ s.tys.getD m 0 ≠ t := ⟨_, rfl⟩
        replace hsl4 : ∀ k, (∀ m, m < k → P m) → k ≤ s.holds.length → (k = s.holds.length ∨ ¬ P k) → sk = k := by rw [hP]; exact hsl4
        have hPk : ∀ k, P k ↔ (i < E.getD (s.holds.getD k 0) 0 ∨ s.tys.getD k 0 ≠ t) := fun k => by rw [hP]
        clear hP
        repeat' (first | ((first | ((with_reducible refine qo (fun hg => ?_) (fun hg => ?_)) <;> (try simp only [hg]) <;> (try simp only [gS] at hg) <;> (try (first | simp only [eq_false hg, gI] | simp only [eq_true hg, gI]))) | (with_reducible first | refine qf ?_ | refine qe ?_ | refine qk ?_ | refine qj ?_) | refine qc ?_ | refine qh ?_ | refine qi ?_ | refine qm ?_) <;> (try simp (disch := first | omega | simp) [qg, -qq, -qr, hlt2])) | ((with_reducible refine sideT ?_ ?_); first | omega | assumption | (simp; done)) | (refine qd fun K hK => ?_) | (refine qa ?_) | refine ql ?_ | ((first | refine hK _ ?_ | (clear hK K; refine hK _ ?_) | (clear hK K; clear hK K; refine hK _ ?_)); clear hK K) | refine qb ?_)
        refine qs hcl (fun k : Nat => [(1, .ptr n0 0), (2, .ptr (n0 + 1) 0), (3, .sl (srcAv ds)), (4, .int root), (5, .own (n0 + 2) ins.length), (10, .ptr (n0 + 3) 0), (11, .own (n0 + 4) ins.length), (12, .own (n0 + 8) s.holds.length), (13, .int i), (14, .ptr (n0 + 9) 0), (15, .ptr (n0 + 10) 0), (19, .int k), (65, .sl (ins.map Ins.av)), (66, .int ins.length), (67, .int i)])
          (fun k => [.cells [.sl (ins.map Ins.av), .sl (types.map AV.int), .int out] 45, .cells [.v (.slice none 0 0), .v (.slice none 0 0), .int 0] 45, .vec (natAv E) 3 1,
          .cells [.gs (n0 + 5) (s.ins.map Ins.av), .gs (n0 + 6) (s.tys.map AV.int), .int 0] 45, .vec (natAv s.place) 3 1, .tail s.ins.length 78 7, .tail s.tys.length 3 1, .dead, .vec (natAv s.holds) 3 1,
          .cells [.int ins[i].op, .int ins[i].to, .int ins[i].a, .int ins[i].b, .int ins[i].c, .int ins[i].n, .str ins[i].s] 78,
            .cells [.int ins[i].op, .int 0, .int (Y src.length 0), .int (Y src.length 1), .int (Y src.length 2), .int ins[i].n, .str ins[i].s] 78])
          (fun k => k ≤ s.holds.length ∧ ∀ m, m < k → P m) (fun k => s.holds.length - k) 0 ⟨by omega, fun m hm => by omega⟩ (by simp) fun k ⟨hk, hkm⟩ => ?_
        by_cases hlk : k < s.holds.length
        · have hlk2 : k < s.tys.length := by omega
          have hh := s4 s.holds[k] (List.getElem_mem _)
          have hh2 : s.holds[k] < ins.length := by omega
          have hh3 : s.holds[k] < E.length := by omega
          have g1 := hgH k hlk
          have g2 := hgE s.holds[k] hh2
          have g3 := hgT k hlk2
          by_cases hc1 : i < E[s.holds[k]]
          · have hstep : ∀ m, m < k + 1 → P m := fun m hm => by
              by_cases hmk : m = k
              · subst hmk; exact (hPk m).2 (.inl (by rw [g1, g2]; exact hc1))
              · exact hkm m (by omega)
            repeat' (first | ((first | ((with_reducible refine qo (fun hg => ?_) (fun hg => ?_)) <;> (try simp only [hg]) <;> (try simp only [gS] at hg) <;> (try (first | simp only [eq_false hg, gI] | simp only [eq_true hg, gI]))) | (with_reducible first | refine qf ?_ | refine qe ?_ | refine qk ?_ | refine qj ?_ | refine anyF_step ?_ | refine anyF_end ?_) | refine qc ?_ | refine qh ?_ | refine qi ?_ | refine qm ?_) <;> (try simp (disch := first | omega | simp) [qg, -qq, -qr, hlk, hlk2, hh2, hh3, hc1, hEl, t0, t1, ht])) | (with_reducible refine awp_anyF (id := 32) [.cells [.sl (ins.map Ins.av), .sl (types.map AV.int), .int out] 45, .unborn, .unborn, .unborn, .unborn, .unborn, .unborn, .unborn, .unborn, .cells [.int ins[i].op, .int ins[i].to, .int ins[i].a, .int ins[i].b, .int ins[i].c, .int ins[i].n, .str ins[i].s] 78] 3 [.R, .R, .R, .A, .N, .N, .R, .R, .R, .R, .R, .R, .R, .A, .R, .N, .W] (by kernel_rfl) (by kernel_rfl) (by simp) ?_) | ((with_reducible refine sideT ?_ ?_); first | omega | assumption | (simp; done)) | (refine qd fun K hK => ?_) | (refine qa ?_) | refine ql ?_ | ((first | refine hK _ ?_ | (clear hK K; refine hK _ ?_) | (clear hK K; clear hK K; refine hK _ ?_)); clear hK K) | refine qb ?_)
            exact ⟨k + 1, ⟨by omega, hstep⟩, by omega, by omega⟩
          · by_cases hc2 : s.tys[k] = t
            · have hskk : sk = k := hsl4 k hkm hk (.inr fun hp => by
                rcases (hPk k).1 hp with hp | hp
                · rw [g1, g2] at hp; exact hc1 hp
                · rw [g3] at hp; exact hp hc2)
              rw [hskk, if_neg (by omega), if_neg (by omega)] at hSi
              have hkn : ¬ (k : Int) = s.holds.length := by omega
              have hkn2 : ¬ k = s.holds.length := by omega
              have hip : i < s.place.length := by omega
              have hz1 : (s.holds.length + 1) * 8 ≤ 140737488355328 := by omega
              have hz2 : (s.tys.length + 1) * 8 ≤ 140737488355328 := by omega
              have hz3 : (s.ins.length + 1) * 56 ≤ 140737488355328 := by omega
              repeat' (first | ((first | ((with_reducible refine qo (fun hg => ?_) (fun hg => ?_)) <;> (try simp only [hg]) <;> (try simp only [gS] at hg) <;> (try (first | simp only [eq_false hg, gI] | simp only [eq_true hg, gI]))) | (with_reducible first | refine qf ?_ | refine qe ?_ | refine qk ?_ | refine qj ?_ | refine anyF_step ?_ | refine anyF_end ?_) | refine qc ?_ | refine qh ?_ | refine qi ?_ | refine qm ?_) <;> (try simp (disch := first | omega | simp) [qg, -qq, -qr, hlk, hlk2, hh2, hh3, hc1, hc2, hEl, t0, t1, ht, hkn, hkn2, s5, hlt, hip, hz1, hz2, hz3])) | (with_reducible refine awp_anyF (id := 32) [.cells [.sl (ins.map Ins.av), .sl (types.map AV.int), .int out] 45, .unborn, .unborn, .unborn, .unborn, .unborn, .unborn, .unborn, .unborn, .cells [.int ins[i].op, .int ins[i].to, .int ins[i].a, .int ins[i].b, .int ins[i].c, .int ins[i].n, .str ins[i].s] 78] 3 [.R, .R, .R, .A, .N, .N, .R, .R, .R, .R, .R, .R, .R, .A, .R, .N, .W] (by kernel_rfl) (by kernel_rfl) (by simp) ?_) | ((with_reducible refine sideT ?_ ?_); first | omega | assumption | (simp; done)) | (refine qd fun K hK => ?_) | (refine qa ?_) | refine ql ?_ | ((first | refine hK _ ?_ | (clear hK K; refine hK _ ?_) | (clear hK K; clear hK K; refine hK _ ?_)); clear hK K) | refine qb ?_)
              all_goals first | exact absurd hc2 (by assumption) | exact absurd (by assumption) hkn | exact absurd (by assumption) hkn2 | skip
              refine ⟨i + 1, ⟨s.ins ++ [newI ins[i] args k], s.holds.set k i, s.tys, s.place.set i k⟩, ⟨by omega, hSi, by simp [s1], by simp [s2], by simp; omega, fun q hq => ?_, by simp [s5]⟩, by omega, ?_⟩
              · rcases List.mem_or_eq_of_mem_set hq with hq | rfl
                · have := s4 q hq; omega
                · omega
              · simp [Y2, Ins.av, -Ins.av_fold, qcj]
            · have hstep : ∀ m, m < k + 1 → P m := fun m hm => by
                by_cases hmk : m = k
                · subst hmk; exact (hPk m).2 (.inr (by rw [g3]; exact hc2))
                · exact hkm m (by omega)
              repeat' (first | ((first | ((with_reducible refine qo (fun hg => ?_) (fun hg => ?_)) <;> (try simp only [hg]) <;> (try simp only [gS] at hg) <;> (try (first | simp only [eq_false hg, gI] | simp only [eq_true hg, gI]))) | (with_reducible first | refine qf ?_ | refine qe ?_ | refine qk ?_ | refine qj ?_ | refine anyF_step ?_ | refine anyF_end ?_) | refine qc ?_ | refine qh ?_ | refine qi ?_ | refine qm ?_) <;> (try simp (disch := first | omega | simp) [qg, -qq, -qr, hlk, hlk2, hh2, hh3, hc1, hc2, hEl, t0, t1, ht])) | (with_reducible refine awp_anyF (id := 32) [.cells [.sl (ins.map Ins.av), .sl (types.map AV.int), .int out] 45, .unborn, .unborn, .unborn, .unborn, .unborn, .unborn, .unborn, .unborn, .cells [.int ins[i].op, .int ins[i].to, .int ins[i].a, .int ins[i].b, .int ins[i].c, .int ins[i].n, .str ins[i].s] 78] 3 [.R, .R, .R, .A, .N, .N, .R, .R, .R, .R, .R, .R, .R, .A, .R, .N, .W] (by kernel_rfl) (by kernel_rfl) (by simp) ?_) | ((with_reducible refine sideT ?_ ?_); first | omega | assumption | (simp; done)) | (refine qd fun K hK => ?_) | (refine qa ?_) | refine ql ?_ | ((first | refine hK _ ?_ | (clear hK K; refine hK _ ?_) | (clear hK K; clear hK K; refine hK _ ?_)); clear hK K) | refine qb ?_)
              all_goals first | exact absurd (by assumption) hc2 | exact ⟨k + 1, ⟨by omega, hstep⟩, by omega, by omega⟩
        · obtain rfl : k = s.holds.length := by omega
          have hskk : sk = s.holds.length := hsl4 _ hkm hk (.inl rfl)
          rw [hskk, if_pos rfl, if_pos rfl] at hSi
          have hip : i < s.place.length := by omega
          have hz1 : (s.holds.length + 1) * 8 ≤ 140737488355328 := by omega
          have hz2 : (s.tys.length + 1) * 8 ≤ 140737488355328 := by omega
          have hz3 : (s.ins.length + 1) * 56 ≤ 140737488355328 := by omega
          repeat' (first | ((first | ((with_reducible refine qo (fun hg => ?_) (fun hg => ?_)) <;> (try simp only [hg]) <;> (try simp only [gS] at hg) <;> (try (first | simp only [eq_false hg, gI] | simp only [eq_true hg, gI]))) | (with_reducible first | refine qf ?_ | refine qe ?_ | refine qk ?_ | refine qj ?_ | refine anyF_step ?_ | refine anyF_end ?_) | refine qc ?_ | refine qh ?_ | refine qi ?_ | refine qm ?_) <;> (try simp (disch := first | omega | simp) [qg, -qq, -qr, hlk, hEl, t0, t1, ht, s5, hlt, hip, hz1, hz2, hz3])) | (with_reducible refine awp_anyF (id := 32) [.cells [.sl (ins.map Ins.av), .sl (types.map AV.int), .int out] 45, .unborn, .unborn, .unborn, .unborn, .unborn, .unborn, .unborn, .unborn, .cells [.int ins[i].op, .int ins[i].to, .int ins[i].a, .int ins[i].b, .int ins[i].c, .int ins[i].n, .str ins[i].s] 78] 3 [.R, .R, .R, .A, .N, .N, .R, .R, .R, .R, .R, .R, .R, .A, .R, .N, .W] (by kernel_rfl) (by kernel_rfl) (by simp) ?_) | ((with_reducible refine sideT ?_ ?_); first | omega | assumption | (simp; done)) | (refine qd fun K hK => ?_) | (refine qa ?_) | refine ql ?_ | ((first | refine hK _ ?_ | (clear hK K; refine hK _ ?_) | (clear hK K; clear hK K; refine hK _ ?_)); clear hK K) | refine qb ?_)
          refine ⟨i + 1, ⟨s.ins ++ [newI ins[i] args s.holds.length], s.holds ++ [i], s.tys ++ [t], s.place.set i s.holds.length⟩, ⟨by omega, hSi, by simp [s1], by simp [s2], by simp; omega, fun q hq => ?_, by simp [s5]⟩, by omega, ?_⟩
          · rcases List.mem_append.1 hq with hq | hq
            · have := s4 q hq; omega
            · rw [List.mem_singleton] at hq; omega
          · simp [Y2, Ins.av, -Ins.av_fold, qcj, natAv_snoc]
    · obtain rfl : i = ins.length := by omega
      rw [List.drop_of_length_le (by omega), compI] at hSi
      subst hSi
      have hrp : root < S.place.length := by omega
      have hgp : S.place.getD root 0 = S.place[root] := by rw [List.getD_eq_getElem?_getD, List.getElem?_eq_getElem hrp]; rfl
      rw [hgp] at hR2
      repeat' (first | ((first | ((with_reducible refine qo (fun hg => ?_) (fun hg => ?_)) <;> (try simp only [hg]) <;> (try simp only [gS] at hg) <;> (try (first | simp only [eq_false hg, gI] | simp only [eq_true hg, gI]))) | (with_reducible first | refine qf ?_ | refine qe ?_ | refine qk ?_ | refine qj ?_) | refine qc ?_ | refine qh ?_ | refine qi ?_ | refine qm ?_) <;> (try simp (disch := first | omega | simp) [qg, -qq, -qr, hlt, s5, hro, hrp])) | ((with_reducible refine sideT ?_ ?_); first | omega | assumption | (simp; done)) | (refine qd fun K hK => ?_) | (refine qa ?_) | refine ql ?_ | ((first | refine hK _ ?_ | (clear hK K; refine hK _ ?_) | (clear hK K; clear hK K; refine hK _ ?_)); clear hK K) | refine qb ?_)
      rw [hR2]; rfl
end Go.Proofs.YtnkimlkoijfcpaaGreatDoor
