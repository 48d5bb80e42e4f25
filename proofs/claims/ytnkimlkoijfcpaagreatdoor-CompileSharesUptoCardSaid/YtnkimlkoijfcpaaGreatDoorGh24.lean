/- Walk of layer 25: Compact. -/
import Derived.Test.YtnkimlkoijfcpaaGreatDoorGh3
import Derived.Test.YtnkimlkoijfcpaaGreatDoorGh4
import Derived.Test.YtnkimlkoijfcpaaGreatDoorGh5
import Derived.Test.YtnkimlkoijfcpaaGreatDoorGh14
import Derived.Test.YtnkimlkoijfcpaaGreatDoorGh15
import Derived.Test.YtnkimlkoijfcpaaGreatDoorGh16
import Derived.Test.YtnkimlkoijfcpaaGreatDoorGh18
import Derived.Test.YtnkimlkoijfcpaaGreatDoorGh21
import Derived.Test.YtnkimlkoijfcpaaGreatDoorGh22
import Derived.Test.YtnkimlkoijfcpaaGreatDoorGh23
set_option linter.unusedSimpArgs false
set_option linter.unusedVariables false
namespace Go.Proofs.YtnkimlkoijfcpaaGreatDoor
open Go.RowKit Go.Lib
theorem qcx (l : List Nat) (i v : Nat) : natAv (l.set i v) = (natAv l).set i (.int v) := by unfold natAv; rw [List.map_set]
theorem natAv_snoc (l : List Nat) (v : Nat) : natAv (l ++ [v]) = natAv l ++ [.int v] := by unfold natAv; rw [List.map_append]; rfl
theorem natAv_rep (n : Nat) : natAv (List.replicate n 0) = List.replicate n (.int 0) := by unfold natAv; rw [List.map_replicate]; rfl
def endS (i : Nat) (e : List Nat) (src : List Nat) : List Nat := src.foldl (fun e k => e.set k i) e
theorem endS_snoc (i : Nat) (e src : List Nat) (k : Nat) : endS i e (src ++ [k]) = (endS i e src).set k i := by unfold endS; rw [List.foldl_append]; rfl
theorem endS_len (i : Nat) : ∀ (src e : List Nat), (endS i e src).length = e.length
  | [], _ => rfl
  | k :: src, e => by unfold endS; rw [List.foldl_cons]; have := endS_len i src (e.set k i); unfold endS at this; rw [this, List.length_set]
theorem slot_uniq {e : List Nat} {i : Nat} {t : Int} {hs : List Nat} {us : List Int} (hl : hs.length = us.length) {k : Nat} (h : ∀ m, m < k → i < e.getD (hs.getD m 0) 0 ∨ us.getD m 0 ≠ t) (hk : k ≤ hs.length)
    (h2 : k = hs.length ∨ ¬ (i < e.getD (hs.getD k 0) 0 ∨ us.getD k 0 ≠ t)) : slot e i t hs us = k := by
  obtain ⟨h3, h4, h5⟩ := slot_spec e i t hs us hl
  rcases Nat.lt_trichotomy (slot e i t hs us) k with h6 | h6 | h6
  · have h7 := h _ h6
    have h8 := h4 (by omega)
    rcases h7 with h7 | h7
    · omega
    · exact absurd h8.2 h7
  · exact h6
  · have h7 := h5 k h6
    rcases h2 with h2 | h2
    · omega
    · exact absurd h7 h2
set_option maxHeartbeats 8000000 in
theorem compact_g {c : Cod} {cols : List Int} (h : CodOk c cols) : Gives Tryz.prog 22 [c.av] (compP c).av := by
  have c1 := trim_g h
  obtain ⟨hd, -, -⟩ := trim_ok h 0 []
  have c2 := sources_g hd
  have hro := (hd.val_res 0 []).1
  have hdl : (qy (trimP c)).length = (trimP c).ins.length := by unfold qy; exact qbs _ _ _
  have hea := hd.early
  have hs3 : ∀ d ∈ qy (trimP c), d.src.length ≤ 3 := nodes_src _ _ _
  have hxs : ∀ k (h1 : k < (qy (trimP c)).length) (h2 : k < (trimP c).ins.length), ((qy (trimP c))[k]).x = (trimP c).ins[k] := by
    have : ∀ (l : List Ins) (i : Nat) (last : List Nat) (k : Nat) (h1 : k < (nodes l i last).length) (h2 : k < l.length), ((nodes l i last)[k]).x = l[k] := fun l => by
      induction l with
      | nil => intro _ _ k h1 h2; simp at h2
      | cons x l ih =>
        intro i last k h1 h2
        cases k with
        | zero => rfl
        | succ k => exact ih (i + 1) _ k _ _
    exact this _ _ _
  have hto : ∀ x ∈ (trimP c).ins, 0 ≤ x.to ∧ x.to < (trimP c).types.length := by
    have : ∀ (l : List Ins) (done : List Bool), AllOk cols (trimP c).types l done → ∀ x ∈ l, 0 ≤ x.to ∧ x.to < (trimP c).types.length := fun l => by
      induction l with
      | nil => intro _ _ x hx; cases hx
      | cons y l ih =>
        intro done ha x hx
        rcases List.mem_cons.1 hx with rfl | hx
        · exact ⟨ha.1.to0, ha.1.to1⟩
        · exact ih _ ha.2 x hx
    exact this _ _ hd.all
  have hni := hd.ni
  have hnt := hd.nt
  obtain ⟨R, hR⟩ : ∃ R, R = compP c := ⟨_, rfl⟩
  rw [← hR]
  unfold compP compS at hR
  dsimp only at hR
  generalize qy (trimP c) = ds at *
  generalize rootC (trimP c) = root at *
  generalize trimP c = d at *
  obtain ⟨ins, types, out⟩ := d
  obtain ⟨cins, ctypes, cout⟩ := c
  simp only at hro hdl hni hnt hxs hto hR
  have hsz1 : 8 * ins.length ≤ 281474976710656 := by omega
  have hsz2 : 1 * ins.length ≤ 281474976710656 := by omega
  refine qn Tryz.func22 Tryz.ntmps22 rfl rfl (by decide) rfl (by intro n; simp) fun σ n0 hcl hft => ?_
  repeat' (first | ((first | ((with_reducible refine qo (fun hg => ?_) (fun hg => ?_)) <;> (try simp only [hg]) <;> (try simp only [gS] at hg) <;> (try (first | simp only [eq_false hg, gI] | simp only [eq_true hg, gI]))) | (with_reducible first | refine qh ?_ | refine qg ?_ | refine ql ?_ | refine qk ?_) | refine acall (c1) ?_ | refine qr (c1) ?_ | refine qp (c1) ?_ | refine acall (c2) ?_ | refine qr (c2) ?_ | refine qp (c2) ?_ | refine qd ?_ | refine qi ?_ | refine qj ?_ | refine qm ?_) <;> (try simp (disch := first | omega | simp) [qf, -qq, -qs, hsz1, hsz2])) | ((with_reducible refine sideT ?_ ?_); first | omega | assumption | (simp; done)) | (refine qe fun K hK => ?_) | (refine qb ?_) | (refine qa true (by kernel_rfl) (by kernel_rfl) ?_) | (refine qa false (by kernel_rfl) (by kernel_rfl) ?_) | (refine hK _ ?_; clear hK K) | (clear hK K; refine hK _ ?_; clear hK K) | (clear hK K; clear hK K; refine hK _ ?_; clear hK K) | refine qc ?_)
  obtain ⟨EI, hEI⟩ : ∃ EI, EI = endI ds 0 (List.replicate ins.length 0) := ⟨_, rfl⟩
  refine qu hcl (fun b : Nat × List Nat => [(1, .ptr n0 0), (2, .ptr (n0 + 1) 0), (3, .sl (srcAv ds)), (4, .int root), (5, .own (n0 + 2) ins.length), (31, .sl (srcAv ds)), (32, .int ds.length), (33, .int b.1)])
    (fun b => [.cells [.sl (ins.map Ins.av), .sl (types.map AV.int), .int out] 45, .cells [.v (.slice none 0 0), .v (.slice none 0 0), .int 0] 45, .vec (natAv b.2) 3 1])
    (fun b => b.1 ≤ ins.length ∧ b.2.length = ins.length ∧ EI = endI (ds.drop b.1) b.1 b.2) (fun b => ins.length - b.1) (0, List.replicate ins.length 0) ⟨by omega, by simp, hEI⟩ (by simp [natAv_rep]) fun ⟨k, e⟩ ⟨hk, hel, he⟩ => ?_
  dsimp only at hk hel he
  by_cases hlt : k < ins.length
  · have hltd : k < ds.length := by omega
    have hsd : (ds.getD k ⟨⟨0, 0, 0, 0, 0, 0, ByteArray.empty⟩, []⟩).src = ds[k].src := by rw [List.getD_eq_getElem?_getD, List.getElem?_eq_getElem hltd]; rfl
    have hse : ∀ j ∈ ds[k].src, j < k := fun j hj => hea k hltd j (by unfold srcOf; rw [hsd]; exact hj)
    have hsl3 := hs3 ds[k] (List.getElem_mem _)
    rw [List.drop_eq_getElem_cons hltd, endI] at he
    change EI = endI (ds.drop (k + 1)) (k + 1) (endS k (e.set k k) ds[k].src) at he
    generalize hsrc : ds[k].src = src at *
    repeat' (first | ((first | ((with_reducible refine qo (fun hg => ?_) (fun hg => ?_)) <;> (try simp only [hg]) <;> (try simp only [gS] at hg) <;> (try (first | simp only [eq_false hg, gI] | simp only [eq_true hg, gI]))) | (with_reducible first | refine qh ?_ | refine qg ?_ | refine ql ?_ | refine qk ?_) | refine qd ?_ | refine qi ?_ | refine qj ?_ | refine qm ?_) <;> (try simp (disch := first | omega | simp) [qf, -qq, -qs, hltd, hel, hsrc, hlt])) | ((with_reducible refine sideT ?_ ?_); first | omega | assumption | (simp; done)) | (refine qe fun K hK => ?_) | (refine qb ?_) | (refine qa true (by kernel_rfl) (by kernel_rfl) ?_) | (refine qa false (by kernel_rfl) (by kernel_rfl) ?_) | (refine hK _ ?_; clear hK K) | (clear hK K; refine hK _ ?_; clear hK K) | (clear hK K; clear hK K; refine hK _ ?_; clear hK K) | refine qc ?_)
    refine qu hcl (fun j : Nat => [(1, .ptr n0 0), (2, .ptr (n0 + 1) 0), (3, .sl (srcAv ds)), (4, .int root), (5, .own (n0 + 2) ins.length), (6, .int k), (31, .sl (srcAv ds)), (32, .int ds.length), (33, .int k), (42, .sl (natAv src)), (43, .int src.length), (44, .int j)])
      (fun j => [.cells [.sl (ins.map Ins.av), .sl (types.map AV.int), .int out] 45, .cells [.v (.slice none 0 0), .v (.slice none 0 0), .int 0] 45, .vec (natAv (endS k (e.set k k) (src.take j))) 3 1])
      (fun j => j ≤ src.length) (fun j => src.length - j) 0 (by omega) (by simp [endS, qcx]; exact cls_set (natAv_cl _ _) (by simp)) fun j hj => ?_
    have hl2 : (endS k (e.set k k) (src.take j)).length = ins.length := by rw [endS_len, List.length_set]; exact hel
    by_cases hlt2 : j < src.length
    · have hs1 := hse src[j] (List.getElem_mem _)
      have hs2 : src[j] < ins.length := by omega
      have hsn : endS k (e.set k k) (src.take (j + 1)) = (endS k (e.set k k) (src.take j)).set src[j] k := by rw [List.take_succ_eq_append_getElem hlt2, endS_snoc]
      repeat' (first | ((first | ((with_reducible refine qo (fun hg => ?_) (fun hg => ?_)) <;> (try simp only [hg]) <;> (try simp only [gS] at hg) <;> (try (first | simp only [eq_false hg, gI] | simp only [eq_true hg, gI]))) | (with_reducible first | refine qh ?_ | refine qg ?_ | refine ql ?_ | refine qk ?_) | refine qd ?_ | refine qi ?_ | refine qj ?_ | refine qm ?_) <;> (try simp (disch := first | omega | simp) [qf, -qq, -qs, hlt2, hl2, hs2])) | ((with_reducible refine sideT ?_ ?_); first | omega | assumption | (simp; done)) | (refine qe fun K hK => ?_) | (refine qb ?_) | (refine qa true (by kernel_rfl) (by kernel_rfl) ?_) | (refine qa false (by kernel_rfl) (by kernel_rfl) ?_) | (refine hK _ ?_; clear hK K) | (clear hK K; refine hK _ ?_; clear hK K) | (clear hK K; clear hK K; refine hK _ ?_; clear hK K) | refine qc ?_)
      refine ⟨j + 1, by omega, by omega, ?_⟩
      rw [hsn]; simp [qcx]
    · obtain rfl : j = src.length := by omega
      rw [List.take_length] at hl2 ⊢
      repeat' (first | ((first | ((with_reducible refine qo (fun hg => ?_) (fun hg => ?_)) <;> (try simp only [hg]) <;> (try simp only [gS] at hg) <;> (try (first | simp only [eq_false hg, gI] | simp only [eq_true hg, gI]))) | (with_reducible first | refine qh ?_ | refine qg ?_ | refine ql ?_ | refine qk ?_) | refine qd ?_ | refine qi ?_ | refine qj ?_ | refine qm ?_) <;> (try simp (disch := first | omega | simp) [qf, -qq, -qs, hlt2])) | ((with_reducible refine sideT ?_ ?_); first | omega | assumption | (simp; done)) | (refine qe fun K hK => ?_) | (refine qb ?_) | (refine qa true (by kernel_rfl) (by kernel_rfl) ?_) | (refine qa false (by kernel_rfl) (by kernel_rfl) ?_) | (refine hK _ ?_; clear hK K) | (clear hK K; refine hK _ ?_; clear hK K) | (clear hK K; clear hK K; refine hK _ ?_; clear hK K) | refine qc ?_)
      refine ⟨k + 1, endS k (e.set k k) src, ⟨by omega, hl2, he⟩, by omega, ?_⟩
      simp
  · obtain rfl : k = ins.length := by omega
    rw [List.drop_of_length_le (by omega), endI] at he
    subst he
    have hltd : ¬ ins.length < ds.length := by omega
    repeat' (first | ((first | ((with_reducible refine qo (fun hg => ?_) (fun hg => ?_)) <;> (try simp only [hg]) <;> (try simp only [gS] at hg) <;> (try (first | simp only [eq_false hg, gI] | simp only [eq_true hg, gI]))) | (with_reducible first | refine qh ?_ | refine qg ?_ | refine ql ?_ | refine qk ?_) | refine qd ?_ | refine qi ?_ | refine qj ?_ | refine qm ?_) <;> (try simp (disch := first | omega | simp) [qf, -qq, -qs, hltd, hel, hro, hsz1, hsz2])) | ((with_reducible refine sideT ?_ ?_); first | omega | assumption | (simp; done)) | (refine qe fun K hK => ?_) | (refine qb ?_) | (refine qa true (by kernel_rfl) (by kernel_rfl) ?_) | (refine qa false (by kernel_rfl) (by kernel_rfl) ?_) | (refine hK _ ?_; clear hK K) | (clear hK K; refine hK _ ?_; clear hK K) | (clear hK K; clear hK K; refine hK _ ?_; clear hK K) | refine qc ?_)
    obtain ⟨E, hE⟩ : ∃ E, E = EI.set root ins.length := ⟨_, rfl⟩
    have hEl : E.length = ins.length := by rw [hE, List.length_set]; exact hel
    obtain ⟨S, hS⟩ : ∃ S, S = compI E types ds 0 ⟨[], [], [], List.replicate ins.length 0⟩ := ⟨_, rfl⟩
    have hR2 : R = ⟨S.ins, S.tys, (S.place.getD root 0 : Nat)⟩ := by rw [hR, hS, hE, hEI, endP, hdl]
    clear hR hEI
    refine qcf 3 0 78 7 (by rfl) (by rfl) ?_
    refine qcf 3 1 3 1 (by rfl) (by rfl) ?_
    refine qcg 12 3 1 (by simp) ?_
    refine awp_thawR 12 7 (et := 3) (sz := 1) (by simp) (by rfl) ?_
    refine qu hcl (fun b : Nat × CompS => [(1, .ptr n0 0), (2, .ptr (n0 + 1) 0), (3, .sl (srcAv ds)), (4, .int root), (5, .own (n0 + 2) ins.length), (10, .ptr (n0 + 3) 0), (11, .own (n0 + 4) ins.length), (12, .own (n0 + 8) b.2.holds.length), (65, .sl (ins.map Ins.av)), (66, .int ins.length), (67, .int b.1)])
      (fun b => [.cells [.sl (ins.map Ins.av), .sl (types.map AV.int), .int out] 45, .cells [.v (.slice none 0 0), .v (.slice none 0 0), .int 0] 45, .vec (natAv E) 3 1,
        .cells [.gs (n0 + 5) (b.2.ins.map Ins.av), .gs (n0 + 6) (b.2.tys.map AV.int), .int 0] 45, .vec (natAv b.2.place) 3 1, .tail b.2.ins.length 78 7, .tail b.2.tys.length 3 1, .dead, .vec (natAv b.2.holds) 3 1])
      (fun b => b.1 ≤ ins.length ∧ S = compI E types (ds.drop b.1) b.1 b.2 ∧ b.2.ins.length = b.1 ∧ b.2.holds.length = b.2.tys.length ∧ b.2.holds.length ≤ b.1 ∧ (∀ q ∈ b.2.holds, q < b.1) ∧ b.2.place.length = ins.length)
      (fun b => ins.length - b.1) (0, ⟨[], [], [], List.replicate ins.length 0⟩) ⟨by omega, hS, rfl, rfl, by simp, by simp, by simp⟩ (by simp [hE, qcx, natAv_rep, show natAv ([] : List Nat) = [] from rfl]; exact cls_set (natAv_cl _ _) (by simp)) fun ⟨i, s⟩ ⟨hi, hSi, s1, s2, s3, s4, s5⟩ => ?_
    dsimp only at hi hSi s1 s2 s3 s4 s5
    clear hE hel
    by_cases hlt : i < ins.length
    · have hltd : i < ds.length := by omega
      have hsd : (ds.getD i ⟨⟨0, 0, 0, 0, 0, 0, ByteArray.empty⟩, []⟩).src = ds[i].src := by rw [List.getD_eq_getElem?_getD, List.getElem?_eq_getElem hltd]; rfl
      have hse : ∀ j ∈ ds[i].src, j < i := fun j hj => hea i hltd j (by unfold srcOf; rw [hsd]; exact hj)
      have hsl3 := hs3 ds[i] (List.getElem_mem _)
      have hx := hxs i hltd hlt
      have hxto := hto ins[i] (List.getElem_mem _)
      rw [List.drop_eq_getElem_cons hltd, compI] at hSi
      try dsimp only at hSi
      rw [hx] at hSi
      have htd : types.getD ins[i].to.toNat 0 = types[ins[i].to.toNat]'(by omega) := by rw [List.getD_eq_getElem?_getD, List.getElem?_eq_getElem (by omega)]; rfl
      rw [htd] at hSi
      generalize hsrc : ds[i].src = src at *
      repeat' (first | ((first | ((with_reducible refine qo (fun hg => ?_) (fun hg => ?_)) <;> (try simp only [hg]) <;> (try simp only [gS] at hg) <;> (try (first | simp only [eq_false hg, gI] | simp only [eq_true hg, gI]))) | (with_reducible first | refine qh ?_ | refine qg ?_ | refine ql ?_ | refine qk ?_) | refine qd ?_ | refine qi ?_ | refine qj ?_ | refine qm ?_) <;> (try simp (disch := first | omega | simp) [qf, -qq, -qs, hltd, hlt, hsrc])) | ((with_reducible refine sideT ?_ ?_); first | omega | assumption | (simp; done)) | (refine qe fun K hK => ?_) | (refine qb ?_) | (refine qa true (by kernel_rfl) (by kernel_rfl) ?_) | (refine qa false (by kernel_rfl) (by kernel_rfl) ?_) | (refine hK _ ?_; clear hK K) | (clear hK K; refine hK _ ?_; clear hK K) | (clear hK K; clear hK K; refine hK _ ?_; clear hK K) | refine qc ?_)
      obtain ⟨args, hargs⟩ : ∃ args, args = src.map fun j => ((s.place.getD j 0 : Nat) : Int) := ⟨_, rfl⟩
      have hal : args.length = src.length := by rw [hargs, List.length_map]
      have haj : ∀ j (h : j < src.length), args[j]'(by omega) = ((s.place[src[j]]'(by have := hse _ (List.getElem_mem h); omega) : Nat) : Int) := fun j h => by
        have := hse _ (List.getElem_mem h)
        simp only [hargs, List.getElem_map]
        rw [List.getD_eq_getElem?_getD, List.getElem?_eq_getElem (by omega)]; rfl
      rw [← hargs] at hSi
      clear hargs
      obtain ⟨Y, hY⟩ : ∃ Y : Nat → Nat → Int, Y = fun j m => (args.take j).getD m 0 := ⟨_, rfl⟩
      have Y0 : ∀ m, Y 0 m = 0 := fun m => by rw [hY]; simp
      have Y1 : ∀ j m (h : j < src.length), Y (j + 1) m = if m = j then ((s.place[src[j]]'(by have := hse _ (List.getElem_mem h); omega) : Nat) : Int) else Y j m := fun j m h => by
        rw [hY]
        dsimp only
        rw [List.take_succ_eq_append_getElem (by omega), haj j h, qcm, List.length_take, Nat.min_eq_left (by omega)]
        by_cases hm : m < j
        · rw [if_pos hm, if_neg (by omega)]
        · rw [if_neg hm]
          by_cases hm2 : m = j
          · rw [if_pos hm2, if_pos hm2]
          · rw [if_neg hm2, if_neg hm2, List.getD_eq_getElem?_getD, List.getElem?_eq_none (by rw [List.length_take]; omega)]; rfl
      have Y2 : ∀ k, newI ins[i] args k = ⟨ins[i].op, k, Y src.length 0, Y src.length 1, Y src.length 2, ins[i].n, ins[i].s⟩ := fun k => by
        rw [hY]; dsimp only; rw [← hal, List.take_length]; rfl
      clear hY haj
      refine qu hcl (fun j : Nat => [(1, .ptr n0 0), (2, .ptr (n0 + 1) 0), (3, .sl (srcAv ds)), (4, .int root), (5, .own (n0 + 2) ins.length), (10, .ptr (n0 + 3) 0), (11, .own (n0 + 4) ins.length), (12, .own (n0 + 8) s.holds.length), (13, .int i), (14, .ptr (n0 + 9) 0), (15, .ptr (n0 + 10) 0), (16, .sl [.ptr (n0 + 10) 2, .ptr (n0 + 10) 3, .ptr (n0 + 10) 4]), (65, .sl (ins.map Ins.av)), (66, .int ins.length), (67, .int i), (86, .sl (natAv src)), (87, .int src.length), (88, .int j)])
        (fun j => [.cells [.sl (ins.map Ins.av), .sl (types.map AV.int), .int out] 45, .cells [.v (.slice none 0 0), .v (.slice none 0 0), .int 0] 45, .vec (natAv E) 3 1,
          .cells [.gs (n0 + 5) (s.ins.map Ins.av), .gs (n0 + 6) (s.tys.map AV.int), .int 0] 45, .vec (natAv s.place) 3 1, .tail s.ins.length 78 7, .tail s.tys.length 3 1, .dead, .vec (natAv s.holds) 3 1,
          .cells [.int ins[i].op, .int ins[i].to, .int ins[i].a, .int ins[i].b, .int ins[i].c, .int ins[i].n, .str ins[i].s] 78,
          .cells [.int ins[i].op, .int 0, .int (Y j 0), .int (Y j 1), .int (Y j 2), .int ins[i].n, .str ins[i].s] 78])
        (fun j => j ≤ src.length) (fun j => src.length - j) 0 (by omega) (by simp [Y0]) fun j hj => ?_
      by_cases hlt2 : j < src.length
      · have hs1 := hse src[j] (List.getElem_mem _)
        have hs2 : src[j] < ins.length := by omega
        have hs3 : src[j] < s.place.length := by omega
        have hj3 : j = 0 ∨ j = 1 ∨ j = 2 := by omega
        have y0 := Y1 j 0 hlt2
        have y1 := Y1 j 1 hlt2
        have y2 := Y1 j 2 hlt2
        have hrp : ∀ (τ : Nat → AB) (r o : Nat), rdAt τ false 1 (.ep (.ptr r o) 0) = some (.ptr r o) := fun _ _ _ => rfl
        rcases hj3 with rfl | rfl | rfl
        · have hq : src ≠ [] := fun e => by rw [e] at hlt2; simp at hlt2
          simp at y0 y1 y2
          repeat' (first | ((first | ((with_reducible refine qo (fun hg => ?_) (fun hg => ?_)) <;> (try simp only [hg]) <;> (try simp only [gS] at hg) <;> (try (first | simp only [eq_false hg, gI] | simp only [eq_true hg, gI]))) | (with_reducible first | refine qh ?_ | refine qg ?_ | refine ql ?_ | refine qk ?_) | refine qd ?_ | refine qi ?_ | refine qj ?_ | refine qm ?_) <;> (try simp (disch := first | omega | simp) [qf, -qq, -qs, hlt2, hq, s5, hs2, hs3, hrp])) | ((with_reducible refine sideT ?_ ?_); first | omega | assumption | (simp; done)) | (refine qe fun K hK => ?_) | (refine qb ?_) | (refine qa true (by kernel_rfl) (by kernel_rfl) ?_) | (refine qa false (by kernel_rfl) (by kernel_rfl) ?_) | (refine hK _ ?_; clear hK K) | (clear hK K; refine hK _ ?_; clear hK K) | (clear hK K; clear hK K; refine hK _ ?_; clear hK K) | refine qc ?_)
          refine ⟨1, by omega, by omega, ?_⟩
          simp [y0, y1, y2, qcx]
        · have hq : (1 : Int) < src.length := by omega
          simp at y0 y1 y2
          repeat' (first | ((first | ((with_reducible refine qo (fun hg => ?_) (fun hg => ?_)) <;> (try simp only [hg]) <;> (try simp only [gS] at hg) <;> (try (first | simp only [eq_false hg, gI] | simp only [eq_true hg, gI]))) | (with_reducible first | refine qh ?_ | refine qg ?_ | refine ql ?_ | refine qk ?_) | refine qd ?_ | refine qi ?_ | refine qj ?_ | refine qm ?_) <;> (try simp (disch := first | omega | simp) [qf, -qq, -qs, hlt2, hq, s5, hs2, hs3, hrp])) | ((with_reducible refine sideT ?_ ?_); first | omega | assumption | (simp; done)) | (refine qe fun K hK => ?_) | (refine qb ?_) | (refine qa true (by kernel_rfl) (by kernel_rfl) ?_) | (refine qa false (by kernel_rfl) (by kernel_rfl) ?_) | (refine hK _ ?_; clear hK K) | (clear hK K; refine hK _ ?_; clear hK K) | (clear hK K; clear hK K; refine hK _ ?_; clear hK K) | refine qc ?_)
          refine ⟨2, by omega, by omega, ?_⟩
          simp [y0, y1, y2, qcx]
        · have hq : (2 : Int) < src.length := by omega
          simp at y0 y1 y2
          repeat' (first | ((first | ((with_reducible refine qo (fun hg => ?_) (fun hg => ?_)) <;> (try simp only [hg]) <;> (try simp only [gS] at hg) <;> (try (first | simp only [eq_false hg, gI] | simp only [eq_true hg, gI]))) | (with_reducible first | refine qh ?_ | refine qg ?_ | refine ql ?_ | refine qk ?_) | refine qd ?_ | refine qi ?_ | refine qj ?_ | refine qm ?_) <;> (try simp (disch := first | omega | simp) [qf, -qq, -qs, hlt2, hq, s5, hs2, hs3, hrp])) | ((with_reducible refine sideT ?_ ?_); first | omega | assumption | (simp; done)) | (refine qe fun K hK => ?_) | (refine qb ?_) | (refine qa true (by kernel_rfl) (by kernel_rfl) ?_) | (refine qa false (by kernel_rfl) (by kernel_rfl) ?_) | (refine hK _ ?_; clear hK K) | (clear hK K; refine hK _ ?_; clear hK K) | (clear hK K; clear hK K; refine hK _ ?_; clear hK K) | refine qc ?_)
          refine ⟨3, by omega, by omega, ?_⟩
          simp [y0, y1, y2, qcx]
      · obtain rfl : j = src.length := by omega
        have t0 := hxto.1
        have t1 := hxto.2
        have hgE : ∀ m (h : m < ins.length), E.getD m 0 = E[m]'(by omega) := fun m h => by rw [List.getD_eq_getElem?_getD, List.getElem?_eq_getElem (by omega)]; rfl
        have hgH : ∀ m (h : m < s.holds.length), s.holds.getD m 0 = s.holds[m] := fun m h => by rw [List.getD_eq_getElem?_getD, List.getElem?_eq_getElem h]; rfl
        have hgT : ∀ m (h : m < s.tys.length), s.tys.getD m 0 = s.tys[m] := fun m h => by rw [List.getD_eq_getElem?_getD, List.getElem?_eq_getElem h]; rfl
        generalize ht : types[ins[i].to.toNat]'(by omega) = t at *
        have hsl4 : ∀ k, (∀ m, m < k → i < E.getD (s.holds.getD m 0) 0 ∨ s.tys.getD m 0 ≠ t) → k ≤ s.holds.length → (k = s.holds.length ∨ ¬ (i < E.getD (s.holds.getD k 0) 0 ∨ s.tys.getD k 0 ≠ t)) → slot E i t s.holds s.tys = k := fun k => slot_uniq s2
        generalize hsk : slot E i t s.holds s.tys = sk at *
        obtain ⟨P, hP⟩ : ∃ P : Nat → Prop, P = fun m => i < E.getD (s.holds.getD m 0) 0 ∨ s.tys.getD m 0 ≠ t := ⟨_, rfl⟩
        replace hsl4 : ∀ k, (∀ m, m < k → P m) → k ≤ s.holds.length → (k = s.holds.length ∨ ¬ P k) → sk = k := by rw [hP]; exact hsl4
        have hPk : ∀ k, P k ↔ (i < E.getD (s.holds.getD k 0) 0 ∨ s.tys.getD k 0 ≠ t) := fun k => by rw [hP]
        clear hP
        repeat' (first | ((first | ((with_reducible refine qo (fun hg => ?_) (fun hg => ?_)) <;> (try simp only [hg]) <;> (try simp only [gS] at hg) <;> (try (first | simp only [eq_false hg, gI] | simp only [eq_true hg, gI]))) | (with_reducible first | refine qh ?_ | refine qg ?_ | refine ql ?_ | refine qk ?_) | refine qd ?_ | refine qi ?_ | refine qj ?_ | refine qm ?_) <;> (try simp (disch := first | omega | simp) [qf, -qq, -qs, hlt2])) | ((with_reducible refine sideT ?_ ?_); first | omega | assumption | (simp; done)) | (refine qe fun K hK => ?_) | (refine qb ?_) | (refine qa true (by kernel_rfl) (by kernel_rfl) ?_) | (refine qa false (by kernel_rfl) (by kernel_rfl) ?_) | (refine hK _ ?_; clear hK K) | (clear hK K; refine hK _ ?_; clear hK K) | (clear hK K; clear hK K; refine hK _ ?_; clear hK K) | refine qc ?_)
        refine qu hcl (fun k : Nat => [(1, .ptr n0 0), (2, .ptr (n0 + 1) 0), (3, .sl (srcAv ds)), (4, .int root), (5, .own (n0 + 2) ins.length), (10, .ptr (n0 + 3) 0), (11, .own (n0 + 4) ins.length), (12, .own (n0 + 8) s.holds.length), (13, .int i), (14, .ptr (n0 + 9) 0), (15, .ptr (n0 + 10) 0), (19, .int k), (65, .sl (ins.map Ins.av)), (66, .int ins.length), (67, .int i)])
          (fun k => [.cells [.sl (ins.map Ins.av), .sl (types.map AV.int), .int out] 45, .cells [.v (.slice none 0 0), .v (.slice none 0 0), .int 0] 45, .vec (natAv E) 3 1,
          .cells [.gs (n0 + 5) (s.ins.map Ins.av), .gs (n0 + 6) (s.tys.map AV.int), .int 0] 45, .vec (natAv s.place) 3 1, .tail s.ins.length 78 7, .tail s.tys.length 3 1, .dead, .vec (natAv s.holds) 3 1,
          .cells [.int ins[i].op, .int ins[i].to, .int ins[i].a, .int ins[i].b, .int ins[i].c, .int ins[i].n, .str ins[i].s] 78,
            .cells [.int ins[i].op, .int 0, .int (Y src.length 0), .int (Y src.length 1), .int (Y src.length 2), .int ins[i].n, .str ins[i].s] 78])
          (fun k => k ≤ s.holds.length ∧ ∀ m, m < k → P m) (fun k => s.holds.length - k) 0 ⟨by omega, fun m hm => by omega⟩ (by simp) fun k ⟨hk, hkm⟩ => ?_
        by_cases hlk : k < s.holds.length
        · have hlk2 : k < s.tys.length := by omega
          have hh := s4 s.holds[k] (List.getElem_mem _)
          have hh2 : s.holds[k] < ins.length := by omega
          have hh3 : s.holds[k] < E.length := by omega
          have g1 := hgH k hlk
          have g2 := hgE s.holds[k] hh2
          have g3 := hgT k hlk2
          by_cases hc1 : i < E[s.holds[k]]
          · have hstep : ∀ m, m < k + 1 → P m := fun m hm => by
              by_cases hmk : m = k
              · subst hmk; exact (hPk m).2 (.inl (by rw [g1, g2]; exact hc1))
              · exact hkm m (by omega)
            repeat' (first | ((first | ((with_reducible refine qo (fun hg => ?_) (fun hg => ?_)) <;> (try simp only [hg]) <;> (try simp only [gS] at hg) <;> (try (first | simp only [eq_false hg, gI] | simp only [eq_true hg, gI]))) | (with_reducible first | refine qh ?_ | refine qg ?_ | refine ql ?_ | refine qk ?_ | refine anyF_step ?_ | refine anyF_end ?_) | refine qd ?_ | refine qi ?_ | refine qj ?_ | refine qm ?_) <;> (try simp (disch := first | omega | simp) [qf, -qq, -qs, hlk, hlk2, hh2, hh3, hc1, hEl, t0, t1, ht])) | (with_reducible refine awp_anyF (id := 32) [.cells [.sl (ins.map Ins.av), .sl (types.map AV.int), .int out] 45, .unborn, .unborn, .unborn, .unborn, .unborn, .unborn, .unborn, .unborn, .cells [.int ins[i].op, .int ins[i].to, .int ins[i].a, .int ins[i].b, .int ins[i].c, .int ins[i].n, .str ins[i].s] 78] 3 [.R, .R, .R, .A, .N, .N, .R, .R, .R, .R, .R, .R, .R, .A, .R, .N, .W] (by kernel_rfl) (by kernel_rfl) (by simp) ?_) | ((with_reducible refine sideT ?_ ?_); first | omega | assumption | (simp; done)) | (refine qe fun K hK => ?_) | (refine qb ?_) | (refine qa true (by kernel_rfl) (by kernel_rfl) ?_) | (refine qa false (by kernel_rfl) (by kernel_rfl) ?_) | (refine hK _ ?_; clear hK K) | (clear hK K; refine hK _ ?_; clear hK K) | (clear hK K; clear hK K; refine hK _ ?_; clear hK K) | refine qc ?_)
            exact ⟨k + 1, ⟨by omega, hstep⟩, by omega, by omega⟩
          · by_cases hc2 : s.tys[k] = t
            · have hskk : sk = k := hsl4 k hkm hk (.inr fun hp => by
                rcases (hPk k).1 hp with hp | hp
                · rw [g1, g2] at hp; exact hc1 hp
                · rw [g3] at hp; exact hp hc2)
              rw [hskk, if_neg (by omega), if_neg (by omega)] at hSi
              have hkn : ¬ (k : Int) = s.holds.length := by omega
              have hkn2 : ¬ k = s.holds.length := by omega
              have hip : i < s.place.length := by omega
              have hz1 : (s.holds.length + 1) * 8 ≤ 140737488355328 := by omega
              have hz2 : (s.tys.length + 1) * 8 ≤ 140737488355328 := by omega
              have hz3 : (s.ins.length + 1) * 56 ≤ 140737488355328 := by omega
              repeat' (first | ((first | ((with_reducible refine qo (fun hg => ?_) (fun hg => ?_)) <;> (try simp only [hg]) <;> (try simp only [gS] at hg) <;> (try (first | simp only [eq_false hg, gI] | simp only [eq_true hg, gI]))) | (with_reducible first | refine qh ?_ | refine qg ?_ | refine ql ?_ | refine qk ?_ | refine anyF_step ?_ | refine anyF_end ?_) | refine qd ?_ | refine qi ?_ | refine qj ?_ | refine qm ?_) <;> (try simp (disch := first | omega | simp) [qf, -qq, -qs, hlk, hlk2, hh2, hh3, hc1, hc2, hEl, t0, t1, ht, hkn, hkn2, s5, hlt, hip, hz1, hz2, hz3])) | (with_reducible refine awp_anyF (id := 32) [.cells [.sl (ins.map Ins.av), .sl (types.map AV.int), .int out] 45, .unborn, .unborn, .unborn, .unborn, .unborn, .unborn, .unborn, .unborn, .cells [.int ins[i].op, .int ins[i].to, .int ins[i].a, .int ins[i].b, .int ins[i].c, .int ins[i].n, .str ins[i].s] 78] 3 [.R, .R, .R, .A, .N, .N, .R, .R, .R, .R, .R, .R, .R, .A, .R, .N, .W] (by kernel_rfl) (by kernel_rfl) (by simp) ?_) | ((with_reducible refine sideT ?_ ?_); first | omega | assumption | (simp; done)) | (refine qe fun K hK => ?_) | (refine qb ?_) | (refine qa true (by kernel_rfl) (by kernel_rfl) ?_) | (refine qa false (by kernel_rfl) (by kernel_rfl) ?_) | (refine hK _ ?_; clear hK K) | (clear hK K; refine hK _ ?_; clear hK K) | (clear hK K; clear hK K; refine hK _ ?_; clear hK K) | refine qc ?_)
              all_goals first | exact absurd hc2 (by assumption) | exact absurd (by assumption) hkn | exact absurd (by assumption) hkn2 | skip
              refine ⟨i + 1, ⟨s.ins ++ [newI ins[i] args k], s.holds.set k i, s.tys, s.place.set i k⟩, ⟨by omega, hSi, by simp [s1], by simp [s2], by simp; omega, fun q hq => ?_, by simp [s5]⟩, by omega, ?_⟩
              · rcases List.mem_or_eq_of_mem_set hq with hq | rfl
                · have := s4 q hq; omega
                · omega
              · simp [Y2, Ins.av, -Ins.av_fold, qcx]
            · have hstep : ∀ m, m < k + 1 → P m := fun m hm => by
                by_cases hmk : m = k
                · subst hmk; exact (hPk m).2 (.inr (by rw [g3]; exact hc2))
                · exact hkm m (by omega)
              repeat' (first | ((first | ((with_reducible refine qo (fun hg => ?_) (fun hg => ?_)) <;> (try simp only [hg]) <;> (try simp only [gS] at hg) <;> (try (first | simp only [eq_false hg, gI] | simp only [eq_true hg, gI]))) | (with_reducible first | refine qh ?_ | refine qg ?_ | refine ql ?_ | refine qk ?_ | refine anyF_step ?_ | refine anyF_end ?_) | refine qd ?_ | refine qi ?_ | refine qj ?_ | refine qm ?_) <;> (try simp (disch := first | omega | simp) [qf, -qq, -qs, hlk, hlk2, hh2, hh3, hc1, hc2, hEl, t0, t1, ht])) | (with_reducible refine awp_anyF (id := 32) [.cells [.sl (ins.map Ins.av), .sl (types.map AV.int), .int out] 45, .unborn, .unborn, .unborn, .unborn, .unborn, .unborn, .unborn, .unborn, .cells [.int ins[i].op, .int ins[i].to, .int ins[i].a, .int ins[i].b, .int ins[i].c, .int ins[i].n, .str ins[i].s] 78] 3 [.R, .R, .R, .A, .N, .N, .R, .R, .R, .R, .R, .R, .R, .A, .R, .N, .W] (by kernel_rfl) (by kernel_rfl) (by simp) ?_) | ((with_reducible refine sideT ?_ ?_); first | omega | assumption | (simp; done)) | (refine qe fun K hK => ?_) | (refine qb ?_) | (refine qa true (by kernel_rfl) (by kernel_rfl) ?_) | (refine qa false (by kernel_rfl) (by kernel_rfl) ?_) | (refine hK _ ?_; clear hK K) | (clear hK K; refine hK _ ?_; clear hK K) | (clear hK K; clear hK K; refine hK _ ?_; clear hK K) | refine qc ?_)
              all_goals first | exact absurd (by assumption) hc2 | exact ⟨k + 1, ⟨by omega, hstep⟩, by omega, by omega⟩
        · obtain rfl : k = s.holds.length := by omega
          have hskk : sk = s.holds.length := hsl4 _ hkm hk (.inl rfl)
          rw [hskk, if_pos rfl, if_pos rfl] at hSi
          have hip : i < s.place.length := by omega
          have hz1 : (s.holds.length + 1) * 8 ≤ 140737488355328 := by omega
          have hz2 : (s.tys.length + 1) * 8 ≤ 140737488355328 := by omega
          have hz3 : (s.ins.length + 1) * 56 ≤ 140737488355328 := by omega
          repeat' (first | ((first | ((with_reducible refine qo (fun hg => ?_) (fun hg => ?_)) <;> (try simp only [hg]) <;> (try simp only [gS] at hg) <;> (try (first | simp only [eq_false hg, gI] | simp only [eq_true hg, gI]))) | (with_reducible first | refine qh ?_ | refine qg ?_ | refine ql ?_ | refine qk ?_ | refine anyF_step ?_ | refine anyF_end ?_) | refine qd ?_ | refine qi ?_ | refine qj ?_ | refine qm ?_) <;> (try simp (disch := first | omega | simp) [qf, -qq, -qs, hlk, hEl, t0, t1, ht, s5, hlt, hip, hz1, hz2, hz3])) | (with_reducible refine awp_anyF (id := 32) [.cells [.sl (ins.map Ins.av), .sl (types.map AV.int), .int out] 45, .unborn, .unborn, .unborn, .unborn, .unborn, .unborn, .unborn, .unborn, .cells [.int ins[i].op, .int ins[i].to, .int ins[i].a, .int ins[i].b, .int ins[i].c, .int ins[i].n, .str ins[i].s] 78] 3 [.R, .R, .R, .A, .N, .N, .R, .R, .R, .R, .R, .R, .R, .A, .R, .N, .W] (by kernel_rfl) (by kernel_rfl) (by simp) ?_) | ((with_reducible refine sideT ?_ ?_); first | omega | assumption | (simp; done)) | (refine qe fun K hK => ?_) | (refine qb ?_) | (refine qa true (by kernel_rfl) (by kernel_rfl) ?_) | (refine qa false (by kernel_rfl) (by kernel_rfl) ?_) | (refine hK _ ?_; clear hK K) | (clear hK K; refine hK _ ?_; clear hK K) | (clear hK K; clear hK K; refine hK _ ?_; clear hK K) | refine qc ?_)
          refine ⟨i + 1, ⟨s.ins ++ [newI ins[i] args s.holds.length], s.holds ++ [i], s.tys ++ [t], s.place.set i s.holds.length⟩, ⟨by omega, hSi, by simp [s1], by simp [s2], by simp; omega, fun q hq => ?_, by simp [s5]⟩, by omega, ?_⟩
          · rcases List.mem_append.1 hq with hq | hq
            · have := s4 q hq; omega
            · rw [List.mem_singleton] at hq; omega
          · simp [Y2, Ins.av, -Ins.av_fold, qcx, natAv_snoc]
    · obtain rfl : i = ins.length := by omega
      rw [List.drop_of_length_le (by omega), compI] at hSi
      subst hSi
      have hrp : root < S.place.length := by omega
      have hgp : S.place.getD root 0 = S.place[root] := by rw [List.getD_eq_getElem?_getD, List.getElem?_eq_getElem hrp]; rfl
      rw [hgp] at hR2
      repeat' (first | ((first | ((with_reducible refine qo (fun hg => ?_) (fun hg => ?_)) <;> (try simp only [hg]) <;> (try simp only [gS] at hg) <;> (try (first | simp only [eq_false hg, gI] | simp only [eq_true hg, gI]))) | (with_reducible first | refine qh ?_ | refine qg ?_ | refine ql ?_ | refine qk ?_) | refine qd ?_ | refine qi ?_ | refine qj ?_ | refine qm ?_) <;> (try simp (disch := first | omega | simp) [qf, -qq, -qs, hlt, s5, hro, hrp])) | ((with_reducible refine sideT ?_ ?_); first | omega | assumption | (simp; done)) | (refine qe fun K hK => ?_) | (refine qb ?_) | (refine qa true (by kernel_rfl) (by kernel_rfl) ?_) | (refine qa false (by kernel_rfl) (by kernel_rfl) ?_) | (refine hK _ ?_; clear hK K) | (clear hK K; refine hK _ ?_; clear hK K) | (clear hK K; clear hK K; refine hK _ ?_; clear hK K) | refine qc ?_)
      rw [hR2]; rfl
end Go.Proofs.YtnkimlkoijfcpaaGreatDoor

/- Walk of layer 26: Compile. -/
namespace Go.Proofs.YtnkimlkoijfcpaaGreatDoor
open Go.RowKit Go.Lib
theorem awp_reobj {P : Program} {code : Code} {Q : Exit → AS → Prop} {n n0 : Nat} {t : Nat → AV} {σ : Nat → AB} {L : List AB} (i : Nat) {I I' : Obj → Prop} (hL : L[i]? = some (.obj I)) (hI : ∀ o, I o → I' o)
    (h : awp P code Q ⟨n, t, σ, n0, L.set i (.obj I')⟩) : awp P code Q ⟨n, t, σ, n0, L⟩ := by
  intro X0 a w ⟨X, hc⟩
  have hi := (List.getElem?_eq_some_iff.1 hL).1
  have hst : (AS.mk n t σ n0 L).st (n0 + i) = .obj I := by
    show loc σ n0 L (n0 + i) = _
    unfold loc
    rw [if_neg (by omega), Nat.add_sub_cancel_left, List.getD_eq_getElem?_getD, hL]; rfl
  have hset : (AS.mk n t σ n0 L).set (n0 + i) (.obj I') = ⟨n, t, σ, n0, L.set i (.obj I')⟩ := by
    unfold AS.set; dsimp only; rw [if_neg (by omega), Nat.add_sub_cancel_left]
  have hX : X.σ (n0 + i) = .obj I := by rw [hc.σ, hst]
  have hlt : n0 + i < (AS.mk n t σ n0 L).nx := by show n0 + i < n0 + L.length; omega
  have hT : Turns X X.w X.S (n0 + i) (.obj I') (X.μ (n0 + i)) :=
    { grown := ⟨rfl, rfl, rfl, Nat.le_refl _, fun _ _ _ => rfl⟩
      blk := fun b2 h => .inl (by unfold St.blk; rw [hX]; exact h)
      ver := by
        unfold Ver
        rw [hX]
        exact ⟨⟨I', by simp [St.turn, upd]⟩, by simp [St.turn, upd]⟩
      keepS := fun b2 o h1 h2 => rfl
      more := fun _ _ h => h
      less := fun _ _ h => .inl h
      apart := fun b2 o h1 h2 => by
        obtain ⟨_, e, s2, h3, -⟩ := hc.sr.apart (n0 + i) b2 o (by unfold St.blk; rw [hX]; exact h1) h2
        rw [hX] at h3; cases h3
      old := fun b2 h => by
        have : X.blk (n0 + i) = some b2 := by unfold St.blk; rw [hX]; exact h
        exact hc.sr.lt this }
  have hw := hc.w
  subst hw
  have hB := hc.sr.block (n0 + i)
  rw [hX] at hB
  obtain ⟨b, o, h1, h2, h3⟩ := hB
  have hcon := con_turn (v := X.μ (n0 + i)) hc (by rw [hst]; simp) hT ⟨b, o, h1, h2, hI o h3⟩
  rw [hset] at hcon
  exact h X0 a X.w ⟨_, hcon⟩
theorem acallL {P : Program} {f : FuncId} {args : List AV} {n n0 : Nat} {t : Nat → AV} {σ : Nat → AB} {L : List AB} {K : AV → AS → Prop} {x : AV} (L' : List AB) (h : AC P f args (loc σ n0 L) fun y τ => y = x ∧ τ = loc σ n0 L') (hK : K x ⟨n, t, σ, n0, L'⟩) : ACall P f args ⟨n, t, σ, n0, L⟩ K :=
  ⟨x, ⟨n, t, σ, n0, L'⟩, h, ⟨rfl, rfl, rfl⟩, hK⟩
theorem stM_own {cols : List Int} {σ : Nat → AB} {n0 : Nat} {b0 b1 o m ta tb : AB} {M : List Ex} :
    stM cols (n0 + 3) (n0 + 4) (n0 + 5) (n0 + 2) M (loc σ n0 [b0, b1, o, m, ta, tb]) = loc σ n0 [b0, b1, .obj (mapI (entI M M 0)), mkB cols M (n0 + 4) (n0 + 5) (n0 + 2), .tail M.length 78 7, .tail M.length 3 1] := by
  funext r
  unfold stM loc
  by_cases hr : r < n0
  · rw [if_neg (by omega), if_neg (by omega), if_neg (by omega), if_neg (by omega), if_pos hr, if_pos hr]
  · obtain ⟨i, rfl⟩ : ∃ i, r = n0 + i := ⟨r - n0, by omega⟩
    rw [if_neg hr, if_neg hr, Nat.add_sub_cancel_left]
    match i with
    | 0 => simp
    | 1 => simp
    | 2 => simp
    | 3 => simp
    | 4 => simp
    | 5 => simp
    | i + 6 => simp
theorem adopt_mk {P : Program} {code : Code} {Q : Exit → AS → Prop} {n n0 : Nat} {t : Nat → AV} {σ : Nat → AB} {b0 b1 : AB} {x y z : AV} {T : TypeId}
    (h : awp P code Q ⟨n, t, σ, n0, [b0, b1, .obj (mapI []), .cells [x, .gs (n0 + 4) [], .gs (n0 + 5) [], y, z] T, .tail 0 78 7, .tail 0 3 1]⟩) :
    awp P code Q ⟨n, t, σ, n0, [b0, b1, .obj fun o => o = .map #[] 0, .cells [x, .v (.slice none 0 0), .v (.slice none 0 0), y, z] T]⟩ := by
  refine awp_reobj 2 (I' := mapI []) (by rfl) (fun o ho => by rw [ho]; exact mapI_nil) ?_
  refine qcf 3 1 78 7 (by rfl) (by rfl) ?_
  refine qcf 3 2 3 1 (by rfl) (by rfl) ?_
  exact h
set_option maxRecDepth 100000 in
set_option maxHeartbeats 16000000 in
theorem qdu (F : List Fn) (cols : List Int) (e : Ex) (hF : ∀ f ∈ F, parts f.body ≤ 1000) (hlF : F.length ≤ 1000) (hcols : cols.length ≤ 1000000) (he : parts e ≤ 1000) (hn : n64 e) (hFn : ∀ f ∈ F, n64 f.body) :
    Gives Tryz.prog 18 [.sl (F.map Fn.av), .sl (cols.map AV.int), e.av] (.tup [(qck F cols e).1.av, .int (qck F cols e).2]) := by
  obtain ⟨R, hR⟩ : ∃ R, R = qck F cols e := ⟨_, rfl⟩
  rw [← hR]
  unfold qck at hR
  have c1 := type_g F cols [] e (by omega) (fun f hf => by have := hF f hf; omega)
  simp only [List.map_nil] at c1
  cases ht : typeP F cols [] e with
  | none =>
    rw [ht] at hR c1
    simp only [Option.getD_none, Option.isSome_none] at c1
    refine qn Tryz.func18 Tryz.ntmps18 rfl rfl (by decide) rfl (by intro n; simp) fun σ n0 hcl hft => ?_
    repeat' (first | ((first | ((with_reducible refine qo (fun hg => ?_) (fun hg => ?_)) <;> (try simp only [hg]) <;> (try simp only [gS] at hg) <;> (try (first | simp only [eq_false hg, gI] | simp only [eq_true hg, gI]))) | (with_reducible first | refine qh ?_ | refine qg ?_ | refine ql ?_ | refine qk ?_) | refine acall (c1) ?_ | refine qr (c1) ?_ | refine qp (c1) ?_ | refine qd ?_ | refine qi ?_ | refine qj ?_ | refine qm ?_) <;> (try simp (disch := first | omega | simp) [qf, -qq, -qs])) | ((with_reducible refine sideT ?_ ?_); first | omega | assumption | (simp; done)) | (refine qe fun K hK => ?_) | (refine qb ?_) | (refine qa true (by kernel_rfl) (by kernel_rfl) ?_) | (refine qa false (by kernel_rfl) (by kernel_rfl) ?_) | (refine hK _ ?_; clear hK K) | (clear hK K; refine hK _ ?_; clear hK K) | (clear hK K; clear hK K; refine hK _ ?_; clear hK K) | refine qc ?_)
    all_goals (rw [hR]; simp [zeroCd, Cod.av, -Cod.av_fold])
  | some t =>
    rw [ht] at hR c1
    simp only [Option.getD_some, Option.isSome_some] at c1
    obtain ⟨h1, h2, h3, h4⟩ := typeP_all ht
    have c2 := Inline_g F hF hlF (okF_wfS h2) e he (wfS_of_ty e h3)
    unfold exr at c2
    cases hy : qcb F e with
    | none =>
      rw [hy] at hR c2
      simp only [Option.getD_none, Option.isSome_none] at c2
      refine qn Tryz.func18 Tryz.ntmps18 rfl rfl (by decide) rfl (by intro n; simp) fun σ n0 hcl hft => ?_
      repeat' (first | ((first | ((with_reducible refine qo (fun hg => ?_) (fun hg => ?_)) <;> (try simp only [hg]) <;> (try simp only [gS] at hg) <;> (try (first | simp only [eq_false hg, gI] | simp only [eq_true hg, gI]))) | (with_reducible first | refine qh ?_ | refine qg ?_ | refine ql ?_ | refine qk ?_) | refine acall (c1) ?_ | refine qr (c1) ?_ | refine qp (c1) ?_ | refine acall (c2) ?_ | refine qr (c2) ?_ | refine qp (c2) ?_ | refine qd ?_ | refine qi ?_ | refine qj ?_ | refine qm ?_) <;> (try simp (disch := first | omega | simp) [qf, -qq, -qs])) | ((with_reducible refine sideT ?_ ?_); first | omega | assumption | (simp; done)) | (refine qe fun K hK => ?_) | (refine qb ?_) | (refine qa true (by kernel_rfl) (by kernel_rfl) ?_) | (refine qa false (by kernel_rfl) (by kernel_rfl) ?_) | (refine hK _ ?_; clear hK K) | (clear hK K; refine hK _ ?_; clear hK K) | (clear hK K; clear hK K; refine hK _ ?_; clear hK K) | refine qc ?_)
      all_goals (rw [hR]; simp [zeroCd, Cod.av, -Cod.av_fold])
    | some y =>
      rw [hy] at hR c2
      simp only [Option.getD_some, Option.isSome_some] at c2
      obtain ⟨g1, g2, g3, g4, g5⟩ := compile_typ ht hy
      have gn := fold_n64 y (inline_n64 hFn hn hy)
      have c3 := Fold_g y g1 (by omega)
      have gk := raw_ok g3 g4
      have c5 := compact_g gk.1
      have hR1 : R.1 = compP (rawP cols (foldE y)) := by rw [hR]
      have hR0 : R.2 = 0 := by rw [hR]
      clear hR
      rw [← hR1] at c5
      generalize foldE y = f at *
      unfold rawP Cod.av at c5
      dsimp only at c5
      have hpg : PartsG cols [] := ⟨fun i y h => by simp at h, fun i j y h => by simp at h, by simp⟩
      obtain ⟨M, hM⟩ : ∃ M, M = qz f [] := ⟨_, rfl⟩
      rw [← hM] at c5
      rw [List.map_map] at c5
      refine qn Tryz.func18 Tryz.ntmps18 rfl rfl (by decide) rfl (by intro n; simp) fun σ n0 hcl hft => ?_
      have c6 : ∀ b0 b1, AC Tryz.prog 53 [.ptr (n0 + 3) 0, f.av] (loc σ n0 [b0, b1, .obj (mapI []), .cells [.sl (cols.map AV.int), .gs (n0 + 4) [], .gs (n0 + 5) [], .v (.int .i64 0), .own (n0 + 2) 0] 100, .tail 0 78 7, .tail 0 3 1]) fun y τ => y = .int (findE M f) ∧
          τ = loc σ n0 [b0, b1, .obj (mapI (entI M M 0)), mkB cols M (n0 + 4) (n0 + 5) (n0 + 2), .tail M.length 78 7, .tail M.length 3 1] := fun b0 b1 => by
        have h := add_ac cols hcols (n0 + 3) (n0 + 4) (n0 + 5) (n0 + 2) f [] (loc σ n0 [b0, b1, .obj (mapI []), .cells [.sl (cols.map AV.int), .gs (n0 + 4) [], .gs (n0 + 5) [], .v (.int .i64 0), .own (n0 + 2) 0] 100, .tail 0 78 7, .tail 0 3 1]) hpg g3 gn (by simp; omega) ⟨by simp [loc, mkB, rawI] <;> omega, by simp [loc] <;> omega, by simp [loc] <;> omega, by simp [loc, entI] <;> omega⟩
        rw [stM_own, ← hM] at h
        exact h
      repeat' (first | ((first | ((with_reducible refine qo (fun hg => ?_) (fun hg => ?_)) <;> (try simp only [hg]) <;> (try simp only [gS] at hg) <;> (try (first | simp only [eq_false hg, gI] | simp only [eq_true hg, gI]))) | (with_reducible first | refine qh ?_ | refine qg ?_ | refine ql ?_ | refine qk ?_) | refine acall (c1) ?_ | refine qr (c1) ?_ | refine qp (c1) ?_ | refine acall (c2) ?_ | refine qr (c2) ?_ | refine qp (c2) ?_ | refine adopt_mk ?_ | refine acall (c3) ?_ | refine qr (c3) ?_ | refine qp (c3) ?_ | refine acallL _ (c6 _ _) ?_ | refine acall (c5) ?_ | refine qr (c5) ?_ | refine qp (c5) ?_ | refine qd ?_ | refine qi ?_ | refine qj ?_ | refine qm ?_) <;> (try simp (disch := first | omega | simp) [qf, -qq, -qs, mkB])) | ((with_reducible refine sideT ?_ ?_); first | omega | assumption | (simp; done)) | (refine qe fun K hK => ?_) | (refine qb ?_) | (refine hK _ ?_; clear hK K) | (clear hK K; refine hK _ ?_; clear hK K) | (clear hK K; clear hK K; refine hK _ ?_; clear hK K) | refine qc ?_)
      all_goals (first | rfl | (rw [hR0]; done) | (simp [hR0]; done))
end Go.Proofs.YtnkimlkoijfcpaaGreatDoor

/- Walks of chapter 3: right values and rows; of the reference, too. -/
namespace Go.Proofs.YtnkimlkoijfcpaaGreatDoor
open Go.RowKit Go.Lib
end Go.Proofs.YtnkimlkoijfcpaaGreatDoor

/- Walks of the laws of layer 26: the examples, and the bounds. -/
namespace Go.Proofs.YtnkimlkoijfcpaaGreatDoor
open Go.RowKit Go.Lib
theorem col26_g (n : Int) : Gives Tryz.prog 35 [.int n] (Ex.mk 3 n ByteArray.empty []).av := by
  refine qn Tryz.func35 Tryz.ntmps35 rfl rfl (by decide) rfl (by intro n; simp) fun σ n0 hcl hft => ?_
  repeat' (first | ((first | ((with_reducible refine qo (fun hg => ?_) (fun hg => ?_)) <;> (try simp only [hg]) <;> (try simp only [gS] at hg) <;> (try (first | simp only [eq_false hg, gI] | simp only [eq_true hg, gI]))) | (with_reducible first | refine qh ?_ | refine qg ?_ | refine ql ?_ | refine qk ?_) | refine qd ?_ | refine qi ?_ | refine qj ?_ | refine qm ?_) <;> (try simp (disch := first | omega | simp) [qf, -qq, -qs])) | ((with_reducible refine sideT ?_ ?_); first | omega | assumption | (simp; done)) | (refine qe fun K hK => ?_) | (refine qb ?_) | (refine qa true (by kernel_rfl) (by kernel_rfl) ?_) | (refine hK _ ?_; clear hK K) | (clear hK K; refine hK _ ?_; clear hK K) | (clear hK K; clear hK K; refine hK _ ?_; clear hK K) | refine qc ?_)
theorem two26_g (op : Int) (a b : Ex) : Gives Tryz.prog 34 [.int op, a.av, b.av] (Ex.mk op 0 ByteArray.empty [a, b]).av := by
  refine qn Tryz.func34 Tryz.ntmps34 rfl rfl (by decide) rfl (by intro n; simp) fun σ n0 hcl hft => ?_
  repeat' (first | ((first | ((with_reducible refine qo (fun hg => ?_) (fun hg => ?_)) <;> (try simp only [hg]) <;> (try simp only [gS] at hg) <;> (try (first | simp only [eq_false hg, gI] | simp only [eq_true hg, gI]))) | (with_reducible first | refine qh ?_ | refine qg ?_ | refine ql ?_ | refine qk ?_) | refine qd ?_ | refine qi ?_ | refine qj ?_ | refine qm ?_) <;> (try simp (disch := first | omega | simp) [qf, -qq, -qs])) | ((with_reducible refine sideT ?_ ?_); first | omega | assumption | (simp; done)) | (refine qe fun K hK => ?_) | (refine qb ?_) | (refine qa true (by kernel_rfl) (by kernel_rfl) ?_) | (refine hK _ ?_; clear hK K) | (clear hK K; refine hK _ ?_; clear hK K) | (clear hK K; clear hK K; refine hK _ ?_; clear hK K) | refine qc ?_)
set_option maxHeartbeats 4000000 in
theorem ops26_g (c : Cod) (l : List Int) (hl : l.length ≤ 1000000) (hc : c.ins.length ≤ 1000000) : Gives Tryz.prog 36 [c.av, .sl (l.map AV.int)] (.bool (decide (c.ins.map Ins.op = l))) := by
  obtain ⟨ins, types, out⟩ := c
  simp only at *
  by_cases hlen : ins.length = l.length
  · have hlenI : (ins.length : Int) = l.length := by omega
    refine qn Tryz.func36 Tryz.ntmps36 rfl rfl (by decide) rfl (by intro n; simp) fun σ n0 hcl hft => ?_
    repeat' (first | ((first | ((with_reducible refine qo (fun hg => ?_) (fun hg => ?_)) <;> (try simp only [hg]) <;> (try simp only [gS] at hg) <;> (try (first | simp only [eq_false hg, gI] | simp only [eq_true hg, gI]))) | (with_reducible first | refine qh ?_ | refine qg ?_ | refine ql ?_ | refine qk ?_) | refine qd ?_ | refine qi ?_ | refine qj ?_ | refine qm ?_) <;> (try simp (disch := first | omega | simp) [qf, -qq, -qs, hlen, hlenI])) | ((with_reducible refine sideT ?_ ?_); first | omega | assumption | (simp; done)) | (refine qe fun K hK => ?_) | (refine qb ?_) | (refine qa true (by kernel_rfl) (by kernel_rfl) ?_) | (refine qa false (by kernel_rfl) (by kernel_rfl) ?_) | (refine hK _ ?_; clear hK K) | (clear hK K; refine hK _ ?_; clear hK K) | (clear hK K; clear hK K; refine hK _ ?_; clear hK K) | refine qc ?_)
    refine qu hcl (fun k : Nat => [(1, .sl (l.map AV.int)), (2, .ptr n0 0), (5, .int k)]) (fun _ => [.cells [.sl (ins.map Ins.av), .sl (types.map AV.int), .int out] 45])
      (fun k => k ≤ l.length ∧ ∀ j (h : j < ins.length) (h2 : j < l.length), j < k → ins[j].op = l[j]) (fun k => l.length - k) 0 (by simp) (by simp) fun k ⟨hk, he⟩ => ?_
    by_cases hlt : k < l.length
    · have hlt2 : k < ins.length := by omega
      by_cases heq : ins[k].op = l[k]
      · repeat' (first | ((first | ((with_reducible refine qo (fun hg => ?_) (fun hg => ?_)) <;> (try simp only [hg]) <;> (try simp only [gS] at hg) <;> (try (first | simp only [eq_false hg, gI] | simp only [eq_true hg, gI]))) | (with_reducible first | refine qh ?_ | refine qg ?_ | refine ql ?_ | refine qk ?_) | refine qd ?_ | refine qi ?_ | refine qj ?_ | refine qm ?_) <;> (try simp (disch := first | omega | simp) [qf, -qq, -qs, hlt, hlt2, heq])) | ((with_reducible refine sideT ?_ ?_); first | omega | assumption | (simp; done)) | (refine qe fun K hK => ?_) | (refine qb ?_) | (refine qa true (by kernel_rfl) (by kernel_rfl) ?_) | (refine qa false (by kernel_rfl) (by kernel_rfl) ?_) | (refine hK _ ?_; clear hK K) | (clear hK K; refine hK _ ?_; clear hK K) | (clear hK K; clear hK K; refine hK _ ?_; clear hK K) | refine qc ?_)
        all_goals first | exact absurd heq (by assumption) | exact ⟨k + 1, ⟨by omega, fun j h h2 hj => by
          by_cases hjk : j = k
          · subst hjk; exact heq
          · exact he j h h2 (by omega)⟩, by omega, by simp⟩
      · have : ¬ ins.map Ins.op = l := fun e => heq (by subst e; simp)
        repeat' (first | ((first | ((with_reducible refine qo (fun hg => ?_) (fun hg => ?_)) <;> (try simp only [hg]) <;> (try simp only [gS] at hg) <;> (try (first | simp only [eq_false hg, gI] | simp only [eq_true hg, gI]))) | (with_reducible first | refine qh ?_ | refine qg ?_ | refine ql ?_ | refine qk ?_) | refine qd ?_ | refine qi ?_ | refine qj ?_ | refine qm ?_) <;> (try simp (disch := first | omega | simp) [qf, -qq, -qs, hlt, hlt2, heq])) | ((with_reducible refine sideT ?_ ?_); first | omega | assumption | (simp; done)) | (refine qe fun K hK => ?_) | (refine qb ?_) | (refine qa true (by kernel_rfl) (by kernel_rfl) ?_) | (refine qa false (by kernel_rfl) (by kernel_rfl) ?_) | (refine hK _ ?_; clear hK K) | (clear hK K; refine hK _ ?_; clear hK K) | (clear hK K; clear hK K; refine hK _ ?_; clear hK K) | refine qc ?_)
        all_goals first | exact absurd (by assumption) heq | (simp [this]; done)
    · have : ins.map Ins.op = l := by
        apply List.ext_getElem (by simpa using hlen)
        intro i h1 h2
        rw [List.getElem_map]; exact he i _ h2 (by omega)
      repeat' (first | ((first | ((with_reducible refine qo (fun hg => ?_) (fun hg => ?_)) <;> (try simp only [hg]) <;> (try simp only [gS] at hg) <;> (try (first | simp only [eq_false hg, gI] | simp only [eq_true hg, gI]))) | (with_reducible first | refine qh ?_ | refine qg ?_ | refine ql ?_ | refine qk ?_) | refine qd ?_ | refine qi ?_ | refine qj ?_ | refine qm ?_) <;> (try simp (disch := first | omega | simp) [qf, -qq, -qs, hlt])) | ((with_reducible refine sideT ?_ ?_); first | omega | assumption | (simp; done)) | (refine qe fun K hK => ?_) | (refine qb ?_) | (refine qa true (by kernel_rfl) (by kernel_rfl) ?_) | (refine qa false (by kernel_rfl) (by kernel_rfl) ?_) | (refine hK _ ?_; clear hK K) | (clear hK K; refine hK _ ?_; clear hK K) | (clear hK K; clear hK K; refine hK _ ?_; clear hK K) | refine qc ?_)
      all_goals (simp [this])
  · have hne : ¬ ins.map Ins.op = l := fun e => hlen (by subst e; simp)
    have hlenI : ¬ (ins.length : Int) = l.length := by omega
    refine qn Tryz.func36 Tryz.ntmps36 rfl rfl (by decide) rfl (by intro n; simp) fun σ n0 hcl hft => ?_
    repeat' (first | ((first | ((with_reducible refine qo (fun hg => ?_) (fun hg => ?_)) <;> (try simp only [hg]) <;> (try simp only [gS] at hg) <;> (try (first | simp only [eq_false hg, gI] | simp only [eq_true hg, gI]))) | (with_reducible first | refine qh ?_ | refine qg ?_ | refine ql ?_ | refine qk ?_) | refine qd ?_ | refine qi ?_ | refine qj ?_ | refine qm ?_) <;> (try simp (disch := first | omega | simp) [qf, -qq, -qs, hlenI, hne])) | ((with_reducible refine sideT ?_ ?_); first | omega | assumption | (simp; done)) | (refine qe fun K hK => ?_) | (refine qb ?_) | (refine qa true (by kernel_rfl) (by kernel_rfl) ?_) | (refine qa false (by kernel_rfl) (by kernel_rfl) ?_) | (refine hK _ ?_; clear hK K) | (clear hK K; refine hK _ ?_; clear hK K) | (clear hK K; clear hK K; refine hK _ ?_; clear hK K) | refine qc ?_)
    all_goals first | exact absurd (by assumption) hlenI | (simp [hne]; done)
def ex26a : Ex := .mk 8 0 ByteArray.empty [.mk 3 0 ByteArray.empty [], .mk 10 0 ByteArray.empty [.mk 0 2 ByteArray.empty [], .mk 0 3 ByteArray.empty []]]
def ex26s : Ex := .mk 8 0 ByteArray.empty [.mk 3 0 ByteArray.empty [], .mk 0 1 ByteArray.empty []]
def ex26b : Ex := .mk 10 0 ByteArray.empty [ex26s, ex26s]
def ex26c : Ex := .mk 21 0 ByteArray.empty [.mk 2 1 ByteArray.empty [], .mk 3 0 ByteArray.empty [], .mk 0 5 ByteArray.empty []]
def ex26d : Ex := .mk 8 0 ByteArray.empty [.mk 3 1 ByteArray.empty [], .mk 0 1 ByteArray.empty []]
theorem com26a : qck [] [0, 1] ex26a = (⟨[⟨3, 0, 0, 0, 0, 0, ByteArray.empty⟩, ⟨0, 1, 0, 0, 0, 6, ByteArray.empty⟩, ⟨8, 0, 0, 1, 0, 0, ByteArray.empty⟩], [0, 0], 0⟩, 0) := by kernel_rfl
theorem com26b : qck [] [0, 1] ex26b = (⟨[⟨3, 0, 0, 0, 0, 0, ByteArray.empty⟩, ⟨0, 1, 0, 0, 0, 1, ByteArray.empty⟩, ⟨8, 0, 0, 1, 0, 0, ByteArray.empty⟩, ⟨10, 0, 0, 0, 0, 0, ByteArray.empty⟩], [0, 0], 0⟩, 0) := by kernel_rfl
theorem com26c : qck [] [0, 1] ex26c = (⟨[⟨3, 0, 0, 0, 0, 0, ByteArray.empty⟩], [0], 0⟩, 0) := by kernel_rfl
theorem com26d : qck [] [0, 1] ex26d = (⟨[], [], 0⟩, 13) := by kernel_rfl
theorem n64_small : n64 ex26a ∧ n64 ex26b ∧ n64 ex26c ∧ n64 ex26d := by
  have h0 : ByteArray.empty.size ≤ 9223372036854775807 := by decide
  refine ⟨?_, ?_, ?_, ?_⟩ <;> simp [ex26a, ex26b, ex26c, ex26d, ex26s, qch, NS, I64, h0]
theorem small26_g : Gives Tryz.prog 7 [] (.bool true) := by
  obtain ⟨na, nb, nc, nd⟩ := n64_small
  have ca := qdu [] [0, 1] ex26a (by simp) (by simp) (by simp) (by decide) na (by simp)
  have cb := qdu [] [0, 1] ex26b (by simp) (by simp) (by simp) (by decide) nb (by simp)
  have cc := qdu [] [0, 1] ex26c (by simp) (by simp) (by simp) (by decide) nc (by simp)
  have cd := qdu [] [0, 1] ex26d (by simp) (by simp) (by simp) (by decide) nd (by simp)
  rw [com26a] at ca
  rw [com26b] at cb
  rw [com26c] at cc
  rw [com26d] at cd
  have o1 := ops26_g ⟨[⟨3, 0, 0, 0, 0, 0, ByteArray.empty⟩, ⟨0, 1, 0, 0, 0, 6, ByteArray.empty⟩, ⟨8, 0, 0, 1, 0, 0, ByteArray.empty⟩], [0, 0], 0⟩ [3, 0, 8] (by simp) (by simp)
  have o2 := ops26_g ⟨[⟨3, 0, 0, 0, 0, 0, ByteArray.empty⟩, ⟨0, 1, 0, 0, 0, 1, ByteArray.empty⟩, ⟨8, 0, 0, 1, 0, 0, ByteArray.empty⟩, ⟨10, 0, 0, 0, 0, 0, ByteArray.empty⟩], [0, 0], 0⟩ [3, 0, 8, 10] (by simp) (by simp)
  have o3 := ops26_g ⟨[⟨3, 0, 0, 0, 0, 0, ByteArray.empty⟩], [0], 0⟩ [3] (by simp) (by simp)
  simp only [ex26a, ex26b, ex26c, ex26d, ex26s, Ex.av_mk, List.map_cons, List.map_nil, Cod.av, Ins.av] at ca cb cc cd o1 o2 o3
  simp at o1 o2 o3
  have w1 := col26_g 0
  have w2 := col26_g 1
  have v1 := two26_g 10 (.mk 0 2 ByteArray.empty []) (.mk 0 3 ByteArray.empty [])
  have v2 := two26_g 8 (.mk 3 0 ByteArray.empty []) (.mk 10 0 ByteArray.empty [.mk 0 2 ByteArray.empty [], .mk 0 3 ByteArray.empty []])
  have v3 := two26_g 8 (.mk 3 0 ByteArray.empty []) (.mk 0 1 ByteArray.empty [])
  have v4 := two26_g 10 ex26s ex26s
  have v5 := two26_g 8 (.mk 3 1 ByteArray.empty []) (.mk 0 1 ByteArray.empty [])
  simp only [ex26s, Ex.av_mk, List.map_cons, List.map_nil] at w1 w2 v1 v2 v3 v4 v5
  refine qn Tryz.func7 Tryz.ntmps7 rfl rfl (by decide) rfl (by intro n; simp) fun σ n0 hcl hft => ?_
  repeat' (first | ((first | ((with_reducible refine qo (fun hg => ?_) (fun hg => ?_)) <;> (try simp only [hg]) <;> (try simp only [gS] at hg) <;> (try (first | simp only [eq_false hg, gI] | simp only [eq_true hg, gI]))) | (with_reducible first | refine qh ?_ | refine qg ?_ | refine ql ?_ | refine qk ?_) | refine acall (w1) ?_ | refine qr (w1) ?_ | refine qp (w1) ?_ | refine acall (w2) ?_ | refine qr (w2) ?_ | refine qp (w2) ?_ | refine acall (v1) ?_ | refine qr (v1) ?_ | refine qp (v1) ?_ | refine acall (v2) ?_ | refine qr (v2) ?_ | refine qp (v2) ?_ | refine acall (v3) ?_ | refine qr (v3) ?_ | refine qp (v3) ?_ | refine acall (v4) ?_ | refine qr (v4) ?_ | refine qp (v4) ?_ | refine acall (v5) ?_ | refine qr (v5) ?_ | refine qp (v5) ?_ | refine acall (ca) ?_ | refine qr (ca) ?_ | refine qp (ca) ?_ | refine acall (cb) ?_ | refine qr (cb) ?_ | refine qp (cb) ?_ | refine acall (cc) ?_ | refine qr (cc) ?_ | refine qp (cc) ?_ | refine acall (cd) ?_ | refine qr (cd) ?_ | refine qp (cd) ?_ | refine acall (o1) ?_ | refine qr (o1) ?_ | refine qp (o1) ?_ | refine acall (o2) ?_ | refine qr (o2) ?_ | refine qp (o2) ?_ | refine acall (o3) ?_ | refine qr (o3) ?_ | refine qp (o3) ?_ | refine qd ?_ | refine qi ?_ | refine qj ?_ | refine qm ?_) <;> (try simp (disch := first | omega | simp) [qf, -qq, -qs])) | ((with_reducible refine sideT ?_ ?_); first | omega | assumption | (simp; done)) | (refine qe fun K hK => ?_) | (refine qb ?_) | (refine qa true (by kernel_rfl) (by kernel_rfl) ?_) | (refine qa false (by kernel_rfl) (by kernel_rfl) ?_) | (refine hK _ ?_; clear hK K) | (clear hK K; refine hK _ ?_; clear hK K) | (clear hK K; clear hK K; refine hK _ ?_; clear hK K) | refine qc ?_)
end Go.Proofs.YtnkimlkoijfcpaaGreatDoor

/- Walks of the laws of layer 26: running a program. -/
namespace Go.Proofs.YtnkimlkoijfcpaaGreatDoor
open Go.RowKit Go.Lib
end Go.Proofs.YtnkimlkoijfcpaaGreatDoor

/- Contracts of Steps, as abstract ones. -/
namespace Go.Proofs.YtnkimlkoijfcpaaGreatDoor
open Go.RowKit Go.Lib
end Go.Proofs.YtnkimlkoijfcpaaGreatDoor

/- Layer 27 on plain data: batches that fit; the columns of a program. -/
namespace Go.Proofs.YtnkimlkoijfcpaaGreatDoor
open Go.RowKit Go.Lib
end Go.Proofs.YtnkimlkoijfcpaaGreatDoor
