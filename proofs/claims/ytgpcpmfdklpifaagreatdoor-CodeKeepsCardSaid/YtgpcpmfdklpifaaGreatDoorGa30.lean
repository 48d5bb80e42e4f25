/- Walk of layer 25: Compact. -/
import Derived.Test.YtgpcpmfdklpifaaGreatDoorGaShelf
import Derived.Lib.OwnBridge
import Derived.Sort.OwnSortedInts
import Derived.Test.YtgpcpmfdklpifaaGreatDoorGa4
import Derived.Test.YtgpcpmfdklpifaaGreatDoorGa11
import Derived.Test.YtgpcpmfdklpifaaGreatDoorGa13
import Derived.Test.YtgpcpmfdklpifaaGreatDoorGa19
import Derived.Test.YtgpcpmfdklpifaaGreatDoorGa21
import Derived.Test.YtgpcpmfdklpifaaGreatDoorGa28
import Derived.Test.YtgpcpmfdklpifaaGreatDoorGa29
set_option linter.unusedSimpArgs false
set_option linter.unusedVariables false
namespace Go.Proofs.YtgpcpmfdklpifaaGreatDoor
open Go.RowKit Go.Lib
theorem qce (l : List Nat) (i v : Nat) : natAv (l.set i v) = (natAv l).set i (.int v) := by unfold natAv; rw [List.map_set]
theorem natAv_snoc (l : List Nat) (v : Nat) : natAv (l ++ [v]) = natAv l ++ [.int v] := by unfold natAv; rw [List.map_append]; rfl
theorem natAv_rep (n : Nat) : natAv (List.replicate n 0) = List.replicate n (.int 0) := by unfold natAv; rw [List.map_replicate]; rfl
def endS (i : Nat) (e : List Nat) (src : List Nat) : List Nat := src.foldl (fun e k => e.set k i) e
theorem endS_snoc (i : Nat) (e src : List Nat) (k : Nat) : endS i e (src ++ [k]) = (endS i e src).set k i := by unfold endS; rw [List.foldl_append]; rfl
theorem endS_len (i : Nat) : ∀ (src e : List Nat), (endS i e src).length = e.length
  | [], _ => rfl
  | k :: src, e => by unfold endS; rw [List.foldl_cons]; have := endS_len i src (e.set k i); unfold endS at this; rw [this, List.length_set]
theorem slot_uniq {e : List Nat} {i : Nat} {t : Int} {hs : List Nat} {us : List Int} (hl : hs.length = us.length) {k : Nat} (h : ∀ m, m < k → i < e.getD (hs.getD m 0) 0 ∨ us.getD m 0 ≠ t) (hk : k ≤ hs.length)
    (h2 : k = hs.length ∨ ¬ (i < e.getD (hs.getD k 0) 0 ∨ us.getD k 0 ≠ t)) : slot e i t hs us = k := by
  obtain ⟨h3, h4, h5⟩ := slot_spec e i t hs us hl
  rcases Nat.lt_trichotomy (slot e i t hs us) k with h6 | h6 | h6
  · have h7 := h _ h6
    have h8 := h4 (by omega)
    rcases h7 with h7 | h7
    · omega
    · exact absurd h8.2 h7
  · exact h6
  · have h7 := h5 k h6
    rcases h2 with h2 | h2
    · omega
    · exact absurd h7 h2
set_option maxHeartbeats 8000000 in
theorem compact_g {c : Cod} {cols : List Int} (h : CodOk c cols) : Gives Tryz.prog 14 [c.av] (compP c).av := by
  have c1 := trim_g h
  obtain ⟨hd, -, -⟩ := trim_ok h 0 []
  have c2 := sources_g hd
  have hro := (hd.val_res 0 []).1
  have hdl : (qt (trimP c)).length = (trimP c).ins.length := by unfold qt; exact qx _ _ _
  have hea := hd.early
  have hs3 : ∀ d ∈ qt (trimP c), d.src.length ≤ 3 := nodes_src _ _ _
  have hxs : ∀ k (h1 : k < (qt (trimP c)).length) (h2 : k < (trimP c).ins.length), ((qt (trimP c))[k]).x = (trimP c).ins[k] := by
    have : ∀ (l : List Ins) (i : Nat) (last : List Nat) (k : Nat) (h1 : k < (nodes l i last).length) (h2 : k < l.length), ((nodes l i last)[k]).x = l[k] := fun l => by
      induction l with
      | nil => intro _ _ k h1 h2; simp at h2
      | cons x l ih =>
        intro i last k h1 h2
        cases k with
        | zero => rfl
        | succ k => exact ih (i + 1) _ k _ _
    exact this _ _ _
  have hto : ∀ x ∈ (trimP c).ins, 0 ≤ x.tgt ∧ x.tgt < (trimP c).types.length := by
    have : ∀ (l : List Ins) (done : List Bool), AllOk cols (trimP c).types l done → ∀ x ∈ l, 0 ≤ x.tgt ∧ x.tgt < (trimP c).types.length := fun l => by
      induction l with
      | nil => intro _ _ x hx; cases hx
      | cons y l ih =>
        intro done ha x hx
        rcases List.mem_cons.1 hx with rfl | hx
        · exact ⟨ha.1.to0, ha.1.to1⟩
        · exact ih _ ha.2 x hx
    exact this _ _ hd.all
  have hni := hd.ni
  have hnt := hd.nt
  obtain ⟨R, hR⟩ : ∃ R, R = compP c := ⟨_, rfl⟩
  rw [← hR]
  unfold compP compS at hR
  dsimp only at hR
  generalize qt (trimP c) = ds at *
  generalize rootC (trimP c) = root at *
  generalize trimP c = d at *
  obtain ⟨ins, types, out⟩ := d
  obtain ⟨cins, ctypes, cout⟩ := c
  simp only at hro hdl hni hnt hxs hto hR
  have hsz1 : 8 * ins.length ≤ 281474976710656 := by omega
  have hsz2 : 1 * ins.length ≤ 281474976710656 := by omega
  refine qn Tryz.func14 Tryz.ntmps14 rfl rfl (by decide) rfl (by intro n; simp) fun σ n0 hcl hft => ?_
  repeat' (first | ((first | ((with_reducible refine qo (fun hg => ?_) (fun hg => ?_)) <;> (try simp only [hg]) <;> (try simp only [gS] at hg) <;> (try (first | simp only [eq_false hg, gI] | simp only [eq_true hg, gI]))) | (with_reducible first | refine qc ?_ | refine qb ?_ | refine qi ?_ | refine qh ?_) | refine acall (c1) ?_ | refine qp (c1) ?_ | refine acall (c2) ?_ | refine qp (c2) ?_ | refine qe ?_ | refine qj ?_ | refine qk ?_ | refine qm ?_) <;> (try simp (disch := first | omega | simp) [qg, -qq, -qs, hsz1, hsz2])) | ((with_reducible refine sideT ?_ ?_); first | omega | assumption | (simp; done)) | (refine qf fun K hK => ?_) | (refine qa ?_) | refine ql ?_ | ((first | refine hK _ ?_ | (clear hK K; refine hK _ ?_) | (clear hK K; clear hK K; refine hK _ ?_)); clear hK K) | refine qd ?_)
  obtain ⟨EI, hEI⟩ : ∃ EI, EI = endI ds 0 (List.replicate ins.length 0) := ⟨_, rfl⟩
  refine qr hcl (fun b : Nat × List Nat => [(1, .ptr n0 0), (2, .ptr (n0 + 1) 0), (3, .sl (srcAv ds)), (4, .int root), (5, .own (n0 + 2) ins.length), (31, .sl (srcAv ds)), (32, .int ds.length), (33, .int b.1)])
    (fun b => [.cells [.sl (ins.map Ins.av), .sl (types.map AV.int), .int out] 25, .cells [.v (.slice none 0 0), .v (.slice none 0 0), .int 0] 25, .vec (natAv b.2) 3 1])
    (fun b => b.1 ≤ ins.length ∧ b.2.length = ins.length ∧ EI = endI (ds.drop b.1) b.1 b.2) (fun b => ins.length - b.1) (0, List.replicate ins.length 0) ⟨by omega, by simp, hEI⟩ (by simp [natAv_rep]) fun ⟨k, e⟩ ⟨hk, hel, he⟩ => ?_
  dsimp only at hk hel he
  by_cases hlt : k < ins.length
  · have hltd : k < ds.length := by omega
    have hsd : (ds.getD k ⟨⟨0, 0, 0, 0, 0, 0, ByteArray.empty⟩, []⟩).src = ds[k].src := by rw [List.getD_eq_getElem?_getD, List.getElem?_eq_getElem hltd]; rfl
    have hse : ∀ j ∈ ds[k].src, j < k := fun j hj => hea k hltd j (by unfold srcOf; rw [hsd]; exact hj)
    have hsl3 := hs3 ds[k] (List.getElem_mem _)
    rw [List.drop_eq_getElem_cons hltd, endI] at he
    change EI = endI (ds.drop (k + 1)) (k + 1) (endS k (e.set k k) ds[k].src) at he
    generalize hsrc : ds[k].src = src at *
    repeat' (first | ((first | ((with_reducible refine qo (fun hg => ?_) (fun hg => ?_)) <;> (try simp only [hg]) <;> (try simp only [gS] at hg) <;> (try (first | simp only [eq_false hg, gI] | simp only [eq_true hg, gI]))) | (with_reducible first | refine qc ?_ | refine qb ?_ | refine qi ?_ | refine qh ?_) | refine qe ?_ | refine qj ?_ | refine qk ?_ | refine qm ?_) <;> (try simp (disch := first | omega | simp) [qg, -qq, -qs, hltd, hel, hsrc, hlt])) | ((with_reducible refine sideT ?_ ?_); first | omega | assumption | (simp; done)) | (refine qf fun K hK => ?_) | (refine qa ?_) | refine ql ?_ | ((first | refine hK _ ?_ | (clear hK K; refine hK _ ?_) | (clear hK K; clear hK K; refine hK _ ?_)); clear hK K) | refine qd ?_)
    refine qr hcl (fun j : Nat => [(1, .ptr n0 0), (2, .ptr (n0 + 1) 0), (3, .sl (srcAv ds)), (4, .int root), (5, .own (n0 + 2) ins.length), (6, .int k), (31, .sl (srcAv ds)), (32, .int ds.length), (33, .int k), (42, .sl (natAv src)), (43, .int src.length), (44, .int j)])
      (fun j => [.cells [.sl (ins.map Ins.av), .sl (types.map AV.int), .int out] 25, .cells [.v (.slice none 0 0), .v (.slice none 0 0), .int 0] 25, .vec (natAv (endS k (e.set k k) (src.take j))) 3 1])
      (fun j => j ≤ src.length) (fun j => src.length - j) 0 (by omega) (by simp [endS, qce]; exact cls_set (natAv_cl _ _) (by simp)) fun j hj => ?_
    have hl2 : (endS k (e.set k k) (src.take j)).length = ins.length := by rw [endS_len, List.length_set]; exact hel
    by_cases hlt2 : j < src.length
    · have hs1 := hse src[j] (List.getElem_mem _)
      have hs2 : src[j] < ins.length := by omega
      have hsn : endS k (e.set k k) (src.take (j + 1)) = (endS k (e.set k k) (src.take j)).set src[j] k := by rw [List.take_succ_eq_append_getElem hlt2, endS_snoc]
      repeat' (first | ((first | ((with_reducible refine qo (fun hg => ?_) (fun hg => ?_)) <;> (try simp only [hg]) <;> (try simp only [gS] at hg) <;> (try (first | simp only [eq_false hg, gI] | simp only [eq_true hg, gI]))) | (with_reducible first | refine qc ?_ | refine qb ?_ | refine qi ?_ | refine qh ?_) | refine qe ?_ | refine qj ?_ | refine qk ?_ | refine qm ?_) <;> (try simp (disch := first | omega | simp) [qg, -qq, -qs, hlt2, hl2, hs2])) | ((with_reducible refine sideT ?_ ?_); first | omega | assumption | (simp; done)) | (refine qf fun K hK => ?_) | (refine qa ?_) | refine ql ?_ | ((first | refine hK _ ?_ | (clear hK K; refine hK _ ?_) | (clear hK K; clear hK K; refine hK _ ?_)); clear hK K) | refine qd ?_)
      refine ⟨j + 1, by omega, by omega, ?_⟩
      rw [hsn]; simp [qce]
    · obtain rfl : j = src.length := by omega
      rw [List.take_length] at hl2 ⊢
      repeat' (first | ((first | ((with_reducible refine qo (fun hg => ?_) (fun hg => ?_)) <;> (try simp only [hg]) <;> (try simp only [gS] at hg) <;> (try (first | simp only [eq_false hg, gI] | simp only [eq_true hg, gI]))) | (with_reducible first | refine qc ?_ | refine qb ?_ | refine qi ?_ | refine qh ?_) | refine qe ?_ | refine qj ?_ | refine qk ?_ | refine qm ?_) <;> (try simp (disch := first | omega | simp) [qg, -qq, -qs, hlt2])) | ((with_reducible refine sideT ?_ ?_); first | omega | assumption | (simp; done)) | (refine qf fun K hK => ?_) | (refine qa ?_) | refine ql ?_ | ((first | refine hK _ ?_ | (clear hK K; refine hK _ ?_) | (clear hK K; clear hK K; refine hK _ ?_)); clear hK K) | refine qd ?_)
      refine ⟨k + 1, endS k (e.set k k) src, ⟨by omega, hl2, he⟩, by omega, ?_⟩
      simp
  · obtain rfl : k = ins.length := by omega
    rw [List.drop_of_length_le (by omega), endI] at he
    subst he
    have hltd : ¬ ins.length < ds.length := by omega
    repeat' (first | ((first | ((with_reducible refine qo (fun hg => ?_) (fun hg => ?_)) <;> (try simp only [hg]) <;> (try simp only [gS] at hg) <;> (try (first | simp only [eq_false hg, gI] | simp only [eq_true hg, gI]))) | (with_reducible first | refine qc ?_ | refine qb ?_ | refine qi ?_ | refine qh ?_) | refine qe ?_ | refine qj ?_ | refine qk ?_ | refine qm ?_) <;> (try simp (disch := first | omega | simp) [qg, -qq, -qs, hltd, hel, hro, hsz1, hsz2])) | ((with_reducible refine sideT ?_ ?_); first | omega | assumption | (simp; done)) | (refine qf fun K hK => ?_) | (refine qa ?_) | refine ql ?_ | ((first | refine hK _ ?_ | (clear hK K; refine hK _ ?_) | (clear hK K; clear hK K; refine hK _ ?_)); clear hK K) | refine qd ?_)
    obtain ⟨E, hE⟩ : ∃ E, E = EI.set root ins.length := ⟨_, rfl⟩
    have hEl : E.length = ins.length := by rw [hE, List.length_set]; exact hel
    obtain ⟨S, hS⟩ : ∃ S, S = compI E types ds 0 ⟨[], [], [], List.replicate ins.length 0⟩ := ⟨_, rfl⟩
    have hR2 : R = ⟨S.ins, S.tys, (S.place.getD root 0 : Nat)⟩ := by rw [hR, hS, hE, hEI, endP, hdl]
    clear hR hEI
    refine qw 3 0 32 7 (by rfl) (by rfl) ?_
    refine qw 3 1 3 1 (by rfl) (by rfl) ?_
    refine qby 12 3 1 (by simp) ?_
    refine awp_thawR 12 7 (et := 3) (sz := 1) (by simp) (by rfl) ?_
    refine qr hcl (fun b : Nat × CompS => [(1, .ptr n0 0), (2, .ptr (n0 + 1) 0), (3, .sl (srcAv ds)), (4, .int root), (5, .own (n0 + 2) ins.length), (10, .ptr (n0 + 3) 0), (11, .own (n0 + 4) ins.length), (12, .own (n0 + 8) b.2.holds.length), (65, .sl (ins.map Ins.av)), (66, .int ins.length), (67, .int b.1)])
      (fun b => [.cells [.sl (ins.map Ins.av), .sl (types.map AV.int), .int out] 25, .cells [.v (.slice none 0 0), .v (.slice none 0 0), .int 0] 25, .vec (natAv E) 3 1,
        .cells [.gs (n0 + 5) (b.2.ins.map Ins.av), .gs (n0 + 6) (b.2.tys.map AV.int), .int 0] 25, .vec (natAv b.2.place) 3 1, .tail b.2.ins.length 32 7, .tail b.2.tys.length 3 1, .dead, .vec (natAv b.2.holds) 3 1])
      (fun b => b.1 ≤ ins.length ∧ S = compI E types (ds.drop b.1) b.1 b.2 ∧ b.2.ins.length = b.1 ∧ b.2.holds.length = b.2.tys.length ∧ b.2.holds.length ≤ b.1 ∧ (∀ q ∈ b.2.holds, q < b.1) ∧ b.2.place.length = ins.length)
      (fun b => ins.length - b.1) (0, ⟨[], [], [], List.replicate ins.length 0⟩) ⟨by omega, hS, rfl, rfl, by simp, by simp, by simp⟩ (by simp [hE, qce, natAv_rep, show natAv ([] : List Nat) = [] from rfl]; exact cls_set (natAv_cl _ _) (by simp)) fun ⟨i, s⟩ ⟨hi, hSi, s1, s2, s3, s4, s5⟩ => ?_
    dsimp only at hi hSi s1 s2 s3 s4 s5
    clear hE hel
    by_cases hlt : i < ins.length
    · have hltd : i < ds.length := by omega
      have hsd : (ds.getD i ⟨⟨0, 0, 0, 0, 0, 0, ByteArray.empty⟩, []⟩).src = ds[i].src := by rw [List.getD_eq_getElem?_getD, List.getElem?_eq_getElem hltd]; rfl
      have hse : ∀ j ∈ ds[i].src, j < i := fun j hj => hea i hltd j (by unfold srcOf; rw [hsd]; exact hj)
      have hsl3 := hs3 ds[i] (List.getElem_mem _)
      have hx := hxs i hltd hlt
      have hxto := hto ins[i] (List.getElem_mem _)
      rw [List.drop_eq_getElem_cons hltd, compI] at hSi
      try dsimp only at hSi
      rw [hx] at hSi
      have htd : types.getD ins[i].tgt.toNat 0 = types[ins[i].tgt.toNat]'(by omega) := by rw [List.getD_eq_getElem?_getD, List.getElem?_eq_getElem (by omega)]; rfl
      rw [htd] at hSi
      generalize hsrc : ds[i].src = src at *
      repeat' (first | ((first | ((with_reducible refine qo (fun hg => ?_) (fun hg => ?_)) <;> (try simp only [hg]) <;> (try simp only [gS] at hg) <;> (try (first | simp only [eq_false hg, gI] | simp only [eq_true hg, gI]))) | (with_reducible first | refine qc ?_ | refine qb ?_ | refine qi ?_ | refine qh ?_) | refine qe ?_ | refine qj ?_ | refine qk ?_ | refine qm ?_) <;> (try simp (disch := first | omega | simp) [qg, -qq, -qs, hltd, hlt, hsrc])) | ((with_reducible refine sideT ?_ ?_); first | omega | assumption | (simp; done)) | (refine qf fun K hK => ?_) | (refine qa ?_) | refine ql ?_ | ((first | refine hK _ ?_ | (clear hK K; refine hK _ ?_) | (clear hK K; clear hK K; refine hK _ ?_)); clear hK K) | refine qd ?_)
      obtain ⟨args, hargs⟩ : ∃ args, args = src.map fun j => ((s.place.getD j 0 : Nat) : Int) := ⟨_, rfl⟩
      have hal : args.length = src.length := by rw [hargs, List.length_map]
      have haj : ∀ j (h : j < src.length), args[j]'(by omega) = ((s.place[src[j]]'(by have := hse _ (List.getElem_mem h); omega) : Nat) : Int) := fun j h => by
        have := hse _ (List.getElem_mem h)
        simp only [hargs, List.getElem_map]
        rw [List.getD_eq_getElem?_getD, List.getElem?_eq_getElem (by omega)]; rfl
      rw [← hargs] at hSi
      clear hargs
      obtain ⟨Y, hY⟩ : ∃ Y : Nat → Nat → Int, Y = fun j m => (args.take j).getD m 0 := ⟨_, rfl⟩
      have Y0 : ∀ m, Y 0 m = 0 := fun m => by rw [hY]; simp
      have Y1 : ∀ j m (h : j < src.length), Y (j + 1) m = if m = j then ((s.place[src[j]]'(by have := hse _ (List.getElem_mem h); omega) : Nat) : Int) else Y j m := fun j m h => by
        rw [hY]
        dsimp only
        rw [List.take_succ_eq_append_getElem (by omega), haj j h, qcd, List.length_take, Nat.min_eq_left (by omega)]
        by_cases hm : m < j
        · rw [if_pos hm, if_neg (by omega)]
        · rw [if_neg hm]
          by_cases hm2 : m = j
          · rw [if_pos hm2, if_pos hm2]
          · rw [if_neg hm2, if_neg hm2, List.getD_eq_getElem?_getD, List.getElem?_eq_none (by rw [List.length_take]; omega)]; rfl
      have Y2 : ∀ k, newI ins[i] args k = ⟨ins[i].op, k, Y src.length 0, Y src.length 1, Y src.length 2, ins[i].n, ins[i].s⟩ := fun k => by
        rw [hY]; dsimp only; rw [← hal, List.take_length]; rfl
      clear hY haj
      refine qr hcl (fun j : Nat => [(1, .ptr n0 0), (2, .ptr (n0 + 1) 0), (3, .sl (srcAv ds)), (4, .int root), (5, .own (n0 + 2) ins.length), (10, .ptr (n0 + 3) 0), (11, .own (n0 + 4) ins.length), (12, .own (n0 + 8) s.holds.length), (13, .int i), (14, .ptr (n0 + 9) 0), (15, .ptr (n0 + 10) 0), (16, .sl [.ptr (n0 + 10) 2, .ptr (n0 + 10) 3, .ptr (n0 + 10) 4]), (65, .sl (ins.map Ins.av)), (66, .int ins.length), (67, .int i), (86, .sl (natAv src)), (87, .int src.length), (88, .int j)])
        (fun j => [.cells [.sl (ins.map Ins.av), .sl (types.map AV.int), .int out] 25, .cells [.v (.slice none 0 0), .v (.slice none 0 0), .int 0] 25, .vec (natAv E) 3 1,
          .cells [.gs (n0 + 5) (s.ins.map Ins.av), .gs (n0 + 6) (s.tys.map AV.int), .int 0] 25, .vec (natAv s.place) 3 1, .tail s.ins.length 32 7, .tail s.tys.length 3 1, .dead, .vec (natAv s.holds) 3 1,
          .cells [.int ins[i].op, .int ins[i].tgt, .int ins[i].a, .int ins[i].b, .int ins[i].c, .int ins[i].n, .str ins[i].s] 32,
          .cells [.int ins[i].op, .int 0, .int (Y j 0), .int (Y j 1), .int (Y j 2), .int ins[i].n, .str ins[i].s] 32])
        (fun j => j ≤ src.length) (fun j => src.length - j) 0 (by omega) (by simp [Y0]) fun j hj => ?_
      by_cases hlt2 : j < src.length
      · have hs1 := hse src[j] (List.getElem_mem _)
        have hs2 : src[j] < ins.length := by omega
        have hs3 : src[j] < s.place.length := by omega
        have hj3 : j = 0 ∨ j = 1 ∨ j = 2 := by omega
        have y0 := Y1 j 0 hlt2
        have y1 := Y1 j 1 hlt2
        have y2 := Y1 j 2 hlt2
        have hrp : ∀ (τ : Nat → AB) (r o : Nat), rdAt τ false 1 (.ep (.ptr r o) 0) = some (.ptr r o) := fun _ _ _ => rfl
        rcases hj3 with rfl | rfl | rfl
        · have hq : src ≠ [] := fun e => by rw [e] at hlt2; simp at hlt2
          simp at y0 y1 y2
          repeat' (first | ((first | ((with_reducible refine qo (fun hg => ?_) (fun hg => ?_)) <;> (try simp only [hg]) <;> (try simp only [gS] at hg) <;> (try (first | simp only [eq_false hg, gI] | simp only [eq_true hg, gI]))) | (with_reducible first | refine qc ?_ | refine qb ?_ | refine qi ?_ | refine qh ?_) | refine qe ?_ | refine qj ?_ | refine qk ?_ | refine qm ?_) <;> (try simp (disch := first | omega | simp) [qg, -qq, -qs, hlt2, hq, s5, hs2, hs3, hrp])) | ((with_reducible refine sideT ?_ ?_); first | omega | assumption | (simp; done)) | (refine qf fun K hK => ?_) | (refine qa ?_) | refine ql ?_ | ((first | refine hK _ ?_ | (clear hK K; refine hK _ ?_) | (clear hK K; clear hK K; refine hK _ ?_)); clear hK K) | refine qd ?_)
          refine ⟨1, by omega, by omega, ?_⟩
          simp [y0, y1, y2, qce]
        · have hq : (1 : Int) < src.length := by omega
          simp at y0 y1 y2
          repeat' (first | ((first | ((with_reducible refine qo (fun hg => ?_) (fun hg => ?_)) <;> (try simp only [hg]) <;> (try simp only [gS] at hg) <;> (try (first | simp only [eq_false hg, gI] | simp only [eq_true hg, gI]))) | (with_reducible first | refine qc ?_ | refine qb ?_ | refine qi ?_ | refine qh ?_) | refine qe ?_ | refine qj ?_ | refine qk ?_ | refine qm ?_) <;> (try simp (disch := first | omega | simp) [qg, -qq, -qs, hlt2, hq, s5, hs2, hs3, hrp])) | ((with_reducible refine sideT ?_ ?_); first | omega | assumption | (simp; done)) | (refine qf fun K hK => ?_) | (refine qa ?_) | refine ql ?_ | ((first | refine hK _ ?_ | (clear hK K; refine hK _ ?_) | (clear hK K; clear hK K; refine hK _ ?_)); clear hK K) | refine qd ?_)
          refine ⟨2, by omega, by omega, ?_⟩
          simp [y0, y1, y2, qce]
        · have hq : (2 : Int) < src.length := by omega
          simp at y0 y1 y2
          repeat' (first | ((first | ((with_reducible refine qo (fun hg => ?_) (fun hg => ?_)) <;> (try simp only [hg]) <;> (try simp only [gS] at hg) <;> (try (first | simp only [eq_false hg, gI] | simp only [eq_true hg, gI]))) | (with_reducible first | refine qc ?_ | refine qb ?_ | refine qi ?_ | refine qh ?_) | refine qe ?_ | refine qj ?_ | refine qk ?_ | refine qm ?_) <;> (try simp (disch := first | omega | simp) [qg, -qq, -qs, hlt2, hq, s5, hs2, hs3, hrp])) | ((with_reducible refine sideT ?_ ?_); first | omega | assumption | (simp; done)) | (refine qf fun K hK => ?_) | (refine qa ?_) | refine ql ?_ | ((first | refine hK _ ?_ | (clear hK K; refine hK _ ?_) | (clear hK K; clear hK K; refine hK _ ?_)); clear hK K) | refine qd ?_)
          refine ⟨3, by omega, by omega, ?_⟩
          simp [y0, y1, y2, qce]
      · obtain rfl : j = src.length := by omega
        have t0 := hxto.1
        have t1 := hxto.2
        have hgE : ∀ m (h : m < ins.length), E.getD m 0 = E[m]'(by omega) := fun m h => by rw [List.getD_eq_getElem?_getD, List.getElem?_eq_getElem (by omega)]; rfl
        have hgH : ∀ m (h : m < s.holds.length), s.holds.getD m 0 = s.holds[m] := fun m h => by rw [List.getD_eq_getElem?_getD, List.getElem?_eq_getElem h]; rfl
        have hgT : ∀ m (h : m < s.tys.length), s.tys.getD m 0 = s.tys[m] := fun m h => by rw [List.getD_eq_getElem?_getD, List.getElem?_eq_getElem h]; rfl
        generalize ht : types[ins[i].tgt.toNat]'(by omega) = t at *
        have hsl4 : ∀ k, (∀ m, m < k → i < E.getD (s.holds.getD m 0) 0 ∨ s.tys.getD m 0 ≠ t) → k ≤ s.holds.length → (k = s.holds.length ∨ ¬ (i < E.getD (s.holds.getD k 0) 0 ∨ s.tys.getD k 0 ≠ t)) → slot E i t s.holds s.tys = k := fun k => slot_uniq s2
        generalize hsk : slot E i t s.holds s.tys = sk at *
        obtain ⟨P, hP⟩ : ∃ P : Nat → Prop, P = fun m => i < E.getD (s.holds.getD m 0) 0 ∨ s.tys.getD m 0 ≠ t := ⟨_, rfl⟩
        replace hsl4 : ∀ k, (∀ m, m < k → P m) → k ≤ s.holds.length → (k = s.holds.length ∨ ¬ P k) → sk = k := by rw [hP]; exact hsl4
        have hPk : ∀ k, P k ↔ (i < E.getD (s.holds.getD k 0) 0 ∨ s.tys.getD k 0 ≠ t) := fun k => by rw [hP]
        clear hP
        repeat' (first | ((first | ((with_reducible refine qo (fun hg => ?_) (fun hg => ?_)) <;> (try simp only [hg]) <;> (try simp only [gS] at hg) <;> (try (first | simp only [eq_false hg, gI] | simp only [eq_true hg, gI]))) | (with_reducible first | refine qc ?_ | refine qb ?_ | refine qi ?_ | refine qh ?_) | refine qe ?_ | refine qj ?_ | refine qk ?_ | refine qm ?_) <;> (try simp (disch := first | omega | simp) [qg, -qq, -qs, hlt2])) | ((with_reducible refine sideT ?_ ?_); first | omega | assumption | (simp; done)) | (refine qf fun K hK => ?_) | (refine qa ?_) | refine ql ?_ | ((first | refine hK _ ?_ | (clear hK K; refine hK _ ?_) | (clear hK K; clear hK K; refine hK _ ?_)); clear hK K) | refine qd ?_)
        refine qr hcl (fun k : Nat => [(1, .ptr n0 0), (2, .ptr (n0 + 1) 0), (3, .sl (srcAv ds)), (4, .int root), (5, .own (n0 + 2) ins.length), (10, .ptr (n0 + 3) 0), (11, .own (n0 + 4) ins.length), (12, .own (n0 + 8) s.holds.length), (13, .int i), (14, .ptr (n0 + 9) 0), (15, .ptr (n0 + 10) 0), (19, .int k), (65, .sl (ins.map Ins.av)), (66, .int ins.length), (67, .int i)])
          (fun k => [.cells [.sl (ins.map Ins.av), .sl (types.map AV.int), .int out] 25, .cells [.v (.slice none 0 0), .v (.slice none 0 0), .int 0] 25, .vec (natAv E) 3 1,
          .cells [.gs (n0 + 5) (s.ins.map Ins.av), .gs (n0 + 6) (s.tys.map AV.int), .int 0] 25, .vec (natAv s.place) 3 1, .tail s.ins.length 32 7, .tail s.tys.length 3 1, .dead, .vec (natAv s.holds) 3 1,
          .cells [.int ins[i].op, .int ins[i].tgt, .int ins[i].a, .int ins[i].b, .int ins[i].c, .int ins[i].n, .str ins[i].s] 32,
            .cells [.int ins[i].op, .int 0, .int (Y src.length 0), .int (Y src.length 1), .int (Y src.length 2), .int ins[i].n, .str ins[i].s] 32])
          (fun k => k ≤ s.holds.length ∧ ∀ m, m < k → P m) (fun k => s.holds.length - k) 0 ⟨by omega, fun m hm => by omega⟩ (by simp) fun k ⟨hk, hkm⟩ => ?_
        by_cases hlk : k < s.holds.length
        · have hlk2 : k < s.tys.length := by omega
          have hh := s4 s.holds[k] (List.getElem_mem _)
          have hh2 : s.holds[k] < ins.length := by omega
          have hh3 : s.holds[k] < E.length := by omega
          have g1 := hgH k hlk
          have g2 := hgE s.holds[k] hh2
          have g3 := hgT k hlk2
          by_cases hc1 : i < E[s.holds[k]]
          · have hstep : ∀ m, m < k + 1 → P m := fun m hm => by
              by_cases hmk : m = k
              · subst hmk; exact (hPk m).2 (.inl (by rw [g1, g2]; exact hc1))
              · exact hkm m (by omega)
            repeat' (first | ((first | ((with_reducible refine qo (fun hg => ?_) (fun hg => ?_)) <;> (try simp only [hg]) <;> (try simp only [gS] at hg) <;> (try (first | simp only [eq_false hg, gI] | simp only [eq_true hg, gI]))) | (with_reducible first | refine qc ?_ | refine qb ?_ | refine qi ?_ | refine qh ?_ | refine qdv ?_ | refine anyF_end ?_) | refine qe ?_ | refine qj ?_ | refine qk ?_ | refine qm ?_) <;> (try simp (disch := first | omega | simp) [qg, -qq, -qs, hlk, hlk2, hh2, hh3, hc1, hEl, t0, t1, ht])) | (with_reducible refine awp_anyF (id := 32) [.cells [.sl (ins.map Ins.av), .sl (types.map AV.int), .int out] 25, .unborn, .unborn, .unborn, .unborn, .unborn, .unborn, .unborn, .unborn, .cells [.int ins[i].op, .int ins[i].tgt, .int ins[i].a, .int ins[i].b, .int ins[i].c, .int ins[i].n, .str ins[i].s] 32] 3 [.R, .R, .R, .A, .N, .N, .R, .R, .R, .R, .R, .R, .R, .A, .R, .N, .W] (by kernel_rfl) (by kernel_rfl) (by simp) ?_) | ((with_reducible refine sideT ?_ ?_); first | omega | assumption | (simp; done)) | (refine qf fun K hK => ?_) | (refine qa ?_) | refine ql ?_ | ((first | refine hK _ ?_ | (clear hK K; refine hK _ ?_) | (clear hK K; clear hK K; refine hK _ ?_)); clear hK K) | refine qd ?_)
            exact ⟨k + 1, ⟨by omega, hstep⟩, by omega, by omega⟩
          · by_cases hc2 : s.tys[k] = t
            · have hskk : sk = k := hsl4 k hkm hk (.inr fun hp => by
                rcases (hPk k).1 hp with hp | hp
                · rw [g1, g2] at hp; exact hc1 hp
                · rw [g3] at hp; exact hp hc2)
              rw [hskk, if_neg (by omega), if_neg (by omega)] at hSi
              have hkn : ¬ (k : Int) = s.holds.length := by omega
              have hkn2 : ¬ k = s.holds.length := by omega
              have hip : i < s.place.length := by omega
              have hz1 : (s.holds.length + 1) * 8 ≤ 140737488355328 := by omega
              have hz2 : (s.tys.length + 1) * 8 ≤ 140737488355328 := by omega
              have hz3 : (s.ins.length + 1) * 56 ≤ 140737488355328 := by omega
              repeat' (first | ((first | ((with_reducible refine qo (fun hg => ?_) (fun hg => ?_)) <;> (try simp only [hg]) <;> (try simp only [gS] at hg) <;> (try (first | simp only [eq_false hg, gI] | simp only [eq_true hg, gI]))) | (with_reducible first | refine qc ?_ | refine qb ?_ | refine qi ?_ | refine qh ?_ | refine qdv ?_ | refine anyF_end ?_) | refine qe ?_ | refine qj ?_ | refine qk ?_ | refine qm ?_) <;> (try simp (disch := first | omega | simp) [qg, -qq, -qs, hlk, hlk2, hh2, hh3, hc1, hc2, hEl, t0, t1, ht, hkn, hkn2, s5, hlt, hip, hz1, hz2, hz3])) | (with_reducible refine awp_anyF (id := 32) [.cells [.sl (ins.map Ins.av), .sl (types.map AV.int), .int out] 25, .unborn, .unborn, .unborn, .unborn, .unborn, .unborn, .unborn, .unborn, .cells [.int ins[i].op, .int ins[i].tgt, .int ins[i].a, .int ins[i].b, .int ins[i].c, .int ins[i].n, .str ins[i].s] 32] 3 [.R, .R, .R, .A, .N, .N, .R, .R, .R, .R, .R, .R, .R, .A, .R, .N, .W] (by kernel_rfl) (by kernel_rfl) (by simp) ?_) | ((with_reducible refine sideT ?_ ?_); first | omega | assumption | (simp; done)) | (refine qf fun K hK => ?_) | (refine qa ?_) | refine ql ?_ | ((first | refine hK _ ?_ | (clear hK K; refine hK _ ?_) | (clear hK K; clear hK K; refine hK _ ?_)); clear hK K) | refine qd ?_)
              all_goals first | exact absurd hc2 (by assumption) | exact absurd (by assumption) hkn | exact absurd (by assumption) hkn2 | skip
              refine ⟨i + 1, ⟨s.ins ++ [newI ins[i] args k], s.holds.set k i, s.tys, s.place.set i k⟩, ⟨by omega, hSi, by simp [s1], by simp [s2], by simp; omega, fun q hq => ?_, by simp [s5]⟩, by omega, ?_⟩
              · rcases List.mem_or_eq_of_mem_set hq with hq | rfl
                · have := s4 q hq; omega
                · omega
              · simp [Y2, Ins.av, -Ins.av_fold, qce]
            · have hstep : ∀ m, m < k + 1 → P m := fun m hm => by
                by_cases hmk : m = k
                · subst hmk; exact (hPk m).2 (.inr (by rw [g3]; exact hc2))
                · exact hkm m (by omega)
              repeat' (first | ((first | ((with_reducible refine qo (fun hg => ?_) (fun hg => ?_)) <;> (try simp only [hg]) <;> (try simp only [gS] at hg) <;> (try (first | simp only [eq_false hg, gI] | simp only [eq_true hg, gI]))) | (with_reducible first | refine qc ?_ | refine qb ?_ | refine qi ?_ | refine qh ?_ | refine qdv ?_ | refine anyF_end ?_) | refine qe ?_ | refine qj ?_ | refine qk ?_ | refine qm ?_) <;> (try simp (disch := first | omega | simp) [qg, -qq, -qs, hlk, hlk2, hh2, hh3, hc1, hc2, hEl, t0, t1, ht])) | (with_reducible refine awp_anyF (id := 32) [.cells [.sl (ins.map Ins.av), .sl (types.map AV.int), .int out] 25, .unborn, .unborn, .unborn, .unborn, .unborn, .unborn, .unborn, .unborn, .cells [.int ins[i].op, .int ins[i].tgt, .int ins[i].a, .int ins[i].b, .int ins[i].c, .int ins[i].n, .str ins[i].s] 32] 3 [.R, .R, .R, .A, .N, .N, .R, .R, .R, .R, .R, .R, .R, .A, .R, .N, .W] (by kernel_rfl) (by kernel_rfl) (by simp) ?_) | ((with_reducible refine sideT ?_ ?_); first | omega | assumption | (simp; done)) | (refine qf fun K hK => ?_) | (refine qa ?_) | refine ql ?_ | ((first | refine hK _ ?_ | (clear hK K; refine hK _ ?_) | (clear hK K; clear hK K; refine hK _ ?_)); clear hK K) | refine qd ?_)
              all_goals first | exact absurd (by assumption) hc2 | exact ⟨k + 1, ⟨by omega, hstep⟩, by omega, by omega⟩
        · obtain rfl : k = s.holds.length := by omega
          have hskk : sk = s.holds.length := hsl4 _ hkm hk (.inl rfl)
          rw [hskk, if_pos rfl, if_pos rfl] at hSi
          have hip : i < s.place.length := by omega
          have hz1 : (s.holds.length + 1) * 8 ≤ 140737488355328 := by omega
          have hz2 : (s.tys.length + 1) * 8 ≤ 140737488355328 := by omega
          have hz3 : (s.ins.length + 1) * 56 ≤ 140737488355328 := by omega
          repeat' (first | ((first | ((with_reducible refine qo (fun hg => ?_) (fun hg => ?_)) <;> (try simp only [hg]) <;> (try simp only [gS] at hg) <;> (try (first | simp only [eq_false hg, gI] | simp only [eq_true hg, gI]))) | (with_reducible first | refine qc ?_ | refine qb ?_ | refine qi ?_ | refine qh ?_ | refine qdv ?_ | refine anyF_end ?_) | refine qe ?_ | refine qj ?_ | refine qk ?_ | refine qm ?_) <;> (try simp (disch := first | omega | simp) [qg, -qq, -qs, hlk, hEl, t0, t1, ht, s5, hlt, hip, hz1, hz2, hz3])) | (with_reducible refine awp_anyF (id := 32) [.cells [.sl (ins.map Ins.av), .sl (types.map AV.int), .int out] 25, .unborn, .unborn, .unborn, .unborn, .unborn, .unborn, .unborn, .unborn, .cells [.int ins[i].op, .int ins[i].tgt, .int ins[i].a, .int ins[i].b, .int ins[i].c, .int ins[i].n, .str ins[i].s] 32] 3 [.R, .R, .R, .A, .N, .N, .R, .R, .R, .R, .R, .R, .R, .A, .R, .N, .W] (by kernel_rfl) (by kernel_rfl) (by simp) ?_) | ((with_reducible refine sideT ?_ ?_); first | omega | assumption | (simp; done)) | (refine qf fun K hK => ?_) | (refine qa ?_) | refine ql ?_ | ((first | refine hK _ ?_ | (clear hK K; refine hK _ ?_) | (clear hK K; clear hK K; refine hK _ ?_)); clear hK K) | refine qd ?_)
          refine ⟨i + 1, ⟨s.ins ++ [newI ins[i] args s.holds.length], s.holds ++ [i], s.tys ++ [t], s.place.set i s.holds.length⟩, ⟨by omega, hSi, by simp [s1], by simp [s2], by simp; omega, fun q hq => ?_, by simp [s5]⟩, by omega, ?_⟩
          · rcases List.mem_append.1 hq with hq | hq
            · have := s4 q hq; omega
            · rw [List.mem_singleton] at hq; omega
          · simp [Y2, Ins.av, -Ins.av_fold, qce, natAv_snoc]
    · obtain rfl : i = ins.length := by omega
      rw [List.drop_of_length_le (by omega), compI] at hSi
      subst hSi
      have hrp : root < S.place.length := by omega
      have hgp : S.place.getD root 0 = S.place[root] := by rw [List.getD_eq_getElem?_getD, List.getElem?_eq_getElem hrp]; rfl
      rw [hgp] at hR2
      repeat' (first | ((first | ((with_reducible refine qo (fun hg => ?_) (fun hg => ?_)) <;> (try simp only [hg]) <;> (try simp only [gS] at hg) <;> (try (first | simp only [eq_false hg, gI] | simp only [eq_true hg, gI]))) | (with_reducible first | refine qc ?_ | refine qb ?_ | refine qi ?_ | refine qh ?_) | refine qe ?_ | refine qj ?_ | refine qk ?_ | refine qm ?_) <;> (try simp (disch := first | omega | simp) [qg, -qq, -qs, hlt, s5, hro, hrp])) | ((with_reducible refine sideT ?_ ?_); first | omega | assumption | (simp; done)) | (refine qf fun K hK => ?_) | (refine qa ?_) | refine ql ?_ | ((first | refine hK _ ?_ | (clear hK K; refine hK _ ?_) | (clear hK K; clear hK K; refine hK _ ?_)); clear hK K) | refine qd ?_)
      rw [hR2]; rfl
end Go.Proofs.YtgpcpmfdklpifaaGreatDoor

/- Walk of the law CodeKeeps, given the examples. -/
namespace Go.Proofs.YtgpcpmfdklpifaaGreatDoor
open Go.RowKit Go.Lib
set_option maxHeartbeats 8000000 in
set_option maxRecDepth 100000 in
theorem codeKeeps_g (hsm : Gives Tryz.prog 7 [] (.bool true)) (c : Cod) (cols : List Int) (time : Int) (row : List Val) : Gives Tryz.prog 4 [c.av, .sl (cols.map AV.int), .int time, .sl (row.map Val.av)] (.bool true) := by
  have c1 := suits_g c cols row
  cases hb : suitsB c cols row
  · rw [hb] at c1
    obtain ⟨ins, types, out⟩ := c
    refine qn Tryz.func4 Tryz.ntmps4 rfl rfl (by decide) rfl (by intro n; simp) fun σ n0 hcl hft => ?_
    repeat' (first | ((first | ((with_reducible refine qo (fun hg => ?_) (fun hg => ?_)) <;> (try simp only [hg]) <;> (try simp only [gS] at hg) <;> (try (first | simp only [eq_false hg, gI] | simp only [eq_true hg, gI]))) | (with_reducible first | refine qc ?_ | refine qb ?_ | refine qi ?_ | refine qh ?_) | refine acall (hsm) ?_ | refine qp (hsm) ?_ | refine acall (c1) ?_ | refine qp (c1) ?_ | refine qe ?_ | refine qj ?_ | refine qk ?_ | refine qm ?_) <;> (try simp (disch := first | omega | simp) [qg, -qq, -qs])) | ((with_reducible refine sideT ?_ ?_); first | omega | assumption | (simp; done)) | (refine qf fun K hK => ?_) | (refine qa ?_) | refine ql ?_ | ((first | refine hK _ ?_ | (clear hK K; refine hK _ ?_) | (clear hK K; clear hK K; refine hK _ ?_)); clear hK K) | refine qd ?_)
  rw [hb] at c1
  obtain ⟨h, -, hcl12, -, -⟩ := suits_ok hb
  have hrow := suits_fit hb
  obtain ⟨ht, vt, lt⟩ := trim_ok h time row
  obtain ⟨hd, vd, ld, -, -, lT⟩ := qeg h time row
  have c2 := trim_g h
  have c3 := compact_g h
  have c4 := qds (trimP c) cols (by omega)
  have c5 := qds (compP c) cols (by omega)
  have v4 := verP_ok.2 ht
  have v5 := verP_ok.2 hd
  have c6 := rvalue_g h time hrow
  have c7 := rvalue_g ht time hrow
  have c8 := rvalue_g hd time hrow
  rw [vt] at c7
  rw [vd] at c8
  have c9 := needed_g hd
  have c10 := compact_g hd
  have c11 := compact_g ht
  have c12 := trim_g ht
  rw [comp_comp h] at c10
  rw [comp_trim h] at c11
  rw [trim_trim h] at c12
  have n1 := h.ni
  have s1 := psame25_g (compP c) (by have := hd.ni; omega) (by have := hd.nt; omega)
  have s2 := psame25_g (trimP c) (by have := ht.ni; omega) (by have := ht.nt; omega)
  have hN : (needP (qt (compP c)) (rootC (compP c))).length = (compP c).ins.length := by rw [needP_len]; unfold qt; exact qx _ _ _
  have hF : ∀ i (hi : i < (needP (qt (compP c)) (rootC (compP c))).length), (needP (qt (compP c)) (rootC (compP c)))[i] = true := fun i hi => by
    have := comp_full h i (by omega)
    rw [List.getD_eq_getElem?_getD, List.getElem?_eq_getElem hi] at this
    exact this
  rw [v4] at c4
  rw [v5] at c5
  generalize (verP (trimP c) cols).1 = p4 at *
  generalize (verP (compP c) cols).1 = p5 at *
  have hVe : Val.eqB (valC c time row) (valC c time row) = true := by simp [Val.eqB]
  generalize valC c time row = V at *
  generalize needP (qt (compP c)) (rootC (compP c)) = need at *
  clear v4 v5 vt vd ht hd h hb
  generalize trimP c = t at *
  generalize compP c = d at *
  obtain ⟨ins, types, out⟩ := c
  obtain ⟨tins, ttypes, tout⟩ := t
  obtain ⟨dins, dtypes, dout⟩ := d
  simp only at *
  have e1 : (need.length : Int) = dins.length := by omega
  have e2 : (tins.length : Int) = dins.length := by omega
  have e3 : ¬ (ins.length : Int) < dins.length := by omega
  have e4 : ¬ (dins.length : Int) < dtypes.length := by omega
  have e5 : ¬ (ins.length : Int) < tins.length := by omega
  refine qn Tryz.func4 Tryz.ntmps4 rfl rfl (by decide) rfl (by intro n; simp) fun σ n0 hcl hft => ?_
  repeat' (first | ((first | ((with_reducible refine qo (fun hg => ?_) (fun hg => ?_)) <;> (try simp only [hg]) <;> (try simp only [gS] at hg) <;> (try (first | simp only [eq_false hg, gI] | simp only [eq_true hg, gI]))) | (with_reducible first | refine qc ?_ | refine qb ?_ | refine qi ?_ | refine qh ?_) | refine acall (hsm) ?_ | refine qp (hsm) ?_ | refine acall (c1) ?_ | refine qp (c1) ?_ | refine acall (c2) ?_ | refine qp (c2) ?_ | refine acall (c3) ?_ | refine qp (c3) ?_ | refine acall (c4) ?_ | refine qp (c4) ?_ | refine acall (c5) ?_ | refine qp (c5) ?_ | refine acall (c6) ?_ | refine qp (c6) ?_ | refine acall (c7) ?_ | refine qp (c7) ?_ | refine acall (c8) ?_ | refine qp (c8) ?_ | refine acall (c9) ?_ | refine qp (c9) ?_ | refine qe ?_ | refine qj ?_ | refine qk ?_ | refine qm ?_) <;> (try simp (disch := first | omega | simp) [qg, -qq, -qs, e1, e2, e3, e4, e5, hVe])) | ((with_reducible refine sideT ?_ ?_); first | omega | assumption | (simp; done)) | (refine qf fun K hK => ?_) | (refine qa ?_) | refine ql ?_ | ((first | refine hK _ ?_ | (clear hK K; refine hK _ ?_) | (clear hK K; clear hK K; refine hK _ ?_)); clear hK K) | refine qd ?_)
  refine qr hcl (fun k : Nat => [(4, .ptr n0 0), (9, .bool true), (10, .ptr (n0 + 1) 0), (11, .ptr (n0 + 2) 0), (17, .sl (need.map AV.bool)), (18, .int k)])
    (fun _ => [.cells [.sl (ins.map Ins.av), .sl (types.map AV.int), .int out] 25, .cells [.sl (tins.map Ins.av), .sl (ttypes.map AV.int), .int tout] 25, .cells [.sl (dins.map Ins.av), .sl (dtypes.map AV.int), .int dout] 25])
    (fun k => k ≤ need.length) (fun k => need.length - k) 0 (by omega) (by simp) fun k hk => ?_
  by_cases hlt : k < need.length
  · have hq := hF k hlt
    repeat' (first | ((first | ((with_reducible refine qo (fun hg => ?_) (fun hg => ?_)) <;> (try simp only [hg]) <;> (try simp only [gS] at hg) <;> (try (first | simp only [eq_false hg, gI] | simp only [eq_true hg, gI]))) | (with_reducible first | refine qc ?_ | refine qb ?_ | refine qi ?_ | refine qh ?_) | refine qe ?_ | refine qj ?_ | refine qk ?_ | refine qm ?_) <;> (try simp (disch := first | omega | simp) [qg, -qq, -qs, hlt, hq])) | ((with_reducible refine sideT ?_ ?_); first | omega | assumption | (simp; done)) | (refine qf fun K hK => ?_) | (refine qa ?_) | refine ql ?_ | ((first | refine hK _ ?_ | (clear hK K; refine hK _ ?_) | (clear hK K; clear hK K; refine hK _ ?_)); clear hK K) | refine qd ?_)
    exact ⟨k + 1, by omega, by omega, by simp⟩
  · repeat' (first | ((first | ((with_reducible refine qo (fun hg => ?_) (fun hg => ?_)) <;> (try simp only [hg]) <;> (try simp only [gS] at hg) <;> (try (first | simp only [eq_false hg, gI] | simp only [eq_true hg, gI]))) | (with_reducible first | refine qc ?_ | refine qb ?_ | refine qi ?_ | refine qh ?_) | refine acall (c10) ?_ | refine qp (c10) ?_ | refine acall (c11) ?_ | refine qp (c11) ?_ | refine acall (c12) ?_ | refine qp (c12) ?_ | refine acall (s1) ?_ | refine qp (s1) ?_ | refine acall (s2) ?_ | refine qp (s2) ?_ | refine qe ?_ | refine qj ?_ | refine qk ?_ | refine qm ?_) <;> (try simp (disch := first | omega | simp) [qg, -qq, -qs, hlt])) | ((with_reducible refine sideT ?_ ?_); first | omega | assumption | (simp; done)) | (refine qf fun K hK => ?_) | (refine qa ?_) | refine ql ?_ | ((first | refine hK _ ?_ | (clear hK K; refine hK _ ?_) | (clear hK K; clear hK K; refine hK _ ?_)); clear hK K) | refine qd ?_)
end Go.Proofs.YtgpcpmfdklpifaaGreatDoor

/- The law CodeKeeps, lifted: the row and the tied card. (Printed by gen_lift27.py.) -/
namespace Go.Proofs.YtgpcpmfdklpifaaGreatDoor
open Go.ChangeShapes Go.WideShapes Go.ChangeAt Go.RowKit Go.Lib
set_option maxRecDepth 100000 in
theorem codeKeeps_lifted (os : Os) (started : os.Started) (H : Type) (enc : TypeId × Value → H) :
    ReturnsInHanded {} Tryz.checked os 4 .any (fun w args => (Rows.codeKeepsSpec.pre enc Tryz.prog Tryz.f4 Rows.codeKeepsRow.domain false w args ∧ laidMetH Tryz.prog Rows.codeKeepsRow.laid w) ∧ sizedMet enc Tryz.prog Tryz.f4 (OpenSpec.ofChange Rows.codeKeepsSpec) false w args)
      (Rows.codeKeepsSpec.post enc Tryz.prog Tryz.f4 false true false false) := by
  refine qbk (C := Tryz.checked) (X := fun w _ => laidMetH Tryz.prog Rows.codeKeepsRow.laid w) Tryz.own started (by kernel_rfl) Tryz.func4
    (ChangeSpec.witness_shaped (enc := enc) (C := Tryz.checked) (os := os) (X := fun w _ => laidMetH Tryz.prog Rows.codeKeepsRow.laid w) false (World.laidAll Tryz.prog os Rows.codeKeepsRow.laid) #[.agg #[.slice .none 0 0, .slice .none 0 0, .int .i64 0], .slice .none 0 0, .int .i64 0, .slice .none 0 0] 8 (World.laidAll_os _ _ _)
      (World.shaped_of_ZipB (by kernel_rfl) (by kernel_rfl)) (by kernel_rfl) (by kernel_rfl) (by kernel_rfl)
      (by rw [MakeChecks.laidMetH_plain _ _ _ (by kernel_rfl)]; exact laidMet_laidAll _ (by kernel_rfl) (by kernel_rfl)))
    (fun w w' us hh hX => by rw [MakeChecks.laidMetH_plain _ _ _ (by kernel_rfl)] at hX ⊢; exact laidMet.of_heap hh hX) ?_
  intro W base args ds gs before hval0 hW _ hsh hlaid
  rw [MakeChecks.laidMetH_plain _ _ _ (by kernel_rfl)] at hlaid
  have hglob := glob25 hsh hlaid (by simp [Rows.codeKeepsRow]) (by simp [Rows.codeKeepsRow]) (by simp [Rows.codeKeepsRow]) (by simp [Rows.codeKeepsRow])
  have hval : ∀ (j : Nat) t v, Tryz.f4.params[j]? = some t → args[j]? = some v → Value.okWide Tryz.prog W .any base t v := hval0
  have hW' := hW
  obtain ⟨p, q, hA0, hV, rfl, hfz, hnd⟩ := hW
  have hA : DataW.TrodAll enc Tryz.prog W 0 (fun _ => true) true Tryz.f4.params.toList args.toList ds p := hA0
  rw [Tryz.params4] at hA hval
  obtain ⟨v0, v1, v2, v3, d0, d1, d2, d3, p0, p1, p2, p3, rfl, rfl, rfl, h0, h1, h2, h3⟩ := trodAll_4_02 hA
  obtain ⟨rfl, rfl⟩ := trodVars_none hV
  obtain ⟨x0, cs0, rfl, r0⟩ := par_st Tryz.underlying25 (hval 0 _ v0 rfl rfl) h0 trods_cod
  obtain ⟨x1, r1⟩ := par_sl Tryz.underlying23 (hval 1 _ v1 rfl rfl) h1 qdr
  obtain ⟨x2, rfl, r2⟩ := par_intR Tryz.underlying3 (hval 2 _ v2 rfl rfl)
  obtain ⟨x3, r3⟩ := par_sl Tryz.underlying26 (hval 3 _ v3 rfl rfl) h3 trods_vals
  refine (qcq (vals := [.agg cs0.toArray, v1, .int .i64 x2, v3]) (codeKeeps_g small25_g x0 x1 x2 x3) ⟨_, _, rfl, Cod.flat r0, _, _, rfl, qei r1, _, _, rfl, flat_int02, _, _, rfl, Val.flats r3, rfl⟩ hglob).mono ?_
  rintro r W' ⟨rfl, hb⟩
  exact ⟨_, rfl, law_post (P := Tryz.prog) Tryz.laidOut hW' rfl rfl (by kernel_rfl) Tryz.underlying4 (by kernel_rfl) hb⟩
theorem codeKeeps_row : Rows.CodeKeepsSaid :=
  OpenClaim.holds_of_wide 4 Tryz.f4 rfl rfl rfl rfl rfl rfl rfl ⟨rfl, rfl, rfl, rfl, rfl⟩ rfl rfl rfl rfl rfl (by kernel_rfl) Tryz.func4 (by kernel_rfl)
    (of_decide_eq_true (by kernel_rfl)) (by unfold Func.isWrapper; first | (rw [if_pos (by decide +kernel)]; kernel_rfl) | (rw [if_neg (by decide +kernel)]; exact ⟨rfl, rfl⟩))
    (fun os started H enc _ => codeKeeps_lifted os started H enc)
theorem codeKeeps_holds : Rows.CodeKeepsCardSaid :=
  Claim7.holds_tied_plain_at .later [] [.data, .data, .data, .data, .sentinel, .sentinel, .widerDeep, .pinned] true (true, "7776cb1f6840e9bfb354eae669bdb86c799a109bda5ce1626de28e4158a0f8da") true codeKeeps_row (fun _ h => by cases h) (by kernel_rfl) (fun _ h => by cases h) codeKeeps_row_tie rfl ⟨rfl, rfl⟩ (by kernel_rfl) rfl
    (fun f fn hf hfn => by
      obtain rfl : f = 4 := Option.some.inj ((show Tryz.prog.funcNamed "errata/erratalaw25.CodeKeeps" = some 4 by kernel_rfl).symm.trans hf) |>.symm
      obtain rfl : fn = Tryz.f4 := (Option.some.inj (Tryz.func4.symm.trans hfn)).symm
      exact ⟨by kernel_rfl, fun j t ht => by
        rw [Tryz.params4] at ht
        have hm : t ∈ [25, 23, 3, 26] := by simpa using Array.mem_of_getElem? ht
        have hall : ([25, 23, 3, 26].all fun u => !Tryz.prog.wantsStandIn u) = true := by kernel_rfl
        exact (show Tryz.prog.wantsStandIn t = false by simpa using List.all_eq_true.1 hall t hm)⟩)
    (by kernel_rfl)
end Go.Proofs.YtgpcpmfdklpifaaGreatDoor

/- Slices of ints of the call's own that the library turns in place: slices.Sort, slices.Compact. -/
namespace Go.Proofs.YtgpcpmfdklpifaaGreatDoor
open Go.RowKit Go.Lib Go.Sort
theorem rcs_ints {X : St} : ∀ {l : List Int} {xs : List Value}, RCs X (l.map AV.int) xs → xs = l.map (Value.int .i64)
  | [], xs, h => by rw [List.map_nil, RCs] at h; rw [h]; rfl
  | a :: l, xs, h => by
    rw [List.map_cons, RCs] at h
    obtain ⟨c1, c2, rfl, h1, h2⟩ := h
    rw [RC] at h1
    rw [h1, rcs_ints h2]; rfl
theorem ints_rcs {X : St} : ∀ (l : List Int), RCs X (l.map AV.int) (l.map (Value.int .i64))
  | [] => by rw [List.map_nil, List.map_nil, RCs]
  | a :: l => by
    rw [List.map_cons, List.map_cons, RCs]
    exact ⟨[_], _, rfl, by rw [RC], ints_rcs l⟩
theorem upd_self {α : Type} {f : Nat → α} {k : Nat} {x : α} (h : f k = x) : upd f k x = f := by
  funext j; unfold upd; split
  · rename_i e; rw [e, h]
  · rfl
theorem own_of {X : St} {r : Nat} {zs : List Int} {e : TypeId} {v : Value} (hS : SR X) (hσ : X.σ r = .vec (zs.map AV.int) e 1) (hv : RC X (.own r zs.length) [v]) : v = X.μ r ∧ X.w.ownsRow 0 e 1 (X.μ r) zs.length (zs.map (Value.int .i64)) ∧ ∀ b o, X.blk r = some b → ¬ X.S b o := by
  rw [RC] at hv
  obtain ⟨-, v0, hv0, -, hall⟩ := hv
  obtain rfl : v = v0 := by simpa using hv0
  have hB := hS.block r
  rw [hσ] at hB
  obtain ⟨-, xs, hown, hrs⟩ := hB
  rw [rcs_ints hrs, List.length_map] at hown
  refine ⟨(hall _ _ _ hσ).2 (by simp), hown, fun b o h5 h6 => ?_⟩
  obtain ⟨n2, e2, s2, h7, -⟩ := hS.apart r b o h5 h6
  rw [hσ] at h7; cases h7
abbrev sortI (zs : List Int) : List Int := zs.mergeSort fun x y => decide (x ≤ y)
theorem sort_ac (r : Nat) (zs : List Int) (σ : Nat → AB) (hσ : σ r = .vec (zs.map AV.int) 3 1) (hz : zs.length ≤ 1000000) :
    AC Tryz.prog 47 [.own r zs.length] σ fun y τ => y = .tup [] ∧ τ = upd σ r (.vec ((sortI zs).map AV.int) 3 1) := by
  intro X vals nx hS hX hfin hargs
  subst hX
  obtain ⟨v, _, rfl, hv, h0⟩ := hargs
  cases h0
  obtain ⟨rfl, hown, hno⟩ := own_of hS hσ hv
  by_cases hnil : X.μ r = .slice none 0 0
  · have hz0 : zs = [] := by
      rcases hown.2 with ⟨-, h⟩ | ⟨g, cap, cur, h, -⟩
      · exact List.eq_nil_of_length_eq_zero h
      · rw [hnil] at h; cases h
    subst hz0
    rw [hnil]
    refine (Tryz.slices_Sort_int_none none 0 X.w).mono ?_
    rintro e w' ⟨rfl, rfl⟩
    exact ⟨X, _, .tup [], rfl, rfl, ⟨rfl, by rw [show sortI [] = [] from List.mergeSort_nil]; exact (upd_self hσ).symm⟩, hS, Fr.refl X, [], rfl, rfl⟩
  · obtain ⟨g, cap, hve, -, hgl, hncap, hcm, -, hH⟩ := Lib.holds_of_ownsRow hown hnil
    have hblk : X.blk r = some g := by unfold St.blk; rw [hσ, hve]; rfl
    rw [hve]
    refine (Tryz.slices_Sort_int g 0 cap zs X.w hH hgl (by omega)).mono ?_
    rintro e w' ⟨rfl, n, os, rfl⟩
    have hl : (sortI zs).length = zs.length := List.length_mergeSort zs
    have hrow : (grow (putRow (Value.int .i64) (Sort.ahead X.w n) g 0 (sortI zs).toArray) os).ownsRow 0 3 1 (X.μ r) zs.length ((sortI zs).map (Value.int .i64)) := by
      rw [hve] at hown ⊢
      rcases hown.2 with ⟨h, -⟩ | ⟨g', cap', cur, hv', -, hb, h1, h2, h3, -⟩
      · cases h
      cases hv'
      exact ownsRow_sortedI hl (Nat.zero_le _) hb h1 h2 h3
    have hT : Turns X (grow (putRow (Value.int .i64) (Sort.ahead X.w n) g 0 (sortI zs).toArray) os) X.S r (.vec ((sortI zs).map AV.int) 3 1) (X.μ r) :=
      { grown := by rw [hblk]; exact grownBy_sortedI _
        blk := fun b h => .inl (by unfold St.blk; rw [hσ]; exact h)
        ver := by
          unfold Ver
          rw [hσ]
          exact .inr ⟨_, by simp [St.turn, upd]; rfl, .inr ⟨by simp [hl], by simp [St.turn, upd]⟩⟩
        keepS := fun b o h5 h6 => absurd h6 (hno b o h5)
        more := fun _ _ h => h
        less := fun _ _ h => .inl h
        apart := fun b o h5 h6 => absurd h6 (hno b o (by unfold St.blk; rw [hσ]; exact h5))
        old := fun b h => by
          rw [hve] at h
          obtain rfl : g = b := Option.some.inj h
          simpa using Nat.lt_of_lt_of_le hgl (Nat.le_add_right _ _) }
    refine ⟨_, .tuple #[], .tup [], rfl, rfl, ⟨rfl, rfl⟩, turn_sr hS hT ⟨fun x hx => ?_, _, ?_, ints_rcs _⟩, qdt hS hT, [], rfl, rfl⟩
    · obtain ⟨a, -, rfl⟩ := List.mem_map.1 hx; rfl
    · rw [List.length_map, hl]; exact hrow
theorem ints_rm {X : St} {g : Nat} : ∀ (l : List Int) (off : Nat), (∀ j (h : j < l.length), X.w.cell? ⟨g, off + j, none⟩ = some (.int .i64 l[j]) ∧ X.S g (off + j)) → RM X (l.map AV.int) g off
  | [], _, _ => by rw [List.map_nil, RM]; trivial
  | a :: l, off, h => by
    rw [List.map_cons, RM]
    obtain ⟨h1, h2⟩ := h 0 (by simp)
    refine ⟨⟨[_], ⟨h1, h2, trivial⟩, by rw [RC]; rfl⟩, ints_rm l _ fun j hj => ?_⟩
    have := h (j + 1) (by simpa using hj)
    rw [show (AV.int a).width = 1 from rfl, Nat.add_assoc, Nat.add_comm 1 j]
    exact this
theorem compact_ac (r : Nat) (zs : List Int) (σ : Nat → AB) (hσ : σ r = .vec (zs.map AV.int) 3 1) (hz : zs.length ≤ 1000000) :
    AC Tryz.prog 48 [.own r zs.length] σ fun y τ => y = .sl ((Lib.compact zs).map AV.int) ∧ τ = upd σ r .dead := by
  intro X vals nx hS hX hfin hargs
  subst hX
  obtain ⟨v, _, rfl, hv, h0⟩ := hargs
  cases h0
  obtain ⟨rfl, hown, hno⟩ := own_of hS hσ hv
  have hdead : ∀ (Y : St), Y.μ = X.μ → Y.σ = upd X.σ r .dead → ∀ k b, Y.blk k = some b → k ≠ r ∧ X.blk k = some b := fun Y h1 h2 k b h => by
    unfold St.blk at h ⊢
    rw [h1, h2] at h
    unfold upd at h
    by_cases hk : k = r
    · rw [if_pos hk] at h; cases h
    · rw [if_neg hk] at h; exact ⟨hk, h⟩
  have hver : ∀ (Y : St), Y.μ = X.μ → Y.σ = upd X.σ r .dead → ∀ k, Ver X Y k := fun Y h1 h2 k => by
    by_cases hk : k = r
    · subst hk; unfold Ver; rw [hσ]; exact .inl (by rw [h2]; simp [upd])
    · have := (Fr.refl X).ver k
      unfold Ver at this ⊢
      rw [h1, show Y.σ k = X.σ k by rw [h2]; simp [upd, hk]]; exact this
  by_cases hnil : X.μ r = .slice none 0 0
  · have hz0 : zs = [] := by
      rcases hown.2 with ⟨-, h⟩ | ⟨g, cap, cur, h, -⟩
      · exact List.eq_nil_of_length_eq_zero h
      · rw [hnil] at h; cases h
    subst hz0
    rw [hnil]
    refine (Tryz.slices_Compact_int_empty none 0 X.w).mono ?_
    rintro e w' ⟨rfl, rfl⟩
    have hc0 : Lib.compact ([] : List Int) = [] := List.eq_nil_of_length_eq_zero (by have := Lib.compact_length_le ([] : List Int); simpa using this)
    rw [hc0]
    let Y : St := { X with σ := upd X.σ r .dead }
    have hF : Fr X Y := ⟨rfl, rfl, rfl, Nat.le_refl _, fun _ _ _ => rfl, fun _ _ _ => rfl, fun _ _ h => h, fun _ _ h => .inl h, hver Y rfl rfl, fun k b h => .inr ⟨k, (hdead Y rfl rfl k b h).2⟩⟩
    refine ⟨Y, _, _, rfl, rfl, ⟨rfl, rfl⟩, ⟨fun k => ?_, fun k k' b h1 h2 => hS.alone _ _ b (hdead Y rfl rfl k b h1).2 (hdead Y rfl rfl k' b h2).2, fun k b o h1 h2 => ?_, hS.old, hS.glob.mono fun _ _ _ h => h.fr hF⟩, hF, ?_⟩
    · by_cases hk : k = r
      · have : Y.σ k = .dead := by simp [Y, upd, hk]
        rw [this]; trivial
      · exact BR.fr hS hF (by simp [Y, upd, hk]) rfl fun _ _ => rfl
    · obtain ⟨hk, h3⟩ := hdead Y rfl rfl k b h1
      obtain ⟨n, e, s, h4, h5⟩ := hS.apart k b o h3 h2
      exact ⟨n, e, s, by simp [Y, upd, hk, h4], h5⟩
    · show RC Y (.sl _) [_]
      rw [RC]
      exact ⟨none, 0, 0, 0, rfl, by simp, by decide, by simp, by simp [RM]⟩
  · obtain ⟨g, cap, hve, -, hgl, hncap, hcm, -, hH⟩ := Lib.holds_of_ownsRow hown hnil
    have hblk : X.blk r = some g := by unfold St.blk; rw [hσ, hve]; rfl
    rw [hve]
    have hle := Lib.compact_length_le zs
    obtain ⟨C, hC⟩ : ∃ C, C = Lib.compact zs := ⟨_, rfl⟩
    refine (Tryz.slices_Compact_int g 0 cap zs X.w hH (by omega) hncap).mono ?_
    rintro e w' ⟨rfl, q, rfl⟩
    rw [← hC] at hle ⊢
    obtain ⟨w', hw'⟩ : ∃ w', w' = putRow (Value.int .i64) (Sort.ahead X.w q) g 0 (C ++ List.replicate (zs.length - C.length) 0).toArray := ⟨_, rfl⟩
    have hg2 : X.w.grownBy w' (some g) := by
      rw [hw']
      refine ⟨rfl, rfl, rfl, by simp [putRow, Go.Sort.mapBlock, Sort.ahead], fun k hk hne => ?_⟩
      have : g ≠ k := fun e => hne (by rw [e])
      simp [putRow, Go.Sort.mapBlock, Sort.ahead, Array.getElem?_modify, this]
    have hrow : w'.ownsRow 0 3 1 (.slice (some ⟨g, 0, none⟩) C.length cap) C.length (C.map (Value.int .i64)) := by
      rw [hve] at hown
      have := Lib.ownsRow_putRow (q := q) (k := C.length) (ys := C ++ List.replicate (zs.length - C.length) 0) hown (by simp; omega) (by omega)
      rw [List.take_left] at this
      rw [hw']; exact this
    rw [← hw']
    clear hw'
    let Y : St := { w := w', μ := X.μ, σ := upd X.σ r .dead, S := fun b o => X.S b o ∨ (b = g ∧ o < C.length) }
    have hSg : ∀ b o, X.S b o → b ≠ g := fun b o h e => hno b o (by rw [hblk, e]) h
    have hF : Fr X Y := ⟨hg2.os, hg2.tape, hg2.output, hg2.size, fun b hb hn => hg2.block b hb fun e => hn r (by rw [hblk, e]), fun b o h => World.cell?_of_block (a := ⟨b, o, none⟩) (hg2.block b (hS.old b o h) fun e => hSg b o h (Option.some.inj e)), fun _ _ h => .inl h,
      fun b o h => by
        rcases h with h | ⟨rfl, -⟩
        · exact .inl h
        · exact .inr (.inr ⟨r, hblk⟩), hver Y rfl rfl, fun k b h => .inr ⟨k, (hdead Y rfl rfl k b h).2⟩⟩
    refine ⟨Y, _, _, rfl, rfl, ⟨rfl, rfl⟩, ⟨fun k => ?_, fun k k' b h1 h2 => hS.alone _ _ b (hdead Y rfl rfl k b h1).2 (hdead Y rfl rfl k' b h2).2, fun k b o h1 h2 => ?_, fun b o h => ?_, hS.glob.mono fun _ _ _ h => h.fr hF⟩, hF, ?_⟩
    · by_cases hk : k = r
      · have : Y.σ k = .dead := by simp [Y, upd, hk]
        rw [this]; trivial
      · refine BR.fr hS hF (by simp [Y, upd, hk]) rfl fun b hb => ?_
        have : b ≠ g := fun e => hk (hS.alone k r g (by rw [← e]; exact hb) hblk)
        exact hg2.block b (hS.lt hb) fun e => this (Option.some.inj e)
    · obtain ⟨hk, h3⟩ := hdead Y rfl rfl k b h1
      rcases h2 with h2 | ⟨rfl, -⟩
      · obtain ⟨n, e, s, h4, h5⟩ := hS.apart k b o h3 h2
        exact ⟨n, e, s, by simp [Y, upd, hk, h4], h5⟩
      · exact absurd (hS.alone k r b h3 hblk) hk
    · rcases h with h | ⟨rfl, -⟩
      · exact Nat.lt_of_lt_of_le (hS.old b o h) hg2.size
      · exact Nat.lt_of_lt_of_le hgl hg2.size
    · show RC Y (.sl _) [_]
      rw [RC]
      refine ⟨some ⟨g, 0, none⟩, cap, g, 0, by simp, by simp; omega, by unfold maxLen at hcm; omega, fun _ => rfl, ints_rm C 0 fun j hj => ⟨?_, .inr ⟨rfl, by omega⟩⟩⟩
      have := hrow.cellAt j (by omega)
      rw [Nat.zero_add]
      simpa [List.getElem?_eq_getElem hj] using this
end Go.Proofs.YtgpcpmfdklpifaaGreatDoor
