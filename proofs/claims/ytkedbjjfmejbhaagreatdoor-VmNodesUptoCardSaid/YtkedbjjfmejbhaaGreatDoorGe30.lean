/- Walk of layer 27: Project. -/
import Derived.Test.YtkedbjjfmejbhaaGreatDoorProg
import Derived.KernelRfl
import Derived.Lib.LaidTab
import Derived.Test.YtkedbjjfmejbhaaGreatDoorGe1
import Derived.Test.YtkedbjjfmejbhaaGreatDoorGe3
import Derived.Test.YtkedbjjfmejbhaaGreatDoorGe4
import Derived.Test.YtkedbjjfmejbhaaGreatDoorGe15
import Derived.Test.YtkedbjjfmejbhaaGreatDoorGe16
import Derived.Test.YtkedbjjfmejbhaaGreatDoorGe17
import Derived.Test.YtkedbjjfmejbhaaGreatDoorGe18
import Derived.Test.YtkedbjjfmejbhaaGreatDoorGe23
import Derived.Test.YtkedbjjfmejbhaaGreatDoorGe25
import Derived.Test.YtkedbjjfmejbhaaGreatDoorGe28
import Derived.Test.YtkedbjjfmejbhaaGreatDoorGe29
set_option linter.unusedSimpArgs false
set_option linter.unusedVariables false
namespace Go.Proofs.YtkedbjjfmejbhaaGreatDoor
open Go.RowKit Go.Lib
set_option maxHeartbeats 8000000 in
theorem qbq1 (cs : List Cod) (cols : List Int) (L : List Delta) (hcs : cs.length <= 1000000) (hc : cols.length <= 1000000) (hL : L.length <= 1000) (hr : ∀ d ∈ L, d.row.length <= 1000000) :
  Gives Tryz.prog 13 [.sl (cs.map Cod.av), .sl (cols.map AV.int), .sl (L.map Delta.av)] (.tup [.sl ((projP cs cols L).1.map Delta.av), .int (projP cs cols L).2]) := by
 have c2 := qlf1 cols L hc (by omega) hr
 obtain ⟨R, hR⟩ : ∃ R, R = projP cs cols L := ⟨_, rfl⟩
 rw [<- hR]
 unfold projP at hR
 by_cases h0 : cs.length = 0 \/ 12 < cs.length
 .rw [if_pos h0] at hR
  rcases h0 with h0 | h0
  .obtain rfl := List.eq_nil_of_length_eq_zero h0
   refine qg Tryz.func13 Tryz.ntmps13 fun σ n0 hcl hft => ?_
   repeat' (first | ((first | ((with_reducible refine qj (fun hg => ?_) (fun hg => ?_)) <;> (try simp only [hg]) <;> (try simp only [gS] at hg) <;> (try (first | simp only [eq_false hg, gI] | simp only [eq_true hg, gI]))) | refine Stp.m ?_) <;> (try simp (disch := first | omega | simp) [qc, -qe, -qi])) | refine sideA ?_ | refine qb fun K hK => ?_ | refine qa ?_ | refine qf ?_ | refine qd ?_ | (refine hK _ ?_; clear hK K) | clear hK K)
   all_goals (rw [hR]; simp)
  .have h1 : (12 : Int) < cs.length := by omega
   have h2 : ¬ (cs.length : Int) = 0 := by omega
   have h3 : cs ≠ [] := fun e => by rw [e] at h0; simp at h0
   refine qg Tryz.func13 Tryz.ntmps13 fun σ n0 hcl hft => ?_
   repeat' (first | ((first | ((with_reducible refine qj (fun hg => ?_) (fun hg => ?_)) <;> (try simp only [hg]) <;> (try simp only [gS] at hg) <;> (try (first | simp only [eq_false hg, gI] | simp only [eq_true hg, gI]))) | refine Stp.m ?_) <;> (try simp (disch := first | omega | simp) [qc, -qe, -qi, h1, h2, h3])) | refine sideA ?_ | refine qb fun K hK => ?_ | refine qa ?_ | refine qf ?_ | refine qd ?_ | (refine hK _ ?_; clear hK K) | clear hK K)
   all_goals first | (rw [hR]; simp; done) | (exfalso; omega)
 rw [if_neg h0] at hR
 have h1 : ¬ (12 : Int) < cs.length := by omega
 have h2 : ¬ (cs.length : Int) = 0 := by omega
 have h3 : cs ≠ [] := fun e => h0 (.inl (by rw [e]; rfl))
 refine qg Tryz.func13 Tryz.ntmps13 fun σ n0 hcl hft => ?_
 repeat' (first | ((first | ((with_reducible refine qj (fun hg => ?_) (fun hg => ?_)) <;> (try simp only [hg]) <;> (try simp only [gS] at hg) <;> (try (first | simp only [eq_false hg, gI] | simp only [eq_true hg, gI]))) | refine Stp.m ?_) <;> (try simp (disch := first | omega | simp) [qc, -qe, -qi, h1, h2, h3])) | refine sideA ?_ | refine qb fun K hK => ?_ | refine qa ?_ | refine qf ?_ | refine qd ?_ | (refine hK _ ?_; clear hK K) | clear hK K)
 all_goals first | (exfalso; omega) | skip
 refine qk hcl (fun k : Nat => [(0, .sl (cs.map Cod.av)), (1, .sl (cols.map AV.int)), (2, .sl (L.map Delta.av)), (27, .sl (cs.map Cod.av)), (28, .int cs.length), (29, .int k)]) (fun _ => []) (fun k => k <= cs.length /\ ∀ j (hj : j < cs.length), j < k -> (verP cs[j] cols).2 = 0) (fun k => cs.length - k) 0 (by simp) (by simp) fun k ⟨hk, hek⟩ => ?_
 by_cases hlt : k < cs.length
 .have c1 := qrg cs[k] cols hc
  have hca : cs[k].av = .agg [.sl (cs[k].ins.map Ins.av), .sl (cs[k].types.map AV.int), .int cs[k].out] := rfl
  by_cases hv : (verP cs[k] cols).2 = 0
  .rw [hv] at c1
   repeat' (first | ((first | ((with_reducible refine qj (fun hg => ?_) (fun hg => ?_)) <;> (try simp only [hg]) <;> (try simp only [gS] at hg) <;> (try (first | simp only [eq_false hg, gI] | simp only [eq_true hg, gI]))) | refine Stp.m ?_ | refine qh ?_ | refine agH ?_) <;> (try simp (disch := first | omega | simp) [qc, -qe, -qi, hlt])) | refine sideA ?_ | refine qb fun K hK => ?_ | refine qa ?_ | refine qf ?_ | refine qd ?_ | (refine hK _ ?_; clear hK K) | clear hK K)
   exact ⟨k + 1, ⟨by omega, fun j hj hjk => by
    by_cases hjk2 : j = k
    .subst hjk2; exact hv
    .exact hek j hj (by omega)⟩, by omega, by omega⟩
  .have hfe := qsq cols cs k hlt hek hv
   rw [hfe, if_pos hv] at hR
   repeat' (first | ((first | ((with_reducible refine qj (fun hg => ?_) (fun hg => ?_)) <;> (try simp only [hg]) <;> (try simp only [gS] at hg) <;> (try (first | simp only [eq_false hg, gI] | simp only [eq_true hg, gI]))) | refine Stp.m ?_ | refine qh ?_ | refine agH ?_) <;> (try simp (disch := first | omega | simp) [qc, -qe, -qi, hlt, hv])) | refine sideA ?_ | refine qb fun K hK => ?_ | refine qa ?_ | refine qf ?_ | refine qd ?_ | (refine hK _ ?_; clear hK K) | clear hK K)
   all_goals first | exact absurd (by assumption) hv | (rw [hR]; simp)
 have hall : ∀ j (hj : j < cs.length), (verP cs[j] cols).2 = 0 := fun j hj => hek j hj (by omega)
 rw [qji cols cs hall, if_neg (by simp)] at hR
 cases hf : fitsD cols L
 .rw [hf] at c2 hR
  rw [if_pos rfl] at hR
  repeat' (first | ((first | ((with_reducible refine qj (fun hg => ?_) (fun hg => ?_)) <;> (try simp only [hg]) <;> (try simp only [gS] at hg) <;> (try (first | simp only [eq_false hg, gI] | simp only [eq_true hg, gI]))) | refine Stp.m ?_ | refine qh ?_ | refine agH ?_) <;> (try simp (disch := first | omega | simp) [qc, -qe, -qi, hlt])) | refine sideA ?_ | refine qb fun K hK => ?_ | refine qa ?_ | refine qf ?_ | refine qd ?_ | (refine hK _ ?_; clear hK K) | clear hK K)
  all_goals (rw [hR]; simp)
 rw [hf] at c2 hR
 rw [if_neg (by simp)] at hR
 have hsz : 40 * L.length <= 281474976710656 := by omega
 have hsz3 : 3 * L.length <= 281474976710656 := by omega
 repeat' (first | ((first | ((with_reducible refine qj (fun hg => ?_) (fun hg => ?_)) <;> (try simp only [hg]) <;> (try simp only [gS] at hg) <;> (try (first | simp only [eq_false hg, gI] | simp only [eq_true hg, gI]))) | refine Stp.m ?_ | refine qh ?_ | refine agH ?_) <;> (try simp (disch := first | omega | simp) [qc, -qe, -qi, hlt, hsz, hsz3])) | refine sideA ?_ | refine qb fun K hK => ?_ | refine qa ?_ | refine qf ?_ | refine qd ?_ | (refine hK _ ?_; clear hK K) | clear hK K)
 obtain ⟨Z, hZ⟩ : ∃ Z : Nat -> List (List AV), Z = fun k => (List.range L.length).map fun i => if i < k then [AV.int (L.getD i ⟨0, [], 0⟩).time, .v (.slice none 0 0), .int (L.getD i ⟨0, [], 0⟩).n] else [AV.int 0, .v (.slice none 0 0), .int 0] := ⟨_, rfl⟩
 have Zl : ∀ k, (Z k).length = L.length := fun k => by rw [hZ]; simp
 have Z0 : (Z 0).map AV.agg = List.replicate L.length (AV.agg [.int 0, .v (.slice none 0 0), .int 0]) := by
  rw [hZ]; apply List.ext_getElem (by simp); intro i h1 h2; simp
 have Zg : ∀ k (h : k < (Z k).length), (Z k)[k] = [AV.int 0, .v (.slice none 0 0), .int 0] := fun k h => by subst hZ; simp
 have Zs : ∀ k (h : k < L.length), (Z k).set k [AV.int L[k].time, .v (.slice none 0 0), .int L[k].n] = Z (k + 1) := fun k h => by
  subst hZ
  apply List.ext_getElem (by simp)
  intro i h1 h2
  simp only [List.length_map, List.length_range] at h2
  rw [List.getElem_set]
  by_cases hik : k = i
  .subst hik; simp [h]
  .rw [if_neg hik]
   by_cases hlt : i < k
   .simp [hlt, show i < k + 1 by omega]
   .simp [hlt, show ¬ i < k + 1 by omega]
 have Zn : ∀ k, ∀ cs ∈ Z k, cs[1]? = some (.v (.slice none 0 0)) := fun k cs hc => by
  rw [hZ] at hc
  obtain ⟨i, -, rfl⟩ := List.mem_map.1 hc
  split <;> rfl
 have Ze : Z L.length = L.map fun d => [AV.int d.time, .v (.slice none 0 0), .int d.n] := by
  rw [hZ]
  apply List.ext_getElem (by simp)
  intro i h1 h2
  simp only [List.length_map, List.length_range] at h1
  simp [h1]
 have Zc : ∀ k m, AV.cls m ((Z k).map AV.agg) := fun k m => by
  rw [AV.cls_iff, hZ]
  intro x hx
  obtain ⟨y, hy, rfl⟩ := List.mem_map.1 hx
  obtain ⟨i, -, rfl⟩ := List.mem_map.1 hy
  split <;> simp
 clear hZ
 refine qk hcl (fun k : Nat => [(0, .sl (cs.map Cod.av)), (2, .sl (L.map Delta.av)), (12, .own n0 L.length), (50, .sl (L.map Delta.av)), (51, .int L.length), (52, .int k)])
  (fun k => [.vec ((Z k).map AV.agg) 55 3])
  (fun k => k <= L.length) (fun k => L.length - k) 0 (by omega) (by simp [Z0]) fun k hk => ?_
 by_cases hlk : k < L.length
 .have zg := Zg k (by rw [Zl]; exact hlk)
  have zl := Zl k
  repeat' (first | ((first | ((with_reducible refine qj (fun hg => ?_) (fun hg => ?_)) <;> (try simp only [hg]) <;> (try simp only [gS] at hg) <;> (try (first | simp only [eq_false hg, gI] | simp only [eq_true hg, gI]))) | refine Stp.m ?_) <;> (try simp (disch := first | omega | simp) [qc, -qe, -qi, hlk, zg, zl])) | refine sideA ?_ | refine qb fun K hK => ?_ | refine qa ?_ | refine qf ?_ | refine qd ?_ | (refine hK _ ?_; clear hK K) | clear hK K)
  have zs := Zs k hlk
  refine ⟨k + 1, by omega, by omega, ?_, Zc _ _, by omega⟩
  rw [<- zs, List.map_set]
 obtain rfl : k = L.length := by omega
 repeat' (first | ((first | ((with_reducible refine qj (fun hg => ?_) (fun hg => ?_)) <;> (try simp only [hg]) <;> (try simp only [gS] at hg) <;> (try (first | simp only [eq_false hg, gI] | simp only [eq_true hg, gI]))) | refine Stp.m ?_) <;> (try simp (disch := first | omega | simp) [qc, -qe, -qi, hlk])) | refine sideA ?_ | refine qb fun K hK => ?_ | refine qa ?_ | refine qf ?_ | refine qd ?_ | (refine hK _ ?_; clear hK K) | clear hK K)
 refine qvd 0 1 63 3 (by rfl) (Zn _) ?_
 obtain ⟨A, hA⟩ : ∃ A : Nat -> Nat -> Nat -> List AV, A = fun k j i => (cs.take (k + if i < j then 1 else 0)).map fun c => (valC c (L.getD i ⟨0, [], 0⟩).time (L.getD i ⟨0, [], 0⟩).row).av := ⟨_, rfl⟩
 have Ae : ∀ k j i, A k j i = (cs.take (k + if i < j then 1 else 0)).map fun c => (valC c (L.getD i ⟨0, [], 0⟩).time (L.getD i ⟨0, [], 0⟩).row).av := fun k j i => by rw [hA]
 have Al : ∀ k j i, k < cs.length -> j <= i -> (A k j i).length = k := fun k j i h1 h2 => by rw [hA]; simp [show ¬ i < j by omega]; omega
 obtain ⟨E, hE⟩ : ∃ E : Nat -> Nat -> List AV, E = fun k j => (List.range L.length).map fun i => AV.agg [.int (L.getD i ⟨0, [], 0⟩).time, .gs (n0 + 1 + i) (A k j i), .int (L.getD i ⟨0, [], 0⟩).n] := ⟨_, rfl⟩
 have E00 : qcj 1 (n0 + 1) (Z L.length) = E 0 0 := by
  rw [Ze, hE]
  apply List.ext_getElem? ; intro i
  rw [qkz, List.getElem?_map, List.getElem?_map]
  by_cases hi : i < L.length
  .rw [List.getElem?_range hi, List.getElem?_eq_getElem hi, hA]; simp [hi]
  .rw [List.getElem?_eq_none (by omega), List.getElem?_eq_none (by simp; omega)]; rfl
 have El : ∀ k j, (E k j).length = L.length := fun k j => by rw [hE]; simp
 have Eg : ∀ k j (h : j < (E k j).length) (h2 : j < L.length), (E k j)[j] = AV.agg [.int L[j].time, .gs (n0 + 1 + j) (A k j j), .int L[j].n] := fun k j h h2 => by subst hE; simp [h2]
 have Es : ∀ k j (h : j < L.length) (h2 : k < cs.length), (E k j).set j (AV.agg [.int L[j].time, .gs (n0 + 1 + j) (A k j j ++ [(valC cs[k] L[j].time L[j].row).av]), .int L[j].n]) = E k (j + 1) := fun k j h h2 => by
  subst hE
  apply List.ext_getElem (by simp)
  intro i h3 h4
  simp only [List.length_map, List.length_range] at h4
  rw [List.getElem_set]
  by_cases hij : j = i
  .subst hij
   simp [h, Ae, List.take_add_one, h2]
  .rw [if_neg hij]
   by_cases hlt : i < j
   .simp [Ae, hlt, show i < j + 1 by omega]
   .simp [Ae, hlt, show ¬ i < j + 1 by omega]
 have Ec : ∀ k j, AV.cls (n0 + (L.length + 1)) (E k j) := fun k j => by
  rw [AV.cls_iff, hE]
  intro x hx
  obtain ⟨i, hi, rfl⟩ := List.mem_map.1 hx
  have := List.mem_range.1 hi
  have hc3 : AV.cls (n0 + (L.length + 1)) (A k j i) := by rw [hA]; exact AV.cls_map (fun c => Val.av_cl _ _) _
  simp [hc3]; omega
 have E9 : ∀ k, E k L.length = E (k + 1) 0 := fun k => by
  rw [hE, hA]
  apply List.map_congr_left
  intro i hi
  have := List.mem_range.1 hi
  simp [this]
 have Ef : (E cs.length 0).map AV.pub = R.1.map Delta.av := by
  rw [hR, hE, hA]
  apply List.ext_getElem (by simp [projD])
  intro i h3 h4
  simp only [List.length_map, List.length_range] at h3
  simp [projD, h3, Delta.av, -Delta.av_fold]
 have hR2 : R.2 = 0 := by rw [hR]
 clear hE
 obtain ⟨S, hS⟩ : ∃ S : Nat -> Nat -> Nat -> AB, S = fun k j r => if r < n0 then σ r else if r = n0 then .vec (E k j) 55 3 else if r < n0 + (L.length + 1) then .tail (k + if r - (n0 + 1) < j then 1 else 0) 63 3 else .unborn := ⟨_, rfl⟩
 have S0 : ∀ k j r, r < n0 -> S k j r = σ r := fun k j r h => by rw [hS]; simp [h]
 have S1 : ∀ k j, S k j n0 = .vec (E k j) 55 3 := fun k j => by rw [hS]; simp
 have S2 : ∀ k j i, i < L.length -> S k j (n0 + 1 + i) = .tail (k + if i < j then 1 else 0) 63 3 := fun k j i h => by
  rw [hS]; dsimp only
  rw [if_neg (by omega), if_neg (by omega), if_pos (by omega), show n0 + 1 + i - (n0 + 1) = i by omega]
 have S9 : ∀ k, S k L.length = S (k + 1) 0 := fun k => by
  rw [hS]; funext r; dsimp only
  rw [E9]
  split
  .rfl
  .split
   .rfl
   .split
    .rw [if_pos (by omega), if_neg (by omega)]
    .rfl
 have SU : ∀ k j (h : j < L.length) (h2 : k < cs.length), upd (upd (S k j) (n0 + 1 + j) (.tail (k + 1) 63 3)) n0 (.vec (E k (j + 1)) 55 3) = S k (j + 1) := fun k j h h2 => by
  rw [hS]; funext r; unfold upd; dsimp only
  by_cases h3 : r = n0
  .subst h3; simp
  .rw [if_neg h3]
   by_cases h4 : r = n0 + 1 + j
   .subst h4
    rw [if_pos rfl, if_neg (by omega), if_neg (by omega), if_pos (by omega), if_pos (by omega)]
   .rw [if_neg h4]
    split
    .rfl
    .split
     .by_cases h5 : r - (n0 + 1) < j
      .rw [if_pos h5, if_pos (by omega)]
      .rw [if_neg h5, if_neg (by omega)]
     .rfl
 have Scl : ∀ k j r, (S k j r).cl (n0 + (L.length + 1)) := fun k j r => by
  rw [hS]; dsimp only
  split
  .exact AB.cl_mono (by omega) (hcl r)
  .split
   .exact Ec k j
   .split <;> trivial
 have SL : ∀ k r, S k 0 r = loc σ n0 (AB.vec (E k 0) 55 3 :: List.replicate L.length (AB.tail k 63 3)) r := fun k r => by
  rw [hS]; unfold loc; dsimp only
  by_cases h1 : r < n0
  .rw [if_pos h1, if_pos h1]
  .rw [if_neg h1, if_neg h1]
   by_cases h2 : r = n0
   .rw [if_pos h2, h2, Nat.sub_self]; rfl
   .rw [if_neg h2, List.getD_eq_getElem?_getD, show r - n0 = (r - n0 - 1) + 1 by omega, List.getElem?_cons_succ, List.getElem?_replicate]
    by_cases h5 : r < n0 + (L.length + 1)
    .rw [if_pos h5, if_neg (Nat.not_lt_zero _), if_pos (by omega)]; rfl
    .rw [if_neg h5, if_neg (by omega)]; rfl
 clear hS
 simp only [List.set_cons_zero, List.length_cons, List.length_nil, Nat.zero_add, Zl, E00, List.cons_append, List.nil_append]
 refine qmg1 (S 0 0) (L.length + 1) (by simp) (SL 0) ?_
 refine qbx (fun k => S k 0) (fun k : Nat => [(0, .sl (cs.map Cod.av)), (2, .sl (L.map Delta.av)), (12, .own n0 L.length), (66, .sl (cs.map Cod.av)), (67, .int cs.length), (68, .int k)]) (fun _ => []) (fun k => k <= cs.length) (fun k => cs.length - k) 0 (fun k _ => Scl k 0) (by omega) (by simp [leS]) (Scl 0 0) fun k hk => ?_
 by_cases hlk2 : k < cs.length
 .have c3 := run_g (qrf.1 (hall k hlk2)) L (by omega) fun d hd => qlt hf hd
  repeat' (first | ((first | ((with_reducible refine qj (fun hg => ?_) (fun hg => ?_)) <;> (try simp only [hg]) <;> (try simp only [gS] at hg) <;> (try (first | simp only [eq_false hg, gI] | simp only [eq_true hg, gI]))) | refine Stp.m ?_ | refine qh ?_ | refine agH ?_) <;> (try simp (disch := first | omega | simp) [qc, -qe, -qi, hlk2])) | refine sideA ?_ | refine qb fun K hK => ?_ | refine qa ?_ | refine qf ?_ | refine qd ?_ | (refine hK _ ?_; clear hK K) | clear hK K)
  refine qbx (fun j => S k j) (fun j : Nat => [(0, .sl (cs.map Cod.av)), (2, .sl (L.map Delta.av)), (12, .own n0 L.length), (66, .sl (cs.map Cod.av)), (67, .int cs.length), (68, .int k), (74, .sl ((runD cs[k] L).map Val.av)), (75, .int (runD cs[k] L).length), (76, .int j)]) (fun _ => []) (fun j => j <= L.length) (fun j => L.length - j) 0 (fun j _ => Scl k j) (by omega) (by simp [leS]) (Scl k 0) fun j hj => ?_
  have hrl : (runD cs[k] L).length = L.length := by unfold runD; rw [List.length_map]
  by_cases hlj : j < L.length
  .have hlj2 : j < (runD cs[k] L).length := by omega
   have s1 := S1 k j
   have s2 : S k j (n0 + 1 + j) = .tail k 63 3 := by rw [S2 k j j hlj, if_neg (by omega), Nat.add_zero]
   have eg := Eg k j (by rw [El]; exact hlj) hlj
   have el := El k j
   have al := Al k j j hlk2 (Nat.le_refl _)
   have aw : AV.wid (A k j j) 3 := by rw [Ae]; exact AV.wid_map (fun c => Val.av_width _) _
   have hsz4 : (k + 1) * 40 <= 140737488355328 := by omega
   have hvd : (runD cs[k] L)[j] = valC cs[k] L[j].time L[j].row := by simp only [runD, List.getElem_map]
   have hlj3 : n0 + 1 + j < n0 + (L.length + 1) := by omega
   have hlj4 : ¬ n0 = n0 + 1 + j := by omega
   have hlj5 : ¬ n0 + 1 + j = n0 := by omega
   repeat' (first | ((first | ((with_reducible refine qj (fun hg => ?_) (fun hg => ?_)) <;> (try simp only [hg]) <;> (try simp only [gS] at hg) <;> (try (first | simp only [eq_false hg, gI] | simp only [eq_true hg, gI]))) | refine Stp.m ?_) <;> (try simp (disch := first | omega | simp) [qc, -qe, -qi, hlj, hlj2])) | refine sideA ?_ | refine qb fun K hK => ?_ | refine qa ?_ | refine qd ?_ | (refine hK _ ?_; clear hK K) | clear hK K)
   refine qid [.cells (runD cs[k] L)[j].av.cells 63] n0 [.R, .R, .R, .R, .N, .N, .N, .R, .R, .A, .N, .N, .W] (by kernel_rfl) (by kernel_rfl) (by simp) ?_
   repeat' (first | ((first | ((with_reducible refine qj (fun hg => ?_) (fun hg => ?_)) <;> (try simp only [hg]) <;> (try simp only [gS] at hg) <;> (try (first | simp only [eq_false hg, gI] | simp only [eq_true hg, gI]))) | refine Stp.m ?_) <;> (try simp (disch := first | omega | simp) [qc, -qe, -qi, hlj, hlj2, hlj3, hlj4, hlj5, s1, s2, eg, el, al, aw, hsz4, hvd, qcf])) | refine sideA ?_ | refine qb fun K hK => ?_ | refine qa ?_ | refine qf ?_ | refine qd ?_ | (refine hK _ ?_; clear hK K) | clear hK K)
   have hup : ∀ r, upd (upd (S k j) (n0 + 1 + j) (AB.tail (k + 1) 63 3)) n0 (AB.vec ((E k j).set j (AV.agg [AV.int L[j].time, AV.gs (n0 + 1 + j) (A k j j ++ [(valC cs[k] L[j].time L[j].row).av]), AV.int L[j].n])) 55 3) r = S k (j + 1) r := fun r => by rw [Es k j hlj hlk2, SU k j hlj hlk2]
   exact ⟨fun r => by have := Scl k (j + 1) r; rw [<- hup] at this; exact this, j + 1, by omega, by omega, fun r _ => (hup r).symm, by simp⟩
  .obtain rfl : j = L.length := by omega
   repeat' (first | ((first | ((with_reducible refine qj (fun hg => ?_) (fun hg => ?_)) <;> (try simp only [hg]) <;> (try simp only [gS] at hg) <;> (try (first | simp only [eq_false hg, gI] | simp only [eq_true hg, gI]))) | refine Stp.m ?_) <;> (try simp (disch := first | omega | simp) [qc, -qe, -qi, hlj, hrl])) | refine sideA ?_ | refine qb fun K hK => ?_ | refine qa ?_ | refine qf ?_ | refine qd ?_ | (refine hK _ ?_; clear hK K) | clear hK K)
   exact ⟨Scl k _, k + 1, by omega, by omega, fun r _ => by rw [S9], by simp⟩
 .obtain rfl : k = cs.length := by omega
  repeat' (first | ((first | ((with_reducible refine qj (fun hg => ?_) (fun hg => ?_)) <;> (try simp only [hg]) <;> (try simp only [gS] at hg) <;> (try (first | simp only [eq_false hg, gI] | simp only [eq_true hg, gI]))) | refine Stp.m ?_) <;> (try simp (disch := first | omega | simp) [qc, -qe, -qi, hlk2])) | refine sideA ?_ | refine qb fun K hK => ?_ | refine qa ?_ | refine qf ?_ | refine qd ?_ | (refine hK _ ?_; clear hK K) | clear hK K)
  refine ⟨fun r hr => S0 _ 0 r hr, ?_⟩
  have hun : ∀ (n : Nat) (t : Nat -> AV), (AS.mk n t (S cs.length 0) (n0 + (L.length + 1)) []).un σ n0 (L.length + 1) = ⟨n, t, σ, n0, AB.vec (E cs.length 0) 55 3 :: List.replicate L.length (AB.tail cs.length 63 3)⟩ := fun n t => by
   unfold AS.un
   congr 1
   rw [List.append_nil]
   apply List.ext_getElem (by simp)
   intro i h5 h6
   simp only [List.length_map, List.length_range] at h5
   rw [List.getElem_map, List.getElem_range]
   show loc (S cs.length 0) (n0 + (L.length + 1)) [] (n0 + i) = _
   rw [qcf _ _ _ _ (by omega), SL]
   unfold loc
   rw [if_neg (by omega), Nat.add_sub_cancel_left, List.getD_eq_getElem?_getD, List.getElem?_eq_getElem h6]; rfl
  rw [hun]
  refine hK _ ?_
  clear hK K
  refine qid1 0 (by rfl) ?_
  refine qdg 12 0 (k := L.length) (by simp) (by rfl) (by simp [El]) ?_
  repeat' (first | ((first | ((with_reducible refine qj (fun hg => ?_) (fun hg => ?_)) <;> (try simp only [hg]) <;> (try simp only [gS] at hg) <;> (try (first | simp only [eq_false hg, gI] | simp only [eq_true hg, gI]))) | refine Stp.m ?_) <;> (try simp (disch := first | omega | simp) [qc, -qe, -qi, Ef, hR2])) | refine sideA ?_ | refine qb fun K hK => ?_ | refine qa ?_ | refine qf ?_ | refine qd ?_ | (refine hK _ ?_; clear hK K) | clear hK K)
def codeE (F : List Fn) (cols : List Int) (e : Ex) : Cod := compP (rawP cols (foldE ((qbj F e).getD (.mk 0 0 ByteArray.empty []))))
theorem qsb {F : List Fn} {cols : List Int} {e : Ex} {t : Int} (ht : typeP F cols [] e = some t) : (qbj F e).isSome = true -> qcx F cols e = (codeE F cols e, 0) := fun h => by
 obtain ⟨y, hy⟩ := Option.isSome_iff_exists.1 h
 unfold qcx codeE
 rw [ht, hy]; rfl
theorem qsc {F : List Fn} {cols : List Int} {e : Ex} {t : Int} (ht : typeP F cols [] e = some t) : (qbj F e).isSome = false -> (qcx F cols e).2 ≠ 0 := fun h => by
 have hy : qbj F e = none := by simpa using h
 unfold qcx
 rw [ht, hy]; simp
theorem qvk {F : List Fn} {cols : List Int} {e : Ex} {t : Int} (ht : typeP F cols [] e = some t) (h : (qbj F e).isSome = true) :
  (verP (codeE F cols e) cols).2 = 0 /\ (codeE F cols e).types.getD (codeE F cols e).out.toNat 0 = t /\ ∀ time row, qce cols row = true -> valC (codeE F cols e) time row = evalP F time row e /\ (evalP F time row e).k = t /\ qr (evalP F time row e) := by
 obtain ⟨y, hy⟩ := Option.isSome_iff_exists.1 h
 obtain ⟨h1, h2, h3, h4⟩ := qiy ht
 obtain ⟨g1, g2, g3, g4, g5⟩ := qll ht hy
 obtain ⟨k1, k2, k3⟩ := qij1 g3 g4
 have e1 : codeE F cols e = compP (rawP cols (foldE y)) := by unfold codeE; rw [hy]; rfl
 rw [e1]
 refine ⟨qrf.2 k1, ?_, fun time row hr => ?_⟩
 .rw [k3]
  have := g3.typ
  rw [g5] at this
  exact (Option.some.inj this).symm
 .have hf := qny hr
  unfold qce at hr
  simp only [Bool.and_eq_true, decide_eq_true_eq] at hr
  have hs : ∀ v ∈ row, qr v := fun v hv => by
   have h2 := hr.1.2
   unfold rowOk at h2
   simp only [Bool.and_eq_true] at h2
   exact qkh (List.all_eq_true.1 h2.2 v hv)
  refine ⟨by rw [k2]; exact qik1 h2 h3 hy g1 hr.2 hs, ?_⟩
  have := qxi (F := F) time h2 F.length e (c := cols) (p := []) (row := row) (params := []) (t := t) (by rw [List.take_length]; exact h3) hf rfl (by simp)
  exact this
theorem qnm {F : List Fn} {cols : List Int} {e : Ex} (h : boolP F cols e = true) : typeP F cols [] e = some 2 := by
 unfold boolP at h
 split at h
 .rename_i t ht; rw [ht]; simp at h; rw [h]
 .cases h
theorem qki1 {F : List Fn} {cols : List Int} {e : Ex} {L : List Delta} (ht : typeP F cols [] e = some 2) (h : (qbj F e).isSome = true) (hf : fitsD cols L = true) :
  selP (codeE F cols e) cols L = (L.filter fun d => decide ((evalP F d.time d.row e).n = 1), 0) /\ ∀ d ∈ L, Val.eqB (evalP F d.time d.row e) (boolV true) = decide ((evalP F d.time d.row e).n = 1) := by
 obtain ⟨k1, k2, k3⟩ := qvk ht h
 have hrow : ∀ d ∈ L, qce cols d.row = true := fun d hd => List.all_eq_true.1 hf d hd
 refine ⟨?_, fun d hd => ?_⟩
 .unfold selP
  rw [if_neg (by omega), if_neg (by omega), if_neg (by rw [hf]; simp)]
  congr 1
  exact List.filter_congr fun d hd => by rw [(k3 d.time d.row (hrow d hd)).1]
 .obtain ⟨-, h2, h3⟩ := k3 d.time d.row (hrow d hd)
  generalize evalP F d.time d.row e = v at *
  obtain ⟨k, m, s⟩ := v
  obtain ⟨h3, -⟩ := h3
  simp only at h2
  subst h2
  unfold okV at h3
  simp at h3
  have hs : s.toList = [] := h3.2
  show ((2 : Int) == 2 && (m == 1 && (s.toList == (boolV true).s.toList))) = _
  have e2 : (boolV true).s.toList = [] := qgw
  rw [hs, e2]
  by_cases hm : m = 1 <;> simp [hm]
theorem qfe1 {F : List Fn} {cols : List Int} {es : List Ex} {L : List Delta} (ht : ∀ e ∈ es, ∃ t, typeP F cols [] e = some t) (h : ∀ e ∈ es, (qbj F e).isSome = true) (h0 : 1 <= es.length) (h12 : es.length <= 12) (hf : fitsD cols L = true) :
  projP (es.map (codeE F cols)) cols L = (mapD F es L, 0) := by
 have hrow : ∀ d ∈ L, qce cols d.row = true := fun d hd => List.all_eq_true.1 hf d hd
 unfold projP
 rw [if_neg (by rw [List.length_map]; omega), qji cols _ (fun j hj => ?_), if_neg (by simp), if_neg (by rw [hf]; simp)]
 .congr 1
  unfold projD mapD
  refine List.map_congr_left fun d hd => ?_
  rw [List.map_map]
  congr 1
  refine List.map_congr_left fun e hee => ?_
  obtain ⟨t, ht⟩ := ht e hee
  exact ((qvk ht (h e hee)).2.2 d.time d.row (hrow d hd)).1
 .rw [List.getElem_map]
  have hj' : j < es.length := by simpa using hj
  obtain ⟨t, ht⟩ := ht es[j] (List.getElem_mem hj')
  exact (qvk ht (h es[j] (List.getElem_mem hj'))).1
set_option maxRecDepth 100000 in
set_option maxHeartbeats 16000000 in
theorem qhk1 (F : List Fn) (n : Node) (cols : List Int) (l : List Delta) (hlF : F.length <= 1000000) (hF : ∀ f ∈ F, parts f.body <= 1000000) (he : ∀ e ∈ n.exprs, parts e <= 1000000) (hs : ∀ p ∈ n.seq, parts p.pred <= 1000000) (hle : n.exprs.length <= 1000000) (hls : n.seq.length <= 1000000)
  (hrow : ∀ d ∈ l, d.row.length <= 1000000) (hn : ∀ e ∈ n.exprs, n64 e) (hnF : ∀ f ∈ F, n64 f.body) :
  Gives Tryz.prog 3 [.sl (F.map Fn.av), n.av, .sl (cols.map AV.int), .sl (l.map Delta.av)] (.bool true) := by
 have hsm := qgc1
 by_cases ho : n.op = 1 \/ n.op = 2
 rotate_left
 .have b1 : (n.op != 1) = true := by rw [bne_iff_ne]; omega
  have b2 : (n.op != 2) = true := by rw [bne_iff_ne]; omega
  refine qg Tryz.func3 Tryz.ntmps3 fun σ n0 hcl hft => ?_
  repeat' (first | ((first | refine Stp.m ?_ | refine qh ?_) <;> (try simp (disch := first | omega | simp) [qc, -qe, -qi, b1, b2])) | refine qb fun K hK => ?_ | refine qa ?_ | (refine hK _ ?_; clear hK K))
 have c1 := qfr1 F n he hs hF hlF hle hls
 have c2 := qkg1 F n cols ho he hF hle
 have c3 := qkf1 cols l hrow
 have bo : (n.op = 1 /\ (n.op != 1) = false) \/ (n.op = 2 /\ (n.op != 1) = true /\ (n.op != 2) = false) := by
  rcases ho with ho | ho
  .exact .inl ⟨ho, by rw [ho]; rfl⟩
  .exact .inr ⟨ho, by rw [ho]; rfl, by rw [ho]; rfl⟩
 cases h1 : qua F n with
 | false =>
  rw [h1] at c1
  rcases bo with ⟨ho, b1⟩ | ⟨ho, b1, b2⟩
  .refine qg Tryz.func3 Tryz.ntmps3 fun σ n0 hcl hft => ?_
   repeat' (first | ((first | refine Stp.m ?_ | refine qh ?_) <;> (try simp (disch := first | omega | simp) [qc, -qe, -qi, b1])) | refine qb fun K hK => ?_ | refine qa ?_ | (refine hK _ ?_; clear hK K))
  .refine qg Tryz.func3 Tryz.ntmps3 fun σ n0 hcl hft => ?_
   repeat' (first | ((first | refine Stp.m ?_ | refine qh ?_) <;> (try simp (disch := first | omega | simp) [qc, -qe, -qi, b1, b2])) | refine qb fun K hK => ?_ | refine qa ?_ | (refine hK _ ?_; clear hK K))
 | true =>
 cases h2 : qox F n cols with
 | false =>
  rw [h1] at c1
  rw [h2] at c2
  rcases bo with ⟨ho, b1⟩ | ⟨ho, b1, b2⟩
  .refine qg Tryz.func3 Tryz.ntmps3 fun σ n0 hcl hft => ?_
   repeat' (first | ((first | refine Stp.m ?_ | refine qh ?_) <;> (try simp (disch := first | omega | simp) [qc, -qe, -qi, b1])) | refine qb fun K hK => ?_ | refine qa ?_ | (refine hK _ ?_; clear hK K))
  .refine qg Tryz.func3 Tryz.ntmps3 fun σ n0 hcl hft => ?_
   repeat' (first | ((first | refine Stp.m ?_ | refine qh ?_) <;> (try simp (disch := first | omega | simp) [qc, -qe, -qi, b1, b2])) | refine qb fun K hK => ?_ | refine qa ?_ | (refine hK _ ?_; clear hK K))
 | true =>
 cases h3 : fit21 cols l with
 | false =>
  rw [h1] at c1
  rw [h2] at c2
  rw [h3] at c3
  rcases bo with ⟨ho, b1⟩ | ⟨ho, b1, b2⟩
  .refine qg Tryz.func3 Tryz.ntmps3 fun σ n0 hcl hft => ?_
   repeat' (first | ((first | refine Stp.m ?_ | refine qh ?_) <;> (try simp (disch := first | omega | simp) [qc, -qe, -qi, b1])) | refine qb fun K hK => ?_ | refine qa ?_ | (refine hK _ ?_; clear hK K))
  .refine qg Tryz.func3 Tryz.ntmps3 fun σ n0 hcl hft => ?_
   repeat' (first | ((first | refine Stp.m ?_ | refine qh ?_) <;> (try simp (disch := first | omega | simp) [qc, -qe, -qi, b1, b2])) | refine qb fun K hK => ?_ | refine qa ?_ | (refine hK _ ?_; clear hK K))
 | true =>
 rw [h1] at c1
 rw [h2] at c2
 rw [h3] at c3
 obtain ⟨fl, fp, ft, ip, it, il, ifit⟩ := qmt1 h3
 have hc : cols.length <= 1000000 := by
  have h2' := h2
  unfold qox at h2'
  simp only [Bool.and_eq_true, decide_eq_true_eq] at h2'
  have := h2'.1.2.2
  omega
 have hT : ∀ e ∈ n.exprs, ∃ t, typeP F cols [] e = some t := fun e hee => by
  unfold qox at h2
  simp only [Bool.and_eq_true] at h2
  rcases ho with ho | ho
  .rw [if_pos ho] at h2
   simp only [Bool.and_eq_true, List.all_eq_true] at h2
   exact ⟨2, qnm (h2.2.2 e hee)⟩
  .rw [if_neg (by omega)] at h2
   unfold qza at h2
   simp only [Bool.and_eq_true, List.all_eq_true] at h2
   exact Option.isSome_iff_exists.1 (h2.2.1 e hee)
 have hnum : (n.op = 1 -> n.exprs.length = 1 /\ ∀ e ∈ n.exprs, typeP F cols [] e = some 2) /\ (n.op = 2 -> 1 <= n.exprs.length /\ n.exprs.length <= 12) := by
  unfold qox at h2
  simp only [Bool.and_eq_true] at h2
  constructor
  .intro ho
   rw [if_pos ho] at h2
   simp only [Bool.and_eq_true, List.all_eq_true, decide_eq_true_eq] at h2
   exact ⟨h2.2.1, fun e hee => qnm (h2.2.2 e hee)⟩
  .intro ho
   rw [if_neg (by omega)] at h2
   simp only [Bool.and_eq_true, decide_eq_true_eq] at h2
   exact h2.2.2
 have hsm2 : (∀ f ∈ F, parts f.body <= 100) /\ F.length <= 5 /\ n.exprs.length <= 12 /\ ∀ e ∈ n.exprs, parts e <= 200 := by
  unfold qua lensN at h1
  simp only [Bool.and_eq_true, List.all_eq_true, decide_eq_true_eq] at h1
  obtain ⟨⟨⟨a1, a2⟩, -⟩, a4, a5, -⟩ := h1
  refine ⟨fun f hf => ?_, a4, a5, fun e hee => ?_⟩
  .have := a1 f hf
   unfold qmu at this
   simp only [Bool.and_eq_true, decide_eq_true_eq] at this
   exact this.1
  .have := a2 e hee
   unfold qek at this
   simp only [Bool.and_eq_true, decide_eq_true_eq] at this
   exact this.1.1
 obtain ⟨m1, m2, m3, m4⟩ := hsm2
 obtain ⟨IN, hIN⟩ : ∃ IN, IN = rsumF l.length l := ⟨_, rfl⟩
 have c5 := qtz l.length l (Nat.le_refl _) (by omega) hrow
 rw [<- hIN] at ip it il ifit c5
 have inrow : ∀ d ∈ IN, d.row.length <= 1000000 := fun d hd => by
  rw [hIN] at hd
  obtain ⟨y, hy, -, e⟩ := qku _ _ d hd
  rw [<- e]; exact hrow y hy
 clear hIN
 have hcomp : ∀ e ∈ n.exprs, Gives Tryz.prog 8 [.sl (F.map Fn.av), .sl (cols.map AV.int), e.av] (.tup [(qcx F cols e).1.av, .int (qcx F cols e).2]) := fun e hee =>
  qbo1 F cols e (fun f hf => by have := m1 f hf; omega) (by omega) hc (by have := m4 e hee; omega) (hn e hee) hnF
 have heval : ∀ d ∈ IN, ∀ e ∈ n.exprs, Gives Tryz.prog 38 [.sl (F.map Fn.av), e.av, .int d.time, .sl (d.row.map Val.av)] (evalP F d.time d.row e).av := fun d hd e hee => by
  obtain ⟨t, ht⟩ := hT e hee
  obtain ⟨q1, q2, q3, q4⟩ := qiy ht
  exact qnu F d.time d.row e t q2 (fun f hf => by have := m1 f hf; omega) (by have := m4 e hee; omega) q3 (qlt ifit hd)
 clear h1 h2 h3 he hs hn
 rcases bo with ⟨ho1, b1⟩ | ⟨ho1, b1, b2⟩
 case' inl =>
  refine qg Tryz.func3 Tryz.ntmps3 fun σ n0 hcl hft => ?_
  repeat' (first | ((first | refine Stp.m ?_ | refine qh ?_) <;> (try simp (disch := first | omega | simp) [qc, -qe, -qi, b1])) | refine qb fun K hK => ?_ | refine qa ?_ | refine qd ?_ | (refine hK _ ?_; clear hK K))
 case' inr =>
  refine qg Tryz.func3 Tryz.ntmps3 fun σ n0 hcl hft => ?_
  repeat' (first | ((first | refine Stp.m ?_ | refine qh ?_) <;> (try simp (disch := first | omega | simp) [qc, -qe, -qi, b1, b2])) | refine qb fun K hK => ?_ | refine qa ?_ | refine qd ?_ | (refine hK _ ?_; clear hK K))
 all_goals (
  refine qbn 10 39 3 (by simp) ?_
  refine qk hcl (fun k : Nat => [(0, .sl (F.map Fn.av)), (2, .sl (cols.map AV.int)), (3, .sl (l.map Delta.av)), (5, .ptr n0 0), (9, .bool true), (10, .gs (n0 + 1) (((n.exprs.take k).map (codeE F cols)).map Cod.av)), (11, .int k)]) (fun k => [.cells n.av.cells 29, .tail k 39 3])
   (fun k => k <= n.exprs.length /\ ∀ j (h : j < n.exprs.length), j < k -> (qbj F n.exprs[j]).isSome = true) (fun k => n.exprs.length - k) 0 ⟨by omega, fun j h hj => by omega⟩ (by simp) fun k ⟨hk, hkk⟩ => ?_
  by_cases hlt : k < n.exprs.length
  .have c4 := hcomp n.exprs[k] (List.getElem_mem hlt)
   obtain ⟨t, ht⟩ := hT n.exprs[k] (List.getElem_mem hlt)
   have hsn : (n.exprs.take (k + 1)).map (codeE F cols) = (n.exprs.take k).map (codeE F cols) ++ [codeE F cols n.exprs[k]] := by
    rw [List.take_succ_eq_append_getElem hlt, List.map_append]; rfl
   have hCl : ((n.exprs.take k).map (codeE F cols)).length = k := by simp; omega
   obtain ⟨CS, hCS⟩ : ∃ CS, CS = (n.exprs.take k).map (codeE F cols) := ⟨_, rfl⟩
   rw [<- hCS] at hsn hCl ⊢
   have hi := qsb ht
   have hno := qsc ht
   have hup := fun h => qjb (p := fun e => (qbj F e).isSome) hkk hlt h
   obtain ⟨e, hee⟩ : ∃ e, e = n.exprs[k] := ⟨_, rfl⟩
   rw [<- hee] at c4 hsn hi hno hup
   by_cases hin : (qbj F e).isSome = true
   .rw [hi hin] at c4
    dsimp only at c4
    obtain ⟨C, hC⟩ : ∃ C, C = codeE F cols e := ⟨_, rfl⟩
    rw [<- hC] at c4 hsn
    repeat' (first | ((first | refine Stp.m ?_ | refine qh ?_) <;> (try simp (disch := first | omega | simp) [qc, -qe, -qi, hlt, hCl, <- hee])) | refine sideA ?_ | refine qb fun K hK => ?_ | refine qa ?_ | refine qd ?_ | (refine hK _ ?_; clear hK K) | clear hK K)
    exact ⟨k + 1, ⟨by omega, hup hin⟩, by omega, rfl, by rw [<- List.map_take, <- List.map_map, hsn, List.map_append]; rfl, by omega⟩
   .have hz := hno (by simpa using hin)
    generalize (qcx F cols e).1 = C at *
    generalize (qcx F cols e).2 = Z at *
    have hzb : (Z != 0) = true := by rw [bne_iff_ne]; exact hz
    repeat' (first | ((first | refine Stp.m ?_ | refine qh ?_) <;> (try simp (disch := first | omega | simp) [qc, -qe, -qi, hlt, hCl, hzb, <- hee])) | refine qb fun K hK => ?_ | refine qa ?_ | refine qd ?_ | (refine hK _ ?_; clear hK K))
  have hall : ∀ e ∈ n.exprs, (qbj F e).isSome = true := fun e hee => by
   obtain ⟨j, hj, rfl⟩ := List.getElem_of_mem hee
   exact hkk j hj (by omega)
  obtain rfl : k = n.exprs.length := by omega
  rw [List.take_length]
  clear hkk hcomp)
 rotate_left
 .obtain ⟨h11, h12⟩ := hnum.1 ho1
  obtain ⟨e, hee⟩ := List.length_eq_one_iff.1 h11
  have hem : e ∈ n.exprs := by rw [hee]; simp
  obtain ⟨s1, s2⟩ := qki1 (h12 e hem) (hall e hem) ifit
  obtain ⟨p, hp⟩ : ∃ p : Delta -> Bool, p = fun d => decide ((evalP F d.time d.row e).n = 1) := ⟨_, rfl⟩
  have hM1 : posD (IN.filter p) := fun x hx => ip x (List.mem_filter.1 hx).1
  have hM2 := qpe p ip
  have hM3 : (IN.filter p).length <= IN.length := List.length_filter_le p IN
  have hM4 : ∀ d ∈ IN.filter p, d.row.length <= 1000000 := fun d hd => inrow d (List.mem_filter.1 hd).1
  have cs := qlv1 (IN.filter p) (by omega) hM1 (by omega) hM4
  have c6 := qof1 F n e IN p ho1 hee (by omega) (fun d hd => heval d hd e hem) (fun d hd => by rw [s2 d hd, hp]) cs
  have c7 := qww (codeE F cols e) cols IN hc (by omega) inrow
  rw [s1, <- hp] at c7
  have c8 := qtz (IN.filter p).length (IN.filter p) (Nat.le_refl _) (by omega) hM4
  have c9 := qyv _ _ (qug (Nat.le_refl _) hM1 (by omega)) (by have := qfn (IN.filter p).length (IN.filter p); omega)
  have hCS : n.exprs.map (codeE F cols) = [codeE F cols e] := by rw [hee]; rfl
  have o1 : (n.op == 1) = true := by rw [ho1]; rfl
  rw [hCS]
  have hlt2 : ¬ (n.exprs.length : Int) < (n.exprs.length : Int) := by omega
  generalize rsumF (IN.filter p).length (IN.filter p) = SG at *
  generalize sumD (IN.filter p) = SW at *
  generalize codeE F cols e = C at *
  dsimp only at c7
  generalize IN.filter p = G at *
  clear hee hCS s1 s2
  repeat' (first | ((first | refine Stp.m ?_ | refine qh ?_) <;> (try simp (disch := first | omega | simp) [qc, -qe, -qi, hlt2, o1])) | refine qb fun K hK => ?_ | refine qa ?_ | (refine hK _ ?_; clear hK K) | clear hK K)
 .obtain ⟨h11, h12⟩ := hnum.2 ho1
  have hpj := qfe1 hT hall h11 h12 ifit
  have hM1 := qop1 F n.exprs ip
  have hM2 := qgr1 F n.exprs IN
  have hM3 : (mapD F n.exprs IN).length = IN.length := by simp [mapD]
  have hM4 : ∀ d ∈ mapD F n.exprs IN, d.row.length <= 1000000 := fun d hd => by
   obtain ⟨x, -, rfl⟩ := List.mem_map.1 hd
   simp; omega
  have cs := qlv1 (mapD F n.exprs IN) (by omega) hM1 (by omega) hM4
  have c6 := qog1 F n IN ho1 hle (by omega) heval cs
  have c7 := qbq1 (n.exprs.map (codeE F cols)) cols IN (by simp; omega) hc (by omega) inrow
  rw [hpj] at c7
  have c8 := qtz (mapD F n.exprs IN).length (mapD F n.exprs IN) (Nat.le_refl _) (by omega) hM4
  have c9 := qyv _ _ (qug (Nat.le_refl _) hM1 (by omega)) (by have := qfn (mapD F n.exprs IN).length (mapD F n.exprs IN); omega)
  have o1 : (n.op == 1) = false := by rw [ho1]; rfl
  have hlt2 : ¬ (n.exprs.length : Int) < (n.exprs.length : Int) := by omega
  generalize rsumF (mapD F n.exprs IN).length (mapD F n.exprs IN) = SG at *
  generalize sumD (mapD F n.exprs IN) = SW at *
  dsimp only at c7
  generalize mapD F n.exprs IN = G at *
  clear hpj
  generalize n.exprs.map (codeE F cols) = CS at *
  repeat' (first | ((first | refine Stp.m ?_ | refine qh ?_) <;> (try simp (disch := first | omega | simp) [qc, -qe, -qi, hlt2, o1])) | refine qb fun K hK => ?_ | refine qa ?_ | (refine hK _ ?_; clear hK K) | clear hK K)
end Go.Proofs.YtkedbjjfmejbhaaGreatDoor
namespace Go.Proofs.YtkedbjjfmejbhaaGreatDoor
open Go.ChangeShapes Go.WideShapes Go.RowKit Go.Lib
section
variable {H : Type} {enc : TypeId × Value -> H} {w : World} {sp : Nat -> Bool} {hd : Bool}
theorem qab1 (d : Delta) (n : Nat) (cs : List Value) (x : DataW H × List MemPlace) (hr : Rd w Any d.d cs) (h : DataW.trod enc Tryz.prog w 0 sp hd n 55 cs = some x) : True /\ 4 * d.row.length <= Rows.uptoBulk x.1 := by
 obtain ⟨A, cap, b, off, rfl, p1, q1, r1, s1⟩ := Delta.open hr
 have hsl : Rd w Any (.sl (d.row.map Val.d)) [.slice A d.row.length cap] := by
  rw [Rd]; exact ⟨A, cap, b, off, by rw [List.length_map], by rw [List.length_map]; exact p1, q1, by rw [List.length_map]; exact r1, s1⟩
 obtain ⟨xs, m, rfl, rfl, hlen, hx3, hf⟩ := DataW.trod_struct Tryz.underlying55 h
 have hcl : Tryz.prog.cellsOf 53 = 1 := by kernel_rfl
 have hc : Tryz.prog.cellsOf 63 = 3 := by kernel_rfl
 have hx3' : xs.length = 3 := hx3
 match xs, hx3' with
 | [y0, y1, y2], _ =>
  have h1 : DataW.trod enc Tryz.prog w 0 sp hd m 53 [.slice A d.row.length cap] = some y1 := qcn 1 53 1 1 hf ⟨_, rfl, rfl, rfl⟩ hcl
  obtain ⟨-, g2, -⟩ := qjs (Q := fun _ => True) (g := fun _ => 4) Tryz.underlying53 hc (by omega) Val.width hsl h1 fun a ha n c y hr hy => qkw1 a n c y hr hy
  have hs : ∀ l : List Val, (l.map fun _ => 4).sum = 4 * l.length := fun l => by
   induction l with
   | nil => rfl
   | cons a l ih => rw [List.map_cons, List.sum_cons, ih, List.length_cons]; omega
  rw [hs] at g2
  refine ⟨trivial, ?_⟩
  simp only [List.map_cons, List.map_nil, Rows.uptoBulk, Rows.uptoBulkAll]
  omega
end
end Go.Proofs.YtkedbjjfmejbhaaGreatDoor
namespace Go.Proofs.YtkedbjjfmejbhaaGreatDoor
open Go.RowKit Go.Lib
section
variable {H : Type} {enc : TypeId × Value -> H} {w : World} {sp : Nat -> Bool} {hd : Bool}
theorem qgs1 (N : Nat) : Trods enc Tryz.prog w sp hd 108 Agg.d N := by
 intro n cs x hn h
 obtain ⟨xs, m, rfl, -, hlen, hl2, hf⟩ := DataW.trod_struct Tryz.underlying108 h
 have hc : Tryz.prog.cellsOf 108 = 3 := by kernel_rfl
 rw [hc] at hlen
 obtain ⟨y0, h0⟩ := ql 0 3 0 1 hl2 hf ⟨_, rfl, rfl, rfl⟩ (by kernel_rfl)
 obtain ⟨y1, h1⟩ := ql 1 3 1 1 hl2 hf ⟨_, rfl, rfl, rfl⟩ (by kernel_rfl)
 obtain ⟨y2, h2⟩ := ql 2 9 2 1 hl2 hf ⟨_, rfl, rfl, rfl⟩ (by kernel_rfl)
 obtain ⟨a0, r0⟩ := qv Tryz.underlying3 (m + 1) m _ _ (by omega) h0
 obtain ⟨a1, r1⟩ := qv Tryz.underlying3 (m + 1) m _ _ (by omega) h1
 obtain ⟨a2, r2⟩ := qeo Tryz.underlying9 (m + 1) m _ _ (by omega) h2
 exact ⟨⟨a0, a1, a2⟩, rd_st (qs (k := 1) r0 (qs (k := 1) r1 (qs (k := 1) r2 (qgk (by omega)))))⟩
end
section
variable {H : Type} {enc : TypeId × Value -> H} {w : World} {sp : Nat -> Bool} {hd : Bool}
theorem qgt1 (N : Nat) : Trods enc Tryz.prog w sp hd 284 Col.d N := by
 intro n cs x hn h
 obtain ⟨xs, m, rfl, -, hlen, hl2, hf⟩ := DataW.trod_struct Tryz.underlying284 h
 have hc : Tryz.prog.cellsOf 284 = 3 := by kernel_rfl
 rw [hc] at hlen
 obtain ⟨y0, h0⟩ := ql 0 9 0 1 hl2 hf ⟨_, rfl, rfl, rfl⟩ (by kernel_rfl)
 obtain ⟨y1, h1⟩ := ql 1 3 1 1 hl2 hf ⟨_, rfl, rfl, rfl⟩ (by kernel_rfl)
 obtain ⟨y2, h2⟩ := ql 2 9 2 1 hl2 hf ⟨_, rfl, rfl, rfl⟩ (by kernel_rfl)
 obtain ⟨a0, r0⟩ := qeo Tryz.underlying9 (m + 1) m _ _ (by omega) h0
 obtain ⟨a1, r1⟩ := qv Tryz.underlying3 (m + 1) m _ _ (by omega) h1
 obtain ⟨a2, r2⟩ := qeo Tryz.underlying9 (m + 1) m _ _ (by omega) h2
 exact ⟨⟨a0, a1, a2⟩, rd_st (qs (k := 1) r0 (qs (k := 1) r1 (qs (k := 1) r2 (qgk (by omega)))))⟩
end
end Go.Proofs.YtkedbjjfmejbhaaGreatDoor
namespace Go.Proofs.YtkedbjjfmejbhaaGreatDoor
open Go.RowKit Go.Lib
section
variable {H : Type} {enc : TypeId × Value -> H} {w : World} {sp : Nat -> Bool} {hd : Bool}
theorem qgv1 (N : Nat) : Trods enc Tryz.prog w sp hd 70 Pat.d N := by
 intro n cs x hn h
 obtain ⟨xs, m, rfl, -, hlen, hl2, hf⟩ := DataW.trod_struct Tryz.underlying70 h
 have hc : Tryz.prog.cellsOf 70 = 5 := by kernel_rfl
 rw [hc] at hlen
 obtain ⟨y0, h0⟩ := ql 0 44 0 4 hl2 hf ⟨_, rfl, rfl, rfl⟩ (by kernel_rfl)
 obtain ⟨y1, h1⟩ := ql 1 3 4 1 hl2 hf ⟨_, rfl, rfl, rfl⟩ (by kernel_rfl)
 obtain ⟨a0, r0⟩ := qrc (m + 1) m _ _ (by omega) h0
 obtain ⟨a1, r1⟩ := qv Tryz.underlying3 (m + 1) m _ _ (by omega) h1
 exact ⟨⟨a0, a1⟩, rd_st (qs (k := 4) r0 (qs (k := 1) r1 (qgk (by omega))))⟩
end
section
variable {H : Type} {enc : TypeId × Value -> H} {w : World} {sp : Nat -> Bool} {hd : Bool}
theorem qbk1 (N : Nat) : Trods enc Tryz.prog w sp hd 29 Node.d N := by
 intro n cs x hn h
 obtain ⟨xs, m, rfl, -, hlen, hl2, hf⟩ := DataW.trod_struct Tryz.underlying29 h
 have hc : Tryz.prog.cellsOf 29 = 16 := by kernel_rfl
 rw [hc] at hlen
 obtain ⟨y0, h0⟩ := ql 0 3 0 1 hl2 hf ⟨_, rfl, rfl, rfl⟩ (by kernel_rfl)
 obtain ⟨y1, h1⟩ := ql 1 23 1 1 hl2 hf ⟨_, rfl, rfl, rfl⟩ (by kernel_rfl)
 obtain ⟨y2, h2⟩ := ql 2 9 2 1 hl2 hf ⟨_, rfl, rfl, rfl⟩ (by kernel_rfl)
 obtain ⟨y3, h3⟩ := ql 3 3 3 1 hl2 hf ⟨_, rfl, rfl, rfl⟩ (by kernel_rfl)
 obtain ⟨y4, h4⟩ := ql 4 24 4 1 hl2 hf ⟨_, rfl, rfl, rfl⟩ (by kernel_rfl)
 obtain ⟨y5, h5⟩ := ql 5 3 5 1 hl2 hf ⟨_, rfl, rfl, rfl⟩ (by kernel_rfl)
 obtain ⟨y6, h6⟩ := ql 6 3 6 1 hl2 hf ⟨_, rfl, rfl, rfl⟩ (by kernel_rfl)
 obtain ⟨y7, h7⟩ := ql 7 3 7 1 hl2 hf ⟨_, rfl, rfl, rfl⟩ (by kernel_rfl)
 obtain ⟨y8, h8⟩ := ql 8 23 8 1 hl2 hf ⟨_, rfl, rfl, rfl⟩ (by kernel_rfl)
 obtain ⟨y9, h9⟩ := ql 9 23 9 1 hl2 hf ⟨_, rfl, rfl, rfl⟩ (by kernel_rfl)
 obtain ⟨y10, h10⟩ := ql 10 3 10 1 hl2 hf ⟨_, rfl, rfl, rfl⟩ (by kernel_rfl)
 obtain ⟨y11, h11⟩ := ql 11 3 11 1 hl2 hf ⟨_, rfl, rfl, rfl⟩ (by kernel_rfl)
 obtain ⟨y12, h12⟩ := ql 12 3 12 1 hl2 hf ⟨_, rfl, rfl, rfl⟩ (by kernel_rfl)
 obtain ⟨y13, h13⟩ := ql 13 25 13 1 hl2 hf ⟨_, rfl, rfl, rfl⟩ (by kernel_rfl)
 obtain ⟨y14, h14⟩ := ql 14 26 14 1 hl2 hf ⟨_, rfl, rfl, rfl⟩ (by kernel_rfl)
 obtain ⟨y15, h15⟩ := ql 15 27 15 1 hl2 hf ⟨_, rfl, rfl, rfl⟩ (by kernel_rfl)
 obtain ⟨a0, r0⟩ := qv Tryz.underlying3 (m + 1) m _ _ (by omega) h0
 obtain ⟨a1, r1⟩ := qcr Tryz.underlying23 (sz := 1) (by kernel_rfl) (by omega) (fun _ => rfl) (qv Tryz.underlying3 (m + 1)) m _ _ (by omega) h1
 obtain ⟨a2, r2⟩ := qeo Tryz.underlying9 (m + 1) m _ _ (by omega) h2
 obtain ⟨a3, r3⟩ := qv Tryz.underlying3 (m + 1) m _ _ (by omega) h3
 obtain ⟨a4, r4⟩ := qcr Tryz.underlying24 (sz := 4) (by kernel_rfl) (by omega) Ex.width (qrc (m + 1)) m _ _ (by omega) h4
 obtain ⟨a5, r5⟩ := qv Tryz.underlying3 (m + 1) m _ _ (by omega) h5
 obtain ⟨a6, r6⟩ := qv Tryz.underlying3 (m + 1) m _ _ (by omega) h6
 obtain ⟨a7, r7⟩ := qv Tryz.underlying3 (m + 1) m _ _ (by omega) h7
 obtain ⟨a8, r8⟩ := qcr Tryz.underlying23 (sz := 1) (by kernel_rfl) (by omega) (fun _ => rfl) (qv Tryz.underlying3 (m + 1)) m _ _ (by omega) h8
 obtain ⟨a9, r9⟩ := qcr Tryz.underlying23 (sz := 1) (by kernel_rfl) (by omega) (fun _ => rfl) (qv Tryz.underlying3 (m + 1)) m _ _ (by omega) h9
 obtain ⟨a10, r10⟩ := qv Tryz.underlying3 (m + 1) m _ _ (by omega) h10
 obtain ⟨a11, r11⟩ := qv Tryz.underlying3 (m + 1) m _ _ (by omega) h11
 obtain ⟨a12, r12⟩ := qv Tryz.underlying3 (m + 1) m _ _ (by omega) h12
 obtain ⟨a13, r13⟩ := qcr Tryz.underlying25 (sz := 3) (by kernel_rfl) (by omega) Agg.width (qgs1 (m + 1)) m _ _ (by omega) h13
 obtain ⟨a14, r14⟩ := qcr Tryz.underlying26 (sz := 5) (by kernel_rfl) (by omega) Pat.width (qgv1 (m + 1)) m _ _ (by omega) h14
 obtain ⟨a15, r15⟩ := qcr Tryz.underlying27 (sz := 3) (by kernel_rfl) (by omega) Col.width (qgt1 (m + 1)) m _ _ (by omega) h15
 exact ⟨⟨a0, a1, a2, a3, a4, a5, a6, a7, a8, a9, a10, a11, a12, a13, a14, a15⟩, rd_st (qs (k := 1) r0 (qs (k := 1) r1 (qs (k := 1) r2 (qs (k := 1) r3 (qs (k := 1) r4 (qs (k := 1) r5 (qs (k := 1) r6 (qs (k := 1) r7 (qs (k := 1) r8 (qs (k := 1) r9 (qs (k := 1) r10 (qs (k := 1) r11 (qs (k := 1) r12 (qs (k := 1) r13 (qs (k := 1) r14 (qs (k := 1) r15 (qgk (by omega))))))))))))))))))⟩
end
end Go.Proofs.YtkedbjjfmejbhaaGreatDoor
namespace Go.Proofs.YtkedbjjfmejbhaaGreatDoor
open Go.ChangeShapes Go.WideShapes Go.RowKit Go.Lib
section
variable {H : Type} {enc : TypeId × Value -> H} {w : World} {sp : Nat -> Bool} {hd : Bool}
theorem qjw1 (p : Pat) (n : Nat) (cs : List Value) (x : DataW H × List MemPlace) (hr : Rd w Any p.d cs) (h : DataW.trod enc Tryz.prog w 0 sp hd n 70 cs = some x) : n64 p.pred /\ 5 * parts p.pred <= Rows.uptoBulk x.1 := by
 have hb : Rd w Any p.pred.d ((cs.drop 0).take 4) := by
  obtain ⟨A1, cap1, b1, off1, rfl, g1, g2, g3, g4⟩ := Pat.open hr
  exact Ex.mk_rd g1 g2 g3 g4
 obtain ⟨xs, m, rfl, rfl, hlen, hx2, hf⟩ := DataW.trod_struct Tryz.underlying70 h
 have hce : Tryz.prog.cellsOf 44 = 4 := by kernel_rfl
 have hx2' : xs.length = 2 := hx2
 match xs, hx2' with
 | [y0, y1], _ =>
  have h1 : DataW.trod enc Tryz.prog w 0 sp hd m 44 ((cs.drop 0).take 4) = some y0 := qcn 0 44 0 4 hf ⟨_, rfl, rfl, rfl⟩ hce
  obtain ⟨g1, g2⟩ := qvp p.pred m _ y0 hb h1
  refine ⟨g1, ?_⟩
  simp only [List.map_cons, List.map_nil, Rows.uptoBulk, Rows.uptoBulkAll]
  omega
theorem qeq1 (x : Node) (n : Nat) (cs : List Value) (z : DataW H × List MemPlace) (hr : Rd w Any x.d cs) (h : DataW.trod enc Tryz.prog w 0 sp hd n 29 cs = some z) :
  (∀ e ∈ x.exprs, n64 e) /\ (x.exprs.map fun e => 5 * parts e).sum <= Rows.uptoBulk z.1 /\ x.exprs.length <= Rows.uptoBulk z.1 /\ (x.seq.map fun p => 5 * parts p.pred).sum <= Rows.uptoBulk z.1 /\ x.seq.length <= Rows.uptoBulk z.1 := by
 obtain ⟨A1, cap1, b1, off1, A2, cap2, b2, off2, A3, cap3, b3, off3, A4, cap4, b4, off4, A5, cap5, b5, off5, A6, cap6, b6, off6, A7, cap7, b7, off7, rfl, -, -, -, -, p2, q2, r2, s2, -, -, -, -, -, -, -, -, -, -, -, -, p6, q6, r6, s6, -, -, -, -⟩ := Node.open hr
 have hs2 : Rd w Any (.sl (x.exprs.map Ex.d)) [.slice A2 x.exprs.length cap2] := by
  rw [Rd]; exact ⟨A2, cap2, b2, off2, by rw [List.length_map], by rw [List.length_map]; exact p2, q2, by rw [List.length_map]; exact r2, s2⟩
 have hs6 : Rd w Any (.sl (x.seq.map Pat.d)) [.slice A6 x.seq.length cap6] := by
  rw [Rd]; exact ⟨A6, cap6, b6, off6, by rw [List.length_map], by rw [List.length_map]; exact p6, q6, by rw [List.length_map]; exact r6, s6⟩
 obtain ⟨xs, m, rfl, rfl, hlen, hx3, hf⟩ := DataW.trod_struct Tryz.underlying29 h
 have hcl : Tryz.prog.cellsOf 24 = 1 := by kernel_rfl
 have hcp : Tryz.prog.cellsOf 26 = 1 := by kernel_rfl
 have hc : Tryz.prog.cellsOf 44 = 4 := by kernel_rfl
 have hc2 : Tryz.prog.cellsOf 70 = 5 := by kernel_rfl
 have hx3' : xs.length = 16 := hx3
 match xs, hx3' with
 | [y0, y1, y2, y3, y4, y5, y6, y7, y8, y9, y10, y11, y12, y13, y14, y15], _ =>
  have h1 : DataW.trod enc Tryz.prog w 0 sp hd m 24 [.slice A2 x.exprs.length cap2] = some y4 := qcn 4 24 4 1 hf ⟨_, rfl, rfl, rfl⟩ hcl
  have h2 : DataW.trod enc Tryz.prog w 0 sp hd m 26 [.slice A6 x.seq.length cap6] = some y14 := qcn 14 26 14 1 hf ⟨_, rfl, rfl, rfl⟩ hcp
  obtain ⟨g1, g2, g3⟩ := qjs (Q := n64) (g := fun e => 5 * parts e) Tryz.underlying24 hc (by omega) Ex.width hs2 h1 fun a ha n c y hr hy => qvp a n c y hr hy
  obtain ⟨-, k2, k3⟩ := qjs (Q := fun p : Pat => n64 p.pred) (g := fun p : Pat => 5 * parts p.pred) Tryz.underlying26 hc2 (by omega) Pat.width hs6 h2 fun a ha n c y hr hy => qjw1 a n c y hr hy
  refine ⟨g1, ?_⟩
  simp only [List.map_cons, List.map_nil, Rows.uptoBulk, Rows.uptoBulkAll]
  omega
end
theorem quf : ∀ l : List Ex, 5 * l.length <= (l.map fun e => 5 * parts e).sum
 | [] => by simp
 | e :: l => by
  have h1 := quf l
  have h2 := qcl e
  rw [List.map_cons, List.sum_cons, List.length_cons]; omega
theorem qpc : ∀ l : List Pat, 5 * l.length <= (l.map fun p => 5 * parts p.pred).sum
 | [] => by simp
 | p :: l => by
  have h1 := qpc l
  have h2 := qcl p.pred
  rw [List.map_cons, List.sum_cons, List.length_cons]; omega
end Go.Proofs.YtkedbjjfmejbhaaGreatDoor
namespace Go.Proofs.YtkedbjjfmejbhaaGreatDoor
open Go.ChangeShapes Go.WideShapes Go.ChangeAt Go.RowKit Go.Lib
def qlk1 : List ByteArray := qu.map fun v => match v with | .string s => s | _ => ByteArray.empty
theorem globN {W : World} {laid : List (String × DataW Unit)} (hl : laidMet Tryz.prog laid W) (h3 : ("internal/strconv.uint64pow10", Rows.laid_internal_strconv_uint64pow10) ∈ laid) (h4 : ("errata/code.names", Rows.laid_errata_code_names) ∈ laid) : qgd (GlobS (St.flat W)) := by
 obtain ⟨g3, t3, c3, f3, p3, a3, b3, d3, e3⟩ := laidMet.reads hl h3
 obtain ⟨g4, t4, c4, f4, p4, a4, b4, d4, e4⟩ := laidMet.reads hl h4
 obtain rfl : g3 = 2 := Option.some.inj (a3.symm.trans (by kernel_rfl))
 obtain rfl : g4 = 0 := Option.some.inj (a4.symm.trans (by kernel_rfl))
 obtain rfl : t3 = 266 := Option.some.inj (b3.symm.trans (by kernel_rfl))
 obtain rfl : t4 = 226 := Option.some.inj (b4.symm.trans (by kernel_rfl))
 have y3 := cells_of_tab (zs := Lib.pow10Tab) (k := .u64) (n := 20) (e := 243) Tryz.underlying266 Tryz.underlying243 (by kernel_rfl) (by kernel_rfl) e3
 have e5 : (Rows.laid_errata_code_names : DataW Unit) = tabS qlk1 := by kernel_rfl
 rw [e5] at e4
 have y4 := qps (n := 23) (e := 9) Tryz.underlying226 Tryz.underlying9 (by kernel_rfl) (by kernel_rfl) e4
 have e6 : (qlk1.map fun z => Value.string z) = qu := by kernel_rfl
 rw [e6] at y4
 refine ⟨⟨(), qoe ?_ (by simp [Lib.pow10Tab])⟩, ⟨(), qoe ?_ (by simp [qu])⟩, trivial⟩
 .obtain ⟨t, fz, hb⟩ := qun a3 d3
  exact ⟨t, fz, by rw [hb, <- y3]⟩
 .obtain ⟨t, fz, hb⟩ := qun a4 d4
  exact ⟨t, fz, by rw [hb, <- y4]⟩
end Go.Proofs.YtkedbjjfmejbhaaGreatDoor
