/- Walks: names and types. -/
import Derived.Test.YtbkkjlcclddpdaaGreatDoorGd10
set_option linter.unusedSimpArgs false
set_option linter.unusedVariables false
namespace Go.Proofs.YtbkkjlcclddpdaaGreatDoor
open Go.RowKit Go.Lib
theorem qen : Gives Tryz.prog 123 [] (.sl (qfx.map fun l => .str (qk l))) := by
  refine qh Tryz.func123 Tryz.ntmps123 fun σ n0 hcl hft => ?_
  repeat' (first | ((first | ((with_reducible refine qf (fun hg => ?_) (fun hg => ?_)) <;> (try simp only [hg]) <;> (try simp only [gS] at hg) <;> (try (first | simp only [eq_false hg, gI] | simp only [eq_true hg, gI]))) | refine Stp.m ?_) <;> (try simp (disch := first | omega | simp) [qd, -qg, -ql])) | refine sideA ?_ | refine qc fun K hK => ?_ | refine qa ?_ | refine qe ?_ | refine qb ?_ | (refine hK _ ?_; clear hK K) | clear hK K)
  all_goals rfl
theorem idxS_g (L : List ByteArray) (s : ByteArray) (hL : L.length ≤ 1000000) : Gives Tryz.prog 79 [.sl (L.map AV.str), .str s] (.int (idxP (fun x => s.toList == x.toList) L)) := by
  refine qh Tryz.func79 Tryz.ntmps79 fun σ n0 hcl hft => ?_
  repeat' (first | ((first | ((with_reducible refine qf (fun hg => ?_) (fun hg => ?_)) <;> (try simp only [hg]) <;> (try simp only [gS] at hg) <;> (try (first | simp only [eq_false hg, gI] | simp only [eq_true hg, gI]))) | refine Stp.m ?_) <;> (try simp (disch := first | omega | simp) [qd, -qg, -ql])) | refine sideA ?_ | refine qc fun K hK => ?_ | refine qa ?_ | refine qe ?_ | refine qb ?_ | (refine hK _ ?_; clear hK K) | clear hK K)
  refine qt hcl (fun k : Nat => [(0, .sl (L.map AV.str)), (1, .str s), (7, .int L.length), (8, .int k)]) (fun _ => [])
    (fun k => k ≤ L.length ∧ ∀ j (h : j < L.length), j < k → ¬ s.toList = L[j].toList) (fun k => L.length - k) 0 (by simp) (by simp) fun k ⟨hk, he⟩ => ?_
  by_cases hlt : k < L.length
  · repeat' (first | ((first | ((with_reducible refine qf (fun hg => ?_) (fun hg => ?_)) <;> (try simp only [hg]) <;> (try simp only [gS] at hg) <;> (try (first | simp only [eq_false hg, gI] | simp only [eq_true hg, gI]))) | refine Stp.m ?_) <;> (try simp (disch := first | omega | simp) [qd, -qg, -ql, hlt])) | refine sideA ?_ | refine qc fun K hK => ?_ | refine qa ?_ | refine qe ?_ | refine qb ?_ | (refine hK _ ?_; clear hK K) | clear hK K)
    · rename_i hg
      exact (idxP_hit (p := fun x : ByteArray => s.toList == x.toList) hlt (by simp [hg]) fun j h1 h2 => by simpa using he j h1 h2).symm
    · rename_i hg
      exact ⟨k + 1, ⟨by omega, qfc (C := fun x : ByteArray => ¬ s.toList = x.toList) he fun _ => hg⟩, by omega, by simp⟩
  · repeat' (first | ((first | ((with_reducible refine qf (fun hg => ?_) (fun hg => ?_)) <;> (try simp only [hg]) <;> (try simp only [gS] at hg) <;> (try (first | simp only [eq_false hg, gI] | simp only [eq_true hg, gI]))) | refine Stp.m ?_) <;> (try simp (disch := first | omega | simp) [qd, -qg, -ql, hlt])) | refine sideA ?_ | refine qc fun K hK => ?_ | refine qa ?_ | refine qe ?_ | refine qb ?_ | (refine hK _ ?_; clear hK K) | clear hK K)
    exact (idxP_miss (p := fun x : ByteArray => s.toList == x.toList) fun j h1 => by simpa using upto_all (C := fun x : ByteArray => ¬ s.toList = x.toList) he hlt j h1).symm
theorem qeg (k : Int) : Gives Tryz.prog 74 [.int k] (.str (qk (qch k))) := by
  by_cases hk : 0 ≤ k ∧ k < 3
  · obtain rfl | rfl | rfl : k = 0 ∨ k = 1 ∨ k = 2 := by omega
    · refine qh Tryz.func74 Tryz.ntmps74 fun σ n0 hcl hft => ?_
      repeat' (first | ((first | ((with_reducible refine qf (fun hg => ?_) (fun hg => ?_)) <;> (try simp only [hg]) <;> (try simp only [gS] at hg) <;> (try (first | simp only [eq_false hg, gI] | simp only [eq_true hg, gI]))) | refine Stp.m ?_ | refine acall (qen) ?_ | refine qo (qen) ?_) <;> (try simp (disch := first | omega | simp) [qd, -qg, -ql, qfx])) | refine sideA ?_ | refine qc fun K hK => ?_ | refine qa ?_ | refine qe ?_ | refine qb ?_ | (refine hK _ ?_; clear hK K) | clear hK K)
      rfl
    · refine qh Tryz.func74 Tryz.ntmps74 fun σ n0 hcl hft => ?_
      repeat' (first | ((first | ((with_reducible refine qf (fun hg => ?_) (fun hg => ?_)) <;> (try simp only [hg]) <;> (try simp only [gS] at hg) <;> (try (first | simp only [eq_false hg, gI] | simp only [eq_true hg, gI]))) | refine Stp.m ?_ | refine acall (qen) ?_ | refine qo (qen) ?_) <;> (try simp (disch := first | omega | simp) [qd, -qg, -ql, qfx])) | refine sideA ?_ | refine qc fun K hK => ?_ | refine qa ?_ | refine qe ?_ | refine qb ?_ | (refine hK _ ?_; clear hK K) | clear hK K)
      rfl
    · refine qh Tryz.func74 Tryz.ntmps74 fun σ n0 hcl hft => ?_
      repeat' (first | ((first | ((with_reducible refine qf (fun hg => ?_) (fun hg => ?_)) <;> (try simp only [hg]) <;> (try simp only [gS] at hg) <;> (try (first | simp only [eq_false hg, gI] | simp only [eq_true hg, gI]))) | refine Stp.m ?_ | refine acall (qen) ?_ | refine qo (qen) ?_) <;> (try simp (disch := first | omega | simp) [qd, -qg, -ql, qfx])) | refine sideA ?_ | refine qc fun K hK => ?_ | refine qa ?_ | refine qe ?_ | refine qb ?_ | (refine hK _ ?_; clear hK K) | clear hK K)
      rfl
  · have hz : qch k = [] := if_neg hk
    rw [hz]
    refine qh Tryz.func74 Tryz.ntmps74 fun σ n0 hcl hft => ?_
    repeat' (first | ((first | ((with_reducible refine qf (fun hg => ?_) (fun hg => ?_)) <;> (try simp only [hg]) <;> (try simp only [gS] at hg) <;> (try (first | simp only [eq_false hg, gI] | simp only [eq_true hg, gI]))) | refine Stp.m ?_ | refine acall (qen) ?_ | refine qo (qen) ?_) <;> (try simp (disch := first | omega | simp) [qd, -qg, -ql])) | refine sideA ?_ | refine qc fun K hK => ?_ | refine qa ?_ | refine qe ?_ | refine qb ?_ | (refine hK _ ?_; clear hK K) | clear hK K)
    · rfl
    · rfl
    · omega
theorem qee (k : Int) : Gives Tryz.prog 86 [.int k] (.str (qk (qch k))) := by
  refine qh Tryz.func86 Tryz.ntmps86 fun σ n0 hcl hft => ?_
  repeat' (first | ((first | ((with_reducible refine qf (fun hg => ?_) (fun hg => ?_)) <;> (try simp only [hg]) <;> (try simp only [gS] at hg) <;> (try (first | simp only [eq_false hg, gI] | simp only [eq_true hg, gI]))) | refine Stp.m ?_) <;> (try simp (disch := first | omega | simp) [qd, -qg, -ql])) | refine sideA ?_ | refine qc fun K hK => ?_ | refine qa ?_ | refine qe ?_ | refine qb ?_ | (refine hK _ ?_; clear hK K) | clear hK K)
  all_goals (first | (subst_vars; rfl) | (unfold qch; rw [if_neg (by omega)]; rfl))
theorem typeOf_idx (s : ByteArray) : idxP (fun x => s.toList == x.toList) (qfx.map qk) = if (qcj s.toList).2 then (qcj s.toList).1 else -1 := by
  simp only [qfx, List.map_cons, List.map_nil, qej, idxP, qgf, qcj, beq_iff_eq]
  by_cases h1 : s.toList = [105, 110, 116]
  · simp [h1]
  · by_cases h2 : s.toList = [116, 101, 120, 116]
    · simp [h2]
    · by_cases h3 : s.toList = [98, 111, 111, 108] <;> simp [h1, h2, h3]
theorem typeOfP_nn (s : List UInt8) : 0 ≤ (qcj s).1 ∧ (qcj s).1 < 3 ∧ ((qcj s).2 = false → (qcj s).1 = 0) := by
  unfold qcj
  by_cases h1 : s = [105, 110, 116]
  · simp [h1]
  · by_cases h2 : s = [116, 101, 120, 116]
    · simp [h2]
    · by_cases h3 : s = [98, 111, 111, 108] <;> simp [h1, h2, h3]
theorem qdi (s : ByteArray) : Gives Tryz.prog 67 [.str s] (.tup [.int (qcj s.toList).1, .bool (qcj s.toList).2]) := by
  have hi := idxS_g (qfx.map qk) s (by decide)
  rw [typeOf_idx, List.map_map] at hi
  have hn := typeOfP_nn s.toList
  generalize qcj s.toList = z at *
  obtain ⟨n, b⟩ := z
  cases b with
  | true =>
    simp only [if_true] at hi
    have h1 : ¬ n < 0 := by have := hn.1; simp at this; omega
    have h2 : 0 ≤ n := by omega
    refine qh Tryz.func67 Tryz.ntmps67 fun σ n0 hcl hft => ?_
    repeat' (first | ((first | ((with_reducible refine qf (fun hg => ?_) (fun hg => ?_)) <;> (try simp only [hg]) <;> (try simp only [gS] at hg) <;> (try (first | simp only [eq_false hg, gI] | simp only [eq_true hg, gI]))) | refine Stp.m ?_ | refine acall (qen) ?_ | refine qo (qen) ?_ | refine qi ?_ | refine agH ?_) <;> (try simp (disch := first | omega | simp) [qd, -qg, -ql, h1, h2])) | refine sideA ?_ | refine qc fun K hK => ?_ | refine qa ?_ | refine qe ?_ | refine qb ?_ | (refine hK _ ?_; clear hK K) | clear hK K)
  | false =>
    have h0 : n = 0 := hn.2.2 rfl
    subst h0
    simp only [Bool.false_eq_true, if_false] at hi
    refine qh Tryz.func67 Tryz.ntmps67 fun σ n0 hcl hft => ?_
    repeat' (first | ((first | ((with_reducible refine qf (fun hg => ?_) (fun hg => ?_)) <;> (try simp only [hg]) <;> (try simp only [gS] at hg) <;> (try (first | simp only [eq_false hg, gI] | simp only [eq_true hg, gI]))) | refine Stp.m ?_ | refine acall (qen) ?_ | refine qo (qen) ?_ | refine qi ?_ | refine agH ?_) <;> (try simp (disch := first | omega | simp) [qd, -qg, -ql])) | refine sideA ?_ | refine qc fun K hK => ?_ | refine qa ?_ | refine qe ?_ | refine qb ?_ | (refine hK _ ?_; clear hK K) | clear hK K)
theorem rtypeOf_g (s : ByteArray) : Gives Tryz.prog 92 [.str s] (.tup [.int (qcj s.toList).1, .bool (qcj s.toList).2]) := by
  refine qh Tryz.func92 Tryz.ntmps92 fun σ n0 hcl hft => ?_
  repeat' (first | ((first | ((with_reducible refine qf (fun hg => ?_) (fun hg => ?_)) <;> (try simp only [hg]) <;> (try simp only [gS] at hg) <;> (try (first | simp only [eq_false hg, gI] | simp only [eq_true hg, gI]))) | refine Stp.m ?_) <;> (try simp (disch := first | omega | simp) [qd, -qg, -ql])) | refine sideA ?_ | refine qc fun K hK => ?_ | refine qa ?_ | refine qe ?_ | refine qb ?_ | (refine hK _ ?_; clear hK K) | clear hK K)
  refine qt hcl (fun k : Nat => [(0, .str s), (4, .int k)]) (fun _ => [])
    (fun k => k ≤ 3 ∧ ∀ j, j < k → ¬ s.toList = qfx.getD j []) (fun k => 3 - k) 0 (by simp) (by simp) fun k ⟨hk, he⟩ => ?_
  by_cases hlt : k < 3
  · obtain rfl | rfl | rfl : k = 0 ∨ k = 1 ∨ k = 2 := by omega
    · repeat' (first | ((first | ((with_reducible refine qf (fun hg => ?_) (fun hg => ?_)) <;> (try simp only [hg]) <;> (try simp only [gS] at hg) <;> (try (first | simp only [eq_false hg, gI] | simp only [eq_true hg, gI]))) | refine Stp.m ?_ | refine acall (qee _) ?_ | refine qo (qee _) ?_) <;> (try simp (disch := first | omega | simp) [qd, -qg, -ql, qfx])) | refine sideA ?_ | refine qc fun K hK => ?_ | refine qa ?_ | refine qe ?_ | refine qb ?_ | (refine hK _ ?_; clear hK K) | clear hK K)
      · rename_i hg
        have : s.toList = [105, 110, 116] := by rw [← hg]; rfl
        simp [this, qcj]
      · rename_i hg
        refine ⟨1, ⟨by omega, fun j hj => ?_⟩, by omega, by simp⟩
        obtain rfl : j = 0 := by omega
        exact fun h => hg (h.symm ▸ rfl)
    · repeat' (first | ((first | ((with_reducible refine qf (fun hg => ?_) (fun hg => ?_)) <;> (try simp only [hg]) <;> (try simp only [gS] at hg) <;> (try (first | simp only [eq_false hg, gI] | simp only [eq_true hg, gI]))) | refine Stp.m ?_ | refine acall (qee _) ?_ | refine qo (qee _) ?_) <;> (try simp (disch := first | omega | simp) [qd, -qg, -ql, qfx])) | refine sideA ?_ | refine qc fun K hK => ?_ | refine qa ?_ | refine qe ?_ | refine qb ?_ | (refine hK _ ?_; clear hK K) | clear hK K)
      · rename_i hg
        have : s.toList = [116, 101, 120, 116] := by rw [← hg]; rfl
        simp [this, qcj]
      · rename_i hg
        refine ⟨2, ⟨by omega, fun j hj => ?_⟩, by omega, by simp⟩
        obtain rfl | rfl : j = 0 ∨ j = 1 := by omega
        · exact he 0 (by omega)
        · exact fun h => hg (h.symm ▸ rfl)
    · repeat' (first | ((first | ((with_reducible refine qf (fun hg => ?_) (fun hg => ?_)) <;> (try simp only [hg]) <;> (try simp only [gS] at hg) <;> (try (first | simp only [eq_false hg, gI] | simp only [eq_true hg, gI]))) | refine Stp.m ?_ | refine acall (qee _) ?_ | refine qo (qee _) ?_) <;> (try simp (disch := first | omega | simp) [qd, -qg, -ql, qfx])) | refine sideA ?_ | refine qc fun K hK => ?_ | refine qa ?_ | refine qe ?_ | refine qb ?_ | (refine hK _ ?_; clear hK K) | clear hK K)
      · rename_i hg
        have : s.toList = [98, 111, 111, 108] := by rw [← hg]; rfl
        simp [this, qcj]
      · rename_i hg
        refine ⟨3, ⟨by omega, fun j hj => ?_⟩, by omega, by simp⟩
        obtain rfl | rfl | rfl : j = 0 ∨ j = 1 ∨ j = 2 := by omega
        · exact he 0 (by omega)
        · exact he 1 (by omega)
        · exact fun h => hg (h.symm ▸ rfl)
  · obtain rfl : k = 3 := by omega
    have h0 := he 0 (by omega); have h1 := he 1 (by omega); have h2 := he 2 (by omega)
    simp only [qfx, List.getD_cons_zero, List.getD_cons_succ] at h0 h1 h2
    repeat' (first | ((first | ((with_reducible refine qf (fun hg => ?_) (fun hg => ?_)) <;> (try simp only [hg]) <;> (try simp only [gS] at hg) <;> (try (first | simp only [eq_false hg, gI] | simp only [eq_true hg, gI]))) | refine Stp.m ?_) <;> (try simp (disch := first | omega | simp) [qd, -qg, -ql])) | refine sideA ?_ | refine qc fun K hK => ?_ | refine qa ?_ | refine qe ?_ | refine qb ?_ | (refine hK _ ?_; clear hK K) | clear hK K)
    simp [qcj, h0, h1, h2]
end Go.Proofs.YtbkkjlcclddpdaaGreatDoor

/- Walks: whether a string is a name. -/
namespace Go.Proofs.YtbkkjlcclddpdaaGreatDoor
open Go.RowKit Go.Lib
theorem list_size (s : ByteArray) : s.toList.length = s.size := by rw [ByteArray.toList_eq, ← Lib.size_eq]
theorem list_head (s : ByteArray) : s.data[0]?.getD 0 = s.toList.getD 0 0 := by rw [ByteArray.toList_eq]; simp
theorem nameP_long {s : List UInt8} (h : 20 < s.length) : nameP s = false := by
  unfold nameP; rw [decide_eq_false (p := s.length ≤ 20) (by omega)]; simp
theorem nameP_digit {s : List UInt8} (h1 : 48 ≤ (s.getD 0 0).toNat) (h2 : (s.getD 0 0).toNat ≤ 57) : nameP s = false := by
  have : digitB (s.getD 0 0) = true := by unfold digitB; rw [decide_eq_true h1, decide_eq_true h2]; rfl
  unfold nameP; rw [this]; simp
theorem nameP_bad {s : List UInt8} {k : Nat} (h : k < s.length) (h1 : nameB s[k] = false) : nameP s = false := by
  unfold nameP; rw [all_hit h h1]; simp
theorem nameP_good {s : List UInt8} (h0 : s ≠ []) (h1 : s.length ≤ 20) (h2 : ¬ (48 ≤ (s.getD 0 0).toNat ∧ (s.getD 0 0).toNat ≤ 57)) (h3 : ∀ j (h : j < s.length), nameB s[j] = true) : nameP s = true := by
  have : digitB (s.getD 0 0) = false := by
    unfold digitB
    rw [Bool.and_eq_false_iff]
    by_cases h : 48 ≤ (s.getD 0 0).toNat
    · right; exact decide_eq_false fun h' => h2 ⟨h, h'⟩
    · left; exact decide_eq_false h
  unfold nameP; rw [this, all_end h3, decide_eq_true h1, decide_eq_false h0]; rfl
theorem list_get (s : ByteArray) {k : Nat} (h : k < s.toList.length) (h2 : k < s.data.size) : s.toList[k] = s.data[k] := by
  simp only [ByteArray.toList_eq]; simp
theorem name_or : ∀ n : _root_.Fin 256, nameB (UInt8.ofNat n.val) = !(decide (¬ ((n.val : Nat) : Int) = 95) && (decide (((n.val : Nat) : Int) < 48) || decide (57 < ((n.val : Nat) : Int))) &&
    (decide (IntKind.u8.wrap ((n.val % 2 ^ IntKind.u8.bits ||| 32 % 2 ^ IntKind.u8.bits : Nat) : Int) < 97) || decide (122 < IntKind.u8.wrap ((n.val % 2 ^ IntKind.u8.bits ||| 32 % 2 ^ IntKind.u8.bits : Nat) : Int)))) := by decide +kernel
theorem name_byte (c : UInt8) : nameB c = !(decide (¬ (c.toNat : Int) = 95) && (decide ((c.toNat : Int) < 48) || decide (57 < (c.toNat : Int))) &&
    (decide (IntKind.u8.wrap ((c.toNat % 2 ^ IntKind.u8.bits ||| 32 % 2 ^ IntKind.u8.bits : Nat) : Int) < 97) || decide (122 < IntKind.u8.wrap ((c.toNat % 2 ^ IntKind.u8.bits ||| 32 % 2 ^ IntKind.u8.bits : Nat) : Int)))) := by
  have := name_or ⟨c.toNat, c.toNat_lt⟩
  simpa using this
set_option maxHeartbeats 1000000 in
theorem name_g (s : ByteArray) (hs : s.size ≤ 1000000) : Gives Tryz.prog 68 [.str s] (.bool (nameP s.toList)) := by
  by_cases h0 : s.toList = []
  · refine qh Tryz.func68 Tryz.ntmps68 fun σ n0 hcl hft => ?_
    repeat' (first | ((first | ((with_reducible refine qf (fun hg => ?_) (fun hg => ?_)) <;> (try simp only [hg]) <;> (try simp only [gS] at hg) <;> (try (first | simp only [eq_false hg, gI] | simp only [eq_true hg, gI]))) | refine Stp.m ?_) <;> (try simp (disch := first | omega | simp) [qd, -qg, -ql, h0])) | refine sideA ?_ | refine qc fun K hK => ?_ | refine qa ?_ | refine qe ?_ | refine qb ?_ | (refine hK _ ?_; clear hK K) | clear hK K)
    all_goals (first | (rw [h0]; rfl) | rfl | simp_all)
  · have hp : 0 < s.size := by
      refine Nat.pos_of_ne_zero fun h => h0 ?_
      exact List.eq_nil_of_length_eq_zero (by rw [list_size]; exact h)
    have he : s.toList.isEmpty = false := by simpa using h0
    have hl := list_size s
    have hh := list_head s
    have hle : s.size ≤ 9223372036854775806 := by omega
    refine qh Tryz.func68 Tryz.ntmps68 fun σ n0 hcl hft => ?_
    repeat' (first | ((first | ((with_reducible refine qf (fun hg => ?_) (fun hg => ?_)) <;> (try simp only [hg]) <;> (try simp only [gS] at hg) <;> (try (first | simp only [eq_false hg, gI] | simp only [eq_true hg, gI]))) | refine Stp.m ?_) <;> (try simp (disch := first | omega | simp) [qd, -qg, -ql, he, hle])) | refine sideA ?_ | refine qc fun K hK => ?_ | refine qa ?_ | refine qe ?_ | refine qb ?_ | (refine hK _ ?_; clear hK K) | clear hK K)
    · exact nameP_long (by omega)
    · exact nameP_digit (by rw [← hh]; omega) (by rw [← hh]; omega)
    all_goals
      refine qt hcl (fun k : Nat => [(23, .sl (s.data.toList.map AV.byte)), (24, .int s.data.size), (25, .int k)]) (fun _ => [])
        (fun k => k ≤ s.toList.length ∧ ∀ j (h : j < s.toList.length), j < k → nameB s.toList[j] = true) (fun k => s.toList.length - k) 0 (by simp) (by simp) fun k ⟨hk, hb⟩ => ?_
      by_cases hlt : k < s.size
      · have hlt2 : k < s.toList.length := by omega
        have hlt3 : k < s.data.size := hlt
        have hlg := list_get s hlt2 hlt3
        have hn := name_byte s.data[k]
        repeat' (first | ((first | ((with_reducible refine qf (fun hg => ?_) (fun hg => ?_)) <;> (try simp only [hg]) <;> (try simp only [gS] at hg) <;> (try (first | simp only [eq_false hg, gI] | simp only [eq_true hg, gI]))) | refine Stp.m ?_) <;> (try simp (disch := first | omega | simp) [qd, -qg, -ql, hlt, hlt3])) | refine sideA ?_ | refine qc fun K hK => ?_ | refine qa ?_ | refine qe ?_ | refine qb ?_ | (refine hK _ ?_; clear hK K) | clear hK K)
        all_goals
          first
          | exact nameP_bad hlt2 (by rw [hlg, hn]; simp only [*]; simp)
          | exact ⟨k + 1, ⟨by omega, qfc (C := fun c => nameB c = true) hb fun _ => by rw [hlg, hn]; simp only [*]; simp⟩, by omega, by simp⟩
      · repeat' (first | ((first | ((with_reducible refine qf (fun hg => ?_) (fun hg => ?_)) <;> (try simp only [hg]) <;> (try simp only [gS] at hg) <;> (try (first | simp only [eq_false hg, gI] | simp only [eq_true hg, gI]))) | refine Stp.m ?_) <;> (try simp (disch := first | omega | simp) [qd, -qg, -ql, hlt])) | refine sideA ?_ | refine qc fun K hK => ?_ | refine qa ?_ | refine qe ?_ | refine qb ?_ | (refine hK _ ?_; clear hK K) | clear hK K)
        exact nameP_good h0 (by omega) (by rw [← hh]; omega) (upto_all (C := fun c => nameB c = true) hb (by omega))
end Go.Proofs.YtbkkjlcclddpdaaGreatDoor

/- Walks: names, of the reference; names that are no types; columns by name. -/
namespace Go.Proofs.YtbkkjlcclddpdaaGreatDoor
open Go.RowKit Go.Lib
set_option maxHeartbeats 1000000 in
theorem rname_g (s : ByteArray) (hs : s.size ≤ 1000000) : Gives Tryz.prog 103 [.str s] (.bool (nameP s.toList)) := by
  by_cases h0 : s.toList = []
  · refine qh Tryz.func103 Tryz.ntmps103 fun σ n0 hcl hft => ?_
    repeat' (first | ((first | ((with_reducible refine qf (fun hg => ?_) (fun hg => ?_)) <;> (try simp only [hg]) <;> (try simp only [gS] at hg) <;> (try (first | simp only [eq_false hg, gI] | simp only [eq_true hg, gI]))) | refine Stp.m ?_) <;> (try simp (disch := first | omega | simp) [qd, -qg, -ql, h0])) | refine sideA ?_ | refine qc fun K hK => ?_ | refine qa ?_ | refine qe ?_ | refine qb ?_ | (refine hK _ ?_; clear hK K) | clear hK K)
    all_goals (first | (rw [h0]; rfl) | rfl | simp_all)
  · have hp : 0 < s.size := by
      refine Nat.pos_of_ne_zero fun h => h0 ?_
      exact List.eq_nil_of_length_eq_zero (by rw [list_size]; exact h)
    have he : s.toList.isEmpty = false := by simpa using h0
    have hl := list_size s
    have hh := list_head s
    refine qh Tryz.func103 Tryz.ntmps103 fun σ n0 hcl hft => ?_
    repeat' (first | ((first | ((with_reducible refine qf (fun hg => ?_) (fun hg => ?_)) <;> (try simp only [hg]) <;> (try simp only [gS] at hg) <;> (try (first | simp only [eq_false hg, gI] | simp only [eq_true hg, gI]))) | refine Stp.m ?_) <;> (try simp (disch := first | omega | simp) [qd, -qg, -ql, he])) | refine sideA ?_ | refine qc fun K hK => ?_ | refine qa ?_ | refine qe ?_ | refine qb ?_ | (refine hK _ ?_; clear hK K) | clear hK K)
    · exact nameP_long (by omega)
    · exact nameP_digit (by rw [← hh]; omega) (by rw [← hh]; omega)
    all_goals
      refine qt hcl (fun k : Nat => [(0, .str s), (3, .int k)]) (fun _ => [])
        (fun k => k ≤ s.toList.length ∧ ∀ j (h : j < s.toList.length), j < k → nameB s.toList[j] = true) (fun k => s.toList.length - k) 0 (by simp) (by simp) fun k ⟨hk, hb⟩ => ?_
      by_cases hlt : k < s.size
      · have hlt2 : k < s.toList.length := by omega
        have hlt3 : k < s.data.size := hlt
        have hlg := list_get s hlt2 hlt3
        repeat' (first | ((first | ((with_reducible refine qf (fun hg => ?_) (fun hg => ?_)) <;> (try simp only [hg]) <;> (try simp only [gS] at hg) <;> (try (first | simp only [eq_false hg, gI] | simp only [eq_true hg, gI]))) | refine Stp.m ?_) <;> (try simp (disch := first | omega | simp) [qd, -qg, -ql, hlt, hlt3])) | refine sideA ?_ | refine qc fun K hK => ?_ | refine qa ?_ | refine qe ?_ | refine qb ?_ | (refine hK _ ?_; clear hK K) | clear hK K)
        all_goals
          first
          | (exfalso; omega)
          | exact nameP_bad hlt2 (by rw [hlg]; unfold nameB; simp; omega)
          | exact ⟨k + 1, ⟨by omega, qfc (C := fun c => nameB c = true) hb fun _ => by rw [hlg]; unfold nameB; simp; omega⟩, by omega, by simp⟩
      · repeat' (first | ((first | ((with_reducible refine qf (fun hg => ?_) (fun hg => ?_)) <;> (try simp only [hg]) <;> (try simp only [gS] at hg) <;> (try (first | simp only [eq_false hg, gI] | simp only [eq_true hg, gI]))) | refine Stp.m ?_) <;> (try simp (disch := first | omega | simp) [qd, -qg, -ql, hlt])) | refine sideA ?_ | refine qc fun K hK => ?_ | refine qa ?_ | refine qe ?_ | refine qb ?_ | (refine hK _ ?_; clear hK K) | clear hK K)
        exact nameP_good h0 (by omega) (by rw [← hh]; omega) (upto_all (C := fun c => nameB c = true) hb (by omega))
theorem find1_g (c : Col) (s : ByteArray) (σ : Nat → AB) (r : Nat) (hσ : σ r = .cells [.str s] 9) : GivesAt Tryz.prog 97 [c.av, .ptr r 0] σ (.bool (c.name.toList == s.toList)) := by
  refine givesAt_of_awp Tryz.func97 Tryz.ntmps97 rfl rfl (by decide) rfl (by intro n; simp) fun n0 hfin hcl hft => ?_
  have hloc := loc_at hfin hσ (by simp)
  repeat' (first | ((first | ((with_reducible refine qf (fun hg => ?_) (fun hg => ?_)) <;> (try simp only [hg]) <;> (try simp only [gS] at hg) <;> (try (first | simp only [eq_false hg, gI] | simp only [eq_true hg, gI]))) | refine Stp.m ?_) <;> (try simp (disch := first | omega | simp) [qd, -qg, -ql, hloc])) | refine sideA ?_ | refine qc fun K hK => ?_ | refine qa ?_ | refine qe ?_ | refine qb ?_ | (refine hK _ ?_; clear hK K) | clear hK K)
theorem idxC_g (L : List Col) (s : ByteArray) (σ : Nat → AB) (r : Nat) (hσ : σ r = .cells [.str s] 9) (hL : L.length ≤ 1000000) : GivesAt Tryz.prog 96 [.sl (L.map Col.av), .fn 97 [.ptr r 0]] σ (.int (findP L s.toList)) := by
  refine givesAt_of_awp Tryz.func96 Tryz.ntmps96 rfl rfl (by decide) rfl (by intro n; simp) fun n0 hfin hcl hft => ?_
  have hloc := loc_at hfin hσ (by simp)
  have hrn := fin_lt hfin hσ (by simp)
  repeat' (first | ((first | ((with_reducible refine qf (fun hg => ?_) (fun hg => ?_)) <;> (try simp only [hg]) <;> (try simp only [gS] at hg) <;> (try (first | simp only [eq_false hg, gI] | simp only [eq_true hg, gI]))) | refine Stp.m ?_) <;> (try simp (disch := first | omega | simp) [qd, -qg, -ql, hloc])) | refine sideA ?_ | refine qc fun K hK => ?_ | refine qa ?_ | refine qe ?_ | refine qb ?_ | (refine hK _ ?_; clear hK K) | clear hK K)
  refine qt hcl (fun k : Nat => [(0, .sl (L.map Col.av)), (1, .fn 97 [.ptr r 0]), (7, .int L.length), (8, .int k)]) (fun _ => [])
    (fun k => k ≤ L.length ∧ ∀ j (h : j < L.length), j < k → ¬ L[j].name.toList = s.toList) (fun k => L.length - k) 0 (by simp) (by simp [hrn]) fun k ⟨hk, he⟩ => ?_
  by_cases hlt : k < L.length
  · repeat' (first | ((first | ((with_reducible refine qf (fun hg => ?_) (fun hg => ?_)) <;> (try simp only [hg]) <;> (try simp only [gS] at hg) <;> (try (first | simp only [eq_false hg, gI] | simp only [eq_true hg, gI]))) | refine Stp.m ?_ | refine acall (find1_g _ s _ r (hloc _)) ?_ | refine qo (find1_g _ s _ r (hloc _)) ?_ | refine qdj (find1_g _ s _ r (hloc _)) ?_) <;> (try simp (disch := first | omega | simp) [qd, -qg, -ql, hlt, hrn])) | refine sideA ?_ | refine qc fun K hK => ?_ | refine qa ?_ | refine qe ?_ | refine qb ?_ | (refine hK _ ?_; clear hK K) | clear hK K)
    · rename_i hg
      exact (idxP_hit (p := fun c : Col => c.name.toList == s.toList) hlt (by simp [hg]) fun j h1 h2 => by simpa using he j h1 h2).symm
    · rename_i hg
      exact ⟨k + 1, ⟨by omega, qfc (C := fun c : Col => ¬ c.name.toList = s.toList) he fun _ => hg⟩, by omega, by simp [hrn]⟩
  · repeat' (first | ((first | ((with_reducible refine qf (fun hg => ?_) (fun hg => ?_)) <;> (try simp only [hg]) <;> (try simp only [gS] at hg) <;> (try (first | simp only [eq_false hg, gI] | simp only [eq_true hg, gI]))) | refine Stp.m ?_) <;> (try simp (disch := first | omega | simp) [qd, -qg, -ql, hlt])) | refine sideA ?_ | refine qc fun K hK => ?_ | refine qa ?_ | refine qe ?_ | refine qb ?_ | (refine hK _ ?_; clear hK K) | clear hK K)
    exact (idxP_miss (p := fun c : Col => c.name.toList == s.toList) (upto_all (C := fun c : Col => (c.name.toList == s.toList) = false) (fun j h1 h2 => by simpa using he j h1 h2) hlt)).symm
theorem qx (L : List Col) (s : ByteArray) (hL : L.length ≤ 1000000) : Gives Tryz.prog 45 [.sl (L.map Col.av), .str s] (.int (findP L s.toList)) := by
  refine qh Tryz.func45 Tryz.ntmps45 fun σ n0 hcl hft => ?_
  repeat' (first | ((first | ((with_reducible refine qf (fun hg => ?_) (fun hg => ?_)) <;> (try simp only [hg]) <;> (try simp only [gS] at hg) <;> (try (first | simp only [eq_false hg, gI] | simp only [eq_true hg, gI]))) | refine Stp.m ?_ | refine acall (idxC_g L s _ n0 (by simp) hL) ?_ | refine qo (idxC_g L s _ n0 (by simp) hL) ?_ | refine qdj (idxC_g L s _ n0 (by simp) hL) ?_) <;> (try simp (disch := first | omega | simp) [qd, -qg, -ql])) | refine sideA ?_ | refine qc fun K hK => ?_ | refine qa ?_ | refine qe ?_ | refine qb ?_ | (refine hK _ ?_; clear hK K) | clear hK K)
theorem qem (L : List Col) (s : ByteArray) (hL : L.length ≤ 1000000) : Gives Tryz.prog 50 [.sl (L.map Col.av), .str s] (.int (findP L s.toList)) := by
  refine qh Tryz.func50 Tryz.ntmps50 fun σ n0 hcl hft => ?_
  repeat' (first | ((first | ((with_reducible refine qf (fun hg => ?_) (fun hg => ?_)) <;> (try simp only [hg]) <;> (try simp only [gS] at hg) <;> (try (first | simp only [eq_false hg, gI] | simp only [eq_true hg, gI]))) | refine Stp.m ?_) <;> (try simp (disch := first | omega | simp) [qd, -qg, -ql])) | refine sideA ?_ | refine qc fun K hK => ?_ | refine qa ?_ | refine qe ?_ | refine qb ?_ | (refine hK _ ?_; clear hK K) | clear hK K)
  refine qt hcl (fun k : Nat => [(0, .sl (L.map Col.av)), (1, .str s), (5, .int k)]) (fun _ => [])
    (fun k => k ≤ L.length ∧ ∀ j (h : j < L.length), j < k → ¬ L[j].name.toList = s.toList) (fun k => L.length - k) 0 (by simp) (by simp) fun k ⟨hk, he⟩ => ?_
  by_cases hlt : k < L.length
  · repeat' (first | ((first | ((with_reducible refine qf (fun hg => ?_) (fun hg => ?_)) <;> (try simp only [hg]) <;> (try simp only [gS] at hg) <;> (try (first | simp only [eq_false hg, gI] | simp only [eq_true hg, gI]))) | refine Stp.m ?_) <;> (try simp (disch := first | omega | simp) [qd, -qg, -ql, hlt])) | refine sideA ?_ | refine qc fun K hK => ?_ | refine qa ?_ | refine qe ?_ | refine qb ?_ | (refine hK _ ?_; clear hK K) | clear hK K)
    · rename_i hg
      exact (idxP_hit (p := fun c : Col => c.name.toList == s.toList) hlt (by simp [hg]) fun j h1 h2 => by simpa using he j h1 h2).symm
    · rename_i hg
      exact ⟨k + 1, ⟨by omega, qfc (C := fun c : Col => ¬ c.name.toList = s.toList) he fun _ => hg⟩, by omega, by simp⟩
  · repeat' (first | ((first | ((with_reducible refine qf (fun hg => ?_) (fun hg => ?_)) <;> (try simp only [hg]) <;> (try simp only [gS] at hg) <;> (try (first | simp only [eq_false hg, gI] | simp only [eq_true hg, gI]))) | refine Stp.m ?_) <;> (try simp (disch := first | omega | simp) [qd, -qg, -ql, hlt])) | refine sideA ?_ | refine qc fun K hK => ?_ | refine qa ?_ | refine qe ?_ | refine qb ?_ | (refine hK _ ?_; clear hK K) | clear hK K)
    exact (idxP_miss (p := fun c : Col => c.name.toList == s.toList) (upto_all (C := fun c : Col => (c.name.toList == s.toList) = false) (fun j h1 h2 => by simpa using he j h1 h2) hlt)).symm
end Go.Proofs.YtbkkjlcclddpdaaGreatDoor

/- Regions that draw their order, and write own blocks alone: reads see the caller's blocks, and the own ones that stay. -/
namespace Go.Proofs.YtbkkjlcclddpdaaGreatDoor
open Go.RowKit Go.Lib
theorem wop_callB {P : Program} {s : AS} {f : FuncId} {d : Tmp} {caps : List AV} {args : List Operand} {tys : Array TypeId} {x : AV} {τ : Nat → AB} (hd : s.t d = .bm f caps) (hf : enters P f = true) (hn : ∀ y ∈ args, ∀ l, s.eval y ≠ .tup l) (h : AC P f (caps ++ (args.map s.eval).map AV.pub) s.st fun y τ' => y = x ∧ τ' = τ) :
    WOp P s.eval s.st (.call { callee := .value (.tmp d), args := args.toArray, argTypes := tys }) x τ := by
  intro X a oper ho hS _ hσ hev Q
  have hfn := hev (.tmp d) (by simp [Op.operands, Call.operands])
  change RR X (s.t d) _ at hfn
  rw [hd] at hfn
  change RC X (.bm f caps) [a.eval (.tmp d)] at hfn
  rw [RC] at hfn
  obtain ⟨vs, hv, hcaps⟩ := hfn
  have he : a.eval (.tmp d) = .func (.func f) vs.toArray #[] := by simpa using hv
  have hrun : (execOp a.eval oper).run P X.w = .ok (.enter f (vs ++ args.map a.eval).toArray) X.w := by
    simp [execOp, ho, resolve, he, Deferred.ofValue, invoke, qcr hf]
  have hargs := rrl_ev (a := a) args (fun y hy => hev y (by simp [Op.operands, Call.operands, hy])) hn
  refine OwpA.of (fun c h => by rw [ho] at h; cases h) ?_
  unfold Oper.wp
  rw [hrun]
  refine (h X _ s.nx hS hσ s.fin (hcaps.rrl.append hargs.pub)).mono ?_
  rintro e w' ⟨Y, v, y, rfl, rfl, ⟨rfl, hσ'⟩, hS', hF, hR⟩
  exact ⟨v, Y, rfl, rfl, hS', hF, hR, hσ'⟩
theorem wop_of_fop {P : Program} {s : AS} {o : Op} {x : AV} {nb : Option AB} (h : FOp P s.eval s.st o x (nb.map (s.nx, ·))) : WOp P s.eval s.st o x (s.ext nb).st := by
  intro X a oper ho hS _ hσ hev Q
  refine OwpA.mono ?_ (h X a oper ho hS (fun r hr => .inl (by rw [hσ])) hev (fun r ab hr => ?_) Q)
  · rintro a' w' ⟨v, Y, e1, e2, e3, e4, e5, e6⟩
    refine ⟨v, Y, e1, e2, e3, e4, e5, ?_⟩
    rw [e6]
    cases nb with
    | none => exact hσ
    | some ab => rw [(qeo s ab).1, hσ]; rfl
  · cases nb with
    | none => cases hr
    | some ab => cases hr; rw [hσ]; exact s.fin _ (Nat.le_refl _)
def aevW2 (P : Program) (s : AS) (o : Op) (K : AV → AS → Prop) : Prop :=
  match o with
  | .call { callee := .value (.tmp d), args := ⟨args⟩, argTypes := tys } => match s.t d with
    | .bm f bound => nts (args.map s.eval) = true ∧ enters P f = true ∧ ACall P f (bound ++ (args.map s.eval).map AV.pub) s K
    | _ => aevW P s (.call { callee := .value (.tmp d), args := ⟨args⟩, argTypes := tys }) K
  | .fieldAddr t p f => aevF P s (.fieldAddr t p f) (fun x nb => K x (s.ext nb))
  | .indexAddr t p f => aevF P s (.indexAddr t p f) (fun x nb => K x (s.ext nb))
  | .load t p => aevF P s (.load t p) (fun x nb => K x (s.ext nb))
  | .nilCheck p => aevF P s (.nilCheck p) (fun x nb => K x (s.ext nb))
  | .move p => aevF P s (.move p) (fun x nb => K x (s.ext nb))
  | o => aevW P s o K
theorem aevW2_sound {P : Program} {s : AS} {o : Op} {K : AV → AS → Prop} (h : aevW2 P s o K) : ∃ x s1, WOp P s.eval s.st o x s1.st ∧ (s1.t = s.t ∧ s1.n = s.n ∧ s1.n0 = s.n0) ∧ K x s1 := by
  have hf : ∀ o, aevF P s o (fun x nb => K x (s.ext nb)) → ∃ x s1, WOp P s.eval s.st o x s1.st ∧ (s1.t = s.t ∧ s1.n = s.n ∧ s1.n0 = s.n0) ∧ K x s1 := fun o h => by
    obtain ⟨x, nb, h1, h2⟩ := qcd h
    exact ⟨x, s.ext nb, wop_of_fop h1, by cases nb <;> exact ⟨rfl, rfl, rfl⟩, h2⟩
  unfold aevW2 at h
  split at h
  · split at h
    · obtain ⟨h1, h2, x, s1, h3, h4, h5⟩ := h
      exact ⟨x, s1, wop_callB ‹_› h2 (qdr h1) h3, h4, h5⟩
    · exact qdy h
  · exact hf _ h
  · exact hf _ h
  · exact hf _ h
  · exact hf _ h
  · exact hf _ h
  · exact qdy h
def AS.seen (m : List AB) (s : AS) : AS := { s with L := m }
def anyE (P : Program) (ops : Array Oper) (m : List AB) (K : AS → Prop) : List Oper → List RK → AS → Prop
  | [], _, s => K s
  | o :: l, ks, s => match awant ops o s.t with
    | some b => qcb b (match ks.headD .R with
      | .R => aevF P (s.seen m) o.op (fun x nb => nb = none ∧ dstOk o.dst s.n ∧ anyE P ops m K l ks.tail (s.put o.dst x))
      | .M => aevM P s o.op (fun x nb => dstOk o.dst s.n ∧ anyE P ops m K l ks.tail ((s.ext nb).put o.dst x))
      | .W => aevW2 P s o.op (fun x s1 => dstOk o.dst s.n ∧ qco m s1.L ∧ s1.σ = s.σ ∧ anyE P ops m K l ks.tail (s1.put o.dst x))
      | _ => False) (dstOk o.dst s.n ∧ anyE P ops m K l ks.tail (s.put o.dst (.v undef)))
    | none => False
theorem kept_e {m : List AB} {s : AS} {σ0 : Nat → AB} {n0 : Nat} (hσ : s.σ = σ0) (hn : s.n0 = n0) (h : qco m s.L) : ∀ r, loc σ0 n0 m r ≠ .unborn → s.st r = loc σ0 n0 m r := fun r hr => by
  by_cases hlt : r < n0
  · show loc s.σ s.n0 s.L r = _
    unfold loc
    rw [hn, if_pos hlt, if_pos hlt, hσ]
  · have e : loc σ0 n0 m r = loc (fun _ => .unborn) n0 m r := by unfold loc; rw [if_neg hlt, if_neg hlt]
    rw [e] at hr ⊢
    exact kept_of hn h r hr
theorem ext_keeps {m : List AB} {s : AS} {σ0 : Nat → AB} {n0 : Nat} (hke : ∀ r, loc σ0 n0 m r ≠ .unborn → s.st r = loc σ0 n0 m r) (nb : Option AB) : ∀ r, loc σ0 n0 m r ≠ .unborn → (s.ext nb).st r = loc σ0 n0 m r := fun r hr => by
  cases nb with
  | none => exact hke r hr
  | some ab =>
    have h0 := hke r hr
    have hlt : r < s.nx := Nat.lt_of_not_le fun hle => hr (h0.symm.trans (s.fin r hle))
    rw [(qeo s ab).1]; unfold upd; rw [if_neg (by omega)]; exact h0
section
variable {P : Program}
theorem anyE_steps {ops : Array Oper} {m : List AB} {σ0 : Nat → AB} {n0 : Nat} {K : AS → Prop} : ∀ (l : List Oper) (ks : List RK) (s : AS), s.n0 = n0 → s.σ = σ0 → (∀ r, loc σ0 n0 m r ≠ .unborn → s.st r = loc σ0 n0 m r) → anyE P ops m K l ks s →
    ∃ st s1 xs bs nbs, AnyRaw P ops l ks st s1 xs bs nbs (loc σ0 n0 m) n0 ∧ st 0 = s ∧ K (st l.length)
  | [], ks, s, hn0, hs0, hke, h => by
    refine ⟨fun _ => s, fun _ => s, fun _ => .any, fun _ => true, fun _ => none, ⟨fun r hr j _ => hke r hr, fun _ _ hi => absurd hi (Nat.not_lt_zero _), ?_, ?_, ?_, ?_, ?_, ?_, ?_, ?_, ?_⟩, rfl, h⟩ <;> (intro i o ho; simp at ho)
  | o :: l, ks, s, hn0, hs0, hke, h => by
    have key : ∀ (x : AV) (b : Bool) (nb : Option AB) (s1 : AS), awant ops o s.t = some b → dstOk o.dst s.n → (s1.t = s.t ∧ s1.n = s.n ∧ s1.n0 = s.n0) → s1.σ = s.σ → (b = true → ks.headD .R ≠ .N ∧ ks.headD .R ≠ .A) → (b = false → x = .v undef ∧ s1 = s ∧ nb = none) →
        (b = true → ks.headD .R = .R → FOp2 P s.eval (loc σ0 n0 m) o.op x none ∧ s1 = s ∧ nb = none) → (b = true → ks.headD .R = .M → FOp2 P s.eval s.st o.op x (nb.map (s.nx, ·)) ∧ s1 = s.ext nb) →
        (b = true → ks.headD .R = .W → WOp P s.eval s.st o.op x s1.st ∧ nb = none) → (∀ r, loc σ0 n0 m r ≠ .unborn → s1.st r = loc σ0 n0 m r) → anyE P ops m K l ks.tail (s1.put o.dst x) →
        ∃ st s1 xs bs nbs, AnyRaw P ops (o :: l) ks st s1 xs bs nbs (loc σ0 n0 m) n0 ∧ st 0 = s ∧ K (st (o :: l).length) := by
      intro x b nb s1 hw hd hsame hss hNA hskip hR hM hW hke1 hrest
      have hput : (s1.put o.dst x).σ = s1.σ := by cases o.dst <;> rfl
      obtain ⟨st, s1', xs, bs, nbs, hs, h0, hK⟩ := anyE_steps (n0 := n0) (σ0 := σ0) l ks.tail _ (by rw [(qds s1 o.dst x).2.2.2, hsame.2.2]; exact hn0) (by rw [hput, hss]; exact hs0) (fun r hr => by rw [(qds s1 o.dst x).1]; exact hke1 r hr) hrest
      have hks : ∀ i, ks.getD (i + 1) .R = ks.tail.getD i .R := fun i => by cases ks <;> simp
      have hk0 : ks.getD 0 .R = ks.headD .R := by cases ks <;> simp
      refine ⟨fun i => match i with | 0 => s | i + 1 => st i, fun i => match i with | 0 => s1 | i + 1 => s1' i, fun i => match i with | 0 => x | i + 1 => xs i, fun i => match i with | 0 => b | i + 1 => bs i, fun i => match i with | 0 => nb | i + 1 => nbs i, ⟨fun r hr j hj => (match j with | 0 => hke r hr | j + 1 => hs.kept r hr j (by simpa using hj)), fun hq => absurd hq (by show ¬ n0 < s.n0; omega), ?_, ?_, ?_, ?_, ?_, ?_, ?_, ?_, ?_⟩, rfl, hK⟩
      all_goals (intro i o' ho; cases i)
      · simp at ho; subst ho; exact hw
      · exact hs.want _ o' (by simpa using ho)
      · simp at ho; subst ho; exact hd
      · exact hs.dst _ o' (by simpa using ho)
      · simp at ho; subst ho; exact h0
      · exact hs.next _ o' (by simpa using ho)
      · simp at ho; subst ho; exact hsame
      · exact hs.same _ o' (by simpa using ho)
      · simp at ho; subst ho; exact hskip
      · exact hs.skip _ o' (by simpa using ho)
      · simp at ho; subst ho; rw [hk0]; exact hR
      · rw [hks]; exact hs.opR _ o' (by simpa using ho)
      · simp at ho; subst ho; rw [hk0]; exact fun hb hk => absurd hk (hNA hb).1
      · rw [hks]; exact hs.opN _ o' (by simpa using ho)
      · simp at ho; subst ho; rw [hk0]; exact hM
      · rw [hks]; exact hs.opM _ o' (by simpa using ho)
      · simp at ho; subst ho; rw [hk0]
        intro hb hk
        refine hW hb ?_
        cases hk2 : ks.headD .R with
        | W => rfl
        | A => exact absurd hk2 (hNA hb).2
        | R => rw [hk2] at hk; cases hk
        | M => rw [hk2] at hk; cases hk
        | N => rw [hk2] at hk; cases hk
      · rw [hks]; exact hs.opW _ o' (by simpa using ho)
    rw [anyE] at h
    split at h
    · rename_i bb hw
      cases bb with
      | true =>
        replace h := h.1 rfl
        split at h
        · rename_i hk
          obtain ⟨x, nb, h1, rfl, h2, h3⟩ := qcd h
          have e : (s.seen m).st = loc σ0 n0 m := by show loc s.σ s.n0 m = _; rw [hs0, hn0]
          rw [e] at h1
          exact key x true none s hw h2 ⟨rfl, rfl, rfl⟩ rfl (fun _ => ⟨by rw [hk]; simp, by rw [hk]; simp⟩) (fun e => by cases e) (fun _ _ => ⟨h1.two, rfl, rfl⟩) (fun _ e => by rw [hk] at e; cases e) (fun _ e => by rw [hk] at e; cases e) hke h3
        · rename_i hk
          obtain ⟨x, nb, h1, h2, h3⟩ := qet h
          exact key x true nb (s.ext nb) hw h2 (by cases nb <;> exact ⟨rfl, rfl, rfl⟩) (by cases nb <;> rfl) (fun _ => ⟨by rw [hk]; simp, by rw [hk]; simp⟩) (fun e => by cases e) (fun _ e => by rw [hk] at e; cases e) (fun _ _ => ⟨h1, rfl⟩) (fun _ e => by rw [hk] at e; cases e) (ext_keeps hke nb) h3
        · rename_i hk
          obtain ⟨x, s1, h1, h2, h3, h5, h6, h4⟩ := aevW2_sound h
          exact key x true none s1 hw h3 h2 h6 (fun _ => ⟨by rw [hk]; simp, by rw [hk]; simp⟩) (fun e => by cases e) (fun _ e => by rw [hk] at e; cases e) (fun _ e => by rw [hk] at e; cases e) (fun _ _ => ⟨h1, rfl⟩) (kept_e (h6.trans hs0) (h2.2.2.trans hn0) h5) h4
        · exact h.elim
      | false =>
        replace h := h.2 rfl
        exact key (.v undef) false none s hw h.1 ⟨rfl, rfl, rfl⟩ rfl (fun e => by cases e) (fun _ => ⟨rfl, rfl, rfl⟩) (fun e => by cases e) (fun e => by cases e) (fun e => by cases e) hke h.2
    · exact h.elim
theorem qbt {s : AS} {id : Nat} {l : List Oper} {Q : Exit → AS → Prop} (m : List AB) (ks : List RK) (hm : P.follows .mixedOrders = true) (hB : anyB l ks = true) (h0 : qco m s.L) (h : anyE P l.toArray m (Q .normal) l ks s) : awp P (.region id l.toArray true) Q s := by
  obtain ⟨st, s1, xs, bs, nbs, hs, rfl, hK⟩ := anyE_steps l ks s rfl rfl (kept_e rfl rfl h0) h
  exact awp_any hm (anyB_ok hB) (raw_steps hB hs) hK
end
instance {P : Program} {ops : Array Oper} {m : List AB} {K : AS → Prop} {o : Oper} {l : List Oper} {ks : List RK} {s : AS} : Stp (anyE P ops m K (o :: l) ks s) (match awant ops o s.t with
    | some b => qcb b (match ks.headD .R with
      | .R => aevF P (s.seen m) o.op (fun x nb => nb = none ∧ dstOk o.dst s.n ∧ anyE P ops m K l ks.tail (s.put o.dst x))
      | .M => aevM P s o.op (fun x nb => dstOk o.dst s.n ∧ anyE P ops m K l ks.tail ((s.ext nb).put o.dst x))
      | .W => aevW2 P s o.op (fun x s1 => dstOk o.dst s.n ∧ qco m s1.L ∧ s1.σ = s.σ ∧ anyE P ops m K l ks.tail (s1.put o.dst x))
      | _ => False) (dstOk o.dst s.n ∧ anyE P ops m K l ks.tail (s.put o.dst (.v undef)))
    | none => False) := ⟨fun h => h⟩
instance {P : Program} {ops : Array Oper} {m : List AB} {K : AS → Prop} {ks : List RK} {s : AS} : Stp (anyE P ops m K [] ks s) (K s) := ⟨fun h => h⟩
attribute [simp] aevW2
instance {P : Program} {ops : Array Oper} {m : List AB} {K : AS → Prop} {l : List Oper} {ks : List RK} {s : AS} : Inhabited (Tag (anyE P ops m K l ks s)) := ⟨⟨⟩⟩
@[simp] theorem seen_mk (m : List AB) (n : Nat) (t : Nat → AV) (σ : Nat → AB) (n0 : Nat) (L : List AB) : (AS.mk n t σ n0 L).seen m = ⟨n, t, σ, n0, m⟩ := rfl
end Go.Proofs.YtbkkjlcclddpdaaGreatDoor

/- append to an empty slice of the call's own, as a slice that the call may write. -/
namespace Go.Proofs.YtbkkjlcclddpdaaGreatDoor
open Go.RowKit Go.Lib
variable {P : Program} {s : AS}
theorem con_thaw {X0 X : St} {a : Act} {w : World} (hc : Con X0 s a w X) {r : Nat} {et : TypeId} {sz : Nat} (hσ : s.st r = .tail 0 et sz) :
    ∃ X', X'.w = X.w ∧ Con X0 ((s.set r .dead).ext (some (.vec [] et sz))) a w X' ∧ Fr X X' ∧ ∀ v, RC X (.gs r []) [v] → RC X' (.own s.nx 0) [v] := by
  have hX : X.σ r = .tail 0 et sz := by rw [hc.σ, hσ]
  have hlt : r < s.nx := Nat.lt_of_not_le fun h => by have := s.fin r h; rw [hσ] at this; cases this
  have hun : X.σ s.nx = .unborn := by rw [hc.σ]; exact s.fin _ (Nat.le_refl _)
  have hrn : r ≠ s.nx := by omega
  have hB := hc.sr.block r
  rw [hX] at hB
  obtain ⟨xs, hown⟩ := hB.2 rfl
  have hxs : xs = [] := List.eq_nil_of_length_eq_zero (by rw [hown.1]; simp)
  subst hxs
  have hbr : X.blk r = (X.μ r).ownBlock := by unfold St.blk; rw [hX]; rfl
  let X' : St := { X with μ := upd X.μ s.nx (X.μ r), σ := upd (upd X.σ r .dead) s.nx (.vec [] et sz) }
  have hσ1 : X'.σ s.nx = .vec [] et sz := by simp [X', upd]
  have hσ2 : X'.σ r = .dead := by simp [X', upd, hrn]
  have hσ3 : ∀ k, k ≠ r → k ≠ s.nx → X'.σ k = X.σ k ∧ X'.μ k = X.μ k := fun k h1 h2 => by simp [X', upd, h1, h2]
  have hμ1 : X'.μ s.nx = X.μ r := by simp [X', upd]
  have hb : ∀ k b, X'.blk k = some b → (k = s.nx ∧ X.blk r = some b) ∨ (k ≠ r ∧ k ≠ s.nx ∧ X.blk k = some b) := fun k b h => by
    unfold St.blk at h
    by_cases h1 : k = s.nx
    · subst h1
      rw [hσ1, hμ1] at h
      exact .inl ⟨rfl, hbr.trans h⟩
    · by_cases h2 : k = r
      · subst h2; rw [hσ2] at h; cases h
      · obtain ⟨e1, e2⟩ := hσ3 k h2 h1
        rw [e1, e2] at h
        exact .inr ⟨h2, h1, h⟩
  have hF : Fr X X' := ⟨rfl, rfl, rfl, Nat.le_refl _, fun _ _ _ => rfl, fun _ _ _ => rfl, fun _ _ h => h, fun b o h => .inl h, fun k => by
    unfold Ver
    by_cases h1 : k = s.nx
    · subst h1; rw [hun]; trivial
    · by_cases h2 : k = r
      · subst h2; rw [hX]; exact .inl hσ2
      · obtain ⟨e1, e2⟩ := hσ3 k h2 h1
        have := (Fr.refl X).ver k
        unfold Ver at this
        rw [e1, e2]; exact this, fun k b h => by
    rcases hb k b h with ⟨-, h⟩ | ⟨-, -, h⟩
    · exact .inr ⟨r, h⟩
    · exact .inr ⟨k, h⟩⟩
  refine ⟨X', rfl, ⟨hc.w, ?_, ⟨fun k => ?_, fun k k' b h1 h2 => ?_, fun k b o h1 h2 => ?_, fun b o h => hc.sr.old b o h, hc.sr.glob.mono fun _ _ _ h => h.fr hF⟩, hc.fr.trans hF, ?_, fun d => ?_, hc.defers, ?_⟩, hF, fun v hv => ?_⟩
  · rw [(qeo _ _).1, AS.set_st _ _ _ hlt, ← hc.σ]
    have : (s.set r .dead).nx = s.nx := by
      unfold AS.set AS.nx; split <;> simp
    rw [this]
  · by_cases h1 : k = s.nx
    · subst h1; rw [hσ1, hμ1]; exact ⟨fun x hx => by simp at hx, [], hown, by rw [RCs]⟩
    · by_cases h2 : k = r
      · subst h2; rw [hσ2]; trivial
      · obtain ⟨e1, e2⟩ := hσ3 k h2 h1
        exact BR.fr hc.sr hF e1 e2 fun _ _ => rfl
  · rcases hb k b h1 with ⟨rfl, h3⟩ | ⟨h3, h4, h5⟩ <;> rcases hb k' b h2 with ⟨rfl, h6⟩ | ⟨h6, h7, h8⟩
    · rfl
    · exact absurd (hc.sr.alone _ _ b h8 h3) h6
    · exact absurd (hc.sr.alone _ _ b h5 h6) h3
    · exact hc.sr.alone _ _ b h5 h8
  · rcases hb k b h1 with ⟨rfl, h3⟩ | ⟨h3, h4, h5⟩
    · obtain ⟨_, e, s2, h6, h7⟩ := hc.sr.apart r b o h3 h2
      rw [hX] at h6; cases h6
      omega
    · obtain ⟨n2, e, s2, h6, h7⟩ := hc.sr.apart k b o h5 h2
      exact ⟨n2, e, s2, by rw [(hσ3 k h3 h4).1]; exact h6, h7⟩
  · have := (s.set_nx r .dead).1
    show _ = (s.set r .dead).n
    rw [this]; exact hc.size
  · have := (s.set_nx r .dead).2.2
    show RR X' ((s.set r .dead).t d) _
    rw [this]; exact (hc.regs d).fr hF
  · have := (s.set_nx r .dead).2.1
    show Fin _ (s.set r .dead).n0
    rw [this]; exact hc.fin
  · rw [RC] at hv
    obtain ⟨A, cap, b, off, hv1, -, -, -, -, -, hall⟩ := hv
    show RC X' (.own s.nx 0) [v]
    rw [RC]
    have hv2 : v = .slice A 0 cap := by simpa using hv1
    subst hv2
    refine ⟨by rw [hσ1]; simp, _, rfl, ⟨rfl, fun I h => by rw [hσ1] at h; cases h⟩, fun l e2 s2 h => ?_⟩
    rw [hσ1] at h; cases h
    exact ⟨Nat.le_refl _, fun _ => by rw [hμ1]; exact (hall _ _ _ hX).2 rfl⟩
theorem own_core {t : TypeId} {x y : Operand} {r n : Nat} {l ys : List AV} {e : TypeId} {sz by_ : Nat} {yv : AV} {K : AV → AS → Prop} {X0 X : St} {a : Act} {oper : Oper} (ho : oper.op = .call { callee := .builtin .append, args := #[x, y], argTypes := #[t, t] }) (hc : Con X0 s a X.w X)
    (ht : vinfo P t = some (e, sz, by_)) (hx : RC X (.own r n) [a.eval x]) (hn : n = l.length) (hσ : s.st r = .vec l e sz) (hy : RR X yv (a.eval y)) (hyl : yv.list = some ys) (hne : 0 < ys.length)
    (hw : ∀ z ∈ ys, z.width = sz) (h1 : ∀ z ∈ ys, z.elem = true) (hb : (l.length + ys.length) * by_ ≤ 140737488355328) (hK : K (.own r (l.length + ys.length)) (s.set r (.vec (l ++ ys) e sz))) (Q : Exit → Act → World → Prop) :
    OwpA P oper a X.w (fun a' w' => ∃ v x s1 X', a' = a.put oper.dst v ∧ K x s1 ∧ Con X0 s1 a w' X' ∧ RR X' x v) Q := by
  subst hn
  rw [RC] at hx
  obtain ⟨-, v0, hv0, -, hall⟩ := hx
  have hX : X.σ r = .vec l e sz := by rw [hc.σ, hσ]
  have hvm : a.eval x = X.μ r := by
    have := (hall _ _ _ hX).2 rfl
    rw [← this]; simpa using hv0
  obtain ⟨A, cap, b, off, hyv', hc1, hc2, hA, hm⟩ := RR.list hyl hy
  obtain rfl := hA hne
  obtain ⟨news, hr2, hcell⟩ := hm.row
  have hB := hc.sr.block r
  rw [hX] at hB
  obtain ⟨hwd, xs, hown, hrs⟩ := hB
  obtain ⟨hu1, i, z, hi, hz, hsz, hby, hzs, hsz0, hby0, -⟩ := qbm ht
  have hlen : l.length + ys.length ≤ 140737488355328 := Nat.le_trans (Nat.le_mul_of_pos_right _ hby0) hb
  have hnl := RCs.len hr2 hw
  have hnc : ∀ j u, news[j]? = some u → X.w.cell? ((⟨b, off, none⟩ : Addr).add j) = some u := fun j u hj => by rw [qbf]; exact hcell.at.get j u hj
  have h63 : l.length + ys.length ≤ maxLen := by unfold maxLen; omega
  subst hsz
  subst hby
  obtain ⟨v2, w2, hrun, hown2, hg, h3, h4⟩ := run_append_own_at (P := P) X.w 0 t oper.type e i z i.size i.bytes hu1 hi hz rfl rfl hzs hsz0 (X.μ r) l.length xs hown ⟨b, off, none⟩ ys.length cap news hnl hnc (RCs.oneCell hr2 h1) h63 hb (Nat.zero_le _)
  have hblk : X.blk r = (X.μ r).ownBlock := by unfold St.blk; rw [hX]; rfl
  have hno : ∀ b2 o, X.blk r = some b2 → ¬ X.S b2 o := fun b2 o h5 h6 => by
    obtain ⟨n2, e2, s2, h7, h8⟩ := hc.sr.apart r b2 o h5 h6
    rw [hX] at h7; cases h7
  have hT : Turns X w2 X.S r (.vec (l ++ ys) e i.size) v2 := by
    refine ⟨by rw [hblk]; exact hg, fun b2 h => ?_, ?_, fun b2 o h5 h6 => absurd h6 (hno b2 o h5), fun _ _ h => h, fun b2 o h => .inl h, fun b2 o h5 h6 => ?_, fun b2 h => (hown2.lt b2 h).2⟩
    · change v2.ownBlock = some b2 at h
      rcases h4 with h4 | h4
      · left; rw [hblk, ← h4, h]
      · right; rw [h4] at h; cases h; exact Nat.le_refl _
    · unfold Ver
      rw [hX]
      exact .inr ⟨l ++ ys, by simp [St.turn, upd], .inl (by simp; omega)⟩
    · exfalso
      change v2.ownBlock = some b2 at h5
      rcases h4 with h4 | h4
      · exact hno b2 o (by rw [hblk, ← h4]; exact h5) h6
      · rw [h4] at h5; cases h5
        exact absurd (hc.sr.old _ o h6) (Nat.lt_irrefl _)
  have hF := qfn hc.sr hT
  refine qbb (w' := w2) (v := v2) (by simp [execOp, ho, resolve, invoke, builtin, hvm, hyv', hrun])
    ⟨v2, .own r (l.length + ys.length), _, _, rfl, hK, qep (v := v2) hc (by rw [hσ]; simp) hT ⟨fun x hx => ?_, xs ++ news, by rw [List.length_append]; exact hown2, ?_⟩, ?_⟩
  · rcases List.mem_append.1 hx with hx | hx
    · exact hwd x hx
    · exact hw x hx
  · exact RCs.fr hF _ _ (hrs.append hr2)
  · show RC _ (.own r _) [_]
    rw [RC]
    refine ⟨by simp [St.turn, upd], v2, rfl, ⟨?_, fun I h => by simp [St.turn, upd] at h⟩, fun l2 e2 s2 h => ?_⟩
    · rcases hown2.2 with ⟨h5, -⟩ | ⟨g, cap2, cur, h5, -⟩ <;> rw [h5] <;> rfl
    · simp [St.turn, upd] at h
      obtain ⟨rfl, rfl, rfl⟩ := h
      exact ⟨by simp, fun _ => by simp [St.turn, upd]⟩
theorem eop_appendV {t : TypeId} {x y : Operand} {r : Nat} {ys : List AV} {e : TypeId} {sz by_ : Nat} {K : AV → AS → Prop} (ht : vinfo P t = some (e, sz, by_)) (hx : s.eval x = .gs r []) (hσ : s.st r = .tail 0 e sz) (hyl : (s.eval y).list = some ys) (hne : 0 < ys.length)
    (hw : ∀ z ∈ ys, z.width = sz) (h1 : ∀ z ∈ ys, z.elem = true) (hb : ys.length * by_ ≤ 140737488355328) (hK : K (.own s.nx ys.length) ((s.set r .dead).ext (some (.vec ys e sz)))) :
    EOp P s (.call { callee := .builtin .append, args := #[x, y], argTypes := #[t, t] }) K := by
  intro X0 a w X oper ho hc Q
  have hw0 := hc.w
  subst hw0
  obtain ⟨X', hXw, hc', hF, hR⟩ := con_thaw hc hσ
  have hx2 := hc.eval x
  rw [hx] at hx2
  have hx3 := hR _ hx2
  rw [← hXw]
  rw [← hXw] at hc'
  have hnx : (s.set r .dead).nx = s.nx := by
    unfold AS.set AS.nx; split <;> simp
  refine own_core (s := (s.set r .dead).ext (some (.vec [] e sz))) (l := []) ho hc' ht hx3 rfl ?_ ((hc.eval y).fr hF) hyl hne hw h1 (by simpa using hb) ?_ Q
  · rw [(qeo _ _).1, hnx]; simp [upd]
  · have : ((s.set r .dead).ext (some (.vec [] e sz))).set s.nx (.vec ([] ++ ys) e sz) = (s.set r .dead).ext (some (.vec ys e sz)) := by
      rw [← hnx]
      unfold AS.set AS.ext AS.nx
      dsimp only
      split <;> (dsimp only; rw [if_neg (by omega), Nat.add_sub_cancel_left]; simp)
    rw [this]; simpa using hK
theorem aseqC_cut {ops : Array Oper} {K K' : AS → Prop} {l2 : List Oper} (hk : ∀ s, K' s → aseq P ops K l2 s) : ∀ {l1 : List Oper} {s : AS}, qg P ops K' l1 s → aseq P ops K (l1 ++ l2) s
  | [], s, h => hk s h
  | o :: l, s, h => by
    rw [qg] at h
    rw [List.cons_append, aseq]
    split at h
    · rename_i b hb
      cases b with
      | true => exact ⟨true, hb, (qce (h.1 rfl)).mono fun x s1 ⟨h1, h2⟩ => ⟨h1, aseqC_cut hk h2⟩⟩
      | false => exact ⟨false, hb, (h.2 rfl).1, aseqC_cut hk (h.2 rfl).2⟩
    · exact h.elim
def ownApp (P : Program) (ops : Array Oper) (s : AS) (o : Oper) (K : AS → Prop) : Prop :=
  match o.op with
  | .call { callee := .builtin .append, args := ⟨[x, y]⟩, argTypes := ⟨[t, t']⟩ } => t' = t ∧ awant ops o s.t = some true ∧ (match vinfo P t with
    | some (e, sz, by_) => match s.eval x, (s.eval y).list with
      | .gs r [], some ys => s.st r = .tail 0 e sz ∧ 0 < ys.length ∧ AV.wid ys sz ∧ AV.elms ys ∧ ys.length * by_ ≤ 140737488355328 ∧ dstOk o.dst ((s.set r .dead).ext (some (.vec ys e sz))).n ∧ K (((s.set r .dead).ext (some (.vec ys e sz))).put o.dst (.own s.nx ys.length))
      | _, _ => False
    | none => False)
  | _ => False
theorem ownApp_sound {ops : Array Oper} {K K' : AS → Prop} {o : Oper} {l : List Oper} (hk : ∀ s, K' s → aseq P ops K l s) (h : ownApp P ops s o K') : aseq P ops K (o :: l) s := by
  unfold ownApp at h
  rw [aseq]
  split at h
  · rename_i x y t t' hop
    obtain ⟨rfl, hwt, h⟩ := h
    refine ⟨true, hwt, ?_⟩
    show EOp P s o.op _
    rw [hop]
    split at h
    · split at h
      · obtain ⟨h1, h2, h3, h4, h5, h6, h7⟩ := h
        exact eop_appendV ‹_› ‹_› h1 ‹_› h2 h3 h4 h5 ⟨h6, hk _ h7⟩
      · exact h.elim
    · exact h.elim
  · exact h.elim
theorem awp_regionV {id : Nat} {l : List Oper} {Q : Exit → AS → Prop} (k : Nat) {o : Oper} (ho : l[k]? = some o) (h : qg P l.toArray (fun s => ownApp P l.toArray s o fun s => qg P l.toArray (Q .normal) (l.drop (k + 1)) s) (l.take k) s) : awp P (.region id l.toArray false) Q s := by
  refine qea ?_
  have h1 : l = l.take k ++ o :: l.drop (k + 1) := by
    have hk := (List.getElem?_eq_some_iff.1 ho)
    obtain ⟨hk, he⟩ := hk
    rw [← he, ← List.drop_eq_getElem_cons hk, List.take_append_drop]
  have h2 : aseq P l.toArray (Q .normal) (l.take k ++ o :: l.drop (k + 1)) s := aseqC_cut (fun s' hs => ownApp_sound (fun s'' h => qdz h) hs) h
  rw [← h1] at h2; exact h2
theorem awp_regionV4 {id : Nat} {o0 o1 o2 o3 : Oper} {args : Array Operand} {tys : Array TypeId} {Q : Exit → AS → Prop} (_hop : o2.op = .call { callee := .builtin .append, args := args, argTypes := tys })
    (h : qg P #[o0, o1, o2, o3] (fun s => ownApp P #[o0, o1, o2, o3] s o2 fun s => qg P #[o0, o1, o2, o3] (Q .normal) [o3] s) [o0, o1] s) : awp P (.region id #[o0, o1, o2, o3] false) Q s :=
  awp_regionV (l := [o0, o1, o2, o3]) 2 rfl h
attribute [simp] ownApp
end Go.Proofs.YtbkkjlcclddpdaaGreatDoor
