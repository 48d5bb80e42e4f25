/- Walks of the reference of chapter 02: Magic, Plain. -/
import Derived.Test.YtkhmlicikbnmdaaDoorGa19
import Derived.Test.YtkhmlicikbnmdaaDoorGf2
import Derived.Test.YtkhmlicikbnmdaaDoorGf3
set_option linter.unusedSimpArgs false
set_option linter.unusedVariables false
namespace Go.Proofs.YtkhmlicikbnmdaaDoor
open Go.RowKit Go.Lib

theorem magic_rp (l : List UInt8) : magicP l = (rpP l).any fun x => x.1.magic := by
  unfold magicP
  rw [← rp_parts _ l (Nat.le_refl _), List.any_map]; rfl
theorem any_upto {α : Type} {f : α → Bool} {L : List α} (h : ∀ j (h : j < L.length), f L[j] = false) : L.any f = false := by
  rw [List.any_eq_false]
  intro x hx
  obtain ⟨j, hj, rfl⟩ := List.getElem_of_mem hx
  rw [h j hj]; exact Bool.false_ne_true
set_option maxHeartbeats 2000000 in
theorem rmagic_g (s : ByteArray) (hs : s.size ≤ 1000000) : Gives Tryd.prog 41 [.str s] (.bool (magicP s.data.toList)) := by
  obtain ⟨R, hR⟩ : ∃ R, R = magicP s.data.toList := ⟨_, rfl⟩
  rw [← hR]
  rw [magic_rp] at hR
  have c1 := rparts_g s hs
  obtain ⟨L, hL⟩ : ∃ L, L = rpP s.data.toList := ⟨_, rfl⟩
  have hLl : L.length ≤ s.size := by rw [hL]; have := rpF_len s.data.toList.length s.data.toList; rw [← Lib.size_eq] at this; unfold rpP; rw [← Lib.size_eq]; exact this
  rw [← hL] at c1 hR
  refine gives_of_awp Tryd.func41 Tryd.ntmps41 rfl rfl (by decide) rfl (by intro n; simp) fun σ n0 hcl hft => ?_
  repeat' (first | ((first | ((with_reducible refine aguard (fun hg => ?_) (fun hg => ?_)) <;> (try simp only [hg]) <;> (try simp only [beq_iff_eq, beq_eq_false_iff_ne, ne_eq, decide_eq_true_eq, decide_eq_false_iff_not, bne_iff_ne, bne_eq_false_iff_eq] at hg) <;> (try (first | simp only [eq_false hg, if_true, if_false] | simp only [eq_true hg, if_true, if_false]))) | with_reducible refine aseq_step ?_ | with_reducible refine any_step' ?_ | with_reducible refine aseq_end ?_ | with_reducible refine any_end' ?_ | refine acall (c1) ?_ | refine agives (c1) ?_ | refine awp_condC ?_ | refine awp_exit ?_ | refine awp_skip ?_ | refine awp_ret ?_) <;> (try simp (disch := first | omega | simp) [wrap_i64, -aseqC, -anyC])) | ((first | with_reducible refine sideG ?_ ?_ | with_reducible refine sideG2 ?_ ?_ | with_reducible refine sideS ?_ ?_ | with_reducible refine sideS2 ?_ ?_ | with_reducible refine sideS3 ?_ ?_ | with_reducible refine sideA ?_ ?_ | with_reducible refine sideA2 ?_ ?_ | with_reducible refine sideA3 ?_ ?_); (first | omega | assumption | (simp; done))) | (refine awp_seq_k fun K hK => ?_) | (refine awp_regionC ?_) | (refine awp_anyA true (by kernel_rfl) (by kernel_rfl) ?_) | (refine hK _ ?_; clear hK; clear K) | (clear hK; clear K; refine hK _ ?_; clear hK; clear K) | (clear hK; clear K; clear hK; clear K; refine hK _ ?_; clear hK; clear K) | refine awp_block ?_)
  refine awp_loopC hcl (fun i : Nat => [(3, .sl (rps L)), (4, .int i)]) (fun _ => []) (fun i => i ≤ L.length ∧ ∀ j (h : j < L.length), j < i → L[j].1.magic = false) (fun i => L.length - i) 0 ⟨Nat.zero_le _, fun j _ h => by omega⟩ (by simp) fun i ⟨hi, he⟩ => ?_
  by_cases hlt : i < L.length
  · cases hx : L[i] with
    | mk x t =>
      have yes : x.magic = true → R = true := fun h => by
        rw [hR, List.any_eq_true]
        exact ⟨L[i], List.getElem_mem hlt, by rw [hx]; exact h⟩
      have no : x.magic = false → ∀ j (h : j < L.length), j < i + 1 → L[j].1.magic = false := fun h j h1 h2 => by
        by_cases hj : j = i
        · subst hj; rw [hx]; exact h
        · exact he j h1 (by omega)
      cases x with
      | byte b =>
        repeat' (first | ((first | ((with_reducible refine aguard (fun hg => ?_) (fun hg => ?_)) <;> (try simp only [hg]) <;> (try simp only [beq_iff_eq, beq_eq_false_iff_ne, ne_eq, decide_eq_true_eq, decide_eq_false_iff_not, bne_iff_ne, bne_eq_false_iff_eq] at hg) <;> (try (first | simp only [eq_false hg, if_true, if_false] | simp only [eq_true hg, if_true, if_false]))) | with_reducible refine aseq_step ?_ | with_reducible refine any_step' ?_ | with_reducible refine aseq_end ?_ | with_reducible refine any_end' ?_ | refine awp_condC ?_ | refine awp_exit ?_ | refine awp_skip ?_ | refine awp_ret ?_) <;> (try simp (disch := first | omega | simp) [wrap_i64, -aseqC, -anyC, hlt, hx, partAv])) | ((first | with_reducible refine sideG ?_ ?_ | with_reducible refine sideG2 ?_ ?_ | with_reducible refine sideS ?_ ?_ | with_reducible refine sideS2 ?_ ?_ | with_reducible refine sideS3 ?_ ?_ | with_reducible refine sideA ?_ ?_ | with_reducible refine sideA2 ?_ ?_ | with_reducible refine sideA3 ?_ ?_); (first | omega | assumption | (simp; done))) | (refine awp_seq_k fun K hK => ?_) | (refine awp_regionC ?_) | (refine awp_anyA true (by kernel_rfl) (by kernel_rfl) ?_) | (refine hK _ ?_; clear hK; clear K) | (clear hK; clear K; refine hK _ ?_; clear hK; clear K) | (clear hK; clear K; clear hK; clear K; refine hK _ ?_; clear hK; clear K) | refine awp_block ?_)
        all_goals exact ⟨i + 1, ⟨by omega, no rfl⟩, by omega, by simp⟩
      | star =>
        repeat' (first | ((first | ((with_reducible refine aguard (fun hg => ?_) (fun hg => ?_)) <;> (try simp only [hg]) <;> (try simp only [beq_iff_eq, beq_eq_false_iff_ne, ne_eq, decide_eq_true_eq, decide_eq_false_iff_not, bne_iff_ne, bne_eq_false_iff_eq] at hg) <;> (try (first | simp only [eq_false hg, if_true, if_false] | simp only [eq_true hg, if_true, if_false]))) | with_reducible refine aseq_step ?_ | with_reducible refine any_step' ?_ | with_reducible refine aseq_end ?_ | with_reducible refine any_end' ?_ | refine awp_condC ?_ | refine awp_exit ?_ | refine awp_skip ?_ | refine awp_ret ?_) <;> (try simp (disch := first | omega | simp) [wrap_i64, -aseqC, -anyC, hlt, hx, partAv])) | ((first | with_reducible refine sideG ?_ ?_ | with_reducible refine sideG2 ?_ ?_ | with_reducible refine sideS ?_ ?_ | with_reducible refine sideS2 ?_ ?_ | with_reducible refine sideS3 ?_ ?_ | with_reducible refine sideA ?_ ?_ | with_reducible refine sideA2 ?_ ?_ | with_reducible refine sideA3 ?_ ?_); (first | omega | assumption | (simp; done))) | (refine awp_seq_k fun K hK => ?_) | (refine awp_regionC ?_) | (refine awp_anyA true (by kernel_rfl) (by kernel_rfl) ?_) | (refine hK _ ?_; clear hK; clear K) | (clear hK; clear K; refine hK _ ?_; clear hK; clear K) | (clear hK; clear K; clear hK; clear K; refine hK _ ?_; clear hK; clear K) | refine awp_block ?_)
        all_goals exact yes rfl
      | any =>
        repeat' (first | ((first | ((with_reducible refine aguard (fun hg => ?_) (fun hg => ?_)) <;> (try simp only [hg]) <;> (try simp only [beq_iff_eq, beq_eq_false_iff_ne, ne_eq, decide_eq_true_eq, decide_eq_false_iff_not, bne_iff_ne, bne_eq_false_iff_eq] at hg) <;> (try (first | simp only [eq_false hg, if_true, if_false] | simp only [eq_true hg, if_true, if_false]))) | with_reducible refine aseq_step ?_ | with_reducible refine any_step' ?_ | with_reducible refine aseq_end ?_ | with_reducible refine any_end' ?_ | refine awp_condC ?_ | refine awp_exit ?_ | refine awp_skip ?_ | refine awp_ret ?_) <;> (try simp (disch := first | omega | simp) [wrap_i64, -aseqC, -anyC, hlt, hx, partAv])) | ((first | with_reducible refine sideG ?_ ?_ | with_reducible refine sideG2 ?_ ?_ | with_reducible refine sideS ?_ ?_ | with_reducible refine sideS2 ?_ ?_ | with_reducible refine sideS3 ?_ ?_ | with_reducible refine sideA ?_ ?_ | with_reducible refine sideA2 ?_ ?_ | with_reducible refine sideA3 ?_ ?_); (first | omega | assumption | (simp; done))) | (refine awp_seq_k fun K hK => ?_) | (refine awp_regionC ?_) | (refine awp_anyA true (by kernel_rfl) (by kernel_rfl) ?_) | (refine hK _ ?_; clear hK; clear K) | (clear hK; clear K; refine hK _ ?_; clear hK; clear K) | (clear hK; clear K; clear hK; clear K; refine hK _ ?_; clear hK; clear K) | refine awp_block ?_)
        all_goals exact yes rfl
      | cls set neg =>
        repeat' (first | ((first | ((with_reducible refine aguard (fun hg => ?_) (fun hg => ?_)) <;> (try simp only [hg]) <;> (try simp only [beq_iff_eq, beq_eq_false_iff_ne, ne_eq, decide_eq_true_eq, decide_eq_false_iff_not, bne_iff_ne, bne_eq_false_iff_eq] at hg) <;> (try (first | simp only [eq_false hg, if_true, if_false] | simp only [eq_true hg, if_true, if_false]))) | with_reducible refine aseq_step ?_ | with_reducible refine any_step' ?_ | with_reducible refine aseq_end ?_ | with_reducible refine any_end' ?_ | refine awp_condC ?_ | refine awp_exit ?_ | refine awp_skip ?_ | refine awp_ret ?_) <;> (try simp (disch := first | omega | simp) [wrap_i64, -aseqC, -anyC, hlt, hx, partAv])) | ((first | with_reducible refine sideG ?_ ?_ | with_reducible refine sideG2 ?_ ?_ | with_reducible refine sideS ?_ ?_ | with_reducible refine sideS2 ?_ ?_ | with_reducible refine sideS3 ?_ ?_ | with_reducible refine sideA ?_ ?_ | with_reducible refine sideA2 ?_ ?_ | with_reducible refine sideA3 ?_ ?_); (first | omega | assumption | (simp; done))) | (refine awp_seq_k fun K hK => ?_) | (refine awp_regionC ?_) | (refine awp_anyA true (by kernel_rfl) (by kernel_rfl) ?_) | (refine hK _ ?_; clear hK; clear K) | (clear hK; clear K; refine hK _ ?_; clear hK; clear K) | (clear hK; clear K; clear hK; clear K; refine hK _ ?_; clear hK; clear K) | refine awp_block ?_)
        all_goals exact yes rfl
  · obtain rfl : i = L.length := by omega
    have hno : R = false := by rw [hR]; exact any_upto fun j h => he j h h
    repeat' (first | ((first | ((with_reducible refine aguard (fun hg => ?_) (fun hg => ?_)) <;> (try simp only [hg]) <;> (try simp only [beq_iff_eq, beq_eq_false_iff_ne, ne_eq, decide_eq_true_eq, decide_eq_false_iff_not, bne_iff_ne, bne_eq_false_iff_eq] at hg) <;> (try (first | simp only [eq_false hg, if_true, if_false] | simp only [eq_true hg, if_true, if_false]))) | with_reducible refine aseq_step ?_ | with_reducible refine any_step' ?_ | with_reducible refine aseq_end ?_ | with_reducible refine any_end' ?_ | refine awp_condC ?_ | refine awp_exit ?_ | refine awp_skip ?_ | refine awp_ret ?_) <;> (try simp (disch := first | omega | simp) [wrap_i64, -aseqC, -anyC, hlt])) | ((first | with_reducible refine sideG ?_ ?_ | with_reducible refine sideG2 ?_ ?_ | with_reducible refine sideS ?_ ?_ | with_reducible refine sideS2 ?_ ?_ | with_reducible refine sideS3 ?_ ?_ | with_reducible refine sideA ?_ ?_ | with_reducible refine sideA2 ?_ ?_ | with_reducible refine sideA3 ?_ ?_); (first | omega | assumption | (simp; done))) | (refine awp_seq_k fun K hK => ?_) | (refine awp_regionC ?_) | (refine awp_anyA true (by kernel_rfl) (by kernel_rfl) ?_) | (refine hK _ ?_; clear hK; clear K) | (clear hK; clear K; refine hK _ ?_; clear hK; clear K) | (clear hK; clear K; clear hK; clear K; refine hK _ ?_; clear hK; clear K) | refine awp_block ?_)
    all_goals exact hno
/- Plain -/
def ptx : Pt × List UInt8 → List UInt8
  | (.byte _, t) => if t.length = 2 then t.drop 1 else t
  | (_, t) => t
theorem head_byte2 {p : List UInt8} {b : UInt8} (hh : head p = (.byte b, 2)) : p.take 2 = [92, b] := by
  unfold head at hh
  split at hh
  · cases hh
  · cases hh; rfl
  · cases hh
  · cases hh
  · split at hh
    · cases hh
    · split at hh <;> cases hh
  · split at hh <;> cases hh
  · cases hh
theorem head_byte_len' {p : List UInt8} (h : p ≠ []) {b : UInt8} {n : Nat} (hh : head p = (.byte b, n)) : n = 2 ∨ n = 1 ∧ p.take 1 = [b] := by
  obtain ⟨c, r, rfl⟩ := List.exists_cons_of_ne_nil h
  by_cases hc : c = 42 ∨ c = 63 ∨ c = 91 ∨ c = 92
  · rcases hc with rfl | rfl | rfl | rfl
    · cases hh
    · cases hh
    · cases r with
      | nil => cases hh; exact .inr ⟨rfl, rfl⟩
      | cons d r =>
        by_cases hd : d = 33
        · subst hd
          rw [head_91] at hh
          split at hh
          · cases hh
          · split at hh
            · cases hh
            · cases hh; exact .inr ⟨rfl, rfl⟩
        · rw [head_91' hd] at hh
          split at hh
          · cases hh
          · cases hh; exact .inr ⟨rfl, rfl⟩
    · cases r with
      | nil => cases hh; exact .inr ⟨rfl, rfl⟩
      | cons d r => cases hh; exact .inl rfl
  · rw [head_byte hc] at hh
    cases hh; exact .inr ⟨rfl, rfl⟩
theorem ptx_eq {p : List UInt8} (h : p ≠ []) : ptxt p = ptx ((head p).1, p.take (head p).2) := by
  have hl := head_len h
  cases hh : head p with
  | mk x n =>
    rw [hh] at hl
    unfold ptxt
    rw [hh]
    cases x with
    | byte b =>
      rcases head_byte_len' h hh with rfl | ⟨rfl, e⟩
      · rw [show (Pt.byte b, 2).1 = Pt.byte b from rfl]
        show [b] = ptx (Pt.byte b, p.take 2)
        rw [head_byte2 hh]; rfl
      · show p.take 1 = ptx (Pt.byte b, p.take 1)
        rw [e]; rfl
    | star => rfl
    | any => rfl
    | cls s g => rfl
theorem plain_rp : ∀ (n : Nat) (p : List UInt8), p.length ≤ n → plainP p = (rpP p).flatMap ptx := fun n => by
  induction n with
  | zero =>
    intro p h
    have : p = [] := List.eq_nil_of_length_eq_zero (by omega)
    subst this; rfl
  | succ n ih =>
    intro p h
    by_cases hp : p = []
    · subst hp; rfl
    · have hl := head_len hp
      rw [plainP_cons hp, rpP_cons hp, List.flatMap_cons, ← ptx_eq hp, ih _ (by rw [List.length_drop]; omega)]
theorem flat_take {α : Type} {f : α → List UInt8} {L : List α} {k : Nat} (h : k < L.length) : (L.take (k + 1)).flatMap f = (L.take k).flatMap f ++ f L[k] := by
  rw [List.take_succ_eq_append_getElem h, List.flatMap_append]; simp
set_option maxHeartbeats 2000000 in
theorem rplain_g (s : ByteArray) (hs : s.size ≤ 1000000) : Gives Tryd.prog 42 [.str s] (.str (bytesA (plainP s.data.toList))) := by
  have c1 := rparts_g s hs
  have hpl := plainF_len s.data.toList.length s.data.toList
  have hpe := plain_rp _ s.data.toList (Nat.le_refl _)
  rw [← Lib.size_eq] at hpl
  have hpl2 : (plainP s.data.toList).length ≤ s.size := by unfold plainP; rw [← Lib.size_eq]; exact hpl
  rw [hpe] at hpl2 ⊢
  obtain ⟨L, hL⟩ : ∃ L, L = rpP s.data.toList := ⟨_, rfl⟩
  have hLl : L.length ≤ s.size := by rw [hL]; have := rpF_len s.data.toList.length s.data.toList; rw [← Lib.size_eq] at this; unfold rpP; rw [← Lib.size_eq]; exact this
  rw [← hL] at c1 hpl2 ⊢
  have hpre : ∀ k, ((L.take k).flatMap ptx).length ≤ s.size := fun k => by
    have h : L.flatMap ptx = (L.take k).flatMap ptx ++ (L.drop k).flatMap ptx := by rw [← List.flatMap_append, List.take_append_drop]
    rw [h, List.length_append] at hpl2; omega
  obtain ⟨P, hP⟩ : ∃ P : Nat → List UInt8, P = fun k => (L.take k).flatMap ptx := ⟨_, rfl⟩
  have P0 : P 0 = [] := by rw [hP]; rfl
  have PS : ∀ i (h : i < L.length), P (i + 1) = P i ++ ptx L[i] := fun i h => by rw [hP]; exact flat_take h
  have PL : P L.length = L.flatMap ptx := by rw [hP]; simp only [List.take_length]
  have hpre2 : ∀ k, (P k).length ≤ s.size := fun k => by rw [hP]; exact hpre k
  clear hpre hP
  rw [← PL]
  refine gives_of_awp Tryd.func42 Tryd.ntmps42 rfl rfl (by decide) rfl (by intro n; simp) fun σ n0 hcl hft => ?_
  repeat' (first | ((first | ((with_reducible refine aguard (fun hg => ?_) (fun hg => ?_)) <;> (try simp only [hg]) <;> (try simp only [beq_iff_eq, beq_eq_false_iff_ne, ne_eq, decide_eq_true_eq, decide_eq_false_iff_not, bne_iff_ne, bne_eq_false_iff_eq] at hg) <;> (try (first | simp only [eq_false hg, if_true, if_false] | simp only [eq_true hg, if_true, if_false]))) | with_reducible refine aseq_step ?_ | with_reducible refine any_step' ?_ | with_reducible refine aseq_end ?_ | with_reducible refine any_end' ?_ | refine acall (c1) ?_ | refine agives (c1) ?_ | refine awp_condC ?_ | refine awp_exit ?_ | refine awp_skip ?_ | refine awp_ret ?_) <;> (try simp (disch := first | omega | simp) [wrap_i64, -aseqC, -anyC])) | ((first | with_reducible refine sideG ?_ ?_ | with_reducible refine sideG2 ?_ ?_ | with_reducible refine sideS ?_ ?_ | with_reducible refine sideS2 ?_ ?_ | with_reducible refine sideS3 ?_ ?_ | with_reducible refine sideA ?_ ?_ | with_reducible refine sideA2 ?_ ?_ | with_reducible refine sideA3 ?_ ?_); (first | omega | assumption | (simp; done))) | (refine awp_seq_k fun K hK => ?_) | (refine awp_regionC ?_) | (refine awp_anyA true (by kernel_rfl) (by kernel_rfl) ?_) | (refine hK _ ?_; clear hK; clear K) | (clear hK; clear K; refine hK _ ?_; clear hK; clear K) | (clear hK; clear K; clear hK; clear K; refine hK _ ?_; clear hK; clear K) | refine awp_block ?_)
  refine awp_loopC hcl (fun i : Nat => [(3, .sl (rps L)), (4, .str (bytesA (P i))), (5, .int i)]) (fun _ => []) (fun i => i ≤ L.length) (fun i => L.length - i) 0 (Nat.zero_le _) (by simp [P0]; rfl) fun i hi => ?_
  by_cases hlt : i < L.length
  · have ht := PS i hlt
    have hp1 := hpre2 (i + 1)
    rw [ht, List.length_append] at hp1
    cases hx : L[i] with
    | mk x t =>
      rw [hx] at ht hp1
      have hsz := bytesA_size t
      have e : ∀ y, ptx (x, t) = y → bytesA (P i) ++ bytesA y = bytesA (P (i + 1)) := fun y hy => by rw [ht, bytesA_append, hy]
      have plain : ptx (x, t) = t → (P i).length + t.length ≤ 9223372036854775807 := fun h => by rw [h] at hp1; omega
      cases x with
      | byte b =>
        by_cases h2 : t.length = 2
        · have hp : ptx (.byte b, t) = t.drop 1 := by show (if t.length = 2 then t.drop 1 else t) = _; rw [if_pos h2]
          have e1 := e _ hp
          have hx2 : (bytesA t).extract 1 2 = bytesA (t.drop 1) := by
            rw [extract_bytes, bytesA_data, List.take_of_length_le (by rw [List.length_drop]; omega)]
          rw [hp] at hp1
          have z : (P i).length + (t.length - 1) ≤ 9223372036854775807 := by rw [List.length_drop] at hp1; omega
          repeat' (first | ((first | ((with_reducible refine aguard (fun hg => ?_) (fun hg => ?_)) <;> (try simp only [hg]) <;> (try simp only [beq_iff_eq, beq_eq_false_iff_ne, ne_eq, decide_eq_true_eq, decide_eq_false_iff_not, bne_iff_ne, bne_eq_false_iff_eq] at hg) <;> (try (first | simp only [eq_false hg, if_true, if_false] | simp only [eq_true hg, if_true, if_false]))) | with_reducible refine aseq_step ?_ | with_reducible refine any_step' ?_ | with_reducible refine aseq_end ?_ | with_reducible refine any_end' ?_ | refine awp_condC ?_ | refine awp_exit ?_ | refine awp_skip ?_ | refine awp_ret ?_) <;> (try simp (disch := first | omega | simp) [wrap_i64, -aseqC, -anyC, hlt, hx, partAv, hsz, h2, hx2, z, bytesA_size, e1])) | ((first | with_reducible refine sideG ?_ ?_ | with_reducible refine sideG2 ?_ ?_ | with_reducible refine sideS ?_ ?_ | with_reducible refine sideS2 ?_ ?_ | with_reducible refine sideS3 ?_ ?_ | with_reducible refine sideA ?_ ?_ | with_reducible refine sideA2 ?_ ?_ | with_reducible refine sideA3 ?_ ?_); (first | omega | assumption | (simp; done))) | (refine awp_seq_k fun K hK => ?_) | (refine awp_regionC ?_) | (refine awp_anyA true (by kernel_rfl) (by kernel_rfl) ?_) | (refine hK _ ?_; clear hK; clear K) | (clear hK; clear K; refine hK _ ?_; clear hK; clear K) | (clear hK; clear K; clear hK; clear K; refine hK _ ?_; clear hK; clear K) | refine awp_block ?_)
          all_goals first | exact ⟨i + 1, by omega, by omega, by first | rfl | exact e1 | (rw [← List.drop_one]; exact e1), by omega⟩
        · have hp : ptx (.byte b, t) = t := by show (if t.length = 2 then t.drop 1 else t) = _; rw [if_neg h2]
          have e1 := e _ hp
          have z := plain hp
          have h2' : ¬ (t.length : Int) = 2 := by omega
          repeat' (first | ((first | ((with_reducible refine aguard (fun hg => ?_) (fun hg => ?_)) <;> (try simp only [hg]) <;> (try simp only [beq_iff_eq, beq_eq_false_iff_ne, ne_eq, decide_eq_true_eq, decide_eq_false_iff_not, bne_iff_ne, bne_eq_false_iff_eq] at hg) <;> (try (first | simp only [eq_false hg, if_true, if_false] | simp only [eq_true hg, if_true, if_false]))) | with_reducible refine aseq_step ?_ | with_reducible refine any_step' ?_ | with_reducible refine aseq_end ?_ | with_reducible refine any_end' ?_ | refine awp_condC ?_ | refine awp_exit ?_ | refine awp_skip ?_ | refine awp_ret ?_) <;> (try simp (disch := first | omega | simp) [wrap_i64, -aseqC, -anyC, hlt, hx, partAv, hsz, h2, h2', z, bytesA_size, e1])) | ((first | with_reducible refine sideG ?_ ?_ | with_reducible refine sideG2 ?_ ?_ | with_reducible refine sideS ?_ ?_ | with_reducible refine sideS2 ?_ ?_ | with_reducible refine sideS3 ?_ ?_ | with_reducible refine sideA ?_ ?_ | with_reducible refine sideA2 ?_ ?_ | with_reducible refine sideA3 ?_ ?_); (first | omega | assumption | (simp; done))) | (refine awp_seq_k fun K hK => ?_) | (refine awp_regionC ?_) | (refine awp_anyA true (by kernel_rfl) (by kernel_rfl) ?_) | (refine hK _ ?_; clear hK; clear K) | (clear hK; clear K; refine hK _ ?_; clear hK; clear K) | (clear hK; clear K; clear hK; clear K; refine hK _ ?_; clear hK; clear K) | refine awp_block ?_)
          all_goals first | exact absurd (by assumption) h2 | exact absurd (by assumption) h2' | exact ⟨i + 1, by omega, by omega, by first | rfl | exact e1 | (rw [← List.drop_one]; exact e1), by omega⟩
      | star =>
        have e1 := e t rfl
        have z := plain rfl
        repeat' (first | ((first | ((with_reducible refine aguard (fun hg => ?_) (fun hg => ?_)) <;> (try simp only [hg]) <;> (try simp only [beq_iff_eq, beq_eq_false_iff_ne, ne_eq, decide_eq_true_eq, decide_eq_false_iff_not, bne_iff_ne, bne_eq_false_iff_eq] at hg) <;> (try (first | simp only [eq_false hg, if_true, if_false] | simp only [eq_true hg, if_true, if_false]))) | with_reducible refine aseq_step ?_ | with_reducible refine any_step' ?_ | with_reducible refine aseq_end ?_ | with_reducible refine any_end' ?_ | refine awp_condC ?_ | refine awp_exit ?_ | refine awp_skip ?_ | refine awp_ret ?_) <;> (try simp (disch := first | omega | simp) [wrap_i64, -aseqC, -anyC, hlt, hx, partAv, hsz, z, bytesA_size, e1])) | ((first | with_reducible refine sideG ?_ ?_ | with_reducible refine sideG2 ?_ ?_ | with_reducible refine sideS ?_ ?_ | with_reducible refine sideS2 ?_ ?_ | with_reducible refine sideS3 ?_ ?_ | with_reducible refine sideA ?_ ?_ | with_reducible refine sideA2 ?_ ?_ | with_reducible refine sideA3 ?_ ?_); (first | omega | assumption | (simp; done))) | (refine awp_seq_k fun K hK => ?_) | (refine awp_regionC ?_) | (refine awp_anyA true (by kernel_rfl) (by kernel_rfl) ?_) | (refine hK _ ?_; clear hK; clear K) | (clear hK; clear K; refine hK _ ?_; clear hK; clear K) | (clear hK; clear K; clear hK; clear K; refine hK _ ?_; clear hK; clear K) | refine awp_block ?_)
        all_goals first | exact ⟨i + 1, by omega, by omega, by first | rfl | exact e1 | (rw [← List.drop_one]; exact e1), by omega⟩
      | any =>
        have e1 := e t rfl
        have z := plain rfl
        repeat' (first | ((first | ((with_reducible refine aguard (fun hg => ?_) (fun hg => ?_)) <;> (try simp only [hg]) <;> (try simp only [beq_iff_eq, beq_eq_false_iff_ne, ne_eq, decide_eq_true_eq, decide_eq_false_iff_not, bne_iff_ne, bne_eq_false_iff_eq] at hg) <;> (try (first | simp only [eq_false hg, if_true, if_false] | simp only [eq_true hg, if_true, if_false]))) | with_reducible refine aseq_step ?_ | with_reducible refine any_step' ?_ | with_reducible refine aseq_end ?_ | with_reducible refine any_end' ?_ | refine awp_condC ?_ | refine awp_exit ?_ | refine awp_skip ?_ | refine awp_ret ?_) <;> (try simp (disch := first | omega | simp) [wrap_i64, -aseqC, -anyC, hlt, hx, partAv, hsz, z, bytesA_size, e1])) | ((first | with_reducible refine sideG ?_ ?_ | with_reducible refine sideG2 ?_ ?_ | with_reducible refine sideS ?_ ?_ | with_reducible refine sideS2 ?_ ?_ | with_reducible refine sideS3 ?_ ?_ | with_reducible refine sideA ?_ ?_ | with_reducible refine sideA2 ?_ ?_ | with_reducible refine sideA3 ?_ ?_); (first | omega | assumption | (simp; done))) | (refine awp_seq_k fun K hK => ?_) | (refine awp_regionC ?_) | (refine awp_anyA true (by kernel_rfl) (by kernel_rfl) ?_) | (refine hK _ ?_; clear hK; clear K) | (clear hK; clear K; refine hK _ ?_; clear hK; clear K) | (clear hK; clear K; clear hK; clear K; refine hK _ ?_; clear hK; clear K) | refine awp_block ?_)
        all_goals first | exact ⟨i + 1, by omega, by omega, by first | rfl | exact e1 | (rw [← List.drop_one]; exact e1), by omega⟩
      | cls set neg =>
        have e1 := e t rfl
        have z := plain rfl
        repeat' (first | ((first | ((with_reducible refine aguard (fun hg => ?_) (fun hg => ?_)) <;> (try simp only [hg]) <;> (try simp only [beq_iff_eq, beq_eq_false_iff_ne, ne_eq, decide_eq_true_eq, decide_eq_false_iff_not, bne_iff_ne, bne_eq_false_iff_eq] at hg) <;> (try (first | simp only [eq_false hg, if_true, if_false] | simp only [eq_true hg, if_true, if_false]))) | with_reducible refine aseq_step ?_ | with_reducible refine any_step' ?_ | with_reducible refine aseq_end ?_ | with_reducible refine any_end' ?_ | refine awp_condC ?_ | refine awp_exit ?_ | refine awp_skip ?_ | refine awp_ret ?_) <;> (try simp (disch := first | omega | simp) [wrap_i64, -aseqC, -anyC, hlt, hx, partAv, hsz, z, bytesA_size, e1])) | ((first | with_reducible refine sideG ?_ ?_ | with_reducible refine sideG2 ?_ ?_ | with_reducible refine sideS ?_ ?_ | with_reducible refine sideS2 ?_ ?_ | with_reducible refine sideS3 ?_ ?_ | with_reducible refine sideA ?_ ?_ | with_reducible refine sideA2 ?_ ?_ | with_reducible refine sideA3 ?_ ?_); (first | omega | assumption | (simp; done))) | (refine awp_seq_k fun K hK => ?_) | (refine awp_regionC ?_) | (refine awp_anyA true (by kernel_rfl) (by kernel_rfl) ?_) | (refine hK _ ?_; clear hK; clear K) | (clear hK; clear K; refine hK _ ?_; clear hK; clear K) | (clear hK; clear K; clear hK; clear K; refine hK _ ?_; clear hK; clear K) | refine awp_block ?_)
        all_goals first | exact ⟨i + 1, by omega, by omega, by first | rfl | exact e1 | (rw [← List.drop_one]; exact e1), by omega⟩
  · obtain rfl : i = L.length := by omega
    repeat' (first | ((first | ((with_reducible refine aguard (fun hg => ?_) (fun hg => ?_)) <;> (try simp only [hg]) <;> (try simp only [beq_iff_eq, beq_eq_false_iff_ne, ne_eq, decide_eq_true_eq, decide_eq_false_iff_not, bne_iff_ne, bne_eq_false_iff_eq] at hg) <;> (try (first | simp only [eq_false hg, if_true, if_false] | simp only [eq_true hg, if_true, if_false]))) | with_reducible refine aseq_step ?_ | with_reducible refine any_step' ?_ | with_reducible refine aseq_end ?_ | with_reducible refine any_end' ?_ | refine awp_condC ?_ | refine awp_exit ?_ | refine awp_skip ?_ | refine awp_ret ?_) <;> (try simp (disch := first | omega | simp) [wrap_i64, -aseqC, -anyC, hlt])) | ((first | with_reducible refine sideG ?_ ?_ | with_reducible refine sideG2 ?_ ?_ | with_reducible refine sideS ?_ ?_ | with_reducible refine sideS2 ?_ ?_ | with_reducible refine sideS3 ?_ ?_ | with_reducible refine sideA ?_ ?_ | with_reducible refine sideA2 ?_ ?_ | with_reducible refine sideA3 ?_ ?_); (first | omega | assumption | (simp; done))) | (refine awp_seq_k fun K hK => ?_) | (refine awp_regionC ?_) | (refine awp_anyA true (by kernel_rfl) (by kernel_rfl) ?_) | (refine hK _ ?_; clear hK; clear K) | (clear hK; clear K; refine hK _ ?_; clear hK; clear K) | (clear hK; clear K; clear hK; clear K; refine hK _ ?_; clear hK; clear K) | refine awp_block ?_)
end Go.Proofs.YtkhmlicikbnmdaaDoor

/- Walks of the reference of chapter 02: Lines, Fields. -/
namespace Go.Proofs.YtkhmlicikbnmdaaDoor
open Go.RowKit Go.Lib

/-- lines as the reference makes them -/
def rlF : List UInt8 → List UInt8 → List (List UInt8)
  | now, [] => if now = [] then [] else [now]
  | now, c :: r => if c = 10 then now :: rlF [] r else rlF (now ++ [c]) r
theorem rlF_eq : ∀ (r now : List UInt8), (10 : UInt8) ∉ now → rlF now r = rlines (now ++ r)
  | [], now, h => by
    rw [rlF, List.append_nil]
    unfold rlines
    rw [brk_none h]
    by_cases hn : now = []
    · subst hn; rfl
    · rw [if_neg hn, if_neg (by simpa using hn)]
  | c :: r, now, h => by
    rw [rlF]
    by_cases hc : c = 10
    · subst hc
      rw [if_pos rfl, rlF_eq r [] (by simp), List.nil_append]
      unfold rlines
      rw [brk_app h]
      have hne := brk_ne 10 r
      rw [List.getLast?_cons_of_ne_nil hne, List.dropLast_cons_of_ne_nil hne]
      split <;> rfl
    · rw [if_neg hc, rlF_eq r (now ++ [c]) (by simp only [List.mem_append, List.mem_singleton, not_or]; exact ⟨h, fun e => hc e.symm⟩), List.append_assoc]; rfl
theorem rlF_len : ∀ (r now : List UInt8), (rlF now r).length ≤ r.length + 1
  | [], now => by rw [rlF]; split <;> simp
  | c :: r, now => by
    rw [rlF]
    split
    · have := rlF_len r []; simp; omega
    · have := rlF_len r (now ++ [c]); simp; omega
theorem fld_len' : ∀ (l now : List UInt8), (fldA now l).length ≤ l.length + 1
  | [], now => by rw [fldA]; split <;> simp
  | c :: r, now => by
    rw [fldA]
    split
    · split
      · have := fld_len' r []; simp; omega
      · have := fld_len' r []; simp; omega
    · have := fld_len' r (now ++ [c]); simp; omega
theorem cut_snoc' {l : List UInt8} {a i : Nat} (ha : a ≤ i) (hi : i < l.length) : (l.drop a).take (i + 1 - a) = (l.drop a).take (i - a) ++ [l[i]] := by
  have e : i + 1 - a = (i - a) + 1 := by omega
  rw [e, List.take_succ_eq_append_getElem (by rw [List.length_drop]; omega), List.getElem_drop]
  congr 2
  simp only [Nat.add_sub_cancel' ha]
set_option maxHeartbeats 2000000 in
theorem rlines_g (s : ByteArray) (hs : s.size ≤ 1000000) : Gives Tryd.prog 37 [.str s] (.sl (strs (linesP s.data.toList))) := by
  obtain ⟨l, hl⟩ : ∃ l, l = s.data.toList := ⟨_, rfl⟩
  have hsz : l.length = s.size := by rw [hl, ← Lib.size_eq]
  obtain ⟨R, hR⟩ : ∃ R, R = linesP l := ⟨_, rfl⟩
  have hR2 : rlF [] l = R := by rw [hR, rlF_eq l [] (by simp), List.nil_append, lines_eq]
  have hRl : R.length ≤ s.size + 1 := by rw [← hR2, ← hsz]; exact rlF_len l []
  rw [← hl, ← hR]
  clear hR
  refine gives_of_awp Tryd.func37 Tryd.ntmps37 rfl rfl (by decide) rfl (by intro n; simp) fun σ n0 hcl hft => ?_
  repeat' (first | ((first | ((with_reducible refine aguard (fun hg => ?_) (fun hg => ?_)) <;> (try simp only [hg]) <;> (try simp only [beq_iff_eq, beq_eq_false_iff_ne, ne_eq, decide_eq_true_eq, decide_eq_false_iff_not, bne_iff_ne, bne_eq_false_iff_eq] at hg) <;> (try (first | simp only [eq_false hg, if_true, if_false] | simp only [eq_true hg, if_true, if_false]))) | with_reducible refine aseq_step ?_ | with_reducible refine any_step' ?_ | with_reducible refine aseq_end ?_ | with_reducible refine any_end' ?_ | refine awp_condC ?_ | refine awp_exit ?_ | refine awp_skip ?_ | refine awp_ret ?_) <;> (try simp (disch := first | omega | simp) [wrap_i64, -aseqC, -anyC])) | ((first | with_reducible refine sideG ?_ ?_ | with_reducible refine sideG2 ?_ ?_ | with_reducible refine sideS ?_ ?_ | with_reducible refine sideS2 ?_ ?_ | with_reducible refine sideS3 ?_ ?_ | with_reducible refine sideA ?_ ?_ | with_reducible refine sideA2 ?_ ?_ | with_reducible refine sideA3 ?_ ?_); (first | omega | assumption | (simp; done))) | (refine awp_seq_k fun K hK => ?_) | (refine awp_regionC ?_) | (refine awp_anyA true (by kernel_rfl) (by kernel_rfl) ?_) | (refine hK _ ?_; clear hK; clear K) | (clear hK; clear K; refine hK _ ?_; clear hK; clear K) | (clear hK; clear K; clear hK; clear K; refine hK _ ?_; clear hK; clear K) | refine awp_block ?_)
  refine awp_adoptR 3 9 1 (by simp) ?_
  refine awp_loopC hcl (fun x : List (List UInt8) × Nat × Nat => [(0, .str s), (3, .gs n0 (strs x.1)), (4, .int x.2.1), (5, .int x.2.2)]) (fun x => [.tail x.1.length 9 1])
    (fun x => x.2.1 ≤ x.2.2 ∧ x.2.2 ≤ s.size ∧ x.1 ++ rlF ((l.drop x.2.1).take (x.2.2 - x.2.1)) (l.drop x.2.2) = R) (fun x => s.size - x.2.2) ([], 0, 0) ⟨Nat.le_refl _, Nat.zero_le _, by simpa using hR2⟩ (by simp) fun ⟨acc, a, i⟩ ⟨h1, h2, hin⟩ => ?_
  dsimp only at h1 h2 hin ⊢
  have hal : acc.length ≤ s.size + 1 := by have := congrArg List.length hin; rw [List.length_append] at this; omega
  have hx := extract_bytes s a i
  rw [← hl] at hx
  by_cases hlt : i < s.size
  · have hlt3 : i < s.data.size := hlt
    have hgi : l[i]'(by omega) = s.data[i] := by simp only [hl]; rw [Array.getElem_toList]
    have hd : l.drop i = s.data[i] :: l.drop (i + 1) := by rw [List.drop_eq_getElem_cons (by omega), hgi]
    rw [hd, rlF] at hin
    by_cases h10 : s.data[i] = 10
    · rw [if_pos h10] at hin
      have g10 : s.data[i].toNat = 10 := by rw [h10]; rfl
      repeat' (first | ((first | ((with_reducible refine aguard (fun hg => ?_) (fun hg => ?_)) <;> (try simp only [hg]) <;> (try simp only [beq_iff_eq, beq_eq_false_iff_ne, ne_eq, decide_eq_true_eq, decide_eq_false_iff_not, bne_iff_ne, bne_eq_false_iff_eq] at hg) <;> (try (first | simp only [eq_false hg, if_true, if_false] | simp only [eq_true hg, if_true, if_false]))) | with_reducible refine aseq_step ?_ | with_reducible refine any_step' ?_ | with_reducible refine aseq_end ?_ | with_reducible refine any_end' ?_ | refine awp_condC ?_ | refine awp_exit ?_ | refine awp_skip ?_ | refine awp_ret ?_) <;> (try simp (disch := first | omega | simp) [wrap_i64, -aseqC, -anyC, hlt, hlt3, g10, hx, h1])) | ((first | with_reducible refine sideG ?_ ?_ | with_reducible refine sideG2 ?_ ?_ | with_reducible refine sideS ?_ ?_ | with_reducible refine sideS2 ?_ ?_ | with_reducible refine sideS3 ?_ ?_ | with_reducible refine sideA ?_ ?_ | with_reducible refine sideA2 ?_ ?_ | with_reducible refine sideA3 ?_ ?_); (first | omega | assumption | (simp; done))) | (refine awp_seq_k fun K hK => ?_) | (refine awp_regionC ?_) | (refine awp_anyA true (by kernel_rfl) (by kernel_rfl) ?_) | (refine hK _ ?_; clear hK; clear K) | (clear hK; clear K; refine hK _ ?_; clear hK; clear K) | (clear hK; clear K; clear hK; clear K; refine hK _ ?_; clear hK; clear K) | refine awp_block ?_)
      all_goals exact ⟨acc ++ [(l.drop a).take (i - a)], i + 1, i + 1, ⟨by omega, by omega, by rw [Nat.sub_self, List.take_zero, ← hin]; simp⟩, by omega, by simp, by simp, by omega, by omega⟩
    · rw [if_neg h10, ← hgi, ← cut_snoc' h1 (by omega)] at hin
      have g10 : ¬ (s.data[i].toNat : Int) = 10 := fun h => h10 (UInt8.toNat_inj.1 (by have e : (10 : UInt8).toNat = 10 := rfl; omega))
      repeat' (first | ((first | ((with_reducible refine aguard (fun hg => ?_) (fun hg => ?_)) <;> (try simp only [hg]) <;> (try simp only [beq_iff_eq, beq_eq_false_iff_ne, ne_eq, decide_eq_true_eq, decide_eq_false_iff_not, bne_iff_ne, bne_eq_false_iff_eq] at hg) <;> (try (first | simp only [eq_false hg, if_true, if_false] | simp only [eq_true hg, if_true, if_false]))) | with_reducible refine aseq_step ?_ | with_reducible refine any_step' ?_ | with_reducible refine aseq_end ?_ | with_reducible refine any_end' ?_ | refine awp_condC ?_ | refine awp_exit ?_ | refine awp_skip ?_ | refine awp_ret ?_) <;> (try simp (disch := first | omega | simp) [wrap_i64, -aseqC, -anyC, hlt, hlt3, g10])) | ((first | with_reducible refine sideG ?_ ?_ | with_reducible refine sideG2 ?_ ?_ | with_reducible refine sideS ?_ ?_ | with_reducible refine sideS2 ?_ ?_ | with_reducible refine sideS3 ?_ ?_ | with_reducible refine sideA ?_ ?_ | with_reducible refine sideA2 ?_ ?_ | with_reducible refine sideA3 ?_ ?_); (first | omega | assumption | (simp; done))) | (refine awp_seq_k fun K hK => ?_) | (refine awp_regionC ?_) | (refine awp_anyA true (by kernel_rfl) (by kernel_rfl) ?_) | (refine hK _ ?_; clear hK; clear K) | (clear hK; clear K; refine hK _ ?_; clear hK; clear K) | (clear hK; clear K; clear hK; clear K; refine hK _ ?_; clear hK; clear K) | refine awp_block ?_)
      all_goals first | exact absurd (by assumption) g10 | exact ⟨acc, a, i + 1, ⟨by omega, by omega, hin⟩, by omega, by simp, by simp, by omega, by omega⟩
  · obtain rfl : i = s.size := by omega
    have hdn : l.drop s.size = [] := List.drop_of_length_le (by omega)
    rw [hdn, rlF] at hin
    by_cases ha : a < s.size
    · have hne : ¬ (l.drop a).take (s.size - a) = [] := fun h => by
        have := congrArg List.length h
        rw [List.length_take, List.length_drop, List.length_nil] at this; omega
      rw [if_neg hne] at hin
      repeat' (first | ((first | ((with_reducible refine aguard (fun hg => ?_) (fun hg => ?_)) <;> (try simp only [hg]) <;> (try simp only [beq_iff_eq, beq_eq_false_iff_ne, ne_eq, decide_eq_true_eq, decide_eq_false_iff_not, bne_iff_ne, bne_eq_false_iff_eq] at hg) <;> (try (first | simp only [eq_false hg, if_true, if_false] | simp only [eq_true hg, if_true, if_false]))) | with_reducible refine aseq_step ?_ | with_reducible refine any_step' ?_ | with_reducible refine aseq_end ?_ | with_reducible refine any_end' ?_ | refine awp_condC ?_ | refine awp_exit ?_ | refine awp_skip ?_ | refine awp_ret ?_) <;> (try simp (disch := first | omega | simp) [wrap_i64, -aseqC, -anyC, hlt, ha, hx])) | ((first | with_reducible refine sideG ?_ ?_ | with_reducible refine sideG2 ?_ ?_ | with_reducible refine sideS ?_ ?_ | with_reducible refine sideS2 ?_ ?_ | with_reducible refine sideS3 ?_ ?_ | with_reducible refine sideA ?_ ?_ | with_reducible refine sideA2 ?_ ?_ | with_reducible refine sideA3 ?_ ?_); (first | omega | assumption | (simp; done))) | (refine awp_seq_k fun K hK => ?_) | (refine awp_regionC ?_) | (refine awp_anyA true (by kernel_rfl) (by kernel_rfl) ?_) | (refine hK _ ?_; clear hK; clear K) | (clear hK; clear K; refine hK _ ?_; clear hK; clear K) | (clear hK; clear K; clear hK; clear K; refine hK _ ?_; clear hK; clear K) | refine awp_block ?_)
      all_goals (rw [← hin]; simp)
    · have he : (l.drop a).take (s.size - a) = [] := List.eq_nil_of_length_eq_zero (by rw [List.length_take, List.length_drop]; omega)
      rw [if_pos he, List.append_nil] at hin
      repeat' (first | ((first | ((with_reducible refine aguard (fun hg => ?_) (fun hg => ?_)) <;> (try simp only [hg]) <;> (try simp only [beq_iff_eq, beq_eq_false_iff_ne, ne_eq, decide_eq_true_eq, decide_eq_false_iff_not, bne_iff_ne, bne_eq_false_iff_eq] at hg) <;> (try (first | simp only [eq_false hg, if_true, if_false] | simp only [eq_true hg, if_true, if_false]))) | with_reducible refine aseq_step ?_ | with_reducible refine any_step' ?_ | with_reducible refine aseq_end ?_ | with_reducible refine any_end' ?_ | refine awp_condC ?_ | refine awp_exit ?_ | refine awp_skip ?_ | refine awp_ret ?_) <;> (try simp (disch := first | omega | simp) [wrap_i64, -aseqC, -anyC, hlt, ha])) | ((first | with_reducible refine sideG ?_ ?_ | with_reducible refine sideG2 ?_ ?_ | with_reducible refine sideS ?_ ?_ | with_reducible refine sideS2 ?_ ?_ | with_reducible refine sideS3 ?_ ?_ | with_reducible refine sideA ?_ ?_ | with_reducible refine sideA2 ?_ ?_ | with_reducible refine sideA3 ?_ ?_); (first | omega | assumption | (simp; done))) | (refine awp_seq_k fun K hK => ?_) | (refine awp_regionC ?_) | (refine awp_anyA true (by kernel_rfl) (by kernel_rfl) ?_) | (refine hK _ ?_; clear hK; clear K) | (clear hK; clear K; refine hK _ ?_; clear hK; clear K) | (clear hK; clear K; clear hK; clear K; refine hK _ ?_; clear hK; clear K) | refine awp_block ?_)
      all_goals (rw [hin])
set_option maxHeartbeats 2000000 in
theorem rfields_g (s : ByteArray) (hs : s.size ≤ 1000000) : Gives Tryd.prog 39 [.str s] (.sl (strs (fieldsP s.data.toList))) := by
  obtain ⟨l, hl⟩ : ∃ l, l = s.data.toList := ⟨_, rfl⟩
  have hsz : l.length = s.size := by rw [hl, ← Lib.size_eq]
  obtain ⟨R, hR⟩ : ∃ R, R = fldA [] l := ⟨_, rfl⟩
  have hRl : R.length ≤ s.size + 1 := by rw [hR, ← hsz]; exact fld_len' l []
  rw [← hl]
  show Gives _ _ _ (.sl (strs (fldA [] l)))
  rw [← hR]
  refine gives_of_awp Tryd.func39 Tryd.ntmps39 rfl rfl (by decide) rfl (by intro n; simp) fun σ n0 hcl hft => ?_
  repeat' (first | ((first | ((with_reducible refine aguard (fun hg => ?_) (fun hg => ?_)) <;> (try simp only [hg]) <;> (try simp only [beq_iff_eq, beq_eq_false_iff_ne, ne_eq, decide_eq_true_eq, decide_eq_false_iff_not, bne_iff_ne, bne_eq_false_iff_eq] at hg) <;> (try (first | simp only [eq_false hg, if_true, if_false] | simp only [eq_true hg, if_true, if_false]))) | with_reducible refine aseq_step ?_ | with_reducible refine any_step' ?_ | with_reducible refine aseq_end ?_ | with_reducible refine any_end' ?_ | refine awp_condC ?_ | refine awp_exit ?_ | refine awp_skip ?_ | refine awp_ret ?_) <;> (try simp (disch := first | omega | simp) [wrap_i64, -aseqC, -anyC])) | ((first | with_reducible refine sideG ?_ ?_ | with_reducible refine sideG2 ?_ ?_ | with_reducible refine sideS ?_ ?_ | with_reducible refine sideS2 ?_ ?_ | with_reducible refine sideS3 ?_ ?_ | with_reducible refine sideA ?_ ?_ | with_reducible refine sideA2 ?_ ?_ | with_reducible refine sideA3 ?_ ?_); (first | omega | assumption | (simp; done))) | (refine awp_seq_k fun K hK => ?_) | (refine awp_regionC ?_) | (refine awp_anyA true (by kernel_rfl) (by kernel_rfl) ?_) | (refine hK _ ?_; clear hK; clear K) | (clear hK; clear K; refine hK _ ?_; clear hK; clear K) | (clear hK; clear K; clear hK; clear K; refine hK _ ?_; clear hK; clear K) | refine awp_block ?_)
  refine awp_adoptR 3 9 1 (by simp) ?_
  refine awp_loopC hcl (fun x : List (List UInt8) × List UInt8 × Nat => [(0, .str s), (3, .gs n0 (strs x.1)), (4, .str (bytesA x.2.1)), (5, .int x.2.2)]) (fun x => [.tail x.1.length 9 1])
    (fun x => x.2.1.length ≤ x.2.2 ∧ x.2.2 ≤ s.size ∧ x.1 ++ fldA x.2.1 (l.drop x.2.2) = R) (fun x => s.size - x.2.2) ([], [], 0) ⟨Nat.le_refl _, Nat.zero_le _, by rw [hR]; rfl⟩ (by simp; rfl) fun ⟨acc, now, i⟩ ⟨h1, h2, hin⟩ => ?_
  dsimp only at h1 h2 hin ⊢
  have hal : acc.length ≤ s.size + 1 := by have := congrArg List.length hin; rw [List.length_append] at this; omega
  by_cases hlt : i < s.size
  · have hlt3 : i < s.data.size := hlt
    have hgi : l[i]'(by omega) = s.data[i] := by simp only [hl]; rw [Array.getElem_toList]
    have hd : l.drop i = s.data[i] :: l.drop (i + 1) := by rw [List.drop_eq_getElem_cons (by omega), hgi]
    rw [hd, fldA] at hin
    have nn : ∀ k : UInt8, s.data[i] ≠ k → ¬ (s.data[i].toNat : Int) = k.toNat := fun k h h2 => h (UInt8.toNat_inj.1 (by omega))
    have hw : whiteB s.data[i] = true ↔ s.data[i] = 32 ∨ s.data[i] = 9 ∨ s.data[i] = 10 := by
      unfold whiteB; simp [or_assoc]
    by_cases hwb : whiteB s.data[i] = true
    · rw [if_pos hwb] at hin
      have g : s.data[i].toNat = 32 ∨ s.data[i].toNat = 9 ∨ s.data[i].toNat = 10 := by
        rcases hw.1 hwb with h | h | h <;> rw [h] <;> simp
      by_cases hn : now = []
      · rw [if_pos hn] at hin
        subst hn
        repeat' (first | ((first | ((with_reducible refine aguard (fun hg => ?_) (fun hg => ?_)) <;> (try simp only [hg]) <;> (try simp only [beq_iff_eq, beq_eq_false_iff_ne, ne_eq, decide_eq_true_eq, decide_eq_false_iff_not, bne_iff_ne, bne_eq_false_iff_eq] at hg) <;> (try (first | simp only [eq_false hg, if_true, if_false] | simp only [eq_true hg, if_true, if_false]))) | with_reducible refine aseq_step ?_ | with_reducible refine any_step' ?_ | with_reducible refine aseq_end ?_ | with_reducible refine any_end' ?_ | refine awp_condC ?_ | refine awp_exit ?_ | refine awp_skip ?_ | refine awp_ret ?_) <;> (try simp (disch := first | omega | simp) [wrap_i64, -aseqC, -anyC, hlt, hlt3])) | ((first | with_reducible refine sideG ?_ ?_ | with_reducible refine sideG2 ?_ ?_ | with_reducible refine sideS ?_ ?_ | with_reducible refine sideS2 ?_ ?_ | with_reducible refine sideS3 ?_ ?_ | with_reducible refine sideA ?_ ?_ | with_reducible refine sideA2 ?_ ?_ | with_reducible refine sideA3 ?_ ?_); (first | omega | assumption | (simp; done))) | (refine awp_seq_k fun K hK => ?_) | (refine awp_regionC ?_) | (refine awp_anyA true (by kernel_rfl) (by kernel_rfl) ?_) | (refine hK _ ?_; clear hK; clear K) | (clear hK; clear K; refine hK _ ?_; clear hK; clear K) | (clear hK; clear K; clear hK; clear K; refine hK _ ?_; clear hK; clear K) | refine awp_block ?_)
        all_goals first | (exfalso; omega) | exact ⟨acc, [], i + 1, ⟨by simp, by omega, hin⟩, by omega, by simp, by simp, rfl, by omega⟩
      · rw [if_neg hn] at hin
        have hn2 : now.isEmpty = false := by simpa using hn
        repeat' (first | ((first | ((with_reducible refine aguard (fun hg => ?_) (fun hg => ?_)) <;> (try simp only [hg]) <;> (try simp only [beq_iff_eq, beq_eq_false_iff_ne, ne_eq, decide_eq_true_eq, decide_eq_false_iff_not, bne_iff_ne, bne_eq_false_iff_eq] at hg) <;> (try (first | simp only [eq_false hg, if_true, if_false] | simp only [eq_true hg, if_true, if_false]))) | with_reducible refine aseq_step ?_ | with_reducible refine any_step' ?_ | with_reducible refine aseq_end ?_ | with_reducible refine any_end' ?_ | refine awp_condC ?_ | refine awp_exit ?_ | refine awp_skip ?_ | refine awp_ret ?_) <;> (try simp (disch := first | omega | simp) [wrap_i64, -aseqC, -anyC, hlt, hlt3, hn, hn2])) | ((first | with_reducible refine sideG ?_ ?_ | with_reducible refine sideG2 ?_ ?_ | with_reducible refine sideS ?_ ?_ | with_reducible refine sideS2 ?_ ?_ | with_reducible refine sideS3 ?_ ?_ | with_reducible refine sideA ?_ ?_ | with_reducible refine sideA2 ?_ ?_ | with_reducible refine sideA3 ?_ ?_); (first | omega | assumption | (simp; done))) | (refine awp_seq_k fun K hK => ?_) | (refine awp_regionC ?_) | (refine awp_anyA true (by kernel_rfl) (by kernel_rfl) ?_) | (refine hK _ ?_; clear hK; clear K) | (clear hK; clear K; refine hK _ ?_; clear hK; clear K) | (clear hK; clear K; clear hK; clear K; refine hK _ ?_; clear hK; clear K) | refine awp_block ?_)
        all_goals first | (exfalso; omega) | exact ⟨acc ++ [now], [], i + 1, ⟨by simp, by omega, by rw [← hin]; simp⟩, by omega, by simp, by simp, rfl, by omega⟩
    · rw [if_neg hwb, ← hgi] at hin
      have g32 : ¬ (s.data[i].toNat : Int) = 32 := nn 32 fun h => hwb (hw.2 (.inl h))
      have g9 : ¬ (s.data[i].toNat : Int) = 9 := nn 9 fun h => hwb (hw.2 (.inr (.inl h)))
      have g10 : ¬ (s.data[i].toNat : Int) = 10 := nn 10 fun h => hwb (hw.2 (.inr (.inr h)))
      have q0 : (0 : Int) ≤ (i : Int) + 1 := by omega
      have hi1 : i + 1 ≤ s.size := by omega
      have hx := extract_bytes s i (i + 1)
      rw [← hl, Nat.add_sub_cancel_left, hd, List.take_succ_cons, List.take_zero, ← hgi] at hx
      have z1 : now.length + 1 ≤ 9223372036854775807 := by omega
      have e : bytesA now ++ bytesA [l[i]] = bytesA (now ++ [l[i]]) := (bytesA_append _ _).symm
      have hb1 : (bytesA [l[i]]).size = 1 := bytesA_size _
      repeat' (first | ((first | ((with_reducible refine aguard (fun hg => ?_) (fun hg => ?_)) <;> (try simp only [hg]) <;> (try simp only [beq_iff_eq, beq_eq_false_iff_ne, ne_eq, decide_eq_true_eq, decide_eq_false_iff_not, bne_iff_ne, bne_eq_false_iff_eq] at hg) <;> (try (first | simp only [eq_false hg, if_true, if_false] | simp only [eq_true hg, if_true, if_false]))) | with_reducible refine aseq_step ?_ | with_reducible refine any_step' ?_ | with_reducible refine aseq_end ?_ | with_reducible refine any_end' ?_ | refine awp_condC ?_ | refine awp_exit ?_ | refine awp_skip ?_ | refine awp_ret ?_) <;> (try simp (disch := first | omega | simp) [wrap_i64, -aseqC, -anyC, hlt, hlt3, g32, g9, g10, q0, hi1, hx, z1, bytesA_size, hb1, e])) | ((first | with_reducible refine sideG ?_ ?_ | with_reducible refine sideG2 ?_ ?_ | with_reducible refine sideS ?_ ?_ | with_reducible refine sideS2 ?_ ?_ | with_reducible refine sideS3 ?_ ?_ | with_reducible refine sideA ?_ ?_ | with_reducible refine sideA2 ?_ ?_ | with_reducible refine sideA3 ?_ ?_); (first | omega | assumption | (simp; done))) | (refine awp_seq_k fun K hK => ?_) | (refine awp_regionC ?_) | (refine awp_anyA true (by kernel_rfl) (by kernel_rfl) ?_) | (refine hK _ ?_; clear hK; clear K) | (clear hK; clear K; refine hK _ ?_; clear hK; clear K) | (clear hK; clear K; clear hK; clear K; refine hK _ ?_; clear hK; clear K) | refine awp_block ?_)
      all_goals first | exact absurd (by assumption) g32 | exact absurd (by assumption) g9 | exact absurd (by assumption) g10 | exact ⟨acc, now ++ [l[i]], i + 1, ⟨by simp; omega, by omega, hin⟩, by omega, by simp, by simp, rfl, by omega⟩
  · obtain rfl : i = s.size := by omega
    have hdn : l.drop s.size = [] := List.drop_of_length_le (by omega)
    rw [hdn, fldA] at hin
    by_cases hn : now = []
    · rw [if_pos hn, List.append_nil] at hin
      subst hn
      repeat' (first | ((first | ((with_reducible refine aguard (fun hg => ?_) (fun hg => ?_)) <;> (try simp only [hg]) <;> (try simp only [beq_iff_eq, beq_eq_false_iff_ne, ne_eq, decide_eq_true_eq, decide_eq_false_iff_not, bne_iff_ne, bne_eq_false_iff_eq] at hg) <;> (try (first | simp only [eq_false hg, if_true, if_false] | simp only [eq_true hg, if_true, if_false]))) | with_reducible refine aseq_step ?_ | with_reducible refine any_step' ?_ | with_reducible refine aseq_end ?_ | with_reducible refine any_end' ?_ | refine awp_condC ?_ | refine awp_exit ?_ | refine awp_skip ?_ | refine awp_ret ?_) <;> (try simp (disch := first | omega | simp) [wrap_i64, -aseqC, -anyC, hlt])) | ((first | with_reducible refine sideG ?_ ?_ | with_reducible refine sideG2 ?_ ?_ | with_reducible refine sideS ?_ ?_ | with_reducible refine sideS2 ?_ ?_ | with_reducible refine sideS3 ?_ ?_ | with_reducible refine sideA ?_ ?_ | with_reducible refine sideA2 ?_ ?_ | with_reducible refine sideA3 ?_ ?_); (first | omega | assumption | (simp; done))) | (refine awp_seq_k fun K hK => ?_) | (refine awp_regionC ?_) | (refine awp_anyA true (by kernel_rfl) (by kernel_rfl) ?_) | (refine hK _ ?_; clear hK; clear K) | (clear hK; clear K; refine hK _ ?_; clear hK; clear K) | (clear hK; clear K; clear hK; clear K; refine hK _ ?_; clear hK; clear K) | refine awp_block ?_)
      all_goals (rw [hin])
    · rw [if_neg hn] at hin
      have hn2 : now.isEmpty = false := by simpa using hn
      repeat' (first | ((first | ((with_reducible refine aguard (fun hg => ?_) (fun hg => ?_)) <;> (try simp only [hg]) <;> (try simp only [beq_iff_eq, beq_eq_false_iff_ne, ne_eq, decide_eq_true_eq, decide_eq_false_iff_not, bne_iff_ne, bne_eq_false_iff_eq] at hg) <;> (try (first | simp only [eq_false hg, if_true, if_false] | simp only [eq_true hg, if_true, if_false]))) | with_reducible refine aseq_step ?_ | with_reducible refine any_step' ?_ | with_reducible refine aseq_end ?_ | with_reducible refine any_end' ?_ | refine awp_condC ?_ | refine awp_exit ?_ | refine awp_skip ?_ | refine awp_ret ?_) <;> (try simp (disch := first | omega | simp) [wrap_i64, -aseqC, -anyC, hlt, hn, hn2])) | ((first | with_reducible refine sideG ?_ ?_ | with_reducible refine sideG2 ?_ ?_ | with_reducible refine sideS ?_ ?_ | with_reducible refine sideS2 ?_ ?_ | with_reducible refine sideS3 ?_ ?_ | with_reducible refine sideA ?_ ?_ | with_reducible refine sideA2 ?_ ?_ | with_reducible refine sideA3 ?_ ?_); (first | omega | assumption | (simp; done))) | (refine awp_seq_k fun K hK => ?_) | (refine awp_regionC ?_) | (refine awp_anyA true (by kernel_rfl) (by kernel_rfl) ?_) | (refine hK _ ?_; clear hK; clear K) | (clear hK; clear K; refine hK _ ?_; clear hK; clear K) | (clear hK; clear K; clear hK; clear K; refine hK _ ?_; clear hK; clear K) | refine awp_block ?_)
      all_goals (rw [← hin]; simp)
end Go.Proofs.YtkhmlicikbnmdaaDoor
