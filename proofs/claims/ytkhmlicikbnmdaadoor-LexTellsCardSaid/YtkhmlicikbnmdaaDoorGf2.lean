/- Walks of the reference: kinds of bytes, words, operators. -/
import Derived.Test.YtkhmlicikbnmdaaDoorGa19
set_option linter.unusedSimpArgs false
set_option linter.unusedVariables false
namespace Go.Proofs.YtkhmlicikbnmdaaDoor
open Go.RowKit Go.Lib

theorem rwhite_g (c : UInt8) : Gives Tryd.prog 60 [.v (.int .u8 c.toNat)] (.bool (whiteC c)) := by
  have e : whiteC c = decide ((c.toNat : Int) = 32 ∨ (c.toNat : Int) = 9 ∨ (c.toNat : Int) = 13) := by
    have : ∀ c : _root_.Fin 256, whiteC (UInt8.ofNat c.1) = decide ((c.1 : Int) = 32 ∨ (c.1 : Int) = 9 ∨ (c.1 : Int) = 13) := by decide +kernel
    simpa using this ⟨c.toNat, c.toNat_lt⟩
  obtain ⟨R, hR⟩ : ∃ R, R = whiteC c := ⟨_, rfl⟩
  rw [← hR]
  rw [e] at hR
  refine gives_of_awp Tryd.func60 Tryd.ntmps60 rfl rfl (by decide) rfl (by intro n; simp) fun σ n0 hcl hft => ?_
  repeat' (first | ((first | ((with_reducible refine aguard (fun hg => ?_) (fun hg => ?_)) <;> (try simp only [hg]) <;> (try simp only [beq_iff_eq, beq_eq_false_iff_ne, ne_eq, decide_eq_true_eq, decide_eq_false_iff_not, bne_iff_ne, bne_eq_false_iff_eq] at hg) <;> (try (first | simp only [eq_false hg, if_true, if_false] | simp only [eq_true hg, if_true, if_false]))) | with_reducible refine aseq_step ?_ | with_reducible refine any_step' ?_ | with_reducible refine aseq_end ?_ | with_reducible refine any_end' ?_ | refine awp_condC ?_ | refine awp_exit ?_ | refine awp_skip ?_ | refine awp_ret ?_) <;> (try simp (disch := first | omega | simp) [wrap_i64, -aseqC, -anyC])) | (refine And.intro ?_ ?_; (first | omega | assumption | (simp; done))) | (refine awp_seq_k fun K hK => ?_) | (refine awp_regionC ?_) | (refine awp_anyA true (by kernel_rfl) (by kernel_rfl) ?_) | (refine hK _ ?_; clear hK; clear K) | (clear hK; clear K; refine hK _ ?_; clear hK; clear K) | (clear hK; clear K; clear hK; clear K; refine hK _ ?_; clear hK; clear K) | refine awp_block ?_)
  all_goals (rw [hR]; first | exact decide_eq_true (by omega) | exact decide_eq_false (by omega) | exact decide_eq_decide.2 (by omega))
theorem rdigit17_g (c : UInt8) : Gives Tryd.prog 84 [.v (.int .u8 c.toNat)] (.bool (digitC c)) := by
  have e : digitC c = decide (48 ≤ (c.toNat : Int) ∧ (c.toNat : Int) ≤ 57) := by
    unfold digitC
    exact decide_eq_decide.2 (by omega)
  obtain ⟨R, hR⟩ : ∃ R, R = digitC c := ⟨_, rfl⟩
  rw [← hR]
  rw [e] at hR
  refine gives_of_awp Tryd.func84 Tryd.ntmps84 rfl rfl (by decide) rfl (by intro n; simp) fun σ n0 hcl hft => ?_
  repeat' (first | ((first | ((with_reducible refine aguard (fun hg => ?_) (fun hg => ?_)) <;> (try simp only [hg]) <;> (try simp only [beq_iff_eq, beq_eq_false_iff_ne, ne_eq, decide_eq_true_eq, decide_eq_false_iff_not, bne_iff_ne, bne_eq_false_iff_eq] at hg) <;> (try (first | simp only [eq_false hg, if_true, if_false] | simp only [eq_true hg, if_true, if_false]))) | with_reducible refine aseq_step ?_ | with_reducible refine any_step' ?_ | with_reducible refine aseq_end ?_ | with_reducible refine any_end' ?_ | refine awp_condC ?_ | refine awp_exit ?_ | refine awp_skip ?_ | refine awp_ret ?_) <;> (try simp (disch := first | omega | simp) [wrap_i64, -aseqC, -anyC])) | (refine And.intro ?_ ?_; (first | omega | assumption | (simp; done))) | (refine awp_seq_k fun K hK => ?_) | (refine awp_regionC ?_) | (refine awp_anyA true (by kernel_rfl) (by kernel_rfl) ?_) | (refine hK _ ?_; clear hK; clear K) | (clear hK; clear K; refine hK _ ?_; clear hK; clear K) | (clear hK; clear K; clear hK; clear K; refine hK _ ?_; clear hK; clear K) | refine awp_block ?_)
  all_goals (rw [hR]; first | exact decide_eq_true (by omega) | exact decide_eq_false (by omega) | exact decide_eq_decide.2 (by omega))
set_option maxHeartbeats 1000000 in
theorem rpart_g (c : UInt8) : Gives Tryd.prog 82 [.v (.int .u8 c.toNat)] (.bool (partC c)) := by
  have e : partC c = decide (97 ≤ (c.toNat : Int) ∧ (c.toNat : Int) ≤ 122 ∨ 65 ≤ (c.toNat : Int) ∧ (c.toNat : Int) ≤ 90 ∨ digitC c = true ∨ (c.toNat : Int) = 95) := by
    have : ∀ c : _root_.Fin 256, partC (UInt8.ofNat c.1) = decide (97 ≤ (c.1 : Int) ∧ (c.1 : Int) ≤ 122 ∨ 65 ≤ (c.1 : Int) ∧ (c.1 : Int) ≤ 90 ∨ digitC (UInt8.ofNat c.1) = true ∨ (c.1 : Int) = 95) := by decide +kernel
    simpa using this ⟨c.toNat, c.toNat_lt⟩
  obtain ⟨R, hR⟩ : ∃ R, R = partC c := ⟨_, rfl⟩
  rw [← hR]
  rw [e] at hR
  clear e
  have hdg := rdigit17_g c
  generalize digitC c = D at hR hdg
  cases D
  all_goals (
    refine gives_of_awp Tryd.func82 Tryd.ntmps82 rfl rfl (by decide) rfl (by intro n; simp) fun σ n0 hcl hft => ?_
    repeat' (first | ((first | ((with_reducible refine aguard (fun hg => ?_) (fun hg => ?_)) <;> (try simp only [hg]) <;> (try simp only [beq_iff_eq, beq_eq_false_iff_ne, ne_eq, decide_eq_true_eq, decide_eq_false_iff_not, bne_iff_ne, bne_eq_false_iff_eq] at hg) <;> (try (first | simp only [eq_false hg, if_true, if_false] | simp only [eq_true hg, if_true, if_false]))) | with_reducible refine aseq_step ?_ | with_reducible refine any_step' ?_ | with_reducible refine aseq_end ?_ | with_reducible refine any_end' ?_ | refine acall (hdg) ?_ | refine agives (hdg) ?_ | refine awp_condC ?_ | refine awp_exit ?_ | refine awp_skip ?_ | refine awp_ret ?_) <;> (try simp (disch := first | omega | simp) [wrap_i64, -aseqC, -anyC])) | (refine And.intro ?_ ?_; (first | omega | assumption | (simp; done))) | (refine awp_seq_k fun K hK => ?_) | (refine awp_regionC ?_) | (refine awp_anyA true (by kernel_rfl) (by kernel_rfl) ?_) | (refine hK _ ?_; clear hK; clear K) | (clear hK; clear K; refine hK _ ?_; clear hK; clear K) | (clear hK; clear K; clear hK; clear K; refine hK _ ?_; clear hK; clear K) | refine awp_block ?_)
    all_goals (rw [hR]; first | exact decide_eq_true (by simp; omega) | exact decide_eq_true (by simp) | exact decide_eq_false (by simp; omega) | exact decide_eq_decide.2 (by simp; omega)))
theorem rword_g (s : ByteArray) (a : Nat) (hs : s.size ≤ 1000000) (ha : a ≤ s.size) : Gives Tryd.prog 83 [.str s, .int a] (.int (a + ((s.data.toList.drop a).takeWhile partC).length : Nat)) := by
  obtain ⟨R, hR⟩ : ∃ R, R = a + ((s.data.toList.drop a).takeWhile partC).length := ⟨_, rfl⟩
  rw [← hR]
  have hsz : s.data.toList.length = s.size := by rw [← Lib.size_eq]
  refine gives_of_awp Tryd.func83 Tryd.ntmps83 rfl rfl (by decide) rfl (by intro n; simp) fun σ n0 hcl hft => ?_
  repeat' (first | ((first | ((with_reducible refine aguard (fun hg => ?_) (fun hg => ?_)) <;> (try simp only [hg]) <;> (try simp only [beq_iff_eq, beq_eq_false_iff_ne, ne_eq, decide_eq_true_eq, decide_eq_false_iff_not, bne_iff_ne, bne_eq_false_iff_eq] at hg) <;> (try (first | simp only [eq_false hg, if_true, if_false] | simp only [eq_true hg, if_true, if_false]))) | with_reducible refine aseq_step ?_ | with_reducible refine any_step' ?_ | with_reducible refine aseq_end ?_ | with_reducible refine any_end' ?_ | refine awp_condC ?_ | refine awp_exit ?_ | refine awp_skip ?_ | refine awp_ret ?_) <;> (try simp (disch := first | omega | simp) [wrap_i64, -aseqC, -anyC])) | (refine And.intro ?_ ?_; (first | omega | assumption | (simp; done))) | (refine awp_seq_k fun K hK => ?_) | (refine awp_regionC ?_) | (refine awp_anyA true (by kernel_rfl) (by kernel_rfl) ?_) | (refine hK _ ?_; clear hK; clear K) | (clear hK; clear K; refine hK _ ?_; clear hK; clear K) | (clear hK; clear K; clear hK; clear K; refine hK _ ?_; clear hK; clear K) | refine awp_block ?_)
  refine awp_loopC hcl (fun j : Nat => [(0, .str s), (1, .int j)]) (fun _ => []) (fun j => j ≤ s.size ∧ j + ((s.data.toList.drop j).takeWhile partC).length = R) (fun j => s.size - j) a ⟨ha, hR.symm⟩ (by simp) fun j ⟨hj, hin⟩ => ?_
  by_cases hlt : j < s.size
  · have hlt3 : j < s.data.size := hlt
    have hdj : s.data.toList.drop j = s.data[j] :: s.data.toList.drop (j + 1) := by rw [List.drop_eq_getElem_cons (by omega), Array.getElem_toList]
    rw [hdj, List.takeWhile_cons] at hin
    have hpg := rpart_g s.data[j]
    cases hp : partC s.data[j] with
    | true =>
      rw [hp] at hpg
      rw [if_pos hp, List.length_cons] at hin
      repeat' (first | ((first | ((with_reducible refine aguard (fun hg => ?_) (fun hg => ?_)) <;> (try simp only [hg]) <;> (try simp only [beq_iff_eq, beq_eq_false_iff_ne, ne_eq, decide_eq_true_eq, decide_eq_false_iff_not, bne_iff_ne, bne_eq_false_iff_eq] at hg) <;> (try (first | simp only [eq_false hg, if_true, if_false] | simp only [eq_true hg, if_true, if_false]))) | with_reducible refine aseq_step ?_ | with_reducible refine any_step' ?_ | with_reducible refine aseq_end ?_ | with_reducible refine any_end' ?_ | refine acall (hpg) ?_ | refine agives (hpg) ?_ | refine awp_condC ?_ | refine awp_exit ?_ | refine awp_skip ?_ | refine awp_ret ?_) <;> (try simp (disch := first | omega | simp) [wrap_i64, -aseqC, -anyC, hlt, hlt3])) | (refine And.intro ?_ ?_; (first | omega | assumption | (simp; done))) | (refine awp_seq_k fun K hK => ?_) | (refine awp_regionC ?_) | (refine awp_anyA true (by kernel_rfl) (by kernel_rfl) ?_) | (refine hK _ ?_; clear hK; clear K) | (clear hK; clear K; refine hK _ ?_; clear hK; clear K) | (clear hK; clear K; clear hK; clear K; refine hK _ ?_; clear hK; clear K) | refine awp_block ?_)
      exact ⟨j + 1, ⟨by omega, by omega⟩, by omega, by omega⟩
    | false =>
      rw [hp] at hpg
      rw [if_neg (by rw [hp]; simp), List.length_nil] at hin
      repeat' (first | ((first | ((with_reducible refine aguard (fun hg => ?_) (fun hg => ?_)) <;> (try simp only [hg]) <;> (try simp only [beq_iff_eq, beq_eq_false_iff_ne, ne_eq, decide_eq_true_eq, decide_eq_false_iff_not, bne_iff_ne, bne_eq_false_iff_eq] at hg) <;> (try (first | simp only [eq_false hg, if_true, if_false] | simp only [eq_true hg, if_true, if_false]))) | with_reducible refine aseq_step ?_ | with_reducible refine any_step' ?_ | with_reducible refine aseq_end ?_ | with_reducible refine any_end' ?_ | refine acall (hpg) ?_ | refine agives (hpg) ?_ | refine awp_condC ?_ | refine awp_exit ?_ | refine awp_skip ?_ | refine awp_ret ?_) <;> (try simp (disch := first | omega | simp) [wrap_i64, -aseqC, -anyC, hlt, hlt3])) | (refine And.intro ?_ ?_; (first | omega | assumption | (simp; done))) | (refine awp_seq_k fun K hK => ?_) | (refine awp_regionC ?_) | (refine awp_anyA true (by kernel_rfl) (by kernel_rfl) ?_) | (refine hK _ ?_; clear hK; clear K) | (clear hK; clear K; refine hK _ ?_; clear hK; clear K) | (clear hK; clear K; clear hK; clear K; refine hK _ ?_; clear hK; clear K) | refine awp_block ?_)
      all_goals omega
  · rw [List.drop_of_length_le (by omega), List.takeWhile_nil, List.length_nil] at hin
    repeat' (first | ((first | ((with_reducible refine aguard (fun hg => ?_) (fun hg => ?_)) <;> (try simp only [hg]) <;> (try simp only [beq_iff_eq, beq_eq_false_iff_ne, ne_eq, decide_eq_true_eq, decide_eq_false_iff_not, bne_iff_ne, bne_eq_false_iff_eq] at hg) <;> (try (first | simp only [eq_false hg, if_true, if_false] | simp only [eq_true hg, if_true, if_false]))) | with_reducible refine aseq_step ?_ | with_reducible refine any_step' ?_ | with_reducible refine aseq_end ?_ | with_reducible refine any_end' ?_ | refine awp_condC ?_ | refine awp_exit ?_ | refine awp_skip ?_ | refine awp_ret ?_) <;> (try simp (disch := first | omega | simp) [wrap_i64, -aseqC, -anyC, hlt])) | (refine And.intro ?_ ?_; (first | omega | assumption | (simp; done))) | (refine awp_seq_k fun K hK => ?_) | (refine awp_regionC ?_) | (refine awp_anyA true (by kernel_rfl) (by kernel_rfl) ?_) | (refine hK _ ?_; clear hK; clear K) | (clear hK; clear K; refine hK _ ?_; clear hK; clear K) | (clear hK; clear K; clear hK; clear K; refine hK _ ?_; clear hK; clear K) | refine awp_block ?_)
    all_goals omega
def ops1A : ByteArray := bytesA ops1
theorem ops_idx (c : UInt8) : c ∈ ops1 ↔ ∃ (j : Nat) (h : j < ops1.length), ops1[j] = c := List.mem_iff_getElem
set_option maxHeartbeats 2000000 in
theorem roperator_g (s : ByteArray) (a : Nat) (hs : s.size ≤ 1000000) (ha : a < s.size) : Gives Tryd.prog 86 [.str s, .int a] (.int (operI (s.data.toList.drop a))) := by
  have hsz : s.data.toList.length = s.size := by rw [← Lib.size_eq]
  have ha3 : a < s.data.size := ha
  have hda : s.data.toList.drop a = s.data[a] :: s.data.toList.drop (a + 1) := by rw [List.drop_eq_getElem_cons (by omega), Array.getElem_toList]
  obtain ⟨R, hR⟩ : ∃ R, R = operI (s.data.toList.drop a) := ⟨_, rfl⟩
  rw [← hR]
  obtain ⟨c, hc⟩ : ∃ c, c = s.data[a] := ⟨_, rfl⟩
  obtain ⟨d, hd⟩ : ∃ d : UInt8, d = ((s.data.toList.drop (a + 1)).head?).getD 0 := ⟨_, rfl⟩
  have hdk : ∀ k : UInt8, k ≠ 0 → (((s.data.toList.drop (a + 1)).head? = some k) ↔ d.toNat = k.toNat) := fun k hk => by
    rw [hd]
    cases (s.data.toList.drop (a + 1)).head? with
    | none => exact ⟨fun e => (by cases e), fun e => absurd (UInt8.toNat_inj.1 e).symm hk⟩
    | some x => exact ⟨fun e => by cases e; rfl, fun e => congrArg some (UInt8.toNat_inj.1 e)⟩
  have h61 := hdk 61 (by decide)
  have h43 := hdk 43 (by decide)
  have cn : ∀ k : UInt8, c = k ↔ c.toNat = k.toNat := fun k => UInt8.toNat_inj.symm
  have two : ((c.toNat = 33 ∨ c.toNat = 60 ∨ c.toNat = 62) ∧ d.toNat = 61 ∨ c.toNat = 43 ∧ d.toNat = 43) → R = 2 := fun h => by
    rw [hR, hda, operI, ← hc, if_pos]
    rcases h with ⟨h1, h2⟩ | ⟨h1, h2⟩
    · exact .inl ⟨by rw [cn, cn, cn]; exact h1, h61.2 h2⟩
    · exact .inr ⟨(cn 43).2 h1, h43.2 h2⟩
  have one : ¬ ((c.toNat = 33 ∨ c.toNat = 60 ∨ c.toNat = 62) ∧ d.toNat = 61 ∨ c.toNat = 43 ∧ d.toNat = 43) → R = if c ∈ ops1 then 1 else 0 := fun h => by
    rw [hR, hda, operI, ← hc, if_neg]
    rintro (⟨h1, h2⟩ | ⟨h1, h2⟩)
    · exact h (.inl ⟨by rw [cn, cn, cn] at h1; exact h1, h61.1 h2⟩)
    · exact h (.inr ⟨(cn 43).1 h1, h43.1 h2⟩)
  have hc3 : (s.data[a]).toNat = c.toNat := by rw [hc]
  obtain ⟨O, hO⟩ : ∃ O, O = ops1A := ⟨_, rfl⟩
  have hOs : O.size = 14 := by rw [hO]; rfl
  have hOd : O.data.size = 14 := hOs
  have hOg : ∀ (j : Nat) (h : j < O.data.size), O.data[j] = ops1[j]'(by rw [hOd] at h; exact h) := fun j h => by subst hO; rw [← Array.getElem_toList]; simp [ops1A]; rfl
  by_cases hlt : a + 1 < s.size
  · have hlt3 : a + 1 < s.data.size := hlt
    have hlt' : (a : Int) + 1 < s.size := by omega
    have hd3 : s.data[a + 1] = d := by rw [hd, List.drop_eq_getElem_cons (by omega), List.head?_cons, Array.getElem_toList]; rfl
    have q0 : (0 : Int) ≤ (a : Int) + 1 := by omega
    refine gives_of_awp Tryd.func86 Tryd.ntmps86 rfl rfl (by decide) rfl (by intro n; simp) fun σ n0 hcl hft => ?_
    repeat' (first | ((first | ((with_reducible refine aguard (fun hg => ?_) (fun hg => ?_)) <;> (try simp only [hg]) <;> (try simp only [beq_iff_eq, beq_eq_false_iff_ne, ne_eq, decide_eq_true_eq, decide_eq_false_iff_not, bne_iff_ne, bne_eq_false_iff_eq] at hg) <;> (try (first | simp only [eq_false hg, if_true, if_false] | simp only [eq_true hg, if_true, if_false]))) | with_reducible refine aseq_step ?_ | with_reducible refine any_step' ?_ | with_reducible refine aseq_end ?_ | with_reducible refine any_end' ?_ | refine awp_condC ?_ | refine awp_exit ?_ | refine awp_skip ?_ | refine awp_ret ?_) <;> (try simp (disch := first | omega | simp) [wrap_i64, -aseqC, -anyC, ha, ha3, hlt, hlt3, hlt', hc3, hd3, q0])) | (refine And.intro ?_ ?_; (first | omega | assumption | (simp; done))) | (refine awp_seq_k fun K hK => ?_) | (refine awp_regionC ?_) | (refine awp_anyA true (by kernel_rfl) (by kernel_rfl) ?_) | (refine hK _ ?_; clear hK; clear K) | (clear hK; clear K; refine hK _ ?_; clear hK; clear K) | (clear hK; clear K; clear hK; clear K; refine hK _ ?_; clear hK; clear K) | refine awp_block ?_)
    all_goals first | (have := two (by omega); omega) | skip
    all_goals (
      have h1 := one (by omega)
      refine awp_loopC hcl (fun j : Nat => [(5, .v (.int .u8 c.toNat)), (7, .str O), (8, .int j)]) (fun _ => []) (fun j => j ≤ 14 ∧ ∀ i (h : i < ops1.length), i < j → ops1[i] ≠ c) (fun j => 14 - j) 0 ⟨by omega, fun i _ hi => by omega⟩ (by simp [hO]; rfl) fun j ⟨hj, hin⟩ => ?_
      by_cases hj14 : j < 14
      · have hj3 : j < O.data.size := by omega
        have hog := hOg j hj3
        by_cases hcj : O.data[j] = c
        · have hcj2 : O.data[j].toNat = c.toNat := by rw [hcj]
          have hmem : c ∈ ops1 := List.mem_iff_getElem.2 ⟨j, (by have : ops1.length = 14 := rfl; omega), hog.symm.trans hcj⟩
          rw [if_pos hmem] at h1
          repeat' (first | ((first | ((with_reducible refine aguard (fun hg => ?_) (fun hg => ?_)) <;> (try simp only [hg]) <;> (try simp only [beq_iff_eq, beq_eq_false_iff_ne, ne_eq, decide_eq_true_eq, decide_eq_false_iff_not, bne_iff_ne, bne_eq_false_iff_eq] at hg) <;> (try (first | simp only [eq_false hg, if_true, if_false] | simp only [eq_true hg, if_true, if_false]))) | with_reducible refine aseq_step ?_ | with_reducible refine any_step' ?_ | with_reducible refine aseq_end ?_ | with_reducible refine any_end' ?_ | refine awp_condC ?_ | refine awp_exit ?_ | refine awp_skip ?_ | refine awp_ret ?_) <;> (try simp (disch := first | omega | simp) [wrap_i64, -aseqC, -anyC, hOs, hj14, hj3, hcj2])) | (refine And.intro ?_ ?_; (first | omega | assumption | (simp; done))) | (refine awp_seq_k fun K hK => ?_) | (refine awp_regionC ?_) | (refine awp_anyA true (by kernel_rfl) (by kernel_rfl) ?_) | (refine hK _ ?_; clear hK; clear K) | (clear hK; clear K; refine hK _ ?_; clear hK; clear K) | (clear hK; clear K; clear hK; clear K; refine hK _ ?_; clear hK; clear K) | refine awp_block ?_)
          all_goals omega
        · have hcj2 : ¬ O.data[j].toNat = c.toNat := fun e => hcj (UInt8.toNat_inj.1 e)
          have hcj3 : ¬ (O.data[j].toNat : Int) = c.toNat := fun e => hcj2 (by omega)
          repeat' (first | ((first | ((with_reducible refine aguard (fun hg => ?_) (fun hg => ?_)) <;> (try simp only [hg]) <;> (try simp only [beq_iff_eq, beq_eq_false_iff_ne, ne_eq, decide_eq_true_eq, decide_eq_false_iff_not, bne_iff_ne, bne_eq_false_iff_eq] at hg) <;> (try (first | simp only [eq_false hg, if_true, if_false] | simp only [eq_true hg, if_true, if_false]))) | with_reducible refine aseq_step ?_ | with_reducible refine any_step' ?_ | with_reducible refine aseq_end ?_ | with_reducible refine any_end' ?_ | refine awp_condC ?_ | refine awp_exit ?_ | refine awp_skip ?_ | refine awp_ret ?_) <;> (try simp (disch := first | omega | simp) [wrap_i64, -aseqC, -anyC, hOs, hj14, hj3, hcj2, hcj3])) | (refine And.intro ?_ ?_; (first | omega | assumption | (simp; done))) | (refine awp_seq_k fun K hK => ?_) | (refine awp_regionC ?_) | (refine awp_anyA true (by kernel_rfl) (by kernel_rfl) ?_) | (refine hK _ ?_; clear hK; clear K) | (clear hK; clear K; refine hK _ ?_; clear hK; clear K) | (clear hK; clear K; clear hK; clear K; refine hK _ ?_; clear hK; clear K) | refine awp_block ?_)
          all_goals first | (exfalso; omega) | skip
          refine ⟨j + 1, ⟨by omega, fun i hi hij => ?_⟩, by omega, by omega⟩
          by_cases e : i = j
          · subst e; exact fun e2 => hcj (hog.trans e2)
          · exact hin i hi (by omega)
      · rw [if_neg fun hm => by
          obtain ⟨i, hi, he⟩ := List.mem_iff_getElem.1 hm
          exact hin i hi (by have : ops1.length = 14 := rfl; omega) he] at h1
        repeat' (first | ((first | ((with_reducible refine aguard (fun hg => ?_) (fun hg => ?_)) <;> (try simp only [hg]) <;> (try simp only [beq_iff_eq, beq_eq_false_iff_ne, ne_eq, decide_eq_true_eq, decide_eq_false_iff_not, bne_iff_ne, bne_eq_false_iff_eq] at hg) <;> (try (first | simp only [eq_false hg, if_true, if_false] | simp only [eq_true hg, if_true, if_false]))) | with_reducible refine aseq_step ?_ | with_reducible refine any_step' ?_ | with_reducible refine aseq_end ?_ | with_reducible refine any_end' ?_ | refine awp_condC ?_ | refine awp_exit ?_ | refine awp_skip ?_ | refine awp_ret ?_) <;> (try simp (disch := first | omega | simp) [wrap_i64, -aseqC, -anyC, hOs, hj14])) | (refine And.intro ?_ ?_; (first | omega | assumption | (simp; done))) | (refine awp_seq_k fun K hK => ?_) | (refine awp_regionC ?_) | (refine awp_anyA true (by kernel_rfl) (by kernel_rfl) ?_) | (refine hK _ ?_; clear hK; clear K) | (clear hK; clear K; refine hK _ ?_; clear hK; clear K) | (clear hK; clear K; clear hK; clear K; refine hK _ ?_; clear hK; clear K) | refine awp_block ?_)
        all_goals omega)
  · have hd0 : d = 0 := by rw [hd, List.drop_of_length_le (by omega)]; rfl
    have hd00 : d.toNat = 0 := by rw [hd0]; rfl
    have hlt' : ¬ (a : Int) + 1 < s.size := by omega
    have q0 : (0 : Int) ≤ (a : Int) + 1 := by omega
    refine gives_of_awp Tryd.func86 Tryd.ntmps86 rfl rfl (by decide) rfl (by intro n; simp) fun σ n0 hcl hft => ?_
    repeat' (first | ((first | ((with_reducible refine aguard (fun hg => ?_) (fun hg => ?_)) <;> (try simp only [hg]) <;> (try simp only [beq_iff_eq, beq_eq_false_iff_ne, ne_eq, decide_eq_true_eq, decide_eq_false_iff_not, bne_iff_ne, bne_eq_false_iff_eq] at hg) <;> (try (first | simp only [eq_false hg, if_true, if_false] | simp only [eq_true hg, if_true, if_false]))) | with_reducible refine aseq_step ?_ | with_reducible refine any_step' ?_ | with_reducible refine aseq_end ?_ | with_reducible refine any_end' ?_ | refine awp_condC ?_ | refine awp_exit ?_ | refine awp_skip ?_ | refine awp_ret ?_) <;> (try simp (disch := first | omega | simp) [wrap_i64, -aseqC, -anyC, ha, ha3, hlt, hlt', hc3, q0])) | (refine And.intro ?_ ?_; (first | omega | assumption | (simp; done))) | (refine awp_seq_k fun K hK => ?_) | (refine awp_regionC ?_) | (refine awp_anyA true (by kernel_rfl) (by kernel_rfl) ?_) | (refine hK _ ?_; clear hK; clear K) | (clear hK; clear K; refine hK _ ?_; clear hK; clear K) | (clear hK; clear K; clear hK; clear K; refine hK _ ?_; clear hK; clear K) | refine awp_block ?_)
    all_goals first | (have := two (by omega); omega) | skip
    all_goals (
      have h1 := one (by omega)
      refine awp_loopC hcl (fun j : Nat => [(5, .v (.int .u8 c.toNat)), (7, .str O), (8, .int j)]) (fun _ => []) (fun j => j ≤ 14 ∧ ∀ i (h : i < ops1.length), i < j → ops1[i] ≠ c) (fun j => 14 - j) 0 ⟨by omega, fun i _ hi => by omega⟩ (by simp [hO]; rfl) fun j ⟨hj, hin⟩ => ?_
      by_cases hj14 : j < 14
      · have hj3 : j < O.data.size := by omega
        have hog := hOg j hj3
        by_cases hcj : O.data[j] = c
        · have hcj2 : O.data[j].toNat = c.toNat := by rw [hcj]
          have hmem : c ∈ ops1 := List.mem_iff_getElem.2 ⟨j, (by have : ops1.length = 14 := rfl; omega), hog.symm.trans hcj⟩
          rw [if_pos hmem] at h1
          repeat' (first | ((first | ((with_reducible refine aguard (fun hg => ?_) (fun hg => ?_)) <;> (try simp only [hg]) <;> (try simp only [beq_iff_eq, beq_eq_false_iff_ne, ne_eq, decide_eq_true_eq, decide_eq_false_iff_not, bne_iff_ne, bne_eq_false_iff_eq] at hg) <;> (try (first | simp only [eq_false hg, if_true, if_false] | simp only [eq_true hg, if_true, if_false]))) | with_reducible refine aseq_step ?_ | with_reducible refine any_step' ?_ | with_reducible refine aseq_end ?_ | with_reducible refine any_end' ?_ | refine awp_condC ?_ | refine awp_exit ?_ | refine awp_skip ?_ | refine awp_ret ?_) <;> (try simp (disch := first | omega | simp) [wrap_i64, -aseqC, -anyC, hOs, hj14, hj3, hcj2])) | (refine And.intro ?_ ?_; (first | omega | assumption | (simp; done))) | (refine awp_seq_k fun K hK => ?_) | (refine awp_regionC ?_) | (refine awp_anyA true (by kernel_rfl) (by kernel_rfl) ?_) | (refine hK _ ?_; clear hK; clear K) | (clear hK; clear K; refine hK _ ?_; clear hK; clear K) | (clear hK; clear K; clear hK; clear K; refine hK _ ?_; clear hK; clear K) | refine awp_block ?_)
          all_goals omega
        · have hcj2 : ¬ O.data[j].toNat = c.toNat := fun e => hcj (UInt8.toNat_inj.1 e)
          have hcj3 : ¬ (O.data[j].toNat : Int) = c.toNat := fun e => hcj2 (by omega)
          repeat' (first | ((first | ((with_reducible refine aguard (fun hg => ?_) (fun hg => ?_)) <;> (try simp only [hg]) <;> (try simp only [beq_iff_eq, beq_eq_false_iff_ne, ne_eq, decide_eq_true_eq, decide_eq_false_iff_not, bne_iff_ne, bne_eq_false_iff_eq] at hg) <;> (try (first | simp only [eq_false hg, if_true, if_false] | simp only [eq_true hg, if_true, if_false]))) | with_reducible refine aseq_step ?_ | with_reducible refine any_step' ?_ | with_reducible refine aseq_end ?_ | with_reducible refine any_end' ?_ | refine awp_condC ?_ | refine awp_exit ?_ | refine awp_skip ?_ | refine awp_ret ?_) <;> (try simp (disch := first | omega | simp) [wrap_i64, -aseqC, -anyC, hOs, hj14, hj3, hcj2, hcj3])) | (refine And.intro ?_ ?_; (first | omega | assumption | (simp; done))) | (refine awp_seq_k fun K hK => ?_) | (refine awp_regionC ?_) | (refine awp_anyA true (by kernel_rfl) (by kernel_rfl) ?_) | (refine hK _ ?_; clear hK; clear K) | (clear hK; clear K; refine hK _ ?_; clear hK; clear K) | (clear hK; clear K; clear hK; clear K; refine hK _ ?_; clear hK; clear K) | refine awp_block ?_)
          all_goals first | (exfalso; omega) | skip
          refine ⟨j + 1, ⟨by omega, fun i hi hij => ?_⟩, by omega, by omega⟩
          by_cases e : i = j
          · subst e; exact fun e2 => hcj (hog.trans e2)
          · exact hin i hi (by omega)
      · rw [if_neg fun hm => by
          obtain ⟨i, hi, he⟩ := List.mem_iff_getElem.1 hm
          exact hin i hi (by have : ops1.length = 14 := rfl; omega) he] at h1
        repeat' (first | ((first | ((with_reducible refine aguard (fun hg => ?_) (fun hg => ?_)) <;> (try simp only [hg]) <;> (try simp only [beq_iff_eq, beq_eq_false_iff_ne, ne_eq, decide_eq_true_eq, decide_eq_false_iff_not, bne_iff_ne, bne_eq_false_iff_eq] at hg) <;> (try (first | simp only [eq_false hg, if_true, if_false] | simp only [eq_true hg, if_true, if_false]))) | with_reducible refine aseq_step ?_ | with_reducible refine any_step' ?_ | with_reducible refine aseq_end ?_ | with_reducible refine any_end' ?_ | refine awp_condC ?_ | refine awp_exit ?_ | refine awp_skip ?_ | refine awp_ret ?_) <;> (try simp (disch := first | omega | simp) [wrap_i64, -aseqC, -anyC, hOs, hj14])) | (refine And.intro ?_ ?_; (first | omega | assumption | (simp; done))) | (refine awp_seq_k fun K hK => ?_) | (refine awp_regionC ?_) | (refine awp_anyA true (by kernel_rfl) (by kernel_rfl) ?_) | (refine hK _ ?_; clear hK; clear K) | (clear hK; clear K; refine hK _ ?_; clear hK; clear K) | (clear hK; clear K; clear hK; clear K; refine hK _ ?_; clear hK; clear K) | refine awp_block ?_)
        all_goals omega)
end Go.Proofs.YtkhmlicikbnmdaaDoor
