/- Walk: whether a string is a name (as in chapter 13). -/
import Derived.Test.YtkhmlicikbnmdaaDoorGa19
import Derived.Test.YtkhmlicikbnmdaaDoorGa25
set_option linter.unusedSimpArgs false
set_option linter.unusedVariables false
namespace Go.Proofs.YtkhmlicikbnmdaaDoor
open Go.RowKit Go.Lib

/-- a name -/
def nameP (l : List UInt8) : Bool := !(decide (l = [])) && decide (l.length ≤ 20) && !digitC (l.getD 0 0) && l.all partC
theorem list_size (s : ByteArray) : s.toList.length = s.size := by rw [ByteArray.toList_eq, ← Lib.size_eq]
theorem list_head (s : ByteArray) : s.data[0]?.getD 0 = s.toList.getD 0 0 := by rw [ByteArray.toList_eq]; simp
theorem nameP_empty : nameP [] = false := rfl
theorem nameP_long {s : List UInt8} (h : 20 < s.length) : nameP s = false := by
  unfold nameP; rw [decide_eq_false (p := s.length ≤ 20) (by omega)]; simp
theorem nameP_digit {s : List UInt8} (h1 : 48 ≤ (s.getD 0 0).toNat) (h2 : (s.getD 0 0).toNat ≤ 57) : nameP s = false := by
  have : digitC (s.getD 0 0) = true := by unfold digitC; exact decide_eq_true ⟨h1, h2⟩
  unfold nameP; rw [this]; simp
theorem nameP_bad {s : List UInt8} {k : Nat} (h : k < s.length) (h1 : partC s[k] = false) : nameP s = false := by
  unfold nameP; rw [all_hit h h1]; simp
theorem nameP_good {s : List UInt8} (h0 : s ≠ []) (h1 : s.length ≤ 20) (h2 : ¬ (48 ≤ (s.getD 0 0).toNat ∧ (s.getD 0 0).toNat ≤ 57)) (h3 : ∀ j (h : j < s.length), partC s[j] = true) : nameP s = true := by
  have : digitC (s.getD 0 0) = false := by
    unfold digitC
    exact decide_eq_false h2
  unfold nameP; rw [this, all_end h3, decide_eq_true h1, decide_eq_false h0]; rfl

theorem list_get (s : ByteArray) {k : Nat} (h : k < s.toList.length) (h2 : k < s.data.size) : s.toList[k] = s.data[k] := by
  simp only [ByteArray.toList_eq]; simp
theorem name_or : ∀ n : _root_.Fin 256, partC (UInt8.ofNat n.val) = !(decide (¬ ((n.val : Nat) : Int) = 95) && (decide (((n.val : Nat) : Int) < 48) || decide (57 < ((n.val : Nat) : Int))) &&
    (decide (IntKind.u8.wrap ((n.val % 2 ^ IntKind.u8.bits ||| 32 % 2 ^ IntKind.u8.bits : Nat) : Int) < 97) || decide (122 < IntKind.u8.wrap ((n.val % 2 ^ IntKind.u8.bits ||| 32 % 2 ^ IntKind.u8.bits : Nat) : Int)))) := by decide +kernel
theorem name_byte (c : UInt8) : partC c = !(decide (¬ (c.toNat : Int) = 95) && (decide ((c.toNat : Int) < 48) || decide (57 < (c.toNat : Int))) &&
    (decide (IntKind.u8.wrap ((c.toNat % 2 ^ IntKind.u8.bits ||| 32 % 2 ^ IntKind.u8.bits : Nat) : Int) < 97) || decide (122 < IntKind.u8.wrap ((c.toNat % 2 ^ IntKind.u8.bits ||| 32 % 2 ^ IntKind.u8.bits : Nat) : Int)))) := by
  have := name_or ⟨c.toNat, c.toNat_lt⟩
  simpa using this

set_option maxHeartbeats 1000000 in
theorem name_g (s : ByteArray) (hs : s.size ≤ 1000000) : Gives Tryd.prog 29 [.str s] (.bool (nameP s.toList)) := by
  by_cases h0 : s.toList = []
  · refine gives_of_awp Tryd.func29 Tryd.ntmps29 rfl rfl (by decide) rfl (by intro n; simp) fun σ n0 hcl hft => ?_
    repeat' (first | ((with_reducible refine aguard (fun hg => ?_) (fun hg => ?_)) <;> (try simp only [hg]) <;> (try simp only [beq_iff_eq, beq_eq_false_iff_ne, ne_eq, decide_eq_true_eq, decide_eq_false_iff_not, bne_iff_ne, bne_eq_false_iff_eq] at hg) <;> (try (first | simp only [eq_false hg, if_true, if_false] | simp only [eq_true hg, if_true, if_false])) <;> (try simp (disch := first | omega | simp) [wrap_i64, -aseqC, -anyC, h0])) | (with_reducible refine aseq_step ?_; try simp (disch := first | omega | simp) [wrap_i64, -aseqC, -anyC, h0]) | (with_reducible refine any_step' ?_; try simp (disch := first | omega | simp) [wrap_i64, -aseqC, -anyC, h0]) | (with_reducible refine aseq_end ?_; try simp (disch := first | omega | simp) [wrap_i64, -aseqC, -anyC, h0]) | (with_reducible refine any_end' ?_; try simp (disch := first | omega | simp) [wrap_i64, -aseqC, -anyC, h0]) | ((first | with_reducible refine sideG ?_ ?_ | with_reducible refine sideG2 ?_ ?_ | with_reducible refine sideS ?_ ?_ | with_reducible refine sideS2 ?_ ?_ | with_reducible refine sideS3 ?_ ?_ | with_reducible refine sideA ?_ ?_ | with_reducible refine sideA2 ?_ ?_ | with_reducible refine sideA3 ?_ ?_); (first | omega | assumption | (simp; done))) | (refine awp_seq_k fun K hK => ?_) | (refine awp_regionC ?_) | (refine awp_anyA true (by kernel_rfl) (by kernel_rfl) ?_) | (refine awp_anyA false (by kernel_rfl) (by kernel_rfl) ?_) | (refine hK _ ?_; clear hK; clear K) | (clear hK; clear K; refine hK _ ?_; clear hK; clear K) | (clear hK; clear K; clear hK; clear K; refine hK _ ?_; clear hK; clear K) | refine awp_block ?_ | (refine awp_condC ?_; simp (disch := first | omega | simp) [wrap_i64, -aseqC, -anyC, h0]) | (refine awp_exit ?_; try simp (disch := first | omega | simp) [wrap_i64, -aseqC, -anyC, h0]) | (refine awp_skip ?_; try simp (disch := first | omega | simp) [wrap_i64, -aseqC, -anyC, h0]) | (refine awp_ret ?_; try simp (disch := first | omega | simp) [wrap_i64, -aseqC, -anyC, h0]))
    all_goals (first | (rw [h0]; rfl) | rfl | simp_all)
  · have hp : 0 < s.size := by
      refine Nat.pos_of_ne_zero fun h => h0 ?_
      exact List.eq_nil_of_length_eq_zero (by rw [list_size]; exact h)
    have he : s.toList.isEmpty = false := by simpa using h0
    have hl := list_size s
    have hh := list_head s
    have hle : s.size ≤ 9223372036854775806 := by omega
    refine gives_of_awp Tryd.func29 Tryd.ntmps29 rfl rfl (by decide) rfl (by intro n; simp) fun σ n0 hcl hft => ?_
    repeat' (first | ((with_reducible refine aguard (fun hg => ?_) (fun hg => ?_)) <;> (try simp only [hg]) <;> (try simp only [beq_iff_eq, beq_eq_false_iff_ne, ne_eq, decide_eq_true_eq, decide_eq_false_iff_not, bne_iff_ne, bne_eq_false_iff_eq] at hg) <;> (try (first | simp only [eq_false hg, if_true, if_false] | simp only [eq_true hg, if_true, if_false])) <;> (try simp (disch := first | omega | simp) [wrap_i64, -aseqC, -anyC, he, hle])) | (with_reducible refine aseq_step ?_; try simp (disch := first | omega | simp) [wrap_i64, -aseqC, -anyC, he, hle]) | (with_reducible refine any_step' ?_; try simp (disch := first | omega | simp) [wrap_i64, -aseqC, -anyC, he, hle]) | (with_reducible refine aseq_end ?_; try simp (disch := first | omega | simp) [wrap_i64, -aseqC, -anyC, he, hle]) | (with_reducible refine any_end' ?_; try simp (disch := first | omega | simp) [wrap_i64, -aseqC, -anyC, he, hle]) | ((first | with_reducible refine sideG ?_ ?_ | with_reducible refine sideG2 ?_ ?_ | with_reducible refine sideS ?_ ?_ | with_reducible refine sideS2 ?_ ?_ | with_reducible refine sideS3 ?_ ?_ | with_reducible refine sideA ?_ ?_ | with_reducible refine sideA2 ?_ ?_ | with_reducible refine sideA3 ?_ ?_); (first | omega | assumption | (simp; done))) | (refine awp_seq_k fun K hK => ?_) | (refine awp_regionC ?_) | (refine awp_anyA true (by kernel_rfl) (by kernel_rfl) ?_) | (refine awp_anyA false (by kernel_rfl) (by kernel_rfl) ?_) | (refine hK _ ?_; clear hK; clear K) | (clear hK; clear K; refine hK _ ?_; clear hK; clear K) | (clear hK; clear K; clear hK; clear K; refine hK _ ?_; clear hK; clear K) | refine awp_block ?_ | (refine awp_condC ?_; simp (disch := first | omega | simp) [wrap_i64, -aseqC, -anyC, he, hle]) | (refine awp_exit ?_; try simp (disch := first | omega | simp) [wrap_i64, -aseqC, -anyC, he, hle]) | (refine awp_skip ?_; try simp (disch := first | omega | simp) [wrap_i64, -aseqC, -anyC, he, hle]) | (refine awp_ret ?_; try simp (disch := first | omega | simp) [wrap_i64, -aseqC, -anyC, he, hle]))
    · exact nameP_long (by omega)
    · exact nameP_digit (by rw [← hh]; omega) (by rw [← hh]; omega)
    all_goals
      refine awp_loopC hcl (fun k : Nat => [(23, .sl (s.data.toList.map AV.byte)), (24, .int s.data.size), (25, .int k)]) (fun _ => [])
        (fun k => k ≤ s.toList.length ∧ ∀ j (h : j < s.toList.length), j < k → partC s.toList[j] = true) (fun k => s.toList.length - k) 0 (by simp) (by simp) fun k ⟨hk, hb⟩ => ?_
      by_cases hlt : k < s.size
      · have hlt2 : k < s.toList.length := by omega
        have hlt3 : k < s.data.size := hlt
        have hlg := list_get s hlt2 hlt3
        have hn := name_byte s.data[k]
        repeat' (first | ((with_reducible refine aguard (fun hg => ?_) (fun hg => ?_)) <;> (try simp only [hg]) <;> (try simp only [beq_iff_eq, beq_eq_false_iff_ne, ne_eq, decide_eq_true_eq, decide_eq_false_iff_not, bne_iff_ne, bne_eq_false_iff_eq] at hg) <;> (try (first | simp only [eq_false hg, if_true, if_false] | simp only [eq_true hg, if_true, if_false])) <;> (try simp (disch := first | omega | simp) [wrap_i64, -aseqC, -anyC, hlt, hlt3])) | (with_reducible refine aseq_step ?_; try simp (disch := first | omega | simp) [wrap_i64, -aseqC, -anyC, hlt, hlt3]) | (with_reducible refine any_step' ?_; try simp (disch := first | omega | simp) [wrap_i64, -aseqC, -anyC, hlt, hlt3]) | (with_reducible refine aseq_end ?_; try simp (disch := first | omega | simp) [wrap_i64, -aseqC, -anyC, hlt, hlt3]) | (with_reducible refine any_end' ?_; try simp (disch := first | omega | simp) [wrap_i64, -aseqC, -anyC, hlt, hlt3]) | ((first | with_reducible refine sideG ?_ ?_ | with_reducible refine sideG2 ?_ ?_ | with_reducible refine sideS ?_ ?_ | with_reducible refine sideS2 ?_ ?_ | with_reducible refine sideS3 ?_ ?_ | with_reducible refine sideA ?_ ?_ | with_reducible refine sideA2 ?_ ?_ | with_reducible refine sideA3 ?_ ?_); (first | omega | assumption | (simp; done))) | (refine awp_seq_k fun K hK => ?_) | (refine awp_regionC ?_) | (refine awp_anyA true (by kernel_rfl) (by kernel_rfl) ?_) | (refine awp_anyA false (by kernel_rfl) (by kernel_rfl) ?_) | (refine hK _ ?_; clear hK; clear K) | (clear hK; clear K; refine hK _ ?_; clear hK; clear K) | (clear hK; clear K; clear hK; clear K; refine hK _ ?_; clear hK; clear K) | refine awp_block ?_ | (refine awp_condC ?_; simp (disch := first | omega | simp) [wrap_i64, -aseqC, -anyC, hlt, hlt3]) | (refine awp_exit ?_; try simp (disch := first | omega | simp) [wrap_i64, -aseqC, -anyC, hlt, hlt3]) | (refine awp_skip ?_; try simp (disch := first | omega | simp) [wrap_i64, -aseqC, -anyC, hlt, hlt3]) | (refine awp_ret ?_; try simp (disch := first | omega | simp) [wrap_i64, -aseqC, -anyC, hlt, hlt3]))
        all_goals
          first
          | exact nameP_bad hlt2 (by rw [hlg, hn]; simp only [*]; simp)
          | exact ⟨k + 1, ⟨by omega, upto_succ (C := fun c => partC c = true) hb fun _ => by rw [hlg, hn]; simp only [*]; simp⟩, by omega, by simp⟩
      · repeat' (first | ((with_reducible refine aguard (fun hg => ?_) (fun hg => ?_)) <;> (try simp only [hg]) <;> (try simp only [beq_iff_eq, beq_eq_false_iff_ne, ne_eq, decide_eq_true_eq, decide_eq_false_iff_not, bne_iff_ne, bne_eq_false_iff_eq] at hg) <;> (try (first | simp only [eq_false hg, if_true, if_false] | simp only [eq_true hg, if_true, if_false])) <;> (try simp (disch := first | omega | simp) [wrap_i64, -aseqC, -anyC, hlt])) | (with_reducible refine aseq_step ?_; try simp (disch := first | omega | simp) [wrap_i64, -aseqC, -anyC, hlt]) | (with_reducible refine any_step' ?_; try simp (disch := first | omega | simp) [wrap_i64, -aseqC, -anyC, hlt]) | (with_reducible refine aseq_end ?_; try simp (disch := first | omega | simp) [wrap_i64, -aseqC, -anyC, hlt]) | (with_reducible refine any_end' ?_; try simp (disch := first | omega | simp) [wrap_i64, -aseqC, -anyC, hlt]) | ((first | with_reducible refine sideG ?_ ?_ | with_reducible refine sideG2 ?_ ?_ | with_reducible refine sideS ?_ ?_ | with_reducible refine sideS2 ?_ ?_ | with_reducible refine sideS3 ?_ ?_ | with_reducible refine sideA ?_ ?_ | with_reducible refine sideA2 ?_ ?_ | with_reducible refine sideA3 ?_ ?_); (first | omega | assumption | (simp; done))) | (refine awp_seq_k fun K hK => ?_) | (refine awp_regionC ?_) | (refine awp_anyA true (by kernel_rfl) (by kernel_rfl) ?_) | (refine awp_anyA false (by kernel_rfl) (by kernel_rfl) ?_) | (refine hK _ ?_; clear hK; clear K) | (clear hK; clear K; refine hK _ ?_; clear hK; clear K) | (clear hK; clear K; clear hK; clear K; refine hK _ ?_; clear hK; clear K) | refine awp_block ?_ | (refine awp_condC ?_; simp (disch := first | omega | simp) [wrap_i64, -aseqC, -anyC, hlt]) | (refine awp_exit ?_; try simp (disch := first | omega | simp) [wrap_i64, -aseqC, -anyC, hlt]) | (refine awp_skip ?_; try simp (disch := first | omega | simp) [wrap_i64, -aseqC, -anyC, hlt]) | (refine awp_ret ?_; try simp (disch := first | omega | simp) [wrap_i64, -aseqC, -anyC, hlt]))
        exact nameP_good h0 (by omega) (by rw [← hh]; omega) (upto_all (C := fun c => partC c = true) hb (by omega))
end Go.Proofs.YtkhmlicikbnmdaaDoor
