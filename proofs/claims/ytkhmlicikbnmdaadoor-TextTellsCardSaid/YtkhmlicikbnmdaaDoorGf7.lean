/- The law TextTells: it returns true. -/
import Derived.Test.YtkhmlicikbnmdaaDoorGf4
import Derived.Test.YtkhmlicikbnmdaaDoorGf5
import Derived.Test.YtkhmlicikbnmdaaDoorGf6
set_option linter.unusedSimpArgs false
set_option linter.unusedVariables false
namespace Go.Proofs.YtkhmlicikbnmdaaDoor
open Go.RowKit Go.Lib

theorem lines_len (l : List UInt8) : (linesP l).length ≤ l.length + 1 := Nat.le_trans (unlines_len _) (lines_total l)
set_option maxHeartbeats 8000000 in
theorem textTells_g (hpat : ∀ p s : ByteArray, p.size ≤ 1000000 → s.size ≤ 1000000 → Gives Tryd.prog 40 [.str p, .str s] (.bool (patP p.data.toList s.data.toList)))
    (n : Int) (s p : ByteArray) (l : List ByteArray) (hn : i64 n) (hll : l.length ≤ 9223372036854775807) : Gives Tryd.prog 12 [.int n, .str s, .str p, .sl (l.map AV.str)] (.bool true) := by
  obtain ⟨A, hA⟩ : ∃ A, A = l.map fun x => x.data.toList := ⟨_, rfl⟩
  rw [strs_of, ← hA]
  have hAl : A.length = l.length := by rw [hA, List.length_map]
  have hsl : s.data.toList.length = s.size := by rw [← Lib.size_eq]
  by_cases hb : s.size ≤ 300 ∧ p.size ≤ 100 ∧ A.length ≤ 30
  · obtain ⟨hs, hp, hl⟩ := hb
    have hs1 : ¬ (300 : Int) < s.size := by omega
    have hp1 : ¬ (100 : Int) < p.size := by omega
    have hl1 : ¬ (30 : Int) < A.length := by omega
    refine gives_of_awp Tryd.func12 Tryd.ntmps12 rfl rfl (by decide) rfl (by intro n; simp) fun σ n0 hcl hft => ?_
    repeat' (first | ((first | ((with_reducible refine aguard (fun hg => ?_) (fun hg => ?_)) <;> (try simp only [hg]) <;> (try simp only [beq_iff_eq, beq_eq_false_iff_ne, ne_eq, decide_eq_true_eq, decide_eq_false_iff_not, bne_iff_ne, bne_eq_false_iff_eq] at hg) <;> (try (first | simp only [eq_false hg, if_true, if_false] | simp only [eq_true hg, if_true, if_false]))) | with_reducible refine aseq_step ?_ | with_reducible refine any_step' ?_ | with_reducible refine aseq_end ?_ | with_reducible refine any_end' ?_ | refine acall (small02_g) ?_ | refine agives (small02_g) ?_ | refine awp_condC ?_ | refine awp_exit ?_ | refine awp_skip ?_ | refine awp_ret ?_) <;> (try simp (disch := first | omega | simp) [wrap_i64, -aseqC, -anyC, hs1, hp1, hl1])) | ((first | with_reducible refine sideG ?_ ?_ | with_reducible refine sideG2 ?_ ?_ | with_reducible refine sideS ?_ ?_ | with_reducible refine sideS2 ?_ ?_ | with_reducible refine sideS3 ?_ ?_ | with_reducible refine sideA ?_ ?_ | with_reducible refine sideA2 ?_ ?_ | with_reducible refine sideA3 ?_ ?_); (first | omega | assumption | (simp; done))) | (refine awp_seq_k fun K hK => ?_) | (refine awp_regionC ?_) | (refine awp_anyA true (by kernel_rfl) (by kernel_rfl) ?_) | (refine hK _ ?_; clear hK; clear K) | (clear hK; clear K; refine hK _ ?_; clear hK; clear K) | (clear hK; clear K; clear hK; clear K; refine hK _ ?_; clear hK; clear K) | refine awp_block ?_)
    refine awp_loopC hcl (fun i : Nat => [(0, .int n), (1, .str s), (2, .str p), (3, .sl (strs A)), (9, .bool true), (10, .int i)]) (fun _ => []) (fun i => i ≤ A.length ∧ ∀ j (h : j < A.length), j < i → A[j].length ≤ 100) (fun i => A.length - i) 0 ⟨Nat.zero_le _, fun j _ h => by omega⟩ (by simp) fun i ⟨hi, hle⟩ => ?_
    by_cases hlt : i < A.length
    · have hsz : (bytesA A[i]).size = A[i].length := bytesA_size _
      by_cases hbig : A[i].length ≤ 100
      · have hbig' : ¬ (100 : Int) < A[i].length := by omega
        repeat' (first | ((first | ((with_reducible refine aguard (fun hg => ?_) (fun hg => ?_)) <;> (try simp only [hg]) <;> (try simp only [beq_iff_eq, beq_eq_false_iff_ne, ne_eq, decide_eq_true_eq, decide_eq_false_iff_not, bne_iff_ne, bne_eq_false_iff_eq] at hg) <;> (try (first | simp only [eq_false hg, if_true, if_false] | simp only [eq_true hg, if_true, if_false]))) | with_reducible refine aseq_step ?_ | with_reducible refine any_step' ?_ | with_reducible refine aseq_end ?_ | with_reducible refine any_end' ?_ | refine awp_condC ?_ | refine awp_exit ?_ | refine awp_skip ?_ | refine awp_ret ?_) <;> (try simp (disch := first | omega | simp) [wrap_i64, -aseqC, -anyC, hlt, hsz, hbig'])) | ((first | with_reducible refine sideG ?_ ?_ | with_reducible refine sideG2 ?_ ?_ | with_reducible refine sideS ?_ ?_ | with_reducible refine sideS2 ?_ ?_ | with_reducible refine sideS3 ?_ ?_ | with_reducible refine sideA ?_ ?_ | with_reducible refine sideA2 ?_ ?_ | with_reducible refine sideA3 ?_ ?_); (first | omega | assumption | (simp; done))) | (refine awp_seq_k fun K hK => ?_) | (refine awp_regionC ?_) | (refine awp_anyA true (by kernel_rfl) (by kernel_rfl) ?_) | (refine hK _ ?_; clear hK; clear K) | (clear hK; clear K; refine hK _ ?_; clear hK; clear K) | (clear hK; clear K; clear hK; clear K; refine hK _ ?_; clear hK; clear K) | refine awp_block ?_)
        all_goals exact ⟨i + 1, ⟨by omega, fun j h1 h2 => by
          by_cases hj : j = i
          · subst hj; exact hbig
          · exact hle j h1 (by omega)⟩, by omega, by omega⟩
      · have hbig' : (100 : Int) < A[i].length := by omega
        repeat' (first | ((first | ((with_reducible refine aguard (fun hg => ?_) (fun hg => ?_)) <;> (try simp only [hg]) <;> (try simp only [beq_iff_eq, beq_eq_false_iff_ne, ne_eq, decide_eq_true_eq, decide_eq_false_iff_not, bne_iff_ne, bne_eq_false_iff_eq] at hg) <;> (try (first | simp only [eq_false hg, if_true, if_false] | simp only [eq_true hg, if_true, if_false]))) | with_reducible refine aseq_step ?_ | with_reducible refine any_step' ?_ | with_reducible refine aseq_end ?_ | with_reducible refine any_end' ?_ | refine awp_condC ?_ | refine awp_exit ?_ | refine awp_skip ?_ | refine awp_ret ?_) <;> (try simp (disch := first | omega | simp) [wrap_i64, -aseqC, -anyC, hlt, hsz, hbig'])) | ((first | with_reducible refine sideG ?_ ?_ | with_reducible refine sideG2 ?_ ?_ | with_reducible refine sideS ?_ ?_ | with_reducible refine sideS2 ?_ ?_ | with_reducible refine sideS3 ?_ ?_ | with_reducible refine sideA ?_ ?_ | with_reducible refine sideA2 ?_ ?_ | with_reducible refine sideA3 ?_ ?_); (first | omega | assumption | (simp; done))) | (refine awp_seq_k fun K hK => ?_) | (refine awp_regionC ?_) | (refine awp_anyA true (by kernel_rfl) (by kernel_rfl) ?_) | (refine hK _ ?_; clear hK; clear K) | (clear hK; clear K; refine hK _ ?_; clear hK; clear K) | (clear hK; clear K; clear hK; clear K; refine hK _ ?_; clear hK; clear K) | refine awp_block ?_)
    · obtain rfl : i = A.length := by omega
      have hall : ∀ x ∈ A, x.length ≤ 100 := fun x hx => by
        obtain ⟨j, hj, rfl⟩ := List.getElem_of_mem hx
        exact hle j hj hj
      have hun := unlines_bound A hall
      have hun2 : (unlinesP A).length ≤ 3030 := Nat.le_trans hun (by omega)
      have c1 := int_g s (by omega)
      have c2 := rint_g s (by omega)
      have c3 := unquote_g s (by omega)
      have c4 := runquote_g s (by omega)
      have c5 := decimal_g n hn
      have c6 := rdecimal_g n hn
      have c7 := quote_g s (by omega)
      have c8 := rquote_g s (by omega)
      have c9 := lines_g s (by omega)
      have c10 := rlines_g s (by omega)
      have hl2 := lines_len s.data.toList
      have c11 := rsame02_g (linesP s.data.toList) (linesP s.data.toList) (by omega) (by omega)
      rw [decide_eq_true rfl] at c11
      have c12 := unlines_g A (by omega) (by omega)
      have c13 := runlines_g A (by omega) (by omega)
      have c14 := fields_g s (by omega)
      have c15 := rfields_g s (by omega)
      have hf2 := fld_len s.data.toList []
      have c16 := rsame02_g (fieldsP s.data.toList) (fieldsP s.data.toList) (by unfold fieldsP; omega) (by unfold fieldsP; omega)
      rw [decide_eq_true rfl] at c16
      have c17 := pattern_g p s (by omega) (by omega)
      have c18 := hpat p s (by omega) (by omega)
      have c19 := magic_g p (by omega)
      have c20 := rmagic_g p (by omega)
      have c21 := plain_g p (by omega)
      have c22 := rplain_g p (by omega)
      have c23 := escape_g s (by omega)
      have c24 := rescape_g s (by omega)
      generalize patP p.data.toList s.data.toList = b1 at c17 c18
      generalize magicP p.data.toList = b2 at c19 c20
      generalize unqP hxP s.data.toList = o1 at c3 c4
      generalize intP s.data.toList = o2 at c1 c2
      generalize linesP s.data.toList = M1 at c9 c10 c11
      generalize fieldsP s.data.toList = M2 at c14 c15 c16
      repeat' (first | ((first | ((with_reducible refine aguard (fun hg => ?_) (fun hg => ?_)) <;> (try simp only [hg]) <;> (try simp only [beq_iff_eq, beq_eq_false_iff_ne, ne_eq, decide_eq_true_eq, decide_eq_false_iff_not, bne_iff_ne, bne_eq_false_iff_eq] at hg) <;> (try (first | simp only [eq_false hg, if_true, if_false] | simp only [eq_true hg, if_true, if_false]))) | with_reducible refine aseq_step ?_ | with_reducible refine any_step' ?_ | with_reducible refine aseq_end ?_ | with_reducible refine any_end' ?_ | refine acall (c1) ?_ | refine agives (c1) ?_ | refine acall (c2) ?_ | refine agives (c2) ?_ | refine acall (c3) ?_ | refine agives (c3) ?_ | refine acall (c4) ?_ | refine agives (c4) ?_ | refine acall (c5) ?_ | refine agives (c5) ?_ | refine acall (c6) ?_ | refine agives (c6) ?_ | refine acall (c7) ?_ | refine agives (c7) ?_ | refine acall (c8) ?_ | refine agives (c8) ?_ | refine acall (c9) ?_ | refine agives (c9) ?_ | refine acall (c10) ?_ | refine agives (c10) ?_ | refine acall (c11) ?_ | refine agives (c11) ?_ | refine acall (c12) ?_ | refine agives (c12) ?_ | refine acall (c13) ?_ | refine agives (c13) ?_ | refine acall (c14) ?_ | refine agives (c14) ?_ | refine acall (c15) ?_ | refine agives (c15) ?_ | refine acall (c16) ?_ | refine agives (c16) ?_ | refine acall (c17) ?_ | refine agives (c17) ?_ | refine acall (c18) ?_ | refine agives (c18) ?_ | refine acall (c19) ?_ | refine agives (c19) ?_ | refine acall (c20) ?_ | refine agives (c20) ?_ | refine acall (c21) ?_ | refine agives (c21) ?_ | refine acall (c22) ?_ | refine agives (c22) ?_ | refine acall (c23) ?_ | refine agives (c23) ?_ | refine acall (c24) ?_ | refine agives (c24) ?_ | refine awp_condC ?_ | refine awp_exit ?_ | refine awp_skip ?_ | refine awp_ret ?_) <;> (try simp (disch := first | omega | simp) [wrap_i64, -aseqC, -anyC, hlt])) | ((first | with_reducible refine sideG ?_ ?_ | with_reducible refine sideG2 ?_ ?_ | with_reducible refine sideS ?_ ?_ | with_reducible refine sideS2 ?_ ?_ | with_reducible refine sideS3 ?_ ?_ | with_reducible refine sideA ?_ ?_ | with_reducible refine sideA2 ?_ ?_ | with_reducible refine sideA3 ?_ ?_); (first | omega | assumption | (simp; done))) | (refine awp_seq_k fun K hK => ?_) | (refine awp_regionC ?_) | (refine awp_anyA true (by kernel_rfl) (by kernel_rfl) ?_) | (refine hK _ ?_; clear hK; clear K) | (clear hK; clear K; refine hK _ ?_; clear hK; clear K) | (clear hK; clear K; clear hK; clear K; refine hK _ ?_; clear hK; clear K) | refine awp_block ?_)
  · by_cases hs1 : (300 : Int) < s.size
    · refine gives_of_awp Tryd.func12 Tryd.ntmps12 rfl rfl (by decide) rfl (by intro n; simp) fun σ n0 hcl hft => ?_
      repeat' (first | ((first | ((with_reducible refine aguard (fun hg => ?_) (fun hg => ?_)) <;> (try simp only [hg]) <;> (try simp only [beq_iff_eq, beq_eq_false_iff_ne, ne_eq, decide_eq_true_eq, decide_eq_false_iff_not, bne_iff_ne, bne_eq_false_iff_eq] at hg) <;> (try (first | simp only [eq_false hg, if_true, if_false] | simp only [eq_true hg, if_true, if_false]))) | with_reducible refine aseq_step ?_ | with_reducible refine any_step' ?_ | with_reducible refine aseq_end ?_ | with_reducible refine any_end' ?_ | refine acall (small02_g) ?_ | refine agives (small02_g) ?_ | refine awp_condC ?_ | refine awp_exit ?_ | refine awp_skip ?_ | refine awp_ret ?_) <;> (try simp (disch := first | omega | simp) [wrap_i64, -aseqC, -anyC, hs1])) | ((first | with_reducible refine sideG ?_ ?_ | with_reducible refine sideG2 ?_ ?_ | with_reducible refine sideS ?_ ?_ | with_reducible refine sideS2 ?_ ?_ | with_reducible refine sideS3 ?_ ?_ | with_reducible refine sideA ?_ ?_ | with_reducible refine sideA2 ?_ ?_ | with_reducible refine sideA3 ?_ ?_); (first | omega | assumption | (simp; done))) | (refine awp_seq_k fun K hK => ?_) | (refine awp_regionC ?_) | (refine awp_anyA true (by kernel_rfl) (by kernel_rfl) ?_) | (refine hK _ ?_; clear hK; clear K) | (clear hK; clear K; refine hK _ ?_; clear hK; clear K) | (clear hK; clear K; clear hK; clear K; refine hK _ ?_; clear hK; clear K) | refine awp_block ?_)
    · by_cases hp1 : (100 : Int) < p.size
      · refine gives_of_awp Tryd.func12 Tryd.ntmps12 rfl rfl (by decide) rfl (by intro n; simp) fun σ n0 hcl hft => ?_
        repeat' (first | ((first | ((with_reducible refine aguard (fun hg => ?_) (fun hg => ?_)) <;> (try simp only [hg]) <;> (try simp only [beq_iff_eq, beq_eq_false_iff_ne, ne_eq, decide_eq_true_eq, decide_eq_false_iff_not, bne_iff_ne, bne_eq_false_iff_eq] at hg) <;> (try (first | simp only [eq_false hg, if_true, if_false] | simp only [eq_true hg, if_true, if_false]))) | with_reducible refine aseq_step ?_ | with_reducible refine any_step' ?_ | with_reducible refine aseq_end ?_ | with_reducible refine any_end' ?_ | refine acall (small02_g) ?_ | refine agives (small02_g) ?_ | refine awp_condC ?_ | refine awp_exit ?_ | refine awp_skip ?_ | refine awp_ret ?_) <;> (try simp (disch := first | omega | simp) [wrap_i64, -aseqC, -anyC, hs1, hp1])) | ((first | with_reducible refine sideG ?_ ?_ | with_reducible refine sideG2 ?_ ?_ | with_reducible refine sideS ?_ ?_ | with_reducible refine sideS2 ?_ ?_ | with_reducible refine sideS3 ?_ ?_ | with_reducible refine sideA ?_ ?_ | with_reducible refine sideA2 ?_ ?_ | with_reducible refine sideA3 ?_ ?_); (first | omega | assumption | (simp; done))) | (refine awp_seq_k fun K hK => ?_) | (refine awp_regionC ?_) | (refine awp_anyA true (by kernel_rfl) (by kernel_rfl) ?_) | (refine hK _ ?_; clear hK; clear K) | (clear hK; clear K; refine hK _ ?_; clear hK; clear K) | (clear hK; clear K; clear hK; clear K; refine hK _ ?_; clear hK; clear K) | refine awp_block ?_)
      · have hl1 : (30 : Int) < A.length := by omega
        refine gives_of_awp Tryd.func12 Tryd.ntmps12 rfl rfl (by decide) rfl (by intro n; simp) fun σ n0 hcl hft => ?_
        repeat' (first | ((first | ((with_reducible refine aguard (fun hg => ?_) (fun hg => ?_)) <;> (try simp only [hg]) <;> (try simp only [beq_iff_eq, beq_eq_false_iff_ne, ne_eq, decide_eq_true_eq, decide_eq_false_iff_not, bne_iff_ne, bne_eq_false_iff_eq] at hg) <;> (try (first | simp only [eq_false hg, if_true, if_false] | simp only [eq_true hg, if_true, if_false]))) | with_reducible refine aseq_step ?_ | with_reducible refine any_step' ?_ | with_reducible refine aseq_end ?_ | with_reducible refine any_end' ?_ | refine acall (small02_g) ?_ | refine agives (small02_g) ?_ | refine awp_condC ?_ | refine awp_exit ?_ | refine awp_skip ?_ | refine awp_ret ?_) <;> (try simp (disch := first | omega | simp) [wrap_i64, -aseqC, -anyC, hs1, hp1, hl1])) | ((first | with_reducible refine sideG ?_ ?_ | with_reducible refine sideG2 ?_ ?_ | with_reducible refine sideS ?_ ?_ | with_reducible refine sideS2 ?_ ?_ | with_reducible refine sideS3 ?_ ?_ | with_reducible refine sideA ?_ ?_ | with_reducible refine sideA2 ?_ ?_ | with_reducible refine sideA3 ?_ ?_); (first | omega | assumption | (simp; done))) | (refine awp_seq_k fun K hK => ?_) | (refine awp_regionC ?_) | (refine awp_anyA true (by kernel_rfl) (by kernel_rfl) ?_) | (refine hK _ ?_; clear hK; clear K) | (clear hK; clear K; refine hK _ ?_; clear hK; clear K) | (clear hK; clear K; clear hK; clear K; refine hK _ ?_; clear hK; clear K) | refine awp_block ?_)
end Go.Proofs.YtkhmlicikbnmdaaDoor
