/- Walk of the reference: Lex. -/
import Derived.Test.YtkhmlicikbnmdaaDoorGf8
set_option linter.unusedSimpArgs false
set_option linter.unusedVariables false
namespace Go.Proofs.YtkhmlicikbnmdaaDoor
open Go.RowKit Go.Lib

theorem lexF_skip {l l' : List UInt8} (h : skipP false l = skipP false l') (f a m : Nat) : lexF (f + 1) l a m = lexF (f + 1) l' a m := by rw [lex_step, lex_step, h]
set_option maxRecDepth 100000 in
set_option maxHeartbeats 20000000 in
theorem rlex_g (s : ByteArray) (hs : s.size ≤ 1000000) : Gives Tryd.prog 30 [.str s] (lexAv (lexP s.data.toList)) := by
  have hsz : s.data.toList.length = s.size := by rw [← Lib.size_eq]
  have nn : ∀ a k : UInt8, a ≠ k → ¬ (a.toNat : Int) = k.toNat := fun a k h h2 => h (UInt8.toNat_inj.1 (by omega))
  by_cases hbig : 8000 < s.size
  · have e : lexP s.data.toList = .error (6, 0) := by unfold lexP; rw [if_pos (by omega)]
    rw [e]
    have hbig' : (8000 : Int) < s.size := by omega
    refine gives_of_awp Tryd.func30 Tryd.ntmps30 rfl rfl (by decide) rfl (lexAv_cl _) fun σ n0 hcl hft => ?_
    repeat' (first | ((first | ((with_reducible refine aguard (fun hg => ?_) (fun hg => ?_)) <;> (try simp only [hg]) <;> (try simp only [beq_iff_eq, beq_eq_false_iff_ne, ne_eq, decide_eq_true_eq, decide_eq_false_iff_not, bne_iff_ne, bne_eq_false_iff_eq] at hg) <;> (try (first | simp only [eq_false hg, if_true, if_false] | simp only [eq_true hg, if_true, if_false]))) | with_reducible refine aseq_step ?_ | with_reducible refine any_step' ?_ | with_reducible refine aseq_end ?_ | with_reducible refine any_end' ?_ | refine awp_condC ?_ | refine awp_exit ?_ | refine awp_skip ?_ | refine awp_ret ?_) <;> (try simp (disch := first | omega | simp) [wrap_i64, -aseqC, -anyC, hbig'])) | (refine And.intro ?_ ?_; (first | omega | assumption | (simp; done))) | (refine awp_seq_k fun K hK => ?_) | (refine awp_regionC ?_) | (refine awp_anyA true (by kernel_rfl) (by kernel_rfl) ?_) | (refine hK _ ?_; clear hK; clear K) | (clear hK; clear K; refine hK _ ?_; clear hK; clear K) | (clear hK; clear K; clear hK; clear K; refine hK _ ?_; clear hK; clear K) | refine awp_block ?_)
    rfl
  · have hbig' : ¬ (8000 : Int) < s.size := by omega
    obtain ⟨R, hR⟩ : ∃ R, R = lexP s.data.toList := ⟨_, rfl⟩
    rw [← hR]
    unfold lexP at hR
    rw [if_neg (by omega)] at hR
    refine gives_of_awp Tryd.func30 Tryd.ntmps30 rfl rfl (by decide) rfl (lexAv_cl R) fun σ n0 hcl hft => ?_
    repeat' (first | ((first | ((with_reducible refine aguard (fun hg => ?_) (fun hg => ?_)) <;> (try simp only [hg]) <;> (try simp only [beq_iff_eq, beq_eq_false_iff_ne, ne_eq, decide_eq_true_eq, decide_eq_false_iff_not, bne_iff_ne, bne_eq_false_iff_eq] at hg) <;> (try (first | simp only [eq_false hg, if_true, if_false] | simp only [eq_true hg, if_true, if_false]))) | with_reducible refine aseq_step ?_ | with_reducible refine any_step' ?_ | with_reducible refine aseq_end ?_ | with_reducible refine any_end' ?_ | refine awp_condC ?_ | refine awp_exit ?_ | refine awp_skip ?_ | refine awp_ret ?_ | refine awp_label ?_) <;> (try simp (disch := first | omega | simp) [wrap_i64, -aseqC, -anyC, hbig'])) | (refine And.intro ?_ ?_; (first | omega | assumption | (simp; done))) | (refine awp_seq_k fun K hK => ?_) | (refine awp_regionC ?_) | (refine awp_anyA true (by kernel_rfl) (by kernel_rfl) ?_) | (refine hK _ ?_; clear hK; clear K) | (clear hK; clear K; refine hK _ ?_; clear hK; clear K) | (clear hK; clear K; clear hK; clear K; refine hK _ ?_; clear hK; clear K) | refine awp_block ?_ | refine awp_scope ?_)
    refine awp_adoptR 5 43 4 (by simp) ?_
    simp only [List.length_append, List.length_nil, List.length_cons]
    refine awp_loopC hcl (fun x : Nat × Nat × List (Tk × Nat) => [(0, .str s), (5, .gs n0 (x.2.2.map tkAv)), (6, .int x.2.1), (7, .int x.1)]) (fun x => [.tail x.2.2.length 43 4])
      (fun x => x.1 ≤ s.size ∧ x.2.2.length ≤ 3000 ∧ x.2.1 ≤ 1 + x.2.2.length ∧ addT x.2.2 (lexF (s.size + 1 + 1) (s.data.toList.drop x.1) x.2.2.length x.2.1) = R)
      (fun x => s.size + 2 - x.1) (0, 1, []) ⟨Nat.zero_le _, by simp, by simp, by rw [hR, hsz]; exact addT_nil _⟩ (by simp) fun ⟨a, line, T⟩ ⟨ha, hT, hline, hinv⟩ => ?_
    dsimp only at ha hT hline hinv ⊢
    have ha' : (a : Int) ≤ s.size := by omega
    by_cases hlt : a < s.size
    · have hlt3 : a < s.data.size := hlt
      have hda : s.data.toList.drop a = s.data[a] :: s.data.toList.drop (a + 1) := by rw [List.drop_eq_getElem_cons (by omega), Array.getElem_toList]
      have hwg := rwhite_g s.data[a]
      cases hw : whiteC s.data[a] with
      | true =>
        rw [hw] at hwg
        have hsk : skipP false (s.data.toList.drop a) = skipP false (s.data.toList.drop (a + 1)) := by rw [hda, skipP, if_pos hw]
        rw [lexF_skip hsk] at hinv
        repeat' (first | ((first | ((with_reducible refine aguard (fun hg => ?_) (fun hg => ?_)) <;> (try simp only [hg]) <;> (try simp only [beq_iff_eq, beq_eq_false_iff_ne, ne_eq, decide_eq_true_eq, decide_eq_false_iff_not, bne_iff_ne, bne_eq_false_iff_eq] at hg) <;> (try (first | simp only [eq_false hg, if_true, if_false] | simp only [eq_true hg, if_true, if_false]))) | with_reducible refine aseq_step ?_ | with_reducible refine any_step' ?_ | with_reducible refine aseq_end ?_ | with_reducible refine any_end' ?_ | refine acall (hwg) ?_ | refine agives (hwg) ?_ | refine awp_condC ?_ | refine awp_exit ?_ | refine awp_skip ?_ | refine awp_ret ?_ | refine awp_label ?_) <;> (try simp (disch := first | omega | simp) [wrap_i64, -aseqC, -anyC, hlt, hlt3, ha'])) | (refine And.intro ?_ ?_; (first | omega | assumption | (simp; done))) | (refine awp_seq_k fun K hK => ?_) | (refine awp_regionC ?_) | (refine awp_anyA true (by kernel_rfl) (by kernel_rfl) ?_) | (refine hK _ ?_; clear hK; clear K) | (clear hK; clear K; refine hK _ ?_; clear hK; clear K) | (clear hK; clear K; clear hK; clear K; refine hK _ ?_; clear hK; clear K) | refine awp_block ?_ | refine awp_scope ?_)
        all_goals exact ⟨a + 1, line, T, ⟨by omega, hT, hline, hinv⟩, by omega, rfl, rfl, rfl, by omega⟩
      | false =>
        rw [hw] at hwg
        by_cases h35 : s.data[a] = 35
        · have g35 : s.data[a].toNat = 35 := by rw [h35]; rfl
          rw [g35] at hwg
          have hB : skipP false (s.data.toList.drop a) = skipP true (s.data.toList.drop a) := by
            rw [hda, h35, skipP, if_neg (by decide), if_pos rfl, skipP, if_neg (by decide)]
          repeat' (first | ((first | ((with_reducible refine aguard (fun hg => ?_) (fun hg => ?_)) <;> (try simp only [hg]) <;> (try simp only [beq_iff_eq, beq_eq_false_iff_ne, ne_eq, decide_eq_true_eq, decide_eq_false_iff_not, bne_iff_ne, bne_eq_false_iff_eq] at hg) <;> (try (first | simp only [eq_false hg, if_true, if_false] | simp only [eq_true hg, if_true, if_false]))) | with_reducible refine aseq_step ?_ | with_reducible refine any_step' ?_ | with_reducible refine aseq_end ?_ | with_reducible refine any_end' ?_ | refine acall (hwg) ?_ | refine agives (hwg) ?_ | refine awp_condC ?_ | refine awp_exit ?_ | refine awp_skip ?_ | refine awp_ret ?_ | refine awp_label ?_) <;> (try simp (disch := first | omega | simp) [wrap_i64, -aseqC, -anyC, hlt, hlt3, ha', g35])) | (refine And.intro ?_ ?_; (first | omega | assumption | (simp; done))) | (refine awp_seq_k fun K hK => ?_) | (refine awp_regionC ?_) | (refine awp_anyA true (by kernel_rfl) (by kernel_rfl) ?_) | (refine hK _ ?_; clear hK; clear K) | (clear hK; clear K; refine hK _ ?_; clear hK; clear K) | (clear hK; clear K; clear hK; clear K; refine hK _ ?_; clear hK; clear K) | refine awp_block ?_ | refine awp_scope ?_)
          refine awp_loopC hcl (fun j : Nat => [(0, .str s), (5, .gs n0 (T.map tkAv)), (6, .int line), (7, .int j)]) (fun _ => [.tail T.length 43 4]) (fun j => a ≤ j ∧ j ≤ s.size ∧ skipP true (s.data.toList.drop j) = skipP true (s.data.toList.drop a)) (fun j => s.size - j) a ⟨Nat.le_refl _, ha, rfl⟩ (by simp) fun j ⟨j1, j2, j3⟩ => ?_
          by_cases hgo : j < s.size ∧ ∃ h : j < s.data.size, s.data[j] ≠ 10
          · obtain ⟨hj, hj3, hne⟩ := hgo
            have gne : ¬ (s.data[j].toNat : Int) = 10 := nn _ _ hne
            have hdj : s.data.toList.drop j = s.data[j] :: s.data.toList.drop (j + 1) := by rw [List.drop_eq_getElem_cons (by omega), Array.getElem_toList]
            rw [hdj, skipP, if_neg hne] at j3
            repeat' (first | ((first | ((with_reducible refine aguard (fun hg => ?_) (fun hg => ?_)) <;> (try simp only [hg]) <;> (try simp only [beq_iff_eq, beq_eq_false_iff_ne, ne_eq, decide_eq_true_eq, decide_eq_false_iff_not, bne_iff_ne, bne_eq_false_iff_eq] at hg) <;> (try (first | simp only [eq_false hg, if_true, if_false] | simp only [eq_true hg, if_true, if_false]))) | with_reducible refine aseq_step ?_ | with_reducible refine any_step' ?_ | with_reducible refine aseq_end ?_ | with_reducible refine any_end' ?_ | refine awp_condC ?_ | refine awp_exit ?_ | refine awp_skip ?_ | refine awp_ret ?_ | refine awp_label ?_) <;> (try simp (disch := first | omega | simp) [wrap_i64, -aseqC, -anyC, hj, hj3, gne])) | (refine And.intro ?_ ?_; (first | omega | assumption | (simp; done))) | (refine awp_seq_k fun K hK => ?_) | (refine awp_regionC ?_) | (refine awp_anyA true (by kernel_rfl) (by kernel_rfl) ?_) | (refine hK _ ?_; clear hK; clear K) | (clear hK; clear K; refine hK _ ?_; clear hK; clear K) | (clear hK; clear K; clear hK; clear K; refine hK _ ?_; clear hK; clear K) | refine awp_block ?_ | refine awp_scope ?_)
            all_goals first | exact absurd (by assumption) gne | exact ⟨j + 1, ⟨by omega, by omega, j3⟩, by omega, by omega⟩
          · have hout : skipP true (s.data.toList.drop j) = s.data.toList.drop j := by
              by_cases hj : j < s.size
              · have hdj : s.data.toList.drop j = s.data[j] :: s.data.toList.drop (j + 1) := by rw [List.drop_eq_getElem_cons (by omega), Array.getElem_toList]
                have h10 : s.data[j] = 10 := Classical.byContradiction fun e => hgo ⟨hj, hj, e⟩
                rw [hdj, h10, skip_lf]
              · rw [List.drop_of_length_le (by omega)]; rfl
            have hja : a + 1 ≤ j := by
              rcases Nat.lt_or_ge a j with h | h
              · exact h
              · obtain rfl : j = a := by omega
                exact absurd ⟨hlt, hlt3, by rw [h35]; decide⟩ hgo
            have hsk : skipP false (s.data.toList.drop a) = skipP false (s.data.toList.drop j) := by
              rw [hB, ← j3, hout]
              have := skip_ft (s.data.toList.drop j)
              rw [hout] at this
              exact this.symm
            rw [lexF_skip hsk] at hinv
            by_cases hj : j < s.size
            · have hj3 : j < s.data.size := hj
              have h10 : s.data[j] = 10 := Classical.byContradiction fun e => hgo ⟨hj, hj3, e⟩
              have g10 : s.data[j].toNat = 10 := by rw [h10]; rfl
              repeat' (first | ((first | ((with_reducible refine aguard (fun hg => ?_) (fun hg => ?_)) <;> (try simp only [hg]) <;> (try simp only [beq_iff_eq, beq_eq_false_iff_ne, ne_eq, decide_eq_true_eq, decide_eq_false_iff_not, bne_iff_ne, bne_eq_false_iff_eq] at hg) <;> (try (first | simp only [eq_false hg, if_true, if_false] | simp only [eq_true hg, if_true, if_false]))) | with_reducible refine aseq_step ?_ | with_reducible refine any_step' ?_ | with_reducible refine aseq_end ?_ | with_reducible refine any_end' ?_ | refine awp_condC ?_ | refine awp_exit ?_ | refine awp_skip ?_ | refine awp_ret ?_ | refine awp_label ?_) <;> (try simp (disch := first | omega | simp) [wrap_i64, -aseqC, -anyC, hj, hj3, g10])) | (refine And.intro ?_ ?_; (first | omega | assumption | (simp; done))) | (refine awp_seq_k fun K hK => ?_) | (refine awp_regionC ?_) | (refine awp_anyA true (by kernel_rfl) (by kernel_rfl) ?_) | (refine hK _ ?_; clear hK; clear K) | (clear hK; clear K; refine hK _ ?_; clear hK; clear K) | (clear hK; clear K; clear hK; clear K; refine hK _ ?_; clear hK; clear K) | refine awp_block ?_ | refine awp_scope ?_)
              all_goals exact ⟨j, line, T, ⟨by omega, hT, hline, hinv⟩, by omega, rfl, rfl, rfl, rfl⟩
            · have hj' : ¬ (j : Int) < s.size := by omega
              repeat' (first | ((first | ((with_reducible refine aguard (fun hg => ?_) (fun hg => ?_)) <;> (try simp only [hg]) <;> (try simp only [beq_iff_eq, beq_eq_false_iff_ne, ne_eq, decide_eq_true_eq, decide_eq_false_iff_not, bne_iff_ne, bne_eq_false_iff_eq] at hg) <;> (try (first | simp only [eq_false hg, if_true, if_false] | simp only [eq_true hg, if_true, if_false]))) | with_reducible refine aseq_step ?_ | with_reducible refine any_step' ?_ | with_reducible refine aseq_end ?_ | with_reducible refine any_end' ?_ | refine awp_condC ?_ | refine awp_exit ?_ | refine awp_skip ?_ | refine awp_ret ?_ | refine awp_label ?_) <;> (try simp (disch := first | omega | simp) [wrap_i64, -aseqC, -anyC, hj, hj'])) | (refine And.intro ?_ ?_; (first | omega | assumption | (simp; done))) | (refine awp_seq_k fun K hK => ?_) | (refine awp_regionC ?_) | (refine awp_anyA true (by kernel_rfl) (by kernel_rfl) ?_) | (refine hK _ ?_; clear hK; clear K) | (clear hK; clear K; refine hK _ ?_; clear hK; clear K) | (clear hK; clear K; clear hK; clear K; refine hK _ ?_; clear hK; clear K) | refine awp_block ?_ | refine awp_scope ?_)
              all_goals exact ⟨j, line, T, ⟨by omega, hT, hline, hinv⟩, by omega, rfl, rfl, rfl, rfl⟩
        · have g35 : ¬ (s.data[a].toNat : Int) = 35 := nn _ _ h35
          have hself : skipP false (s.data.toList.drop a) = s.data.toList.drop a := by rw [hda, skipP, if_neg (by rw [hw]; simp), if_neg h35]
          have htg := rtoken_g s a hs ha
          unfold rtokAv at htg
          rw [lex_step, hself] at hinv
          by_cases h3000 : 3000 ≤ T.length
          · rw [if_pos h3000] at hinv
            have h3' : (3000 : Int) ≤ T.length := by omega
            subst hinv
            repeat' (first | ((first | ((with_reducible refine aguard (fun hg => ?_) (fun hg => ?_)) <;> (try simp only [hg]) <;> (try simp only [beq_iff_eq, beq_eq_false_iff_ne, ne_eq, decide_eq_true_eq, decide_eq_false_iff_not, bne_iff_ne, bne_eq_false_iff_eq] at hg) <;> (try (first | simp only [eq_false hg, if_true, if_false] | simp only [eq_true hg, if_true, if_false]))) | with_reducible refine aseq_step ?_ | with_reducible refine any_step' ?_ | with_reducible refine aseq_end ?_ | with_reducible refine any_end' ?_ | refine acall (hwg) ?_ | refine agives (hwg) ?_ | refine awp_condC ?_ | refine awp_exit ?_ | refine awp_skip ?_ | refine awp_ret ?_ | refine awp_label ?_) <;> (try simp (disch := first | omega | simp) [wrap_i64, -aseqC, -anyC, hlt, hlt3, ha', g35, h3'])) | (refine And.intro ?_ ?_; (first | omega | assumption | (simp; done))) | (refine awp_seq_k fun K hK => ?_) | (refine awp_regionC ?_) | (refine awp_anyA true (by kernel_rfl) (by kernel_rfl) ?_) | (refine hK _ ?_; clear hK; clear K) | (clear hK; clear K; refine hK _ ?_; clear hK; clear K) | (clear hK; clear K; clear hK; clear K; refine hK _ ?_; clear hK; clear K) | refine awp_block ?_ | refine awp_scope ?_)
            all_goals first | exact absurd (by assumption) g35 | (exfalso; omega) | rfl
          · rw [if_neg (by omega)] at hinv
            have h3' : ¬ (3000 : Int) ≤ T.length := by omega
            cases htk : tokP (s.data.toList.drop a) with
            | error e =>
              rw [htk] at hinv htg
              dsimp only at hinv htg
              have hR2 : R = .error (e, line) := hinv.symm
              subst hR2
              have he : ¬ (e : Int) = 0 := by rcases tok_err htk with rfl | rfl <;> omega
              unfold zeroTk at htg
              repeat' (first | ((first | ((with_reducible refine aguard (fun hg => ?_) (fun hg => ?_)) <;> (try simp only [hg]) <;> (try simp only [beq_iff_eq, beq_eq_false_iff_ne, ne_eq, decide_eq_true_eq, decide_eq_false_iff_not, bne_iff_ne, bne_eq_false_iff_eq] at hg) <;> (try (first | simp only [eq_false hg, if_true, if_false] | simp only [eq_true hg, if_true, if_false]))) | with_reducible refine aseq_step ?_ | with_reducible refine any_step' ?_ | with_reducible refine aseq_end ?_ | with_reducible refine any_end' ?_ | refine acall (hwg) ?_ | refine agives (hwg) ?_ | refine acall (htg) ?_ | refine agives (htg) ?_ | refine awp_condC ?_ | refine awp_exit ?_ | refine awp_skip ?_ | refine awp_ret ?_ | refine awp_label ?_) <;> (try simp (disch := first | omega | simp) [wrap_i64, -aseqC, -anyC, hlt, hlt3, ha', g35, h3', he])) | (refine And.intro ?_ ?_; (first | omega | assumption | (simp; done))) | (refine awp_seq_k fun K hK => ?_) | (refine awp_regionC ?_) | (refine awp_anyA true (by kernel_rfl) (by kernel_rfl) ?_) | (refine hK _ ?_; clear hK; clear K) | (clear hK; clear K; refine hK _ ?_; clear hK; clear K) | (clear hK; clear K; clear hK; clear K; refine hK _ ?_; clear hK; clear K) | refine awp_block ?_ | refine awp_scope ?_)
              all_goals first | exact absurd (by assumption) g35 | (exfalso; omega) | rfl
            | ok tk =>
              obtain ⟨⟨k, t, n⟩, w⟩ := tk
              rw [htk] at hinv htg
              dsimp only at hinv htg
              unfold tkAv at htg
              dsimp only at htg
              have hTl : (T.length + 1) * 40 ≤ 140737488355328 := by omega
              by_cases hk5 : k = 5
              · subst hk5
                rw [if_pos rfl] at hinv
                have hR3 : R = .ok (T ++ [((⟨5, t, n⟩ : Tk), line)]) := hinv.symm
                subst hR3
                repeat' (first | ((first | ((with_reducible refine aguard (fun hg => ?_) (fun hg => ?_)) <;> (try simp only [hg]) <;> (try simp only [beq_iff_eq, beq_eq_false_iff_ne, ne_eq, decide_eq_true_eq, decide_eq_false_iff_not, bne_iff_ne, bne_eq_false_iff_eq] at hg) <;> (try (first | simp only [eq_false hg, if_true, if_false] | simp only [eq_true hg, if_true, if_false]))) | with_reducible refine aseq_step ?_ | with_reducible refine any_step' ?_ | with_reducible refine aseq_end ?_ | with_reducible refine any_end' ?_ | refine acall (hwg) ?_ | refine agives (hwg) ?_ | refine acall (htg) ?_ | refine agives (htg) ?_ | refine awp_condC ?_ | refine awp_exit ?_ | refine awp_skip ?_ | refine awp_ret ?_ | refine awp_label ?_) <;> (try simp (disch := first | omega | simp) [wrap_i64, -aseqC, -anyC, hlt, hlt3, ha', g35, h3', hTl])) | (refine And.intro ?_ ?_; (first | omega | assumption | (simp; done))) | (refine awp_seq_k fun K hK => ?_) | (refine awp_regionC ?_) | (refine awp_anyA true (by kernel_rfl) (by kernel_rfl) ?_) | (refine hK _ ?_; clear hK; clear K) | (clear hK; clear K; refine hK _ ?_; clear hK; clear K) | (clear hK; clear K; clear hK; clear K; refine hK _ ?_; clear hK; clear K) | refine awp_block ?_ | refine awp_scope ?_)
                all_goals first | exact absurd (by assumption) g35 | (exfalso; omega) | (show AV.tup [.sl ((T ++ [((⟨5, t, n⟩ : Tk), line)]).map tkAv), .int 0, .int 0] = _; rw [List.map_append]; rfl)
              · rw [if_neg hk5] at hinv
                have hk5' : ¬ (k : Int) = 5 := by omega
                have hnil : s.data.toList.drop a ≠ [] := fun e => by rw [e, tok_nil] at htk; cases htk; exact hk5 rfl
                obtain ⟨k1, k2, k3⟩ := tok_self hnil htk
                rw [List.length_drop] at k2
                have hnext : ∀ l2, l2 = (if k = 4 then line + 1 else line) → addT (T ++ [((⟨k, t, n⟩ : Tk), line)]) (lexF (s.size + 1 + 1) (s.data.toList.drop (a + w)) (T ++ [((⟨k, t, n⟩ : Tk), line)]).length l2) = R := fun l2 hl2 => by
                  rw [hl2, ← hinv, List.length_append, List.length_singleton, List.drop_drop, lexF_any _ _ (Nat.le_refl _) (s.size + 1) (s.size + 1 + 1) _ _ (by rw [List.length_drop]; omega) (by rw [List.length_drop]; omega)]
                  cases lexF (s.size + 1 + 1) (s.data.toList.drop (a + w)) (T.length + 1) (if k = 4 then line + 1 else line) with
                  | error e => rfl
                  | ok M => show Except.ok _ = Except.ok _; rw [List.append_assoc]; rfl
                by_cases hk4 : k = 4
                · have hk4' : (k : Int) = 4 := by omega
                  have hk4s : (k : Int) = 4 := hk4'
                  repeat' (first | ((first | ((with_reducible refine aguard (fun hg => ?_) (fun hg => ?_)) <;> (try simp only [hg]) <;> (try simp only [beq_iff_eq, beq_eq_false_iff_ne, ne_eq, decide_eq_true_eq, decide_eq_false_iff_not, bne_iff_ne, bne_eq_false_iff_eq] at hg) <;> (try (first | simp only [eq_false hg, if_true, if_false] | simp only [eq_true hg, if_true, if_false]))) | with_reducible refine aseq_step ?_ | with_reducible refine any_step' ?_ | with_reducible refine aseq_end ?_ | with_reducible refine any_end' ?_ | refine acall (hwg) ?_ | refine agives (hwg) ?_ | refine acall (htg) ?_ | refine agives (htg) ?_ | refine awp_condC ?_ | refine awp_exit ?_ | refine awp_skip ?_ | refine awp_ret ?_ | refine awp_label ?_) <;> (try simp (disch := first | omega | simp) [wrap_i64, -aseqC, -anyC, hlt, hlt3, ha', g35, h3', hTl, hk5', hk4'])) | (refine And.intro ?_ ?_; (first | omega | assumption | (simp; done))) | (refine awp_seq_k fun K hK => ?_) | (refine awp_regionC ?_) | (refine awp_anyA true (by kernel_rfl) (by kernel_rfl) ?_) | (refine hK _ ?_; clear hK; clear K) | (clear hK; clear K; refine hK _ ?_; clear hK; clear K) | (clear hK; clear K; clear hK; clear K; refine hK _ ?_; clear hK; clear K) | refine awp_block ?_ | refine awp_scope ?_)
                  all_goals first | exact absurd (by assumption) g35 | (exfalso; omega) | exact ⟨a + w, line + 1, T ++ [((⟨k, t, n⟩ : Tk), line)], ⟨by omega, by rw [List.length_append, List.length_singleton]; omega, by rw [List.length_append, List.length_singleton]; omega, hnext _ (by rw [if_pos hk4])⟩, by omega, by simp, by rw [List.map_append, ← hk4s]; rfl, by omega, by omega⟩
                · have hk4' : ¬ (k : Int) = 4 := by omega
                  have hk4s : (k : Int) = k := rfl
                  repeat' (first | ((first | ((with_reducible refine aguard (fun hg => ?_) (fun hg => ?_)) <;> (try simp only [hg]) <;> (try simp only [beq_iff_eq, beq_eq_false_iff_ne, ne_eq, decide_eq_true_eq, decide_eq_false_iff_not, bne_iff_ne, bne_eq_false_iff_eq] at hg) <;> (try (first | simp only [eq_false hg, if_true, if_false] | simp only [eq_true hg, if_true, if_false]))) | with_reducible refine aseq_step ?_ | with_reducible refine any_step' ?_ | with_reducible refine aseq_end ?_ | with_reducible refine any_end' ?_ | refine acall (hwg) ?_ | refine agives (hwg) ?_ | refine acall (htg) ?_ | refine agives (htg) ?_ | refine awp_condC ?_ | refine awp_exit ?_ | refine awp_skip ?_ | refine awp_ret ?_ | refine awp_label ?_) <;> (try simp (disch := first | omega | simp) [wrap_i64, -aseqC, -anyC, hlt, hlt3, ha', g35, h3', hTl, hk5', hk4'])) | (refine And.intro ?_ ?_; (first | omega | assumption | (simp; done))) | (refine awp_seq_k fun K hK => ?_) | (refine awp_regionC ?_) | (refine awp_anyA true (by kernel_rfl) (by kernel_rfl) ?_) | (refine hK _ ?_; clear hK; clear K) | (clear hK; clear K; refine hK _ ?_; clear hK; clear K) | (clear hK; clear K; clear hK; clear K; refine hK _ ?_; clear hK; clear K) | refine awp_block ?_ | refine awp_scope ?_)
                  all_goals first | exact absurd (by assumption) g35 | (exfalso; omega) | exact ⟨a + w, line, T ++ [((⟨k, t, n⟩ : Tk), line)], ⟨by omega, by rw [List.length_append, List.length_singleton]; omega, by rw [List.length_append, List.length_singleton]; omega, hnext _ (by rw [if_neg hk4])⟩, by omega, by simp, by rw [List.map_append, ← hk4s]; rfl, by omega, by omega⟩
    · obtain rfl : a = s.size := by omega
      have e0 : s.data.toList.drop s.size = [] := List.drop_of_length_le (by omega)
      have htg := rtoken_g s s.size hs ha
      unfold rtokAv at htg
      rw [e0, tok_nil] at htg
      replace htg : Gives Tryd.prog 61 [.str s, .int s.size] (.tup [.agg [.int 5, .str ⟨#[]⟩, .int 0, .int 0], .int s.size, .int 0]) := htg
      rw [e0, lex_step, show skipP false [] = [] from rfl, tok_nil] at hinv
      by_cases h3000 : 3000 ≤ T.length
      · rw [if_pos h3000] at hinv
        have h3' : (3000 : Int) ≤ T.length := by omega
        subst hinv
        repeat' (first | ((first | ((with_reducible refine aguard (fun hg => ?_) (fun hg => ?_)) <;> (try simp only [hg]) <;> (try simp only [beq_iff_eq, beq_eq_false_iff_ne, ne_eq, decide_eq_true_eq, decide_eq_false_iff_not, bne_iff_ne, bne_eq_false_iff_eq] at hg) <;> (try (first | simp only [eq_false hg, if_true, if_false] | simp only [eq_true hg, if_true, if_false]))) | with_reducible refine aseq_step ?_ | with_reducible refine any_step' ?_ | with_reducible refine aseq_end ?_ | with_reducible refine any_end' ?_ | refine awp_condC ?_ | refine awp_exit ?_ | refine awp_skip ?_ | refine awp_ret ?_ | refine awp_label ?_) <;> (try simp (disch := first | omega | simp) [wrap_i64, -aseqC, -anyC, hlt, h3'])) | (refine And.intro ?_ ?_; (first | omega | assumption | (simp; done))) | (refine awp_seq_k fun K hK => ?_) | (refine awp_regionC ?_) | (refine awp_anyA true (by kernel_rfl) (by kernel_rfl) ?_) | (refine hK _ ?_; clear hK; clear K) | (clear hK; clear K; refine hK _ ?_; clear hK; clear K) | (clear hK; clear K; clear hK; clear K; refine hK _ ?_; clear hK; clear K) | refine awp_block ?_ | refine awp_scope ?_)
        all_goals first | (exfalso; omega) | rfl
      · rw [if_neg (by omega)] at hinv
        have h3' : ¬ (3000 : Int) ≤ T.length := by omega
        have hTl : (T.length + 1) * 40 ≤ 140737488355328 := by omega
        dsimp only at hinv
        rw [if_pos rfl] at hinv
        have hR3 : R = .ok (T ++ [((⟨5, [], 0⟩ : Tk), line)]) := hinv.symm
        subst hR3
        repeat' (first | ((first | ((with_reducible refine aguard (fun hg => ?_) (fun hg => ?_)) <;> (try simp only [hg]) <;> (try simp only [beq_iff_eq, beq_eq_false_iff_ne, ne_eq, decide_eq_true_eq, decide_eq_false_iff_not, bne_iff_ne, bne_eq_false_iff_eq] at hg) <;> (try (first | simp only [eq_false hg, if_true, if_false] | simp only [eq_true hg, if_true, if_false]))) | with_reducible refine aseq_step ?_ | with_reducible refine any_step' ?_ | with_reducible refine aseq_end ?_ | with_reducible refine any_end' ?_ | refine acall (htg) ?_ | refine agives (htg) ?_ | refine awp_condC ?_ | refine awp_exit ?_ | refine awp_skip ?_ | refine awp_ret ?_ | refine awp_label ?_) <;> (try simp (disch := first | omega | simp) [wrap_i64, -aseqC, -anyC, hlt, h3', hTl])) | (refine And.intro ?_ ?_; (first | omega | assumption | (simp; done))) | (refine awp_seq_k fun K hK => ?_) | (refine awp_regionC ?_) | (refine awp_anyA true (by kernel_rfl) (by kernel_rfl) ?_) | (refine hK _ ?_; clear hK; clear K) | (clear hK; clear K; refine hK _ ?_; clear hK; clear K) | (clear hK; clear K; clear hK; clear K; refine hK _ ?_; clear hK; clear K) | refine awp_block ?_ | refine awp_scope ?_)
        all_goals first | (exfalso; omega) | (show AV.tup [.sl ((T ++ [((⟨5, [], 0⟩ : Tk), line)]).map tkAv), .int 0, .int 0] = _; rw [List.map_append]; rfl)
end Go.Proofs.YtkhmlicikbnmdaaDoor
