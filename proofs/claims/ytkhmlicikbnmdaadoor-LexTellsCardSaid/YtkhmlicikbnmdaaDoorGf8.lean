/- Walk of the reference: the token at a place. -/
import Derived.Test.YtkhmlicikbnmdaaDoorGa31
import Derived.Test.YtkhmlicikbnmdaaDoorGf7
set_option linter.unusedSimpArgs false
set_option linter.unusedVariables false
namespace Go.Proofs.YtkhmlicikbnmdaaDoor
open Go.RowKit Go.Lib

/-- the end that token gives beside an error -/
def tokErrEnd (a : Nat) (l : List UInt8) : Nat := match l with
  | c :: _ => if digitC c = true then a + (l.takeWhile partC).length else 0
  | [] => 0
def rtokAv (a : Nat) (l : List UInt8) : AV := match tokP l with
  | .ok (t, k) => .tup [tkAv (t, 0), .int (a + k : Nat), .int 0]
  | .error e => .tup [zeroTk, .int (tokErrEnd a l), .int e]
set_option maxHeartbeats 20000000 in
theorem rtoken_g (s : ByteArray) (a : Nat) (hs : s.size ≤ 1000000) (ha : a ≤ s.size) : Gives Tryd.prog 61 [.str s, .int a] (rtokAv a (s.data.toList.drop a)) := by
  have hsz : s.data.toList.length = s.size := by rw [← Lib.size_eq]
  have nn : ∀ a k : UInt8, a ≠ k → ¬ (a.toNat : Int) = k.toNat := fun a k h h2 => h (UInt8.toNat_inj.1 (by omega))
  have hXcl : ∀ n, (rtokAv a (s.data.toList.drop a)).cl n := fun n => by unfold rtokAv; split <;> simp [zeroTk]
  obtain ⟨X, hX⟩ : ∃ X, X = rtokAv a (s.data.toList.drop a) := ⟨_, rfl⟩
  rw [← hX] at hXcl ⊢
  by_cases hlt : a < s.size
  · have hlt3 : a < s.data.size := hlt
    have hd0 : s.data.toList.drop a = s.data[a] :: s.data.toList.drop (a + 1) := by rw [List.drop_eq_getElem_cons (by omega), Array.getElem_toList]
    obtain ⟨D, hD⟩ : ∃ D, D = s.data.toList.drop a := ⟨_, rfl⟩
    have hlt' : ¬ (s.size : Int) ≤ a := by omega
    have hpg := rpart_g s.data[a]
    have hdg := rdigit17_g s.data[a]
    have hpd : partC 10 = false ∧ partC 34 = false := by decide
    by_cases h10 : s.data[a] = 10
    · have g10 : s.data[a].toNat = 10 := by rw [h10]; rfl
      have htk : tokP (s.data.toList.drop a) = .ok (⟨4, [], 0⟩, 1) := by rw [hd0, h10, tokP, if_neg (by decide), if_neg (by decide), if_pos rfl]
      unfold rtokAv at hX
      rw [htk] at hX
      refine gives_of_awp Tryd.func61 Tryd.ntmps61 rfl rfl (by decide) rfl hXcl fun σ n0 hcl hft => ?_
      repeat' (first | ((first | ((with_reducible refine aguard (fun hg => ?_) (fun hg => ?_)) <;> (try simp only [hg]) <;> (try simp only [beq_iff_eq, beq_eq_false_iff_ne, ne_eq, decide_eq_true_eq, decide_eq_false_iff_not, bne_iff_ne, bne_eq_false_iff_eq] at hg) <;> (try (first | simp only [eq_false hg, if_true, if_false] | simp only [eq_true hg, if_true, if_false]))) | with_reducible refine aseq_step ?_ | with_reducible refine any_step' ?_ | with_reducible refine aseq_end ?_ | with_reducible refine any_end' ?_ | refine awp_condC ?_ | refine awp_exit ?_ | refine awp_skip ?_ | refine awp_ret ?_) <;> (try simp (disch := first | omega | simp) [wrap_i64, -aseqC, -anyC, hlt, hlt3, hlt', g10])) | (refine And.intro ?_ ?_; (first | omega | assumption | (simp; done))) | (refine awp_seq_k fun K hK => ?_) | (refine awp_regionC ?_) | (refine awp_anyA true (by kernel_rfl) (by kernel_rfl) ?_) | (refine hK _ ?_; clear hK; clear K) | (clear hK; clear K; refine hK _ ?_; clear hK; clear K) | (clear hK; clear K; clear hK; clear K; refine hK _ ?_; clear hK; clear K) | refine awp_block ?_)
      all_goals (rw [hX]; rfl)
    · have g10 : ¬ (s.data[a].toNat : Int) = 10 := nn _ _ h10
      by_cases h34 : s.data[a] = 34
      · have g34 : s.data[a].toNat = 34 := by rw [h34]; rfl
        have hqg := rquoted_g s a hs hlt h34
        have hte : tokErrEnd a (s.data.toList.drop a) = 0 := by rw [hd0, h34]; rfl
        unfold rtokAv at hX
        rw [hte] at hX
        unfold quoAv at hqg
        cases htk : tokP (s.data.toList.drop a) with
        | error e =>
          rw [htk] at hX hqg
          dsimp only at hX hqg
          unfold zeroTk at hqg
          refine gives_of_awp Tryd.func61 Tryd.ntmps61 rfl rfl (by decide) rfl hXcl fun σ n0 hcl hft => ?_
          repeat' (first | ((first | ((with_reducible refine aguard (fun hg => ?_) (fun hg => ?_)) <;> (try simp only [hg]) <;> (try simp only [beq_iff_eq, beq_eq_false_iff_ne, ne_eq, decide_eq_true_eq, decide_eq_false_iff_not, bne_iff_ne, bne_eq_false_iff_eq] at hg) <;> (try (first | simp only [eq_false hg, if_true, if_false] | simp only [eq_true hg, if_true, if_false]))) | with_reducible refine aseq_step ?_ | with_reducible refine any_step' ?_ | with_reducible refine aseq_end ?_ | with_reducible refine any_end' ?_ | refine acall (hqg) ?_ | refine agives (hqg) ?_ | refine awp_condC ?_ | refine awp_exit ?_ | refine awp_skip ?_ | refine awp_ret ?_) <;> (try simp (disch := first | omega | simp) [wrap_i64, -aseqC, -anyC, hlt, hlt3, hlt', g34])) | (refine And.intro ?_ ?_; (first | omega | assumption | (simp; done))) | (refine awp_seq_k fun K hK => ?_) | (refine awp_regionC ?_) | (refine awp_anyA true (by kernel_rfl) (by kernel_rfl) ?_) | (refine hK _ ?_; clear hK; clear K) | (clear hK; clear K; refine hK _ ?_; clear hK; clear K) | (clear hK; clear K; clear hK; clear K; refine hK _ ?_; clear hK; clear K) | refine awp_block ?_)
          all_goals (rw [hX]; rfl)
        | ok tk =>
          obtain ⟨t, k⟩ := tk
          rw [htk] at hX hqg
          dsimp only at hX hqg
          unfold tkAv at hqg
          refine gives_of_awp Tryd.func61 Tryd.ntmps61 rfl rfl (by decide) rfl hXcl fun σ n0 hcl hft => ?_
          repeat' (first | ((first | ((with_reducible refine aguard (fun hg => ?_) (fun hg => ?_)) <;> (try simp only [hg]) <;> (try simp only [beq_iff_eq, beq_eq_false_iff_ne, ne_eq, decide_eq_true_eq, decide_eq_false_iff_not, bne_iff_ne, bne_eq_false_iff_eq] at hg) <;> (try (first | simp only [eq_false hg, if_true, if_false] | simp only [eq_true hg, if_true, if_false]))) | with_reducible refine aseq_step ?_ | with_reducible refine any_step' ?_ | with_reducible refine aseq_end ?_ | with_reducible refine any_end' ?_ | refine acall (hqg) ?_ | refine agives (hqg) ?_ | refine awp_condC ?_ | refine awp_exit ?_ | refine awp_skip ?_ | refine awp_ret ?_) <;> (try simp (disch := first | omega | simp) [wrap_i64, -aseqC, -anyC, hlt, hlt3, hlt', g34])) | (refine And.intro ?_ ?_; (first | omega | assumption | (simp; done))) | (refine awp_seq_k fun K hK => ?_) | (refine awp_regionC ?_) | (refine awp_anyA true (by kernel_rfl) (by kernel_rfl) ?_) | (refine hK _ ?_; clear hK; clear K) | (clear hK; clear K; refine hK _ ?_; clear hK; clear K) | (clear hK; clear K; clear hK; clear K; refine hK _ ?_; clear hK; clear K) | refine awp_block ?_)
          all_goals (rw [hX]; rfl)
      · have g34 : ¬ (s.data[a].toNat : Int) = 34 := nn _ _ h34
        cases hp : partC s.data[a] with
        | true =>
          rw [hp] at hpg
          obtain ⟨W, hW⟩ : ∃ W, W = (s.data.toList.drop a).takeWhile partC := ⟨_, rfl⟩
          have hWc : W = s.data[a] :: (s.data.toList.drop (a + 1)).takeWhile partC := by rw [hW, hd0, List.takeWhile_cons, if_pos hp]
          have hx : tokP (s.data.toList.drop a) = (wordTk W).map fun t => (t, W.length) := by
            rw [hd0, tokP, if_pos hp, ← hd0, ← hW]
          have hWt : (s.data.toList.drop a).take W.length = W := by rw [hW]; exact takeW_pre _
          have hWl : W.length ≤ s.size - a := by
            have := congrArg List.length hWt
            rw [List.length_take, List.length_drop] at this; omega
          have hwg := rword_g s a hs ha
          rw [← hW] at hwg
          have ex : s.extract a (a + W.length) = bytesA W := by rw [extract_by, Nat.add_sub_cancel_left, hWt]
          have hws : (bytesA W).size = W.length := bytesA_size' W
          have q1 : a ≤ a + W.length := by omega
          have q2 : a + W.length ≤ s.size := by omega
          have q3 : (0 : Int) ≤ (a : Int) + W.length := by omega
          have q4 : ((a : Int) + W.length).toNat = a + W.length := by omega
          have hcast : ((a + W.length : Nat) : Int) = (a : Int) + W.length := by omega
          rw [hcast] at hwg
          unfold rtokAv at hX
          rw [hx] at hX
          cases hd : digitC s.data[a] with
          | true =>
            rw [hd] at hdg
            have hng := rnumber_g W (by omega) _ _ hWc hd
            have hte : tokErrEnd a (s.data.toList.drop a) = a + W.length := by
              rw [hW, hd0]
              show (if digitC s.data[a] = true then _ else 0) = _
              rw [if_pos hd]
            rw [hte] at hX
            unfold numAv at hng
            cases hwk : wordTk W with
            | error e =>
              rw [hwk] at hX hng
              dsimp only at hng
              unfold zeroTk at hng
              refine gives_of_awp Tryd.func61 Tryd.ntmps61 rfl rfl (by decide) rfl hXcl fun σ n0 hcl hft => ?_
              repeat' (first | ((first | ((with_reducible refine aguard (fun hg => ?_) (fun hg => ?_)) <;> (try simp only [hg]) <;> (try simp only [beq_iff_eq, beq_eq_false_iff_ne, ne_eq, decide_eq_true_eq, decide_eq_false_iff_not, bne_iff_ne, bne_eq_false_iff_eq] at hg) <;> (try (first | simp only [eq_false hg, if_true, if_false] | simp only [eq_true hg, if_true, if_false]))) | with_reducible refine aseq_step ?_ | with_reducible refine any_step' ?_ | with_reducible refine aseq_end ?_ | with_reducible refine any_end' ?_ | refine acall (hpg) ?_ | refine agives (hpg) ?_ | refine acall (hwg) ?_ | refine agives (hwg) ?_ | refine acall (hdg) ?_ | refine agives (hdg) ?_ | refine acall (hng) ?_ | refine agives (hng) ?_ | refine awp_condC ?_ | refine awp_exit ?_ | refine awp_skip ?_ | refine awp_ret ?_) <;> (try simp (disch := first | omega | simp) [wrap_i64, -aseqC, -anyC, hlt, hlt3, hlt', g10, g34, q1, q2, q3, q4, ex])) | (refine And.intro ?_ ?_; (first | omega | assumption | (simp; done))) | (refine awp_seq_k fun K hK => ?_) | (refine awp_regionC ?_) | (refine awp_anyA true (by kernel_rfl) (by kernel_rfl) ?_) | (refine hK _ ?_; clear hK; clear K) | (clear hK; clear K; refine hK _ ?_; clear hK; clear K) | (clear hK; clear K; clear hK; clear K; refine hK _ ?_; clear hK; clear K) | refine awp_block ?_)
              all_goals first | exact absurd (by assumption) g10 | exact absurd (by assumption) g34 | (rw [hX]; rfl)
            | ok t =>
              rw [hwk] at hX hng
              dsimp only at hng
              unfold tkAv at hng
              refine gives_of_awp Tryd.func61 Tryd.ntmps61 rfl rfl (by decide) rfl hXcl fun σ n0 hcl hft => ?_
              repeat' (first | ((first | ((with_reducible refine aguard (fun hg => ?_) (fun hg => ?_)) <;> (try simp only [hg]) <;> (try simp only [beq_iff_eq, beq_eq_false_iff_ne, ne_eq, decide_eq_true_eq, decide_eq_false_iff_not, bne_iff_ne, bne_eq_false_iff_eq] at hg) <;> (try (first | simp only [eq_false hg, if_true, if_false] | simp only [eq_true hg, if_true, if_false]))) | with_reducible refine aseq_step ?_ | with_reducible refine any_step' ?_ | with_reducible refine aseq_end ?_ | with_reducible refine any_end' ?_ | refine acall (hpg) ?_ | refine agives (hpg) ?_ | refine acall (hwg) ?_ | refine agives (hwg) ?_ | refine acall (hdg) ?_ | refine agives (hdg) ?_ | refine acall (hng) ?_ | refine agives (hng) ?_ | refine awp_condC ?_ | refine awp_exit ?_ | refine awp_skip ?_ | refine awp_ret ?_) <;> (try simp (disch := first | omega | simp) [wrap_i64, -aseqC, -anyC, hlt, hlt3, hlt', g10, g34, q1, q2, q3, q4, ex])) | (refine And.intro ?_ ?_; (first | omega | assumption | (simp; done))) | (refine awp_seq_k fun K hK => ?_) | (refine awp_regionC ?_) | (refine awp_anyA true (by kernel_rfl) (by kernel_rfl) ?_) | (refine hK _ ?_; clear hK; clear K) | (clear hK; clear K; refine hK _ ?_; clear hK; clear K) | (clear hK; clear K; clear hK; clear K; refine hK _ ?_; clear hK; clear K) | refine awp_block ?_)
              all_goals first | exact absurd (by assumption) g10 | exact absurd (by assumption) g34 | (rw [hX]; rfl)
          | false =>
            rw [hd] at hdg
            have hwt : wordTk W = if W.length > 20 then .error 11 else .ok ⟨0, W, 0⟩ := by
              rw [hWc]
              show (if digitC s.data[a] = true then _ else _) = _
              rw [if_neg (by rw [hd]; simp)]
            have hte : tokErrEnd a (s.data.toList.drop a) = 0 := by
              rw [hd0]
              show (if digitC s.data[a] = true then _ else 0) = _
              rw [if_neg (by rw [hd]; simp)]
            rw [hte, hwt] at hX
            by_cases h20 : W.length > 20
            · rw [if_pos h20] at hX
              have h20' : (20 : Int) < W.length := by omega
              refine gives_of_awp Tryd.func61 Tryd.ntmps61 rfl rfl (by decide) rfl hXcl fun σ n0 hcl hft => ?_
              repeat' (first | ((first | ((with_reducible refine aguard (fun hg => ?_) (fun hg => ?_)) <;> (try simp only [hg]) <;> (try simp only [beq_iff_eq, beq_eq_false_iff_ne, ne_eq, decide_eq_true_eq, decide_eq_false_iff_not, bne_iff_ne, bne_eq_false_iff_eq] at hg) <;> (try (first | simp only [eq_false hg, if_true, if_false] | simp only [eq_true hg, if_true, if_false]))) | with_reducible refine aseq_step ?_ | with_reducible refine any_step' ?_ | with_reducible refine aseq_end ?_ | with_reducible refine any_end' ?_ | refine acall (hpg) ?_ | refine agives (hpg) ?_ | refine acall (hwg) ?_ | refine agives (hwg) ?_ | refine acall (hdg) ?_ | refine agives (hdg) ?_ | refine awp_condC ?_ | refine awp_exit ?_ | refine awp_skip ?_ | refine awp_ret ?_) <;> (try simp (disch := first | omega | simp) [wrap_i64, -aseqC, -anyC, hlt, hlt3, hlt', g10, g34, q1, q2, q3, q4, ex, hws, h20'])) | (refine And.intro ?_ ?_; (first | omega | assumption | (simp; done))) | (refine awp_seq_k fun K hK => ?_) | (refine awp_regionC ?_) | (refine awp_anyA true (by kernel_rfl) (by kernel_rfl) ?_) | (refine hK _ ?_; clear hK; clear K) | (clear hK; clear K; refine hK _ ?_; clear hK; clear K) | (clear hK; clear K; clear hK; clear K; refine hK _ ?_; clear hK; clear K) | refine awp_block ?_)
              all_goals first | exact absurd (by assumption) g10 | exact absurd (by assumption) g34 | (rw [hX]; rfl)
            · rw [if_neg h20] at hX
              have h20' : ¬ (20 : Int) < W.length := by omega
              refine gives_of_awp Tryd.func61 Tryd.ntmps61 rfl rfl (by decide) rfl hXcl fun σ n0 hcl hft => ?_
              repeat' (first | ((first | ((with_reducible refine aguard (fun hg => ?_) (fun hg => ?_)) <;> (try simp only [hg]) <;> (try simp only [beq_iff_eq, beq_eq_false_iff_ne, ne_eq, decide_eq_true_eq, decide_eq_false_iff_not, bne_iff_ne, bne_eq_false_iff_eq] at hg) <;> (try (first | simp only [eq_false hg, if_true, if_false] | simp only [eq_true hg, if_true, if_false]))) | with_reducible refine aseq_step ?_ | with_reducible refine any_step' ?_ | with_reducible refine aseq_end ?_ | with_reducible refine any_end' ?_ | refine acall (hpg) ?_ | refine agives (hpg) ?_ | refine acall (hwg) ?_ | refine agives (hwg) ?_ | refine acall (hdg) ?_ | refine agives (hdg) ?_ | refine awp_condC ?_ | refine awp_exit ?_ | refine awp_skip ?_ | refine awp_ret ?_) <;> (try simp (disch := first | omega | simp) [wrap_i64, -aseqC, -anyC, hlt, hlt3, hlt', g10, g34, q1, q2, q3, q4, ex, hws, h20'])) | (refine And.intro ?_ ?_; (first | omega | assumption | (simp; done))) | (refine awp_seq_k fun K hK => ?_) | (refine awp_regionC ?_) | (refine awp_anyA true (by kernel_rfl) (by kernel_rfl) ?_) | (refine hK _ ?_; clear hK; clear K) | (clear hK; clear K; refine hK _ ?_; clear hK; clear K) | (clear hK; clear K; clear hK; clear K; refine hK _ ?_; clear hK; clear K) | refine awp_block ?_)
              all_goals first | exact absurd (by assumption) g10 | exact absurd (by assumption) g34 | (rw [hX]; rfl)
        | false =>
          rw [hp] at hpg
          have hog := roperator_g s a hs hlt
          have hnd : digitC s.data[a] = false := by
            cases hd : digitC s.data[a] with
            | false => rfl
            | true => rw [digit_part hd] at hp; cases hp
          have hte : tokErrEnd a (s.data.toList.drop a) = 0 := by
            rw [hd0]
            show (if digitC s.data[a] = true then _ else 0) = _
            rw [if_neg (by rw [hnd]; simp)]
          have hx : tokP (s.data.toList.drop a) = if operI (s.data.toList.drop a) = 0 then .error 11 else .ok (⟨3, (s.data.toList.drop a).take (operI (s.data.toList.drop a)), 0⟩, operI (s.data.toList.drop a)) := by
            rw [hd0, tokP, if_neg (by rw [hp]; simp), if_neg h34, if_neg h10]
          unfold rtokAv at hX
          rw [hte, hx] at hX
          have hol : operI (s.data.toList.drop a) ≠ 0 → operI (s.data.toList.drop a) ≤ (s.data.toList.drop a).length := fun h => (oper_len h).1
          rw [List.length_drop] at hol
          have ex : s.extract a (a + operI (s.data.toList.drop a)) = bytesA ((s.data.toList.drop a).take (operI (s.data.toList.drop a))) := by rw [extract_by, Nat.add_sub_cancel_left]
          generalize operI (s.data.toList.drop a) = k at *
          by_cases hk : k = 0
          · subst hk
            rw [if_pos rfl] at hX
            refine gives_of_awp Tryd.func61 Tryd.ntmps61 rfl rfl (by decide) rfl hXcl fun σ n0 hcl hft => ?_
            repeat' (first | ((first | ((with_reducible refine aguard (fun hg => ?_) (fun hg => ?_)) <;> (try simp only [hg]) <;> (try simp only [beq_iff_eq, beq_eq_false_iff_ne, ne_eq, decide_eq_true_eq, decide_eq_false_iff_not, bne_iff_ne, bne_eq_false_iff_eq] at hg) <;> (try (first | simp only [eq_false hg, if_true, if_false] | simp only [eq_true hg, if_true, if_false]))) | with_reducible refine aseq_step ?_ | with_reducible refine any_step' ?_ | with_reducible refine aseq_end ?_ | with_reducible refine any_end' ?_ | refine acall (hpg) ?_ | refine agives (hpg) ?_ | refine acall (hog) ?_ | refine agives (hog) ?_ | refine awp_condC ?_ | refine awp_exit ?_ | refine awp_skip ?_ | refine awp_ret ?_) <;> (try simp (disch := first | omega | simp) [wrap_i64, -aseqC, -anyC, hlt, hlt3, hlt', g10, g34])) | (refine And.intro ?_ ?_; (first | omega | assumption | (simp; done))) | (refine awp_seq_k fun K hK => ?_) | (refine awp_regionC ?_) | (refine awp_anyA true (by kernel_rfl) (by kernel_rfl) ?_) | (refine hK _ ?_; clear hK; clear K) | (clear hK; clear K; refine hK _ ?_; clear hK; clear K) | (clear hK; clear K; clear hK; clear K; refine hK _ ?_; clear hK; clear K) | refine awp_block ?_)
            all_goals first | exact absurd (by assumption) g10 | exact absurd (by assumption) g34 | (rw [hX]; rfl)
          · rw [if_neg hk] at hX
            have hk' : ¬ (k : Int) = 0 := by omega
            have hol' := hol hk
            have q1 : a ≤ a + k := by omega
            have q2 : a + k ≤ s.size := by omega
            have q3 : (0 : Int) ≤ (a : Int) + k := by omega
            have q4 : ((a : Int) + k).toNat = a + k := by omega
            refine gives_of_awp Tryd.func61 Tryd.ntmps61 rfl rfl (by decide) rfl hXcl fun σ n0 hcl hft => ?_
            repeat' (first | ((first | ((with_reducible refine aguard (fun hg => ?_) (fun hg => ?_)) <;> (try simp only [hg]) <;> (try simp only [beq_iff_eq, beq_eq_false_iff_ne, ne_eq, decide_eq_true_eq, decide_eq_false_iff_not, bne_iff_ne, bne_eq_false_iff_eq] at hg) <;> (try (first | simp only [eq_false hg, if_true, if_false] | simp only [eq_true hg, if_true, if_false]))) | with_reducible refine aseq_step ?_ | with_reducible refine any_step' ?_ | with_reducible refine aseq_end ?_ | with_reducible refine any_end' ?_ | refine acall (hpg) ?_ | refine agives (hpg) ?_ | refine acall (hog) ?_ | refine agives (hog) ?_ | refine awp_condC ?_ | refine awp_exit ?_ | refine awp_skip ?_ | refine awp_ret ?_) <;> (try simp (disch := first | omega | simp) [wrap_i64, -aseqC, -anyC, hlt, hlt3, hlt', g10, g34, hk', q1, q2, q3, q4, ex])) | (refine And.intro ?_ ?_; (first | omega | assumption | (simp; done))) | (refine awp_seq_k fun K hK => ?_) | (refine awp_regionC ?_) | (refine awp_anyA true (by kernel_rfl) (by kernel_rfl) ?_) | (refine hK _ ?_; clear hK; clear K) | (clear hK; clear K; refine hK _ ?_; clear hK; clear K) | (clear hK; clear K; clear hK; clear K; refine hK _ ?_; clear hK; clear K) | refine awp_block ?_)
            all_goals first | exact absurd (by assumption) g10 | exact absurd (by assumption) g34 | (exfalso; omega) | (rw [hX]; rfl)
  · obtain rfl : a = s.size := by omega
    have htk : tokP (s.data.toList.drop s.size) = .ok (⟨5, [], 0⟩, 0) := by rw [List.drop_of_length_le (by omega)]; exact tok_nil
    unfold rtokAv at hX
    rw [htk] at hX
    refine gives_of_awp Tryd.func61 Tryd.ntmps61 rfl rfl (by decide) rfl hXcl fun σ n0 hcl hft => ?_
    repeat' (first | ((first | ((with_reducible refine aguard (fun hg => ?_) (fun hg => ?_)) <;> (try simp only [hg]) <;> (try simp only [beq_iff_eq, beq_eq_false_iff_ne, ne_eq, decide_eq_true_eq, decide_eq_false_iff_not, bne_iff_ne, bne_eq_false_iff_eq] at hg) <;> (try (first | simp only [eq_false hg, if_true, if_false] | simp only [eq_true hg, if_true, if_false]))) | with_reducible refine aseq_step ?_ | with_reducible refine any_step' ?_ | with_reducible refine aseq_end ?_ | with_reducible refine any_end' ?_ | refine awp_condC ?_ | refine awp_exit ?_ | refine awp_skip ?_ | refine awp_ret ?_) <;> (try simp (disch := first | omega | simp) [wrap_i64, -aseqC, -anyC])) | (refine And.intro ?_ ?_; (first | omega | assumption | (simp; done))) | (refine awp_seq_k fun K hK => ?_) | (refine awp_regionC ?_) | (refine awp_anyA true (by kernel_rfl) (by kernel_rfl) ?_) | (refine hK _ ?_; clear hK; clear K) | (clear hK; clear K; refine hK _ ?_; clear hK; clear K) | (clear hK; clear K; clear hK; clear K; refine hK _ ?_; clear hK; clear K) | refine awp_block ?_)
    all_goals (rw [hX]; rfl)
end Go.Proofs.YtkhmlicikbnmdaaDoor
