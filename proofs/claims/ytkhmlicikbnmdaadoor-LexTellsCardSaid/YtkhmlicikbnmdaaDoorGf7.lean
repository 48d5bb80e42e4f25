/- Walk of the reference: texts. -/
import Derived.Test.YtkhmlicikbnmdaaDoorGf6
set_option linter.unusedSimpArgs false
set_option linter.unusedVariables false
namespace Go.Proofs.YtkhmlicikbnmdaaDoor
open Go.RowKit Go.Lib

/-- what quoted returns: the token, its end, an error -/
def quoAv (a : Nat) (x : Except Nat (Tk × Nat)) : AV := match x with
  | .ok (t, k) => .tup [tkAv (t, 0), .int (a + k : Nat), .int 0]
  | .error e => .tup [zeroTk, .int 0, .int e]
set_option maxHeartbeats 20000000 in
theorem rquoted_g (s : ByteArray) (a : Nat) (hs : s.size ≤ 1000000) (ha : a < s.size) (h34 : s.data[a] = 34) : Gives Tryd.prog 81 [.str s, .int a] (quoAv a (tokP (s.data.toList.drop a))) := by
  have hsz : s.data.toList.length = s.size := by rw [← Lib.size_eq]
  have hd0 : s.data.toList.drop a = 34 :: s.data.toList.drop (a + 1) := by rw [List.drop_eq_getElem_cons (by omega), Array.getElem_toList, h34]
  obtain ⟨X, hX⟩ : ∃ X, X = tokP (s.data.toList.drop a) := ⟨_, rfl⟩
  rw [← hX]
  obtain ⟨q, hq⟩ : ∃ q, q = quoteI (s.data.toList.drop (a + 1)) := ⟨_, rfl⟩
  have hbad : q = none → X = .error 11 := fun e => by rw [hX, hd0, tok_text, ← hq, e]
  have hgood : ∀ k, q = some k → X = match unqP hxP ((s.data.toList.drop a).take (k + 2)) with
        | some t => if t.length > 200 then .error 11 else .ok (⟨2, t, 0⟩, k + 2)
        | none => .error 11 := fun k e => by rw [hX, hd0, tok_text, ← hq, e]; rfl
  clear hX
  have e34 : (34 : UInt8).toNat = 34 := rfl
  have e92 : (92 : UInt8).toNat = 92 := rfl
  have nn : ∀ a k : UInt8, a ≠ k → ¬ (a.toNat : Int) = k.toNat := fun a k h h2 => h (UInt8.toNat_inj.1 (by omega))
  have hXcl : ∀ n, (quoAv a X).cl n := fun n => by unfold quoAv; split <;> simp [zeroTk]
  refine gives_of_awp Tryd.func81 Tryd.ntmps81 rfl rfl (by decide) rfl hXcl fun σ n0 hcl hft => ?_
  repeat' (first | ((first | ((with_reducible refine aguard (fun hg => ?_) (fun hg => ?_)) <;> (try simp only [hg]) <;> (try simp only [beq_iff_eq, beq_eq_false_iff_ne, ne_eq, decide_eq_true_eq, decide_eq_false_iff_not, bne_iff_ne, bne_eq_false_iff_eq] at hg) <;> (try (first | simp only [eq_false hg, if_true, if_false] | simp only [eq_true hg, if_true, if_false]))) | with_reducible refine aseq_step ?_ | with_reducible refine any_step' ?_ | with_reducible refine aseq_end ?_ | with_reducible refine any_end' ?_ | refine awp_condC ?_ | refine awp_exit ?_ | refine awp_skip ?_ | refine awp_ret ?_) <;> (try simp (disch := first | omega | simp) [wrap_i64, -aseqC, -anyC])) | (refine And.intro ?_ ?_; (first | omega | assumption | (simp; done))) | (refine awp_seq_k fun K hK => ?_) | (refine awp_regionC ?_) | (refine awp_anyA true (by kernel_rfl) (by kernel_rfl) ?_) | (refine hK _ ?_; clear hK; clear K) | (clear hK; clear K; refine hK _ ?_; clear hK; clear K) | (clear hK; clear K; clear hK; clear K; refine hK _ ?_; clear hK; clear K) | refine awp_block ?_)
  refine awp_loopC hcl (fun x : Nat × Nat => [(0, .str s), (1, .int a), (4, .ptr n0 0), (7, .int x.2), (8, .int x.1)]) (fun _ => [.cells [.int 0, .str ⟨#[]⟩, .int 0, .int 0] 43])
    (fun x => a + 1 ≤ x.1 ∧ x.1 ≤ s.size ∧ x.2 ≤ x.1 ∧ (x.2 % 2 = 0 → (quoteI (s.data.toList.drop x.1)).map (· + (x.1 - (a + 1))) = q) ∧ (x.2 % 2 = 1 → a + 2 ≤ x.1 ∧ s.data.toList[x.1 - 1]? = some 92 ∧ (quoteI (s.data.toList.drop (x.1 - 1))).map (· + (x.1 - 1 - (a + 1))) = q)) (fun x => s.size - x.1) (a + 1, 0) ⟨Nat.le_refl _, by omega, by omega, fun _ => by rw [hq]; simp, fun h => by omega⟩ (by simp; rfl) fun ⟨j, b⟩ ⟨hj1, hj2, hb, hev, hod⟩ => ?_
  dsimp only at hj1 hj2 hb hev hod ⊢
  by_cases hlt : j < s.size
  · have hlt3 : j < s.data.size := hlt
    have hdj : s.data.toList.drop j = s.data[j] :: s.data.toList.drop (j + 1) := by rw [List.drop_eq_getElem_cons (by omega), Array.getElem_toList]
    have oddS : b % 2 = 1 → (quoteI (s.data.toList.drop (j + 1))).map (· + (j + 1 - (a + 1))) = q := fun h => by
      obtain ⟨o1, o2, o3⟩ := hod h
      have hd1 : s.data.toList.drop (j - 1) = 92 :: s.data.toList.drop j := by
        have e : s.data.toList[j - 1]'(by omega) = 92 := by rw [List.getElem?_eq_getElem (by omega)] at o2; exact Option.some.inj o2
        rw [List.drop_eq_getElem_cons (by omega), e, show j - 1 + 1 = j by omega]
      rw [← o3, hd1, hdj, quote_esc, Option.map_map]
      congr 1
      funext k
      show k + (j + 1 - (a + 1)) = k + 2 + (j - 1 - (a + 1))
      omega
    have evenS : b % 2 = 0 → s.data[j] ≠ 34 → s.data[j] ≠ 92 → (quoteI (s.data.toList.drop (j + 1))).map (· + (j + 1 - (a + 1))) = q := fun h h1 h2 => by
      rw [← hev h, hdj, quote_plain h1 h2, Option.map_map]
      congr 1
      funext k
      show k + (j + 1 - (a + 1)) = k + 1 + (j - (a + 1))
      omega
    have hmod : (b : Int).tmod 2 = ((b % 2 : Nat) : Int) := rfl
    rcases Nat.mod_two_eq_zero_or_one b with hb2 | hb2
    · rw [hb2] at hmod
      replace hmod : (b : Int).tmod 2 = 0 := hmod
      by_cases h3 : s.data[j] = 34
      · have g34 : s.data[j].toNat = 34 := by rw [h3]; rfl
        have hqk : q = some (j - (a + 1)) := by rw [← hev hb2, hdj, h3, quoteI]; simp
        have hx := hgood _ hqk
        have ex := extract_by s a (j + 1)
        have hbs : (bytesA ((s.data.toList.drop a).take (j + 1 - a))).size ≤ 1000000 := by
          rw [bytesA_size', List.length_take, List.length_drop]; omega
        have hun := runquote_g (bytesA ((s.data.toList.drop a).take (j + 1 - a))) hbs
        have e1 : j - (a + 1) + 2 = j + 1 - a := by omega
        rw [bytesA_data] at hun
        rw [e1] at hx
        have q1 : a ≤ j + 1 := by omega
        have q2 : j + 1 ≤ s.size := by omega
        have q3 : (0 : Int) ≤ (j : Int) + 1 := by omega
        have q4 : ((j : Int) + 1).toNat = j + 1 := by omega
        cases hu : unqP hxP ((s.data.toList.drop a).take (j + 1 - a)) with
        | none =>
          rw [hu] at hx hun
          dsimp only [Option.getD, Option.isSome] at hx hun
          subst hx
          repeat' (first | ((first | ((with_reducible refine aguard (fun hg => ?_) (fun hg => ?_)) <;> (try simp only [hg]) <;> (try simp only [beq_iff_eq, beq_eq_false_iff_ne, ne_eq, decide_eq_true_eq, decide_eq_false_iff_not, bne_iff_ne, bne_eq_false_iff_eq] at hg) <;> (try (first | simp only [eq_false hg, if_true, if_false] | simp only [eq_true hg, if_true, if_false]))) | with_reducible refine aseq_step ?_ | with_reducible refine any_step' ?_ | with_reducible refine aseq_end ?_ | with_reducible refine any_end' ?_ | refine acall (hun) ?_ | refine agives (hun) ?_ | refine awp_condC ?_ | refine awp_exit ?_ | refine awp_skip ?_ | refine awp_ret ?_) <;> (try simp (disch := first | omega | simp) [wrap_i64, -aseqC, -anyC, hlt, hlt3, g34, hmod, q1, q2, q3, q4, ex])) | (refine And.intro ?_ ?_; (first | omega | assumption | (simp; done))) | (refine awp_seq_k fun K hK => ?_) | (refine awp_regionC ?_) | (refine awp_anyA true (by kernel_rfl) (by kernel_rfl) ?_) | (refine hK _ ?_; clear hK; clear K) | (clear hK; clear K; refine hK _ ?_; clear hK; clear K) | (clear hK; clear K; clear hK; clear K; refine hK _ ?_; clear hK; clear K) | refine awp_block ?_)
          all_goals rfl
        | some t =>
          rw [hu] at hx hun
          dsimp only [Option.getD, Option.isSome] at hx hun
          have htl : (bytesA t).size = t.length := bytesA_size' t
          by_cases ht : t.length > 200
          · rw [if_pos ht] at hx
            subst hx
            have ht2 : (200 : Int) < t.length := by omega
            repeat' (first | ((first | ((with_reducible refine aguard (fun hg => ?_) (fun hg => ?_)) <;> (try simp only [hg]) <;> (try simp only [beq_iff_eq, beq_eq_false_iff_ne, ne_eq, decide_eq_true_eq, decide_eq_false_iff_not, bne_iff_ne, bne_eq_false_iff_eq] at hg) <;> (try (first | simp only [eq_false hg, if_true, if_false] | simp only [eq_true hg, if_true, if_false]))) | with_reducible refine aseq_step ?_ | with_reducible refine any_step' ?_ | with_reducible refine aseq_end ?_ | with_reducible refine any_end' ?_ | refine acall (hun) ?_ | refine agives (hun) ?_ | refine awp_condC ?_ | refine awp_exit ?_ | refine awp_skip ?_ | refine awp_ret ?_) <;> (try simp (disch := first | omega | simp) [wrap_i64, -aseqC, -anyC, hlt, hlt3, g34, hmod, q1, q2, q3, q4, ex, htl, ht2])) | (refine And.intro ?_ ?_; (first | omega | assumption | (simp; done))) | (refine awp_seq_k fun K hK => ?_) | (refine awp_regionC ?_) | (refine awp_anyA true (by kernel_rfl) (by kernel_rfl) ?_) | (refine hK _ ?_; clear hK; clear K) | (clear hK; clear K; refine hK _ ?_; clear hK; clear K) | (clear hK; clear K; clear hK; clear K; refine hK _ ?_; clear hK; clear K) | refine awp_block ?_)
            all_goals rfl
          · rw [if_neg ht] at hx
            subst hx
            have ht2 : ¬ (200 : Int) < t.length := by omega
            repeat' (first | ((first | ((with_reducible refine aguard (fun hg => ?_) (fun hg => ?_)) <;> (try simp only [hg]) <;> (try simp only [beq_iff_eq, beq_eq_false_iff_ne, ne_eq, decide_eq_true_eq, decide_eq_false_iff_not, bne_iff_ne, bne_eq_false_iff_eq] at hg) <;> (try (first | simp only [eq_false hg, if_true, if_false] | simp only [eq_true hg, if_true, if_false]))) | with_reducible refine aseq_step ?_ | with_reducible refine any_step' ?_ | with_reducible refine aseq_end ?_ | with_reducible refine any_end' ?_ | refine acall (hun) ?_ | refine agives (hun) ?_ | refine awp_condC ?_ | refine awp_exit ?_ | refine awp_skip ?_ | refine awp_ret ?_) <;> (try simp (disch := first | omega | simp) [wrap_i64, -aseqC, -anyC, hlt, hlt3, g34, hmod, q1, q2, q3, q4, ex, htl, ht2])) | (refine And.intro ?_ ?_; (first | omega | assumption | (simp; done))) | (refine awp_seq_k fun K hK => ?_) | (refine awp_regionC ?_) | (refine awp_anyA true (by kernel_rfl) (by kernel_rfl) ?_) | (refine hK _ ?_; clear hK; clear K) | (clear hK; clear K; refine hK _ ?_; clear hK; clear K) | (clear hK; clear K; clear hK; clear K; refine hK _ ?_; clear hK; clear K) | refine awp_block ?_)
            all_goals (show AV.tup [tkAv (⟨2, t, 0⟩, 0), .int (a + (j + 1 - a) : Nat), .int 0] = _; rw [show a + (j + 1 - a) = j + 1 by omega]; rfl)
      · have g34 : ¬ (s.data[j].toNat : Int) = 34 := nn _ _ h3
        by_cases h9 : s.data[j] = 92
        · have g92 : s.data[j].toNat = 92 := by rw [h9]; rfl
          have hq92 : s.data[j + 1 - 1]? = some 92 := by rw [Nat.add_sub_cancel, Array.getElem?_eq_getElem hlt3, h9]
          repeat' (first | ((first | ((with_reducible refine aguard (fun hg => ?_) (fun hg => ?_)) <;> (try simp only [hg]) <;> (try simp only [beq_iff_eq, beq_eq_false_iff_ne, ne_eq, decide_eq_true_eq, decide_eq_false_iff_not, bne_iff_ne, bne_eq_false_iff_eq] at hg) <;> (try (first | simp only [eq_false hg, if_true, if_false] | simp only [eq_true hg, if_true, if_false]))) | with_reducible refine aseq_step ?_ | with_reducible refine any_step' ?_ | with_reducible refine aseq_end ?_ | with_reducible refine any_end' ?_ | refine awp_condC ?_ | refine awp_exit ?_ | refine awp_skip ?_ | refine awp_ret ?_) <;> (try simp (disch := first | omega | simp) [wrap_i64, -aseqC, -anyC, hlt, hlt3, g92, hmod])) | (refine And.intro ?_ ?_; (first | omega | assumption | (simp; done))) | (refine awp_seq_k fun K hK => ?_) | (refine awp_regionC ?_) | (refine awp_anyA true (by kernel_rfl) (by kernel_rfl) ?_) | (refine hK _ ?_; clear hK; clear K) | (clear hK; clear K; refine hK _ ?_; clear hK; clear K) | (clear hK; clear K; clear hK; clear K; refine hK _ ?_; clear hK; clear K) | refine awp_block ?_)
          all_goals exact ⟨j + 1, b + 1, ⟨by omega, by omega, by omega, fun h => by omega, fun _ => ⟨by omega, hq92, by show (quoteI (s.data.toList.drop (j + 1 - 1))).map (· + (j + 1 - 1 - (a + 1))) = q; rw [Nat.add_sub_cancel]; exact hev hb2⟩⟩, by omega, by omega, by omega⟩
        · have g92 : ¬ (s.data[j].toNat : Int) = 92 := nn _ _ h9
          repeat' (first | ((first | ((with_reducible refine aguard (fun hg => ?_) (fun hg => ?_)) <;> (try simp only [hg]) <;> (try simp only [beq_iff_eq, beq_eq_false_iff_ne, ne_eq, decide_eq_true_eq, decide_eq_false_iff_not, bne_iff_ne, bne_eq_false_iff_eq] at hg) <;> (try (first | simp only [eq_false hg, if_true, if_false] | simp only [eq_true hg, if_true, if_false]))) | with_reducible refine aseq_step ?_ | with_reducible refine any_step' ?_ | with_reducible refine aseq_end ?_ | with_reducible refine any_end' ?_ | refine awp_condC ?_ | refine awp_exit ?_ | refine awp_skip ?_ | refine awp_ret ?_) <;> (try simp (disch := first | omega | simp) [wrap_i64, -aseqC, -anyC, hlt, hlt3, g34, g92, hmod])) | (refine And.intro ?_ ?_; (first | omega | assumption | (simp; done))) | (refine awp_seq_k fun K hK => ?_) | (refine awp_regionC ?_) | (refine awp_anyA true (by kernel_rfl) (by kernel_rfl) ?_) | (refine hK _ ?_; clear hK; clear K) | (clear hK; clear K; refine hK _ ?_; clear hK; clear K) | (clear hK; clear K; clear hK; clear K; refine hK _ ?_; clear hK; clear K) | refine awp_block ?_)
          all_goals first | exact absurd (by assumption) g34 | exact absurd (by assumption) g92 | exact ⟨j + 1, 0, ⟨by omega, by omega, by omega, fun _ => evenS hb2 h3 h9, fun h => by omega⟩, by omega, by omega, by omega⟩
    · rw [hb2] at hmod
      replace hmod : (b : Int).tmod 2 = 1 := hmod
      by_cases h9 : s.data[j] = 92
      · have g92 : s.data[j].toNat = 92 := by rw [h9]; rfl
        repeat' (first | ((first | ((with_reducible refine aguard (fun hg => ?_) (fun hg => ?_)) <;> (try simp only [hg]) <;> (try simp only [beq_iff_eq, beq_eq_false_iff_ne, ne_eq, decide_eq_true_eq, decide_eq_false_iff_not, bne_iff_ne, bne_eq_false_iff_eq] at hg) <;> (try (first | simp only [eq_false hg, if_true, if_false] | simp only [eq_true hg, if_true, if_false]))) | with_reducible refine aseq_step ?_ | with_reducible refine any_step' ?_ | with_reducible refine aseq_end ?_ | with_reducible refine any_end' ?_ | refine awp_condC ?_ | refine awp_exit ?_ | refine awp_skip ?_ | refine awp_ret ?_) <;> (try simp (disch := first | omega | simp) [wrap_i64, -aseqC, -anyC, hlt, hlt3, g92, hmod])) | (refine And.intro ?_ ?_; (first | omega | assumption | (simp; done))) | (refine awp_seq_k fun K hK => ?_) | (refine awp_regionC ?_) | (refine awp_anyA true (by kernel_rfl) (by kernel_rfl) ?_) | (refine hK _ ?_; clear hK; clear K) | (clear hK; clear K; refine hK _ ?_; clear hK; clear K) | (clear hK; clear K; clear hK; clear K; refine hK _ ?_; clear hK; clear K) | refine awp_block ?_)
        all_goals exact ⟨j + 1, b + 1, ⟨by omega, by omega, by omega, fun _ => oddS hb2, fun h => by omega⟩, by omega, by omega, by omega⟩
      · have g92 : ¬ (s.data[j].toNat : Int) = 92 := nn _ _ h9
        repeat' (first | ((first | ((with_reducible refine aguard (fun hg => ?_) (fun hg => ?_)) <;> (try simp only [hg]) <;> (try simp only [beq_iff_eq, beq_eq_false_iff_ne, ne_eq, decide_eq_true_eq, decide_eq_false_iff_not, bne_iff_ne, bne_eq_false_iff_eq] at hg) <;> (try (first | simp only [eq_false hg, if_true, if_false] | simp only [eq_true hg, if_true, if_false]))) | with_reducible refine aseq_step ?_ | with_reducible refine any_step' ?_ | with_reducible refine aseq_end ?_ | with_reducible refine any_end' ?_ | refine awp_condC ?_ | refine awp_exit ?_ | refine awp_skip ?_ | refine awp_ret ?_) <;> (try simp (disch := first | omega | simp) [wrap_i64, -aseqC, -anyC, hlt, hlt3, g92, hmod])) | (refine And.intro ?_ ?_; (first | omega | assumption | (simp; done))) | (refine awp_seq_k fun K hK => ?_) | (refine awp_regionC ?_) | (refine awp_anyA true (by kernel_rfl) (by kernel_rfl) ?_) | (refine hK _ ?_; clear hK; clear K) | (clear hK; clear K; refine hK _ ?_; clear hK; clear K) | (clear hK; clear K; clear hK; clear K; refine hK _ ?_; clear hK; clear K) | refine awp_block ?_)
        all_goals first | exact absurd (by assumption) g92 | exact ⟨j + 1, 0, ⟨by omega, by omega, by omega, fun _ => oddS hb2, fun h => by omega⟩, by omega, by omega, by omega⟩
  · obtain rfl : j = s.size := by omega
    have hnone : q = none := by
      rcases Nat.mod_two_eq_zero_or_one b with hb2 | hb2
      · rw [← hev hb2, List.drop_of_length_le (by omega), quoteI]; rfl
      · obtain ⟨o1, o2, o3⟩ := hod hb2
        have hd1 : s.data.toList.drop (s.size - 1) = [92] := by
          have e : s.data.toList[s.size - 1]'(by omega) = 92 := by rw [List.getElem?_eq_getElem (by omega)] at o2; exact Option.some.inj o2
          rw [List.drop_eq_getElem_cons (by omega), e, List.drop_of_length_le (by omega)]
        rw [← o3, hd1, quoteI]; rfl
    have hx := hbad hnone
    subst hx
    repeat' (first | ((first | ((with_reducible refine aguard (fun hg => ?_) (fun hg => ?_)) <;> (try simp only [hg]) <;> (try simp only [beq_iff_eq, beq_eq_false_iff_ne, ne_eq, decide_eq_true_eq, decide_eq_false_iff_not, bne_iff_ne, bne_eq_false_iff_eq] at hg) <;> (try (first | simp only [eq_false hg, if_true, if_false] | simp only [eq_true hg, if_true, if_false]))) | with_reducible refine aseq_step ?_ | with_reducible refine any_step' ?_ | with_reducible refine aseq_end ?_ | with_reducible refine any_end' ?_ | refine awp_condC ?_ | refine awp_exit ?_ | refine awp_skip ?_ | refine awp_ret ?_) <;> (try simp (disch := first | omega | simp) [wrap_i64, -aseqC, -anyC, hlt])) | (refine And.intro ?_ ?_; (first | omega | assumption | (simp; done))) | (refine awp_seq_k fun K hK => ?_) | (refine awp_regionC ?_) | (refine awp_anyA true (by kernel_rfl) (by kernel_rfl) ?_) | (refine hK _ ?_; clear hK; clear K) | (clear hK; clear K; refine hK _ ?_; clear hK; clear K) | (clear hK; clear K; clear hK; clear K; refine hK _ ?_; clear hK; clear K) | refine awp_block ?_)
    all_goals rfl
end Go.Proofs.YtkhmlicikbnmdaaDoor
