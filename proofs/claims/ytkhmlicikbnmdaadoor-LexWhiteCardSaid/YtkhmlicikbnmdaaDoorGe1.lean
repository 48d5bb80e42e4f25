/- Walk: the law LexBack. -/
import Derived.Test.YtkhmlicikbnmdaaDoorGa31
import Derived.Test.YtkhmlicikbnmdaaDoorGa32
set_option linter.unusedSimpArgs false
set_option linter.unusedVariables false
namespace Go.Proofs.YtkhmlicikbnmdaaDoor
open Go.RowKit Go.Lib

theorem okToks_nil {m : Nat} : ¬ OkToks [] m := by rw [OkToks]; simp
theorem okToks_head {x : Tk × Nat} {L : List (Tk × Nat)} {m : Nat} (h : OkToks (x :: L) m) : x.2 = m ∧ (L = [] → x = (⟨5, [], 0⟩, m)) ∧ (L ≠ [] → OkTk x.1 ∧ OkToks L (if x.1.kind = 4 then m + 1 else m)) := by
  cases L with
  | nil => rw [OkToks] at h; subst h; exact ⟨rfl, fun _ => rfl, fun e => absurd rfl e⟩
  | cons y L =>
    have := (okToks_cons (by simp)).1 h
    refine ⟨this.1, ?_, fun _ => this.2⟩
    intro e; cases e
theorem okToks_lines : ∀ {L : List (Tk × Nat)} {m : Nat}, OkToks L m → ∀ x ∈ L, x.2 ≤ m + L.length
  | [], _, h, _, _ => absurd h okToks_nil
  | y :: L, m, h, x, hx => by
    obtain ⟨h1, h2, h3⟩ := okToks_head h
    rcases List.mem_cons.1 hx with rfl | hx
    · rw [h1, List.length_cons]; omega
    · have hL : L ≠ [] := fun e => by rw [e] at hx; cases hx
      have := okToks_lines (h3 hL).2 x hx
      rw [List.length_cons]
      split at this <;> omega
theorem lexF_err : ∀ (f : Nat) (l : List UInt8) (h m : Nat) (e n : Nat), lexF f l h m = .error (e, n) → e ≠ 0 ∧ n ≤ m + f
  | 0, _, _, _, e, n, h => by cases h; exact ⟨by decide, by omega⟩
  | f + 1, l, h, m, e, n, he => by
    rw [lex_step] at he
    split at he
    · cases he; exact ⟨by decide, by omega⟩
    · cases ht : tokP (skipP false l) with
      | error e' => rw [ht] at he; cases he; rcases tok_err ht with rfl | rfl <;> exact ⟨by decide, by omega⟩
      | ok tk =>
        obtain ⟨t, k⟩ := tk
        rw [ht] at he
        dsimp only at he
        split at he
        · cases he
        · cases hr : lexF f ((skipP false l).drop k) (h + 1) (if t.kind = 4 then m + 1 else m) with
          | error e' =>
            rw [hr] at he
            cases he
            have := lexF_err f _ _ _ _ _ hr
            exact ⟨this.1, by have := this.2; split at this <;> omega⟩
          | ok M => rw [hr] at he; cases he
theorem lexP_err {l : List UInt8} {e n : Nat} (h : lexP l = .error (e, n)) : e ≠ 0 ∧ n ≤ l.length + 3 := by
  unfold lexP at h
  split at h
  · cases h; exact ⟨by decide, by omega⟩
  · have := lexF_err _ _ _ _ _ _ h
    exact ⟨this.1, by omega⟩
theorem lexP_ok {l : List UInt8} {L : List (Tk × Nat)} (h : lexP l = .ok L) (hl : l.length ≤ 2500) : L ≠ [] ∧ OkToks L 1 ∧ L.length ≤ l.length + 1 ∧ (∀ x ∈ L, x.1.kind ≤ 5 ∧ x.1.text.length ≤ 200 + l.length) ∧ (writeP L).length ≤ 2 * l.length ∧ lexP (writeP L) = .ok L := by
  unfold lexP at h
  rw [if_neg (by omega)] at h
  obtain ⟨h1, h2, h3⟩ := lex_ok _ l (Nat.le_refl _) _ _ _ _ (by omega) h
  obtain ⟨h4, h5⟩ := lex_facts _ l (Nat.le_refl _) _ _ _ _ (by omega) h
  refine ⟨h1, h2, h3, h4, h5, ?_⟩
  unfold lexP
  rw [if_neg (by omega)]
  exact lex_back _ l (Nat.le_refl _) _ _ _ _ _ (by omega) (by omega) h
theorem later_zero (L : List (Tk × Nat)) : later 0 L = L := by unfold later; simp
set_option maxHeartbeats 8000000 in
theorem lexBack_g (s : ByteArray) : Gives Tryd.prog 11 [.str s] (.bool true) := by
  have hsm := small17_g
  have hsz : s.data.toList.length = s.size := by rw [← Lib.size_eq]
  by_cases hbig : 2500 < s.size
  · have hbig' : (2500 : Int) < s.size := by omega
    refine gives_of_awp Tryd.func11 Tryd.ntmps11 rfl rfl (by decide) rfl (by intro n; simp) fun σ n0 hcl hft => ?_
    repeat' (first | ((with_reducible refine aguard (fun hg => ?_) (fun hg => ?_)) <;> (try simp only [hg]) <;> (try simp only [beq_iff_eq, beq_eq_false_iff_ne, ne_eq, decide_eq_true_eq, decide_eq_false_iff_not, bne_iff_ne, bne_eq_false_iff_eq] at hg) <;> (try (first | simp only [eq_false hg, if_true, if_false] | simp only [eq_true hg, if_true, if_false])) <;> (try simp (disch := first | omega | simp) [wrap_i64, -aseqC, -anyC, hbig'])) | (with_reducible refine aseq_step ?_; try simp (disch := first | omega | simp) [wrap_i64, -aseqC, -anyC, hbig']) | (with_reducible refine any_step' ?_; try simp (disch := first | omega | simp) [wrap_i64, -aseqC, -anyC, hbig']) | (with_reducible refine aseq_end ?_; try simp (disch := first | omega | simp) [wrap_i64, -aseqC, -anyC, hbig']) | (with_reducible refine any_end' ?_; try simp (disch := first | omega | simp) [wrap_i64, -aseqC, -anyC, hbig']) | ((first | with_reducible refine sideG ?_ ?_ | with_reducible refine sideG2 ?_ ?_ | with_reducible refine sideS ?_ ?_ | with_reducible refine sideS2 ?_ ?_ | with_reducible refine sideS3 ?_ ?_ | with_reducible refine sideA ?_ ?_ | with_reducible refine sideA2 ?_ ?_ | with_reducible refine sideA3 ?_ ?_); (first | omega | assumption | (simp; done))) | (refine acall (hsm) ?_; try simp (disch := first | omega | simp) [wrap_i64, -aseqC, -anyC, hbig']) | (refine agives (hsm) ?_; try simp (disch := first | omega | simp) [wrap_i64, -aseqC, -anyC, hbig']) | (refine acallAt (hsm) ?_; try simp (disch := first | omega | simp) [wrap_i64, -aseqC, -anyC, hbig']) | (refine awp_seq_k fun K hK => ?_) | (refine awp_regionC ?_) | (refine awp_anyA true (by kernel_rfl) (by kernel_rfl) ?_) | (refine awp_anyA false (by kernel_rfl) (by kernel_rfl) ?_) | (refine hK _ ?_; clear hK; clear K) | (clear hK; clear K; refine hK _ ?_; clear hK; clear K) | (clear hK; clear K; clear hK; clear K; refine hK _ ?_; clear hK; clear K) | refine awp_block ?_ | (refine awp_condC ?_; simp (disch := first | omega | simp) [wrap_i64, -aseqC, -anyC, hbig']) | (refine awp_exit ?_; try simp (disch := first | omega | simp) [wrap_i64, -aseqC, -anyC, hbig']) | (refine awp_skip ?_; try simp (disch := first | omega | simp) [wrap_i64, -aseqC, -anyC, hbig']) | (refine awp_ret ?_; try simp (disch := first | omega | simp) [wrap_i64, -aseqC, -anyC, hbig']))
  · have hbig' : ¬ (2500 : Int) < s.size := by omega
    have hlg := lex_g s (by omega)
    cases hR : lexP s.data.toList with
    | error e =>
      obtain ⟨e, m⟩ := e
      rw [hR] at hlg
      replace hlg : Gives Tryd.prog 27 [.str s] (.tup [.sl [], .int e, .int m]) := hlg
      have he : ¬ (e : Int) = 0 := by have := (lexP_err hR).1; omega
      refine gives_of_awp Tryd.func11 Tryd.ntmps11 rfl rfl (by decide) rfl (by intro n; simp) fun σ n0 hcl hft => ?_
      repeat' (first | ((with_reducible refine aguard (fun hg => ?_) (fun hg => ?_)) <;> (try simp only [hg]) <;> (try simp only [beq_iff_eq, beq_eq_false_iff_ne, ne_eq, decide_eq_true_eq, decide_eq_false_iff_not, bne_iff_ne, bne_eq_false_iff_eq] at hg) <;> (try (first | simp only [eq_false hg, if_true, if_false] | simp only [eq_true hg, if_true, if_false])) <;> (try simp (disch := first | omega | simp) [wrap_i64, -aseqC, -anyC, hbig', he])) | (with_reducible refine aseq_step ?_; try simp (disch := first | omega | simp) [wrap_i64, -aseqC, -anyC, hbig', he]) | (with_reducible refine any_step' ?_; try simp (disch := first | omega | simp) [wrap_i64, -aseqC, -anyC, hbig', he]) | (with_reducible refine aseq_end ?_; try simp (disch := first | omega | simp) [wrap_i64, -aseqC, -anyC, hbig', he]) | (with_reducible refine any_end' ?_; try simp (disch := first | omega | simp) [wrap_i64, -aseqC, -anyC, hbig', he]) | ((first | with_reducible refine sideG ?_ ?_ | with_reducible refine sideG2 ?_ ?_ | with_reducible refine sideS ?_ ?_ | with_reducible refine sideS2 ?_ ?_ | with_reducible refine sideS3 ?_ ?_ | with_reducible refine sideA ?_ ?_ | with_reducible refine sideA2 ?_ ?_ | with_reducible refine sideA3 ?_ ?_); (first | omega | assumption | (simp; done))) | (refine acall (hsm) ?_; try simp (disch := first | omega | simp) [wrap_i64, -aseqC, -anyC, hbig', he]) | (refine agives (hsm) ?_; try simp (disch := first | omega | simp) [wrap_i64, -aseqC, -anyC, hbig', he]) | (refine acallAt (hsm) ?_; try simp (disch := first | omega | simp) [wrap_i64, -aseqC, -anyC, hbig', he]) | (refine acall (hlg) ?_; try simp (disch := first | omega | simp) [wrap_i64, -aseqC, -anyC, hbig', he]) | (refine agives (hlg) ?_; try simp (disch := first | omega | simp) [wrap_i64, -aseqC, -anyC, hbig', he]) | (refine acallAt (hlg) ?_; try simp (disch := first | omega | simp) [wrap_i64, -aseqC, -anyC, hbig', he]) | (refine awp_seq_k fun K hK => ?_) | (refine awp_regionC ?_) | (refine awp_anyA true (by kernel_rfl) (by kernel_rfl) ?_) | (refine awp_anyA false (by kernel_rfl) (by kernel_rfl) ?_) | (refine hK _ ?_; clear hK; clear K) | (clear hK; clear K; refine hK _ ?_; clear hK; clear K) | (clear hK; clear K; clear hK; clear K; refine hK _ ?_; clear hK; clear K) | refine awp_block ?_ | (refine awp_condC ?_; simp (disch := first | omega | simp) [wrap_i64, -aseqC, -anyC, hbig', he]) | (refine awp_exit ?_; try simp (disch := first | omega | simp) [wrap_i64, -aseqC, -anyC, hbig', he]) | (refine awp_skip ?_; try simp (disch := first | omega | simp) [wrap_i64, -aseqC, -anyC, hbig', he]) | (refine awp_ret ?_; try simp (disch := first | omega | simp) [wrap_i64, -aseqC, -anyC, hbig', he]))
      all_goals first | (exfalso; omega) | skip
    | ok L =>
      obtain ⟨p1, p2, p3, p4, p5, p6⟩ := lexP_ok hR (by omega)
      rw [hR] at hlg
      replace hlg : Gives Tryd.prog 27 [.str s] (.tup [.sl (L.map tkAv), .int 0, .int 0]) := hlg
      have hwg := write_g L (by omega) (fun x hx => ⟨(p4 x hx).1, by have := (p4 x hx).2; omega⟩) (by omega)
      have hlg2 := lex_g (bytesA (writeP L)) (by rw [bytesA_size']; omega)
      rw [bytesA_data, p6] at hlg2
      replace hlg2 : Gives Tryd.prog 27 [.str (bytesA (writeP L))] (.tup [.sl (L.map tkAv), .int 0, .int 0]) := hlg2
      have hsg : Gives Tryd.prog 28 [.sl (L.map tkAv), .sl (L.map tkAv), .int 0] (.bool true) := by
        have := rsame17_g L L 0 (by omega) (by omega) (by omega) (fun x hx => by have := okToks_lines p2 x hx; omega)
        rw [later_zero, decide_eq_true rfl] at this
        exact this
      have hLl : ¬ L.length = 0 := fun e => p1 (List.eq_nil_of_length_eq_zero e)
      have hLe : L.isEmpty = false := by cases L with | nil => exact absurd rfl p1 | cons x L => rfl
      refine gives_of_awp Tryd.func11 Tryd.ntmps11 rfl rfl (by decide) rfl (by intro n; simp) fun σ n0 hcl hft => ?_
      repeat' (first | ((with_reducible refine aguard (fun hg => ?_) (fun hg => ?_)) <;> (try simp only [hg]) <;> (try simp only [beq_iff_eq, beq_eq_false_iff_ne, ne_eq, decide_eq_true_eq, decide_eq_false_iff_not, bne_iff_ne, bne_eq_false_iff_eq] at hg) <;> (try (first | simp only [eq_false hg, if_true, if_false] | simp only [eq_true hg, if_true, if_false])) <;> (try simp (disch := first | omega | simp) [wrap_i64, -aseqC, -anyC, hbig', hLl, hLe])) | (with_reducible refine aseq_step ?_; try simp (disch := first | omega | simp) [wrap_i64, -aseqC, -anyC, hbig', hLl, hLe]) | (with_reducible refine any_step' ?_; try simp (disch := first | omega | simp) [wrap_i64, -aseqC, -anyC, hbig', hLl, hLe]) | (with_reducible refine aseq_end ?_; try simp (disch := first | omega | simp) [wrap_i64, -aseqC, -anyC, hbig', hLl, hLe]) | (with_reducible refine any_end' ?_; try simp (disch := first | omega | simp) [wrap_i64, -aseqC, -anyC, hbig', hLl, hLe]) | ((first | with_reducible refine sideG ?_ ?_ | with_reducible refine sideG2 ?_ ?_ | with_reducible refine sideS ?_ ?_ | with_reducible refine sideS2 ?_ ?_ | with_reducible refine sideS3 ?_ ?_ | with_reducible refine sideA ?_ ?_ | with_reducible refine sideA2 ?_ ?_ | with_reducible refine sideA3 ?_ ?_); (first | omega | assumption | (simp; done))) | (refine acall (hsm) ?_; try simp (disch := first | omega | simp) [wrap_i64, -aseqC, -anyC, hbig', hLl, hLe]) | (refine agives (hsm) ?_; try simp (disch := first | omega | simp) [wrap_i64, -aseqC, -anyC, hbig', hLl, hLe]) | (refine acallAt (hsm) ?_; try simp (disch := first | omega | simp) [wrap_i64, -aseqC, -anyC, hbig', hLl, hLe]) | (refine acall (hlg) ?_; try simp (disch := first | omega | simp) [wrap_i64, -aseqC, -anyC, hbig', hLl, hLe]) | (refine agives (hlg) ?_; try simp (disch := first | omega | simp) [wrap_i64, -aseqC, -anyC, hbig', hLl, hLe]) | (refine acallAt (hlg) ?_; try simp (disch := first | omega | simp) [wrap_i64, -aseqC, -anyC, hbig', hLl, hLe]) | (refine acall (hwg) ?_; try simp (disch := first | omega | simp) [wrap_i64, -aseqC, -anyC, hbig', hLl, hLe]) | (refine agives (hwg) ?_; try simp (disch := first | omega | simp) [wrap_i64, -aseqC, -anyC, hbig', hLl, hLe]) | (refine acallAt (hwg) ?_; try simp (disch := first | omega | simp) [wrap_i64, -aseqC, -anyC, hbig', hLl, hLe]) | (refine acall (hlg2) ?_; try simp (disch := first | omega | simp) [wrap_i64, -aseqC, -anyC, hbig', hLl, hLe]) | (refine agives (hlg2) ?_; try simp (disch := first | omega | simp) [wrap_i64, -aseqC, -anyC, hbig', hLl, hLe]) | (refine acallAt (hlg2) ?_; try simp (disch := first | omega | simp) [wrap_i64, -aseqC, -anyC, hbig', hLl, hLe]) | (refine acall (hsg) ?_; try simp (disch := first | omega | simp) [wrap_i64, -aseqC, -anyC, hbig', hLl, hLe]) | (refine agives (hsg) ?_; try simp (disch := first | omega | simp) [wrap_i64, -aseqC, -anyC, hbig', hLl, hLe]) | (refine acallAt (hsg) ?_; try simp (disch := first | omega | simp) [wrap_i64, -aseqC, -anyC, hbig', hLl, hLe]) | (refine awp_seq_k fun K hK => ?_) | (refine awp_regionC ?_) | (refine awp_anyA true (by kernel_rfl) (by kernel_rfl) ?_) | (refine awp_anyA false (by kernel_rfl) (by kernel_rfl) ?_) | (refine hK _ ?_; clear hK; clear K) | (clear hK; clear K; refine hK _ ?_; clear hK; clear K) | (clear hK; clear K; clear hK; clear K; refine hK _ ?_; clear hK; clear K) | refine awp_block ?_ | (refine awp_condC ?_; simp (disch := first | omega | simp) [wrap_i64, -aseqC, -anyC, hbig', hLl, hLe]) | (refine awp_exit ?_; try simp (disch := first | omega | simp) [wrap_i64, -aseqC, -anyC, hbig', hLl, hLe]) | (refine awp_skip ?_; try simp (disch := first | omega | simp) [wrap_i64, -aseqC, -anyC, hbig', hLl, hLe]) | (refine awp_ret ?_; try simp (disch := first | omega | simp) [wrap_i64, -aseqC, -anyC, hbig', hLl, hLe]))
      all_goals first | (exfalso; omega) | skip
      refine awp_loopC hcl (fun x : Nat × Nat => [(3, .bool true), (4, .sl (L.map tkAv)), (10, .int x.2), (11, .int x.1)]) (fun _ => [])
        (fun x => x.1 ≤ L.length ∧ (x.1 < L.length → OkToks (L.drop x.1) x.2) ∧ x.2 ≤ 1 + x.1) (fun x => L.length - x.1) (0, 1) ⟨Nat.zero_le _, fun _ => p2, Nat.le_refl _⟩ (by simp) fun ⟨i, line⟩ ⟨hi, hok, hli⟩ => ?_
      dsimp only at hi hok hli ⊢
      by_cases hlt : i < L.length
      · replace hok := hok hlt
        have hd : L.drop i = L[i] :: L.drop (i + 1) := List.drop_eq_getElem_cons hlt
        rw [hd] at hok
        obtain ⟨o1, o2, o3⟩ := okToks_head hok
        by_cases hlast : i + 1 = L.length
        · have hx := o2 (List.drop_of_length_le (by omega))
          have hla : (L.length : Int) - 1 = i := by omega
          repeat' (first | ((with_reducible refine aguard (fun hg => ?_) (fun hg => ?_)) <;> (try simp only [hg]) <;> (try simp only [beq_iff_eq, beq_eq_false_iff_ne, ne_eq, decide_eq_true_eq, decide_eq_false_iff_not, bne_iff_ne, bne_eq_false_iff_eq] at hg) <;> (try (first | simp only [eq_false hg, if_true, if_false] | simp only [eq_true hg, if_true, if_false])) <;> (try simp (disch := first | omega | simp) [wrap_i64, -aseqC, -anyC, hlt, hx, tkAv, hla])) | (with_reducible refine aseq_step ?_; try simp (disch := first | omega | simp) [wrap_i64, -aseqC, -anyC, hlt, hx, tkAv, hla]) | (with_reducible refine any_step' ?_; try simp (disch := first | omega | simp) [wrap_i64, -aseqC, -anyC, hlt, hx, tkAv, hla]) | (with_reducible refine aseq_end ?_; try simp (disch := first | omega | simp) [wrap_i64, -aseqC, -anyC, hlt, hx, tkAv, hla]) | (with_reducible refine any_end' ?_; try simp (disch := first | omega | simp) [wrap_i64, -aseqC, -anyC, hlt, hx, tkAv, hla]) | ((first | with_reducible refine sideG ?_ ?_ | with_reducible refine sideG2 ?_ ?_ | with_reducible refine sideS ?_ ?_ | with_reducible refine sideS2 ?_ ?_ | with_reducible refine sideS3 ?_ ?_ | with_reducible refine sideA ?_ ?_ | with_reducible refine sideA2 ?_ ?_ | with_reducible refine sideA3 ?_ ?_); (first | omega | assumption | (simp; done))) | (refine awp_seq_k fun K hK => ?_) | (refine awp_regionC ?_) | (refine awp_anyA true (by kernel_rfl) (by kernel_rfl) ?_) | (refine awp_anyA false (by kernel_rfl) (by kernel_rfl) ?_) | (refine hK _ ?_; clear hK; clear K) | (clear hK; clear K; refine hK _ ?_; clear hK; clear K) | (clear hK; clear K; clear hK; clear K; refine hK _ ?_; clear hK; clear K) | refine awp_block ?_ | (refine awp_condC ?_; simp (disch := first | omega | simp) [wrap_i64, -aseqC, -anyC, hlt, hx, tkAv, hla]) | (refine awp_exit ?_; try simp (disch := first | omega | simp) [wrap_i64, -aseqC, -anyC, hlt, hx, tkAv, hla]) | (refine awp_skip ?_; try simp (disch := first | omega | simp) [wrap_i64, -aseqC, -anyC, hlt, hx, tkAv, hla]) | (refine awp_ret ?_; try simp (disch := first | omega | simp) [wrap_i64, -aseqC, -anyC, hlt, hx, tkAv, hla]))
          all_goals first | (exfalso; omega) | exact ⟨i + 1, line, ⟨by omega, fun h => absurd h (by omega), by omega⟩, by omega, by omega, by omega⟩
        · obtain ⟨ok, oks⟩ := o3 fun e => by
            have := congrArg List.length e
            rw [List.length_drop, List.length_nil] at this; omega
          have hla : ¬ (i : Int) = (L.length : Int) - 1 := by omega
          obtain ⟨⟨⟨k, t, n⟩, ln⟩, hx⟩ : ∃ x, x = L[i] := ⟨_, rfl⟩
          rw [← hx] at o1 ok oks
          have hxx := hx.symm
          dsimp only at o1
          subst o1
          have hk5 : k ≤ 4 := ok.kind
          have hk6 : k = 0 ∨ k = 1 ∨ k = 2 ∨ k = 3 ∨ k = 4 := by omega
          rcases hk6 with rfl | rfl | rfl | rfl | rfl
          · obtain ⟨w1, w2, w3, w4⟩ := ok.word rfl
            have hn := ok.zero (by simp)
            dsimp only at w1 w2 w3 w4 hn
            subst hn
            have hts := bytesA_size' t
            have hng := name_g (bytesA t) (by omega)
            have hnp : nameP (bytesA t).toList = true := by
              rw [ByteArray.toList_eq, bytesA_data]
              cases t with
              | nil => exact absurd rfl w1
              | cons c t =>
                unfold nameP
                have e1 : (c :: t).getD 0 0 = c := rfl
                rw [e1, w4 c rfl, List.all_eq_true.2 w3, decide_eq_true w2, decide_eq_false (by simp)]; rfl
            rw [hnp] at hng
            repeat' (first | ((with_reducible refine aguard (fun hg => ?_) (fun hg => ?_)) <;> (try simp only [hg]) <;> (try simp only [beq_iff_eq, beq_eq_false_iff_ne, ne_eq, decide_eq_true_eq, decide_eq_false_iff_not, bne_iff_ne, bne_eq_false_iff_eq] at hg) <;> (try (first | simp only [eq_false hg, if_true, if_false] | simp only [eq_true hg, if_true, if_false])) <;> (try simp (disch := first | omega | simp) [wrap_i64, -aseqC, -anyC, hlt, hxx, tkAv, hla])) | (with_reducible refine aseq_step ?_; try simp (disch := first | omega | simp) [wrap_i64, -aseqC, -anyC, hlt, hxx, tkAv, hla]) | (with_reducible refine any_step' ?_; try simp (disch := first | omega | simp) [wrap_i64, -aseqC, -anyC, hlt, hxx, tkAv, hla]) | (with_reducible refine aseq_end ?_; try simp (disch := first | omega | simp) [wrap_i64, -aseqC, -anyC, hlt, hxx, tkAv, hla]) | (with_reducible refine any_end' ?_; try simp (disch := first | omega | simp) [wrap_i64, -aseqC, -anyC, hlt, hxx, tkAv, hla]) | ((first | with_reducible refine sideG ?_ ?_ | with_reducible refine sideG2 ?_ ?_ | with_reducible refine sideS ?_ ?_ | with_reducible refine sideS2 ?_ ?_ | with_reducible refine sideS3 ?_ ?_ | with_reducible refine sideA ?_ ?_ | with_reducible refine sideA2 ?_ ?_ | with_reducible refine sideA3 ?_ ?_); (first | omega | assumption | (simp; done))) | (refine acall (hng) ?_; try simp (disch := first | omega | simp) [wrap_i64, -aseqC, -anyC, hlt, hxx, tkAv, hla]) | (refine agives (hng) ?_; try simp (disch := first | omega | simp) [wrap_i64, -aseqC, -anyC, hlt, hxx, tkAv, hla]) | (refine acallAt (hng) ?_; try simp (disch := first | omega | simp) [wrap_i64, -aseqC, -anyC, hlt, hxx, tkAv, hla]) | (refine awp_seq_k fun K hK => ?_) | (refine awp_regionC ?_) | (refine awp_anyA true (by kernel_rfl) (by kernel_rfl) ?_) | (refine awp_anyA false (by kernel_rfl) (by kernel_rfl) ?_) | (refine hK _ ?_; clear hK; clear K) | (clear hK; clear K; refine hK _ ?_; clear hK; clear K) | (clear hK; clear K; clear hK; clear K; refine hK _ ?_; clear hK; clear K) | refine awp_block ?_ | (refine awp_condC ?_; simp (disch := first | omega | simp) [wrap_i64, -aseqC, -anyC, hlt, hxx, tkAv, hla]) | (refine awp_exit ?_; try simp (disch := first | omega | simp) [wrap_i64, -aseqC, -anyC, hlt, hxx, tkAv, hla]) | (refine awp_skip ?_; try simp (disch := first | omega | simp) [wrap_i64, -aseqC, -anyC, hlt, hxx, tkAv, hla]) | (refine awp_ret ?_; try simp (disch := first | omega | simp) [wrap_i64, -aseqC, -anyC, hlt, hxx, tkAv, hla]))
            all_goals first | (exfalso; omega) | exact ⟨i + 1, ln, ⟨by omega, fun _ => oks, by omega⟩, by omega, by omega, by omega⟩
          · obtain ⟨w1, w2⟩ := ok.num rfl
            dsimp only at w1 w2
            obtain ⟨w3, w4⟩ := intP_iff.1 w1
            have hdg := decimal_g n w3
            rw [w4] at hdg
            have w5 : ¬ n < 0 := by omega
            repeat' (first | ((with_reducible refine aguard (fun hg => ?_) (fun hg => ?_)) <;> (try simp only [hg]) <;> (try simp only [beq_iff_eq, beq_eq_false_iff_ne, ne_eq, decide_eq_true_eq, decide_eq_false_iff_not, bne_iff_ne, bne_eq_false_iff_eq] at hg) <;> (try (first | simp only [eq_false hg, if_true, if_false] | simp only [eq_true hg, if_true, if_false])) <;> (try simp (disch := first | omega | simp) [wrap_i64, -aseqC, -anyC, hlt, hxx, tkAv, hla, w5])) | (with_reducible refine aseq_step ?_; try simp (disch := first | omega | simp) [wrap_i64, -aseqC, -anyC, hlt, hxx, tkAv, hla, w5]) | (with_reducible refine any_step' ?_; try simp (disch := first | omega | simp) [wrap_i64, -aseqC, -anyC, hlt, hxx, tkAv, hla, w5]) | (with_reducible refine aseq_end ?_; try simp (disch := first | omega | simp) [wrap_i64, -aseqC, -anyC, hlt, hxx, tkAv, hla, w5]) | (with_reducible refine any_end' ?_; try simp (disch := first | omega | simp) [wrap_i64, -aseqC, -anyC, hlt, hxx, tkAv, hla, w5]) | ((first | with_reducible refine sideG ?_ ?_ | with_reducible refine sideG2 ?_ ?_ | with_reducible refine sideS ?_ ?_ | with_reducible refine sideS2 ?_ ?_ | with_reducible refine sideS3 ?_ ?_ | with_reducible refine sideA ?_ ?_ | with_reducible refine sideA2 ?_ ?_ | with_reducible refine sideA3 ?_ ?_); (first | omega | assumption | (simp; done))) | (refine acall (hdg) ?_; try simp (disch := first | omega | simp) [wrap_i64, -aseqC, -anyC, hlt, hxx, tkAv, hla, w5]) | (refine agives (hdg) ?_; try simp (disch := first | omega | simp) [wrap_i64, -aseqC, -anyC, hlt, hxx, tkAv, hla, w5]) | (refine acallAt (hdg) ?_; try simp (disch := first | omega | simp) [wrap_i64, -aseqC, -anyC, hlt, hxx, tkAv, hla, w5]) | (refine awp_seq_k fun K hK => ?_) | (refine awp_regionC ?_) | (refine awp_anyA true (by kernel_rfl) (by kernel_rfl) ?_) | (refine awp_anyA false (by kernel_rfl) (by kernel_rfl) ?_) | (refine hK _ ?_; clear hK; clear K) | (clear hK; clear K; refine hK _ ?_; clear hK; clear K) | (clear hK; clear K; clear hK; clear K; refine hK _ ?_; clear hK; clear K) | refine awp_block ?_ | (refine awp_condC ?_; simp (disch := first | omega | simp) [wrap_i64, -aseqC, -anyC, hlt, hxx, tkAv, hla, w5]) | (refine awp_exit ?_; try simp (disch := first | omega | simp) [wrap_i64, -aseqC, -anyC, hlt, hxx, tkAv, hla, w5]) | (refine awp_skip ?_; try simp (disch := first | omega | simp) [wrap_i64, -aseqC, -anyC, hlt, hxx, tkAv, hla, w5]) | (refine awp_ret ?_; try simp (disch := first | omega | simp) [wrap_i64, -aseqC, -anyC, hlt, hxx, tkAv, hla, w5]))
            all_goals first | (exfalso; omega) | exact ⟨i + 1, ln, ⟨by omega, fun _ => oks, by omega⟩, by omega, by omega, by omega⟩
          · have w1 := ok.str rfl
            have hn := ok.zero (by simp)
            dsimp only at w1 hn
            subst hn
            have hts := bytesA_size' t
            have w2 : ¬ (200 : Int) < t.length := by omega
            repeat' (first | ((with_reducible refine aguard (fun hg => ?_) (fun hg => ?_)) <;> (try simp only [hg]) <;> (try simp only [beq_iff_eq, beq_eq_false_iff_ne, ne_eq, decide_eq_true_eq, decide_eq_false_iff_not, bne_iff_ne, bne_eq_false_iff_eq] at hg) <;> (try (first | simp only [eq_false hg, if_true, if_false] | simp only [eq_true hg, if_true, if_false])) <;> (try simp (disch := first | omega | simp) [wrap_i64, -aseqC, -anyC, hlt, hxx, tkAv, hla, hts, w2])) | (with_reducible refine aseq_step ?_; try simp (disch := first | omega | simp) [wrap_i64, -aseqC, -anyC, hlt, hxx, tkAv, hla, hts, w2]) | (with_reducible refine any_step' ?_; try simp (disch := first | omega | simp) [wrap_i64, -aseqC, -anyC, hlt, hxx, tkAv, hla, hts, w2]) | (with_reducible refine aseq_end ?_; try simp (disch := first | omega | simp) [wrap_i64, -aseqC, -anyC, hlt, hxx, tkAv, hla, hts, w2]) | (with_reducible refine any_end' ?_; try simp (disch := first | omega | simp) [wrap_i64, -aseqC, -anyC, hlt, hxx, tkAv, hla, hts, w2]) | ((first | with_reducible refine sideG ?_ ?_ | with_reducible refine sideG2 ?_ ?_ | with_reducible refine sideS ?_ ?_ | with_reducible refine sideS2 ?_ ?_ | with_reducible refine sideS3 ?_ ?_ | with_reducible refine sideA ?_ ?_ | with_reducible refine sideA2 ?_ ?_ | with_reducible refine sideA3 ?_ ?_); (first | omega | assumption | (simp; done))) | (refine awp_seq_k fun K hK => ?_) | (refine awp_regionC ?_) | (refine awp_anyA true (by kernel_rfl) (by kernel_rfl) ?_) | (refine awp_anyA false (by kernel_rfl) (by kernel_rfl) ?_) | (refine hK _ ?_; clear hK; clear K) | (clear hK; clear K; refine hK _ ?_; clear hK; clear K) | (clear hK; clear K; clear hK; clear K; refine hK _ ?_; clear hK; clear K) | refine awp_block ?_ | (refine awp_condC ?_; simp (disch := first | omega | simp) [wrap_i64, -aseqC, -anyC, hlt, hxx, tkAv, hla, hts, w2]) | (refine awp_exit ?_; try simp (disch := first | omega | simp) [wrap_i64, -aseqC, -anyC, hlt, hxx, tkAv, hla, hts, w2]) | (refine awp_skip ?_; try simp (disch := first | omega | simp) [wrap_i64, -aseqC, -anyC, hlt, hxx, tkAv, hla, hts, w2]) | (refine awp_ret ?_; try simp (disch := first | omega | simp) [wrap_i64, -aseqC, -anyC, hlt, hxx, tkAv, hla, hts, w2]))
            all_goals first | (exfalso; omega) | exact ⟨i + 1, ln, ⟨by omega, fun _ => oks, by omega⟩, by omega, by omega, by omega⟩
          · have hn := ok.zero (by simp)
            dsimp only at hn
            subst hn
            repeat' (first | ((with_reducible refine aguard (fun hg => ?_) (fun hg => ?_)) <;> (try simp only [hg]) <;> (try simp only [beq_iff_eq, beq_eq_false_iff_ne, ne_eq, decide_eq_true_eq, decide_eq_false_iff_not, bne_iff_ne, bne_eq_false_iff_eq] at hg) <;> (try (first | simp only [eq_false hg, if_true, if_false] | simp only [eq_true hg, if_true, if_false])) <;> (try simp (disch := first | omega | simp) [wrap_i64, -aseqC, -anyC, hlt, hxx, tkAv, hla])) | (with_reducible refine aseq_step ?_; try simp (disch := first | omega | simp) [wrap_i64, -aseqC, -anyC, hlt, hxx, tkAv, hla]) | (with_reducible refine any_step' ?_; try simp (disch := first | omega | simp) [wrap_i64, -aseqC, -anyC, hlt, hxx, tkAv, hla]) | (with_reducible refine aseq_end ?_; try simp (disch := first | omega | simp) [wrap_i64, -aseqC, -anyC, hlt, hxx, tkAv, hla]) | (with_reducible refine any_end' ?_; try simp (disch := first | omega | simp) [wrap_i64, -aseqC, -anyC, hlt, hxx, tkAv, hla]) | ((first | with_reducible refine sideG ?_ ?_ | with_reducible refine sideG2 ?_ ?_ | with_reducible refine sideS ?_ ?_ | with_reducible refine sideS2 ?_ ?_ | with_reducible refine sideS3 ?_ ?_ | with_reducible refine sideA ?_ ?_ | with_reducible refine sideA2 ?_ ?_ | with_reducible refine sideA3 ?_ ?_); (first | omega | assumption | (simp; done))) | (refine awp_seq_k fun K hK => ?_) | (refine awp_regionC ?_) | (refine awp_anyA true (by kernel_rfl) (by kernel_rfl) ?_) | (refine awp_anyA false (by kernel_rfl) (by kernel_rfl) ?_) | (refine hK _ ?_; clear hK; clear K) | (clear hK; clear K; refine hK _ ?_; clear hK; clear K) | (clear hK; clear K; clear hK; clear K; refine hK _ ?_; clear hK; clear K) | refine awp_block ?_ | (refine awp_condC ?_; simp (disch := first | omega | simp) [wrap_i64, -aseqC, -anyC, hlt, hxx, tkAv, hla]) | (refine awp_exit ?_; try simp (disch := first | omega | simp) [wrap_i64, -aseqC, -anyC, hlt, hxx, tkAv, hla]) | (refine awp_skip ?_; try simp (disch := first | omega | simp) [wrap_i64, -aseqC, -anyC, hlt, hxx, tkAv, hla]) | (refine awp_ret ?_; try simp (disch := first | omega | simp) [wrap_i64, -aseqC, -anyC, hlt, hxx, tkAv, hla]))
            all_goals first | (exfalso; omega) | exact ⟨i + 1, ln, ⟨by omega, fun _ => oks, by omega⟩, by omega, by omega, by omega⟩
          · have hn := ok.zero (by simp)
            dsimp only at hn
            subst hn
            repeat' (first | ((with_reducible refine aguard (fun hg => ?_) (fun hg => ?_)) <;> (try simp only [hg]) <;> (try simp only [beq_iff_eq, beq_eq_false_iff_ne, ne_eq, decide_eq_true_eq, decide_eq_false_iff_not, bne_iff_ne, bne_eq_false_iff_eq] at hg) <;> (try (first | simp only [eq_false hg, if_true, if_false] | simp only [eq_true hg, if_true, if_false])) <;> (try simp (disch := first | omega | simp) [wrap_i64, -aseqC, -anyC, hlt, hxx, tkAv, hla])) | (with_reducible refine aseq_step ?_; try simp (disch := first | omega | simp) [wrap_i64, -aseqC, -anyC, hlt, hxx, tkAv, hla]) | (with_reducible refine any_step' ?_; try simp (disch := first | omega | simp) [wrap_i64, -aseqC, -anyC, hlt, hxx, tkAv, hla]) | (with_reducible refine aseq_end ?_; try simp (disch := first | omega | simp) [wrap_i64, -aseqC, -anyC, hlt, hxx, tkAv, hla]) | (with_reducible refine any_end' ?_; try simp (disch := first | omega | simp) [wrap_i64, -aseqC, -anyC, hlt, hxx, tkAv, hla]) | ((first | with_reducible refine sideG ?_ ?_ | with_reducible refine sideG2 ?_ ?_ | with_reducible refine sideS ?_ ?_ | with_reducible refine sideS2 ?_ ?_ | with_reducible refine sideS3 ?_ ?_ | with_reducible refine sideA ?_ ?_ | with_reducible refine sideA2 ?_ ?_ | with_reducible refine sideA3 ?_ ?_); (first | omega | assumption | (simp; done))) | (refine awp_seq_k fun K hK => ?_) | (refine awp_regionC ?_) | (refine awp_anyA true (by kernel_rfl) (by kernel_rfl) ?_) | (refine awp_anyA false (by kernel_rfl) (by kernel_rfl) ?_) | (refine hK _ ?_; clear hK; clear K) | (clear hK; clear K; refine hK _ ?_; clear hK; clear K) | (clear hK; clear K; clear hK; clear K; refine hK _ ?_; clear hK; clear K) | refine awp_block ?_ | (refine awp_condC ?_; simp (disch := first | omega | simp) [wrap_i64, -aseqC, -anyC, hlt, hxx, tkAv, hla]) | (refine awp_exit ?_; try simp (disch := first | omega | simp) [wrap_i64, -aseqC, -anyC, hlt, hxx, tkAv, hla]) | (refine awp_skip ?_; try simp (disch := first | omega | simp) [wrap_i64, -aseqC, -anyC, hlt, hxx, tkAv, hla]) | (refine awp_ret ?_; try simp (disch := first | omega | simp) [wrap_i64, -aseqC, -anyC, hlt, hxx, tkAv, hla]))
            all_goals first | (exfalso; omega) | exact ⟨i + 1, ln + 1, ⟨by omega, fun _ => oks, by omega⟩, by omega, by omega, by omega⟩
      · repeat' (first | ((with_reducible refine aguard (fun hg => ?_) (fun hg => ?_)) <;> (try simp only [hg]) <;> (try simp only [beq_iff_eq, beq_eq_false_iff_ne, ne_eq, decide_eq_true_eq, decide_eq_false_iff_not, bne_iff_ne, bne_eq_false_iff_eq] at hg) <;> (try (first | simp only [eq_false hg, if_true, if_false] | simp only [eq_true hg, if_true, if_false])) <;> (try simp (disch := first | omega | simp) [wrap_i64, -aseqC, -anyC, hlt])) | (with_reducible refine aseq_step ?_; try simp (disch := first | omega | simp) [wrap_i64, -aseqC, -anyC, hlt]) | (with_reducible refine any_step' ?_; try simp (disch := first | omega | simp) [wrap_i64, -aseqC, -anyC, hlt]) | (with_reducible refine aseq_end ?_; try simp (disch := first | omega | simp) [wrap_i64, -aseqC, -anyC, hlt]) | (with_reducible refine any_end' ?_; try simp (disch := first | omega | simp) [wrap_i64, -aseqC, -anyC, hlt]) | ((first | with_reducible refine sideG ?_ ?_ | with_reducible refine sideG2 ?_ ?_ | with_reducible refine sideS ?_ ?_ | with_reducible refine sideS2 ?_ ?_ | with_reducible refine sideS3 ?_ ?_ | with_reducible refine sideA ?_ ?_ | with_reducible refine sideA2 ?_ ?_ | with_reducible refine sideA3 ?_ ?_); (first | omega | assumption | (simp; done))) | (refine awp_seq_k fun K hK => ?_) | (refine awp_regionC ?_) | (refine awp_anyA true (by kernel_rfl) (by kernel_rfl) ?_) | (refine awp_anyA false (by kernel_rfl) (by kernel_rfl) ?_) | (refine hK _ ?_; clear hK; clear K) | (clear hK; clear K; refine hK _ ?_; clear hK; clear K) | (clear hK; clear K; clear hK; clear K; refine hK _ ?_; clear hK; clear K) | refine awp_block ?_ | (refine awp_condC ?_; simp (disch := first | omega | simp) [wrap_i64, -aseqC, -anyC, hlt]) | (refine awp_exit ?_; try simp (disch := first | omega | simp) [wrap_i64, -aseqC, -anyC, hlt]) | (refine awp_skip ?_; try simp (disch := first | omega | simp) [wrap_i64, -aseqC, -anyC, hlt]) | (refine awp_ret ?_; try simp (disch := first | omega | simp) [wrap_i64, -aseqC, -anyC, hlt]))
end Go.Proofs.YtkhmlicikbnmdaaDoor
