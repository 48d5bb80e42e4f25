/- Walk: the law LexJoins. -/
import Derived.Test.YtkhmlicikbnmdaaDoorGc1
set_option linter.unusedSimpArgs false
set_option linter.unusedVariables false
namespace Go.Proofs.YtkhmlicikbnmdaaDoor
open Go.RowKit Go.Lib

/-- two sources with a line feed between them -/
theorem lex_joins {a b : List UInt8} {L : List (Tk × Nat)} (h : lexP a = .ok L) (ha : a.length ≤ 2500) (hb : b.length ≤ 2500) (hn : L.length + b.length + 1 ≤ 3000) :
    ∃ L0 last, L = L0 ++ [(⟨5, [], 0⟩, last)] ∧ lexP (a ++ 10 :: b) = match lexP b with
      | .ok M => .ok (L0 ++ (⟨4, [], 0⟩, last) :: later last M)
      | .error x => .error (x.1, x.2 + last) := by
  unfold lexP at h
  rw [if_neg (by omega)] at h
  obtain ⟨L0, last, h1, h2⟩ := lex_app (x := b) _ a (Nat.le_refl _) _ ((a ++ 10 :: b).length + 2) 0 1 L (by omega) (by omega) h
  refine ⟨L0, last, h1, ?_⟩
  have hl : L.length = L0.length + 1 := by rw [h1]; simp
  have hab : (a ++ 10 :: b).length = a.length + b.length + 1 := by simp; omega
  unfold lexP
  rw [if_neg (by omega), if_neg (by omega), h2, lex_feed b _ _ _ (by omega) (by omega), lexF_any _ b (Nat.le_refl _) _ (b.length + 2) _ _ (by omega) (by omega)]
  have hsh := lex_shift _ b (Nat.le_refl _) (b.length + 2) 0 (0 + L0.length + 1) 1 last (by omega) (by omega) (by omega)
  rw [show last + 1 = 1 + last by omega, hsh]
  cases lexF (b.length + 2) b 0 1 with
  | ok M => rfl
  | error x => rfl
theorem lexAv_tup (R : Except (Nat × Nat) (List (Tk × Nat))) : ∃ y1 y2 y3, lexAv R = .tup [.sl y1, .int y2, .int y3] := by
  cases R with
  | ok M => exact ⟨_, _, _, rfl⟩
  | error e => exact ⟨_, _, _, rfl⟩
theorem okToks_end : ∀ {L : List (Tk × Nat)} {m : Nat}, OkToks L m → ∃ L0 last, L = L0 ++ [(⟨5, [], 0⟩, last)]
  | [], _, h => absurd h okToks_nil
  | y :: L, m, h => by
    obtain ⟨-, h2, h3⟩ := okToks_head h
    by_cases hL : L = []
    · exact ⟨[], m, by rw [h2 hL, hL]; rfl⟩
    · obtain ⟨L0, last, e⟩ := okToks_end (h3 hL).2
      exact ⟨y :: L0, last, by rw [e]; rfl⟩
theorem later_len (e : Nat) (M : List (Tk × Nat)) : (later e M).length = M.length := by unfold later; rw [List.length_map]
theorem joins_src (a b : ByteArray) : (a ++ ⟨#[10]⟩ ++ b).data.toList = a.data.toList ++ 10 :: b.data.toList := by
  rw [ByteArray.data_append, ByteArray.data_append]
  simp
theorem feed_eql (m : Int) : aeq Tryd.prog .eql 43 (.agg [.int 4, .str ⟨#[]⟩, .int 0, .int m]) (.agg [.int 4, .str ByteArray.empty, .int 0, .int m]) = some true := by
  simp only [aeq, aeqS, tok_q, feq, feq1]
  simp
set_option maxRecDepth 100000 in
set_option maxHeartbeats 8000000 in
theorem lexJoins_g (a b : ByteArray) : Gives Tryd.prog 7 [.str a, .str b] (.bool true) := by
  have hsm := small17_g
  have hsa : a.data.toList.length = a.size := by rw [← Lib.size_eq]
  have hsb : b.data.toList.length = b.size := by rw [← Lib.size_eq]
  by_cases hbig : 2500 < a.size ∨ 2500 < b.size
  · have hbig' : (2500 : Int) < a.size ∨ (2500 : Int) < b.size := by omega
    refine gives_of_awp Tryd.func7 Tryd.ntmps7 rfl rfl (by decide) rfl (by intro n; simp) fun σ n0 hcl hft => ?_
    repeat' (first | ((with_reducible refine aguard (fun hg => ?_) (fun hg => ?_)) <;> (try simp only [hg]) <;> (try simp only [beq_iff_eq, beq_eq_false_iff_ne, ne_eq, decide_eq_true_eq, decide_eq_false_iff_not, bne_iff_ne, bne_eq_false_iff_eq] at hg) <;> (try (first | simp only [eq_false hg, if_true, if_false] | simp only [eq_true hg, if_true, if_false])) <;> (try simp (disch := first | omega | simp) [wrap_i64, -aseqC, -anyC])) | (with_reducible refine aseq_step ?_; try simp (disch := first | omega | simp) [wrap_i64, -aseqC, -anyC]) | (with_reducible refine any_step' ?_; try simp (disch := first | omega | simp) [wrap_i64, -aseqC, -anyC]) | (with_reducible refine aseq_end ?_; try simp (disch := first | omega | simp) [wrap_i64, -aseqC, -anyC]) | (with_reducible refine any_end' ?_; try simp (disch := first | omega | simp) [wrap_i64, -aseqC, -anyC]) | ((first | with_reducible refine sideG ?_ ?_ | with_reducible refine sideG2 ?_ ?_ | with_reducible refine sideS ?_ ?_ | with_reducible refine sideS2 ?_ ?_ | with_reducible refine sideS3 ?_ ?_ | with_reducible refine sideA ?_ ?_ | with_reducible refine sideA2 ?_ ?_ | with_reducible refine sideA3 ?_ ?_); (first | omega | assumption | (simp; done))) | (refine acall (hsm) ?_; try simp (disch := first | omega | simp) [wrap_i64, -aseqC, -anyC]) | (refine agives (hsm) ?_; try simp (disch := first | omega | simp) [wrap_i64, -aseqC, -anyC]) | (refine acallAt (hsm) ?_; try simp (disch := first | omega | simp) [wrap_i64, -aseqC, -anyC]) | (refine awp_seq_k fun K hK => ?_) | (refine awp_regionC ?_) | (refine awp_anyA true (by kernel_rfl) (by kernel_rfl) ?_) | (refine awp_anyA false (by kernel_rfl) (by kernel_rfl) ?_) | (refine hK _ ?_; clear hK; clear K) | (clear hK; clear K; refine hK _ ?_; clear hK; clear K) | (clear hK; clear K; clear hK; clear K; refine hK _ ?_; clear hK; clear K) | refine awp_block ?_ | (refine awp_condC ?_; simp (disch := first | omega | simp) [wrap_i64, -aseqC, -anyC]) | (refine awp_exit ?_; try simp (disch := first | omega | simp) [wrap_i64, -aseqC, -anyC]) | (refine awp_skip ?_; try simp (disch := first | omega | simp) [wrap_i64, -aseqC, -anyC]) | (refine awp_ret ?_; try simp (disch := first | omega | simp) [wrap_i64, -aseqC, -anyC]))
    all_goals (exfalso; omega)
  · have hb1 : ¬ (2500 : Int) < a.size := by omega
    have hb2 : ¬ (2500 : Int) < b.size := by omega
    have hla := lex_g a (by omega)
    have hlb := lex_g b (by omega)
    cases hRa : lexP a.data.toList with
    | error e =>
      obtain ⟨e, m⟩ := e
      rw [hRa] at hla
      replace hla : Gives Tryd.prog 27 [.str a] (.tup [.sl [], .int e, .int m]) := hla
      have he : ¬ (e : Int) = 0 := by have := (lexP_err hRa).1; omega
      obtain ⟨y1, y2, y3, hYe⟩ := lexAv_tup (lexP b.data.toList)
      rw [hYe] at hlb
      refine gives_of_awp Tryd.func7 Tryd.ntmps7 rfl rfl (by decide) rfl (by intro n; simp) fun σ n0 hcl hft => ?_
      repeat' (first | ((with_reducible refine aguard (fun hg => ?_) (fun hg => ?_)) <;> (try simp only [hg]) <;> (try simp only [beq_iff_eq, beq_eq_false_iff_ne, ne_eq, decide_eq_true_eq, decide_eq_false_iff_not, bne_iff_ne, bne_eq_false_iff_eq] at hg) <;> (try (first | simp only [eq_false hg, if_true, if_false] | simp only [eq_true hg, if_true, if_false])) <;> (try simp (disch := first | omega | simp) [wrap_i64, -aseqC, -anyC, hb1, hb2, he])) | (with_reducible refine aseq_step ?_; try simp (disch := first | omega | simp) [wrap_i64, -aseqC, -anyC, hb1, hb2, he]) | (with_reducible refine any_step' ?_; try simp (disch := first | omega | simp) [wrap_i64, -aseqC, -anyC, hb1, hb2, he]) | (with_reducible refine aseq_end ?_; try simp (disch := first | omega | simp) [wrap_i64, -aseqC, -anyC, hb1, hb2, he]) | (with_reducible refine any_end' ?_; try simp (disch := first | omega | simp) [wrap_i64, -aseqC, -anyC, hb1, hb2, he]) | ((first | with_reducible refine sideG ?_ ?_ | with_reducible refine sideG2 ?_ ?_ | with_reducible refine sideS ?_ ?_ | with_reducible refine sideS2 ?_ ?_ | with_reducible refine sideS3 ?_ ?_ | with_reducible refine sideA ?_ ?_ | with_reducible refine sideA2 ?_ ?_ | with_reducible refine sideA3 ?_ ?_); (first | omega | assumption | (simp; done))) | (refine acall (hsm) ?_; try simp (disch := first | omega | simp) [wrap_i64, -aseqC, -anyC, hb1, hb2, he]) | (refine agives (hsm) ?_; try simp (disch := first | omega | simp) [wrap_i64, -aseqC, -anyC, hb1, hb2, he]) | (refine acallAt (hsm) ?_; try simp (disch := first | omega | simp) [wrap_i64, -aseqC, -anyC, hb1, hb2, he]) | (refine acall (hla) ?_; try simp (disch := first | omega | simp) [wrap_i64, -aseqC, -anyC, hb1, hb2, he]) | (refine agives (hla) ?_; try simp (disch := first | omega | simp) [wrap_i64, -aseqC, -anyC, hb1, hb2, he]) | (refine acallAt (hla) ?_; try simp (disch := first | omega | simp) [wrap_i64, -aseqC, -anyC, hb1, hb2, he]) | (refine acall (hlb) ?_; try simp (disch := first | omega | simp) [wrap_i64, -aseqC, -anyC, hb1, hb2, he]) | (refine agives (hlb) ?_; try simp (disch := first | omega | simp) [wrap_i64, -aseqC, -anyC, hb1, hb2, he]) | (refine acallAt (hlb) ?_; try simp (disch := first | omega | simp) [wrap_i64, -aseqC, -anyC, hb1, hb2, he]) | (refine awp_seq_k fun K hK => ?_) | (refine awp_regionC ?_) | (refine awp_anyA true (by kernel_rfl) (by kernel_rfl) ?_) | (refine awp_anyA false (by kernel_rfl) (by kernel_rfl) ?_) | (refine hK _ ?_; clear hK; clear K) | (clear hK; clear K; refine hK _ ?_; clear hK; clear K) | (clear hK; clear K; clear hK; clear K; refine hK _ ?_; clear hK; clear K) | refine awp_block ?_ | (refine awp_condC ?_; simp (disch := first | omega | simp) [wrap_i64, -aseqC, -anyC, hb1, hb2, he]) | (refine awp_exit ?_; try simp (disch := first | omega | simp) [wrap_i64, -aseqC, -anyC, hb1, hb2, he]) | (refine awp_skip ?_; try simp (disch := first | omega | simp) [wrap_i64, -aseqC, -anyC, hb1, hb2, he]) | (refine awp_ret ?_; try simp (disch := first | omega | simp) [wrap_i64, -aseqC, -anyC, hb1, hb2, he]))
      all_goals omega
    | ok L =>
      obtain ⟨p1, p2, p3, p4, p5, p6⟩ := lexP_ok hRa (by omega)
      rw [hRa] at hla
      replace hla : Gives Tryd.prog 27 [.str a] (.tup [.sl (L.map tkAv), .int 0, .int 0]) := hla
      obtain ⟨L0, last, hL⟩ := okToks_end p2
      have hlines := okToks_lines p2
      have hl : L.length = L0.length + 1 := by rw [hL]; simp
      have hlast : last ≤ 1 + L.length := hlines (⟨5, [], 0⟩, last) (by rw [hL]; simp)
      have hlz := lex_g (a ++ ⟨#[10]⟩ ++ b) (by rw [ByteArray.size_append, ByteArray.size_append]; show a.size + 1 + b.size ≤ _; omega)
      rw [joins_src] at hlz
      have hLm : L.map tkAv = L0.map tkAv ++ [.agg [.int 5, .str ⟨#[]⟩, .int 0, .int last]] := by rw [hL, List.map_append]; rfl
      have q0 : (L0.length : Int) + 1 - 1 = L0.length := by omega
      by_cases hmany : 3000 < L.length + b.size + 1
      · have hm' : (3000 : Int) < (L0.length : Int) + 1 + b.size + 1 := by omega
        obtain ⟨y1, y2, y3, hYe⟩ := lexAv_tup (lexP b.data.toList)
        obtain ⟨z1, z2, z3, hZe⟩ := lexAv_tup (lexP (a.data.toList ++ 10 :: b.data.toList))
        rw [hYe] at hlb
        rw [hZe] at hlz
        rw [hLm] at hla
        refine gives_of_awp Tryd.func7 Tryd.ntmps7 rfl rfl (by decide) rfl (by intro n; simp) fun σ n0 hcl hft => ?_
        repeat' (first | ((with_reducible refine aguard (fun hg => ?_) (fun hg => ?_)) <;> (try simp only [hg]) <;> (try simp only [beq_iff_eq, beq_eq_false_iff_ne, ne_eq, decide_eq_true_eq, decide_eq_false_iff_not, bne_iff_ne, bne_eq_false_iff_eq] at hg) <;> (try (first | simp only [eq_false hg, if_true, if_false] | simp only [eq_true hg, if_true, if_false])) <;> (try simp (disch := first | omega | simp) [wrap_i64, -aseqC, -anyC, hb1, hb2, hm', q0])) | (with_reducible refine aseq_step ?_; try simp (disch := first | omega | simp) [wrap_i64, -aseqC, -anyC, hb1, hb2, hm', q0]) | (with_reducible refine any_step' ?_; try simp (disch := first | omega | simp) [wrap_i64, -aseqC, -anyC, hb1, hb2, hm', q0]) | (with_reducible refine aseq_end ?_; try simp (disch := first | omega | simp) [wrap_i64, -aseqC, -anyC, hb1, hb2, hm', q0]) | (with_reducible refine any_end' ?_; try simp (disch := first | omega | simp) [wrap_i64, -aseqC, -anyC, hb1, hb2, hm', q0]) | ((first | with_reducible refine sideG ?_ ?_ | with_reducible refine sideG2 ?_ ?_ | with_reducible refine sideS ?_ ?_ | with_reducible refine sideS2 ?_ ?_ | with_reducible refine sideS3 ?_ ?_ | with_reducible refine sideA ?_ ?_ | with_reducible refine sideA2 ?_ ?_ | with_reducible refine sideA3 ?_ ?_); (first | omega | assumption | (simp; done))) | (refine acall (hsm) ?_; try simp (disch := first | omega | simp) [wrap_i64, -aseqC, -anyC, hb1, hb2, hm', q0]) | (refine agives (hsm) ?_; try simp (disch := first | omega | simp) [wrap_i64, -aseqC, -anyC, hb1, hb2, hm', q0]) | (refine acallAt (hsm) ?_; try simp (disch := first | omega | simp) [wrap_i64, -aseqC, -anyC, hb1, hb2, hm', q0]) | (refine acall (hla) ?_; try simp (disch := first | omega | simp) [wrap_i64, -aseqC, -anyC, hb1, hb2, hm', q0]) | (refine agives (hla) ?_; try simp (disch := first | omega | simp) [wrap_i64, -aseqC, -anyC, hb1, hb2, hm', q0]) | (refine acallAt (hla) ?_; try simp (disch := first | omega | simp) [wrap_i64, -aseqC, -anyC, hb1, hb2, hm', q0]) | (refine acall (hlb) ?_; try simp (disch := first | omega | simp) [wrap_i64, -aseqC, -anyC, hb1, hb2, hm', q0]) | (refine agives (hlb) ?_; try simp (disch := first | omega | simp) [wrap_i64, -aseqC, -anyC, hb1, hb2, hm', q0]) | (refine acallAt (hlb) ?_; try simp (disch := first | omega | simp) [wrap_i64, -aseqC, -anyC, hb1, hb2, hm', q0]) | (refine acall (hlz) ?_; try simp (disch := first | omega | simp) [wrap_i64, -aseqC, -anyC, hb1, hb2, hm', q0]) | (refine agives (hlz) ?_; try simp (disch := first | omega | simp) [wrap_i64, -aseqC, -anyC, hb1, hb2, hm', q0]) | (refine acallAt (hlz) ?_; try simp (disch := first | omega | simp) [wrap_i64, -aseqC, -anyC, hb1, hb2, hm', q0]) | (refine awp_seq_k fun K hK => ?_) | (refine awp_regionC ?_) | (refine awp_anyA true (by kernel_rfl) (by kernel_rfl) ?_) | (refine awp_anyA false (by kernel_rfl) (by kernel_rfl) ?_) | (refine hK _ ?_; clear hK; clear K) | (clear hK; clear K; refine hK _ ?_; clear hK; clear K) | (clear hK; clear K; clear hK; clear K; refine hK _ ?_; clear hK; clear K) | refine awp_block ?_ | (refine awp_condC ?_; simp (disch := first | omega | simp) [wrap_i64, -aseqC, -anyC, hb1, hb2, hm', q0]) | (refine awp_exit ?_; try simp (disch := first | omega | simp) [wrap_i64, -aseqC, -anyC, hb1, hb2, hm', q0]) | (refine awp_skip ?_; try simp (disch := first | omega | simp) [wrap_i64, -aseqC, -anyC, hb1, hb2, hm', q0]) | (refine awp_ret ?_; try simp (disch := first | omega | simp) [wrap_i64, -aseqC, -anyC, hb1, hb2, hm', q0]))
        all_goals (exfalso; omega)
      · have hm' : ¬ (3000 : Int) < (L0.length : Int) + 1 + b.size + 1 := by omega
        obtain ⟨L0', last', hL', hz⟩ := lex_joins (b := b.data.toList) hRa (by omega) (by omega) (by omega)
        have e0 := List.append_inj' (hL.symm.trans hL') rfl
        have e1 := e0.1
        have e2 : last = last' := (Prod.mk.inj (List.cons.inj e0.2).1).2
        subst e1; subst e2
        rw [hz] at hlz
        cases hRb : lexP b.data.toList with
        | error e =>
          obtain ⟨e, m⟩ := e
          rw [hRb] at hlb hlz
          replace hlb : Gives Tryd.prog 27 [.str b] (.tup [.sl [], .int e, .int m]) := hlb
          replace hlz : Gives Tryd.prog 27 [.str (a ++ ⟨#[10]⟩ ++ b)] (.tup [.sl [], .int e, .int ((m + last : Nat) : Int)]) := hlz
          have he0 := lexP_err hRb
          have he : ¬ (e : Int) = 0 := by omega
          have hml : ((m + last : Nat) : Int) = (m : Int) + last := by omega
          rw [hml] at hlz
          rw [hLm] at hla
          refine gives_of_awp Tryd.func7 Tryd.ntmps7 rfl rfl (by decide) rfl (by intro n; simp) fun σ n0 hcl hft => ?_
          repeat' (first | ((with_reducible refine aguard (fun hg => ?_) (fun hg => ?_)) <;> (try simp only [hg]) <;> (try simp only [beq_iff_eq, beq_eq_false_iff_ne, ne_eq, decide_eq_true_eq, decide_eq_false_iff_not, bne_iff_ne, bne_eq_false_iff_eq] at hg) <;> (try (first | simp only [eq_false hg, if_true, if_false] | simp only [eq_true hg, if_true, if_false])) <;> (try simp (disch := first | omega | simp) [wrap_i64, -aseqC, -anyC, hb1, hb2, hm', q0, he])) | (with_reducible refine aseq_step ?_; try simp (disch := first | omega | simp) [wrap_i64, -aseqC, -anyC, hb1, hb2, hm', q0, he]) | (with_reducible refine any_step' ?_; try simp (disch := first | omega | simp) [wrap_i64, -aseqC, -anyC, hb1, hb2, hm', q0, he]) | (with_reducible refine aseq_end ?_; try simp (disch := first | omega | simp) [wrap_i64, -aseqC, -anyC, hb1, hb2, hm', q0, he]) | (with_reducible refine any_end' ?_; try simp (disch := first | omega | simp) [wrap_i64, -aseqC, -anyC, hb1, hb2, hm', q0, he]) | ((first | with_reducible refine sideG ?_ ?_ | with_reducible refine sideG2 ?_ ?_ | with_reducible refine sideS ?_ ?_ | with_reducible refine sideS2 ?_ ?_ | with_reducible refine sideS3 ?_ ?_ | with_reducible refine sideA ?_ ?_ | with_reducible refine sideA2 ?_ ?_ | with_reducible refine sideA3 ?_ ?_); (first | omega | assumption | (simp; done))) | (refine acall (hsm) ?_; try simp (disch := first | omega | simp) [wrap_i64, -aseqC, -anyC, hb1, hb2, hm', q0, he]) | (refine agives (hsm) ?_; try simp (disch := first | omega | simp) [wrap_i64, -aseqC, -anyC, hb1, hb2, hm', q0, he]) | (refine acallAt (hsm) ?_; try simp (disch := first | omega | simp) [wrap_i64, -aseqC, -anyC, hb1, hb2, hm', q0, he]) | (refine acall (hla) ?_; try simp (disch := first | omega | simp) [wrap_i64, -aseqC, -anyC, hb1, hb2, hm', q0, he]) | (refine agives (hla) ?_; try simp (disch := first | omega | simp) [wrap_i64, -aseqC, -anyC, hb1, hb2, hm', q0, he]) | (refine acallAt (hla) ?_; try simp (disch := first | omega | simp) [wrap_i64, -aseqC, -anyC, hb1, hb2, hm', q0, he]) | (refine acall (hlb) ?_; try simp (disch := first | omega | simp) [wrap_i64, -aseqC, -anyC, hb1, hb2, hm', q0, he]) | (refine agives (hlb) ?_; try simp (disch := first | omega | simp) [wrap_i64, -aseqC, -anyC, hb1, hb2, hm', q0, he]) | (refine acallAt (hlb) ?_; try simp (disch := first | omega | simp) [wrap_i64, -aseqC, -anyC, hb1, hb2, hm', q0, he]) | (refine acall (hlz) ?_; try simp (disch := first | omega | simp) [wrap_i64, -aseqC, -anyC, hb1, hb2, hm', q0, he]) | (refine agives (hlz) ?_; try simp (disch := first | omega | simp) [wrap_i64, -aseqC, -anyC, hb1, hb2, hm', q0, he]) | (refine acallAt (hlz) ?_; try simp (disch := first | omega | simp) [wrap_i64, -aseqC, -anyC, hb1, hb2, hm', q0, he]) | (refine awp_seq_k fun K hK => ?_) | (refine awp_regionC ?_) | (refine awp_anyA true (by kernel_rfl) (by kernel_rfl) ?_) | (refine awp_anyA false (by kernel_rfl) (by kernel_rfl) ?_) | (refine hK _ ?_; clear hK; clear K) | (clear hK; clear K; refine hK _ ?_; clear hK; clear K) | (clear hK; clear K; clear hK; clear K; refine hK _ ?_; clear hK; clear K) | refine awp_block ?_ | (refine awp_condC ?_; simp (disch := first | omega | simp) [wrap_i64, -aseqC, -anyC, hb1, hb2, hm', q0, he]) | (refine awp_exit ?_; try simp (disch := first | omega | simp) [wrap_i64, -aseqC, -anyC, hb1, hb2, hm', q0, he]) | (refine awp_skip ?_; try simp (disch := first | omega | simp) [wrap_i64, -aseqC, -anyC, hb1, hb2, hm', q0, he]) | (refine awp_ret ?_; try simp (disch := first | omega | simp) [wrap_i64, -aseqC, -anyC, hb1, hb2, hm', q0, he]))
          all_goals (exfalso; omega)
        | ok M =>
          obtain ⟨r1, r2, r3, r4, r5, r6⟩ := lexP_ok hRb (by omega)
          have hrl := okToks_lines r2
          rw [hRb] at hlb hlz
          replace hlb : Gives Tryd.prog 27 [.str b] (.tup [.sl (M.map tkAv), .int 0, .int 0]) := hlb
          replace hlz : Gives Tryd.prog 27 [.str (a ++ ⟨#[10]⟩ ++ b)] (.tup [.sl ((L0 ++ (⟨4, [], 0⟩, last) :: later last M).map tkAv), .int 0, .int 0]) := hlz
          have s1 := rsame17_g L0 L0 0 (by omega) (by omega) (by omega) (fun x hx => by have := hlines x (by rw [hL]; exact List.mem_append_left _ hx); omega)
          rw [later_zero, decide_eq_true rfl] at s1
          have s2 := rsame17_g (later last M) M last (by rw [later_len]; omega) (by omega) (by omega) (fun x hx => by have := hrl x hx; omega)
          rw [decide_eq_true rfl] at s2
          rw [hLm] at hla
          have hZm : (L0 ++ (⟨4, [], 0⟩, last) :: later last M).map tkAv = L0.map tkAv ++ .agg [.int 4, .str ⟨#[]⟩, .int 0, .int last] :: (later last M).map tkAv := by rw [List.map_append]; rfl
          rw [hZm] at hlz
          have hlm := later_len last M
          have t1 : ∀ X : List AV, List.take L0.length (L0.map tkAv ++ X) = L0.map tkAv := fun X => by rw [List.take_left' (by simp)]
          have d1 : ∀ (x : AV) (X : List AV), List.drop (L0.length + 1) (L0.map tkAv ++ x :: X) = X := fun x X => by
            rw [show L0.map tkAv ++ x :: X = (L0.map tkAv ++ [x]) ++ X by simp]
            exact List.drop_left' (by simp)
          have hq := feed_eql last
          have q1 : (0 : Int) ≤ (L0.length : Int) + 1 := by omega
          have t2 : ∀ x : AV, List.take (L0.length + (M.length + 1)) (L0.map tkAv ++ x :: (later last M).map tkAv) = L0.map tkAv ++ x :: (later last M).map tkAv := fun x => List.take_of_length_le (by simp [hlm])
          refine gives_of_awp Tryd.func7 Tryd.ntmps7 rfl rfl (by decide) rfl (by intro n; simp) fun σ n0 hcl hft => ?_
          repeat' (first | ((with_reducible refine aguard (fun hg => ?_) (fun hg => ?_)) <;> (try simp only [hg]) <;> (try simp only [beq_iff_eq, beq_eq_false_iff_ne, ne_eq, decide_eq_true_eq, decide_eq_false_iff_not, bne_iff_ne, bne_eq_false_iff_eq] at hg) <;> (try (first | simp only [eq_false hg, if_true, if_false] | simp only [eq_true hg, if_true, if_false])) <;> (try simp (disch := first | omega | simp) [wrap_i64, -aseqC, -anyC, hb1, hb2, hm', q0, hlm])) | (with_reducible refine aseq_step ?_; try simp (disch := first | omega | simp) [wrap_i64, -aseqC, -anyC, hb1, hb2, hm', q0, hlm]) | (with_reducible refine any_step' ?_; try simp (disch := first | omega | simp) [wrap_i64, -aseqC, -anyC, hb1, hb2, hm', q0, hlm]) | (with_reducible refine aseq_end ?_; try simp (disch := first | omega | simp) [wrap_i64, -aseqC, -anyC, hb1, hb2, hm', q0, hlm]) | (with_reducible refine any_end' ?_; try simp (disch := first | omega | simp) [wrap_i64, -aseqC, -anyC, hb1, hb2, hm', q0, hlm]) | ((first | with_reducible refine sideG ?_ ?_ | with_reducible refine sideG2 ?_ ?_ | with_reducible refine sideS ?_ ?_ | with_reducible refine sideS2 ?_ ?_ | with_reducible refine sideS3 ?_ ?_ | with_reducible refine sideA ?_ ?_ | with_reducible refine sideA2 ?_ ?_ | with_reducible refine sideA3 ?_ ?_); (first | omega | assumption | (simp; done))) | (refine acall (hsm) ?_; try simp (disch := first | omega | simp) [wrap_i64, -aseqC, -anyC, hb1, hb2, hm', q0, hlm]) | (refine agives (hsm) ?_; try simp (disch := first | omega | simp) [wrap_i64, -aseqC, -anyC, hb1, hb2, hm', q0, hlm]) | (refine acallAt (hsm) ?_; try simp (disch := first | omega | simp) [wrap_i64, -aseqC, -anyC, hb1, hb2, hm', q0, hlm]) | (refine acall (hla) ?_; try simp (disch := first | omega | simp) [wrap_i64, -aseqC, -anyC, hb1, hb2, hm', q0, hlm]) | (refine agives (hla) ?_; try simp (disch := first | omega | simp) [wrap_i64, -aseqC, -anyC, hb1, hb2, hm', q0, hlm]) | (refine acallAt (hla) ?_; try simp (disch := first | omega | simp) [wrap_i64, -aseqC, -anyC, hb1, hb2, hm', q0, hlm]) | (refine acall (hlb) ?_; try simp (disch := first | omega | simp) [wrap_i64, -aseqC, -anyC, hb1, hb2, hm', q0, hlm]) | (refine agives (hlb) ?_; try simp (disch := first | omega | simp) [wrap_i64, -aseqC, -anyC, hb1, hb2, hm', q0, hlm]) | (refine acallAt (hlb) ?_; try simp (disch := first | omega | simp) [wrap_i64, -aseqC, -anyC, hb1, hb2, hm', q0, hlm]) | (refine acall (hlz) ?_; try simp (disch := first | omega | simp) [wrap_i64, -aseqC, -anyC, hb1, hb2, hm', q0, hlm]) | (refine agives (hlz) ?_; try simp (disch := first | omega | simp) [wrap_i64, -aseqC, -anyC, hb1, hb2, hm', q0, hlm]) | (refine acallAt (hlz) ?_; try simp (disch := first | omega | simp) [wrap_i64, -aseqC, -anyC, hb1, hb2, hm', q0, hlm]) | (refine awp_seq_k fun K hK => ?_) | (refine awp_regionC ?_) | (refine hK _ ?_; clear hK; clear K) | (clear hK; clear K; refine hK _ ?_; clear hK; clear K) | (clear hK; clear K; clear hK; clear K; refine hK _ ?_; clear hK; clear K) | refine awp_block ?_ | (refine awp_condC ?_; simp (disch := first | omega | simp) [wrap_i64, -aseqC, -anyC, hb1, hb2, hm', q0, hlm]) | (refine awp_exit ?_; try simp (disch := first | omega | simp) [wrap_i64, -aseqC, -anyC, hb1, hb2, hm', q0, hlm]) | (refine awp_skip ?_; try simp (disch := first | omega | simp) [wrap_i64, -aseqC, -anyC, hb1, hb2, hm', q0, hlm]) | (refine awp_ret ?_; try simp (disch := first | omega | simp) [wrap_i64, -aseqC, -anyC, hb1, hb2, hm', q0, hlm]))
          all_goals first | (exfalso; omega) | skip
          refine awp_anyA true (by kernel_rfl) (by kernel_rfl) ?_
          simp only [autoK, kind0]
          repeat' (first | ((with_reducible refine aguard (fun hg => ?_) (fun hg => ?_)) <;> (try simp only [hg]) <;> (try simp only [beq_iff_eq, beq_eq_false_iff_ne, ne_eq, decide_eq_true_eq, decide_eq_false_iff_not, bne_iff_ne, bne_eq_false_iff_eq] at hg) <;> (try (first | simp only [eq_false hg, if_true, if_false] | simp only [eq_true hg, if_true, if_false])) <;> (try simp (disch := first | omega | simp) [wrap_i64, -aseqC, -anyC, hb1, hb2, hm', q0, q1, hlm, t1, t2, d1, hq])) | (with_reducible refine aseq_step ?_; try simp (disch := first | omega | simp) [wrap_i64, -aseqC, -anyC, hb1, hb2, hm', q0, q1, hlm, t1, t2, d1, hq]) | (with_reducible refine any_step' ?_; try simp (disch := first | omega | simp) [wrap_i64, -aseqC, -anyC, hb1, hb2, hm', q0, q1, hlm, t1, t2, d1, hq]) | (with_reducible refine aseq_end ?_; try simp (disch := first | omega | simp) [wrap_i64, -aseqC, -anyC, hb1, hb2, hm', q0, q1, hlm, t1, t2, d1, hq]) | (with_reducible refine any_end' ?_; try simp (disch := first | omega | simp) [wrap_i64, -aseqC, -anyC, hb1, hb2, hm', q0, q1, hlm, t1, t2, d1, hq]) | ((first | with_reducible refine sideG ?_ ?_ | with_reducible refine sideG2 ?_ ?_ | with_reducible refine sideS ?_ ?_ | with_reducible refine sideS2 ?_ ?_ | with_reducible refine sideS3 ?_ ?_ | with_reducible refine sideA ?_ ?_ | with_reducible refine sideA2 ?_ ?_ | with_reducible refine sideA3 ?_ ?_); (first | omega | assumption | (simp; done))) | (refine acall (s1) ?_; try simp (disch := first | omega | simp) [wrap_i64, -aseqC, -anyC, hb1, hb2, hm', q0, q1, hlm, t1, t2, d1, hq]) | (refine agives (s1) ?_; try simp (disch := first | omega | simp) [wrap_i64, -aseqC, -anyC, hb1, hb2, hm', q0, q1, hlm, t1, t2, d1, hq]) | (refine acallAt (s1) ?_; try simp (disch := first | omega | simp) [wrap_i64, -aseqC, -anyC, hb1, hb2, hm', q0, q1, hlm, t1, t2, d1, hq]) | (refine acall (s2) ?_; try simp (disch := first | omega | simp) [wrap_i64, -aseqC, -anyC, hb1, hb2, hm', q0, q1, hlm, t1, t2, d1, hq]) | (refine agives (s2) ?_; try simp (disch := first | omega | simp) [wrap_i64, -aseqC, -anyC, hb1, hb2, hm', q0, q1, hlm, t1, t2, d1, hq]) | (refine acallAt (s2) ?_; try simp (disch := first | omega | simp) [wrap_i64, -aseqC, -anyC, hb1, hb2, hm', q0, q1, hlm, t1, t2, d1, hq]) | (refine awp_seq_k fun K hK => ?_) | (refine awp_regionC ?_) | (refine hK _ ?_; clear hK; clear K) | (clear hK; clear K; refine hK _ ?_; clear hK; clear K) | (clear hK; clear K; clear hK; clear K; refine hK _ ?_; clear hK; clear K) | refine awp_block ?_ | (refine awp_condC ?_; simp (disch := first | omega | simp) [wrap_i64, -aseqC, -anyC, hb1, hb2, hm', q0, q1, hlm, t1, t2, d1, hq]) | (refine awp_exit ?_; try simp (disch := first | omega | simp) [wrap_i64, -aseqC, -anyC, hb1, hb2, hm', q0, q1, hlm, t1, t2, d1, hq]) | (refine awp_skip ?_; try simp (disch := first | omega | simp) [wrap_i64, -aseqC, -anyC, hb1, hb2, hm', q0, q1, hlm, t1, t2, d1, hq]) | (refine awp_ret ?_; try simp (disch := first | omega | simp) [wrap_i64, -aseqC, -anyC, hb1, hb2, hm', q0, q1, hlm, t1, t2, d1, hq]))
end Go.Proofs.YtkhmlicikbnmdaaDoor
