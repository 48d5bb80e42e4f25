/- Walk: the documented examples of chapter 17. -/
import Derived.Test.YtkhmlicikbnmdaaDoorGa19
import Derived.Test.YtkhmlicikbnmdaaDoorGa27
import Derived.Test.YtkhmlicikbnmdaaDoorGa30
set_option linter.unusedSimpArgs false
set_option linter.unusedVariables false
namespace Go.Proofs.YtkhmlicikbnmdaaDoor
open Go.RowKit Go.Lib

theorem ex_a : lexP [97, 62, 61, 49, 50, 32, 35, 32, 99] = .ok [(⟨0, [97], 0⟩, 1), (⟨3, [62, 61], 0⟩, 1), (⟨1, [49, 50], 12⟩, 1), (⟨5, [], 0⟩, 1)] := by kernel_rfl
theorem ex_b : lexP [120, 32, 43, 43, 32, 34, 97, 92, 34, 98, 34] = .ok [(⟨0, [120], 0⟩, 1), (⟨3, [43, 43], 0⟩, 1), (⟨2, [97, 34, 98], 0⟩, 1), (⟨5, [], 0⟩, 1)] := by kernel_rfl
theorem ex_c : lexP [48, 49] = .error (11, 1) := by kernel_rfl
theorem ex_d : lexP [49, 97] = .error (11, 1) := by kernel_rfl
theorem ex_e : lexP [33] = .error (11, 1) := by kernel_rfl
theorem ex_f : lexP [34, 97] = .error (11, 1) := by kernel_rfl
theorem bad_g (s : ByteArray) (hs : s.size ≤ 1000000) (h : lexP s.data.toList = .error (11, 1)) : Gives Tryd.prog 57 [.str s] (.bool true) := by
  have hl := lex_g s hs
  rw [h] at hl
  replace hl : Gives Tryd.prog 27 [.str s] (.tup [.sl [], .int (11 : Nat), .int (1 : Nat)]) := hl
  refine gives_of_awp Tryd.func57 Tryd.ntmps57 rfl rfl (by decide) rfl (by intro n; simp) fun σ n0 hcl hft => ?_
  repeat' (first | ((with_reducible refine aguard (fun hg => ?_) (fun hg => ?_)) <;> (try simp only [hg]) <;> (try simp only [beq_iff_eq, beq_eq_false_iff_ne, ne_eq, decide_eq_true_eq, decide_eq_false_iff_not, bne_iff_ne, bne_eq_false_iff_eq] at hg) <;> (try (first | simp only [eq_false hg, if_true, if_false] | simp only [eq_true hg, if_true, if_false])) <;> (try simp (disch := first | omega | simp) [wrap_i64, -aseqC, -anyC])) | (with_reducible refine aseq_step ?_; try simp (disch := first | omega | simp) [wrap_i64, -aseqC, -anyC]) | (with_reducible refine any_step' ?_; try simp (disch := first | omega | simp) [wrap_i64, -aseqC, -anyC]) | (with_reducible refine aseq_end ?_; try simp (disch := first | omega | simp) [wrap_i64, -aseqC, -anyC]) | (with_reducible refine any_end' ?_; try simp (disch := first | omega | simp) [wrap_i64, -aseqC, -anyC]) | ((first | with_reducible refine sideG ?_ ?_ | with_reducible refine sideG2 ?_ ?_ | with_reducible refine sideS ?_ ?_ | with_reducible refine sideS2 ?_ ?_ | with_reducible refine sideS3 ?_ ?_ | with_reducible refine sideA ?_ ?_ | with_reducible refine sideA2 ?_ ?_ | with_reducible refine sideA3 ?_ ?_); (first | omega | assumption | (simp; done))) | (refine acall (hl) ?_; try simp (disch := first | omega | simp) [wrap_i64, -aseqC, -anyC]) | (refine agives (hl) ?_; try simp (disch := first | omega | simp) [wrap_i64, -aseqC, -anyC]) | (refine acallAt (hl) ?_; try simp (disch := first | omega | simp) [wrap_i64, -aseqC, -anyC]) | (refine awp_seq_k fun K hK => ?_) | (refine awp_regionC ?_) | (refine awp_anyA true (by kernel_rfl) (by kernel_rfl) ?_) | (refine awp_anyA false (by kernel_rfl) (by kernel_rfl) ?_) | (refine hK _ ?_; clear hK; clear K) | (clear hK; clear K; refine hK _ ?_; clear hK; clear K) | (clear hK; clear K; clear hK; clear K; refine hK _ ?_; clear hK; clear K) | refine awp_block ?_ | (refine awp_condC ?_; simp (disch := first | omega | simp) [wrap_i64, -aseqC, -anyC]) | (refine awp_exit ?_; try simp (disch := first | omega | simp) [wrap_i64, -aseqC, -anyC]) | (refine awp_skip ?_; try simp (disch := first | omega | simp) [wrap_i64, -aseqC, -anyC]) | (refine awp_ret ?_; try simp (disch := first | omega | simp) [wrap_i64, -aseqC, -anyC]))
set_option maxHeartbeats 1000000 in
theorem small17_g : Gives Tryd.prog 26 [] (.bool true) := by
  have h1 := lex_g ⟨#[97, 62, 61, 49, 50, 32, 35, 32, 99]⟩ (by decide)
  have h2 := lex_g ⟨#[120, 32, 43, 43, 32, 34, 97, 92, 34, 98, 34]⟩ (by decide)
  rw [show (ByteArray.mk #[97, 62, 61, 49, 50, 32, 35, 32, 99]).data.toList = [97, 62, 61, 49, 50, 32, 35, 32, 99] from rfl, ex_a] at h1
  rw [show (ByteArray.mk #[120, 32, 43, 43, 32, 34, 97, 92, 34, 98, 34]).data.toList = [120, 32, 43, 43, 32, 34, 97, 92, 34, 98, 34] from rfl, ex_b] at h2
  simp only [lexAv, List.map_cons, List.map_nil, tkAv] at h1 h2
  have b1 := bad_g ⟨#[48, 49]⟩ (by decide) ex_c
  have b2 := bad_g ⟨#[49, 97]⟩ (by decide) ex_d
  have b3 := bad_g ⟨#[33]⟩ (by decide) ex_e
  have b4 := bad_g ⟨#[34, 97]⟩ (by decide) ex_f
  refine gives_of_awp Tryd.func26 Tryd.ntmps26 rfl rfl (by decide) rfl (by intro n; simp) fun σ n0 hcl hft => ?_
  repeat' (first | ((with_reducible refine aguard (fun hg => ?_) (fun hg => ?_)) <;> (try simp only [hg]) <;> (try simp only [beq_iff_eq, beq_eq_false_iff_ne, ne_eq, decide_eq_true_eq, decide_eq_false_iff_not, bne_iff_ne, bne_eq_false_iff_eq] at hg) <;> (try (first | simp only [eq_false hg, if_true, if_false] | simp only [eq_true hg, if_true, if_false])) <;> (try simp (disch := first | omega | simp) [wrap_i64, -aseqC, -anyC])) | (with_reducible refine aseq_step ?_; try simp (disch := first | omega | simp) [wrap_i64, -aseqC, -anyC]) | (with_reducible refine any_step' ?_; try simp (disch := first | omega | simp) [wrap_i64, -aseqC, -anyC]) | (with_reducible refine aseq_end ?_; try simp (disch := first | omega | simp) [wrap_i64, -aseqC, -anyC]) | (with_reducible refine any_end' ?_; try simp (disch := first | omega | simp) [wrap_i64, -aseqC, -anyC]) | ((first | with_reducible refine sideG ?_ ?_ | with_reducible refine sideG2 ?_ ?_ | with_reducible refine sideS ?_ ?_ | with_reducible refine sideS2 ?_ ?_ | with_reducible refine sideS3 ?_ ?_ | with_reducible refine sideA ?_ ?_ | with_reducible refine sideA2 ?_ ?_ | with_reducible refine sideA3 ?_ ?_); (first | omega | assumption | (simp; done))) | (refine acall (h1) ?_; try simp (disch := first | omega | simp) [wrap_i64, -aseqC, -anyC]) | (refine agives (h1) ?_; try simp (disch := first | omega | simp) [wrap_i64, -aseqC, -anyC]) | (refine acallAt (h1) ?_; try simp (disch := first | omega | simp) [wrap_i64, -aseqC, -anyC]) | (refine acall (h2) ?_; try simp (disch := first | omega | simp) [wrap_i64, -aseqC, -anyC]) | (refine agives (h2) ?_; try simp (disch := first | omega | simp) [wrap_i64, -aseqC, -anyC]) | (refine acallAt (h2) ?_; try simp (disch := first | omega | simp) [wrap_i64, -aseqC, -anyC]) | (refine acall (b1) ?_; try simp (disch := first | omega | simp) [wrap_i64, -aseqC, -anyC]) | (refine agives (b1) ?_; try simp (disch := first | omega | simp) [wrap_i64, -aseqC, -anyC]) | (refine acallAt (b1) ?_; try simp (disch := first | omega | simp) [wrap_i64, -aseqC, -anyC]) | (refine acall (b2) ?_; try simp (disch := first | omega | simp) [wrap_i64, -aseqC, -anyC]) | (refine agives (b2) ?_; try simp (disch := first | omega | simp) [wrap_i64, -aseqC, -anyC]) | (refine acallAt (b2) ?_; try simp (disch := first | omega | simp) [wrap_i64, -aseqC, -anyC]) | (refine acall (b3) ?_; try simp (disch := first | omega | simp) [wrap_i64, -aseqC, -anyC]) | (refine agives (b3) ?_; try simp (disch := first | omega | simp) [wrap_i64, -aseqC, -anyC]) | (refine acallAt (b3) ?_; try simp (disch := first | omega | simp) [wrap_i64, -aseqC, -anyC]) | (refine acall (b4) ?_; try simp (disch := first | omega | simp) [wrap_i64, -aseqC, -anyC]) | (refine agives (b4) ?_; try simp (disch := first | omega | simp) [wrap_i64, -aseqC, -anyC]) | (refine acallAt (b4) ?_; try simp (disch := first | omega | simp) [wrap_i64, -aseqC, -anyC]) | (refine awp_seq_k fun K hK => ?_) | (refine awp_regionC ?_) | (refine awp_anyA true (by kernel_rfl) (by kernel_rfl) ?_) | (refine awp_anyA false (by kernel_rfl) (by kernel_rfl) ?_) | (refine hK _ ?_; clear hK; clear K) | (clear hK; clear K; refine hK _ ?_; clear hK; clear K) | (clear hK; clear K; clear hK; clear K; refine hK _ ?_; clear hK; clear K) | refine awp_block ?_ | (refine awp_condC ?_; simp (disch := first | omega | simp) [wrap_i64, -aseqC, -anyC]) | (refine awp_exit ?_; try simp (disch := first | omega | simp) [wrap_i64, -aseqC, -anyC]) | (refine awp_skip ?_; try simp (disch := first | omega | simp) [wrap_i64, -aseqC, -anyC]) | (refine awp_ret ?_; try simp (disch := first | omega | simp) [wrap_i64, -aseqC, -anyC]))
end Go.Proofs.YtkhmlicikbnmdaaDoor

/- Tokens, on plain data: white bytes and comments change nothing. -/
namespace Go.Proofs.YtkhmlicikbnmdaaDoor
open Go.RowKit Go.Lib

theorem skip_white {w : List UInt8} (hw : ∀ c ∈ w, whiteC c = true) (l : List UInt8) : skipP false (w ++ l) = skipP false l := by
  induction w with
  | nil => rfl
  | cons c w ih =>
    rw [List.cons_append, skipP, if_pos (hw c (by simp)), ih fun d hd => hw d (List.mem_cons_of_mem _ hd)]
theorem skip_true {y : List UInt8} (h : (10 : UInt8) ∉ y) : skipP true y = [] := by
  induction y with
  | nil => rfl
  | cons c y ih =>
    rw [skipP, if_neg (fun e => h (by rw [e]; simp)), ih fun e => h (List.mem_cons_of_mem _ e)]
theorem lex_pre {w : List UInt8} (hw : ∀ c ∈ w, whiteC c = true) (l : List UInt8) (g h m : Nat) : lexF g (w ++ l) h m = lexF g l h m := by
  cases g with
  | zero => rfl
  | succ g => rw [lex_step, lex_step, skip_white hw]
theorem lex_suf {y : List UInt8} (hy : ∀ c, y.head? = some c → endsC c) (hs0 : ∀ b, skipP b y = []) : ∀ (n : Nat) (l : List UInt8), l.length ≤ n → ∀ (f g h m : Nat) (L : List (Tk × Nat)), l.length < f → (l ++ y).length < g → lexF f l h m = .ok L → lexF g (l ++ y) h m = .ok L := fun n => by
  have base : ∀ (l : List UInt8) (f g h m : Nat) (L : List (Tk × Nat)), skipP false l = [] → lexF (f + 1) l h m = .ok L → lexF (g + 1) (l ++ y) h m = .ok L := fun l f g h m L hs hL => by
    obtain ⟨b, hb⟩ := skip_end (x := y) false l hs
    rw [hs0] at hb
    rw [lex_step, hs, tok_nil] at hL
    rw [lex_step, hb, tok_nil]
    exact hL
  induction n with
  | zero =>
    intro l hl f g h m L hf hg hL
    have : l = [] := List.eq_nil_of_length_eq_zero (by omega)
    subst this
    obtain ⟨f, rfl⟩ : ∃ f', f = f' + 1 := ⟨f - 1, by omega⟩
    obtain ⟨g, rfl⟩ : ∃ g', g = g' + 1 := ⟨g - 1, by omega⟩
    exact base [] f g h m L rfl hL
  | succ n ih =>
    intro l hl f g h m L hf hg hL
    obtain ⟨f, rfl⟩ : ∃ f', f = f' + 1 := ⟨f - 1, by omega⟩
    obtain ⟨g, rfl⟩ : ∃ g', g = g' + 1 := ⟨g - 1, by omega⟩
    by_cases hs : skipP false l = []
    · exact base l f g h m L hs hL
    · rw [lex_step] at hL
      by_cases h3 : h ≥ 3000
      · rw [if_pos h3] at hL; cases hL
      · rw [if_neg h3] at hL
        cases ht : tokP (skipP false l) with
        | error e => rw [ht] at hL; cases hL
        | ok tk =>
          obtain ⟨t, k⟩ := tk
          rw [ht] at hL
          obtain ⟨ha, h1, h2, h5⟩ := tok_app (x := y) hy hs ht
          dsimp only at hL
          rw [if_neg h5] at hL
          have hsl := skip_len false l
          cases hr : lexF f ((skipP false l).drop k) (h + 1) (if t.kind = 4 then m + 1 else m) with
          | error e => rw [hr] at hL; cases hL
          | ok M =>
            rw [hr] at hL
            cases hL
            rw [List.length_append] at hg
            have hI := ih ((skipP false l).drop k) (by rw [List.length_drop]; omega) f g (h + 1) _ M (by rw [List.length_drop]; omega) (by rw [List.length_append, List.length_drop]; omega) hr
            rw [lex_step, if_neg h3, skip_app false l hs, ha]
            dsimp only
            rw [if_neg h5, List.drop_append_of_le_length h2, hI]
/-- white bytes ahead and behind, and a comment at the end -/
theorem lex_dress {w c l : List UInt8} (hw : ∀ d ∈ w, whiteC d = true) (hne : w ≠ []) (hc : (10 : UInt8) ∉ c) (f g h m : Nat) (L : List (Tk × Nat)) (hf : l.length < f) (hg : (w ++ l ++ w ++ 35 :: c).length < g) (hL : lexF f l h m = .ok L) : lexF g (w ++ l ++ w ++ 35 :: c) h m = .ok L := by
  have e : w ++ l ++ w ++ 35 :: c = w ++ (l ++ (w ++ 35 :: c)) := by simp
  rw [e, lex_pre hw]
  have hwn : ∀ d ∈ w, d ≠ 10 := fun d hd e => by have := hw d hd; rw [e] at this; revert this; decide
  refine lex_suf (fun d hd => ?_) (fun b => ?_) _ l (Nat.le_refl _) f g h m L hf ?_ hL
  · obtain ⟨a, r, rfl⟩ := List.exists_cons_of_ne_nil hne
    cases hd
    have := hw d (by simp)
    unfold whiteC at this
    simp only [Bool.or_eq_true, beq_iff_eq] at this
    rcases this with (h | h) | h
    · exact .inl h
    · exact .inr (.inl h)
    · exact .inr (.inr (.inl h))
  · cases b
    · rw [skip_white hw, skipP, if_neg (by decide), if_pos rfl]
      exact skip_true hc
    · refine skip_true fun hm => ?_
      rcases List.mem_append.1 hm with hm | hm
      · exact hwn _ hm rfl
      · rcases List.mem_cons.1 hm with hm | hm
        · revert hm; decide
        · exact hc hm
  · simp only [List.length_append, List.length_cons] at hg ⊢
    omega
end Go.Proofs.YtkhmlicikbnmdaaDoor

/- Tokens, on plain data: a quoted text, a name, a decimal, each alone. -/
namespace Go.Proofs.YtkhmlicikbnmdaaDoor
open Go.RowKit Go.Lib

/-- one token and nothing else -/
theorem lex_one {l : List UInt8} {t : Tk} (hs : skipP false l = l) (hl : l ≠ []) (h : tokP l = .ok (t, l.length)) (f a m : Nat) (hf : l.length < f) (ha : a < 2999) : lexF f l a m = .ok [(t, m), (⟨5, [], 0⟩, if t.kind = 4 then m + 1 else m)] := by
  obtain ⟨f, rfl⟩ : ∃ f', f = f' + 1 := ⟨f - 1, by omega⟩
  have hpos : 0 < l.length := List.length_pos_iff.2 hl
  obtain ⟨f, rfl⟩ : ∃ f', f = f' + 1 := ⟨f - 1, by omega⟩
  have h5 := (tok_self hl h).2.2
  rw [lex_step, if_neg (by omega), hs, h]
  dsimp only
  rw [if_neg h5, List.drop_length, lex_step, if_neg (by omega), show skipP false [] = [] from rfl, tok_nil]
  rfl
theorem lex_err {l : List UInt8} {e : Nat} (hs : skipP false l = l) (h : tokP l = .error e) (f a m : Nat) (hf : l.length < f) (ha : a < 2999) : lexF f l a m = .error (e, m) := by
  obtain ⟨f, rfl⟩ : ∃ f', f = f' + 1 := ⟨f - 1, by omega⟩
  rw [lex_step, if_neg (by omega), hs, h]
theorem tok_quote (s : List UInt8) : tokP (qP s) = if s.length > 200 then .error 11 else .ok (⟨2, s, 0⟩, (qP s).length) := by
  have e1 : (34 :: (qmid s ++ [34])).take ((qmid s).length + 2) = qP s := by
    rw [List.take_of_length_le (by simp)]; rfl
  show tokP (34 :: (qmid s ++ [34])) = _
  rw [tokP, if_neg (by decide), if_pos rfl, quote_mid s []]
  dsimp only
  rw [e1, unq_q hxP_ok]
  dsimp only
  split
  · rfl
  · unfold qP; simp
theorem skip_quote (s : List UInt8) : skipP false (qP s) = qP s := skip_self fun c hc => by cases hc; decide
theorem takeW_full {f : UInt8 → Bool} : ∀ {l : List UInt8}, (∀ c ∈ l, f c = true) → l.takeWhile f = l
  | [], _ => rfl
  | c :: l, h => by rw [List.takeWhile_cons, if_pos (h c (by simp)), takeW_full fun d hd => h d (List.mem_cons_of_mem _ hd)]
theorem tok_name {l : List UInt8} (h1 : l ≠ []) (h2 : l.length ≤ 20) (h3 : ∀ c ∈ l, partC c = true) (h4 : ∀ c, l.head? = some c → digitC c = false) : tokP l = .ok (⟨0, l, 0⟩, l.length) := by
  obtain ⟨c, r, rfl⟩ := List.exists_cons_of_ne_nil h1
  rw [tokP, if_pos (h3 c (by simp)), takeW_full h3, wordTk, if_neg (by rw [h4 c rfl]; simp), if_neg (by omega)]; rfl
theorem digit_part {c : UInt8} (h : digitC c = true) : partC c = true := by
  unfold partC
  rw [h]; simp
theorem dec_digits (u : Nat) : ∀ c ∈ decDigits u, digitC c = true := fun c hc => by
  have := decDigits_mem u c hc
  unfold digitC
  exact decide_eq_true this
theorem dec_zero : ∀ (u : Nat), (decDigits u).length ≤ 1 ∨ (decDigits u).head? ≠ some 48 := fun u => by
  induction u using Nat.strongRecOn with
  | _ u ih =>
    by_cases h : u < 10
    · rw [decDigits_small h]; exact .inl (by simp)
    · rw [decDigits_big h]
      have hne := decDigits_ne (u / 10)
      obtain ⟨c, r, hc⟩ := List.exists_cons_of_ne_nil hne
      refine .inr ?_
      rw [hc, List.cons_append, List.head?_cons]
      intro e
      have e2 : c = 48 := Option.some.inj e
      rcases ih (u / 10) (by omega) with h1 | h1
      · have hr : r = [] := by
          rw [hc] at h1
          cases r with
          | nil => rfl
          | cons d r => simp at h1
        rw [hr] at hc
        by_cases h10 : u / 10 < 10
        · rw [decDigits_small h10] at hc
          have e3 : UInt8.ofNat (48 + u / 10) = c := by injection hc
          have e4 := congrArg UInt8.toNat (e3.trans e2)
          rw [digit_nat h10] at e4
          have : (48 : UInt8).toNat = 48 := rfl
          omega
        · rw [decDigits_big h10] at hc
          have := congrArg List.length hc
          have h2 := List.length_pos_iff.2 (decDigits_ne (u / 10 / 10))
          rw [List.length_append, List.length_singleton, List.length_singleton] at this
          omega
      · rw [hc, e2] at h1
        exact h1 rfl
theorem tok_dec {u : Nat} (hu : u ≤ 9223372036854775807) : tokP (decDigits u) = .ok (⟨1, decDigits u, u⟩, (decDigits u).length) := by
  have hne := decDigits_ne u
  have hz := dec_zero u
  have hd := dec_digits u
  have hi : intP (decDigits u) = some (u : Int) := by
    refine intP_iff.2 ⟨by unfold i64; omega, ?_⟩
    unfold itoa
    rw [if_neg (by omega)]
    simp
  obtain ⟨c, r, hc⟩ := List.exists_cons_of_ne_nil hne
  have hall : (decDigits u).all digitC = true := List.all_eq_true.2 hd
  have hp := takeW_full (f := partC) (l := decDigits u) fun d h => digit_part (hd d h)
  rw [hc] at hz hd hi hall hp ⊢
  rw [tokP, if_pos (digit_part (hd c (by simp))), hp, wordTk, if_pos (hd c (by simp)), if_neg ?_, hi]
  · rfl
  · rintro (h | ⟨h1, h2⟩)
    · rw [hall] at h; cases h
    · rcases hz with h | h
      · cases r with
        | nil => exact h1 rfl
        | cons d r => simp at h
      · exact h (by rw [h2]; rfl)
end Go.Proofs.YtkhmlicikbnmdaaDoor

/- Tokens, on plain data: the same text on later lines, behind other tokens. -/
namespace Go.Proofs.YtkhmlicikbnmdaaDoor
open Go.RowKit Go.Lib

def later (e : Nat) (L : List (Tk × Nat)) : List (Tk × Nat) := L.map fun x => (x.1, x.2 + e)
def laterR (e : Nat) : Except (Nat × Nat) (List (Tk × Nat)) → Except (Nat × Nat) (List (Tk × Nat))
  | .ok L => .ok (later e L)
  | .error x => .error (x.1, x.2 + e)
theorem lex_shift : ∀ (n : Nat) (l : List UInt8), l.length ≤ n → ∀ (f h h' m e : Nat), l.length < f → h + l.length < 3000 → h' + l.length < 3000 → lexF f l h' (m + e) = laterR e (lexF f l h m) := fun n => by
  have base : ∀ (l : List UInt8) (f h h' m e : Nat), skipP false l = [] → h < 3000 → h' < 3000 → lexF (f + 1) l h' (m + e) = laterR e (lexF (f + 1) l h m) := fun l f h h' m e hs h1 h2 => by
    rw [lex_step, lex_step, if_neg (by omega), if_neg (by omega), hs, tok_nil]; rfl
  induction n with
  | zero =>
    intro l hl f h h' m e hf h1 h2
    have : l = [] := List.eq_nil_of_length_eq_zero (by omega)
    subst this
    obtain ⟨f, rfl⟩ : ∃ f', f = f' + 1 := ⟨f - 1, by omega⟩
    exact base [] f h h' m e rfl (by omega) (by omega)
  | succ n ih =>
    intro l hl f h h' m e hf h1 h2
    obtain ⟨f, rfl⟩ : ∃ f', f = f' + 1 := ⟨f - 1, by omega⟩
    by_cases hs : skipP false l = []
    · exact base l f h h' m e hs (by omega) (by omega)
    · rw [lex_step, lex_step, if_neg (by omega), if_neg (by omega)]
      cases ht : tokP (skipP false l) with
      | error c => rfl
      | ok tk =>
        obtain ⟨t, k⟩ := tk
        obtain ⟨a1, a2, a5⟩ := tok_self hs ht
        have hsl := skip_len false l
        dsimp only
        rw [if_neg a5, if_neg a5]
        have e1 : (if t.kind = 4 then m + e + 1 else m + e) = (if t.kind = 4 then m + 1 else m) + e := by split <;> omega
        rw [e1, ih ((skipP false l).drop k) (by rw [List.length_drop]; omega) f (h + 1) (h' + 1) _ e (by rw [List.length_drop]; omega) (by rw [List.length_drop]; omega) (by rw [List.length_drop]; omega)]
        cases lexF f ((skipP false l).drop k) (h + 1) (if t.kind = 4 then m + 1 else m) <;> rfl
/-- a line feed, and then a text -/
theorem lex_feed (x : List UInt8) (f h m : Nat) (hf : x.length + 1 < f) (hh : h < 3000) : lexF f (10 :: x) h m = match lexF f x (h + 1) (m + 1) with | .ok M => .ok ((⟨4, [], 0⟩, m) :: M) | .error e => .error e := by
  obtain ⟨f, rfl⟩ : ∃ f', f = f' + 1 := ⟨f - 1, by omega⟩
  rw [lexF_any _ x (Nat.le_refl _) (f + 1) f (h + 1) (m + 1) (by omega) (by omega), lex_step, if_neg (by omega), skip_lf, tokP, if_neg (by decide), if_neg (by decide), if_pos rfl]
  dsimp only
  rw [if_neg (by decide), if_pos rfl, List.drop_succ_cons, List.drop_zero]
  cases lexF f x (h + 1) (m + 1) <;> rfl
end Go.Proofs.YtkhmlicikbnmdaaDoor

/- Walk: errataref17.Same. -/
namespace Go.Proofs.YtkhmlicikbnmdaaDoor
open Go.RowKit Go.Lib

theorem tok_q : qinfo Tryd.prog 43 = some [(0, 0), (1, 2), (2, 0), (3, 0)] := by kernel_rfl
theorem tkb (x y : Tk × Nat) (e : Nat) : ((x.1.kind : Int) == (y.1.kind : Int) && ((bytesA x.1.text).toList == (bytesA y.1.text).toList && (x.1.n == y.1.n && (x.2 : Int) == (y.2 : Int) + e))) = decide (x = (y.1, y.2 + e)) := by
  obtain ⟨⟨k, t, n⟩, l⟩ := x
  obtain ⟨⟨k', t', n'⟩, l'⟩ := y
  rw [Bool.eq_iff_iff]
  simp only [Bool.and_eq_true, beq_iff_eq, decide_eq_true_eq, Prod.mk.injEq, Tk.mk.injEq, ByteArray.toList_eq, bytesA_data]
  constructor
  · rintro ⟨h1, h2, h3, h4⟩
    exact ⟨⟨by omega, h2, h3⟩, by omega⟩
  · rintro ⟨⟨h1, h2, h3⟩, h4⟩
    exact ⟨by omega, h2, h3, by omega⟩
theorem tk_neq (x y : Tk × Nat) (e : Nat) : aeq Tryd.prog .neq 43 (.agg [.int x.1.kind, .str (bytesA x.1.text), .int x.1.n, .int x.2]) (.agg [.int y.1.kind, .str (bytesA y.1.text), .int y.1.n, .int ((y.2 : Int) + e)]) = some (!decide (x = (y.1, y.2 + e))) := by
  rw [← tkb]
  simp only [aeq, aeqS, tok_q, feq, feq1]
  simp [Bool.and_assoc]
set_option maxHeartbeats 1000000 in
theorem rsame17_g (A B : List (Tk × Nat)) (e : Nat) (hA : A.length ≤ 1000000) (hB : B.length ≤ 1000000) (he : e ≤ 1000000) (hBl : ∀ x ∈ B, x.2 ≤ 1000000) : Gives Tryd.prog 28 [.sl (A.map tkAv), .sl (B.map tkAv), .int e] (.bool (decide (A = later e B))) := by
  obtain ⟨R, hR⟩ : ∃ R, R = decide (A = later e B) := ⟨_, rfl⟩
  rw [← hR]
  have hll : (later e B).length = B.length := by unfold later; rw [List.length_map]
  have hlg : ∀ j (h : j < B.length), (later e B)[j]'(by rw [hll]; exact h) = (B[j].1, B[j].2 + e) := fun j h => by unfold later; rw [List.getElem_map]
  by_cases hl : A.length = B.length
  · have hl' : (A.length : Int) = B.length := by omega
    refine gives_of_awp Tryd.func28 Tryd.ntmps28 rfl rfl (by decide) rfl (by intro n; simp) fun σ n0 hcl hft => ?_
    repeat' (first | ((with_reducible refine aguard (fun hg => ?_) (fun hg => ?_)) <;> (try simp only [hg]) <;> (try simp only [beq_iff_eq, beq_eq_false_iff_ne, ne_eq, decide_eq_true_eq, decide_eq_false_iff_not, bne_iff_ne, bne_eq_false_iff_eq] at hg) <;> (try (first | simp only [eq_false hg, if_true, if_false] | simp only [eq_true hg, if_true, if_false])) <;> (try simp (disch := first | omega | simp) [wrap_i64, -aseqC, -anyC, hl'])) | (with_reducible refine aseq_step ?_; try simp (disch := first | omega | simp) [wrap_i64, -aseqC, -anyC, hl']) | (with_reducible refine any_step' ?_; try simp (disch := first | omega | simp) [wrap_i64, -aseqC, -anyC, hl']) | (with_reducible refine aseq_end ?_; try simp (disch := first | omega | simp) [wrap_i64, -aseqC, -anyC, hl']) | (with_reducible refine any_end' ?_; try simp (disch := first | omega | simp) [wrap_i64, -aseqC, -anyC, hl']) | ((first | with_reducible refine sideG ?_ ?_ | with_reducible refine sideG2 ?_ ?_ | with_reducible refine sideS ?_ ?_ | with_reducible refine sideS2 ?_ ?_ | with_reducible refine sideS3 ?_ ?_ | with_reducible refine sideA ?_ ?_ | with_reducible refine sideA2 ?_ ?_ | with_reducible refine sideA3 ?_ ?_); (first | omega | assumption | (simp; done))) | (refine awp_seq_k fun K hK => ?_) | (refine awp_regionC ?_) | (refine awp_anyA true (by kernel_rfl) (by kernel_rfl) ?_) | (refine awp_anyA false (by kernel_rfl) (by kernel_rfl) ?_) | (refine hK _ ?_; clear hK; clear K) | (clear hK; clear K; refine hK _ ?_; clear hK; clear K) | (clear hK; clear K; clear hK; clear K; refine hK _ ?_; clear hK; clear K) | refine awp_block ?_ | (refine awp_condC ?_; simp (disch := first | omega | simp) [wrap_i64, -aseqC, -anyC, hl']) | (refine awp_exit ?_; try simp (disch := first | omega | simp) [wrap_i64, -aseqC, -anyC, hl']) | (refine awp_skip ?_; try simp (disch := first | omega | simp) [wrap_i64, -aseqC, -anyC, hl']) | (refine awp_ret ?_; try simp (disch := first | omega | simp) [wrap_i64, -aseqC, -anyC, hl']))
    refine awp_loopC hcl (fun i : Nat => [(0, .sl (A.map tkAv)), (1, .sl (B.map tkAv)), (2, .int e), (7, .int i)]) (fun _ => []) (fun i => i ≤ A.length ∧ ∀ j (h1 : j < A.length) (h2 : j < B.length), j < i → A[j] = (B[j].1, B[j].2 + e)) (fun i => A.length - i) 0 ⟨Nat.zero_le _, fun j _ _ h => by omega⟩ (by simp) fun i ⟨hi, hh⟩ => ?_
    by_cases hlt : i < A.length
    · have hlt2 : i < B.length := by omega
      have hbl := hBl B[i] (List.getElem_mem hlt2)
      have hq := tk_neq A[i] B[i] e
      by_cases hx : A[i] = (B[i].1, B[i].2 + e)
      · rw [decide_eq_true hx] at hq
        repeat' (first | ((with_reducible refine aguard (fun hg => ?_) (fun hg => ?_)) <;> (try simp only [hg]) <;> (try simp only [beq_iff_eq, beq_eq_false_iff_ne, ne_eq, decide_eq_true_eq, decide_eq_false_iff_not, bne_iff_ne, bne_eq_false_iff_eq] at hg) <;> (try (first | simp only [eq_false hg, if_true, if_false] | simp only [eq_true hg, if_true, if_false])) <;> (try simp (disch := first | omega | simp) [wrap_i64, -aseqC, -anyC, hlt, hlt2, tkAv])) | (with_reducible refine aseq_step ?_; try simp (disch := first | omega | simp) [wrap_i64, -aseqC, -anyC, hlt, hlt2, tkAv]) | (with_reducible refine any_step' ?_; try simp (disch := first | omega | simp) [wrap_i64, -aseqC, -anyC, hlt, hlt2, tkAv]) | (with_reducible refine aseq_end ?_; try simp (disch := first | omega | simp) [wrap_i64, -aseqC, -anyC, hlt, hlt2, tkAv]) | (with_reducible refine any_end' ?_; try simp (disch := first | omega | simp) [wrap_i64, -aseqC, -anyC, hlt, hlt2, tkAv]) | ((first | with_reducible refine sideG ?_ ?_ | with_reducible refine sideG2 ?_ ?_ | with_reducible refine sideS ?_ ?_ | with_reducible refine sideS2 ?_ ?_ | with_reducible refine sideS3 ?_ ?_ | with_reducible refine sideA ?_ ?_ | with_reducible refine sideA2 ?_ ?_ | with_reducible refine sideA3 ?_ ?_); (first | omega | assumption | (simp; done))) | (refine awp_seq_k fun K hK => ?_) | (refine awp_regionC ?_) | (refine hK _ ?_; clear hK; clear K) | (clear hK; clear K; refine hK _ ?_; clear hK; clear K) | (clear hK; clear K; clear hK; clear K; refine hK _ ?_; clear hK; clear K) | refine awp_block ?_ | (refine awp_condC ?_; simp (disch := first | omega | simp) [wrap_i64, -aseqC, -anyC, hlt, hlt2, tkAv]) | (refine awp_exit ?_; try simp (disch := first | omega | simp) [wrap_i64, -aseqC, -anyC, hlt, hlt2, tkAv]) | (refine awp_skip ?_; try simp (disch := first | omega | simp) [wrap_i64, -aseqC, -anyC, hlt, hlt2, tkAv]) | (refine awp_ret ?_; try simp (disch := first | omega | simp) [wrap_i64, -aseqC, -anyC, hlt, hlt2, tkAv]))
        refine awp_anyA true (by kernel_rfl) (by kernel_rfl) ?_
        simp only [autoK, kind0]
        repeat' (first | ((with_reducible refine aguard (fun hg => ?_) (fun hg => ?_)) <;> (try simp only [hg]) <;> (try simp only [beq_iff_eq, beq_eq_false_iff_ne, ne_eq, decide_eq_true_eq, decide_eq_false_iff_not, bne_iff_ne, bne_eq_false_iff_eq] at hg) <;> (try (first | simp only [eq_false hg, if_true, if_false] | simp only [eq_true hg, if_true, if_false])) <;> (try simp (disch := first | omega | simp) [wrap_i64, -aseqC, -anyC, hlt, hlt2, tkAv, hq])) | (with_reducible refine aseq_step ?_; try simp (disch := first | omega | simp) [wrap_i64, -aseqC, -anyC, hlt, hlt2, tkAv, hq]) | (with_reducible refine any_step' ?_; try simp (disch := first | omega | simp) [wrap_i64, -aseqC, -anyC, hlt, hlt2, tkAv, hq]) | (with_reducible refine aseq_end ?_; try simp (disch := first | omega | simp) [wrap_i64, -aseqC, -anyC, hlt, hlt2, tkAv, hq]) | (with_reducible refine any_end' ?_; try simp (disch := first | omega | simp) [wrap_i64, -aseqC, -anyC, hlt, hlt2, tkAv, hq]) | ((first | with_reducible refine sideG ?_ ?_ | with_reducible refine sideG2 ?_ ?_ | with_reducible refine sideS ?_ ?_ | with_reducible refine sideS2 ?_ ?_ | with_reducible refine sideS3 ?_ ?_ | with_reducible refine sideA ?_ ?_ | with_reducible refine sideA2 ?_ ?_ | with_reducible refine sideA3 ?_ ?_); (first | omega | assumption | (simp; done))) | (refine awp_seq_k fun K hK => ?_) | (refine awp_regionC ?_) | (refine awp_anyA true (by kernel_rfl) (by kernel_rfl) ?_) | (refine awp_anyA false (by kernel_rfl) (by kernel_rfl) ?_) | (refine hK _ ?_; clear hK; clear K) | (clear hK; clear K; refine hK _ ?_; clear hK; clear K) | (clear hK; clear K; clear hK; clear K; refine hK _ ?_; clear hK; clear K) | refine awp_block ?_ | (refine awp_condC ?_; simp (disch := first | omega | simp) [wrap_i64, -aseqC, -anyC, hlt, hlt2, tkAv, hq]) | (refine awp_exit ?_; try simp (disch := first | omega | simp) [wrap_i64, -aseqC, -anyC, hlt, hlt2, tkAv, hq]) | (refine awp_skip ?_; try simp (disch := first | omega | simp) [wrap_i64, -aseqC, -anyC, hlt, hlt2, tkAv, hq]) | (refine awp_ret ?_; try simp (disch := first | omega | simp) [wrap_i64, -aseqC, -anyC, hlt, hlt2, tkAv, hq]))
        all_goals exact ⟨i + 1, ⟨by omega, fun j h1 h2 h3 => by
          by_cases hj : j = i
          · subst hj; exact hx
          · exact hh j h1 h2 (by omega)⟩, by omega, by simp⟩
      · have hno : R = false := by
          rw [hR, decide_eq_false]; intro e2
          apply hx
          rw [← hlg i hlt2]
          simp only [e2]
        rw [decide_eq_false hx] at hq
        repeat' (first | ((with_reducible refine aguard (fun hg => ?_) (fun hg => ?_)) <;> (try simp only [hg]) <;> (try simp only [beq_iff_eq, beq_eq_false_iff_ne, ne_eq, decide_eq_true_eq, decide_eq_false_iff_not, bne_iff_ne, bne_eq_false_iff_eq] at hg) <;> (try (first | simp only [eq_false hg, if_true, if_false] | simp only [eq_true hg, if_true, if_false])) <;> (try simp (disch := first | omega | simp) [wrap_i64, -aseqC, -anyC, hlt, hlt2, tkAv])) | (with_reducible refine aseq_step ?_; try simp (disch := first | omega | simp) [wrap_i64, -aseqC, -anyC, hlt, hlt2, tkAv]) | (with_reducible refine any_step' ?_; try simp (disch := first | omega | simp) [wrap_i64, -aseqC, -anyC, hlt, hlt2, tkAv]) | (with_reducible refine aseq_end ?_; try simp (disch := first | omega | simp) [wrap_i64, -aseqC, -anyC, hlt, hlt2, tkAv]) | (with_reducible refine any_end' ?_; try simp (disch := first | omega | simp) [wrap_i64, -aseqC, -anyC, hlt, hlt2, tkAv]) | ((first | with_reducible refine sideG ?_ ?_ | with_reducible refine sideG2 ?_ ?_ | with_reducible refine sideS ?_ ?_ | with_reducible refine sideS2 ?_ ?_ | with_reducible refine sideS3 ?_ ?_ | with_reducible refine sideA ?_ ?_ | with_reducible refine sideA2 ?_ ?_ | with_reducible refine sideA3 ?_ ?_); (first | omega | assumption | (simp; done))) | (refine awp_seq_k fun K hK => ?_) | (refine awp_regionC ?_) | (refine hK _ ?_; clear hK; clear K) | (clear hK; clear K; refine hK _ ?_; clear hK; clear K) | (clear hK; clear K; clear hK; clear K; refine hK _ ?_; clear hK; clear K) | refine awp_block ?_ | (refine awp_condC ?_; simp (disch := first | omega | simp) [wrap_i64, -aseqC, -anyC, hlt, hlt2, tkAv]) | (refine awp_exit ?_; try simp (disch := first | omega | simp) [wrap_i64, -aseqC, -anyC, hlt, hlt2, tkAv]) | (refine awp_skip ?_; try simp (disch := first | omega | simp) [wrap_i64, -aseqC, -anyC, hlt, hlt2, tkAv]) | (refine awp_ret ?_; try simp (disch := first | omega | simp) [wrap_i64, -aseqC, -anyC, hlt, hlt2, tkAv]))
        refine awp_anyA true (by kernel_rfl) (by kernel_rfl) ?_
        simp only [autoK, kind0]
        repeat' (first | ((with_reducible refine aguard (fun hg => ?_) (fun hg => ?_)) <;> (try simp only [hg]) <;> (try simp only [beq_iff_eq, beq_eq_false_iff_ne, ne_eq, decide_eq_true_eq, decide_eq_false_iff_not, bne_iff_ne, bne_eq_false_iff_eq] at hg) <;> (try (first | simp only [eq_false hg, if_true, if_false] | simp only [eq_true hg, if_true, if_false])) <;> (try simp (disch := first | omega | simp) [wrap_i64, -aseqC, -anyC, hlt, hlt2, tkAv, hq])) | (with_reducible refine aseq_step ?_; try simp (disch := first | omega | simp) [wrap_i64, -aseqC, -anyC, hlt, hlt2, tkAv, hq]) | (with_reducible refine any_step' ?_; try simp (disch := first | omega | simp) [wrap_i64, -aseqC, -anyC, hlt, hlt2, tkAv, hq]) | (with_reducible refine aseq_end ?_; try simp (disch := first | omega | simp) [wrap_i64, -aseqC, -anyC, hlt, hlt2, tkAv, hq]) | (with_reducible refine any_end' ?_; try simp (disch := first | omega | simp) [wrap_i64, -aseqC, -anyC, hlt, hlt2, tkAv, hq]) | ((first | with_reducible refine sideG ?_ ?_ | with_reducible refine sideG2 ?_ ?_ | with_reducible refine sideS ?_ ?_ | with_reducible refine sideS2 ?_ ?_ | with_reducible refine sideS3 ?_ ?_ | with_reducible refine sideA ?_ ?_ | with_reducible refine sideA2 ?_ ?_ | with_reducible refine sideA3 ?_ ?_); (first | omega | assumption | (simp; done))) | (refine awp_seq_k fun K hK => ?_) | (refine awp_regionC ?_) | (refine awp_anyA true (by kernel_rfl) (by kernel_rfl) ?_) | (refine awp_anyA false (by kernel_rfl) (by kernel_rfl) ?_) | (refine hK _ ?_; clear hK; clear K) | (clear hK; clear K; refine hK _ ?_; clear hK; clear K) | (clear hK; clear K; clear hK; clear K; refine hK _ ?_; clear hK; clear K) | refine awp_block ?_ | (refine awp_condC ?_; simp (disch := first | omega | simp) [wrap_i64, -aseqC, -anyC, hlt, hlt2, tkAv, hq]) | (refine awp_exit ?_; try simp (disch := first | omega | simp) [wrap_i64, -aseqC, -anyC, hlt, hlt2, tkAv, hq]) | (refine awp_skip ?_; try simp (disch := first | omega | simp) [wrap_i64, -aseqC, -anyC, hlt, hlt2, tkAv, hq]) | (refine awp_ret ?_; try simp (disch := first | omega | simp) [wrap_i64, -aseqC, -anyC, hlt, hlt2, tkAv, hq]))
        all_goals exact hno
    · have hyes : R = true := by
        rw [hR, decide_eq_true]
        exact List.ext_getElem (by rw [hll]; exact hl) fun j h1 h2 => by rw [hlg j (by rw [hll] at h2; exact h2)]; exact hh j h1 (by rw [hll] at h2; exact h2) (by omega)
      repeat' (first | ((with_reducible refine aguard (fun hg => ?_) (fun hg => ?_)) <;> (try simp only [hg]) <;> (try simp only [beq_iff_eq, beq_eq_false_iff_ne, ne_eq, decide_eq_true_eq, decide_eq_false_iff_not, bne_iff_ne, bne_eq_false_iff_eq] at hg) <;> (try (first | simp only [eq_false hg, if_true, if_false] | simp only [eq_true hg, if_true, if_false])) <;> (try simp (disch := first | omega | simp) [wrap_i64, -aseqC, -anyC, hlt])) | (with_reducible refine aseq_step ?_; try simp (disch := first | omega | simp) [wrap_i64, -aseqC, -anyC, hlt]) | (with_reducible refine any_step' ?_; try simp (disch := first | omega | simp) [wrap_i64, -aseqC, -anyC, hlt]) | (with_reducible refine aseq_end ?_; try simp (disch := first | omega | simp) [wrap_i64, -aseqC, -anyC, hlt]) | (with_reducible refine any_end' ?_; try simp (disch := first | omega | simp) [wrap_i64, -aseqC, -anyC, hlt]) | ((first | with_reducible refine sideG ?_ ?_ | with_reducible refine sideG2 ?_ ?_ | with_reducible refine sideS ?_ ?_ | with_reducible refine sideS2 ?_ ?_ | with_reducible refine sideS3 ?_ ?_ | with_reducible refine sideA ?_ ?_ | with_reducible refine sideA2 ?_ ?_ | with_reducible refine sideA3 ?_ ?_); (first | omega | assumption | (simp; done))) | (refine awp_seq_k fun K hK => ?_) | (refine awp_regionC ?_) | (refine awp_anyA true (by kernel_rfl) (by kernel_rfl) ?_) | (refine awp_anyA false (by kernel_rfl) (by kernel_rfl) ?_) | (refine hK _ ?_; clear hK; clear K) | (clear hK; clear K; refine hK _ ?_; clear hK; clear K) | (clear hK; clear K; clear hK; clear K; refine hK _ ?_; clear hK; clear K) | refine awp_block ?_ | (refine awp_condC ?_; simp (disch := first | omega | simp) [wrap_i64, -aseqC, -anyC, hlt]) | (refine awp_exit ?_; try simp (disch := first | omega | simp) [wrap_i64, -aseqC, -anyC, hlt]) | (refine awp_skip ?_; try simp (disch := first | omega | simp) [wrap_i64, -aseqC, -anyC, hlt]) | (refine awp_ret ?_; try simp (disch := first | omega | simp) [wrap_i64, -aseqC, -anyC, hlt]))
      all_goals exact hyes
  · have hl' : ¬ (A.length : Int) = B.length := by omega
    have hno : R = false := by rw [hR, decide_eq_false]; intro e2; apply hl; rw [e2, hll]
    refine gives_of_awp Tryd.func28 Tryd.ntmps28 rfl rfl (by decide) rfl (by intro n; simp) fun σ n0 hcl hft => ?_
    repeat' (first | ((with_reducible refine aguard (fun hg => ?_) (fun hg => ?_)) <;> (try simp only [hg]) <;> (try simp only [beq_iff_eq, beq_eq_false_iff_ne, ne_eq, decide_eq_true_eq, decide_eq_false_iff_not, bne_iff_ne, bne_eq_false_iff_eq] at hg) <;> (try (first | simp only [eq_false hg, if_true, if_false] | simp only [eq_true hg, if_true, if_false])) <;> (try simp (disch := first | omega | simp) [wrap_i64, -aseqC, -anyC, hl'])) | (with_reducible refine aseq_step ?_; try simp (disch := first | omega | simp) [wrap_i64, -aseqC, -anyC, hl']) | (with_reducible refine any_step' ?_; try simp (disch := first | omega | simp) [wrap_i64, -aseqC, -anyC, hl']) | (with_reducible refine aseq_end ?_; try simp (disch := first | omega | simp) [wrap_i64, -aseqC, -anyC, hl']) | (with_reducible refine any_end' ?_; try simp (disch := first | omega | simp) [wrap_i64, -aseqC, -anyC, hl']) | ((first | with_reducible refine sideG ?_ ?_ | with_reducible refine sideG2 ?_ ?_ | with_reducible refine sideS ?_ ?_ | with_reducible refine sideS2 ?_ ?_ | with_reducible refine sideS3 ?_ ?_ | with_reducible refine sideA ?_ ?_ | with_reducible refine sideA2 ?_ ?_ | with_reducible refine sideA3 ?_ ?_); (first | omega | assumption | (simp; done))) | (refine awp_seq_k fun K hK => ?_) | (refine awp_regionC ?_) | (refine awp_anyA true (by kernel_rfl) (by kernel_rfl) ?_) | (refine awp_anyA false (by kernel_rfl) (by kernel_rfl) ?_) | (refine hK _ ?_; clear hK; clear K) | (clear hK; clear K; refine hK _ ?_; clear hK; clear K) | (clear hK; clear K; clear hK; clear K; refine hK _ ?_; clear hK; clear K) | refine awp_block ?_ | (refine awp_condC ?_; simp (disch := first | omega | simp) [wrap_i64, -aseqC, -anyC, hl']) | (refine awp_exit ?_; try simp (disch := first | omega | simp) [wrap_i64, -aseqC, -anyC, hl']) | (refine awp_skip ?_; try simp (disch := first | omega | simp) [wrap_i64, -aseqC, -anyC, hl']) | (refine awp_ret ?_; try simp (disch := first | omega | simp) [wrap_i64, -aseqC, -anyC, hl']))
    all_goals first | exact hno | exact absurd (by assumption) hl' | exact absurd (by assumption) hl
end Go.Proofs.YtkhmlicikbnmdaaDoor

/- Sizes: what Write makes of a source's tokens. -/
namespace Go.Proofs.YtkhmlicikbnmdaaDoor
open Go.RowKit Go.Lib

theorem tok_facts {l : List UInt8} {t : Tk} {k : Nat} (hl : l ≠ []) (h : tokP l = .ok (t, k)) : t.kind ≤ 5 ∧ t.text.length ≤ 200 + l.length ∧ (wtext t).length ≤ k := by
  obtain ⟨c, r, rfl⟩ := List.exists_cons_of_ne_nil hl
  rw [tokP] at h
  by_cases hp : partC c = true
  · rw [if_pos hp] at h
    cases hwt : wordTk ((c :: r).takeWhile partC) with
    | error e => rw [hwt] at h; cases h
    | ok u =>
      rw [hwt] at h
      cases h
      obtain ⟨h1, h2⟩ := word_kind hwt
      have hlen : ((c :: r).takeWhile partC).length ≤ (c :: r).length := (List.takeWhile_sublist _).length_le
      refine ⟨by omega, by rw [h1]; omega, ?_⟩
      unfold wtext
      rw [if_neg (by omega), if_neg (by omega), h1]
      exact Nat.le_refl _
  · rw [if_neg hp] at h
    by_cases h34 : c = 34
    · rw [if_pos h34] at h
      cases hq : quoteI r with
      | none => rw [hq] at h; cases h
      | some j =>
        rw [hq] at h
        dsimp only at h
        cases hu : unqP hxP ((c :: r).take (j + 2)) with
        | none => rw [hu] at h; cases h
        | some u =>
          rw [hu] at h
          dsimp only at h
          split at h
          · cases h
          · rename_i hlen
            cases h
            refine ⟨by show 2 ≤ 5; omega, by show u.length ≤ _; omega, ?_⟩
            show (qP u).length ≤ _
            have e : qP u = (c :: r).take (j + 2) := by
              unfold unqP at hu
              split at hu
              · cases hu; assumption
              · cases hu
            rw [e, List.length_take]; omega
    · rw [if_neg h34] at h
      by_cases h10 : c = 10
      · rw [if_pos h10] at h
        cases h
        exact ⟨by show 4 ≤ 5; omega, by simp, by show 1 ≤ 1; omega⟩
      · rw [if_neg h10] at h
        by_cases h0 : operI (c :: r) = 0
        · rw [if_pos h0] at h; cases h
        · rw [if_neg h0] at h
          cases h
          refine ⟨by show 3 ≤ 5; omega, ?_, ?_⟩
          · show ((c :: r).take _).length ≤ _
            rw [List.length_take]; omega
          · show ((c :: r).take _).length ≤ _
            rw [List.length_take]; omega
theorem lex_facts : ∀ (n : Nat) (l : List UInt8), l.length ≤ n → ∀ (f h m : Nat) (L : List (Tk × Nat)), l.length < f → lexF f l h m = .ok L → (∀ x ∈ L, x.1.kind ≤ 5 ∧ x.1.text.length ≤ 200 + l.length) ∧ (writeP L).length ≤ 2 * l.length := fun n => by
  induction n with
  | zero =>
    intro l hl f h m L hf hL
    have : l = [] := List.eq_nil_of_length_eq_zero (by omega)
    subst this
    obtain ⟨f, rfl⟩ : ∃ f', f = f' + 1 := ⟨f - 1, by omega⟩
    rw [lex_step, show skipP false [] = [] from rfl, tok_nil] at hL
    split at hL
    · cases hL
    · cases hL
      exact ⟨fun x hx => by rcases List.mem_singleton.1 hx with rfl; exact ⟨by show 5 ≤ 5; omega, by simp⟩, by show (writeP [(⟨5, [], 0⟩, m)]).length ≤ _; simp [writeP, wr1]⟩
  | succ n ih =>
    intro l hl f h m L hf hL
    obtain ⟨f, rfl⟩ : ∃ f', f = f' + 1 := ⟨f - 1, by omega⟩
    rw [lex_step] at hL
    by_cases h3 : h ≥ 3000
    · rw [if_pos h3] at hL; cases hL
    · rw [if_neg h3] at hL
      by_cases hs : skipP false l = []
      · rw [hs, tok_nil] at hL
        cases hL
        exact ⟨fun x hx => by rcases List.mem_singleton.1 hx with rfl; exact ⟨by show 5 ≤ 5; omega, by simp⟩, by show (writeP [(⟨5, [], 0⟩, m)]).length ≤ _; simp [writeP, wr1]⟩
      · cases ht : tokP (skipP false l) with
        | error e => rw [ht] at hL; cases hL
        | ok tk =>
          obtain ⟨t, k⟩ := tk
          rw [ht] at hL
          obtain ⟨h1, h2, h5⟩ := tok_self hs ht
          obtain ⟨f1, f2, f3⟩ := tok_facts hs ht
          dsimp only at hL
          rw [if_neg h5] at hL
          have hsl := skip_len false l
          cases hr : lexF f ((skipP false l).drop k) (h + 1) (if t.kind = 4 then m + 1 else m) with
          | error e => rw [hr] at hL; cases hL
          | ok M =>
            rw [hr] at hL
            cases hL
            obtain ⟨hM, hlen⟩ := ih ((skipP false l).drop k) (by rw [List.length_drop]; omega) f (h + 1) _ M (by rw [List.length_drop]; omega) hr
            rw [List.length_drop] at hM hlen
            refine ⟨fun x hx => ?_, ?_⟩
            · rcases List.mem_cons.1 hx with rfl | hx
              · exact ⟨f1, by show t.text.length ≤ _; omega⟩
              · have := hM x hx; exact ⟨this.1, by omega⟩
            · rw [writeP_cons, List.length_append]
              have : (wr1 t).length ≤ k + 1 := by
                unfold wr1
                split
                · simp
                · split
                  · simp
                  · rw [List.length_append, List.length_singleton]; omega
              show (wr1 t).length + _ ≤ _
              omega
end Go.Proofs.YtkhmlicikbnmdaaDoor
