/- Walk: Lex, of the program. -/
import Derived.Test.YtkhmlicikbnmdaaDoorGa22
import Derived.Test.YtkhmlicikbnmdaaDoorGa28
import Derived.Test.YtkhmlicikbnmdaaDoorGa29
set_option linter.unusedSimpArgs false
set_option linter.unusedVariables false
namespace Go.Proofs.YtkhmlicikbnmdaaDoor
open Go.RowKit Go.Lib

theorem skip_drop : ∀ (b : Bool) (l : List UInt8), skipP b l = l.drop (l.length - (skipP b l).length)
  | b, [] => by cases b <;> rfl
  | false, c :: l => by
    rw [skipP]
    split
    · have h := skip_drop false l
      have hl := skip_len false l
      rw [show (c :: l).length - (skipP false l).length = (l.length - (skipP false l).length) + 1 by simp; omega, List.drop_succ_cons]
      exact h
    · split
      · have h := skip_drop true l
        have hl := skip_len true l
        rw [show (c :: l).length - (skipP true l).length = (l.length - (skipP true l).length) + 1 by simp; omega, List.drop_succ_cons]
        exact h
      · simp
  | true, c :: l => by
    rw [skipP]
    split
    · simp
    · have h := skip_drop true l
      have hl := skip_len true l
      rw [show (c :: l).length - (skipP true l).length = (l.length - (skipP true l).length) + 1 by simp; omega, List.drop_succ_cons]
      exact h
/-- what takes the token that begins here -/
def pickF : List UInt8 → Nat
  | [] => 75
  | c :: _ => if partC c = true then 77 else if c = 34 then 78 else if c = 10 then 79 else 80
theorem pick_enters (l : List UInt8) : enters Tryd.prog (pickF l) = true := by
  unfold pickF
  split
  · simp
  · split
    · simp
    · split
      · simp
      · split <;> simp
section
variable {σ : Nat → AB} {r r' : Nat} {src : ByteArray} {a line : Nat} {L : List (Tk × Nat)}
theorem pick_next (h : Scn σ r r' src a line L) (ha : a ≤ src.size) : GivesAt Tryd.prog 59 [.ptr r 0] σ (.bm (pickF (src.data.toList.drop a)) [.ptr r 0]) := next_g h ha _ (by cases src.data.toList.drop a <;> rfl)
theorem take_g (h : Scn σ r r' src a line L) (hl : L.length ≤ 5000) (hs : src.size ≤ 1000000) (hli : line ≤ 1000000) (ha : a ≤ src.size) :
    AC Tryd.prog (pickF (src.data.toList.drop a)) [.ptr r 0] σ fun z τ => z = takeZ (tokP (src.data.toList.drop a)) ∧ τ = takeT σ r r' src a line L (tokP (src.data.toList.drop a)) := by
  have hsz : src.data.toList.length = src.size := by rw [← Lib.size_eq]
  by_cases hlt : a < src.size
  · have hda : src.data.toList.drop a = src.data[a] :: src.data.toList.drop (a + 1) := by rw [List.drop_eq_getElem_cons (by omega), Array.getElem_toList]
    have hpk : pickF (src.data.toList.drop a) = if partC src.data[a] = true then 77 else if src.data[a] = 34 then 78 else if src.data[a] = 10 then 79 else 80 := by rw [hda]; rfl
    rw [hpk]
    by_cases hp : partC src.data[a] = true
    · rw [if_pos hp]; exact word_g h hl hs hlt hp
    · rw [if_neg hp]
      by_cases h34 : src.data[a] = 34
      · rw [if_pos h34]; exact quoted_g h hl hs hlt h34
      · rw [if_neg h34]
        by_cases h10 : src.data[a] = 10
        · rw [if_pos h10]
          have ht : tokP (src.data.toList.drop a) = .ok (⟨4, [], 0⟩, 1) := by rw [hda, tokP, if_neg hp, if_neg h34, if_pos h10]
          rw [ht]
          exact feed_g h hl (by omega) hli
        · rw [if_neg h10]; exact operator_g h hl hs hlt (Bool.eq_false_iff.2 hp) h34 h10
  · obtain rfl : a = src.size := by omega
    have e : src.data.toList.drop src.size = [] := List.drop_of_length_le (by omega)
    rw [e, tok_nil]
    exact end_g h hl
end
section
variable {n n0 : Nat} {t : Nat → AV} {σ : Nat → AB} {src : ByteArray} {a line : Nat} {T : List (Tk × Nat)} {M : List AB} {K : AV → AS → Prop} {f : FuncId} {args : List AV} {x : AV}
/-- the scanner among the call's own blocks -/
theorem own_scn : Scn (loc σ n0 (scnC (n0 + 1) src a line T :: .tail T.length 43 4 :: M)) n0 (n0 + 1) src a line T :=
  ⟨by omega, by simp, by simp⟩
theorem own_scnT {a' line' : Nat} {T' : List (Tk × Nat)} (h : AC Tryd.prog f args (loc σ n0 (scnC (n0 + 1) src a line T :: .tail T.length 43 4 :: M)) fun z τ => z = x ∧ τ = scnT (loc σ n0 (scnC (n0 + 1) src a line T :: .tail T.length 43 4 :: M)) n0 (n0 + 1) src a' line' T')
    (hK : K x ⟨n, t, σ, n0, scnC (n0 + 1) src a' line' T' :: .tail T'.length 43 4 :: M⟩) : ACall Tryd.prog f args ⟨n, t, σ, n0, scnC (n0 + 1) src a line T :: .tail T.length 43 4 :: M⟩ K := by
  refine acallS2 n0 (n0 + 1) _ _ h (by simp [scnC]) (by simp) ?_
  simpa using hK
end
/-- what Lex returns -/
def lexAv : Except (Nat × Nat) (List (Tk × Nat)) → AV
  | .ok L => .tup [.sl (L.map tkAv), .int 0, .int 0]
  | .error (e, m) => .tup [.sl [], .int e, .int m]
theorem lexAv_cl (R : Except (Nat × Nat) (List (Tk × Nat))) (n : Nat) : (lexAv R).cl n := by
  cases R with
  | ok L => show AV.cl n (.tup [.sl (L.map tkAv), .int 0, .int 0]); simp
  | error e => show AV.cl n (.tup [.sl [], .int e.1, .int e.2]); simp
def addT (T : List (Tk × Nat)) : Except (Nat × Nat) (List (Tk × Nat)) → Except (Nat × Nat) (List (Tk × Nat))
  | .ok M => .ok (T ++ M)
  | .error e => .error e
theorem addT_nil (X : Except (Nat × Nat) (List (Tk × Nat))) : addT [] X = X := by cases X <;> rfl
def isEnd (T : List (Tk × Nat)) : Bool := match T.getLast? with | some x => x.1.kind == 5 | none => false
theorem isEnd_snoc (T : List (Tk × Nat)) (x : Tk × Nat) : isEnd (T ++ [x]) = (x.1.kind == 5) := by unfold isEnd; simp
theorem snoc_cases {α : Type} (T : List α) : T = [] ∨ ∃ T0 x, T = T0 ++ [x] := by
  rcases List.eq_nil_or_concat T with h | ⟨T0, x, h⟩
  · exact .inl h
  · exact .inr ⟨T0, x, by rw [h, List.concat_eq_append]⟩
theorem word_err {w : List UInt8} {e : Nat} (h : wordTk w = .error e) : e = 11 ∨ e = 3 := by
  unfold wordTk at h
  split at h
  · cases h; exact .inl rfl
  · split at h
    · split at h
      · cases h; exact .inl rfl
      · split at h
        · cases h
        · cases h; exact .inr rfl
    · split at h
      · cases h; exact .inl rfl
      · cases h
theorem tok_err {l : List UInt8} {e : Nat} (h : tokP l = .error e) : e = 11 ∨ e = 3 := by
  cases l with
  | nil => rw [tok_nil] at h; cases h
  | cons c r =>
    rw [tokP] at h
    split at h
    · cases hw : wordTk ((c :: r).takeWhile partC) with
      | error e' => rw [hw] at h; cases h; exact word_err hw
      | ok t => rw [hw] at h; cases h
    · split at h
      · split at h
        · cases h; exact .inl rfl
        · split at h
          · split at h
            · cases h; exact .inl rfl
            · cases h
          · cases h; exact .inl rfl
      · split at h
        · cases h
        · split at h
          · cases h; exact .inl rfl
          · cases h
theorem scn_cut {src : ByteArray} {a : Nat} (hs : src.data.toList.length = src.size) (ha : a ≤ src.size) :
    src.size - (skipP false (src.data.toList.drop a)).length ≤ src.size ∧ a ≤ src.size - (skipP false (src.data.toList.drop a)).length ∧ src.data.toList.drop (src.size - (skipP false (src.data.toList.drop a)).length) = skipP false (src.data.toList.drop a) := by
  have h1 := skip_len false (src.data.toList.drop a)
  have h2 := skip_drop false (src.data.toList.drop a)
  rw [List.length_drop] at h1 h2
  refine ⟨by omega, by omega, ?_⟩
  rw [List.drop_drop] at h2
  rw [show a + (src.data.toList.length - a - (skipP false (src.data.toList.drop a)).length) = src.size - (skipP false (src.data.toList.drop a)).length by omega] at h2
  exact h2.symm
set_option maxHeartbeats 4000000 in
theorem lex_g (src : ByteArray) (hs : src.size ≤ 1000000) : Gives Tryd.prog 27 [.str src] (lexAv (lexP src.data.toList)) := by
  have hsz : src.data.toList.length = src.size := by rw [← Lib.size_eq]
  by_cases hbig : 8000 < src.size
  · have e : lexP src.data.toList = .error (6, 0) := by unfold lexP; rw [if_pos (by omega)]
    rw [e]
    have hbig' : (8000 : Int) < src.size := by omega
    refine gives_of_awp Tryd.func27 Tryd.ntmps27 rfl rfl (by decide) rfl (lexAv_cl _) fun σ n0 hcl hft => ?_
    repeat' (first | ((with_reducible refine aguard (fun hg => ?_) (fun hg => ?_)) <;> (try simp only [hg]) <;> (try simp only [beq_iff_eq, beq_eq_false_iff_ne, ne_eq, decide_eq_true_eq, decide_eq_false_iff_not, bne_iff_ne, bne_eq_false_iff_eq] at hg) <;> (try (first | simp only [eq_false hg, if_true, if_false] | simp only [eq_true hg, if_true, if_false])) <;> (try simp (disch := first | omega | simp) [wrap_i64, -aseqC, -anyC, hbig'])) | (with_reducible refine aseq_step ?_; try simp (disch := first | omega | simp) [wrap_i64, -aseqC, -anyC, hbig']) | (with_reducible refine any_step' ?_; try simp (disch := first | omega | simp) [wrap_i64, -aseqC, -anyC, hbig']) | (with_reducible refine aseq_end ?_; try simp (disch := first | omega | simp) [wrap_i64, -aseqC, -anyC, hbig']) | (with_reducible refine any_end' ?_; try simp (disch := first | omega | simp) [wrap_i64, -aseqC, -anyC, hbig']) | ((first | with_reducible refine sideG ?_ ?_ | with_reducible refine sideG2 ?_ ?_ | with_reducible refine sideS ?_ ?_ | with_reducible refine sideS2 ?_ ?_ | with_reducible refine sideS3 ?_ ?_ | with_reducible refine sideA ?_ ?_ | with_reducible refine sideA2 ?_ ?_ | with_reducible refine sideA3 ?_ ?_); (first | omega | assumption | (simp; done))) | (refine awp_seq_k fun K hK => ?_) | (refine awp_regionC ?_) | (refine awp_anyA true (by kernel_rfl) (by kernel_rfl) ?_) | (refine awp_anyA false (by kernel_rfl) (by kernel_rfl) ?_) | (refine hK _ ?_; clear hK; clear K) | (clear hK; clear K; refine hK _ ?_; clear hK; clear K) | (clear hK; clear K; clear hK; clear K; refine hK _ ?_; clear hK; clear K) | refine awp_block ?_ | (refine awp_condC ?_; simp (disch := first | omega | simp) [wrap_i64, -aseqC, -anyC, hbig']) | (refine awp_exit ?_; try simp (disch := first | omega | simp) [wrap_i64, -aseqC, -anyC, hbig']) | (refine awp_skip ?_; try simp (disch := first | omega | simp) [wrap_i64, -aseqC, -anyC, hbig']) | (refine awp_ret ?_; try simp (disch := first | omega | simp) [wrap_i64, -aseqC, -anyC, hbig']))
    rfl
  · have hbig' : ¬ (8000 : Int) < src.size := by omega
    obtain ⟨R, hR⟩ : ∃ R, R = lexP src.data.toList := ⟨_, rfl⟩
    rw [← hR]
    unfold lexP at hR
    rw [if_neg (by omega)] at hR
    refine gives_of_awp Tryd.func27 Tryd.ntmps27 rfl rfl (by decide) rfl (lexAv_cl R) fun σ n0 hcl hft => ?_
    repeat' (first | ((with_reducible refine aguard (fun hg => ?_) (fun hg => ?_)) <;> (try simp only [hg]) <;> (try simp only [beq_iff_eq, beq_eq_false_iff_ne, ne_eq, decide_eq_true_eq, decide_eq_false_iff_not, bne_iff_ne, bne_eq_false_iff_eq] at hg) <;> (try (first | simp only [eq_false hg, if_true, if_false] | simp only [eq_true hg, if_true, if_false])) <;> (try simp (disch := first | omega | simp) [wrap_i64, -aseqC, -anyC, hbig'])) | (with_reducible refine aseq_step ?_; try simp (disch := first | omega | simp) [wrap_i64, -aseqC, -anyC, hbig']) | (with_reducible refine any_step' ?_; try simp (disch := first | omega | simp) [wrap_i64, -aseqC, -anyC, hbig']) | (with_reducible refine aseq_end ?_; try simp (disch := first | omega | simp) [wrap_i64, -aseqC, -anyC, hbig']) | (with_reducible refine any_end' ?_; try simp (disch := first | omega | simp) [wrap_i64, -aseqC, -anyC, hbig']) | ((first | with_reducible refine sideG ?_ ?_ | with_reducible refine sideG2 ?_ ?_ | with_reducible refine sideS ?_ ?_ | with_reducible refine sideS2 ?_ ?_ | with_reducible refine sideS3 ?_ ?_ | with_reducible refine sideA ?_ ?_ | with_reducible refine sideA2 ?_ ?_ | with_reducible refine sideA3 ?_ ?_); (first | omega | assumption | (simp; done))) | (refine awp_seq_k fun K hK => ?_) | (refine awp_regionC ?_) | (refine hK _ ?_; clear hK; clear K) | (clear hK; clear K; refine hK _ ?_; clear hK; clear K) | (clear hK; clear K; clear hK; clear K; refine hK _ ?_; clear hK; clear K) | refine awp_block ?_ | (refine awp_condC ?_; simp (disch := first | omega | simp) [wrap_i64, -aseqC, -anyC, hbig']) | (refine awp_exit ?_; try simp (disch := first | omega | simp) [wrap_i64, -aseqC, -anyC, hbig']) | (refine awp_skip ?_; try simp (disch := first | omega | simp) [wrap_i64, -aseqC, -anyC, hbig']) | (refine awp_ret ?_; try simp (disch := first | omega | simp) [wrap_i64, -aseqC, -anyC, hbig']))
    refine awp_adoptC 0 3 43 4 (by rfl) (by rfl) ?_
    refine awp_loopC hcl (fun x : Nat × Nat × List (Tk × Nat) => [(5, .ptr n0 0)]) (fun x => [.cells [.str src, .int x.1, .int x.2.1, .gs (n0 + 1) (x.2.2.map tkAv)] 73, .tail x.2.2.length 43 4])
      (fun x => x.1 ≤ src.size ∧ x.2.2.length ≤ 3001 ∧ x.2.1 ≤ 1 + x.2.2.length ∧ ((isEnd x.2.2 = false ∧ addT x.2.2 (lexF ((src.data.toList.drop x.1).length + 2) (src.data.toList.drop x.1) x.2.2.length x.2.1) = R) ∨ (isEnd x.2.2 = true ∧ R = .ok x.2.2)))
      (fun x => if isEnd x.2.2 = true then 0 else src.size + 2 - x.1) (0, 1, []) ⟨Nat.zero_le _, by simp, by simp, .inl ⟨rfl, by rw [hR]; exact addT_nil _⟩⟩ (by simp) fun ⟨a, line, T⟩ ⟨ha, hT, hline, hinv⟩ => ?_
    dsimp only at ha hT hline hinv ⊢
    rcases hinv with ⟨hE, hinv⟩ | ⟨hE, hinv⟩
    · repeat' (first | ((with_reducible refine aguard (fun hg => ?_) (fun hg => ?_)) <;> (try simp only [hg]) <;> (try simp only [beq_iff_eq, beq_eq_false_iff_ne, ne_eq, decide_eq_true_eq, decide_eq_false_iff_not, bne_iff_ne, bne_eq_false_iff_eq] at hg) <;> (try (first | simp only [eq_false hg, if_true, if_false] | simp only [eq_true hg, if_true, if_false])) <;> (try simp (disch := first | omega | simp) [wrap_i64, -aseqC, -anyC])) | (with_reducible refine aseq_step ?_; try simp (disch := first | omega | simp) [wrap_i64, -aseqC, -anyC]) | (with_reducible refine any_step' ?_; try simp (disch := first | omega | simp) [wrap_i64, -aseqC, -anyC]) | (with_reducible refine aseq_end ?_; try simp (disch := first | omega | simp) [wrap_i64, -aseqC, -anyC]) | (with_reducible refine any_end' ?_; try simp (disch := first | omega | simp) [wrap_i64, -aseqC, -anyC]) | ((first | with_reducible refine sideG ?_ ?_ | with_reducible refine sideG2 ?_ ?_ | with_reducible refine sideS ?_ ?_ | with_reducible refine sideS2 ?_ ?_ | with_reducible refine sideS3 ?_ ?_ | with_reducible refine sideA ?_ ?_ | with_reducible refine sideA2 ?_ ?_ | with_reducible refine sideA3 ?_ ?_); (first | omega | assumption | (simp; done))) | (refine awp_seq_k fun K hK => ?_) | (refine awp_regionC ?_) | (refine hK _ ?_; clear hK; clear K) | (clear hK; clear K; refine hK _ ?_; clear hK; clear K) | (clear hK; clear K; clear hK; clear K; refine hK _ ?_; clear hK; clear K) | refine awp_block ?_ | (refine awp_condC ?_; simp (disch := first | omega | simp) [wrap_i64, -aseqC, -anyC]) | (refine awp_exit ?_; try simp (disch := first | omega | simp) [wrap_i64, -aseqC, -anyC]) | (refine awp_skip ?_; try simp (disch := first | omega | simp) [wrap_i64, -aseqC, -anyC]) | (refine awp_ret ?_; try simp (disch := first | omega | simp) [wrap_i64, -aseqC, -anyC]))
      have tail := tail_of hK ⟨61, regs [(5, .ptr n0 0), (34, .v (.bool true))], σ, n0, [.cells [.str src, .int a, .int line, .gs (n0 + 1) (T.map tkAv)] 73, .tail T.length 43 4]⟩ (by
        clear hK
        clear K
        repeat' (first | ((with_reducible refine aguard (fun hg => ?_) (fun hg => ?_)) <;> (try simp only [hg]) <;> (try simp only [beq_iff_eq, beq_eq_false_iff_ne, ne_eq, decide_eq_true_eq, decide_eq_false_iff_not, bne_iff_ne, bne_eq_false_iff_eq] at hg) <;> (try (first | simp only [eq_false hg, if_true, if_false] | simp only [eq_true hg, if_true, if_false])) <;> (try simp (disch := first | omega | simp) [wrap_i64, -aseqC, -anyC])) | (with_reducible refine aseq_step ?_; try simp (disch := first | omega | simp) [wrap_i64, -aseqC, -anyC]) | (with_reducible refine any_step' ?_; try simp (disch := first | omega | simp) [wrap_i64, -aseqC, -anyC]) | (with_reducible refine aseq_end ?_; try simp (disch := first | omega | simp) [wrap_i64, -aseqC, -anyC]) | (with_reducible refine any_end' ?_; try simp (disch := first | omega | simp) [wrap_i64, -aseqC, -anyC]) | ((first | with_reducible refine sideG ?_ ?_ | with_reducible refine sideG2 ?_ ?_ | with_reducible refine sideS ?_ ?_ | with_reducible refine sideS2 ?_ ?_ | with_reducible refine sideS3 ?_ ?_ | with_reducible refine sideA ?_ ?_ | with_reducible refine sideA2 ?_ ?_ | with_reducible refine sideA3 ?_ ?_); (first | omega | assumption | (simp; done))) | (refine awp_seq_k fun K hK => ?_) | (refine awp_regionC ?_) | (refine hK _ ?_; clear hK; clear K) | (clear hK; clear K; refine hK _ ?_; clear hK; clear K) | (clear hK; clear K; clear hK; clear K; refine hK _ ?_; clear hK; clear K) | refine awp_block ?_ | (refine awp_condC ?_; simp (disch := first | omega | simp) [wrap_i64, -aseqC, -anyC]) | (refine awp_exit ?_; try simp (disch := first | omega | simp) [wrap_i64, -aseqC, -anyC]) | (refine awp_skip ?_; try simp (disch := first | omega | simp) [wrap_i64, -aseqC, -anyC]) | (refine awp_ret ?_; try simp (disch := first | omega | simp) [wrap_i64, -aseqC, -anyC]))
        refine own_scnT (skip_g own_scn hs ha) ?_
        obtain ⟨c1, c2, c3⟩ := scn_cut hsz ha
        generalize src.size - (skipP false (src.data.toList.drop a)).length = b at c1 c2 c3
        unfold scnC
        simp (disch := first | omega | simp) [wrap_i64, -aseqC, -anyC]
        rw [show (src.data.toList.drop a).length + 2 = ((src.data.toList.drop a).length + 1) + 1 from rfl, lex_step] at hinv
        rw [← c3] at hinv
        by_cases h3000 : 3000 ≤ T.length
        · rw [if_pos h3000] at hinv
          have h3' : (3000 : Int) ≤ T.length := by omega
          subst hinv
          repeat' (first | ((with_reducible refine aguard (fun hg => ?_) (fun hg => ?_)) <;> (try simp only [hg]) <;> (try simp only [beq_iff_eq, beq_eq_false_iff_ne, ne_eq, decide_eq_true_eq, decide_eq_false_iff_not, bne_iff_ne, bne_eq_false_iff_eq] at hg) <;> (try (first | simp only [eq_false hg, if_true, if_false] | simp only [eq_true hg, if_true, if_false])) <;> (try simp (disch := first | omega | simp) [wrap_i64, -aseqC, -anyC, h3'])) | (with_reducible refine aseq_step ?_; try simp (disch := first | omega | simp) [wrap_i64, -aseqC, -anyC, h3']) | (with_reducible refine any_step' ?_; try simp (disch := first | omega | simp) [wrap_i64, -aseqC, -anyC, h3']) | (with_reducible refine aseq_end ?_; try simp (disch := first | omega | simp) [wrap_i64, -aseqC, -anyC, h3']) | (with_reducible refine any_end' ?_; try simp (disch := first | omega | simp) [wrap_i64, -aseqC, -anyC, h3']) | ((first | with_reducible refine sideG ?_ ?_ | with_reducible refine sideG2 ?_ ?_ | with_reducible refine sideS ?_ ?_ | with_reducible refine sideS2 ?_ ?_ | with_reducible refine sideS3 ?_ ?_ | with_reducible refine sideA ?_ ?_ | with_reducible refine sideA2 ?_ ?_ | with_reducible refine sideA3 ?_ ?_); (first | omega | assumption | (simp; done))) | (refine awp_seq_k fun K hK => ?_) | (refine awp_regionC ?_) | (refine awp_anyA true (by kernel_rfl) (by kernel_rfl) ?_) | (refine awp_anyA false (by kernel_rfl) (by kernel_rfl) ?_) | (refine hK _ ?_; clear hK; clear K) | (clear hK; clear K; refine hK _ ?_; clear hK; clear K) | (clear hK; clear K; clear hK; clear K; refine hK _ ?_; clear hK; clear K) | refine awp_block ?_ | (refine awp_condC ?_; simp (disch := first | omega | simp) [wrap_i64, -aseqC, -anyC, h3']) | (refine awp_exit ?_; try simp (disch := first | omega | simp) [wrap_i64, -aseqC, -anyC, h3']) | (refine awp_skip ?_; try simp (disch := first | omega | simp) [wrap_i64, -aseqC, -anyC, h3']) | (refine awp_ret ?_; try simp (disch := first | omega | simp) [wrap_i64, -aseqC, -anyC, h3']))
          rfl
        · rw [if_neg (by omega)] at hinv
          have h3' : ¬ (3000 : Int) ≤ T.length := by omega
          repeat' (first | ((with_reducible refine aguard (fun hg => ?_) (fun hg => ?_)) <;> (try simp only [hg]) <;> (try simp only [beq_iff_eq, beq_eq_false_iff_ne, ne_eq, decide_eq_true_eq, decide_eq_false_iff_not, bne_iff_ne, bne_eq_false_iff_eq] at hg) <;> (try (first | simp only [eq_false hg, if_true, if_false] | simp only [eq_true hg, if_true, if_false])) <;> (try simp (disch := first | omega | simp) [wrap_i64, -aseqC, -anyC, h3'])) | (with_reducible refine aseq_step ?_; try simp (disch := first | omega | simp) [wrap_i64, -aseqC, -anyC, h3']) | (with_reducible refine any_step' ?_; try simp (disch := first | omega | simp) [wrap_i64, -aseqC, -anyC, h3']) | (with_reducible refine aseq_end ?_; try simp (disch := first | omega | simp) [wrap_i64, -aseqC, -anyC, h3']) | (with_reducible refine any_end' ?_; try simp (disch := first | omega | simp) [wrap_i64, -aseqC, -anyC, h3']) | ((first | with_reducible refine sideG ?_ ?_ | with_reducible refine sideG2 ?_ ?_ | with_reducible refine sideS ?_ ?_ | with_reducible refine sideS2 ?_ ?_ | with_reducible refine sideS3 ?_ ?_ | with_reducible refine sideA ?_ ?_ | with_reducible refine sideA2 ?_ ?_ | with_reducible refine sideA3 ?_ ?_); (first | omega | assumption | (simp; done))) | (refine awp_seq_k fun K hK => ?_) | (refine awp_regionC ?_) | (refine hK _ ?_; clear hK; clear K) | (clear hK; clear K; refine hK _ ?_; clear hK; clear K) | (clear hK; clear K; clear hK; clear K; refine hK _ ?_; clear hK; clear K) | refine awp_block ?_ | (refine awp_condC ?_; simp (disch := first | omega | simp) [wrap_i64, -aseqC, -anyC, h3']) | (refine awp_exit ?_; try simp (disch := first | omega | simp) [wrap_i64, -aseqC, -anyC, h3']) | (refine awp_skip ?_; try simp (disch := first | omega | simp) [wrap_i64, -aseqC, -anyC, h3']) | (refine awp_ret ?_; try simp (disch := first | omega | simp) [wrap_i64, -aseqC, -anyC, h3']))
          refine acallAt (pick_next own_scn c1) ?_
          simp (disch := first | omega | simp) [wrap_i64, -aseqC, -anyC]
          refine aseq_step ?_
          simp (disch := first | omega | simp) [wrap_i64, -aseqC, -anyC, pick_enters]
          cases htk : tokP (src.data.toList.drop b) with
          | error e =>
            rw [htk] at hinv
            have htg := take_g (own_scn (σ := σ) (n0 := n0) (src := src) (a := b) (line := line) (T := T) (M := [])) (by omega) hs (by omega) c1
            rw [htk] at htg
            refine own_scnT htg ?_
            dsimp only at hinv
            have hR2 : R = .error (e, line) := hinv.symm
            subst hR2
            have he : ¬ (e : Int) = 0 := by rcases tok_err htk with rfl | rfl <;> omega
            unfold scnC takeZ
            simp (disch := first | omega | simp) [wrap_i64, -aseqC, -anyC, he]
            refine aseq_step ?_
            simp (disch := first | omega | simp) [wrap_i64, -aseqC, -anyC, he]
            repeat' (first | ((with_reducible refine aguard (fun hg => ?_) (fun hg => ?_)) <;> (try simp only [hg]) <;> (try simp only [beq_iff_eq, beq_eq_false_iff_ne, ne_eq, decide_eq_true_eq, decide_eq_false_iff_not, bne_iff_ne, bne_eq_false_iff_eq] at hg) <;> (try (first | simp only [eq_false hg, if_true, if_false] | simp only [eq_true hg, if_true, if_false])) <;> (try simp (disch := first | omega | simp) [wrap_i64, -aseqC, -anyC, he])) | (with_reducible refine aseq_step ?_; try simp (disch := first | omega | simp) [wrap_i64, -aseqC, -anyC, he]) | (with_reducible refine any_step' ?_; try simp (disch := first | omega | simp) [wrap_i64, -aseqC, -anyC, he]) | (with_reducible refine aseq_end ?_; try simp (disch := first | omega | simp) [wrap_i64, -aseqC, -anyC, he]) | (with_reducible refine any_end' ?_; try simp (disch := first | omega | simp) [wrap_i64, -aseqC, -anyC, he]) | ((first | with_reducible refine sideG ?_ ?_ | with_reducible refine sideG2 ?_ ?_ | with_reducible refine sideS ?_ ?_ | with_reducible refine sideS2 ?_ ?_ | with_reducible refine sideS3 ?_ ?_ | with_reducible refine sideA ?_ ?_ | with_reducible refine sideA2 ?_ ?_ | with_reducible refine sideA3 ?_ ?_); (first | omega | assumption | (simp; done))) | (refine awp_seq_k fun K hK => ?_) | (refine awp_regionC ?_) | (refine awp_anyA true (by kernel_rfl) (by kernel_rfl) ?_) | (refine awp_anyA false (by kernel_rfl) (by kernel_rfl) ?_) | (refine hK _ ?_; clear hK; clear K) | (clear hK; clear K; refine hK _ ?_; clear hK; clear K) | (clear hK; clear K; clear hK; clear K; refine hK _ ?_; clear hK; clear K) | refine awp_block ?_ | (refine awp_condC ?_; simp (disch := first | omega | simp) [wrap_i64, -aseqC, -anyC, he]) | (refine awp_exit ?_; try simp (disch := first | omega | simp) [wrap_i64, -aseqC, -anyC, he]) | (refine awp_skip ?_; try simp (disch := first | omega | simp) [wrap_i64, -aseqC, -anyC, he]) | (refine awp_ret ?_; try simp (disch := first | omega | simp) [wrap_i64, -aseqC, -anyC, he]))
            all_goals first | rfl | exact absurd ‹_› he
          | ok tk =>
            obtain ⟨t, k⟩ := tk
            rw [htk] at hinv
            have htg := take_g (own_scn (σ := σ) (n0 := n0) (src := src) (a := b) (line := line) (T := T) (M := [])) (by omega) hs (by omega) c1
            rw [htk] at htg
            refine own_scnT htg ?_
            dsimp only at hinv
            unfold scnC takeZ
            simp (disch := first | omega | simp) [wrap_i64, -aseqC, -anyC]
            refine aseq_step ?_
            simp (disch := first | omega | simp) [wrap_i64, -aseqC, -anyC]
            repeat' (first | ((with_reducible refine aguard (fun hg => ?_) (fun hg => ?_)) <;> (try simp only [hg]) <;> (try simp only [beq_iff_eq, beq_eq_false_iff_ne, ne_eq, decide_eq_true_eq, decide_eq_false_iff_not, bne_iff_ne, bne_eq_false_iff_eq] at hg) <;> (try (first | simp only [eq_false hg, if_true, if_false] | simp only [eq_true hg, if_true, if_false])) <;> (try simp (disch := first | omega | simp) [wrap_i64, -aseqC, -anyC])) | (with_reducible refine aseq_step ?_; try simp (disch := first | omega | simp) [wrap_i64, -aseqC, -anyC]) | (with_reducible refine any_step' ?_; try simp (disch := first | omega | simp) [wrap_i64, -aseqC, -anyC]) | (with_reducible refine aseq_end ?_; try simp (disch := first | omega | simp) [wrap_i64, -aseqC, -anyC]) | (with_reducible refine any_end' ?_; try simp (disch := first | omega | simp) [wrap_i64, -aseqC, -anyC]) | ((first | with_reducible refine sideG ?_ ?_ | with_reducible refine sideG2 ?_ ?_ | with_reducible refine sideS ?_ ?_ | with_reducible refine sideS2 ?_ ?_ | with_reducible refine sideS3 ?_ ?_ | with_reducible refine sideA ?_ ?_ | with_reducible refine sideA2 ?_ ?_ | with_reducible refine sideA3 ?_ ?_); (first | omega | assumption | (simp; done))) | (refine awp_seq_k fun K hK => ?_) | (refine awp_regionC ?_) | (refine awp_anyA true (by kernel_rfl) (by kernel_rfl) ?_) | (refine awp_anyA false (by kernel_rfl) (by kernel_rfl) ?_) | (refine hK _ ?_; clear hK; clear K) | (clear hK; clear K; refine hK _ ?_; clear hK; clear K) | (clear hK; clear K; clear hK; clear K; refine hK _ ?_; clear hK; clear K) | refine awp_block ?_ | (refine awp_condC ?_; simp (disch := first | omega | simp) [wrap_i64, -aseqC, -anyC]) | (refine awp_exit ?_; try simp (disch := first | omega | simp) [wrap_i64, -aseqC, -anyC]) | (refine awp_skip ?_; try simp (disch := first | omega | simp) [wrap_i64, -aseqC, -anyC]) | (refine awp_ret ?_; try simp (disch := first | omega | simp) [wrap_i64, -aseqC, -anyC]))
            by_cases hnil : src.data.toList.drop b = []
            · rw [hnil, tok_nil] at htk
              cases htk
              rw [if_pos rfl] at hinv
              have hR3 : R = .ok (T ++ [(⟨5, [], 0⟩, line)]) := hinv.symm
              exact ⟨b + 0, line, T ++ [(⟨5, [], 0⟩, line)], ⟨by omega, by simp; omega, by simp; omega, .inr ⟨by rw [isEnd_snoc]; rfl, hR3⟩⟩, by rw [isEnd_snoc, hE]; simp; omega, ⟨by omega, rfl, tks_snoc _⟩, by simp⟩
            · obtain ⟨k1, k2, k3⟩ := tok_self hnil htk
              rw [List.length_drop] at k2
              rw [if_neg k3, List.drop_drop, lexF_any _ _ (Nat.le_refl _) _ (src.size - (b + k) + 2) _ _ (by rw [List.length_drop, List.length_drop]; omega) (by rw [List.length_drop]; omega)] at hinv
              have hk5 : (t.kind == 5) = false := by simpa using k3
              refine ⟨b + k, if t.kind = 4 then line + 1 else line, T ++ [(t, line)], ⟨by omega, by simp; omega, by simp; split <;> omega, .inl ⟨by rw [isEnd_snoc]; exact hk5, ?_⟩⟩, by rw [isEnd_snoc, hE, hk5]; simp; omega, ⟨by omega, rfl, tks_snoc _⟩, by simp⟩
              rw [← hinv, List.length_append, List.length_singleton]
              cases lexF (src.size - (b + k) + 2) (src.data.toList.drop (b + k)) (T.length + 1) (if t.kind = 4 then line + 1 else line) with
              | error e => rfl
              | ok M => show Except.ok _ = Except.ok _; rw [List.append_assoc]; rfl)
      clear hK
      rcases snoc_cases T with rfl | ⟨T0, x, rfl⟩
      · refine awp_anyA true (by kernel_rfl) (by kernel_rfl) ?_
        simp only [autoK, kind0]
        repeat' (first | ((with_reducible refine aguard (fun hg => ?_) (fun hg => ?_)) <;> (try simp only [hg]) <;> (try simp only [beq_iff_eq, beq_eq_false_iff_ne, ne_eq, decide_eq_true_eq, decide_eq_false_iff_not, bne_iff_ne, bne_eq_false_iff_eq] at hg) <;> (try (first | simp only [eq_false hg, if_true, if_false] | simp only [eq_true hg, if_true, if_false])) <;> (try simp (disch := first | omega | simp) [wrap_i64, -aseqC, -anyC])) | (with_reducible refine aseq_step ?_; try simp (disch := first | omega | simp) [wrap_i64, -aseqC, -anyC]) | (with_reducible refine any_step' ?_; try simp (disch := first | omega | simp) [wrap_i64, -aseqC, -anyC]) | (with_reducible refine aseq_end ?_; try simp (disch := first | omega | simp) [wrap_i64, -aseqC, -anyC]) | (with_reducible refine any_end' ?_; try simp (disch := first | omega | simp) [wrap_i64, -aseqC, -anyC]) | ((first | with_reducible refine sideG ?_ ?_ | with_reducible refine sideG2 ?_ ?_ | with_reducible refine sideS ?_ ?_ | with_reducible refine sideS2 ?_ ?_ | with_reducible refine sideS3 ?_ ?_ | with_reducible refine sideA ?_ ?_ | with_reducible refine sideA2 ?_ ?_ | with_reducible refine sideA3 ?_ ?_); (first | omega | assumption | (simp; done))) | (refine awp_seq_k fun K hK => ?_) | (refine awp_regionC ?_) | (refine hK _ ?_; clear hK; clear K) | (clear hK; clear K; refine hK _ ?_; clear hK; clear K) | (clear hK; clear K; clear hK; clear K; refine hK _ ?_; clear hK; clear K) | refine awp_block ?_ | (refine awp_condC ?_; simp (disch := first | omega | simp) [wrap_i64, -aseqC, -anyC]) | (refine awp_exit ?_; try simp (disch := first | omega | simp) [wrap_i64, -aseqC, -anyC]) | (refine awp_skip ?_; try simp (disch := first | omega | simp) [wrap_i64, -aseqC, -anyC]) | (refine awp_ret ?_; try simp (disch := first | omega | simp) [wrap_i64, -aseqC, -anyC]))
        exact tail _ (leC_le hcl (by simp))
      · have hT0 : T0.length ≤ 3000 := by simp at hT; omega
        rw [isEnd_snoc] at hE
        have hk : ¬ x.1.kind = 5 := by simpa using hE
        have hk2 : ¬ (x.1.kind : Int) = 5 := by omega
        refine awp_anyA true (by kernel_rfl) (by kernel_rfl) ?_
        simp only [autoK, kind0]
        repeat' (first | ((with_reducible refine aguard (fun hg => ?_) (fun hg => ?_)) <;> (try simp only [hg]) <;> (try simp only [beq_iff_eq, beq_eq_false_iff_ne, ne_eq, decide_eq_true_eq, decide_eq_false_iff_not, bne_iff_ne, bne_eq_false_iff_eq] at hg) <;> (try (first | simp only [eq_false hg, if_true, if_false] | simp only [eq_true hg, if_true, if_false])) <;> (try simp (disch := first | omega | simp) [wrap_i64, -aseqC, -anyC, tkAv, hk, hk2])) | (with_reducible refine aseq_step ?_; try simp (disch := first | omega | simp) [wrap_i64, -aseqC, -anyC, tkAv, hk, hk2]) | (with_reducible refine any_step' ?_; try simp (disch := first | omega | simp) [wrap_i64, -aseqC, -anyC, tkAv, hk, hk2]) | (with_reducible refine aseq_end ?_; try simp (disch := first | omega | simp) [wrap_i64, -aseqC, -anyC, tkAv, hk, hk2]) | (with_reducible refine any_end' ?_; try simp (disch := first | omega | simp) [wrap_i64, -aseqC, -anyC, tkAv, hk, hk2]) | ((first | with_reducible refine sideG ?_ ?_ | with_reducible refine sideG2 ?_ ?_ | with_reducible refine sideS ?_ ?_ | with_reducible refine sideS2 ?_ ?_ | with_reducible refine sideS3 ?_ ?_ | with_reducible refine sideA ?_ ?_ | with_reducible refine sideA2 ?_ ?_ | with_reducible refine sideA3 ?_ ?_); (first | omega | assumption | (simp; done))) | (refine awp_seq_k fun K hK => ?_) | (refine awp_regionC ?_) | (refine hK _ ?_; clear hK; clear K) | (clear hK; clear K; refine hK _ ?_; clear hK; clear K) | (clear hK; clear K; clear hK; clear K; refine hK _ ?_; clear hK; clear K) | refine awp_block ?_ | (refine awp_condC ?_; simp (disch := first | omega | simp) [wrap_i64, -aseqC, -anyC, tkAv, hk, hk2]) | (refine awp_exit ?_; try simp (disch := first | omega | simp) [wrap_i64, -aseqC, -anyC, tkAv, hk, hk2]) | (refine awp_skip ?_; try simp (disch := first | omega | simp) [wrap_i64, -aseqC, -anyC, tkAv, hk, hk2]) | (refine awp_ret ?_; try simp (disch := first | omega | simp) [wrap_i64, -aseqC, -anyC, tkAv, hk, hk2]))
        all_goals first | (exfalso; omega) | exact tail _ (leC_le hcl (by simp [tkAv, hk2]))
    · rcases snoc_cases T with rfl | ⟨T0, x, rfl⟩
      · cases hE
      · have hT0 : T0.length ≤ 3000 := by simp at hT; omega
        rw [isEnd_snoc] at hE
        have hk : x.1.kind = 5 := by simpa using hE
        subst hinv
        repeat' (first | ((with_reducible refine aguard (fun hg => ?_) (fun hg => ?_)) <;> (try simp only [hg]) <;> (try simp only [beq_iff_eq, beq_eq_false_iff_ne, ne_eq, decide_eq_true_eq, decide_eq_false_iff_not, bne_iff_ne, bne_eq_false_iff_eq] at hg) <;> (try (first | simp only [eq_false hg, if_true, if_false] | simp only [eq_true hg, if_true, if_false])) <;> (try simp (disch := first | omega | simp) [wrap_i64, -aseqC, -anyC])) | (with_reducible refine aseq_step ?_; try simp (disch := first | omega | simp) [wrap_i64, -aseqC, -anyC]) | (with_reducible refine any_step' ?_; try simp (disch := first | omega | simp) [wrap_i64, -aseqC, -anyC]) | (with_reducible refine aseq_end ?_; try simp (disch := first | omega | simp) [wrap_i64, -aseqC, -anyC]) | (with_reducible refine any_end' ?_; try simp (disch := first | omega | simp) [wrap_i64, -aseqC, -anyC]) | ((first | with_reducible refine sideG ?_ ?_ | with_reducible refine sideG2 ?_ ?_ | with_reducible refine sideS ?_ ?_ | with_reducible refine sideS2 ?_ ?_ | with_reducible refine sideS3 ?_ ?_ | with_reducible refine sideA ?_ ?_ | with_reducible refine sideA2 ?_ ?_ | with_reducible refine sideA3 ?_ ?_); (first | omega | assumption | (simp; done))) | (refine awp_seq_k fun K hK => ?_) | (refine awp_regionC ?_) | (refine hK _ ?_; clear hK; clear K) | (clear hK; clear K; refine hK _ ?_; clear hK; clear K) | (clear hK; clear K; clear hK; clear K; refine hK _ ?_; clear hK; clear K) | refine awp_block ?_ | (refine awp_condC ?_; simp (disch := first | omega | simp) [wrap_i64, -aseqC, -anyC]) | (refine awp_exit ?_; try simp (disch := first | omega | simp) [wrap_i64, -aseqC, -anyC]) | (refine awp_skip ?_; try simp (disch := first | omega | simp) [wrap_i64, -aseqC, -anyC]) | (refine awp_ret ?_; try simp (disch := first | omega | simp) [wrap_i64, -aseqC, -anyC]))
        refine awp_anyA true (by kernel_rfl) (by kernel_rfl) ?_
        simp only [autoK, kind0]
        repeat' (first | ((with_reducible refine aguard (fun hg => ?_) (fun hg => ?_)) <;> (try simp only [hg]) <;> (try simp only [beq_iff_eq, beq_eq_false_iff_ne, ne_eq, decide_eq_true_eq, decide_eq_false_iff_not, bne_iff_ne, bne_eq_false_iff_eq] at hg) <;> (try (first | simp only [eq_false hg, if_true, if_false] | simp only [eq_true hg, if_true, if_false])) <;> (try simp (disch := first | omega | simp) [wrap_i64, -aseqC, -anyC, tkAv, hk])) | (with_reducible refine aseq_step ?_; try simp (disch := first | omega | simp) [wrap_i64, -aseqC, -anyC, tkAv, hk]) | (with_reducible refine any_step' ?_; try simp (disch := first | omega | simp) [wrap_i64, -aseqC, -anyC, tkAv, hk]) | (with_reducible refine aseq_end ?_; try simp (disch := first | omega | simp) [wrap_i64, -aseqC, -anyC, tkAv, hk]) | (with_reducible refine any_end' ?_; try simp (disch := first | omega | simp) [wrap_i64, -aseqC, -anyC, tkAv, hk]) | ((first | with_reducible refine sideG ?_ ?_ | with_reducible refine sideG2 ?_ ?_ | with_reducible refine sideS ?_ ?_ | with_reducible refine sideS2 ?_ ?_ | with_reducible refine sideS3 ?_ ?_ | with_reducible refine sideA ?_ ?_ | with_reducible refine sideA2 ?_ ?_ | with_reducible refine sideA3 ?_ ?_); (first | omega | assumption | (simp; done))) | (refine awp_seq_k fun K hK => ?_) | (refine awp_regionC ?_) | (refine awp_anyA true (by kernel_rfl) (by kernel_rfl) ?_) | (refine awp_anyA false (by kernel_rfl) (by kernel_rfl) ?_) | (refine hK _ ?_; clear hK; clear K) | (clear hK; clear K; refine hK _ ?_; clear hK; clear K) | (clear hK; clear K; clear hK; clear K; refine hK _ ?_; clear hK; clear K) | refine awp_block ?_ | (refine awp_condC ?_; simp (disch := first | omega | simp) [wrap_i64, -aseqC, -anyC, tkAv, hk]) | (refine awp_exit ?_; try simp (disch := first | omega | simp) [wrap_i64, -aseqC, -anyC, tkAv, hk]) | (refine awp_skip ?_; try simp (disch := first | omega | simp) [wrap_i64, -aseqC, -anyC, tkAv, hk]) | (refine awp_ret ?_; try simp (disch := first | omega | simp) [wrap_i64, -aseqC, -anyC, tkAv, hk]))
        all_goals first | (exfalso; omega) | skip
        show AV.tup [.sl ((T0 ++ [x]).map tkAv), .int 0, .int 0] = _
        rw [List.map_append]
        simp [tkAv, hk]
end Go.Proofs.YtkhmlicikbnmdaaDoor
