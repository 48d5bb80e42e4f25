/- Walk: what takes an operator. -/
import Derived.Test.YtkhmlicikbnmdaaDoorGa20
set_option linter.unusedSimpArgs false
set_option linter.unusedVariables false
namespace Go.Proofs.YtkhmlicikbnmdaaDoor
open Go.RowKit Go.Lib

/-- the operators, in the order in which they are tried -/
def opsL : List (List UInt8) := [[33, 61], [60, 61], [62, 61], [43, 43], [61], [60], [62], [43], [45], [42], [47], [37], [40], [41], [44], [46], [58], [63]]
theorem oper_find : ∀ l : List UInt8, operI l = match opsL.find? (fun p => p.isPrefixOf l) with | some p => p.length | none => 0
  | [] => rfl
  | [c] => by
    by_cases h : c ∈ ops1
    · have : ∀ c ∈ ops1, operI [c] = match opsL.find? (fun p => p.isPrefixOf [c]) with | some p => p.length | none => 0 := by decide
      exact this c h
    · have h' := h
      simp only [ops1, List.mem_cons, List.not_mem_nil, or_false, not_or] at h'
      obtain ⟨g1, g2, g3, g4, g5, g6, g7, g8, g9, g10, g11, g12, g13, g14⟩ := h'
      have nb : ∀ k : UInt8, ¬ c = k → (k == c) = false := fun k hk => by simpa using fun e : k = c => hk e.symm
      simp [operI, h, opsL, List.isPrefixOf, nb _ g1, nb _ g2, nb _ g3, nb _ g4, nb _ g5, nb _ g6, nb _ g7, nb _ g8, nb _ g9, nb _ g10, nb _ g11, nb _ g12, nb _ g13, nb _ g14]
  | c :: d :: r => by
    have e1 : ∀ p : List UInt8, p.length ≤ 2 → p.isPrefixOf (c :: d :: r) = p.isPrefixOf [c, d] := fun p hp => by
      match p, hp with
      | [], _ => rfl
      | [a], _ => rfl
      | [a, b], _ => rfl
    have e2 : opsL.find? (fun p => p.isPrefixOf (c :: d :: r)) = opsL.find? (fun p => p.isPrefixOf [c, d]) := by
      simp only [opsL, List.find?_cons, List.find?_nil]
      simp only [e1 _ (show ([33, 61] : List UInt8).length ≤ 2 by decide), List.isPrefixOf]
    have e3 : operI (c :: d :: r) = operI [c, d] := by rw [operI, operI]; rfl
    rw [e2, e3]
    by_cases hd : d = 61 ∨ d = 43
    · by_cases h : c ∈ 33 :: ops1
      · have : ∀ d ∈ ([61, 43] : List UInt8), ∀ c ∈ 33 :: ops1, operI [c, d] = match opsL.find? (fun p => p.isPrefixOf [c, d]) with | some p => p.length | none => 0 := by decide
        exact this d (by simpa using hd) c h
      · have h' := h
        simp only [ops1, List.mem_cons, List.not_mem_nil, or_false, not_or] at h'
        obtain ⟨g0, g1, g2, g3, g4, g5, g6, g7, g8, g9, g10, g11, g12, g13, g14⟩ := h'
        have h2 : c ∉ ops1 := fun hh => h (List.mem_cons_of_mem _ hh)
        have nb : ∀ k : UInt8, ¬ c = k → (k == c) = false := fun k hk => by simpa using fun e : k = c => hk e.symm
        simp [operI, h2, g0, g2, g3, g4, opsL, List.isPrefixOf, nb _ g0, nb _ g1, nb _ g2, nb _ g3, nb _ g4, nb _ g5, nb _ g6, nb _ g7, nb _ g8, nb _ g9, nb _ g10, nb _ g11, nb _ g12, nb _ g13, nb _ g14]
    · have nd : ∀ k : UInt8, ¬ d = k → (k == d) = false := fun k hk => by simpa using fun e : k = d => hk e.symm
      have n61 := nd 61 fun e => hd (.inl e)
      have n43 := nd 43 fun e => hd (.inr e)
      have m61 : ¬ d = 61 := fun e => hd (.inl e)
      have m43 : ¬ d = 43 := fun e => hd (.inr e)
      have nb : ∀ k : UInt8, ¬ c = k → (k == c) = false := fun k hk => by simpa using fun e : k = c => hk e.symm
      by_cases h : c ∈ ops1
      · simp only [ops1, List.mem_cons, List.not_mem_nil, or_false] at h
        rcases h with rfl | rfl | rfl | rfl | rfl | rfl | rfl | rfl | rfl | rfl | rfl | rfl | rfl | rfl <;> simp [operI, ops1, opsL, List.isPrefixOf, n61, n43, m61, m43]
      · have h' := h
        simp only [ops1, List.mem_cons, List.not_mem_nil, or_false, not_or] at h'
        obtain ⟨g1, g2, g3, g4, g5, g6, g7, g8, g9, g10, g11, g12, g13, g14⟩ := h'
        simp [operI, h, m61, m43, n61, n43, opsL, List.isPrefixOf, nb _ g1, nb _ g2, nb _ g3, nb _ g4, nb _ g5, nb _ g6, nb _ g7, nb _ g8, nb _ g9, nb _ g10, nb _ g11, nb _ g12, nb _ g13, nb _ g14]
theorem find_hit {l : List UInt8} {j : Nat} (hj : j < opsL.length) (hn : ∀ i (h : i < opsL.length), i < j → opsL[i].isPrefixOf l = false) (hp : opsL[j].isPrefixOf l = true) : operI l = opsL[j].length ∧ l.take (operI l) = opsL[j] := by
  have e : opsL.find? (fun p => p.isPrefixOf l) = some opsL[j] := by
    rw [List.find?_eq_some_iff_getElem]
    exact ⟨hp, j, hj, rfl, fun i hi => by simpa using hn i (by omega) hi⟩
  have h1 : operI l = opsL[j].length := by rw [oper_find, e]
  refine ⟨h1, ?_⟩
  rw [h1]
  obtain ⟨t, ht⟩ := List.isPrefixOf_iff_prefix.1 hp
  rw [← ht, List.take_left']
  rfl
theorem find_miss {l : List UInt8} (hn : ∀ i (h : i < opsL.length), opsL[i].isPrefixOf l = false) : operI l = 0 := by
  have e : opsL.find? (fun p => p.isPrefixOf l) = none := by
    rw [List.find?_eq_none]
    intro x hx
    obtain ⟨i, hi, rfl⟩ := List.mem_iff_getElem.1 hx
    rw [hn i hi]; simp
  rw [oper_find, e]
theorem hasPrefix_g (s p : ByteArray) : Gives Tryd.prog 105 [.str s, .str p] (.bool (p.data.toList.isPrefixOf s.data.toList)) :=
  gives_ofS fun X vals hS ha => by
    obtain ⟨v0, vs0, rfl, h0, v1, vs1, rfl, h1, h2⟩ := ha
    have h2' : vs1 = [] := h2
    subst h2'
    obtain rfl := arg_vv h0
    obtain rfl := arg_vv h1
    refine (Tryd.strings_HasPrefix s p X.w).mono ?_
    rintro e w' ⟨rfl, rfl⟩
    exact ⟨Ext.refl _, _, rfl, RR.v.2 rfl⟩
section
variable {σ : Nat → AB} {r r' : Nat} {src : ByteArray} {a line : Nat} {L : List (Tk × Nat)}
set_option maxHeartbeats 2000000 in
theorem operator_g (h : Scn σ r r' src a line L) (hl : L.length ≤ 5000) (hs : src.size ≤ 1000000) (ha : a < src.size) (hp : partC src.data[a] = false) (h34 : src.data[a] ≠ 34) (h10 : src.data[a] ≠ 10) :
    AC Tryd.prog 80 [.ptr r 0] σ fun z τ => z = takeZ (tokP (src.data.toList.drop a)) ∧ τ = takeT σ r r' src a line L (tokP (src.data.toList.drop a)) := by
  have hsz : src.data.toList.length = src.size := by rw [← Lib.size_eq]
  have hd0 : src.data.toList.drop a = src.data[a] :: src.data.toList.drop (a + 1) := by rw [List.drop_eq_getElem_cons (by omega), Array.getElem_toList]
  obtain ⟨D, hD⟩ : ∃ D, D = src.data.toList.drop a := ⟨_, rfl⟩
  obtain ⟨X, hX⟩ : ∃ X, X = tokP (src.data.toList.drop a) := ⟨_, rfl⟩
  rw [← hX]
  have hx : X = if operI D = 0 then .error 11 else .ok (⟨3, D.take (operI D), 0⟩, operI D) := by
    rw [hX, hD, hd0, tokP, if_neg (by rw [hp]; simp), if_neg h34, if_neg h10]
  have hDl : D.length = src.size - a := by rw [hD, List.length_drop, hsz]
  clear hX
  refine acT_of_awp Tryd.func80 Tryd.ntmps80 rfl rfl (by decide) rfl (takeZ_cl X) (takeT_fin h X) fun n0 hfin hcl hft => ?_
  obtain ⟨hr, hr'⟩ := h.lt hfin
  have h1 := h.cells
  have h2 := h.row
  unfold scnC at h1
  have hne := h.ne
  have hne' : ¬ r' = r := fun e => hne e.symm
  have hL : ∀ (τ : Nat → AB) (L : List AB), loc τ n0 L r = τ r := fun τ L => loc_lt _ _ _ _ hr
  have hL' : ∀ (τ : Nat → AB) (L : List AB), loc τ n0 L r' = τ r' := fun τ L => loc_lt _ _ _ _ hr'
  have err : takeT σ r r' src a line L (.error 11) = σ := scnT_self h
  obtain ⟨O, hO⟩ : ∃ O : List ByteArray, O = opsL.map bytesA := ⟨_, rfl⟩
  have hOl : O.length = 18 := by rw [hO]; rfl
  have hOd : ∀ (j : Nat) (hj : j < O.length), O[j].data.toList = opsL[j]'(by rw [hO, List.length_map] at hj; exact hj) := fun j hj => by subst hO; simp
  repeat' (first | ((with_reducible refine aguard (fun hg => ?_) (fun hg => ?_)) <;> (try simp only [hg]) <;> (try simp only [beq_iff_eq, beq_eq_false_iff_ne, ne_eq, decide_eq_true_eq, decide_eq_false_iff_not, bne_iff_ne, bne_eq_false_iff_eq] at hg) <;> (try (first | simp only [eq_false hg, if_true, if_false] | simp only [eq_true hg, if_true, if_false])) <;> (try simp (disch := first | omega | simp) [wrap_i64, -aseqC, -anyC, hr, hr', h1, h2, hne, hne', hL, hL'])) | (with_reducible refine aseq_step ?_; try simp (disch := first | omega | simp) [wrap_i64, -aseqC, -anyC, hr, hr', h1, h2, hne, hne', hL, hL']) | (with_reducible refine any_step' ?_; try simp (disch := first | omega | simp) [wrap_i64, -aseqC, -anyC, hr, hr', h1, h2, hne, hne', hL, hL']) | (with_reducible refine aseq_end ?_; try simp (disch := first | omega | simp) [wrap_i64, -aseqC, -anyC, hr, hr', h1, h2, hne, hne', hL, hL']) | (with_reducible refine any_end' ?_; try simp (disch := first | omega | simp) [wrap_i64, -aseqC, -anyC, hr, hr', h1, h2, hne, hne', hL, hL']) | ((first | with_reducible refine sideG ?_ ?_ | with_reducible refine sideG2 ?_ ?_ | with_reducible refine sideS ?_ ?_ | with_reducible refine sideS2 ?_ ?_ | with_reducible refine sideS3 ?_ ?_ | with_reducible refine sideA ?_ ?_ | with_reducible refine sideA2 ?_ ?_ | with_reducible refine sideA3 ?_ ?_); (first | omega | assumption | (simp; done))) | (refine awp_seq_k fun K hK => ?_) | (refine awp_regionC ?_) | (refine hK _ ?_; clear hK; clear K) | (clear hK; clear K; refine hK _ ?_; clear hK; clear K) | (clear hK; clear K; clear hK; clear K; refine hK _ ?_; clear hK; clear K) | refine awp_block ?_ | (refine awp_condC ?_; simp (disch := first | omega | simp) [wrap_i64, -aseqC, -anyC, hr, hr', h1, h2, hne, hne', hL, hL']) | (refine awp_exit ?_; try simp (disch := first | omega | simp) [wrap_i64, -aseqC, -anyC, hr, hr', h1, h2, hne, hne', hL, hL']) | (refine awp_skip ?_; try simp (disch := first | omega | simp) [wrap_i64, -aseqC, -anyC, hr, hr', h1, h2, hne, hne', hL, hL']) | (refine awp_ret ?_; try simp (disch := first | omega | simp) [wrap_i64, -aseqC, -anyC, hr, hr', h1, h2, hne, hne', hL, hL']))
  refine awp_loopC hcl (fun j : Nat => [(0, .ptr r 0), (5, .sl (O.map AV.str)), (6, .int 18), (7, .int j)]) (fun _ => [])
    (fun j => j ≤ 18 ∧ ∀ i (hi : i < opsL.length), i < j → opsL[i].isPrefixOf D = false) (fun j => 18 - j) 0 ⟨by omega, fun i _ hi => by omega⟩ (by simp [hr, hO]; rfl) fun j ⟨hj, hin⟩ => ?_
  by_cases hlt : j < 18
  · have hlt2 : j < O.length := by omega
    have hlt3 : j < opsL.length := hlt
    have hod := hOd j hlt2
    have ex := extract_by src a src.size
    rw [List.take_of_length_le (by rw [List.length_drop]; omega), ← hD] at ex
    have hpg := hasPrefix_g (bytesA D) O[j]
    rw [hod, bytesA_data] at hpg
    have q0 : a ≤ src.size := by omega
    cases hpf : opsL[j].isPrefixOf D with
    | true =>
      rw [hpf] at hpg
      obtain ⟨f1, f2⟩ := find_hit hlt3 hin hpf
      have f3 : operI D ≠ 0 := by
        rw [f1]
        have : ∀ j (h : j < opsL.length), opsL[j].length ≠ 0 := by decide
        exact this j hlt3
      have f4 : operI D ≤ D.length := (oper_len f3).1
      have hos : O[j].size = operI D := by rw [Lib.size_eq, hod, f1]
      rw [if_neg f3, f2] at hx
      subst hx
      have hb : bytesA opsL[j] = O[j] := (ba_eq hod).symm
      have hlt4 : ¬ (18 : Int) ≤ j := by omega
      repeat' (first | ((with_reducible refine aguard (fun hg => ?_) (fun hg => ?_)) <;> (try simp only [hg]) <;> (try simp only [beq_iff_eq, beq_eq_false_iff_ne, ne_eq, decide_eq_true_eq, decide_eq_false_iff_not, bne_iff_ne, bne_eq_false_iff_eq] at hg) <;> (try (first | simp only [eq_false hg, if_true, if_false] | simp only [eq_true hg, if_true, if_false])) <;> (try simp (disch := first | omega | simp) [wrap_i64, -aseqC, -anyC, hr, hr', h1, h2, hne, hne', hL, hL', hlt, hlt2, q0])) | (with_reducible refine aseq_step ?_; try simp (disch := first | omega | simp) [wrap_i64, -aseqC, -anyC, hr, hr', h1, h2, hne, hne', hL, hL', hlt, hlt2, q0]) | (with_reducible refine any_step' ?_; try simp (disch := first | omega | simp) [wrap_i64, -aseqC, -anyC, hr, hr', h1, h2, hne, hne', hL, hL', hlt, hlt2, q0]) | (with_reducible refine aseq_end ?_; try simp (disch := first | omega | simp) [wrap_i64, -aseqC, -anyC, hr, hr', h1, h2, hne, hne', hL, hL', hlt, hlt2, q0]) | (with_reducible refine any_end' ?_; try simp (disch := first | omega | simp) [wrap_i64, -aseqC, -anyC, hr, hr', h1, h2, hne, hne', hL, hL', hlt, hlt2, q0]) | ((first | with_reducible refine sideG ?_ ?_ | with_reducible refine sideG2 ?_ ?_ | with_reducible refine sideS ?_ ?_ | with_reducible refine sideS2 ?_ ?_ | with_reducible refine sideS3 ?_ ?_ | with_reducible refine sideA ?_ ?_ | with_reducible refine sideA2 ?_ ?_ | with_reducible refine sideA3 ?_ ?_); (first | omega | assumption | (simp; done))) | (refine awp_seq_k fun K hK => ?_) | (refine awp_regionC ?_) | (refine hK _ ?_; clear hK; clear K) | (clear hK; clear K; refine hK _ ?_; clear hK; clear K) | (clear hK; clear K; clear hK; clear K; refine hK _ ?_; clear hK; clear K) | refine awp_block ?_ | (refine awp_condC ?_; simp (disch := first | omega | simp) [wrap_i64, -aseqC, -anyC, hr, hr', h1, h2, hne, hne', hL, hL', hlt, hlt2, q0]) | (refine awp_exit ?_; try simp (disch := first | omega | simp) [wrap_i64, -aseqC, -anyC, hr, hr', h1, h2, hne, hne', hL, hL', hlt, hlt2, q0]) | (refine awp_skip ?_; try simp (disch := first | omega | simp) [wrap_i64, -aseqC, -anyC, hr, hr', h1, h2, hne, hne', hL, hL', hlt, hlt2, q0]) | (refine awp_ret ?_; try simp (disch := first | omega | simp) [wrap_i64, -aseqC, -anyC, hr, hr', h1, h2, hne, hne', hL, hL', hlt, hlt2, q0]))
      all_goals first | (exfalso; omega) | skip
      refine awp_anyA false (by kernel_rfl) (by kernel_rfl) ?_
      simp only [autoK, kind0]
      repeat' (first | ((with_reducible refine aguard (fun hg => ?_) (fun hg => ?_)) <;> (try simp only [hg]) <;> (try simp only [beq_iff_eq, beq_eq_false_iff_ne, ne_eq, decide_eq_true_eq, decide_eq_false_iff_not, bne_iff_ne, bne_eq_false_iff_eq] at hg) <;> (try (first | simp only [eq_false hg, if_true, if_false] | simp only [eq_true hg, if_true, if_false])) <;> (try simp (disch := first | omega | simp) [wrap_i64, -aseqC, -anyC, hr, hr', h1, h2, hne, hne', hL, hL', hlt, hlt2, q0, ex])) | (with_reducible refine aseq_step ?_; try simp (disch := first | omega | simp) [wrap_i64, -aseqC, -anyC, hr, hr', h1, h2, hne, hne', hL, hL', hlt, hlt2, q0, ex]) | (with_reducible refine any_step' ?_; try simp (disch := first | omega | simp) [wrap_i64, -aseqC, -anyC, hr, hr', h1, h2, hne, hne', hL, hL', hlt, hlt2, q0, ex]) | (with_reducible refine aseq_end ?_; try simp (disch := first | omega | simp) [wrap_i64, -aseqC, -anyC, hr, hr', h1, h2, hne, hne', hL, hL', hlt, hlt2, q0, ex]) | (with_reducible refine any_end' ?_; try simp (disch := first | omega | simp) [wrap_i64, -aseqC, -anyC, hr, hr', h1, h2, hne, hne', hL, hL', hlt, hlt2, q0, ex]) | ((first | with_reducible refine sideG ?_ ?_ | with_reducible refine sideG2 ?_ ?_ | with_reducible refine sideS ?_ ?_ | with_reducible refine sideS2 ?_ ?_ | with_reducible refine sideS3 ?_ ?_ | with_reducible refine sideA ?_ ?_ | with_reducible refine sideA2 ?_ ?_ | with_reducible refine sideA3 ?_ ?_); (first | omega | assumption | (simp; done))) | (refine acall (hpg) ?_; try simp (disch := first | omega | simp) [wrap_i64, -aseqC, -anyC, hr, hr', h1, h2, hne, hne', hL, hL', hlt, hlt2, q0, ex]) | (refine agives (hpg) ?_; try simp (disch := first | omega | simp) [wrap_i64, -aseqC, -anyC, hr, hr', h1, h2, hne, hne', hL, hL', hlt, hlt2, q0, ex]) | (refine acallAt (hpg) ?_; try simp (disch := first | omega | simp) [wrap_i64, -aseqC, -anyC, hr, hr', h1, h2, hne, hne', hL, hL', hlt, hlt2, q0, ex]) | (refine awp_seq_k fun K hK => ?_) | (refine awp_regionC ?_) | (refine hK _ ?_; clear hK; clear K) | (clear hK; clear K; refine hK _ ?_; clear hK; clear K) | (clear hK; clear K; clear hK; clear K; refine hK _ ?_; clear hK; clear K) | refine awp_block ?_ | (refine awp_condC ?_; simp (disch := first | omega | simp) [wrap_i64, -aseqC, -anyC, hr, hr', h1, h2, hne, hne', hL, hL', hlt, hlt2, q0, ex]) | (refine awp_exit ?_; try simp (disch := first | omega | simp) [wrap_i64, -aseqC, -anyC, hr, hr', h1, h2, hne, hne', hL, hL', hlt, hlt2, q0, ex]) | (refine awp_skip ?_; try simp (disch := first | omega | simp) [wrap_i64, -aseqC, -anyC, hr, hr', h1, h2, hne, hne', hL, hL', hlt, hlt2, q0, ex]) | (refine awp_ret ?_; try simp (disch := first | omega | simp) [wrap_i64, -aseqC, -anyC, hr, hr', h1, h2, hne, hne', hL, hL', hlt, hlt2, q0, ex]))
      refine awp_anyQ [] r [.R, .R, .R, .R, .R, .M, .R, .R, .R, .R, .M, .R, .R, .A, .R, .R, .R, .N, .R, .R, .R, .R, .R, .W, .R, .R, .W] (by kernel_rfl) (by kernel_rfl) (by simp) ?_
      repeat' (first | ((with_reducible refine aguard (fun hg => ?_) (fun hg => ?_)) <;> (try simp only [hg]) <;> (try simp only [beq_iff_eq, beq_eq_false_iff_ne, ne_eq, decide_eq_true_eq, decide_eq_false_iff_not, bne_iff_ne, bne_eq_false_iff_eq] at hg) <;> (try (first | simp only [eq_false hg, if_true, if_false] | simp only [eq_true hg, if_true, if_false])) <;> (try simp (disch := first | omega | simp) [wrap_i64, -aseqC, -anyC, hr, hr', h1, h2, hne, hne', hL, hL', hlt, hlt2, q0])) | (with_reducible refine aseq_step ?_; try simp (disch := first | omega | simp) [wrap_i64, -aseqC, -anyC, hr, hr', h1, h2, hne, hne', hL, hL', hlt, hlt2, q0]) | (with_reducible refine any_step' ?_; try simp (disch := first | omega | simp) [wrap_i64, -aseqC, -anyC, hr, hr', h1, h2, hne, hne', hL, hL', hlt, hlt2, q0]) | (with_reducible refine aseq_end ?_; try simp (disch := first | omega | simp) [wrap_i64, -aseqC, -anyC, hr, hr', h1, h2, hne, hne', hL, hL', hlt, hlt2, q0]) | (with_reducible refine any_end' ?_; try simp (disch := first | omega | simp) [wrap_i64, -aseqC, -anyC, hr, hr', h1, h2, hne, hne', hL, hL', hlt, hlt2, q0]) | ((first | with_reducible refine sideG ?_ ?_ | with_reducible refine sideG2 ?_ ?_ | with_reducible refine sideS ?_ ?_ | with_reducible refine sideS2 ?_ ?_ | with_reducible refine sideS3 ?_ ?_ | with_reducible refine sideA ?_ ?_ | with_reducible refine sideA2 ?_ ?_ | with_reducible refine sideA3 ?_ ?_); (first | omega | assumption | (simp; done))) | (refine awp_seq_k fun K hK => ?_) | (refine awp_regionC ?_) | (refine hK _ ?_; clear hK; clear K) | (clear hK; clear K; refine hK _ ?_; clear hK; clear K) | (clear hK; clear K; clear hK; clear K; refine hK _ ?_; clear hK; clear K) | refine awp_block ?_ | (refine awp_condC ?_; simp (disch := first | omega | simp) [wrap_i64, -aseqC, -anyC, hr, hr', h1, h2, hne, hne', hL, hL', hlt, hlt2, q0]) | (refine awp_exit ?_; try simp (disch := first | omega | simp) [wrap_i64, -aseqC, -anyC, hr, hr', h1, h2, hne, hne', hL, hL', hlt, hlt2, q0]) | (refine awp_skip ?_; try simp (disch := first | omega | simp) [wrap_i64, -aseqC, -anyC, hr, hr', h1, h2, hne, hne', hL, hL', hlt, hlt2, q0]) | (refine awp_ret ?_; try simp (disch := first | omega | simp) [wrap_i64, -aseqC, -anyC, hr, hr', h1, h2, hne, hne', hL, hL', hlt, hlt2, q0]))
      refine ⟨?_, rfl⟩
      show _ = scnT σ r r' src (a + operI D) line (L ++ [(⟨3, opsL[j], 0⟩, line)])
      exact scnT_of hne' (by simp) (by rw [← tks_snoc]; unfold tkAv; rw [hb]; rfl) (by rw [hos]; omega) rfl
    | false =>
      rw [hpf] at hpg
      repeat' (first | ((with_reducible refine aguard (fun hg => ?_) (fun hg => ?_)) <;> (try simp only [hg]) <;> (try simp only [beq_iff_eq, beq_eq_false_iff_ne, ne_eq, decide_eq_true_eq, decide_eq_false_iff_not, bne_iff_ne, bne_eq_false_iff_eq] at hg) <;> (try (first | simp only [eq_false hg, if_true, if_false] | simp only [eq_true hg, if_true, if_false])) <;> (try simp (disch := first | omega | simp) [wrap_i64, -aseqC, -anyC, hr, hr', h1, h2, hne, hne', hL, hL', hlt, hlt2, q0, ex])) | (with_reducible refine aseq_step ?_; try simp (disch := first | omega | simp) [wrap_i64, -aseqC, -anyC, hr, hr', h1, h2, hne, hne', hL, hL', hlt, hlt2, q0, ex]) | (with_reducible refine any_step' ?_; try simp (disch := first | omega | simp) [wrap_i64, -aseqC, -anyC, hr, hr', h1, h2, hne, hne', hL, hL', hlt, hlt2, q0, ex]) | (with_reducible refine aseq_end ?_; try simp (disch := first | omega | simp) [wrap_i64, -aseqC, -anyC, hr, hr', h1, h2, hne, hne', hL, hL', hlt, hlt2, q0, ex]) | (with_reducible refine any_end' ?_; try simp (disch := first | omega | simp) [wrap_i64, -aseqC, -anyC, hr, hr', h1, h2, hne, hne', hL, hL', hlt, hlt2, q0, ex]) | ((first | with_reducible refine sideG ?_ ?_ | with_reducible refine sideG2 ?_ ?_ | with_reducible refine sideS ?_ ?_ | with_reducible refine sideS2 ?_ ?_ | with_reducible refine sideS3 ?_ ?_ | with_reducible refine sideA ?_ ?_ | with_reducible refine sideA2 ?_ ?_ | with_reducible refine sideA3 ?_ ?_); (first | omega | assumption | (simp; done))) | (refine acall (hpg) ?_; try simp (disch := first | omega | simp) [wrap_i64, -aseqC, -anyC, hr, hr', h1, h2, hne, hne', hL, hL', hlt, hlt2, q0, ex]) | (refine agives (hpg) ?_; try simp (disch := first | omega | simp) [wrap_i64, -aseqC, -anyC, hr, hr', h1, h2, hne, hne', hL, hL', hlt, hlt2, q0, ex]) | (refine acallAt (hpg) ?_; try simp (disch := first | omega | simp) [wrap_i64, -aseqC, -anyC, hr, hr', h1, h2, hne, hne', hL, hL', hlt, hlt2, q0, ex]) | (refine awp_seq_k fun K hK => ?_) | (refine awp_regionC ?_) | (refine awp_anyA true (by kernel_rfl) (by kernel_rfl) ?_) | (refine awp_anyA false (by kernel_rfl) (by kernel_rfl) ?_) | (refine hK _ ?_; clear hK; clear K) | (clear hK; clear K; refine hK _ ?_; clear hK; clear K) | (clear hK; clear K; clear hK; clear K; refine hK _ ?_; clear hK; clear K) | refine awp_block ?_ | (refine awp_condC ?_; simp (disch := first | omega | simp) [wrap_i64, -aseqC, -anyC, hr, hr', h1, h2, hne, hne', hL, hL', hlt, hlt2, q0, ex]) | (refine awp_exit ?_; try simp (disch := first | omega | simp) [wrap_i64, -aseqC, -anyC, hr, hr', h1, h2, hne, hne', hL, hL', hlt, hlt2, q0, ex]) | (refine awp_skip ?_; try simp (disch := first | omega | simp) [wrap_i64, -aseqC, -anyC, hr, hr', h1, h2, hne, hne', hL, hL', hlt, hlt2, q0, ex]) | (refine awp_ret ?_; try simp (disch := first | omega | simp) [wrap_i64, -aseqC, -anyC, hr, hr', h1, h2, hne, hne', hL, hL', hlt, hlt2, q0, ex]))
      all_goals first | (exfalso; omega) | skip
      refine ⟨j + 1, ⟨by omega, fun i hi hij => ?_⟩, by omega, by omega⟩
      by_cases e : i = j
      · subst e; exact hpf
      · exact hin i hi (by omega)
  · obtain rfl : j = 18 := by omega
    rw [if_pos (find_miss fun i hi => hin i hi hi)] at hx
    subst hx
    repeat' (first | ((with_reducible refine aguard (fun hg => ?_) (fun hg => ?_)) <;> (try simp only [hg]) <;> (try simp only [beq_iff_eq, beq_eq_false_iff_ne, ne_eq, decide_eq_true_eq, decide_eq_false_iff_not, bne_iff_ne, bne_eq_false_iff_eq] at hg) <;> (try (first | simp only [eq_false hg, if_true, if_false] | simp only [eq_true hg, if_true, if_false])) <;> (try simp (disch := first | omega | simp) [wrap_i64, -aseqC, -anyC, hr, hr', h1, h2, hne, hne', hL, hL', hlt])) | (with_reducible refine aseq_step ?_; try simp (disch := first | omega | simp) [wrap_i64, -aseqC, -anyC, hr, hr', h1, h2, hne, hne', hL, hL', hlt]) | (with_reducible refine any_step' ?_; try simp (disch := first | omega | simp) [wrap_i64, -aseqC, -anyC, hr, hr', h1, h2, hne, hne', hL, hL', hlt]) | (with_reducible refine aseq_end ?_; try simp (disch := first | omega | simp) [wrap_i64, -aseqC, -anyC, hr, hr', h1, h2, hne, hne', hL, hL', hlt]) | (with_reducible refine any_end' ?_; try simp (disch := first | omega | simp) [wrap_i64, -aseqC, -anyC, hr, hr', h1, h2, hne, hne', hL, hL', hlt]) | ((first | with_reducible refine sideG ?_ ?_ | with_reducible refine sideG2 ?_ ?_ | with_reducible refine sideS ?_ ?_ | with_reducible refine sideS2 ?_ ?_ | with_reducible refine sideS3 ?_ ?_ | with_reducible refine sideA ?_ ?_ | with_reducible refine sideA2 ?_ ?_ | with_reducible refine sideA3 ?_ ?_); (first | omega | assumption | (simp; done))) | (refine awp_seq_k fun K hK => ?_) | (refine awp_regionC ?_) | (refine awp_anyA true (by kernel_rfl) (by kernel_rfl) ?_) | (refine awp_anyA false (by kernel_rfl) (by kernel_rfl) ?_) | (refine hK _ ?_; clear hK; clear K) | (clear hK; clear K; refine hK _ ?_; clear hK; clear K) | (clear hK; clear K; clear hK; clear K; refine hK _ ?_; clear hK; clear K) | refine awp_block ?_ | (refine awp_condC ?_; simp (disch := first | omega | simp) [wrap_i64, -aseqC, -anyC, hr, hr', h1, h2, hne, hne', hL, hL', hlt]) | (refine awp_exit ?_; try simp (disch := first | omega | simp) [wrap_i64, -aseqC, -anyC, hr, hr', h1, h2, hne, hne', hL, hL', hlt]) | (refine awp_skip ?_; try simp (disch := first | omega | simp) [wrap_i64, -aseqC, -anyC, hr, hr', h1, h2, hne, hne', hL, hL', hlt]) | (refine awp_ret ?_; try simp (disch := first | omega | simp) [wrap_i64, -aseqC, -anyC, hr, hr', h1, h2, hne, hne', hL, hL', hlt]))
    all_goals exact ⟨err.symm, rfl⟩
end
end Go.Proofs.YtkhmlicikbnmdaaDoor
