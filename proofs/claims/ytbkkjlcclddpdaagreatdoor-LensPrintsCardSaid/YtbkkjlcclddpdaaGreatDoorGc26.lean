/- Walk of the reference of chapter 02: Unquote. -/
import Derived.Test.YtbkkjlcclddpdaaGreatDoorGc25
set_option linter.unusedSimpArgs false
set_option linter.unusedVariables false
namespace Go.Proofs.YtbkkjlcclddpdaaGreatDoor
open Go.RowKit Go.Lib
set_option maxHeartbeats 4000000 in
theorem runquote_k (s : ByteArray) (hs : s.size ≤ 1000000) : Gives Tryz.prog 91 [.str s] (.tup [.str (qh ((unqP hxR s.data.toList).getD [])), .bool (unqP hxR s.data.toList).isSome]) := by
  obtain ⟨D, hD⟩ : ∃ D, D = decM hxR (mid s.data.toList) := ⟨_, rfl⟩
  have hu : unqP hxR s.data.toList = if qP D = s.data.toList then some D else none := by rw [hD]; rfl
  rw [hu]
  clear hu
  obtain ⟨R, hR⟩ : ∃ R, R = if qP D = s.data.toList then some D else none := ⟨_, rfl⟩
  rw [← hR]
  have hss : s.data.toList.length = s.size := by rw [← Lib.size_eq]
  obtain ⟨m, hm⟩ : ∃ m, m = s.data.toList.take (s.size - 1) := ⟨_, rfl⟩
  have hml : m.length = s.size - 1 := by rw [hm, List.length_take]; omega
  have hmid : mid s.data.toList = m.drop 1 := by unfold mid; rw [hss, hm]
  have hDl : D.length ≤ s.size := by
    rw [hD]
    have := decM_len hxR _ (mid s.data.toList) (Nat.le_refl _)
    rw [hmid, List.length_drop] at this
    rw [hmid]; omega
  refine qj Tryz.func91 Tryz.ntmps91 fun σ n0 hcl hft => ?_
  repeat' (first | ((first | ((with_reducible refine qf (fun hg => ?_) (fun hg => ?_)) <;> (try simp only [hg]) <;> (try simp only [gS] at hg) <;> (try (first | simp only [eq_false hg, gI] | simp only [eq_true hg, gI]))) | refine Stp.m ?_) <;> (try simp (disch := first | omega | simp) [qd, -qg, -qm])) | refine sideA ?_ | refine qc fun K hK => ?_ | refine qa ?_ | refine qe ?_ | refine qb ?_ | (refine hK _ ?_; clear hK K) | clear hK K)
  refine awp_adoptR 4 5 1 (by simp) ?_
  have hds : s.data.size = s.size := rfl
  have e92 : (92 : UInt8).toNat = 92 := rfl
  have e110 : (110 : UInt8).toNat = 110 := rfl
  have e120 : (120 : UInt8).toNat = 120 := rfl
  have nn : ∀ a k : UInt8, a ≠ k → ¬ (a.toNat : Int) = k.toNat := fun a k h h2 => h (UInt8.toNat_inj.1 (by omega))
  have hmg : ∀ (j : Nat) (h : j < m.length) (h2 : j < s.data.size), m[j] = s.data[j] := fun j h h2 => by
    subst hm
    rw [List.getElem_take, Array.getElem_toList]
  refine qw hcl (fun x : Nat × List UInt8 => [(0, .str s), (4, .gs n0 (x.2.map AV.byte)), (5, .int x.1)]) (fun x => [.tail x.2.length 5 1])
    (fun x => 1 ≤ x.1 ∧ x.2 ++ decM hxR (m.drop x.1) = D) (fun x => s.size - x.1) (1, []) ⟨Nat.le_refl _, by rw [hD, hmid]; rfl⟩ (by simp) fun ⟨i, acc⟩ ⟨hi, hin⟩ => ?_
  dsimp only at hi hin ⊢
  have hal : acc.length ≤ 1000000 := by have := congrArg List.length hin; rw [List.length_append] at this; omega
  by_cases hlt : i + 1 < s.size
  · have hlt' : (i : Int) < (s.size : Int) - 1 := by omega
    have hlt1 : i < s.size := by omega
    have hlt3 : i < s.data.size := by omega
    have him : i < m.length := by omega
    have q1 : (0 : Int) ≤ (i : Int) + 1 := by omega
    have q2 : (0 : Int) ≤ (i : Int) + 1 + 1 := by omega
    have q3 : (0 : Int) ≤ (i : Int) + 1 + 1 + 1 := by omega
    have t2 : ((i : Int) + 1 + 1).toNat = i + 2 := by omega
    have t3 : ((i : Int) + 1 + 1 + 1).toNat = i + 3 := by omega
    have hgm := hmg i him hlt3
    by_cases h92 : s.data[i] = 92
    · have g92 : s.data[i].toNat = 92 := by rw [h92]; rfl
      by_cases hl : i + 2 < s.size
      · have hl' : (i : Int) + 1 < (s.size : Int) - 1 := by omega
        have hl1 : i + 1 < s.size := by omega
        have hl1' : (i : Int) + 1 < s.size := by omega
        have hl3 : i + 1 < s.data.size := by omega
        have him1 : i + 1 < m.length := by omega
        have hgm1 := hmg (i + 1) him1 hl3
        by_cases h110 : s.data[i + 1] = 110
        · have g110 : s.data[i + 1].toNat = 110 := by rw [h110]; rfl
          rw [decM_n him1 (by rw [hgm, h92]) (by rw [hgm1, h110])] at hin
          repeat' (first | ((first | ((with_reducible refine qf (fun hg => ?_) (fun hg => ?_)) <;> (try simp only [hg]) <;> (try simp only [gS] at hg) <;> (try (first | simp only [eq_false hg, gI] | simp only [eq_true hg, gI]))) | refine Stp.m ?_) <;> (try simp (disch := first | omega | simp) [qd, -qg, -qm, hlt', hlt1, hlt3, g92, hl', hl1, hl1', hl3, g110, q1])) | refine sideA ?_ | refine qc fun K hK => ?_ | refine qa ?_ | refine qe ?_ | refine qb ?_ | (refine hK _ ?_; clear hK K) | clear hK K)
          all_goals exact ⟨i + 2, acc ++ [10], ⟨by omega, by rw [← hin]; simp⟩, by omega, by (first | omega | (simp [AV.byte] <;> omega)), by (first | omega | (simp [AV.byte] <;> omega)), by (first | omega | (simp [AV.byte] <;> omega))⟩
        · have g110 : ¬ (s.data[i + 1].toNat : Int) = 110 := nn _ _ h110
          by_cases h120 : s.data[i + 1] = 120 ∧ i + 4 < s.size
          · obtain ⟨h120, hl4⟩ := h120
            have g120 : s.data[i + 1].toNat = 120 := by rw [h120]; rfl
            have hl4' : (i : Int) + 1 + 1 + 1 < (s.size : Int) - 1 := by omega
            have h2a : i + 2 < s.size := by omega
            have h2b : i + 2 < s.data.size := by omega
            have h3a : i + 3 < s.size := by omega
            have h3b : i + 3 < s.data.size := by omega
            have h2c : (i : Int) + 1 + 1 < s.size := by omega
            have h3c : (i : Int) + 1 + 1 + 1 < s.size := by omega
            have c1 := rdigit_g s.data[i + 2]
            have c2 := rdigit_g s.data[i + 3]
            have d1 := digP_lt s.data[i + 2] 16 0 (by omega)
            have d2 := digP_lt s.data[i + 3] 16 0 (by omega)
            have w1 : IntKind.u8.wrap (((digP s.data[i + 2] 16 0).toNat : Int) * 16) = ((digP s.data[i + 2] 16 0).toNat : Int) * 16 := wrap_u8 (by omega) (by omega)
            have w2 : IntKind.u8.wrap (((digP s.data[i + 2] 16 0).toNat : Int) * 16 + ((digP s.data[i + 3] 16 0).toNat : Int)) = ((hxR s.data[i + 2] s.data[i + 3]).toNat : Int) := by
              rw [wrap_u8 (by omega) (by omega)]
              unfold hxR
              rw [UInt8.toNat_ofNat']
              omega
            rw [decM_x (by omega) (by rw [hgm, h92]) (by rw [hgm1, h120]), hmg (i + 2) (by omega) h2b, hmg (i + 3) (by omega) h3b] at hin
            repeat' (first | ((first | ((with_reducible refine qf (fun hg => ?_) (fun hg => ?_)) <;> (try simp only [hg]) <;> (try simp only [gS] at hg) <;> (try (first | simp only [eq_false hg, gI] | simp only [eq_true hg, gI]))) | refine Stp.m ?_ | refine ql ?_ | refine agH ?_) <;> (try simp (disch := first | omega | simp) [qd, -qg, -qm, hlt', hlt1, hlt3, g92, hl', hl1, hl1', hl3, g110, g120, hl4', h2a, h2b, h3a, h3b, h2c, h3c, q1, q2, q3, t2, t3, w1, w2])) | refine sideA ?_ | refine qc fun K hK => ?_ | refine qa ?_ | refine qe ?_ | refine qb ?_ | (refine hK _ ?_; clear hK K) | clear hK K)
            all_goals exact ⟨i + 4, acc ++ [hxR s.data[i + 2] s.data[i + 3]], ⟨by omega, by rw [← hin]; simp⟩, by omega, by (first | omega | (simp [AV.byte] <;> omega)), by (first | omega | (simp [AV.byte] <;> omega)), by (first | omega | (simp [AV.byte] <;> omega))⟩
          · have hn : s.data[i + 1] ≠ 120 ∨ m.length ≤ i + 3 := by
              by_cases h : s.data[i + 1] = 120
              · exact .inr (by have : ¬ i + 4 < s.size := fun h2 => h120 ⟨h, h2⟩; omega)
              · exact .inl h
            rw [decM_esc him1 (by rw [hgm, h92]) (by rw [hgm1]; exact h110) (by rw [hgm1]; exact hn), hgm1] at hin
            by_cases h12 : s.data[i + 1] = 120
            · have g120 : s.data[i + 1].toNat = 120 := by rw [h12]; rfl
              have hl4' : ¬ (i : Int) + 1 + 1 + 1 < (s.size : Int) - 1 := fun h2 => h120 ⟨h12, by omega⟩
              repeat' (first | ((first | ((with_reducible refine qf (fun hg => ?_) (fun hg => ?_)) <;> (try simp only [hg]) <;> (try simp only [gS] at hg) <;> (try (first | simp only [eq_false hg, gI] | simp only [eq_true hg, gI]))) | refine Stp.m ?_) <;> (try simp (disch := first | omega | simp) [qd, -qg, -qm, hlt', hlt1, hlt3, g92, hl', hl1, hl1', hl3, g110, g120, hl4', q1])) | refine sideA ?_ | refine qc fun K hK => ?_ | refine qa ?_ | refine qe ?_ | refine qb ?_ | (refine hK _ ?_; clear hK K) | clear hK K)
              all_goals exact ⟨i + 2, acc ++ [s.data[i + 1]], ⟨by omega, by rw [← hin]; simp⟩, by omega, by (first | omega | (simp [AV.byte] <;> omega)), by (first | omega | (simp [AV.byte, g120] <;> omega)), by (first | omega | (simp [AV.byte] <;> omega))⟩
            · have g120 : ¬ (s.data[i + 1].toNat : Int) = 120 := nn _ _ h12
              repeat' (first | ((first | ((with_reducible refine qf (fun hg => ?_) (fun hg => ?_)) <;> (try simp only [hg]) <;> (try simp only [gS] at hg) <;> (try (first | simp only [eq_false hg, gI] | simp only [eq_true hg, gI]))) | refine Stp.m ?_) <;> (try simp (disch := first | omega | simp) [qd, -qg, -qm, hlt', hlt1, hlt3, g92, hl', hl1, hl1', hl3, g110, g120, q1])) | refine sideA ?_ | refine qc fun K hK => ?_ | refine qa ?_ | refine qe ?_ | refine qb ?_ | (refine hK _ ?_; clear hK K) | clear hK K)
              all_goals first | exact absurd (by assumption) g120 | (exfalso; omega) | exact ⟨i + 2, acc ++ [s.data[i + 1]], ⟨by omega, by rw [← hin]; simp⟩, by omega, by (first | omega | (simp [AV.byte] <;> omega)), by (first | omega | (simp [AV.byte] <;> omega)), by (first | omega | (simp [AV.byte] <;> omega))⟩
      · have hl' : ¬ (i : Int) + 1 < (s.size : Int) - 1 := by omega
        rw [decM_plain him (.inr (by omega)), hgm] at hin
        repeat' (first | ((first | ((with_reducible refine qf (fun hg => ?_) (fun hg => ?_)) <;> (try simp only [hg]) <;> (try simp only [gS] at hg) <;> (try (first | simp only [eq_false hg, gI] | simp only [eq_true hg, gI]))) | refine Stp.m ?_) <;> (try simp (disch := first | omega | simp) [qd, -qg, -qm, hlt', hlt1, hlt3, g92, hl'])) | refine sideA ?_ | refine qc fun K hK => ?_ | refine qa ?_ | refine qe ?_ | refine qb ?_ | (refine hK _ ?_; clear hK K) | clear hK K)
        all_goals exact ⟨i + 1, acc ++ [s.data[i]], ⟨by omega, by rw [← hin]; simp⟩, by omega, by (first | omega | (simp [AV.byte] <;> omega)), by (first | omega | (simp [AV.byte, g92] <;> omega)), by (first | omega | (simp [AV.byte] <;> omega))⟩
    · have g92 : ¬ (s.data[i].toNat : Int) = 92 := nn _ _ h92
      rw [decM_plain him (.inl (by rw [hgm]; exact h92)), hgm] at hin
      repeat' (first | ((first | ((with_reducible refine qf (fun hg => ?_) (fun hg => ?_)) <;> (try simp only [hg]) <;> (try simp only [gS] at hg) <;> (try (first | simp only [eq_false hg, gI] | simp only [eq_true hg, gI]))) | refine Stp.m ?_) <;> (try simp (disch := first | omega | simp) [qd, -qg, -qm, hlt', hlt1, hlt3, g92])) | refine sideA ?_ | refine qc fun K hK => ?_ | refine qa ?_ | refine qe ?_ | refine qb ?_ | (refine hK _ ?_; clear hK K) | clear hK K)
      all_goals first | exact absurd (by assumption) g92 | exact ⟨i + 1, acc ++ [s.data[i]], ⟨by omega, by rw [← hin]; simp⟩, by omega, by (first | omega | (simp [AV.byte] <;> omega)), by (first | omega | (simp [AV.byte] <;> omega)), by (first | omega | (simp [AV.byte] <;> omega))⟩
  · have hlt' : ¬ (i : Int) < (s.size : Int) - 1 := by omega
    rw [List.drop_of_length_le (by omega), dec_nil, List.append_nil] at hin
    have hq := rquote_g (qh acc) (by rw [qk]; omega)
    rw [qev] at hq
    have hb : AV.isBs (acc.map AV.byte) := AV.isBs_bytes _
    by_cases he : qP D = s.data.toList
    · rw [if_pos he, ← hin] at hR
      have he2 : qP acc = s.toList := by rw [hin, ByteArray.toList_eq]; exact he
      repeat' (first | ((first | ((with_reducible refine qf (fun hg => ?_) (fun hg => ?_)) <;> (try simp only [hg]) <;> (try simp only [gS] at hg) <;> (try (first | simp only [eq_false hg, gI] | simp only [eq_true hg, gI]))) | refine Stp.m ?_ | refine ql ?_ | refine agH ?_) <;> (try simp (disch := first | omega | simp) [qd, -qg, -qm, hlt', he2, hb, tb_map])) | refine sideA ?_ | refine qc fun K hK => ?_ | refine qa ?_ | refine qe ?_ | refine qb ?_ | (refine hK _ ?_; clear hK K) | clear hK K)
      all_goals first | exact absurd ‹_› he2 | (rw [hR]; exact ⟨rfl, rfl⟩)
    · rw [if_neg he] at hR
      have he2 : ¬ qP acc = s.toList := by rw [hin, ByteArray.toList_eq]; exact he
      repeat' (first | ((first | ((with_reducible refine qf (fun hg => ?_) (fun hg => ?_)) <;> (try simp only [hg]) <;> (try simp only [gS] at hg) <;> (try (first | simp only [eq_false hg, gI] | simp only [eq_true hg, gI]))) | refine Stp.m ?_ | refine ql ?_ | refine agH ?_) <;> (try simp (disch := first | omega | simp) [qd, -qg, -qm, hlt', he2, hb, tb_map])) | refine sideA ?_ | refine qc fun K hK => ?_ | refine qa ?_ | refine qe ?_ | refine qb ?_ | (refine hK _ ?_; clear hK K) | clear hK K)
      all_goals first | exact absurd ‹_› he2 | (rw [hR]; exact ⟨rfl, rfl⟩)
theorem runquote_g (s : ByteArray) (hs : s.size ≤ 1000000) : Gives Tryz.prog 91 [.str s] (.tup [.str (qh ((unqP hxP s.data.toList).getD [])), .bool (unqP hxP s.data.toList).isSome]) := by
  rw [unq_eq hxP_ok hxR_ok]
  exact runquote_k s hs
end Go.Proofs.YtbkkjlcclddpdaaGreatDoor
