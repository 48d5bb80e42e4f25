/- Walk: Unquote, of the program. -/
import Derived.Test.YtbkkjlcclddpdaaGreatDoorGd12
import Derived.Test.YtbkkjlcclddpdaaGreatDoorGd18
set_option linter.unusedSimpArgs false
set_option linter.unusedVariables false
namespace Go.Proofs.YtbkkjlcclddpdaaGreatDoor
open Go.RowKit Go.Lib
section
variable {hx : UInt8 → UInt8 → UInt8} {m : List UInt8} {i : Nat}
theorem decM_plain (hi : i < m.length) (h : m[i] ≠ 92 ∨ m.length ≤ i + 1) : decM hx (m.drop i) = m[i] :: decM hx (m.drop (i + 1)) := by
  rw [List.drop_eq_getElem_cons hi]
  by_cases h92 : m[i] = 92
  · have hl : m.length ≤ i + 1 := by
      rcases h with h | h
      · exact absurd h92 h
      · exact h
    rw [List.drop_of_length_le hl, dec_one, dec_nil]
  · exact dec_plain h92 _
theorem decM_n (hi : i + 1 < m.length) (h : m[i] = 92) (h2 : m[i + 1] = 110) : decM hx (m.drop i) = 10 :: decM hx (m.drop (i + 2)) := by
  rw [List.drop_eq_getElem_cons (by omega), List.drop_eq_getElem_cons hi, h, h2, dec_n]
theorem decM_x (hi : i + 3 < m.length) (h : m[i] = 92) (h2 : m[i + 1] = 120) : decM hx (m.drop i) = hx m[i + 2] m[i + 3] :: decM hx (m.drop (i + 4)) := by
  rw [List.drop_eq_getElem_cons (by omega), List.drop_eq_getElem_cons (i := i + 1) (by omega), List.drop_eq_getElem_cons (i := i + 2) (by omega), List.drop_eq_getElem_cons (i := i + 3) (by omega), h, h2, dec_x]
theorem decM_esc (hi : i + 1 < m.length) (h : m[i] = 92) (h2 : m[i + 1] ≠ 110) (h3 : m[i + 1] ≠ 120 ∨ m.length ≤ i + 3) : decM hx (m.drop i) = m[i + 1] :: decM hx (m.drop (i + 2)) := by
  rw [List.drop_eq_getElem_cons (by omega), List.drop_eq_getElem_cons hi, h, dec_esc h2]
  rcases h3 with h3 | h3
  · exact .inl h3
  · exact .inr (by rw [List.length_drop]; omega)
end
theorem decM_len (hx : UInt8 → UInt8 → UInt8) : ∀ (n : Nat) (l : List UInt8), l.length ≤ n → (decM hx l).length ≤ l.length := fun n => by
  induction n with
  | zero =>
    intro l h
    have : l = [] := List.eq_nil_of_length_eq_zero (by omega)
    subst this; rw [dec_nil]; exact Nat.le_refl _
  | succ n ih =>
    intro l h
    unfold decM
    split
    · rename_i r
      have := ih r (by simp at h; omega)
      simp; omega
    · rename_i a b r
      have := ih r (by simp at h; omega)
      simp; omega
    · rename_i d r _ _
      have := ih r (by simp at h; omega)
      simp; omega
    · rename_i c r _ _ _
      have := ih r (by simp at h; omega)
      simp; omega
    · simp
def hxZ (a b : Int) : Int := IntKind.u8.wrap (IntKind.i64.wrap (BitVec.ofInt IntKind.i64.bits (IntKind.i64.wrap (a * 2 ^ (min (4 : Int).toNat IntKind.i64.bits))) ||| BitVec.ofInt IntKind.i64.bits b).toNat)
def hxP (a b : UInt8) : UInt8 := UInt8.ofNat (hxZ (Lib.indexByte hexL a) (Lib.indexByte hexL b)).toNat
theorem hxP_toNat (a b : UInt8) : ((hxP a b).toNat : Int) = hxZ (Lib.indexByte hexL a) (Lib.indexByte hexL b) := by
  have h : ∀ n : Int, 0 ≤ IntKind.u8.wrap n ∧ IntKind.u8.wrap n ≤ 255 := fun n => by
    unfold IntKind.wrap
    simp (config := { decide := true }) only [IntKind.bits, IntKind.signed]
    simp
    omega
  obtain ⟨h1, h2⟩ := h (IntKind.i64.wrap (BitVec.ofInt IntKind.i64.bits (IntKind.i64.wrap (Lib.indexByte hexL a * 2 ^ (min (4 : Int).toNat IntKind.i64.bits))) ||| BitVec.ofInt IntKind.i64.bits (Lib.indexByte hexL b)).toNat)
  unfold hxP hxZ
  generalize IntKind.u8.wrap _ = z at h1 h2
  rw [UInt8.toNat_ofNat']
  omega
theorem hex_g (c : UInt8) : Gives Tryz.prog 77 [.str ⟨#[48, 49, 50, 51, 52, 53, 54, 55, 56, 57, 97, 98, 99, 100, 101, 102]⟩, .v (.int .u8 c.toNat)] (.int (Lib.indexByte hexL c)) := by
  have := indexByte_g ⟨#[48, 49, 50, 51, 52, 53, 54, 55, 56, 57, 97, 98, 99, 100, 101, 102]⟩ c.toNat
  have e : ((c.toNat : Int)).toNat.toUInt8 = c := by simp
  rw [e] at this
  exact this
theorem bytesA_size' (l : List UInt8) : (qk l).size = l.length := by rw [Lib.size_eq, bytesA_data]
set_option maxHeartbeats 4000000 in
theorem qz (s : ByteArray) (hs : s.size ≤ 1000000) : Gives Tryz.prog 81 [.str s] (.tup [.str (qk ((unqP hxP s.data.toList).getD [])), .bool (unqP hxP s.data.toList).isSome]) := by
  obtain ⟨D, hD⟩ : ∃ D, D = decM hxP (mid s.data.toList) := ⟨_, rfl⟩
  have hu : unqP hxP s.data.toList = if qP D = s.data.toList then some D else none := by rw [hD]; rfl
  rw [hu]
  clear hu
  obtain ⟨R, hR⟩ : ∃ R, R = if qP D = s.data.toList then some D else none := ⟨_, rfl⟩
  rw [← hR]
  have hss : s.data.toList.length = s.size := by rw [← Lib.size_eq]
  obtain ⟨m, hm⟩ : ∃ m, m = s.data.toList.take (s.size - 1) := ⟨_, rfl⟩
  have hml : m.length = s.size - 1 := by rw [hm, List.length_take]; omega
  have hmid : mid s.data.toList = m.drop 1 := by unfold mid; rw [hss, hm]
  have hDl : D.length ≤ s.size := by
    rw [hD]
    have := decM_len hxP _ (mid s.data.toList) (Nat.le_refl _)
    rw [hmid, List.length_drop] at this
    rw [hmid]; omega
  refine qh Tryz.func81 Tryz.ntmps81 fun σ n0 hcl hft => ?_
  repeat' (first | ((first | refine qbo 0 1 5 1 (by rfl) (by rfl) ?_ | ((with_reducible refine qf (fun hg => ?_) (fun hg => ?_)) <;> (try simp only [hg]) <;> (try simp only [gS] at hg) <;> (try (first | simp only [eq_false hg, gI] | simp only [eq_true hg, gI]))) | refine Stp.m ?_ | refine qcz (i := 0) (j := 1) _ (by rfl) (by rfl) (by first | rfl | (simp; done) | omega | (simp; omega)) (by first | (simp; done) | assumption) (by first | (simp; done) | assumption) (by first | omega | (simp; done) | (simp; omega)) ?_ | refine qbw (i := 0) (j := 1) _ (by rfl) (by rfl) (by first | rfl | (simp; done) | omega | (simp; omega)) (by first | (simp; done) | assumption) (by first | (simp; done) | assumption) (by first | omega | (simp; done) | (simp; omega)) ?_) <;> (try simp (disch := first | omega | simp) [qd, -qg, -ql])) | refine sideA ?_ | refine qc fun K hK => ?_ | refine qa ?_ | refine qe ?_ | refine qb ?_ | (refine hK _ ?_; clear hK K) | clear hK K)
  have hds : s.data.size = s.size := rfl
  have e92 : (92 : UInt8).toNat = 92 := rfl
  have e110 : (110 : UInt8).toNat = 110 := rfl
  have e120 : (120 : UInt8).toNat = 120 := rfl
  have nn : ∀ a k : UInt8, a ≠ k → ¬ (a.toNat : Int) = k.toNat := fun a k h h2 => h (UInt8.toNat_inj.1 (by omega))
  have hmg : ∀ (j : Nat) (h : j < m.length) (h2 : j < s.data.size), m[j] = s.data[j] := fun j h h2 => by
    subst hm
    rw [List.getElem_take, Array.getElem_toList]
  refine qt hcl (fun x : Nat × List UInt8 × AV => [(0, .str s), (4, .ptr n0 0), (5, .int x.1)]) (fun x => [.cells [x.2.2, .gs (n0 + 1) (x.2.1.map AV.byte)] 61, .tail x.2.1.length 5 1])
    (fun x => 1 ≤ x.1 ∧ x.2.1 ++ decM hxP (m.drop x.1) = D ∧ (x.2.2 = .v (.pointer none) ∨ x.2.2 = .ptr n0 0)) (fun x => s.size - x.1) (1, [], .v (.pointer none)) ⟨Nat.le_refl _, by rw [hD, hmid]; rfl, .inl rfl⟩ (by simp) fun ⟨i, acc, P⟩ ⟨hi, hin, hP⟩ => ?_
  dsimp only at hi hin hP ⊢
  have hal : acc.length ≤ 1000000 := by have := congrArg List.length hin; rw [List.length_append] at this; omega
  by_cases hlt : i + 1 < s.size
  · have hlt' : (i : Int) < (s.size : Int) - 1 := by omega
    have hlt1 : i < s.size := by omega
    have hlt3 : i < s.data.size := by omega
    have him : i < m.length := by omega
    have q1 : (0 : Int) ≤ (i : Int) + 1 := by omega
    have q2 : (0 : Int) ≤ (i : Int) + 1 + 1 := by omega
    have q3 : (0 : Int) ≤ (i : Int) + 1 + 2 := by omega
    have t2 : ((i : Int) + 1 + 1).toNat = i + 2 := by omega
    have t3 : ((i : Int) + 1 + 2).toNat = i + 3 := by omega
    have hgm := hmg i him hlt3
    by_cases h92 : s.data[i] = 92
    · have g92 : s.data[i].toNat = 92 := by rw [h92]; rfl
      by_cases hl : i + 2 < s.size
      · have hl' : ¬ (s.size : Int) - 1 ≤ (i : Int) + 1 := by omega
        have hl1 : i + 1 < s.size := by omega
        have hl1' : (i : Int) + 1 < s.size := by omega
        have hl3 : i + 1 < s.data.size := by omega
        have him1 : i + 1 < m.length := by omega
        have hgm1 := hmg (i + 1) him1 hl3
        by_cases h110 : s.data[i + 1] = 110
        · have g110 : s.data[i + 1].toNat = 110 := by rw [h110]; rfl
          rw [decM_n him1 (by rw [hgm, h92]) (by rw [hgm1, h110])] at hin
          repeat' (first | ((first | refine qbo 0 1 5 1 (by rfl) (by rfl) ?_ | ((with_reducible refine qf (fun hg => ?_) (fun hg => ?_)) <;> (try simp only [hg]) <;> (try simp only [gS] at hg) <;> (try (first | simp only [eq_false hg, gI] | simp only [eq_true hg, gI]))) | refine Stp.m ?_ | refine qcz (i := 0) (j := 1) _ (by rfl) (by rfl) (by first | rfl | (simp; done) | omega | (simp; omega)) (by first | (simp; done) | assumption) (by first | (simp; done) | assumption) (by first | omega | (simp; done) | (simp; omega)) ?_ | refine qbw (i := 0) (j := 1) _ (by rfl) (by rfl) (by first | rfl | (simp; done) | omega | (simp; omega)) (by first | (simp; done) | assumption) (by first | (simp; done) | assumption) (by first | omega | (simp; done) | (simp; omega)) ?_) <;> (try simp (disch := first | omega | simp) [qd, -qg, -ql, hlt', hlt1, hlt3, g92, hl', hl1, hl1', hl3, g110, q1])) | refine sideA ?_ | refine qc fun K hK => ?_ | refine qa ?_ | refine qe ?_ | refine qb ?_ | (refine hK _ ?_; clear hK K) | clear hK K)
          all_goals exact ⟨i + 2, acc ++ [10], .ptr n0 0, ⟨by omega, by rw [← hin]; simp, .inr rfl⟩, by omega, by (first | omega | (simp [AV.byte] <;> omega)), by (first | omega | (simp [AV.byte] <;> omega)), by (first | omega | (simp [AV.byte] <;> omega))⟩
        · have g110 : ¬ (s.data[i + 1].toNat : Int) = 110 := nn _ _ h110
          by_cases h120 : s.data[i + 1] = 120 ∧ i + 4 < s.size
          · obtain ⟨h120, hl4⟩ := h120
            have g120 : s.data[i + 1].toNat = 120 := by rw [h120]; rfl
            have hl4' : (i : Int) + 1 + 2 < (s.size : Int) - 1 := by omega
            have h2a : i + 2 < s.size := by omega
            have h2b : i + 2 < s.data.size := by omega
            have h3a : i + 3 < s.size := by omega
            have h3b : i + 3 < s.data.size := by omega
            have h2c : (i : Int) + 1 + 1 < s.size := by omega
            have h3c : (i : Int) + 1 + 2 < s.size := by omega
            have c1 := hex_g s.data[i + 2]
            have c2 := hex_g s.data[i + 3]
            have hz : hxZ (Lib.indexByte hexL s.data[i + 2]) (Lib.indexByte hexL s.data[i + 3]) = ((hxP s.data[i + 2] s.data[i + 3]).toNat : Int) := (hxP_toNat _ _).symm
            unfold hxZ at hz
            rw [decM_x (by omega) (by rw [hgm, h92]) (by rw [hgm1, h120]), hmg (i + 2) (by omega) h2b, hmg (i + 3) (by omega) h3b] at hin
            repeat' (first | ((first | refine qbo 0 1 5 1 (by rfl) (by rfl) ?_ | ((with_reducible refine qf (fun hg => ?_) (fun hg => ?_)) <;> (try simp only [hg]) <;> (try simp only [gS] at hg) <;> (try (first | simp only [eq_false hg, gI] | simp only [eq_true hg, gI]))) | refine Stp.m ?_ | refine qcz (i := 0) (j := 1) _ (by rfl) (by rfl) (by first | rfl | (simp; done) | omega | (simp; omega)) (by first | (simp; done) | assumption) (by first | (simp; done) | assumption) (by first | omega | (simp; done) | (simp; omega)) ?_ | refine qbw (i := 0) (j := 1) _ (by rfl) (by rfl) (by first | rfl | (simp; done) | omega | (simp; omega)) (by first | (simp; done) | assumption) (by first | (simp; done) | assumption) (by first | omega | (simp; done) | (simp; omega)) ?_) <;> (try simp (disch := first | omega | simp) [qd, -qg, -ql, hlt', hlt1, hlt3, g92, hl', hl1, hl1', hl3, g110, g120, hl4', q1])) | refine sideA ?_ | refine qc fun K hK => ?_ | refine qa ?_ | refine qb ?_ | (refine hK _ ?_; clear hK K) | clear hK K)
            refine awp_anyC [.R, .R, .R, .R, .M, .R, .R, .R, .R, .R, .M, .R, .R, .W] (by kernel_rfl) (by kernel_rfl) ?_
            repeat' (first | ((first | refine qbo 0 1 5 1 (by rfl) (by rfl) ?_ | ((with_reducible refine qf (fun hg => ?_) (fun hg => ?_)) <;> (try simp only [hg]) <;> (try simp only [gS] at hg) <;> (try (first | simp only [eq_false hg, gI] | simp only [eq_true hg, gI]))) | refine Stp.m ?_ | refine qcz (i := 0) (j := 1) _ (by rfl) (by rfl) (by first | rfl | (simp; done) | omega | (simp; omega)) (by first | (simp; done) | assumption) (by first | (simp; done) | assumption) (by first | omega | (simp; done) | (simp; omega)) ?_ | refine qbw (i := 0) (j := 1) _ (by rfl) (by rfl) (by first | rfl | (simp; done) | omega | (simp; omega)) (by first | (simp; done) | assumption) (by first | (simp; done) | assumption) (by first | omega | (simp; done) | (simp; omega)) ?_ | refine qi ?_ | refine agH ?_ | refine qdj (c1) ?_ | refine qdj (c2) ?_) <;> (try simp (disch := first | omega | simp) [qd, -qg, -ql, hlt1, hlt3, hl1, hl1', hl3, h2a, h2b, h3a, h3b, h2c, h3c, q1, q2, q3, t2, t3])) | refine sideA ?_ | refine qc fun K hK => ?_ | refine qa ?_ | refine qb ?_ | (refine hK _ ?_; clear hK K) | clear hK K)
            refine ⟨i + 4, acc ++ [hxP s.data[i + 2] s.data[i + 3]], .ptr n0 0, ⟨by omega, by rw [← hin]; simp, .inr rfl⟩, by omega, ⟨⟨rfl, ?_⟩, by simp⟩, by simp, by omega⟩
            rw [List.map_append]
            congr 1
            show _ = [AV.v (.int .u8 ((hxP s.data[i + 2] s.data[i + 3]).toNat : Int))]
            rw [hxP_toNat]
            unfold hxZ
            simp
          · have hn : s.data[i + 1] ≠ 120 ∨ m.length ≤ i + 3 := by
              by_cases h : s.data[i + 1] = 120
              · exact .inr (by have : ¬ i + 4 < s.size := fun h2 => h120 ⟨h, h2⟩; omega)
              · exact .inl h
            rw [decM_esc him1 (by rw [hgm, h92]) (by rw [hgm1]; exact h110) (by rw [hgm1]; exact hn), hgm1] at hin
            by_cases h12 : s.data[i + 1] = 120
            · have g120 : s.data[i + 1].toNat = 120 := by rw [h12]; rfl
              have hl4' : ¬ (i : Int) + 1 + 2 < (s.size : Int) - 1 := fun h2 => h120 ⟨h12, by omega⟩
              repeat' (first | ((first | refine qbo 0 1 5 1 (by rfl) (by rfl) ?_ | ((with_reducible refine qf (fun hg => ?_) (fun hg => ?_)) <;> (try simp only [hg]) <;> (try simp only [gS] at hg) <;> (try (first | simp only [eq_false hg, gI] | simp only [eq_true hg, gI]))) | refine Stp.m ?_ | refine qcz (i := 0) (j := 1) _ (by rfl) (by rfl) (by first | rfl | (simp; done) | omega | (simp; omega)) (by first | (simp; done) | assumption) (by first | (simp; done) | assumption) (by first | omega | (simp; done) | (simp; omega)) ?_ | refine qbw (i := 0) (j := 1) _ (by rfl) (by rfl) (by first | rfl | (simp; done) | omega | (simp; omega)) (by first | (simp; done) | assumption) (by first | (simp; done) | assumption) (by first | omega | (simp; done) | (simp; omega)) ?_) <;> (try simp (disch := first | omega | simp) [qd, -qg, -ql, hlt', hlt1, hlt3, g92, hl', hl1, hl1', hl3, g110, g120, hl4', q1])) | refine sideA ?_ | refine qc fun K hK => ?_ | refine qa ?_ | refine qe ?_ | refine qb ?_ | (refine hK _ ?_; clear hK K) | clear hK K)
              all_goals exact ⟨i + 2, acc ++ [s.data[i + 1]], .ptr n0 0, ⟨by omega, by rw [← hin]; simp, .inr rfl⟩, by omega, by (first | omega | (simp [AV.byte] <;> omega)), by (first | omega | (simp [AV.byte] <;> omega)), by (first | omega | (simp [AV.byte] <;> omega))⟩
            · have g120 : ¬ (s.data[i + 1].toNat : Int) = 120 := nn _ _ h12
              repeat' (first | ((first | refine qbo 0 1 5 1 (by rfl) (by rfl) ?_ | ((with_reducible refine qf (fun hg => ?_) (fun hg => ?_)) <;> (try simp only [hg]) <;> (try simp only [gS] at hg) <;> (try (first | simp only [eq_false hg, gI] | simp only [eq_true hg, gI]))) | refine Stp.m ?_ | refine qcz (i := 0) (j := 1) _ (by rfl) (by rfl) (by first | rfl | (simp; done) | omega | (simp; omega)) (by first | (simp; done) | assumption) (by first | (simp; done) | assumption) (by first | omega | (simp; done) | (simp; omega)) ?_ | refine qbw (i := 0) (j := 1) _ (by rfl) (by rfl) (by first | rfl | (simp; done) | omega | (simp; omega)) (by first | (simp; done) | assumption) (by first | (simp; done) | assumption) (by first | omega | (simp; done) | (simp; omega)) ?_) <;> (try simp (disch := first | omega | simp) [qd, -qg, -ql, hlt', hlt1, hlt3, g92, hl', hl1, hl1', hl3, g110, g120, q1])) | refine sideA ?_ | refine qc fun K hK => ?_ | refine qa ?_ | refine qe ?_ | refine qb ?_ | (refine hK _ ?_; clear hK K) | clear hK K)
              all_goals first | exact absurd (by assumption) g120 | (exfalso; omega) | exact ⟨i + 2, acc ++ [s.data[i + 1]], .ptr n0 0, ⟨by omega, by rw [← hin]; simp, .inr rfl⟩, by omega, by (first | omega | (simp [AV.byte] <;> omega)), by (first | omega | (simp [AV.byte] <;> omega)), by (first | omega | (simp [AV.byte] <;> omega))⟩
      · have hl' : (s.size : Int) - 1 ≤ (i : Int) + 1 := by omega
        rw [decM_plain him (.inr (by omega)), hgm] at hin
        repeat' (first | ((first | refine qbo 0 1 5 1 (by rfl) (by rfl) ?_ | ((with_reducible refine qf (fun hg => ?_) (fun hg => ?_)) <;> (try simp only [hg]) <;> (try simp only [gS] at hg) <;> (try (first | simp only [eq_false hg, gI] | simp only [eq_true hg, gI]))) | refine Stp.m ?_ | refine qcz (i := 0) (j := 1) _ (by rfl) (by rfl) (by first | rfl | (simp; done) | omega | (simp; omega)) (by first | (simp; done) | assumption) (by first | (simp; done) | assumption) (by first | omega | (simp; done) | (simp; omega)) ?_ | refine qbw (i := 0) (j := 1) _ (by rfl) (by rfl) (by first | rfl | (simp; done) | omega | (simp; omega)) (by first | (simp; done) | assumption) (by first | (simp; done) | assumption) (by first | omega | (simp; done) | (simp; omega)) ?_) <;> (try simp (disch := first | omega | simp) [qd, -qg, -ql, hlt', hlt1, hlt3, g92, hl'])) | refine sideA ?_ | refine qc fun K hK => ?_ | refine qa ?_ | refine qe ?_ | refine qb ?_ | (refine hK _ ?_; clear hK K) | clear hK K)
        all_goals exact ⟨i + 1, acc ++ [s.data[i]], .ptr n0 0, ⟨by omega, by rw [← hin]; simp, .inr rfl⟩, by omega, by (first | omega | (simp [AV.byte] <;> omega)), by (first | omega | (simp [AV.byte] <;> omega)), by (first | omega | (simp [AV.byte] <;> omega))⟩
    · have g92 : ¬ (s.data[i].toNat : Int) = 92 := nn _ _ h92
      rw [decM_plain him (.inl (by rw [hgm]; exact h92)), hgm] at hin
      repeat' (first | ((first | refine qbo 0 1 5 1 (by rfl) (by rfl) ?_ | ((with_reducible refine qf (fun hg => ?_) (fun hg => ?_)) <;> (try simp only [hg]) <;> (try simp only [gS] at hg) <;> (try (first | simp only [eq_false hg, gI] | simp only [eq_true hg, gI]))) | refine Stp.m ?_ | refine qcz (i := 0) (j := 1) _ (by rfl) (by rfl) (by first | rfl | (simp; done) | omega | (simp; omega)) (by first | (simp; done) | assumption) (by first | (simp; done) | assumption) (by first | omega | (simp; done) | (simp; omega)) ?_ | refine qbw (i := 0) (j := 1) _ (by rfl) (by rfl) (by first | rfl | (simp; done) | omega | (simp; omega)) (by first | (simp; done) | assumption) (by first | (simp; done) | assumption) (by first | omega | (simp; done) | (simp; omega)) ?_) <;> (try simp (disch := first | omega | simp) [qd, -qg, -ql, hlt', hlt1, hlt3, g92])) | refine sideA ?_ | refine qc fun K hK => ?_ | refine qa ?_ | refine qe ?_ | refine qb ?_ | (refine hK _ ?_; clear hK K) | clear hK K)
      all_goals first | exact absurd (by assumption) g92 | exact ⟨i + 1, acc ++ [s.data[i]], .ptr n0 0, ⟨by omega, by rw [← hin]; simp, .inr rfl⟩, by omega, by (first | omega | (simp [AV.byte] <;> omega)), by (first | omega | (simp [AV.byte] <;> omega)), by (first | omega | (simp [AV.byte] <;> omega))⟩
  · have hlt' : ¬ (i : Int) < (s.size : Int) - 1 := by omega
    rw [List.drop_of_length_le (by omega), dec_nil, List.append_nil] at hin
    have hq := quote_g (qk acc) (by rw [bytesA_size']; omega)
    rw [bytesA_data] at hq
    by_cases he : qP D = s.data.toList
    · rw [if_pos he, ← hin] at hR
      have he2 : qP acc = s.toList := by rw [hin, ByteArray.toList_eq]; exact he
      repeat' (first | ((first | ((with_reducible refine qf (fun hg => ?_) (fun hg => ?_)) <;> (try simp only [hg]) <;> (try simp only [gS] at hg) <;> (try (first | simp only [eq_false hg, gI] | simp only [eq_true hg, gI]))) | refine Stp.m ?_ | refine acall (qdg (i := 0) (j := 1) acc (by rfl) (by rfl) (by simp) (by simp)) ?_ | refine qo (qdg (i := 0) (j := 1) acc (by rfl) (by rfl) (by simp) (by simp)) ?_ | refine qi ?_ | refine agH ?_ | refine qdj (qdg (i := 0) (j := 1) acc (by rfl) (by rfl) (by simp) (by simp)) ?_ | refine qdj (hq) ?_) <;> (try simp (disch := first | omega | simp) [qd, -qg, -ql, hlt', he2])) | refine sideA ?_ | refine qc fun K hK => ?_ | refine qa ?_ | refine qe ?_ | refine qb ?_ | (refine hK _ ?_; clear hK K) | clear hK K)
      all_goals first | exact absurd ‹_› he2 | (rw [hR]; exact ⟨rfl, rfl⟩)
    · rw [if_neg he] at hR
      have he2 : ¬ qP acc = s.toList := by rw [hin, ByteArray.toList_eq]; exact he
      repeat' (first | ((first | ((with_reducible refine qf (fun hg => ?_) (fun hg => ?_)) <;> (try simp only [hg]) <;> (try simp only [gS] at hg) <;> (try (first | simp only [eq_false hg, gI] | simp only [eq_true hg, gI]))) | refine Stp.m ?_ | refine acall (qdg (i := 0) (j := 1) acc (by rfl) (by rfl) (by simp) (by simp)) ?_ | refine qo (qdg (i := 0) (j := 1) acc (by rfl) (by rfl) (by simp) (by simp)) ?_ | refine qi ?_ | refine agH ?_ | refine qdj (qdg (i := 0) (j := 1) acc (by rfl) (by rfl) (by simp) (by simp)) ?_ | refine qdj (hq) ?_) <;> (try simp (disch := first | omega | simp) [qd, -qg, -ql, hlt', he2])) | refine sideA ?_ | refine qc fun K hK => ?_ | refine qa ?_ | refine qe ?_ | refine qb ?_ | (refine hK _ ?_; clear hK K) | clear hK K)
      all_goals first | exact absurd ‹_› he2 | (rw [hR]; exact ⟨rfl, rfl⟩)
end Go.Proofs.YtbkkjlcclddpdaaGreatDoor
