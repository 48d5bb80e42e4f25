/- The library's Replace at values. -/
import Derived.Test.YtbkkjlcclddpdaaGreatDoorGc12
import Derived.Test.YtbkkjlcclddpdaaGreatDoorGc19
import Derived.Test.YtbkkjlcclddpdaaGreatDoorGc20
import Derived.Test.YtbkkjlcclddpdaaGreatDoorGc28
set_option linter.unusedSimpArgs false
set_option linter.unusedVariables false
namespace Go.Proofs.YtbkkjlcclddpdaaGreatDoor
open Go.RowKit Go.Lib
set_option maxHeartbeats 4000000 in
theorem rep_bV (l v : List AV) (i j n m tot c : Nat) (bs : List Value) (hij : i < j) (hj : j ≤ n) (hm0 : 0 < m) (hn : l.length = n) (hm : v.length = m) (htot : tot = i + m + (n - j)) (hraw : l.all rawOk = true) (hw : AV.wid l 3) (hrv : v.all rawOk = true) (hwv : AV.wid v 3) (hL : n ≤ 1000000) (hM : m ≤ 1000000) (hc : n ≤ c) (hcm : c ≤ 9223372036854775807) (hlen : bs.length = c * 3) (hbs : bs.take (n * 3) = rawsL l) (hcl' : ∀ k, AV.cls k (l.take i ++ v ++ l.drop j)) {τ : Nat → AB} {r : Nat} (hτ : τ r = .buf bs 27) :
    AC Tryz.prog 107 [.sub r 0 n c 3, .int (i : Int), .int (j : Int), .sl v] τ fun y τ' => y = .sl (l.take i ++ v ++ l.drop j) ∧ τ' = upd τ r .dead := by
  refine qfl Tryz.func107 Tryz.ntmps107 rfl rfl (by decide) rfl (by intro n; first | (simp; done) | exact hcl' n | (simp; exact hcl' n)) (by intro n; simp) ?_ fun n0 hrn hcl hft => ?_
  · rw [hτ]; simp
  have h4 : ((i : Int) = (j : Int)) = False := eq_false (by omega)
  have hI : Tryz.prog.underlying 3 = some (.int .i64) := by kernel_rfl
  have q3 : ((i : Int) + (m : Int)).toNat = i + m := by omega
  have q4 : (i : Int) + (m : Int) + ((n - j : Nat) : Int) = (tot : Int) := by omega
  have q5 : (0 ≤ (i : Int) + (m : Int)) = True := eq_true (by omega)
  have hone : OneC (bs.take (n * 3)) := by rw [hbs]; exact raw_one hraw
  have ho : OneC ((bs.drop (j * 3)).take ((n - j) * 3)) := one_mid hone (by omega)
  have hl : ∀ (σ : Nat → AB) (L : List AB), loc σ n0 L r = σ r := fun σ L => qda σ n0 r L hrn
  have hv1 : (rawsL v).length = m * 3 := qdf hrv hwv hm
  have hv2 : (rawsL v).take (m * 3) = rawsL v := List.take_of_length_le (by omega)
  have hO := ovlV
  have hov : OneC (rawsL v) := raw_one hrv
  have ho' : OneC (((bs.drop (j * 3)).take ((n - j) * 3)).take ((n - j) * 3)) := by rw [List.take_take, Nat.min_self]; exact ho
  have hb0 : ¬ bs = [] := fun h => by rw [h] at hlen; simp at hlen; omega
  have hra : (l.take i ++ v ++ l.drop j).all rawOk = true := by
    rw [List.all_append, List.all_append, hrv, qgi hraw fun x hx => List.mem_of_mem_take hx, qgi hraw fun x hx => List.mem_of_mem_drop hx]; rfl
  have hwa : AV.wid (l.take i ++ v ++ l.drop j) 3 := fun x hx => by
    rcases List.mem_append.1 hx with hx | hx
    · rcases List.mem_append.1 hx with hx | hx
      · exact hw x (List.mem_of_mem_take hx)
      · exact hwv x hx
    · exact hw x (List.mem_of_mem_drop hx)
  have hla : (l.take i ++ v ++ l.drop j).length = tot := by
    rw [List.length_append, List.length_append, List.length_take, List.length_drop]; omega
  have ex : bs.take (i * 3) = rawsL (l.take i) := row_take hraw hw hn hbs (by omega)
  have ez : (bs.drop (j * 3)).take ((n - j) * 3) = rawsL (l.drop j) := by
    rw [row_mid hraw hw hn hbs (by omega), List.take_of_length_le (by rw [List.length_drop]; omega)]
  have lx : (rawsL (l.take i)).length = i * 3 := by rw [← ex, List.length_take, hlen]; omega
  have lz : (rawsL (l.drop j)).length = (n - j) * 3 := by rw [← ez, List.length_take, List.length_drop, hlen]; omega
  have tx : ∀ T, (rawsL (l.take i) ++ T).take (i * 3) = rawsL (l.take i) := fun T => by rw [← lx, List.take_left]
  have ty : ∀ T, (rawsL (l.take i) ++ (rawsL v ++ T)).take ((i + m) * 3) = rawsL (l.take i) ++ rawsL v := fun T => by
    rw [← List.append_assoc, show (i + m) * 3 = (rawsL (l.take i) ++ rawsL v).length by rw [List.length_append, lx, hv1]; omega, List.take_left]
  have tz : ∀ T, (rawsL (l.take i) ++ (rawsL v ++ (rawsL (l.drop j) ++ T))).take (tot * 3) = rawsL (l.take i) ++ (rawsL v ++ rawsL (l.drop j)) := fun T => by
    rw [← List.append_assoc, ← List.append_assoc, show tot * 3 = (rawsL (l.take i) ++ rawsL v ++ rawsL (l.drop j)).length by rw [List.length_append, List.length_append, lx, hv1, lz]; omega, List.take_left, List.append_assoc]
  have zz : (rawsL (l.drop j)).take ((n - j) * 3) = rawsL (l.drop j) := List.take_of_length_le (by omega)
  have dI : ∀ T, (bs.take ((i + m) * 3) ++ T).take (i * 3) = rawsL (l.take i) ∨ c < i + m := fun T => by
    by_cases hg : c < i + m
    · exact .inr hg
    · rw [List.take_append_of_le_length (by rw [List.length_take, hlen]; omega), List.take_take, Nat.min_eq_left (by omega), ex]; exact .inl rfl
  have hz : ∀ z : AV, z ∈ v → 0 < z.width := fun z h => by rw [hwv z h]; omega
  repeat' (first | ((first | ((with_reducible refine qf (fun hg => ?_) (fun hg => ?_)) <;> (try simp only [hg]) <;> (try simp only [gS] at hg) <;> (try (first | simp only [eq_false hg, gI] | simp only [eq_true hg, gI]))) | refine Stp.m ?_) <;> (try simp (disch := first | omega | simp) [qd, -qg, -qm, hlen, hτ, ho, hl, hrn, hI, hm, hrv, hwv, h4, q3, q4, q5, hv1, hv2, hO, hov, ho', hb0])) | with_reducible refine qi (id := 1) ?_ | with_reducible refine qi (id := 4) ?_ | with_reducible refine qi (id := 5) ?_ | with_reducible refine qi (id := 6) ?_ | with_reducible refine qi (id := 7) ?_ | with_reducible refine qbb (id := 8) ?_ | with_reducible refine qcb (id := 9) [.R, .R, .M, .M, .R, .R, .R, .R, .R, .M, .M, .R, .R] (by kernel_rfl) (by kernel_rfl) ?_ | with_reducible refine qi (id := 10) ?_ | with_reducible refine qi (id := 11) ?_ | with_reducible refine qi (id := 12) ?_ | with_reducible refine qcb (id := 13) [.R, .R, .R, .R, .R, .M, .R, .R, .M, .W] (by kernel_rfl) (by kernel_rfl) ?_ | with_reducible refine qbb (id := 14) ?_ | with_reducible refine qi (id := 15) ?_ | with_reducible refine qi (id := 17) ?_ | with_reducible refine qcb (id := 18) [.R, .R, .R, .R, .R, .M, .R, .R, .M, .W] (by kernel_rfl) (by kernel_rfl) ?_ | with_reducible refine qi (id := 19) ?_ | with_reducible refine qbb (id := 20) ?_ | with_reducible refine qi (id := 21) ?_ | with_reducible refine qcb (id := 22) [.R, .R, .R, .R, .R, .M, .R, .R, .M, .W] (by kernel_rfl) (by kernel_rfl) ?_ | with_reducible refine qi (id := 23) ?_ | with_reducible refine qbb (id := 24) ?_ | refine sideA ?_ | refine qc fun K hK => ?_ | refine qa ?_ | refine qe ?_ | refine qb ?_ | (refine hK _ ?_; clear hK K) | clear hK K)
  · exact absurd (by assumption : (i : Int) = (j : Int)) (by omega)
  · have hjn : j = n := by omega
    have htot' : tot = i + m := by omega
    have e0 : rawsL (l.drop j) = [] := List.eq_nil_of_length_eq_zero (by omega)
    have tm : ∀ T, (rawsL (l.take i) ++ rawsL v ++ T).take ((i + m) * 3) = rawsL (l.take i) ++ rawsL v := fun T => by rw [List.append_assoc, ty]
    have tm2 : ((rawsL (l.take i) ++ rawsL v)).take ((i + m) * 3) = rawsL (l.take i) ++ rawsL v := by have := tm []; rwa [List.append_nil] at this
    refine ⟨fun hroom => ?_, fun hgrow c' zs h1 h2 h3 => ?_⟩
    · repeat' (first | ((first | ((with_reducible refine qf (fun hg => ?_) (fun hg => ?_)) <;> (try simp only [hg]) <;> (try simp only [gS] at hg) <;> (try (first | simp only [eq_false hg, gI] | simp only [eq_true hg, gI]))) | refine Stp.m ?_) <;> (try simp (disch := first | omega | simp) [qd, -qg, -qm, hlen, hτ, ho, hl, hrn, hI, hm, hrv, hwv, h4, q3, q4, q5, hv1, hv2, hO, hov, ho', hb0])) | with_reducible refine qi (id := 5) ?_ | with_reducible refine qi (id := 6) ?_ | with_reducible refine qi (id := 7) ?_ | with_reducible refine qbb (id := 8) ?_ | refine sideA ?_ | refine qc fun K hK => ?_ | refine qa ?_ | refine qe ?_ | refine qb ?_ | (refine hK _ ?_; clear hK K) | clear hK K)
      · intro zs hzs
        repeat' (first | ((first | ((with_reducible refine qf (fun hg => ?_) (fun hg => ?_)) <;> (try simp only [hg]) <;> (try simp only [gS] at hg) <;> (try (first | simp only [eq_false hg, gI] | simp only [eq_true hg, gI]))) | refine Stp.m ?_) <;> (try simp (disch := first | omega | simp) [qd, -qg, -qm, hlen, hτ, ho, hl, hrn, hI, hm, hrv, hwv, h4, q3, q4, q5, hv1, hv2, hO, hov, ho', hb0, hzs])) | with_reducible refine qi (id := 7) ?_ | with_reducible refine qbb (id := 8) ?_ | refine sideA ?_ | refine qc fun K hK => ?_ | refine qa ?_ | refine qe ?_ | refine qb ?_ | (refine hK _ ?_; clear hK K) | clear hK K)
        refine ⟨qp (r := r) (n := i + m) 9 (l.take i ++ v ++ l.drop j) (by simp) (by simp [hl]; exact ⟨rfl, rfl⟩) hra hwa (by rw [hla, htot']) (by omega) hcm ?_ ?_⟩
        · rw [ex, ty, tm, qs, qs, e0, List.append_nil]
        repeat' (first | ((first | ((with_reducible refine qf (fun hg => ?_) (fun hg => ?_)) <;> (try simp only [hg]) <;> (try simp only [gS] at hg) <;> (try (first | simp only [eq_false hg, gI] | simp only [eq_true hg, gI]))) | refine Stp.m ?_) <;> (try simp (disch := first | omega | simp) [qd, -qg, -qm, hl, hrn])) | refine sideA ?_ | refine qc fun K hK => ?_ | refine qa ?_ | refine qe ?_ | refine qb ?_ | (refine hK _ ?_; clear hK K) | clear hK K)
      · refine ⟨qp (r := r) (n := i + m) 9 (l.take i ++ v ++ l.drop j) (by simp) (by simp [hl]; exact ⟨rfl, rfl⟩) hra hwa (by rw [hla, htot']) (by omega) hcm ?_ ?_⟩
        · rw [ex, ty, qs, qs, e0, List.append_nil]
        repeat' (first | ((first | ((with_reducible refine qf (fun hg => ?_) (fun hg => ?_)) <;> (try simp only [hg]) <;> (try simp only [gS] at hg) <;> (try (first | simp only [eq_false hg, gI] | simp only [eq_true hg, gI]))) | refine Stp.m ?_) <;> (try simp (disch := first | omega | simp) [qd, -qg, -qm, hl, hrn])) | refine sideA ?_ | refine qc fun K hK => ?_ | refine qa ?_ | refine qe ?_ | refine qb ?_ | (refine hK _ ?_; clear hK K) | clear hK K)
    · repeat' (first | ((first | ((with_reducible refine qf (fun hg => ?_) (fun hg => ?_)) <;> (try simp only [hg]) <;> (try simp only [gS] at hg) <;> (try (first | simp only [eq_false hg, gI] | simp only [eq_true hg, gI]))) | refine Stp.m ?_) <;> (try simp (disch := first | omega | simp) [qd, -qg, -qm, hlen, hτ, ho, hl, hrn, hI, hm, hrv, hwv, h4, q3, q4, q5, hv1, hv2, hO, hov, ho', hb0, h3])) | with_reducible refine qi (id := 5) ?_ | with_reducible refine qi (id := 6) ?_ | with_reducible refine qi (id := 7) ?_ | with_reducible refine qbb (id := 8) ?_ | refine sideA ?_ | refine qc fun K hK => ?_ | refine qa ?_ | refine qe ?_ | refine qb ?_ | (refine hK _ ?_; clear hK K) | clear hK K)
      · omega
      · refine ⟨qp (r := n0) (n := i + m) 9 (l.take i ++ v ++ l.drop j) (by simp) (by simp [hl]; exact ⟨rfl, rfl⟩) hra hwa (by rw [hla, htot']) (by omega) h2 ?_ ?_⟩
        · rw [ex, ty, qs, qs, e0, List.append_nil]
        · refine qp (r := r) (n := n) 0 l (by simp) (by simp [hl, hτ]; first | rfl | exact ⟨rfl, rfl⟩) hraw hw hn hc hcm hbs ?_
          repeat' (first | ((first | ((with_reducible refine qf (fun hg => ?_) (fun hg => ?_)) <;> (try simp only [hg]) <;> (try simp only [gS] at hg) <;> (try (first | simp only [eq_false hg, gI] | simp only [eq_true hg, gI]))) | refine Stp.m ?_) <;> (try simp (disch := first | omega | simp) [qd, -qg, -qm, hl, hrn])) | refine sideA ?_ | refine qc fun K hK => ?_ | refine qa ?_ | refine qe ?_ | refine qb ?_ | (refine hK _ ?_; clear hK K) | clear hK K)
  · intro c' zs h1 h2 h3
    repeat' (first | ((first | ((with_reducible refine qf (fun hg => ?_) (fun hg => ?_)) <;> (try simp only [hg]) <;> (try simp only [gS] at hg) <;> (try (first | simp only [eq_false hg, gI] | simp only [eq_true hg, gI]))) | refine Stp.m ?_) <;> (try simp (disch := first | omega | simp) [qd, -qg, -qm, hlen, hτ, ho, hl, hrn, hI, hm, hrv, hwv, h4, q3, q4, q5, hv1, hv2, hO, hov, ho', hb0, h3])) | with_reducible refine qi (id := 11) ?_ | with_reducible refine qi (id := 12) ?_ | with_reducible refine qcb (id := 13) [.R, .R, .R, .R, .R, .M, .R, .R, .M, .W] (by kernel_rfl) (by kernel_rfl) ?_ | with_reducible refine qbb (id := 14) ?_ | refine sideA ?_ | refine qc fun K hK => ?_ | refine qa ?_ | refine qe ?_ | refine qb ?_ | (refine hK _ ?_; clear hK K) | clear hK K)
    refine ⟨qp (r := n0) (n := tot) 11 (l.take i ++ v ++ l.drop j) (by simp) (by simp [hl]; exact ⟨rfl, rfl⟩) hra hwa hla (by omega) h2 ?_ ?_⟩
    · simp only [ex, ez, tx, ty, tz, zz, qs, List.append_assoc]
    · refine qp (r := r) (n := n) 0 l (by simp) (by simp [hl, hτ]; first | rfl | exact ⟨rfl, rfl⟩) hraw hw hn hc hcm hbs ?_
      repeat' (first | ((first | ((with_reducible refine qf (fun hg => ?_) (fun hg => ?_)) <;> (try simp only [hg]) <;> (try simp only [gS] at hg) <;> (try (first | simp only [eq_false hg, gI] | simp only [eq_true hg, gI]))) | refine Stp.m ?_) <;> (try simp (disch := first | omega | simp) [qd, -qg, -qm, hl, hrn])) | refine sideA ?_ | refine qc fun K hK => ?_ | refine qa ?_ | refine qe ?_ | refine qb ?_ | (refine hK _ ?_; clear hK K) | clear hK K)
  · have dC : List.drop (j * 3) (rawsL (l.take i) ++ (rawsL v ++ List.drop ((i + m) * 3) bs)) = List.drop (j * 3) bs := by
      rw [← List.append_assoc]; exact drop_far (by rw [List.length_append, lx, hv1]; omega) (by omega)
    have ho2 : OneC (List.take ((n - j) * 3) (List.take ((n - j) * 3) (List.drop (j * 3) (List.take (i * 3) bs ++ (rawsL v ++ List.drop ((i + m) * 3) bs))))) := by
      rw [ex, dC]; exact ho'
    repeat' (first | ((first | ((with_reducible refine qf (fun hg => ?_) (fun hg => ?_)) <;> (try simp only [hg]) <;> (try simp only [gS] at hg) <;> (try (first | simp only [eq_false hg, gI] | simp only [eq_true hg, gI]))) | refine Stp.m ?_) <;> (try simp (disch := first | omega | simp) [qd, -qg, -qm, hlen, hτ, ho, hl, hrn, hI, hm, hrv, hwv, h4, q3, q4, q5, hv1, hv2, hO, hov, ho', hb0, ho2])) | with_reducible refine qcb (id := 18) [.R, .R, .R, .R, .R, .M, .R, .R, .M, .W] (by kernel_rfl) (by kernel_rfl) ?_ | with_reducible refine qi (id := 19) ?_ | with_reducible refine qbb (id := 20) ?_ | refine sideA ?_ | refine qc fun K hK => ?_ | refine qa ?_ | refine qe ?_ | refine qb ?_ | (refine hK _ ?_; clear hK K) | clear hK K)
    · intro zs hzs
      repeat' (first | ((first | ((with_reducible refine qf (fun hg => ?_) (fun hg => ?_)) <;> (try simp only [hg]) <;> (try simp only [gS] at hg) <;> (try (first | simp only [eq_false hg, gI] | simp only [eq_true hg, gI]))) | refine Stp.m ?_) <;> (try simp (disch := first | omega | simp) [qd, -qg, -qm, hlen, hτ, ho, hl, hrn, hI, hm, hrv, hwv, h4, q3, q4, q5, hv1, hv2, hO, hov, ho', hb0, hzs])) | with_reducible refine qi (id := 19) ?_ | with_reducible refine qbb (id := 20) ?_ | refine sideA ?_ | refine qc fun K hK => ?_ | refine qa ?_ | refine qe ?_ | refine qb ?_ | (refine hK _ ?_; clear hK K) | clear hK K)
      refine ⟨qp (r := r) (n := tot) 12 (l.take i ++ v ++ l.drop j) (by simp) (by simp [hl]; exact ⟨rfl, rfl⟩) hra hwa hla (by omega) hcm ?_ ?_⟩
      · simp only [dC, ex, ez, tx, ty, tz, zz, qs, List.append_assoc]
      repeat' (first | ((first | ((with_reducible refine qf (fun hg => ?_) (fun hg => ?_)) <;> (try simp only [hg]) <;> (try simp only [gS] at hg) <;> (try (first | simp only [eq_false hg, gI] | simp only [eq_true hg, gI]))) | refine Stp.m ?_) <;> (try simp (disch := first | omega | simp) [qd, -qg, -qm, hl, hrn])) | refine sideA ?_ | refine qc fun K hK => ?_ | refine qa ?_ | refine qe ?_ | refine qb ?_ | (refine hK _ ?_; clear hK K) | clear hK K)
  · refine ⟨qp (r := r) (n := tot) 12 (l.take i ++ v ++ l.drop j) (by simp) (by simp [hl]; exact ⟨rfl, rfl⟩) hra hwa hla (by omega) hcm ?_ ?_⟩
    · have dI' : ∀ T, (bs.take ((i + m) * 3) ++ T).take (i * 3) = rawsL (l.take i) := fun T => (dI T).resolve_right (by omega)
      have dM : ∀ T, (bs.take ((i + m) * 3) ++ T).drop ((i + m) * 3) = T := fun T => drop_tk (by rw [List.length_take, hlen]; omega)
      simp only [dI', dM, ex, ez, tx, ty, tz, zz, qs, List.append_assoc]
    repeat' (first | ((first | ((with_reducible refine qf (fun hg => ?_) (fun hg => ?_)) <;> (try simp only [hg]) <;> (try simp only [gS] at hg) <;> (try (first | simp only [eq_false hg, gI] | simp only [eq_true hg, gI]))) | refine Stp.m ?_) <;> (try simp (disch := first | omega | simp) [qd, -qg, -qm, hl, hrn])) | refine sideA ?_ | refine qc fun K hK => ?_ | refine qa ?_ | refine qe ?_ | refine qb ?_ | (refine hK _ ?_; clear hK K) | clear hK K)
theorem rep_acV (l v : List AV) (i j n m : Nat) (hij : i < j) (hj : j ≤ n) (hm0 : 0 < m) (hn : l.length = n) (hm : v.length = m) (hraw : l.all rawOk = true) (hw : AV.wid l 3) (hrv : v.all rawOk = true) (hwv : AV.wid v 3) (hL : n ≤ 1000000) (hM : m ≤ 1000000) (hcl' : ∀ k, AV.cls k (l.take i ++ v ++ l.drop j)) {σ : Nat → AB} {r : Nat} (hσ : σ r = .vec l 27 3) :
    AC Tryz.prog 107 [.own r n, .int (i : Int), .int (j : Int), .sl v] σ fun y τ => y = .sl (l.take i ++ v ++ l.drop j) ∧ τ = upd σ r .dead := by
  refine ac_thaw hσ hn.symm (fun h => by rw [h] at hn; simp at hn; omega) (by decide) hraw hw hcl' fun r' c rest hr' hu hc hcm hrest => ?_
  have e1 := qdf hraw hw hn
  exact rep_bV l v i j n m _ c (rawsL l ++ rest) hij hj hm0 hn hm rfl hraw hw hrv hwv hL hM hc hcm (by rw [List.length_append, e1, hrest, ← Nat.add_mul]; congr 1; omega) (by rw [← e1, List.take_left]) hcl' (by simp)
end Go.Proofs.YtbkkjlcclddpdaaGreatDoor

/- The library's Insert at values. -/
namespace Go.Proofs.YtbkkjlcclddpdaaGreatDoor
open Go.RowKit Go.Lib
set_option maxHeartbeats 4000000 in
theorem ins_bV (l v : List AV) (i n m tot c : Nat) (bs : List Value) (hi : i ≤ n) (h0 : 0 < n) (hm0 : 0 < m) (hn : l.length = n) (hm : v.length = m) (htot : tot = n + m) (hraw : l.all rawOk = true) (hw : AV.wid l 3) (hrv : v.all rawOk = true) (hwv : AV.wid v 3) (hL : n ≤ 1000000) (hM : m ≤ 1000000) (hc : n ≤ c) (hcm : c ≤ 9223372036854775807) (hlen : bs.length = c * 3) (hbs : bs.take (n * 3) = rawsL l) (hcl' : ∀ k, AV.cls k (l.take i ++ v ++ l.drop i)) {τ : Nat → AB} {r : Nat} (hτ : τ r = .buf bs 27) :
    AC Tryz.prog 121 [.sub r 0 n c 3, .int (i : Int), .sl v] τ fun y τ' => y = .sl (l.take i ++ v ++ l.drop i) ∧ τ' = upd τ r .dead := by
  refine qfl Tryz.func121 Tryz.ntmps121 rfl rfl (by decide) rfl (by intro n; first | (simp; done) | exact hcl' n | (simp; exact hcl' n)) (by intro n; simp) ?_ fun n0 hrn hcl hft => ?_
  · rw [hτ]; simp
  have h4 : ((m : Int) = 0) = False := eq_false (by omega)
  have h4' : (m = 0) = False := eq_false (by omega)
  have hI : Tryz.prog.underlying 3 = some (.int .i64) := by kernel_rfl
  have q3 : ((i : Int) + (m : Int)).toNat = i + m := by omega
  have q4 : (n : Int) + (m : Int) = (tot : Int) := by omega
  have q5 : (0 ≤ (i : Int) + (m : Int)) = True := eq_true (by omega)
  have q6 : (tot : Int) - (i : Int) = ((tot - i : Nat) : Int) := by omega
  have hone : OneC (bs.take (n * 3)) := by rw [hbs]; exact raw_one hraw
  have ho : OneC ((bs.drop (i * 3)).take ((n - i) * 3)) := one_mid hone (by omega)
  have hl : ∀ (σ : Nat → AB) (L : List AB), loc σ n0 L r = σ r := fun σ L => qda σ n0 r L hrn
  have hv1 : (rawsL v).length = m * 3 := qdf hrv hwv hm
  have hv2 : (rawsL v).take (m * 3) = rawsL v := List.take_of_length_le (by omega)
  have hO := ovlV
  have hov : OneC (rawsL v) := raw_one hrv
  have ho' : OneC (((bs.drop (i * 3)).take ((n - i) * 3)).take ((n - i) * 3)) := by rw [List.take_take, Nat.min_self]; exact ho
  have hb0 : ¬ bs = [] := fun h => by rw [h] at hlen; simp at hlen; omega
  have hra : (l.take i ++ v ++ l.drop i).all rawOk = true := by
    rw [List.all_append, List.all_append, hrv, qgi hraw fun x hx => List.mem_of_mem_take hx, qgi hraw fun x hx => List.mem_of_mem_drop hx]; rfl
  have hwa : AV.wid (l.take i ++ v ++ l.drop i) 3 := fun x hx => by
    rcases List.mem_append.1 hx with hx | hx
    · rcases List.mem_append.1 hx with hx | hx
      · exact hw x (List.mem_of_mem_take hx)
      · exact hwv x hx
    · exact hw x (List.mem_of_mem_drop hx)
  have hla : (l.take i ++ v ++ l.drop i).length = tot := by
    rw [List.length_append, List.length_append, List.length_take, List.length_drop]; omega
  have hti : tot - (i + m) = n - i := by omega
  have ho3 : OneC (((bs.drop (i * 3)).take ((tot - i) * 3)).take ((n - i) * 3)) := by rw [List.take_take, Nat.min_eq_left (by omega)]; exact ho
  have ex : bs.take (i * 3) = rawsL (l.take i) := row_take hraw hw hn hbs (by omega)
  have ez : (bs.drop (i * 3)).take ((n - i) * 3) = rawsL (l.drop i) := by
    rw [row_mid hraw hw hn hbs (by omega), List.take_of_length_le (by rw [List.length_drop]; omega)]
  have ez2 : ((bs.drop (i * 3)).take ((tot - i) * 3)).take ((n - i) * 3) = rawsL (l.drop i) := by rw [List.take_take, Nat.min_eq_left (by omega)]; exact ez
  have lx : (rawsL (l.take i)).length = i * 3 := by rw [← ex, List.length_take, hlen]; omega
  have lz : (rawsL (l.drop i)).length = (n - i) * 3 := by rw [← ez, List.length_take, List.length_drop, hlen]; omega
  have tx : ∀ T, (rawsL (l.take i) ++ T).take (i * 3) = rawsL (l.take i) := fun T => by rw [← lx, List.take_left]
  have ty : ∀ T, (rawsL (l.take i) ++ (rawsL v ++ T)).take ((i + m) * 3) = rawsL (l.take i) ++ rawsL v := fun T => by
    rw [← List.append_assoc, show (i + m) * 3 = (rawsL (l.take i) ++ rawsL v).length by rw [List.length_append, lx, hv1]; omega, List.take_left]
  have tz : ∀ T, (rawsL (l.take i) ++ (rawsL v ++ (rawsL (l.drop i) ++ T))).take (tot * 3) = rawsL (l.take i) ++ (rawsL v ++ rawsL (l.drop i)) := fun T => by
    rw [← List.append_assoc, ← List.append_assoc, show tot * 3 = (rawsL (l.take i) ++ rawsL v ++ rawsL (l.drop i)).length by rw [List.length_append, List.length_append, lx, hv1, lz]; omega, List.take_left, List.append_assoc]
  have zz : (rawsL (l.drop i)).take ((n - i) * 3) = rawsL (l.drop i) := List.take_of_length_le (by omega)
  have hz : ∀ z : AV, z ∈ v → 0 < z.width := fun z h => by rw [hwv z h]; omega
  repeat' (first | ((first | with_reducible refine qz ?_ | ((with_reducible refine qf (fun hg => ?_) (fun hg => ?_)) <;> (try simp only [hg]) <;> (try simp only [gS] at hg) <;> (try (first | simp only [eq_false hg, gI] | simp only [eq_true hg, gI]))) | refine Stp.m ?_) <;> (try simp (disch := first | omega | simp) [qd, -qg, -qm, hlen, hτ, ho, hl, hrn, hI, hm, hrv, hwv, h4, h4', q3, q4, q5, q6, hv1, hv2, hO, hov, ho', ho3, hti, hb0])) | with_reducible refine qi (id := 1) ?_ | with_reducible refine qi (id := 5) ?_ | with_reducible refine qi (id := 7) ?_ | with_reducible refine qi (id := 8) ?_ | with_reducible refine qi (id := 9) ?_ | with_reducible refine qi (id := 10) ?_ | with_reducible refine qcb (id := 11) [.R, .R, .R, .R, .M, .R, .R, .M, .W] (by kernel_rfl) (by kernel_rfl) ?_ | with_reducible refine qbb (id := 12) ?_ | with_reducible refine qi (id := 13) ?_ | with_reducible refine qi (id := 14) ?_ | with_reducible refine qcb (id := 15) [.R, .R, .R, .R, .M, .R, .R, .M, .W] (by kernel_rfl) (by kernel_rfl) ?_ | with_reducible refine qi (id := 16) ?_ | with_reducible refine qbb (id := 17) ?_ | refine sideA ?_ | refine qc fun K hK => ?_ | refine qa ?_ | refine qe ?_ | refine qb ?_ | (refine hK _ ?_; clear hK K) | clear hK K)
  · omega
  · have hin : i = n := by omega
    have e0 : rawsL (l.drop i) = [] := List.eq_nil_of_length_eq_zero (by omega)
    have lti : l.take i = l := List.take_of_length_le (by omega)
    have fin : ∀ T, List.take ((n + m) * 3) (List.take (n * 3) bs ++ (rawsL v ++ T)) = rawsL (l.take i ++ v ++ l.drop i) := fun T => by
      rw [hbs, qs, qs, e0, List.append_nil, lti, ← List.append_assoc]
      exact take_tk (by rw [List.length_append, hv1, qdf hraw hw hn]; omega)
    refine ⟨fun hroom => ?_, fun hgrow c' zs h1 h2 h3 => ?_⟩
    · repeat' (first | ((first | with_reducible refine qz ?_ | ((with_reducible refine qf (fun hg => ?_) (fun hg => ?_)) <;> (try simp only [hg]) <;> (try simp only [gS] at hg) <;> (try (first | simp only [eq_false hg, gI] | simp only [eq_true hg, gI]))) | refine Stp.m ?_) <;> (try simp (disch := first | omega | simp) [qd, -qg, -qm, hlen, hτ, ho, hl, hrn, hI, hm, hrv, hwv, h4, h4', q3, q4, q5, q6, hv1, hv2, hO, hov, ho', ho3, hti, hb0])) | with_reducible refine qi (id := 7) ?_ | refine sideA ?_ | refine qc fun K hK => ?_ | refine qa ?_ | refine qe ?_ | refine qb ?_ | (refine hK _ ?_; clear hK K) | clear hK K)
      refine ⟨qp (r := r) (n := n + m) 6 (l.take i ++ v ++ l.drop i) (by simp) (by simp [hl]; exact ⟨rfl, rfl⟩) hra hwa (by rw [hla, htot]) (by omega) hcm (fin _) ?_⟩
      repeat' (first | ((first | ((with_reducible refine qf (fun hg => ?_) (fun hg => ?_)) <;> (try simp only [hg]) <;> (try simp only [gS] at hg) <;> (try (first | simp only [eq_false hg, gI] | simp only [eq_true hg, gI]))) | refine Stp.m ?_) <;> (try simp (disch := first | omega | simp) [qd, -qg, -qm, hl, hrn])) | refine sideA ?_ | refine qc fun K hK => ?_ | refine qa ?_ | refine qe ?_ | refine qb ?_ | (refine hK _ ?_; clear hK K) | clear hK K)
    · repeat' (first | ((first | with_reducible refine qz ?_ | ((with_reducible refine qf (fun hg => ?_) (fun hg => ?_)) <;> (try simp only [hg]) <;> (try simp only [gS] at hg) <;> (try (first | simp only [eq_false hg, gI] | simp only [eq_true hg, gI]))) | refine Stp.m ?_) <;> (try simp (disch := first | omega | simp) [qd, -qg, -qm, hlen, hτ, ho, hl, hrn, hI, hm, hrv, hwv, h4, h4', q3, q4, q5, q6, hv1, hv2, hO, hov, ho', ho3, hti, hb0, h3])) | with_reducible refine qi (id := 7) ?_ | refine sideA ?_ | refine qc fun K hK => ?_ | refine qa ?_ | refine qe ?_ | refine qb ?_ | (refine hK _ ?_; clear hK K) | clear hK K)
      refine ⟨qp (r := n0) (n := n + m) 6 (l.take i ++ v ++ l.drop i) (by simp) (by simp [hl]; exact ⟨rfl, rfl⟩) hra hwa (by rw [hla, htot]) (by omega) h2 (fin _) ?_⟩
      refine qp (r := r) (n := n) 0 l (by simp) (by simp [hl, hτ]; first | rfl | exact ⟨rfl, rfl⟩) hraw hw hn hc hcm hbs ?_
      repeat' (first | ((first | ((with_reducible refine qf (fun hg => ?_) (fun hg => ?_)) <;> (try simp only [hg]) <;> (try simp only [gS] at hg) <;> (try (first | simp only [eq_false hg, gI] | simp only [eq_true hg, gI]))) | refine Stp.m ?_) <;> (try simp (disch := first | omega | simp) [qd, -qg, -qm, hl, hrn])) | refine sideA ?_ | refine qc fun K hK => ?_ | refine qa ?_ | refine qe ?_ | refine qb ?_ | (refine hK _ ?_; clear hK K) | clear hK K)
  · intro c' zs h1 h2 h3
    repeat' (first | ((first | ((with_reducible refine qf (fun hg => ?_) (fun hg => ?_)) <;> (try simp only [hg]) <;> (try simp only [gS] at hg) <;> (try (first | simp only [eq_false hg, gI] | simp only [eq_true hg, gI]))) | refine Stp.m ?_) <;> (try simp (disch := first | omega | simp) [qd, -qg, -qm, hlen, hτ, ho, hl, hrn, hI, hm, hrv, hwv, h4, h4', q3, q4, q5, q6, hv1, hv2, hO, hov, ho', ho3, hti, hb0, h3])) | with_reducible refine qi (id := 9) ?_ | with_reducible refine qi (id := 10) ?_ | with_reducible refine qcb (id := 11) [.R, .R, .R, .R, .M, .R, .R, .M, .W] (by kernel_rfl) (by kernel_rfl) ?_ | with_reducible refine qbb (id := 12) ?_ | refine sideA ?_ | refine qc fun K hK => ?_ | refine qa ?_ | refine qe ?_ | refine qb ?_ | (refine hK _ ?_; clear hK K) | clear hK K)
    refine ⟨qp (r := n0) (n := tot) 9 (l.take i ++ v ++ l.drop i) (by simp) (by simp [hl]; exact ⟨rfl, rfl⟩) hra hwa hla (by omega) h2 ?_ ?_⟩
    · simp only [ex, ez, ez2, tx, ty, tz, zz, qs, List.append_assoc]
    · refine qp (r := r) (n := n) 0 l (by simp) (by simp [hl, hτ]; first | rfl | exact ⟨rfl, rfl⟩) hraw hw hn hc hcm hbs ?_
      repeat' (first | ((first | ((with_reducible refine qf (fun hg => ?_) (fun hg => ?_)) <;> (try simp only [hg]) <;> (try simp only [gS] at hg) <;> (try (first | simp only [eq_false hg, gI] | simp only [eq_true hg, gI]))) | refine Stp.m ?_) <;> (try simp (disch := first | omega | simp) [qd, -qg, -qm, hl, hrn])) | refine sideA ?_ | refine qc fun K hK => ?_ | refine qa ?_ | refine qe ?_ | refine qb ?_ | (refine hK _ ?_; clear hK K) | clear hK K)
  · refine ⟨qp (r := r) (n := tot) 0 (l.take i ++ v ++ l.drop i) (by simp) (by simp [hl]; exact ⟨rfl, rfl⟩) hra hwa hla (by omega) hcm ?_ ?_⟩
    · have dI' : ∀ T, (bs.take ((i + m) * 3) ++ T).take (i * 3) = rawsL (l.take i) := fun T => by
        rw [List.take_append_of_le_length (by rw [List.length_take, hlen]; omega), List.take_take, Nat.min_eq_left (by omega), ex]
      have dM : ∀ T, (bs.take ((i + m) * 3) ++ T).drop ((i + m) * 3) = T := fun T => drop_tk (by rw [List.length_take, hlen]; omega)
      simp only [dI', dM, ex, ez, ez2, tx, ty, tz, zz, qs, List.append_assoc]
    repeat' (first | ((first | ((with_reducible refine qf (fun hg => ?_) (fun hg => ?_)) <;> (try simp only [hg]) <;> (try simp only [gS] at hg) <;> (try (first | simp only [eq_false hg, gI] | simp only [eq_true hg, gI]))) | refine Stp.m ?_) <;> (try simp (disch := first | omega | simp) [qd, -qg, -qm, hl, hrn])) | refine sideA ?_ | refine qc fun K hK => ?_ | refine qa ?_ | refine qe ?_ | refine qb ?_ | (refine hK _ ?_; clear hK K) | clear hK K)
theorem ins_acV (l v : List AV) (i n m : Nat) (hi : i ≤ n) (h0 : 0 < n) (hm0 : 0 < m) (hn : l.length = n) (hm : v.length = m) (hraw : l.all rawOk = true) (hw : AV.wid l 3) (hrv : v.all rawOk = true) (hwv : AV.wid v 3) (hL : n ≤ 1000000) (hM : m ≤ 1000000) (hcl' : ∀ k, AV.cls k (l.take i ++ v ++ l.drop i)) {σ : Nat → AB} {r : Nat} (hσ : σ r = .vec l 27 3) :
    AC Tryz.prog 121 [.own r n, .int (i : Int), .sl v] σ fun y τ => y = .sl (l.take i ++ v ++ l.drop i) ∧ τ = upd σ r .dead := by
  refine ac_thaw hσ hn.symm (fun h => by rw [h] at hn; simp at hn; omega) (by decide) hraw hw hcl' fun r' c rest hr' hu hc hcm hrest => ?_
  have e1 := qdf hraw hw hn
  exact ins_bV l v i n m _ c (rawsL l ++ rest) hi h0 hm0 hn hm rfl hraw hw hrv hwv hL hM hc hcm (by rw [List.length_append, e1, hrest, ← Nat.add_mul]; congr 1; omega) (by rw [← e1, List.take_left]) hcl' (by simp)
end Go.Proofs.YtbkkjlcclddpdaaGreatDoor

/- Walk of lens.forward. -/
namespace Go.Proofs.YtbkkjlcclddpdaaGreatDoor
open Go.RowKit Go.Lib
theorem qcr {L : List Val} {i : Nat} (h : i < L.length) : valAt L i = L[i] := by unfold valAt; rw [List.getD_eq_getElem?_getD, List.getElem?_eq_getElem h]; rfl
theorem qbn (L : List Val) (i : Nat) (c : Val) : (L.map Val.av).set i c.av = (L.set i c).map Val.av := List.map_set.symm
theorem qcy (L : List Val) : AV.wid (L.map Val.av) 3 := Val.avs_wid L
theorem qcc (L : List Val) (h0 : 1 ≤ L.length) (hc : L.length ≤ 100) : GivesV Tryz.prog 58 [.sl (L.map Val.av)] L.length (.vec (L.map Val.av) 27 3) :=
  cloV (L.map Val.av) L.length (by simp) (by omega) (by omega) (Val.avs_wid L) (Val.avs_elms L) (fun m => Val.avs_cl L m)
set_option maxRecDepth 4000 in
set_option maxHeartbeats 4000000 in
theorem fwd_op0 (x : Lens) (cols : List Col) (row : List Val) (hx : qbp x) (hc : cols.length ≤ 100) (hr0 : 1 ≤ row.length) (hr : row.length ≤ 100) (ho : x.op = 0) (R : List Val) (hR : fwdP x cols row = R) : Gives Tryz.prog 59 [x.av, .sl (cols.map Col.av), .sl (row.map Val.av)] (.sl (R.map Val.av)) := by
  have c2 := qu cols x.a (by omega)
  have c3 := qcc row hr0 hr
  have c5 := qu cols x.b (by omega)
  have hln : (row.map Val.av).length = row.length := by simp
  have d0 : (x.op == 0) = true := by rw [ho]; rfl
  have d1 : (x.op == 1) = false := beq_eq_false_iff_ne.2 (by omega)
  have d2 : (x.op == 2) = false := beq_eq_false_iff_ne.2 (by omega)
  have d3 : (x.op == 3) = false := beq_eq_false_iff_ne.2 (by omega)
  have d4 : (x.op == 4) = false := beq_eq_false_iff_ne.2 (by omega)
  have d5 : (x.op == 5) = false := beq_eq_false_iff_ne.2 (by omega)
  have d6 : (x.op == 6) = false := beq_eq_false_iff_ne.2 (by omega)
  unfold fwdP at hR
  dsimp only at hR
  rw [if_pos ho] at hR
  refine qj Tryz.func59 Tryz.ntmps59 fun σ n0 hcl hft => ?_
  repeat' (first | ((first | with_reducible refine qz ?_ | ((with_reducible refine qf (fun hg => ?_) (fun hg => ?_)) <;> (try simp only [hg]) <;> (try simp only [gS] at hg) <;> (try (first | simp only [eq_false hg, gI] | simp only [eq_true hg, gI]))) | refine Stp.m ?_ | refine qbd c3 ?_ | refine awp_regionW (id := 4) 4 (by rfl) ?_ | refine ql ?_ | refine agH ?_) <;> (try simp (disch := first | omega | simp) [qd, -qg, -qm, d0, d1, d2, d3, d4, d5, d6, List.take_succ_cons, List.drop_succ_cons])) | refine sideA ?_ | refine qc fun K hK => ?_ | refine qa ?_ | refine qe ?_ | refine qb ?_ | (refine hK _ ?_; clear hK K) | clear hK K)
  refine ⟨qq 6 1 (k := row.length + 1) (by simp) (by rfl) (by simp) ?_⟩
  repeat' (first | ((first | ((with_reducible refine qf (fun hg => ?_) (fun hg => ?_)) <;> (try simp only [hg]) <;> (try simp only [gS] at hg) <;> (try (first | simp only [eq_false hg, gI] | simp only [eq_true hg, gI]))) | refine Stp.m ?_) <;> (try simp (disch := first | omega | simp) [qd, -qg, -qm])) | refine sideA ?_ | refine qc fun K hK => ?_ | refine qa ?_ | refine qe ?_ | refine qb ?_ | (refine hK _ ?_; clear hK K) | clear hK K)
  rw [← hR, List.map_append]; rfl
set_option maxRecDepth 4000 in
set_option maxHeartbeats 4000000 in
theorem fwd_op1 (x : Lens) (cols : List Col) (row : List Val) (hx : qbp x) (hc : cols.length ≤ 100) (hr0 : 1 ≤ row.length) (hr : row.length ≤ 100) (ho : x.op = 1) (i : Nat) (hi1 : findP cols x.a.toList = i) (hi2 : i < row.length) (R : List Val) (hR : fwdP x cols row = R) : Gives Tryz.prog 59 [x.av, .sl (cols.map Col.av), .sl (row.map Val.av)] (.sl (R.map Val.av)) := by
  have c2 := qu cols x.a (by omega)
  have c3 := qcc row hr0 hr
  have c5 := qu cols x.b (by omega)
  have hln : (row.map Val.av).length = row.length := by simp
  rw [hi1] at c2
  have h1 : ((i : Int)).toNat = i := by omega
  have h2 : ((i : Int) + 1).toNat = i + 1 := by omega
  have hvi := qcr hi2
  have e1 : (findP cols x.a.toList).toNat = i := by omega
  have d0 : (x.op == 0) = false := beq_eq_false_iff_ne.2 (by omega)
  have d1 : (x.op == 1) = true := by rw [ho]; rfl
  have d2 : (x.op == 2) = false := beq_eq_false_iff_ne.2 (by omega)
  have d3 : (x.op == 3) = false := beq_eq_false_iff_ne.2 (by omega)
  have d4 : (x.op == 4) = false := beq_eq_false_iff_ne.2 (by omega)
  have d5 : (x.op == 5) = false := beq_eq_false_iff_ne.2 (by omega)
  have d6 : (x.op == 6) = false := beq_eq_false_iff_ne.2 (by omega)
  unfold fwdP at hR
  simp only [e1] at hR
  rw [if_neg (by omega), if_pos ho] at hR
  have c7 : ∀ (σ : Nat → AB) (r : Nat), σ r = .vec (row.map Val.av) 27 3 → _ := fun σ r hσ => del_acV (row.map Val.av) i row.length hi2 hln (qdi row) (qcy row) (by omega) (fun m => by rw [← qcm]; exact Val.avs_cl _ m) (σ := σ) (r := r) hσ
  refine qj Tryz.func59 Tryz.ntmps59 fun σ n0 hcl hft => ?_
  repeat' (first | ((first | ((with_reducible refine qf (fun hg => ?_) (fun hg => ?_)) <;> (try simp only [hg]) <;> (try simp only [gS] at hg) <;> (try (first | simp only [eq_false hg, gI] | simp only [eq_true hg, gI]))) | refine Stp.m ?_ | refine qbd c3 ?_ | refine qfm (n0 + 1) _ (c7 _ _ (by simp)) (by simp) ?_ | refine ql ?_ | refine agH ?_) <;> (try simp (disch := first | omega | simp) [qd, -qg, -qm, d0, d1, d2, d3, d4, d5, d6, h1, h2])) | refine sideA ?_ | refine qc fun K hK => ?_ | refine qa ?_ | refine qe ?_ | refine qb ?_ | (refine hK _ ?_; clear hK K) | clear hK K)
  rw [← hR]; exact (qcm _ _ _).symm
set_option maxRecDepth 4000 in
set_option maxHeartbeats 4000000 in
theorem fwd_op2 (x : Lens) (cols : List Col) (row : List Val) (hx : qbp x) (hc : cols.length ≤ 100) (hr0 : 1 ≤ row.length) (hr : row.length ≤ 100) (ho : x.op = 2) : Gives Tryz.prog 59 [x.av, .sl (cols.map Col.av), .sl (row.map Val.av)] (.sl (row.map Val.av)) := by
  have c2 := qu cols x.a (by omega)
  have c3 := qcc row hr0 hr
  have c5 := qu cols x.b (by omega)
  have hln : (row.map Val.av).length = row.length := by simp
  have d0 : (x.op == 0) = false := beq_eq_false_iff_ne.2 (by omega)
  have d1 : (x.op == 1) = false := beq_eq_false_iff_ne.2 (by omega)
  have d2 : (x.op == 2) = true := by rw [ho]; rfl
  have d3 : (x.op == 3) = false := beq_eq_false_iff_ne.2 (by omega)
  have d4 : (x.op == 4) = false := beq_eq_false_iff_ne.2 (by omega)
  have d5 : (x.op == 5) = false := beq_eq_false_iff_ne.2 (by omega)
  have d6 : (x.op == 6) = false := beq_eq_false_iff_ne.2 (by omega)
  refine qj Tryz.func59 Tryz.ntmps59 fun σ n0 hcl hft => ?_
  repeat' (first | ((first | with_reducible refine qz ?_ | ((with_reducible refine qf (fun hg => ?_) (fun hg => ?_)) <;> (try simp only [hg]) <;> (try simp only [gS] at hg) <;> (try (first | simp only [eq_false hg, gI] | simp only [eq_true hg, gI]))) | refine Stp.m ?_ | refine qbd c3 ?_ | refine ql ?_ | refine agH ?_) <;> (try simp (disch := first | omega | simp) [qd, -qg, -qm, d0, d1, d2, d3, d4, d5, d6])) | refine sideA ?_ | refine qc fun K hK => ?_ | refine qa ?_ | refine qe ?_ | refine qb ?_ | (refine hK _ ?_; clear hK K) | clear hK K)
  refine ⟨qq 6 1 (k := row.length) (by simp) (by rfl) (by simp) ?_⟩
  repeat' (first | ((first | ((with_reducible refine qf (fun hg => ?_) (fun hg => ?_)) <;> (try simp only [hg]) <;> (try simp only [gS] at hg) <;> (try (first | simp only [eq_false hg, gI] | simp only [eq_true hg, gI]))) | refine Stp.m ?_) <;> (try simp (disch := first | omega | simp) [qd, -qg, -qm])) | refine sideA ?_ | refine qc fun K hK => ?_ | refine qa ?_ | refine qe ?_ | refine qb ?_ | (refine hK _ ?_; clear hK K) | clear hK K)
set_option maxRecDepth 4000 in
set_option maxHeartbeats 4000000 in
theorem fwd_op3 (x : Lens) (cols : List Col) (row : List Val) (hx : qbp x) (hc : cols.length ≤ 100) (hr0 : 1 ≤ row.length) (hr : row.length ≤ 100) (ho : x.op = 3) (i : Nat) (hi1 : findP cols x.a.toList = i) (hi2 : i < row.length) (hs : row[i].s.size < 4294967281) (R : List Val) (hR : fwdP x cols row = R) : Gives Tryz.prog 59 [x.av, .sl (cols.map Col.av), .sl (row.map Val.av)] (.sl (R.map Val.av)) := by
  have c2 := qu cols x.a (by omega)
  have c3 := qcc row hr0 hr
  have c5 := qu cols x.b (by omega)
  have hln : (row.map Val.av).length = row.length := by simp
  rw [hi1] at c2
  have h1 : ((i : Int)).toNat = i := by omega
  have h2 : ((i : Int) + 1).toNat = i + 1 := by omega
  have hvi := qcr hi2
  have e1 : (findP cols x.a.toList).toNat = i := by omega
  have d0 : (x.op == 0) = false := beq_eq_false_iff_ne.2 (by omega)
  have d1 : (x.op == 1) = false := beq_eq_false_iff_ne.2 (by omega)
  have d2 : (x.op == 2) = false := beq_eq_false_iff_ne.2 (by omega)
  have d3 : (x.op == 3) = true := by rw [ho]; rfl
  have d4 : (x.op == 4) = false := beq_eq_false_iff_ne.2 (by omega)
  have d5 : (x.op == 5) = false := beq_eq_false_iff_ne.2 (by omega)
  have d6 : (x.op == 6) = false := beq_eq_false_iff_ne.2 (by omega)
  unfold fwdP at hR
  simp only [e1] at hR
  rw [if_neg (by omega), if_neg (by omega), if_pos ho] at hR
  rw [hvi] at hR
  have c6 := lsplit_g row[i].s x.sep hs
  generalize hA : (splitV row[i].s.data.toList x.sep.data.toList).1 = A at *
  generalize hB : (splitV row[i].s.data.toList x.sep.data.toList).2 = B at *
  have c7 : ∀ (σ : Nat → AB) (r : Nat), σ r = .vec (row.map Val.av) 27 3 → _ := fun σ r hσ => rep_acV (row.map Val.av) ([A, B].map Val.av) i (i + 1) row.length 2 (by omega) (by omega) (by decide) hln (by rfl) (qdi row) (qcy row) (qdi _) (qcy _) (by omega) (by omega) (fun m => by rw [← List.map_take, ← List.map_drop, ← List.map_append, ← List.map_append]; exact Val.avs_cl _ m) (σ := σ) (r := r) hσ
  refine qj Tryz.func59 Tryz.ntmps59 fun σ n0 hcl hft => ?_
  repeat' (first | ((first | ((with_reducible refine qf (fun hg => ?_) (fun hg => ?_)) <;> (try simp only [hg]) <;> (try simp only [gS] at hg) <;> (try (first | simp only [eq_false hg, gI] | simp only [eq_true hg, gI]))) | refine Stp.m ?_ | refine qbd c3 ?_ | refine qfm (n0 + 1) _ (c7 _ _ (by simp)) (by simp) ?_ | refine ql ?_ | refine agH ?_) <;> (try simp (disch := first | omega | simp) [qd, -qg, -qm, d0, d1, d2, d3, d4, d5, d6, h1, h2, hi2])) | with_reducible refine qbq (id := 8) [.cells [.int x.op, .str x.a, .str x.b, .str x.c, .str x.sep, .int x.n, .int x.value.k, .int x.value.n, .str x.value.s] 29, .vec (row.map Val.av) 27 3] [.R, .R, .R, .R, .R, .R, .R, .M, .R, .R, .R, .M, .M, .W, .W] (by kernel_rfl) (by kernel_rfl) (by simp) ?_ | refine sideA ?_ | refine qc fun K hK => ?_ | refine qa ?_ | refine qe ?_ | refine qb ?_ | (refine hK _ ?_; clear hK K) | clear hK K)
  rw [← hR]; simp
set_option maxRecDepth 4000 in
set_option maxHeartbeats 4000000 in
theorem fwd_op4 (x : Lens) (cols : List Col) (row : List Val) (hx : qbp x) (hc : cols.length ≤ 100) (hr0 : 1 ≤ row.length) (hr : row.length ≤ 100) (ho : x.op = 4) (i : Nat) (hi1 : findP cols x.a.toList = i) (hi2 : i < row.length) (k : Nat) (hk1 : findP cols x.b.toList = k) (hk2 : k < row.length) (hs : row[i].s.size + x.sep.size + row[k].s.size ≤ 1000000) (R : List Val) (hR : fwdP x cols row = R) : Gives Tryz.prog 59 [x.av, .sl (cols.map Col.av), .sl (row.map Val.av)] (.sl (R.map Val.av)) := by
  have c2 := qu cols x.a (by omega)
  have c3 := qcc row hr0 hr
  have c5 := qu cols x.b (by omega)
  have hln : (row.map Val.av).length = row.length := by simp
  rw [hi1] at c2
  have h1 : ((i : Int)).toNat = i := by omega
  have h2 : ((i : Int) + 1).toNat = i + 1 := by omega
  have hvi := qcr hi2
  have e1 : (findP cols x.a.toList).toNat = i := by omega
  rw [hk1] at c5
  have e2 : (findP cols x.b.toList).toNat = k := by omega
  have h3 : ((k : Int)).toNat = k := by omega
  have hvk := qcr hk2
  have d0 : (x.op == 0) = false := beq_eq_false_iff_ne.2 (by omega)
  have d1 : (x.op == 1) = false := beq_eq_false_iff_ne.2 (by omega)
  have d2 : (x.op == 2) = false := beq_eq_false_iff_ne.2 (by omega)
  have d3 : (x.op == 3) = false := beq_eq_false_iff_ne.2 (by omega)
  have d4 : (x.op == 4) = true := by rw [ho]; rfl
  have d5 : (x.op == 5) = false := beq_eq_false_iff_ne.2 (by omega)
  have d6 : (x.op == 6) = false := beq_eq_false_iff_ne.2 (by omega)
  unfold fwdP at hR
  simp only [e1, e2] at hR
  rw [if_neg (by omega), if_neg (by omega), if_neg (by omega), if_pos ho] at hR
  rw [hvi, hvk] at hR
  have c6 := lcut_g (row[i].s ++ x.sep ++ row[k].s) (by rw [ByteArray.size_append, ByteArray.size_append]; omega)
  have hd : (row[i].s ++ x.sep ++ row[k].s).data.toList = row[i].s.data.toList ++ x.sep.data.toList ++ row[k].s.data.toList := by simp
  rw [hd] at c6
  generalize hA : cutV (row[i].s.data.toList ++ x.sep.data.toList ++ row[k].s.data.toList) = A at *
  have c7 : ∀ (σ : Nat → AB) (r : Nat), σ r = .vec ((row.map Val.av).set i A.av) 27 3 → _ := fun σ r hσ => del_acV ((row.map Val.av).set i A.av) k row.length hk2 (by simp) (by rw [qbn]; exact qdi _) (by rw [qbn]; exact qcy _) (by omega) (fun m => by rw [qbn, ← qcm]; exact Val.avs_cl _ m) (σ := σ) (r := r) hσ
  refine qj Tryz.func59 Tryz.ntmps59 fun σ n0 hcl hft => ?_
  repeat' (first | ((first | ((with_reducible refine qf (fun hg => ?_) (fun hg => ?_)) <;> (try simp only [hg]) <;> (try simp only [gS] at hg) <;> (try (first | simp only [eq_false hg, gI] | simp only [eq_true hg, gI]))) | refine Stp.m ?_ | refine qbd c3 ?_ | refine qfm (n0 + 1) _ (c7 _ _ (by simp)) (by simp) ?_ | refine ql ?_ | refine agH ?_) <;> (try simp (disch := first | omega | simp) [qd, -qg, -qm, d0, d1, d2, d3, d4, d5, d6, h1, h2, h3, hi2, hk2])) | with_reducible refine awp_anyF (id := 12) [.cells [.int x.op, .str x.a, .str x.b, .str x.c, .str x.sep, .int x.n, .int x.value.k, .int x.value.n, .str x.value.s] 29, .unborn] 1 [.R, .R, .R, .R, .R, .R, .R, .R, .R, .R, .R, .R, .R, .R, .R, .R, .M, .N, .W] (by kernel_rfl) (by kernel_rfl) (by simp) ?_ | refine sideA ?_ | refine qc fun K hK => ?_ | refine qa ?_ | refine qe ?_ | refine qb ?_ | (refine hK _ ?_; clear hK K) | clear hK K)
  rw [← hR, qbn, ← qcm]
set_option maxRecDepth 4000 in
set_option maxHeartbeats 4000000 in
theorem fwd_op5 (x : Lens) (cols : List Col) (row : List Val) (hx : qbp x) (hc : cols.length ≤ 100) (hr0 : 1 ≤ row.length) (hr : row.length ≤ 100) (ho : x.op = 5) (i : Nat) (hi1 : findP cols x.a.toList = i) (hi2 : i < row.length) (hn : i64 row[i].n) (hs : row[i].s.size ≤ 1000000) (R : List Val) (hR : fwdP x cols row = R) : Gives Tryz.prog 59 [x.av, .sl (cols.map Col.av), .sl (row.map Val.av)] (.sl (R.map Val.av)) := by
  have c2 := qu cols x.a (by omega)
  have c3 := qcc row hr0 hr
  have c5 := qu cols x.b (by omega)
  have hln : (row.map Val.av).length = row.length := by simp
  rw [hi1] at c2
  have h1 : ((i : Int)).toNat = i := by omega
  have h2 : ((i : Int) + 1).toNat = i + 1 := by omega
  have hvi := qcr hi2
  have e1 : (findP cols x.a.toList).toNat = i := by omega
  have d0 : (x.op == 0) = false := beq_eq_false_iff_ne.2 (by omega)
  have d1 : (x.op == 1) = false := beq_eq_false_iff_ne.2 (by omega)
  have d2 : (x.op == 2) = false := beq_eq_false_iff_ne.2 (by omega)
  have d3 : (x.op == 3) = false := beq_eq_false_iff_ne.2 (by omega)
  have d4 : (x.op == 4) = false := beq_eq_false_iff_ne.2 (by omega)
  have d5 : (x.op == 5) = true := by rw [ho]; rfl
  have d6 : (x.op == 6) = false := beq_eq_false_iff_ne.2 (by omega)
  unfold fwdP at hR
  simp only [e1] at hR
  rw [if_neg (by omega), if_neg (by omega), if_neg (by omega), if_neg (by omega), if_pos ho] at hR
  rw [hvi] at hR
  have c6 := conv_g row[i] x.n x.value hn hs
  generalize hA : convP row[i] x.n x.value = A at *
  refine qj Tryz.func59 Tryz.ntmps59 fun σ n0 hcl hft => ?_
  repeat' (first | ((first | with_reducible refine qz ?_ | ((with_reducible refine qf (fun hg => ?_) (fun hg => ?_)) <;> (try simp only [hg]) <;> (try simp only [gS] at hg) <;> (try (first | simp only [eq_false hg, gI] | simp only [eq_true hg, gI]))) | refine Stp.m ?_ | refine qbd c3 ?_ | refine ql ?_ | refine agH ?_) <;> (try simp (disch := first | omega | simp) [qd, -qg, -qm, d0, d1, d2, d3, d4, d5, d6, h1, h2, hi2])) | with_reducible refine awp_anyF (id := 15) [.cells [.int x.op, .str x.a, .str x.b, .str x.c, .str x.sep, .int x.n, .int x.value.k, .int x.value.n, .str x.value.s] 29, .unborn] 1 [.R, .R, .R, .R, .R, .R, .R, .R, .R, .R, .M, .N, .W] (by kernel_rfl) (by kernel_rfl) (by simp) ?_ | refine sideA ?_ | refine qc fun K hK => ?_ | refine qa ?_ | refine qe ?_ | refine qb ?_ | (refine hK _ ?_; clear hK K) | clear hK K)
  refine ⟨qq 6 1 (k := row.length) (by simp) (by rfl) (by simp) ?_⟩
  repeat' (first | ((first | ((with_reducible refine qf (fun hg => ?_) (fun hg => ?_)) <;> (try simp only [hg]) <;> (try simp only [gS] at hg) <;> (try (first | simp only [eq_false hg, gI] | simp only [eq_true hg, gI]))) | refine Stp.m ?_) <;> (try simp (disch := first | omega | simp) [qd, -qg, -qm])) | refine sideA ?_ | refine qc fun K hK => ?_ | refine qa ?_ | refine qe ?_ | refine qb ?_ | (refine hK _ ?_; clear hK K) | clear hK K)
  rw [← hR, qbn]
set_option maxRecDepth 4000 in
set_option maxHeartbeats 4000000 in
theorem fwd_op6 (x : Lens) (cols : List Col) (row : List Val) (hx : qbp x) (hc : cols.length ≤ 100) (hr0 : 1 ≤ row.length) (hr : row.length ≤ 100) (ho : x.op = 6) (i : Nat) (hi1 : findP cols x.a.toList = i) (hi2 : i < row.length) (R : List Val) (hR : fwdP x cols row = R) : Gives Tryz.prog 59 [x.av, .sl (cols.map Col.av), .sl (row.map Val.av)] (.sl (R.map Val.av)) := by
  have c2 := qu cols x.a (by omega)
  have c3 := qcc row hr0 hr
  have c5 := qu cols x.b (by omega)
  have hln : (row.map Val.av).length = row.length := by simp
  rw [hi1] at c2
  have h1 : ((i : Int)).toNat = i := by omega
  have h2 : ((i : Int) + 1).toNat = i + 1 := by omega
  have hvi := qcr hi2
  have e1 : (findP cols x.a.toList).toNat = i := by omega
  have d0 : (x.op == 0) = false := beq_eq_false_iff_ne.2 (by omega)
  have d1 : (x.op == 1) = false := beq_eq_false_iff_ne.2 (by omega)
  have d2 : (x.op == 2) = false := beq_eq_false_iff_ne.2 (by omega)
  have d3 : (x.op == 3) = false := beq_eq_false_iff_ne.2 (by omega)
  have d4 : (x.op == 4) = false := beq_eq_false_iff_ne.2 (by omega)
  have d5 : (x.op == 5) = false := beq_eq_false_iff_ne.2 (by omega)
  have d6 : (x.op == 6) = true := by rw [ho]; rfl
  unfold fwdP at hR
  simp only [e1] at hR
  rw [if_neg (by omega), if_neg (by omega), if_neg (by omega), if_neg (by omega), if_neg (by omega), if_pos ho] at hR
  rw [hvi] at hR
  have c6 := qdb (IntKind.i64.wrap (row[i].n * x.n))
  refine qj Tryz.func59 Tryz.ntmps59 fun σ n0 hcl hft => ?_
  repeat' (first | ((first | with_reducible refine qz ?_ | ((with_reducible refine qf (fun hg => ?_) (fun hg => ?_)) <;> (try simp only [hg]) <;> (try simp only [gS] at hg) <;> (try (first | simp only [eq_false hg, gI] | simp only [eq_true hg, gI]))) | refine Stp.m ?_ | refine qbd c3 ?_ | refine ql ?_ | refine agH ?_) <;> (try simp (disch := first | omega | simp) [qd, -qg, -qm, d0, d1, d2, d3, d4, d5, d6, h1, h2, hi2])) | with_reducible refine awp_anyF (id := 17) [.cells [.int x.op, .str x.a, .str x.b, .str x.c, .str x.sep, .int x.n, .int x.value.k, .int x.value.n, .str x.value.s] 29, .unborn] 1 [.R, .R, .R, .R, .R, .R, .R, .R, .R, .R, .M, .N, .W] (by kernel_rfl) (by kernel_rfl) (by simp) ?_ | refine sideA ?_ | refine qc fun K hK => ?_ | refine qa ?_ | refine qe ?_ | refine qb ?_ | (refine hK _ ?_; clear hK K) | clear hK K)
  refine ⟨qq 6 1 (k := row.length) (by simp) (by rfl) (by simp) ?_⟩
  repeat' (first | ((first | ((with_reducible refine qf (fun hg => ?_) (fun hg => ?_)) <;> (try simp only [hg]) <;> (try simp only [gS] at hg) <;> (try (first | simp only [eq_false hg, gI] | simp only [eq_true hg, gI]))) | refine Stp.m ?_) <;> (try simp (disch := first | omega | simp) [qd, -qg, -qm])) | refine sideA ?_ | refine qc fun K hK => ?_ | refine qa ?_ | refine qe ?_ | refine qb ?_ | (refine hK _ ?_; clear hK K) | clear hK K)
  rw [← hR]; exact qbn row i ⟨0, IntKind.i64.wrap (row[i].n * x.n), ⟨#[]⟩⟩
end Go.Proofs.YtbkkjlcclddpdaaGreatDoor
