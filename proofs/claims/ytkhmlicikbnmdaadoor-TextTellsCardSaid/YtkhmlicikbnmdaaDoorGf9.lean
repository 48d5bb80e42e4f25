/- Walk of the reference of chapter 02: Pattern, row by row. -/
import Derived.Test.YtkhmlicikbnmdaaDoorGf4
import Derived.Test.YtkhmlicikbnmdaaDoorGf8
set_option linter.unusedSimpArgs false
set_option linter.unusedVariables false
namespace Go.Proofs.YtkhmlicikbnmdaaDoor
open Go.RowKit Go.Lib

/-- row i of the table, at k -/
def rho (L : List Pt) (s : List UInt8) (i k : Nat) : Bool := mat (L.take i) (s.take k)
theorem rho_zero (L : List Pt) (s : List UInt8) (k : Nat) (hk : k ≤ s.length) : rho L s 0 k = decide (k = 0) := by
  unfold rho
  rw [List.take_zero]
  show (s.take k).isEmpty = _
  cases k with
  | zero => rfl
  | succ k =>
    cases s with
    | nil => simp at hk
    | cons c s => rfl
theorem rho_star {L : List Pt} {s : List UInt8} {i k : Nat} (hi : i < L.length) (hx : L[i] = .star) (hk : k ≤ s.length) : rho L s (i + 1) k = (rho L s i k || (decide (0 < k) && rho L s (i + 1) (k - 1))) := by
  unfold rho
  rw [List.take_succ_eq_append_getElem hi, hx]
  exact row_star hk
theorem rho_one {L : List Pt} {s : List UInt8} {i k : Nat} (hi : i < L.length) (hx : L[i] ≠ .star) (hk : k < s.length) : rho L s (i + 1) (k + 1) = (rho L s i k && fitsP L[i] s[k]) := by
  unfold rho
  rw [List.take_succ_eq_append_getElem hi]
  exact row_one hx hk
theorem rho_none {L : List Pt} {s : List UInt8} {i : Nat} (hi : i < L.length) (hx : L[i] ≠ .star) : rho L s (i + 1) 0 = false := by
  unfold rho
  rw [List.take_succ_eq_append_getElem hi, List.take_zero]
  exact row_zero hx
theorem set_len {p : List UInt8} {L : List (Pt × List UInt8)} : ∀ (n : Nat) (p : List UInt8), p.length ≤ n → ∀ x ∈ rpP p, ∀ set neg, x.1 = .cls set neg → set.length ≤ p.length := fun n => by
  induction n with
  | zero =>
    intro p h x hx
    have : p = [] := List.eq_nil_of_length_eq_zero (by omega)
    subst this; cases hx
  | succ n ih =>
    intro p h x hx set neg he
    by_cases hp : p = []
    · subst hp; cases hx
    · have hl := head_len hp
      rw [rpP_cons hp] at hx
      rcases List.mem_cons.1 hx with rfl | hx
      · have hh : (head p).1 = .cls set neg := he
        obtain ⟨c, r, rfl⟩ := List.exists_cons_of_ne_nil hp
        by_cases h91 : c = 91
        · subst h91
          have h1 := head_cls (l := 91 :: r) (i := 0) (by simp) rfl
          rw [List.drop_zero] at h1
          rw [h1] at hh
          cases hc : classAt (91 :: r) 0 with
          | none => rw [hc] at hh; cases hh
          | some y =>
            obtain ⟨e, ng, st⟩ := y
            rw [hc] at hh
            cases hh
            exact (classAt_le hc).2.1
        · exfalso
          by_cases h42 : c = 42
          · subst h42; cases hh
          · by_cases h63 : c = 63
            · subst h63; cases hh
            · by_cases h92 : c = 92
              · subst h92
                cases r with
                | nil => cases hh
                | cons d r => cases hh
              · rw [head_byte (by simp [h42, h63, h91, h92])] at hh; cases hh
      · have := ih _ (by rw [List.length_drop]; omega) x hx set neg he
        rw [List.length_drop] at this; omega
set_option maxHeartbeats 4000000 in
theorem rpattern_g (p s : ByteArray) (hp : p.size ≤ 1000000) (hs : s.size ≤ 1000000) : Gives Tryd.prog 40 [.str p, .str s] (.bool (patP p.data.toList s.data.toList)) := by
  obtain ⟨R, hR⟩ : ∃ R, R = patP p.data.toList s.data.toList := ⟨_, rfl⟩
  rw [← hR]
  have hps : p.data.toList.length = p.size := by rw [← Lib.size_eq]
  have hss : s.data.toList.length = s.size := by rw [← Lib.size_eq]
  have c1 := rparts_g p hp
  have hsl := set_len (p := []) (L := []) _ p.data.toList (Nat.le_refl _)
  have hpp := rp_parts _ p.data.toList (Nat.le_refl _)
  have hLl0 : (rpP p.data.toList).length ≤ p.size := by have := rpF_len p.data.toList.length p.data.toList; rw [← Lib.size_eq] at this; unfold rpP; rw [← Lib.size_eq]; exact this
  obtain ⟨L, hL⟩ : ∃ L, L = rpP p.data.toList := ⟨_, rfl⟩
  rw [← hL] at c1 hsl hpp hLl0
  obtain ⟨ρ, hρ⟩ : ∃ ρ : Nat → Nat → Bool, ρ = rho (L.map (·.1)) s.data.toList := ⟨_, rfl⟩
  have r0 : ∀ k, k ≤ s.size → ρ 0 k = decide (k = 0) := fun k hk => by rw [hρ]; exact rho_zero _ _ k (by omega)
  have r1 : ∀ i k (h : i < L.length), L[i].1 = .star → k ≤ s.size → ρ (i + 1) k = (ρ i k || (decide (0 < k) && ρ (i + 1) (k - 1))) := fun i k h hx hk => by
    rw [hρ]; exact rho_star (by simpa using h) (by simpa using hx) (by omega)
  have r2 : ∀ i k (h : i < L.length) (h2 : k < s.data.size), L[i].1 ≠ .star → ρ (i + 1) (k + 1) = (ρ i k && fitsP L[i].1 s.data[k]) := fun i k h h2 hx => by
    rw [hρ]
    have := rho_one (L := L.map (·.1)) (s := s.data.toList) (i := i) (k := k) (by simpa using h) (by simpa using hx) (by simpa using h2)
    simpa using this
  have r3 : ∀ i (h : i < L.length), L[i].1 ≠ .star → ρ (i + 1) 0 = false := fun i h hx => by
    rw [hρ]; exact rho_none (by simpa using h) (by simpa using hx)
  have r4 : ρ L.length s.size = R := by
    rw [hρ, hR]
    unfold rho patP
    rw [← hpp, List.take_of_length_le (by simp), List.take_of_length_le (by omega)]
  clear hρ hpp hR
  obtain ⟨W, hW⟩ : ∃ W : Nat → List Bool, W = fun i => (List.range (s.size + 1)).map (ρ i) := ⟨_, rfl⟩
  have Wl : ∀ i, (W i).length = s.size + 1 := fun i => by rw [hW]; simp
  have Wg : ∀ i k (h : k < (W i).length), (W i)[k] = ρ i k := fun i k h => by subst hW; simp
  have W0 : ((List.replicate (s.size + 1) (AV.bool false)).set 0 (AV.bool true)) = (W 0).map AV.bool := by
    refine List.ext_getElem (by simp [Wl]) fun k h1 h2 => ?_
    rw [List.getElem_map, Wg, r0 k (by simp at h1; omega), List.getElem_set]
    by_cases hk : k = 0
    · subst hk; rfl
    · rw [if_neg fun h => hk h.symm]; simp [hk]
  clear hW
  have z1 : ((s.size + 1 : Nat) : Int) = (s.size : Int) + 1 := by omega
  have n0' : (0 : Int) ≤ (s.size : Int) + 1 := by omega
  have tn : ((s.size : Int) + 1).toNat = s.size + 1 := by omega
  have zb : s.size + 1 ≤ 281474976710656 := by omega
  refine gives_of_awp Tryd.func40 Tryd.ntmps40 rfl rfl (by decide) rfl (by intro n; simp) fun σ n0 hcl hft => ?_
  repeat' (first | ((first | ((with_reducible refine aguard (fun hg => ?_) (fun hg => ?_)) <;> (try simp only [hg]) <;> (try simp only [beq_iff_eq, beq_eq_false_iff_ne, ne_eq, decide_eq_true_eq, decide_eq_false_iff_not, bne_iff_ne, bne_eq_false_iff_eq] at hg) <;> (try (first | simp only [eq_false hg, if_true, if_false] | simp only [eq_true hg, if_true, if_false]))) | with_reducible refine aseq_step ?_ | with_reducible refine any_step' ?_ | with_reducible refine aseq_end ?_ | with_reducible refine any_end' ?_ | refine acall (c1) ?_ | refine agives (c1) ?_ | refine awp_condC ?_ | refine awp_exit ?_ | refine awp_skip ?_ | refine awp_ret ?_) <;> (try simp (disch := first | omega | simp) [wrap_i64, -aseqC, -anyC, n0', tn, zb])) | ((first | with_reducible refine sideG ?_ ?_ | with_reducible refine sideG2 ?_ ?_ | with_reducible refine sideS ?_ ?_ | with_reducible refine sideS2 ?_ ?_ | with_reducible refine sideS3 ?_ ?_ | with_reducible refine sideA ?_ ?_ | with_reducible refine sideA2 ?_ ?_ | with_reducible refine sideA3 ?_ ?_); (first | omega | assumption | (simp; done))) | (refine awp_seq_k fun K hK => ?_) | (refine awp_regionC ?_) | (refine awp_anyA true (by kernel_rfl) (by kernel_rfl) ?_) | (refine hK _ ?_; clear hK; clear K) | (clear hK; clear K; refine hK _ ?_; clear hK; clear K) | (clear hK; clear K; clear hK; clear K; refine hK _ ?_; clear hK; clear K) | refine awp_block ?_)
  refine awp_freezeR 6 0 (k := s.size + 1) (by simp) (by rfl) (by simp) ?_
  refine awp_pubR 6 (by simp [upd]; exact ⟨rfl, rfl⟩) ?_
  have hboolsC : ∀ (l : List Bool) (m : Nat), AV.cls m (l.map AV.bool) := fun l m => AV.cls_map (fun b => by simp) l
  have hboolsW : ∀ (l : List Bool), AV.wid (l.map AV.bool) 1 := fun l => AV.wid_map (f := AV.bool) (fun _ => rfl) l
  refine awp_loopC hcl (fun i : Nat => [(1, .str s), (5, .sl (rps L)), (6, .sl ((W i).map AV.bool)), (7, .int i)]) (fun _ => []) (fun i => i ≤ L.length) (fun i => L.length - i) 0 (Nat.zero_le _) (by simp [hboolsC]; exact W0) fun i hi => ?_
  by_cases hlt : i < L.length
  · have hWl1 := Wl (i + 1)
    have hWl0 := Wl i
    obtain ⟨F, hF⟩ : ∃ F : Nat → List AV, F = fun k => fillV AV.bool (AV.bool false) (W (i + 1)) k := ⟨_, rfl⟩
    have F0 : F 0 = List.replicate (s.size + 1) (AV.bool false) := by rw [hF]; dsimp only; rw [fillV_zero, hWl1]
    have FL : ∀ k, k ≤ s.size + 1 → (F k).length = s.size + 1 := fun k h => by rw [hF]; dsimp only; rw [fillV_len (by omega), hWl1]
    have FS : ∀ k, k ≤ s.size → (F k).set k (AV.bool (ρ (i + 1) k)) = F (k + 1) := fun k h => by
      have hkl : k < (W (i + 1)).length := by omega
      rw [hF, ← Wg (i + 1) k hkl]; exact fillV_set hkl
    have FG : ∀ k (h : k < (F k).length), k ≤ s.size → (F k)[k] = AV.bool false := fun k h h2 => by
      have := fillV_get (f := AV.bool) (z := AV.bool false) (L := W (i + 1)) (k := k) (by omega)
      have e : (F k)[k]? = some (AV.bool false) := by rw [hF]; exact this
      rw [List.getElem?_eq_getElem h] at e; exact Option.some.inj e
    have FC : ∀ k m, AV.cls m (F k) := fun k m => by rw [hF]; exact fillV_cls (fun _ => by simp) (by simp)
    have FA : F (s.size + 1) = (W (i + 1)).map AV.bool := by
      have := fillV_all (f := AV.bool) (z := AV.bool false) (L := W (i + 1))
      rw [hWl1] at this
      rw [hF]; exact this
    have FP : ∀ k (h : k - 1 < (F k).length), 1 ≤ k → k ≤ s.size + 1 → (F k)[k - 1] = AV.bool (ρ (i + 1) (k - 1)) := fun k h h1 h2 => by
      obtain ⟨j, rfl⟩ : ∃ j, k = j + 1 := ⟨k - 1, by omega⟩
      simp only [Nat.add_sub_cancel]
      simp only [← FS j (by omega), List.getElem_set_self]
    have FN : ∀ k, k ≤ s.size → ρ (i + 1) k = false → F (k + 1) = F k := fun k h h2 => by
      have h3 : k < (F k).length := by rw [FL k (by omega)]; omega
      rw [← FS k h, h2, ← FG k h3 h, List.set_getElem_self]
    clear hF
    repeat' (first | ((first | ((with_reducible refine aguard (fun hg => ?_) (fun hg => ?_)) <;> (try simp only [hg]) <;> (try simp only [beq_iff_eq, beq_eq_false_iff_ne, ne_eq, decide_eq_true_eq, decide_eq_false_iff_not, bne_iff_ne, bne_eq_false_iff_eq] at hg) <;> (try (first | simp only [eq_false hg, if_true, if_false] | simp only [eq_true hg, if_true, if_false]))) | with_reducible refine aseq_step ?_ | with_reducible refine any_step' ?_ | with_reducible refine aseq_end ?_ | with_reducible refine any_end' ?_ | refine awp_condC ?_ | refine awp_exit ?_ | refine awp_skip ?_ | refine awp_ret ?_) <;> (try simp (disch := first | omega | simp) [wrap_i64, -aseqC, -anyC, hlt, n0', tn, zb])) | ((first | with_reducible refine sideG ?_ ?_ | with_reducible refine sideG2 ?_ ?_ | with_reducible refine sideS ?_ ?_ | with_reducible refine sideS2 ?_ ?_ | with_reducible refine sideS3 ?_ ?_ | with_reducible refine sideA ?_ ?_ | with_reducible refine sideA2 ?_ ?_ | with_reducible refine sideA3 ?_ ?_); (first | omega | assumption | (simp; done))) | (refine awp_seq_k fun K hK => ?_) | (refine awp_regionC ?_) | (refine awp_anyA true (by kernel_rfl) (by kernel_rfl) ?_) | (refine hK _ ?_; clear hK; clear K) | (clear hK; clear K; refine hK _ ?_; clear hK; clear K) | (clear hK; clear K; clear hK; clear K; refine hK _ ?_; clear hK; clear K) | refine awp_block ?_)
    refine awp_loopC hcl (fun k : Nat => [(1, .str s), (5, .sl (rps L)), (6, .sl ((W i).map AV.bool)), (7, .int i), (8, .own n0 (s.size + 1)), (9, .int k)]) (fun k => [.vec (F k) 4 1]) (fun k => k ≤ s.size + 1) (fun k => s.size + 1 - k) 0 (Nat.zero_le _) (by simp [F0]; exact AV.cls_iff.2 fun x hx => by rw [(List.mem_replicate.1 hx).2]; simp) fun k hk => ?_
    by_cases hkt : k ≤ s.size
    · have hkl0 : k < (W i).length := by omega
      have gk := Wg i k hkl0
      have fl := FL k hk
      have fl' : k < (F k).length := by omega
      have fs := FS k hkt
      have fg := FG k fl' hkt
      have fin : ∀ X : List AV, X = F (k + 1) → ∃ b', b' ≤ s.size + 1 ∧ s.size + 1 - b' < s.size + 1 - k ∧ (X = F b' ∧ AV.cls (n0 + 1) (F b')) ∧ (k : Int) + 1 = (b' : Int) := fun X hX => ⟨k + 1, by omega, by omega, ⟨hX, FC _ _⟩, by omega⟩
      cases hx : L[i] with
      | mk x t =>
        by_cases hst : x = .star
        · subst hst
          have e1 := r1 i k hlt (by rw [hx]) hkt
          by_cases hk0 : k = 0
          · subst hk0
            rw [show decide (0 < 0) = false from rfl, Bool.false_and, Bool.or_false] at e1
            rw [e1] at fs
            cases hv : ρ i 0 with
            | true =>
              rw [hv] at fs gk
              repeat' (first | ((first | ((with_reducible refine aguard (fun hg => ?_) (fun hg => ?_)) <;> (try simp only [hg]) <;> (try simp only [beq_iff_eq, beq_eq_false_iff_ne, ne_eq, decide_eq_true_eq, decide_eq_false_iff_not, bne_iff_ne, bne_eq_false_iff_eq] at hg) <;> (try (first | simp only [eq_false hg, if_true, if_false] | simp only [eq_true hg, if_true, if_false]))) | with_reducible refine aseq_step ?_ | with_reducible refine any_step' ?_ | with_reducible refine aseq_end ?_ | with_reducible refine any_end' ?_ | refine awp_condC ?_ | refine awp_exit ?_ | refine awp_skip ?_ | refine awp_ret ?_) <;> (try simp (disch := first | omega | simp) [wrap_i64, -aseqC, -anyC, hlt, hx, partAv, hkt, hkl0, hWl0, gk, fl, fl', fs, fg, hboolsW])) | ((first | with_reducible refine sideG ?_ ?_ | with_reducible refine sideG2 ?_ ?_ | with_reducible refine sideS ?_ ?_ | with_reducible refine sideS2 ?_ ?_ | with_reducible refine sideS3 ?_ ?_ | with_reducible refine sideA ?_ ?_ | with_reducible refine sideA2 ?_ ?_ | with_reducible refine sideA3 ?_ ?_); (first | omega | assumption | (simp; done))) | (refine awp_seq_k fun K hK => ?_) | (refine awp_regionC ?_) | (refine awp_anyA true (by kernel_rfl) (by kernel_rfl) ?_) | (refine hK _ ?_; clear hK; clear K) | (clear hK; clear K; refine hK _ ?_; clear hK; clear K) | (clear hK; clear K; clear hK; clear K; refine hK _ ?_; clear hK; clear K) | refine awp_block ?_)
              all_goals exact ⟨1, by omega, by omega, rfl, FC _ _, rfl⟩
            | false =>
              rw [hv] at fs gk
              repeat' (first | ((first | ((with_reducible refine aguard (fun hg => ?_) (fun hg => ?_)) <;> (try simp only [hg]) <;> (try simp only [beq_iff_eq, beq_eq_false_iff_ne, ne_eq, decide_eq_true_eq, decide_eq_false_iff_not, bne_iff_ne, bne_eq_false_iff_eq] at hg) <;> (try (first | simp only [eq_false hg, if_true, if_false] | simp only [eq_true hg, if_true, if_false]))) | with_reducible refine aseq_step ?_ | with_reducible refine any_step' ?_ | with_reducible refine aseq_end ?_ | with_reducible refine any_end' ?_ | refine awp_condC ?_ | refine awp_exit ?_ | refine awp_skip ?_ | refine awp_ret ?_) <;> (try simp (disch := first | omega | simp) [wrap_i64, -aseqC, -anyC, hlt, hx, partAv, hkt, hkl0, hWl0, gk, fl, fl', fs, fg, hboolsW])) | ((first | with_reducible refine sideG ?_ ?_ | with_reducible refine sideG2 ?_ ?_ | with_reducible refine sideS ?_ ?_ | with_reducible refine sideS2 ?_ ?_ | with_reducible refine sideS3 ?_ ?_ | with_reducible refine sideA ?_ ?_ | with_reducible refine sideA2 ?_ ?_ | with_reducible refine sideA3 ?_ ?_); (first | omega | assumption | (simp; done))) | (refine awp_seq_k fun K hK => ?_) | (refine awp_regionC ?_) | (refine awp_anyA true (by kernel_rfl) (by kernel_rfl) ?_) | (refine hK _ ?_; clear hK; clear K) | (clear hK; clear K; refine hK _ ?_; clear hK; clear K) | (clear hK; clear K; clear hK; clear K; refine hK _ ?_; clear hK; clear K) | refine awp_block ?_)
              all_goals exact ⟨1, by omega, by omega, rfl, FC _ _, rfl⟩
          · have hk1 : 0 < k := by omega
            have hk1' : (0 : Int) < k := by omega
            have k1 : k - 1 < (F k).length := by omega
            have kk : (1 : Int) ≤ k := by omega
            have kk2 : (k : Int) - 1 < (s.size : Int) + 1 := by omega
            have kk3 : ((k : Int) - 1).toNat = k - 1 := by omega
            have fp := FP k k1 (by omega) hk
            rw [decide_eq_true hk1, Bool.true_and] at e1
            rw [e1] at fs
            cases hv : ρ i k with
            | true =>
              rw [hv, Bool.true_or] at fs
              rw [hv] at gk
              repeat' (first | ((first | ((with_reducible refine aguard (fun hg => ?_) (fun hg => ?_)) <;> (try simp only [hg]) <;> (try simp only [beq_iff_eq, beq_eq_false_iff_ne, ne_eq, decide_eq_true_eq, decide_eq_false_iff_not, bne_iff_ne, bne_eq_false_iff_eq] at hg) <;> (try (first | simp only [eq_false hg, if_true, if_false] | simp only [eq_true hg, if_true, if_false]))) | with_reducible refine aseq_step ?_ | with_reducible refine any_step' ?_ | with_reducible refine aseq_end ?_ | with_reducible refine any_end' ?_ | refine awp_condC ?_ | refine awp_exit ?_ | refine awp_skip ?_ | refine awp_ret ?_) <;> (try simp (disch := first | omega | simp) [wrap_i64, -aseqC, -anyC, hlt, hx, partAv, hkt, hkl0, hWl0, gk, fl, fl', fs, fg, hboolsW, hk0, hk1, hk1', k1, kk, kk2, kk3, fp])) | ((first | with_reducible refine sideG ?_ ?_ | with_reducible refine sideG2 ?_ ?_ | with_reducible refine sideS ?_ ?_ | with_reducible refine sideS2 ?_ ?_ | with_reducible refine sideS3 ?_ ?_ | with_reducible refine sideA ?_ ?_ | with_reducible refine sideA2 ?_ ?_ | with_reducible refine sideA3 ?_ ?_); (first | omega | assumption | (simp; done))) | (refine awp_seq_k fun K hK => ?_) | (refine awp_regionC ?_) | (refine awp_anyA true (by kernel_rfl) (by kernel_rfl) ?_) | (refine hK _ ?_; clear hK; clear K) | (clear hK; clear K; refine hK _ ?_; clear hK; clear K) | (clear hK; clear K; clear hK; clear K; refine hK _ ?_; clear hK; clear K) | refine awp_block ?_)
              all_goals exact ⟨k + 1, by omega, by omega, rfl, FC _ _, by omega⟩
            | false =>
              rw [hv, Bool.false_or] at fs
              rw [hv] at gk
              repeat' (first | ((first | ((with_reducible refine aguard (fun hg => ?_) (fun hg => ?_)) <;> (try simp only [hg]) <;> (try simp only [beq_iff_eq, beq_eq_false_iff_ne, ne_eq, decide_eq_true_eq, decide_eq_false_iff_not, bne_iff_ne, bne_eq_false_iff_eq] at hg) <;> (try (first | simp only [eq_false hg, if_true, if_false] | simp only [eq_true hg, if_true, if_false]))) | with_reducible refine aseq_step ?_ | with_reducible refine any_step' ?_ | with_reducible refine aseq_end ?_ | with_reducible refine any_end' ?_ | refine awp_condC ?_ | refine awp_exit ?_ | refine awp_skip ?_ | refine awp_ret ?_) <;> (try simp (disch := first | omega | simp) [wrap_i64, -aseqC, -anyC, hlt, hx, partAv, hkt, hkl0, hWl0, gk, fl, fl', fs, fg, hboolsW, hk0, hk1, hk1', k1, kk, kk2, kk3, fp])) | ((first | with_reducible refine sideG ?_ ?_ | with_reducible refine sideG2 ?_ ?_ | with_reducible refine sideS ?_ ?_ | with_reducible refine sideS2 ?_ ?_ | with_reducible refine sideS3 ?_ ?_ | with_reducible refine sideA ?_ ?_ | with_reducible refine sideA2 ?_ ?_ | with_reducible refine sideA3 ?_ ?_); (first | omega | assumption | (simp; done))) | (refine awp_seq_k fun K hK => ?_) | (refine awp_regionC ?_) | (refine awp_anyA true (by kernel_rfl) (by kernel_rfl) ?_) | (refine hK _ ?_; clear hK; clear K) | (clear hK; clear K; refine hK _ ?_; clear hK; clear K) | (clear hK; clear K; clear hK; clear K; refine hK _ ?_; clear hK; clear K) | refine awp_block ?_)
              all_goals exact ⟨k + 1, by omega, by omega, rfl, FC _ _, by omega⟩
        · by_cases hk0 : k = 0
          · subst hk0
            have fn := FN 0 hkt (r3 i hlt (by rw [hx]; exact hst))
            cases x with
            | star => exact absurd rfl hst
            | byte b =>
              repeat' (first | ((first | ((with_reducible refine aguard (fun hg => ?_) (fun hg => ?_)) <;> (try simp only [hg]) <;> (try simp only [beq_iff_eq, beq_eq_false_iff_ne, ne_eq, decide_eq_true_eq, decide_eq_false_iff_not, bne_iff_ne, bne_eq_false_iff_eq] at hg) <;> (try (first | simp only [eq_false hg, if_true, if_false] | simp only [eq_true hg, if_true, if_false]))) | with_reducible refine aseq_step ?_ | with_reducible refine any_step' ?_ | with_reducible refine aseq_end ?_ | with_reducible refine any_end' ?_ | refine awp_condC ?_ | refine awp_exit ?_ | refine awp_skip ?_ | refine awp_ret ?_) <;> (try simp (disch := first | omega | simp) [wrap_i64, -aseqC, -anyC, hlt, hx, partAv, hkt])) | ((first | with_reducible refine sideG ?_ ?_ | with_reducible refine sideG2 ?_ ?_ | with_reducible refine sideS ?_ ?_ | with_reducible refine sideS2 ?_ ?_ | with_reducible refine sideS3 ?_ ?_ | with_reducible refine sideA ?_ ?_ | with_reducible refine sideA2 ?_ ?_ | with_reducible refine sideA3 ?_ ?_); (first | omega | assumption | (simp; done))) | (refine awp_seq_k fun K hK => ?_) | (refine awp_regionC ?_) | (refine awp_anyA true (by kernel_rfl) (by kernel_rfl) ?_) | (refine hK _ ?_; clear hK; clear K) | (clear hK; clear K; refine hK _ ?_; clear hK; clear K) | (clear hK; clear K; clear hK; clear K; refine hK _ ?_; clear hK; clear K) | refine awp_block ?_)
              all_goals exact ⟨1, by omega, by omega, fn.symm, FC _ _, rfl⟩
            | any =>
              repeat' (first | ((first | ((with_reducible refine aguard (fun hg => ?_) (fun hg => ?_)) <;> (try simp only [hg]) <;> (try simp only [beq_iff_eq, beq_eq_false_iff_ne, ne_eq, decide_eq_true_eq, decide_eq_false_iff_not, bne_iff_ne, bne_eq_false_iff_eq] at hg) <;> (try (first | simp only [eq_false hg, if_true, if_false] | simp only [eq_true hg, if_true, if_false]))) | with_reducible refine aseq_step ?_ | with_reducible refine any_step' ?_ | with_reducible refine aseq_end ?_ | with_reducible refine any_end' ?_ | refine awp_condC ?_ | refine awp_exit ?_ | refine awp_skip ?_ | refine awp_ret ?_) <;> (try simp (disch := first | omega | simp) [wrap_i64, -aseqC, -anyC, hlt, hx, partAv, hkt])) | ((first | with_reducible refine sideG ?_ ?_ | with_reducible refine sideG2 ?_ ?_ | with_reducible refine sideS ?_ ?_ | with_reducible refine sideS2 ?_ ?_ | with_reducible refine sideS3 ?_ ?_ | with_reducible refine sideA ?_ ?_ | with_reducible refine sideA2 ?_ ?_ | with_reducible refine sideA3 ?_ ?_); (first | omega | assumption | (simp; done))) | (refine awp_seq_k fun K hK => ?_) | (refine awp_regionC ?_) | (refine awp_anyA true (by kernel_rfl) (by kernel_rfl) ?_) | (refine hK _ ?_; clear hK; clear K) | (clear hK; clear K; refine hK _ ?_; clear hK; clear K) | (clear hK; clear K; clear hK; clear K; refine hK _ ?_; clear hK; clear K) | refine awp_block ?_)
              all_goals exact ⟨1, by omega, by omega, fn.symm, FC _ _, rfl⟩
            | cls set neg =>
              repeat' (first | ((first | ((with_reducible refine aguard (fun hg => ?_) (fun hg => ?_)) <;> (try simp only [hg]) <;> (try simp only [beq_iff_eq, beq_eq_false_iff_ne, ne_eq, decide_eq_true_eq, decide_eq_false_iff_not, bne_iff_ne, bne_eq_false_iff_eq] at hg) <;> (try (first | simp only [eq_false hg, if_true, if_false] | simp only [eq_true hg, if_true, if_false]))) | with_reducible refine aseq_step ?_ | with_reducible refine any_step' ?_ | with_reducible refine aseq_end ?_ | with_reducible refine any_end' ?_ | refine awp_condC ?_ | refine awp_exit ?_ | refine awp_skip ?_ | refine awp_ret ?_) <;> (try simp (disch := first | omega | simp) [wrap_i64, -aseqC, -anyC, hlt, hx, partAv, hkt])) | ((first | with_reducible refine sideG ?_ ?_ | with_reducible refine sideG2 ?_ ?_ | with_reducible refine sideS ?_ ?_ | with_reducible refine sideS2 ?_ ?_ | with_reducible refine sideS3 ?_ ?_ | with_reducible refine sideA ?_ ?_ | with_reducible refine sideA2 ?_ ?_ | with_reducible refine sideA3 ?_ ?_); (first | omega | assumption | (simp; done))) | (refine awp_seq_k fun K hK => ?_) | (refine awp_regionC ?_) | (refine awp_anyA true (by kernel_rfl) (by kernel_rfl) ?_) | (refine hK _ ?_; clear hK; clear K) | (clear hK; clear K; refine hK _ ?_; clear hK; clear K) | (clear hK; clear K; clear hK; clear K; refine hK _ ?_; clear hK; clear K) | refine awp_block ?_)
              all_goals exact ⟨1, by omega, by omega, fn.symm, FC _ _, rfl⟩
          · obtain ⟨j, rfl⟩ : ∃ j, k = j + 1 := ⟨k - 1, by omega⟩
            have hj : j < s.size := by omega
            have hj3 : j < s.data.size := hj
            have hjl : j < (W i).length := by omega
            have gj := Wg i j hjl
            have hk1 : (0 : Int) < (j : Int) + 1 := by omega
            have hkt2 : (j : Int) + 1 ≤ s.size := by omega
            have q0 : (0 : Int) ≤ (j : Int) + 1 := by omega
            have q1 : (j : Int) + 1 < (s.size : Int) + 1 := by omega
            have q2 : ((j : Int) + 1).toNat = j + 1 := by omega
            have q3 : (j : Int) < (s.size : Int) + 1 := by omega
            have e2 := r2 i j hlt hj3 (by rw [hx]; exact hst)
            rw [hx] at e2
            have cf := rfits_g x t s.data[j] hst fun set neg h => by
              have := hsl _ (List.getElem_mem hlt) set neg (by rw [hx]; exact h)
              omega
            rw [e2] at fs
            generalize hfv : fitsP x s.data[j] = v at cf fs
            cases hv : ρ i j with
            | false =>
              rw [hv, Bool.false_and] at fs
              rw [hv] at gj
              cases x with
              | star => exact absurd rfl hst
              | byte b =>
                repeat' (first | ((first | ((with_reducible refine aguard (fun hg => ?_) (fun hg => ?_)) <;> (try simp only [hg]) <;> (try simp only [beq_iff_eq, beq_eq_false_iff_ne, ne_eq, decide_eq_true_eq, decide_eq_false_iff_not, bne_iff_ne, bne_eq_false_iff_eq] at hg) <;> (try (first | simp only [eq_false hg, if_true, if_false] | simp only [eq_true hg, if_true, if_false]))) | with_reducible refine aseq_step ?_ | with_reducible refine any_step' ?_ | with_reducible refine aseq_end ?_ | with_reducible refine any_end' ?_ | refine awp_condC ?_ | refine awp_exit ?_ | refine awp_skip ?_ | refine awp_ret ?_) <;> (try simp (disch := first | omega | simp) [wrap_i64, -aseqC, -anyC, hlt, hx, partAv, hkt, hkt2, hj, hj3, hjl, hkl0, hWl0, gj, fl, fl', fs, fg, hboolsW, hk1, q0, q1, q2, q3])) | ((first | with_reducible refine sideG ?_ ?_ | with_reducible refine sideG2 ?_ ?_ | with_reducible refine sideS ?_ ?_ | with_reducible refine sideS2 ?_ ?_ | with_reducible refine sideS3 ?_ ?_ | with_reducible refine sideA ?_ ?_ | with_reducible refine sideA2 ?_ ?_ | with_reducible refine sideA3 ?_ ?_); (first | omega | assumption | (simp; done))) | (refine awp_seq_k fun K hK => ?_) | (refine awp_regionC ?_) | (refine awp_anyA true (by kernel_rfl) (by kernel_rfl) ?_) | (refine hK _ ?_; clear hK; clear K) | (clear hK; clear K; refine hK _ ?_; clear hK; clear K) | (clear hK; clear K; clear hK; clear K; refine hK _ ?_; clear hK; clear K) | refine awp_block ?_)
                all_goals first | exact ⟨j + 1 + 1, by omega, by omega, rfl, FC _ _, by omega⟩
              | any =>
                repeat' (first | ((first | ((with_reducible refine aguard (fun hg => ?_) (fun hg => ?_)) <;> (try simp only [hg]) <;> (try simp only [beq_iff_eq, beq_eq_false_iff_ne, ne_eq, decide_eq_true_eq, decide_eq_false_iff_not, bne_iff_ne, bne_eq_false_iff_eq] at hg) <;> (try (first | simp only [eq_false hg, if_true, if_false] | simp only [eq_true hg, if_true, if_false]))) | with_reducible refine aseq_step ?_ | with_reducible refine any_step' ?_ | with_reducible refine aseq_end ?_ | with_reducible refine any_end' ?_ | refine awp_condC ?_ | refine awp_exit ?_ | refine awp_skip ?_ | refine awp_ret ?_) <;> (try simp (disch := first | omega | simp) [wrap_i64, -aseqC, -anyC, hlt, hx, partAv, hkt, hkt2, hj, hj3, hjl, hkl0, hWl0, gj, fl, fl', fs, fg, hboolsW, hk1, q0, q1, q2, q3])) | ((first | with_reducible refine sideG ?_ ?_ | with_reducible refine sideG2 ?_ ?_ | with_reducible refine sideS ?_ ?_ | with_reducible refine sideS2 ?_ ?_ | with_reducible refine sideS3 ?_ ?_ | with_reducible refine sideA ?_ ?_ | with_reducible refine sideA2 ?_ ?_ | with_reducible refine sideA3 ?_ ?_); (first | omega | assumption | (simp; done))) | (refine awp_seq_k fun K hK => ?_) | (refine awp_regionC ?_) | (refine awp_anyA true (by kernel_rfl) (by kernel_rfl) ?_) | (refine hK _ ?_; clear hK; clear K) | (clear hK; clear K; refine hK _ ?_; clear hK; clear K) | (clear hK; clear K; clear hK; clear K; refine hK _ ?_; clear hK; clear K) | refine awp_block ?_)
                all_goals first | exact ⟨j + 1 + 1, by omega, by omega, rfl, FC _ _, by omega⟩
              | cls set neg =>
                repeat' (first | ((first | ((with_reducible refine aguard (fun hg => ?_) (fun hg => ?_)) <;> (try simp only [hg]) <;> (try simp only [beq_iff_eq, beq_eq_false_iff_ne, ne_eq, decide_eq_true_eq, decide_eq_false_iff_not, bne_iff_ne, bne_eq_false_iff_eq] at hg) <;> (try (first | simp only [eq_false hg, if_true, if_false] | simp only [eq_true hg, if_true, if_false]))) | with_reducible refine aseq_step ?_ | with_reducible refine any_step' ?_ | with_reducible refine aseq_end ?_ | with_reducible refine any_end' ?_ | refine awp_condC ?_ | refine awp_exit ?_ | refine awp_skip ?_ | refine awp_ret ?_) <;> (try simp (disch := first | omega | simp) [wrap_i64, -aseqC, -anyC, hlt, hx, partAv, hkt, hkt2, hj, hj3, hjl, hkl0, hWl0, gj, fl, fl', fs, fg, hboolsW, hk1, q0, q1, q2, q3])) | ((first | with_reducible refine sideG ?_ ?_ | with_reducible refine sideG2 ?_ ?_ | with_reducible refine sideS ?_ ?_ | with_reducible refine sideS2 ?_ ?_ | with_reducible refine sideS3 ?_ ?_ | with_reducible refine sideA ?_ ?_ | with_reducible refine sideA2 ?_ ?_ | with_reducible refine sideA3 ?_ ?_); (first | omega | assumption | (simp; done))) | (refine awp_seq_k fun K hK => ?_) | (refine awp_regionC ?_) | (refine awp_anyA true (by kernel_rfl) (by kernel_rfl) ?_) | (refine hK _ ?_; clear hK; clear K) | (clear hK; clear K; refine hK _ ?_; clear hK; clear K) | (clear hK; clear K; clear hK; clear K; refine hK _ ?_; clear hK; clear K) | refine awp_block ?_)
                all_goals first | exact ⟨j + 1 + 1, by omega, by omega, rfl, FC _ _, by omega⟩
            | true =>
              rw [hv, Bool.true_and] at fs
              rw [hv] at gj
              cases x with
              | star => exact absurd rfl hst
              | byte b =>
                have cf' : Gives Tryd.prog 64 [.agg [.int 0, .byte b, .str ByteArray.empty, .bool false, .str (bytesA t)], .v (.int .u8 s.data[j].toNat)] (.bool v) := cf
                repeat' (first | ((first | ((with_reducible refine aguard (fun hg => ?_) (fun hg => ?_)) <;> (try simp only [hg]) <;> (try simp only [beq_iff_eq, beq_eq_false_iff_ne, ne_eq, decide_eq_true_eq, decide_eq_false_iff_not, bne_iff_ne, bne_eq_false_iff_eq] at hg) <;> (try (first | simp only [eq_false hg, if_true, if_false] | simp only [eq_true hg, if_true, if_false]))) | with_reducible refine aseq_step ?_ | with_reducible refine any_step' ?_ | with_reducible refine aseq_end ?_ | with_reducible refine any_end' ?_ | refine acall (cf') ?_ | refine agives (cf') ?_ | refine awp_condC ?_ | refine awp_exit ?_ | refine awp_skip ?_ | refine awp_ret ?_) <;> (try simp (disch := first | omega | simp) [wrap_i64, -aseqC, -anyC, hlt, hx, partAv, hkt, hkt2, hj, hj3, hjl, hkl0, hWl0, gj, fl, fl', fs, fg, hboolsW, hk1, q0, q1, q2, q3])) | ((first | with_reducible refine sideG ?_ ?_ | with_reducible refine sideG2 ?_ ?_ | with_reducible refine sideS ?_ ?_ | with_reducible refine sideS2 ?_ ?_ | with_reducible refine sideS3 ?_ ?_ | with_reducible refine sideA ?_ ?_ | with_reducible refine sideA2 ?_ ?_ | with_reducible refine sideA3 ?_ ?_); (first | omega | assumption | (simp; done))) | (refine awp_seq_k fun K hK => ?_) | (refine awp_regionC ?_) | (refine awp_anyA true (by kernel_rfl) (by kernel_rfl) ?_) | (refine hK _ ?_; clear hK; clear K) | (clear hK; clear K; refine hK _ ?_; clear hK; clear K) | (clear hK; clear K; clear hK; clear K; refine hK _ ?_; clear hK; clear K) | refine awp_block ?_)
                all_goals first | exact ⟨j + 1 + 1, by omega, by omega, rfl, FC _ _, by omega⟩
              | any =>
                have cf' : Gives Tryd.prog 64 [.agg [.int 2, .byte 63, .str ByteArray.empty, .bool false, .str (bytesA t)], .v (.int .u8 s.data[j].toNat)] (.bool v) := cf
                repeat' (first | ((first | ((with_reducible refine aguard (fun hg => ?_) (fun hg => ?_)) <;> (try simp only [hg]) <;> (try simp only [beq_iff_eq, beq_eq_false_iff_ne, ne_eq, decide_eq_true_eq, decide_eq_false_iff_not, bne_iff_ne, bne_eq_false_iff_eq] at hg) <;> (try (first | simp only [eq_false hg, if_true, if_false] | simp only [eq_true hg, if_true, if_false]))) | with_reducible refine aseq_step ?_ | with_reducible refine any_step' ?_ | with_reducible refine aseq_end ?_ | with_reducible refine any_end' ?_ | refine acall (cf') ?_ | refine agives (cf') ?_ | refine awp_condC ?_ | refine awp_exit ?_ | refine awp_skip ?_ | refine awp_ret ?_) <;> (try simp (disch := first | omega | simp) [wrap_i64, -aseqC, -anyC, hlt, hx, partAv, hkt, hkt2, hj, hj3, hjl, hkl0, hWl0, gj, fl, fl', fs, fg, hboolsW, hk1, q0, q1, q2, q3])) | ((first | with_reducible refine sideG ?_ ?_ | with_reducible refine sideG2 ?_ ?_ | with_reducible refine sideS ?_ ?_ | with_reducible refine sideS2 ?_ ?_ | with_reducible refine sideS3 ?_ ?_ | with_reducible refine sideA ?_ ?_ | with_reducible refine sideA2 ?_ ?_ | with_reducible refine sideA3 ?_ ?_); (first | omega | assumption | (simp; done))) | (refine awp_seq_k fun K hK => ?_) | (refine awp_regionC ?_) | (refine awp_anyA true (by kernel_rfl) (by kernel_rfl) ?_) | (refine hK _ ?_; clear hK; clear K) | (clear hK; clear K; refine hK _ ?_; clear hK; clear K) | (clear hK; clear K; clear hK; clear K; refine hK _ ?_; clear hK; clear K) | refine awp_block ?_)
                all_goals first | exact ⟨j + 1 + 1, by omega, by omega, rfl, FC _ _, by omega⟩
              | cls set neg =>
                have cf' : Gives Tryd.prog 64 [.agg [.int 3, .byte 0, .str (bytesA set), .bool neg, .str (bytesA t)], .v (.int .u8 s.data[j].toNat)] (.bool v) := cf
                repeat' (first | ((first | ((with_reducible refine aguard (fun hg => ?_) (fun hg => ?_)) <;> (try simp only [hg]) <;> (try simp only [beq_iff_eq, beq_eq_false_iff_ne, ne_eq, decide_eq_true_eq, decide_eq_false_iff_not, bne_iff_ne, bne_eq_false_iff_eq] at hg) <;> (try (first | simp only [eq_false hg, if_true, if_false] | simp only [eq_true hg, if_true, if_false]))) | with_reducible refine aseq_step ?_ | with_reducible refine any_step' ?_ | with_reducible refine aseq_end ?_ | with_reducible refine any_end' ?_ | refine acall (cf') ?_ | refine agives (cf') ?_ | refine awp_condC ?_ | refine awp_exit ?_ | refine awp_skip ?_ | refine awp_ret ?_) <;> (try simp (disch := first | omega | simp) [wrap_i64, -aseqC, -anyC, hlt, hx, partAv, hkt, hkt2, hj, hj3, hjl, hkl0, hWl0, gj, fl, fl', fs, fg, hboolsW, hk1, q0, q1, q2, q3])) | ((first | with_reducible refine sideG ?_ ?_ | with_reducible refine sideG2 ?_ ?_ | with_reducible refine sideS ?_ ?_ | with_reducible refine sideS2 ?_ ?_ | with_reducible refine sideS3 ?_ ?_ | with_reducible refine sideA ?_ ?_ | with_reducible refine sideA2 ?_ ?_ | with_reducible refine sideA3 ?_ ?_); (first | omega | assumption | (simp; done))) | (refine awp_seq_k fun K hK => ?_) | (refine awp_regionC ?_) | (refine awp_anyA true (by kernel_rfl) (by kernel_rfl) ?_) | (refine hK _ ?_; clear hK; clear K) | (clear hK; clear K; refine hK _ ?_; clear hK; clear K) | (clear hK; clear K; clear hK; clear K; refine hK _ ?_; clear hK; clear K) | refine awp_block ?_)
                all_goals first | exact ⟨j + 1 + 1, by omega, by omega, rfl, FC _ _, by omega⟩
    · obtain rfl : k = s.size + 1 := by omega
      refine awp_freezeR 8 0 (k := s.size + 1) (by simp) (by rfl) (FL _ (Nat.le_refl _)).symm ?_
      refine awp_pubR 8 (by simp [upd]; exact ⟨rfl, rfl⟩) ?_
      rw [FA]
      have hkt' : ¬ (s.size : Int) + 1 ≤ s.size := by omega
      repeat' (first | ((first | ((with_reducible refine aguard (fun hg => ?_) (fun hg => ?_)) <;> (try simp only [hg]) <;> (try simp only [beq_iff_eq, beq_eq_false_iff_ne, ne_eq, decide_eq_true_eq, decide_eq_false_iff_not, bne_iff_ne, bne_eq_false_iff_eq] at hg) <;> (try (first | simp only [eq_false hg, if_true, if_false] | simp only [eq_true hg, if_true, if_false]))) | with_reducible refine aseq_step ?_ | with_reducible refine any_step' ?_ | with_reducible refine aseq_end ?_ | with_reducible refine any_end' ?_ | refine awp_condC ?_ | refine awp_exit ?_ | refine awp_skip ?_ | refine awp_ret ?_) <;> (try simp (disch := first | omega | simp) [wrap_i64, -aseqC, -anyC, hkt, hkt'])) | ((first | with_reducible refine sideG ?_ ?_ | with_reducible refine sideG2 ?_ ?_ | with_reducible refine sideS ?_ ?_ | with_reducible refine sideS2 ?_ ?_ | with_reducible refine sideS3 ?_ ?_ | with_reducible refine sideA ?_ ?_ | with_reducible refine sideA2 ?_ ?_ | with_reducible refine sideA3 ?_ ?_); (first | omega | assumption | (simp; done))) | (refine awp_seq_k fun K hK => ?_) | (refine awp_regionC ?_) | (refine awp_anyA true (by kernel_rfl) (by kernel_rfl) ?_) | (refine hK _ ?_; clear hK; clear K) | (clear hK; clear K; refine hK _ ?_; clear hK; clear K) | (clear hK; clear K; clear hK; clear K; refine hK _ ?_; clear hK; clear K) | refine awp_block ?_)
      all_goals exact ⟨i + 1, by omega, by omega, by simp [hboolsC], by omega⟩
  · obtain rfl : i = L.length := by omega
    have hWl := Wl L.length
    have hg := Wg L.length s.size (by rw [hWl]; omega)
    rw [r4] at hg
    have hlt3 : s.size < (W L.length).length := by omega
    repeat' (first | ((first | ((with_reducible refine aguard (fun hg => ?_) (fun hg => ?_)) <;> (try simp only [hg]) <;> (try simp only [beq_iff_eq, beq_eq_false_iff_ne, ne_eq, decide_eq_true_eq, decide_eq_false_iff_not, bne_iff_ne, bne_eq_false_iff_eq] at hg) <;> (try (first | simp only [eq_false hg, if_true, if_false] | simp only [eq_true hg, if_true, if_false]))) | with_reducible refine aseq_step ?_ | with_reducible refine any_step' ?_ | with_reducible refine aseq_end ?_ | with_reducible refine any_end' ?_ | refine awp_condC ?_ | refine awp_exit ?_ | refine awp_skip ?_ | refine awp_ret ?_) <;> (try simp (disch := first | omega | simp) [wrap_i64, -aseqC, -anyC, hlt, hlt3, hWl, hg, hboolsW])) | ((first | with_reducible refine sideG ?_ ?_ | with_reducible refine sideG2 ?_ ?_ | with_reducible refine sideS ?_ ?_ | with_reducible refine sideS2 ?_ ?_ | with_reducible refine sideS3 ?_ ?_ | with_reducible refine sideA ?_ ?_ | with_reducible refine sideA2 ?_ ?_ | with_reducible refine sideA3 ?_ ?_); (first | omega | assumption | (simp; done))) | (refine awp_seq_k fun K hK => ?_) | (refine awp_regionC ?_) | (refine awp_anyA true (by kernel_rfl) (by kernel_rfl) ?_) | (refine hK _ ?_; clear hK; clear K) | (clear hK; clear K; refine hK _ ?_; clear hK; clear K) | (clear hK; clear K; clear hK; clear K; refine hK _ ?_; clear hK; clear K) | refine awp_block ?_)
end Go.Proofs.YtkhmlicikbnmdaaDoor
