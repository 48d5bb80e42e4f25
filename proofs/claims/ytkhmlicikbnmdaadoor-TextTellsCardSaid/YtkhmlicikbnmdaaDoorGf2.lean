/- Walks of the reference of chapter 02: Quote. -/
import Derived.Test.YtkhmlicikbnmdaaDoorGa22
import Derived.Test.YtkhmlicikbnmdaaDoorGa25
import Derived.Test.YtkhmlicikbnmdaaDoorGf1
set_option linter.unusedSimpArgs false
set_option linter.unusedVariables false
namespace Go.Proofs.YtkhmlicikbnmdaaDoor
open Go.RowKit Go.Lib

theorem tb_map (l : List UInt8) : l.map (AV.toByte ∘ AV.byte) = l := by
  conv => rhs; rw [← List.map_id l]
  exact List.map_congr_left fun c _ => by show UInt8.ofNat ((c.toNat : Int)).toNat = c; simp
set_option maxHeartbeats 4000000 in
theorem rquote_g (s : ByteArray) (hs : s.size ≤ 1000000) : Gives Tryd.prog 36 [.str s] (.str (bytesA (qP s.data.toList))) := by
  obtain ⟨l, hl⟩ : ∃ l, l = s.data.toList := ⟨_, rfl⟩
  have hsz : l.length = s.size := by rw [hl, ← Lib.size_eq]
  rw [← hl]
  refine gives_of_awp Tryd.func36 Tryd.ntmps36 rfl rfl (by decide) rfl (by intro n; simp) fun σ n0 hcl hft => ?_
  repeat' (first | ((first | ((with_reducible refine aguard (fun hg => ?_) (fun hg => ?_)) <;> (try simp only [hg]) <;> (try simp only [beq_iff_eq, beq_eq_false_iff_ne, ne_eq, decide_eq_true_eq, decide_eq_false_iff_not, bne_iff_ne, bne_eq_false_iff_eq] at hg) <;> (try (first | simp only [eq_false hg, if_true, if_false] | simp only [eq_true hg, if_true, if_false]))) | with_reducible refine aseq_step ?_ | with_reducible refine any_step' ?_ | with_reducible refine aseq_end ?_ | with_reducible refine any_end' ?_ | with_reducible refine awp_regionL (id := 1) ?_ | refine awp_condC ?_ | refine awp_exit ?_ | refine awp_skip ?_ | refine awp_ret ?_) <;> (try simp (disch := first | omega | simp) [wrap_i64, -aseqC, -anyC])) | ((first | with_reducible refine sideG ?_ ?_ | with_reducible refine sideG2 ?_ ?_ | with_reducible refine sideS ?_ ?_ | with_reducible refine sideS2 ?_ ?_ | with_reducible refine sideS3 ?_ ?_ | with_reducible refine sideA ?_ ?_ | with_reducible refine sideA2 ?_ ?_ | with_reducible refine sideA3 ?_ ?_); (first | omega | assumption | (simp; done))) | (refine awp_seq_k fun K hK => ?_) | (refine awp_regionC ?_) | (refine awp_anyA true (by kernel_rfl) (by kernel_rfl) ?_) | (refine hK _ ?_; clear hK; clear K) | (clear hK; clear K; refine hK _ ?_; clear hK; clear K) | (clear hK; clear K; clear hK; clear K; refine hK _ ?_; clear hK; clear K) | refine awp_block ?_)
  refine awp_freezeR 3 0 (k := 1) (by simp) (by rfl) (by simp) ?_
  refine awp_loopC hcl (fun k : Nat => [(0, .str s), (3, .gs (n0 + 1) ((34 :: qmid (l.take k)).map AV.byte)), (4, .int k)]) (fun k => [.dead, .tail (34 :: qmid (l.take k)).length 5 1])
    (fun k => k ≤ l.length) (fun k => l.length - k) 0 (Nat.zero_le _) (by simp [qmid, AV.byte]) fun k hk => ?_
  have hq := qmid_len (l.take k)
  rw [List.length_take] at hq
  have hb : AV.isBs ((qmid (l.take k)).map AV.byte) := AV.isBs_bytes _
  by_cases hlt : k < l.length
  · have hlt2 : k < s.size := by omega
    have hlt3 : k < s.data.size := hlt2
    have hget : s.data[k] = l[k] := by simp [hl]
    have hc := l[k].toNat_lt
    obtain ⟨a, ha⟩ : ∃ a, a = l[k].toNat / 16 := ⟨_, rfl⟩
    obtain ⟨b, hb16⟩ : ∃ b, b = l[k].toNat % 16 := ⟨_, rfl⟩
    have ha2 : a < 16 := by omega
    have hb2 : b < 16 := by omega
    have ha1 : IntKind.u8.wrap ((l[k].toNat : Int) / 16) = a := by rw [wrap_u8 (by omega) (by omega)]; omega
    have hb1 : (l[k].toNat : Int).tmod 16 = b := by rw [Int.tmod_eq_emod_of_nonneg (by omega)]; omega
    have hqt := qmid_take (l := l) hlt
    have hlen := congrArg List.length hqt
    rw [List.length_append] at hlen
    have e34 : l[k].toNat = 34 ↔ l[k] = 34 := ⟨fun h => UInt8.toNat_inj.1 h, fun h => by rw [h]; rfl⟩
    have e92 : l[k].toNat = 92 ↔ l[k] = 92 := ⟨fun h => UInt8.toNat_inj.1 h, fun h => by rw [h]; rfl⟩
    have e10 : l[k].toNat = 10 ↔ l[k] = 10 := ⟨fun h => UInt8.toNat_inj.1 h, fun h => by rw [h]; rfl⟩
    repeat' (first | ((first | ((with_reducible refine aguard (fun hg => ?_) (fun hg => ?_)) <;> (try simp only [hg]) <;> (try simp only [beq_iff_eq, beq_eq_false_iff_ne, ne_eq, decide_eq_true_eq, decide_eq_false_iff_not, bne_iff_ne, bne_eq_false_iff_eq] at hg) <;> (try (first | simp only [eq_false hg, if_true, if_false] | simp only [eq_true hg, if_true, if_false]))) | with_reducible refine aseq_step ?_ | with_reducible refine any_step' ?_ | with_reducible refine aseq_end ?_ | with_reducible refine any_end' ?_ | refine awp_condC ?_ | refine awp_exit ?_ | refine awp_skip ?_ | refine awp_ret ?_) <;> (try simp (disch := first | omega | simp) [wrap_i64, -aseqC, -anyC, hlt, hlt2, hlt3, hget, ha1, hb1, ha2, hb2])) | ((first | with_reducible refine sideG ?_ ?_ | with_reducible refine sideG2 ?_ ?_ | with_reducible refine sideS ?_ ?_ | with_reducible refine sideS2 ?_ ?_ | with_reducible refine sideS3 ?_ ?_ | with_reducible refine sideA ?_ ?_ | with_reducible refine sideA2 ?_ ?_ | with_reducible refine sideA3 ?_ ?_); (first | omega | assumption | (simp; done))) | (refine awp_seq_k fun K hK => ?_) | (refine awp_regionC ?_) | (refine awp_anyA true (by kernel_rfl) (by kernel_rfl) ?_) | (refine hK _ ?_; clear hK; clear K) | (clear hK; clear K; refine hK _ ?_; clear hK; clear K) | (clear hK; clear K; clear hK; clear K; refine hK _ ?_; clear hK; clear K) | refine awp_block ?_)
    all_goals first
      | (have hqc : qB l[k] = [92, l[k]] := by
          unfold qB; rw [if_pos (by first | exact .inl (e34.1 (by omega)) | exact .inr (e92.1 (by omega)))]
         rw [hqc] at hqt hlen
         exact ⟨k + 1, by omega, by omega, by rw [hlen]; rfl, by rw [hqt, List.map_append]; rfl, by omega⟩)
      | (have hn : ¬ (l[k] = 34 ∨ l[k] = 92) := by rintro (h | h); exact absurd (e34.2 h) (by omega); exact absurd (e92.2 h) (by omega)
         first
         | (have hqc : qB l[k] = [92, 110] := by unfold qB; rw [if_neg hn, if_pos (e10.1 (by omega))]
            rw [hqc] at hqt hlen
            exact ⟨k + 1, by omega, by omega, by rw [hlen]; rfl, by rw [hqt, List.map_append]; rfl, by omega⟩)
         | (have hn2 : ¬ l[k] = 10 := fun h => absurd (e10.2 h) (by omega)
            first
            | (have hqc : qB l[k] = [l[k]] := by unfold qB; rw [if_neg hn, if_neg hn2, if_pos (by omega)]
               rw [hqc] at hqt hlen
               exact ⟨k + 1, by omega, by omega, by rw [hlen]; rfl, by rw [hqt, List.map_append]; rfl, by omega⟩)
            | (have hqc : qB l[k] = [92, 120, hexd a, hexd b] := by unfold qB; rw [if_neg hn, if_neg hn2, if_neg (by omega), ← ha, ← hb16]
               rw [hqc] at hqt hlen
               exact ⟨k + 1, by omega, by omega, by rw [hlen]; rfl, by rw [hqt, List.map_append, hex_l a ha2, hex_l b hb2]; rfl, by omega⟩)))
  · obtain rfl : k = l.length := by omega
    rw [List.take_length] at hb hq ⊢
    have hnlt : ¬ l.length < s.size := by omega
    repeat' (first | ((first | ((with_reducible refine aguard (fun hg => ?_) (fun hg => ?_)) <;> (try simp only [hg]) <;> (try simp only [beq_iff_eq, beq_eq_false_iff_ne, ne_eq, decide_eq_true_eq, decide_eq_false_iff_not, bne_iff_ne, bne_eq_false_iff_eq] at hg) <;> (try (first | simp only [eq_false hg, if_true, if_false] | simp only [eq_true hg, if_true, if_false]))) | with_reducible refine aseq_step ?_ | with_reducible refine any_step' ?_ | with_reducible refine aseq_end ?_ | with_reducible refine any_end' ?_ | refine awp_condC ?_ | refine awp_exit ?_ | refine awp_skip ?_ | refine awp_ret ?_) <;> (try simp (disch := first | omega | simp) [wrap_i64, -aseqC, -anyC, hnlt, hb])) | ((first | with_reducible refine sideG ?_ ?_ | with_reducible refine sideG2 ?_ ?_ | with_reducible refine sideS ?_ ?_ | with_reducible refine sideS2 ?_ ?_ | with_reducible refine sideS3 ?_ ?_ | with_reducible refine sideA ?_ ?_ | with_reducible refine sideA2 ?_ ?_ | with_reducible refine sideA3 ?_ ?_); (first | omega | assumption | (simp; done))) | (refine awp_seq_k fun K hK => ?_) | (refine awp_regionC ?_) | (refine awp_anyA true (by kernel_rfl) (by kernel_rfl) ?_) | (refine hK _ ?_; clear hK; clear K) | (clear hK; clear K; refine hK _ ?_; clear hK; clear K) | (clear hK; clear K; clear hK; clear K; refine hK _ ?_; clear hK; clear K) | refine awp_block ?_)
    rw [tb_map]; rfl
end Go.Proofs.YtkhmlicikbnmdaaDoor

/- Walks of the reference of chapter 02: Unlines, Escape, digit. -/
namespace Go.Proofs.YtkhmlicikbnmdaaDoor
open Go.RowKit Go.Lib

set_option maxHeartbeats 2000000 in
theorem runlines_g (L : List (List UInt8)) (hL : L.length ≤ 1000000) (hs : (unlinesP L).length ≤ 1000000000) : Gives Tryd.prog 38 [.sl (strs L)] (.str (bytesA (unlinesP L))) := by
  refine gives_of_awp Tryd.func38 Tryd.ntmps38 rfl rfl (by decide) rfl (by intro n; simp) fun σ n0 hcl hft => ?_
  repeat' (first | ((first | ((with_reducible refine aguard (fun hg => ?_) (fun hg => ?_)) <;> (try simp only [hg]) <;> (try simp only [beq_iff_eq, beq_eq_false_iff_ne, ne_eq, decide_eq_true_eq, decide_eq_false_iff_not, bne_iff_ne, bne_eq_false_iff_eq] at hg) <;> (try (first | simp only [eq_false hg, if_true, if_false] | simp only [eq_true hg, if_true, if_false]))) | with_reducible refine aseq_step ?_ | with_reducible refine any_step' ?_ | with_reducible refine aseq_end ?_ | with_reducible refine any_end' ?_ | refine awp_condC ?_ | refine awp_exit ?_ | refine awp_skip ?_ | refine awp_ret ?_) <;> (try simp (disch := first | omega | simp) [wrap_i64, -aseqC, -anyC])) | ((first | with_reducible refine sideG ?_ ?_ | with_reducible refine sideG2 ?_ ?_ | with_reducible refine sideS ?_ ?_ | with_reducible refine sideS2 ?_ ?_ | with_reducible refine sideS3 ?_ ?_ | with_reducible refine sideA ?_ ?_ | with_reducible refine sideA2 ?_ ?_ | with_reducible refine sideA3 ?_ ?_); (first | omega | assumption | (simp; done))) | (refine awp_seq_k fun K hK => ?_) | (refine awp_regionC ?_) | (refine awp_anyA true (by kernel_rfl) (by kernel_rfl) ?_) | (refine hK _ ?_; clear hK; clear K) | (clear hK; clear K; refine hK _ ?_; clear hK; clear K) | (clear hK; clear K; clear hK; clear K; refine hK _ ?_; clear hK; clear K) | refine awp_block ?_)
  refine awp_loopC hcl (fun k : Nat => [(0, .sl (strs L)), (3, .str (bytesA (unlinesP (L.take k)))), (4, .int k)]) (fun _ => []) (fun k => k ≤ L.length) (fun k => L.length - k) 0 (Nat.zero_le _) (by simp [unlinesP]; rfl) fun k hk => ?_
  have hle := unlines_le (L := L) k
  by_cases hlt : k < L.length
  · have hle2 := unlines_le (L := L) (k + 1)
    have ht := unlines_take hlt
    have htl := congrArg List.length ht
    rw [List.length_append, List.length_append, List.length_singleton] at htl
    have hsz := bytesA_size L[k]
    have z1 : (unlinesP (L.take k)).length + L[k].length ≤ 9223372036854775807 := by omega
    have z2 : (unlinesP (L.take k)).length + L[k].length + 1 ≤ 9223372036854775807 := by omega
    have e : bytesA (unlinesP (L.take k)) ++ bytesA L[k] ++ ⟨#[10]⟩ = bytesA (unlinesP (L.take (k + 1))) := by
      rw [ht, bytesA_append, bytesA_append, ByteArray.append_assoc]; rfl
    repeat' (first | ((first | ((with_reducible refine aguard (fun hg => ?_) (fun hg => ?_)) <;> (try simp only [hg]) <;> (try simp only [beq_iff_eq, beq_eq_false_iff_ne, ne_eq, decide_eq_true_eq, decide_eq_false_iff_not, bne_iff_ne, bne_eq_false_iff_eq] at hg) <;> (try (first | simp only [eq_false hg, if_true, if_false] | simp only [eq_true hg, if_true, if_false]))) | with_reducible refine aseq_step ?_ | with_reducible refine any_step' ?_ | with_reducible refine aseq_end ?_ | with_reducible refine any_end' ?_ | refine awp_condC ?_ | refine awp_exit ?_ | refine awp_skip ?_ | refine awp_ret ?_) <;> (try simp (disch := first | omega | simp) [wrap_i64, -aseqC, -anyC, hlt, hsz, z1, z2, bytesA_size])) | ((first | with_reducible refine sideG ?_ ?_ | with_reducible refine sideG2 ?_ ?_ | with_reducible refine sideS ?_ ?_ | with_reducible refine sideS2 ?_ ?_ | with_reducible refine sideS3 ?_ ?_ | with_reducible refine sideA ?_ ?_ | with_reducible refine sideA2 ?_ ?_ | with_reducible refine sideA3 ?_ ?_); (first | omega | assumption | (simp; done))) | (refine awp_seq_k fun K hK => ?_) | (refine awp_regionC ?_) | (refine awp_anyA true (by kernel_rfl) (by kernel_rfl) ?_) | (refine hK _ ?_; clear hK; clear K) | (clear hK; clear K; refine hK _ ?_; clear hK; clear K) | (clear hK; clear K; clear hK; clear K; refine hK _ ?_; clear hK; clear K) | refine awp_block ?_)
    all_goals exact ⟨k + 1, by omega, by omega, by first | exact e | (rw [← e, ByteArray.append_assoc]), by omega⟩
  · obtain rfl : k = L.length := by omega
    rw [List.take_length]
    repeat' (first | ((first | ((with_reducible refine aguard (fun hg => ?_) (fun hg => ?_)) <;> (try simp only [hg]) <;> (try simp only [beq_iff_eq, beq_eq_false_iff_ne, ne_eq, decide_eq_true_eq, decide_eq_false_iff_not, bne_iff_ne, bne_eq_false_iff_eq] at hg) <;> (try (first | simp only [eq_false hg, if_true, if_false] | simp only [eq_true hg, if_true, if_false]))) | with_reducible refine aseq_step ?_ | with_reducible refine any_step' ?_ | with_reducible refine aseq_end ?_ | with_reducible refine any_end' ?_ | refine awp_condC ?_ | refine awp_exit ?_ | refine awp_skip ?_ | refine awp_ret ?_) <;> (try simp (disch := first | omega | simp) [wrap_i64, -aseqC, -anyC, hlt])) | ((first | with_reducible refine sideG ?_ ?_ | with_reducible refine sideG2 ?_ ?_ | with_reducible refine sideS ?_ ?_ | with_reducible refine sideS2 ?_ ?_ | with_reducible refine sideS3 ?_ ?_ | with_reducible refine sideA ?_ ?_ | with_reducible refine sideA2 ?_ ?_ | with_reducible refine sideA3 ?_ ?_); (first | omega | assumption | (simp; done))) | (refine awp_seq_k fun K hK => ?_) | (refine awp_regionC ?_) | (refine awp_anyA true (by kernel_rfl) (by kernel_rfl) ?_) | (refine hK _ ?_; clear hK; clear K) | (clear hK; clear K; refine hK _ ?_; clear hK; clear K) | (clear hK; clear K; clear hK; clear K; refine hK _ ?_; clear hK; clear K) | refine awp_block ?_)
set_option maxHeartbeats 2000000 in
theorem rescape_g (s : ByteArray) (hs : s.size ≤ 1000000) : Gives Tryd.prog 43 [.str s] (.str (bytesA (escP s.data.toList))) := by
  obtain ⟨l, hl⟩ : ∃ l, l = s.data.toList := ⟨_, rfl⟩
  have hsz : l.length = s.size := by rw [hl, ← Lib.size_eq]
  rw [← hl]
  refine gives_of_awp Tryd.func43 Tryd.ntmps43 rfl rfl (by decide) rfl (by intro n; simp) fun σ n0 hcl hft => ?_
  repeat' (first | ((first | ((with_reducible refine aguard (fun hg => ?_) (fun hg => ?_)) <;> (try simp only [hg]) <;> (try simp only [beq_iff_eq, beq_eq_false_iff_ne, ne_eq, decide_eq_true_eq, decide_eq_false_iff_not, bne_iff_ne, bne_eq_false_iff_eq] at hg) <;> (try (first | simp only [eq_false hg, if_true, if_false] | simp only [eq_true hg, if_true, if_false]))) | with_reducible refine aseq_step ?_ | with_reducible refine any_step' ?_ | with_reducible refine aseq_end ?_ | with_reducible refine any_end' ?_ | refine awp_condC ?_ | refine awp_exit ?_ | refine awp_skip ?_ | refine awp_ret ?_) <;> (try simp (disch := first | omega | simp) [wrap_i64, -aseqC, -anyC])) | ((first | with_reducible refine sideG ?_ ?_ | with_reducible refine sideG2 ?_ ?_ | with_reducible refine sideS ?_ ?_ | with_reducible refine sideS2 ?_ ?_ | with_reducible refine sideS3 ?_ ?_ | with_reducible refine sideA ?_ ?_ | with_reducible refine sideA2 ?_ ?_ | with_reducible refine sideA3 ?_ ?_); (first | omega | assumption | (simp; done))) | (refine awp_seq_k fun K hK => ?_) | (refine awp_regionC ?_) | (refine awp_anyA true (by kernel_rfl) (by kernel_rfl) ?_) | (refine hK _ ?_; clear hK; clear K) | (clear hK; clear K; refine hK _ ?_; clear hK; clear K) | (clear hK; clear K; clear hK; clear K; refine hK _ ?_; clear hK; clear K) | refine awp_block ?_)
  refine awp_adoptR 3 5 1 (by simp) ?_
  refine awp_loopC hcl (fun k : Nat => [(0, .str s), (3, .gs n0 ((escP (l.take k)).map AV.byte)), (4, .int k)]) (fun k => [.tail (escP (l.take k)).length 5 1])
    (fun k => k ≤ l.length) (fun k => l.length - k) 0 (Nat.zero_le _) (by simp) fun k hk => ?_
  have hq := esc_len (l.take k)
  rw [List.length_take] at hq
  have hb : AV.isBs ((escP (l.take k)).map AV.byte) := AV.isBs_bytes _
  by_cases hlt : k < l.length
  · have hlt2 : k < s.size := by omega
    have hlt3 : k < s.data.size := hlt2
    have hget : s.data[k] = l[k] := by simp [hl]
    have ht := esc_take hlt
    have htl := congrArg List.length ht
    rw [List.length_append] at htl
    have nn : ∀ k' : UInt8, l[k] ≠ k' → ¬ (l[k].toNat : Int) = k'.toNat := fun k' h h2 => h (UInt8.toNat_inj.1 (by omega))
    by_cases hc : l[k] = 42 ∨ l[k] = 63 ∨ l[k] = 91 ∨ l[k] = 92
    · rw [if_pos hc] at ht htl
      have hc4 : l[k].toNat = 42 ∨ l[k].toNat = 63 ∨ l[k].toNat = 91 ∨ l[k].toNat = 92 := by
        rcases hc with h | h | h | h <;> rw [h] <;> simp
      repeat' (first | ((first | ((with_reducible refine aguard (fun hg => ?_) (fun hg => ?_)) <;> (try simp only [hg]) <;> (try simp only [beq_iff_eq, beq_eq_false_iff_ne, ne_eq, decide_eq_true_eq, decide_eq_false_iff_not, bne_iff_ne, bne_eq_false_iff_eq] at hg) <;> (try (first | simp only [eq_false hg, if_true, if_false] | simp only [eq_true hg, if_true, if_false]))) | with_reducible refine aseq_step ?_ | with_reducible refine any_step' ?_ | with_reducible refine aseq_end ?_ | with_reducible refine any_end' ?_ | refine awp_condC ?_ | refine awp_exit ?_ | refine awp_skip ?_ | refine awp_ret ?_) <;> (try simp (disch := first | omega | simp) [wrap_i64, -aseqC, -anyC, hlt, hlt2, hlt3, hget])) | ((first | with_reducible refine sideG ?_ ?_ | with_reducible refine sideG2 ?_ ?_ | with_reducible refine sideS ?_ ?_ | with_reducible refine sideS2 ?_ ?_ | with_reducible refine sideS3 ?_ ?_ | with_reducible refine sideA ?_ ?_ | with_reducible refine sideA2 ?_ ?_ | with_reducible refine sideA3 ?_ ?_); (first | omega | assumption | (simp; done))) | (refine awp_seq_k fun K hK => ?_) | (refine awp_regionC ?_) | (refine awp_anyA true (by kernel_rfl) (by kernel_rfl) ?_) | (refine hK _ ?_; clear hK; clear K) | (clear hK; clear K; refine hK _ ?_; clear hK; clear K) | (clear hK; clear K; clear hK; clear K; refine hK _ ?_; clear hK; clear K) | refine awp_block ?_)
      all_goals first
        | (exfalso; omega)
        | exact ⟨k + 1, by omega, by omega, by rw [htl]; simp, by rw [ht]; simp [AV.byte], by omega⟩
    · rw [if_neg hc] at ht htl
      have g42 : ¬ (l[k].toNat : Int) = 42 := nn 42 fun h => hc (.inl h)
      have g63 : ¬ (l[k].toNat : Int) = 63 := nn 63 fun h => hc (.inr (.inl h))
      have g91 : ¬ (l[k].toNat : Int) = 91 := nn 91 fun h => hc (.inr (.inr (.inl h)))
      have g92 : ¬ (l[k].toNat : Int) = 92 := nn 92 fun h => hc (.inr (.inr (.inr h)))
      repeat' (first | ((first | ((with_reducible refine aguard (fun hg => ?_) (fun hg => ?_)) <;> (try simp only [hg]) <;> (try simp only [beq_iff_eq, beq_eq_false_iff_ne, ne_eq, decide_eq_true_eq, decide_eq_false_iff_not, bne_iff_ne, bne_eq_false_iff_eq] at hg) <;> (try (first | simp only [eq_false hg, if_true, if_false] | simp only [eq_true hg, if_true, if_false]))) | with_reducible refine aseq_step ?_ | with_reducible refine any_step' ?_ | with_reducible refine aseq_end ?_ | with_reducible refine any_end' ?_ | refine awp_condC ?_ | refine awp_exit ?_ | refine awp_skip ?_ | refine awp_ret ?_) <;> (try simp (disch := first | omega | simp) [wrap_i64, -aseqC, -anyC, hlt, hlt2, hlt3, hget, g42, g63, g91, g92])) | ((first | with_reducible refine sideG ?_ ?_ | with_reducible refine sideG2 ?_ ?_ | with_reducible refine sideS ?_ ?_ | with_reducible refine sideS2 ?_ ?_ | with_reducible refine sideS3 ?_ ?_ | with_reducible refine sideA ?_ ?_ | with_reducible refine sideA2 ?_ ?_ | with_reducible refine sideA3 ?_ ?_); (first | omega | assumption | (simp; done))) | (refine awp_seq_k fun K hK => ?_) | (refine awp_regionC ?_) | (refine awp_anyA true (by kernel_rfl) (by kernel_rfl) ?_) | (refine hK _ ?_; clear hK; clear K) | (clear hK; clear K; refine hK _ ?_; clear hK; clear K) | (clear hK; clear K; clear hK; clear K; refine hK _ ?_; clear hK; clear K) | refine awp_block ?_)
      all_goals first
        | exact absurd (by assumption) g42 | exact absurd (by assumption) g63 | exact absurd (by assumption) g91 | exact absurd (by assumption) g92
        | exact ⟨k + 1, by omega, by omega, by rw [htl]; simp, by rw [ht]; simp [AV.byte], by omega⟩
  · obtain rfl : k = l.length := by omega
    have hnlt : ¬ l.length < s.size := by omega
    rw [List.take_length] at *
    repeat' (first | ((first | ((with_reducible refine aguard (fun hg => ?_) (fun hg => ?_)) <;> (try simp only [hg]) <;> (try simp only [beq_iff_eq, beq_eq_false_iff_ne, ne_eq, decide_eq_true_eq, decide_eq_false_iff_not, bne_iff_ne, bne_eq_false_iff_eq] at hg) <;> (try (first | simp only [eq_false hg, if_true, if_false] | simp only [eq_true hg, if_true, if_false]))) | with_reducible refine aseq_step ?_ | with_reducible refine any_step' ?_ | with_reducible refine aseq_end ?_ | with_reducible refine any_end' ?_ | refine awp_condC ?_ | refine awp_exit ?_ | refine awp_skip ?_ | refine awp_ret ?_) <;> (try simp (disch := first | omega | simp) [wrap_i64, -aseqC, -anyC, hnlt, hb])) | ((first | with_reducible refine sideG ?_ ?_ | with_reducible refine sideG2 ?_ ?_ | with_reducible refine sideS ?_ ?_ | with_reducible refine sideS2 ?_ ?_ | with_reducible refine sideS3 ?_ ?_ | with_reducible refine sideA ?_ ?_ | with_reducible refine sideA2 ?_ ?_ | with_reducible refine sideA3 ?_ ?_); (first | omega | assumption | (simp; done))) | (refine awp_seq_k fun K hK => ?_) | (refine awp_regionC ?_) | (refine awp_anyA true (by kernel_rfl) (by kernel_rfl) ?_) | (refine hK _ ?_; clear hK; clear K) | (clear hK; clear K; refine hK _ ?_; clear hK; clear K) | (clear hK; clear K; clear hK; clear K; refine hK _ ?_; clear hK; clear K) | refine awp_block ?_)
    all_goals (rw [tb_map]; rfl)
def digP (c : UInt8) : Nat → Nat → UInt8
  | 0, _ => 0
  | f + 1, i => if hexd i = c then UInt8.ofNat i else digP c f (i + 1)
theorem digP_lt (c : UInt8) : ∀ f i, i + f ≤ 16 → (digP c f i).toNat < 16
  | 0, _, _ => (by decide : (0 : UInt8).toNat < 16)
  | f + 1, i, h => by
    rw [digP]
    split
    · rw [UInt8.toNat_ofNat']; omega
    · exact digP_lt c f (i + 1) (by omega)
set_option maxHeartbeats 1000000 in
theorem rdigit_g (c : UInt8) : Gives Tryd.prog 62 [.v (.int .u8 c.toNat)] (.v (.int .u8 (digP c 16 0).toNat)) := by
  obtain ⟨R, hR⟩ : ∃ R, R = digP c 16 0 := ⟨_, rfl⟩
  rw [← hR]
  refine gives_of_awp Tryd.func62 Tryd.ntmps62 rfl rfl (by decide) rfl (by intro n; simp) fun σ n0 hcl hft => ?_
  repeat' (first | ((first | ((with_reducible refine aguard (fun hg => ?_) (fun hg => ?_)) <;> (try simp only [hg]) <;> (try simp only [beq_iff_eq, beq_eq_false_iff_ne, ne_eq, decide_eq_true_eq, decide_eq_false_iff_not, bne_iff_ne, bne_eq_false_iff_eq] at hg) <;> (try (first | simp only [eq_false hg, if_true, if_false] | simp only [eq_true hg, if_true, if_false]))) | with_reducible refine aseq_step ?_ | with_reducible refine any_step' ?_ | with_reducible refine aseq_end ?_ | with_reducible refine any_end' ?_ | refine awp_condC ?_ | refine awp_exit ?_ | refine awp_skip ?_ | refine awp_ret ?_) <;> (try simp (disch := first | omega | simp) [wrap_i64, -aseqC, -anyC])) | ((first | with_reducible refine sideG ?_ ?_ | with_reducible refine sideG2 ?_ ?_ | with_reducible refine sideS ?_ ?_ | with_reducible refine sideS2 ?_ ?_ | with_reducible refine sideS3 ?_ ?_ | with_reducible refine sideA ?_ ?_ | with_reducible refine sideA2 ?_ ?_ | with_reducible refine sideA3 ?_ ?_); (first | omega | assumption | (simp; done))) | (refine awp_seq_k fun K hK => ?_) | (refine awp_regionC ?_) | (refine awp_anyA true (by kernel_rfl) (by kernel_rfl) ?_) | (refine hK _ ?_; clear hK; clear K) | (clear hK; clear K; refine hK _ ?_; clear hK; clear K) | (clear hK; clear K; clear hK; clear K; refine hK _ ?_; clear hK; clear K) | refine awp_block ?_)
  refine awp_loopC hcl (fun i : Nat => [(0, .v (.int .u8 c.toNat)), (3, .int i)]) (fun _ => []) (fun i => i ≤ 16 ∧ digP c (16 - i) i = R) (fun i => 16 - i) 0 ⟨Nat.zero_le _, hR.symm⟩ (by simp) fun i ⟨hi, hd⟩ => ?_
  by_cases hlt : i < 16
  · have hlt' : (i : Int) < 16 := by omega
    have h16 : i < ([48, 49, 50, 51, 52, 53, 54, 55, 56, 57, 97, 98, 99, 100, 101, 102] : List UInt8).length := hlt
    have hx := hex_l i h16
    have e : 16 - i = (16 - (i + 1)) + 1 := by omega
    rw [e, digP] at hd
    by_cases hc : hexd i = c
    · rw [if_pos hc] at hd
      have hw : IntKind.u8.wrap (i : Int) = i := wrap_u8 (by omega) (by omega)
      have hRi : (R.toNat : Int) = i := by rw [← hd, UInt8.toNat_ofNat']; omega
      repeat' (first | ((first | ((with_reducible refine aguard (fun hg => ?_) (fun hg => ?_)) <;> (try simp only [hg]) <;> (try simp only [beq_iff_eq, beq_eq_false_iff_ne, ne_eq, decide_eq_true_eq, decide_eq_false_iff_not, bne_iff_ne, bne_eq_false_iff_eq] at hg) <;> (try (first | simp only [eq_false hg, if_true, if_false] | simp only [eq_true hg, if_true, if_false]))) | with_reducible refine aseq_step ?_ | with_reducible refine any_step' ?_ | with_reducible refine aseq_end ?_ | with_reducible refine any_end' ?_ | refine awp_condC ?_ | refine awp_exit ?_ | refine awp_skip ?_ | refine awp_ret ?_) <;> (try simp (disch := first | omega | simp) [wrap_i64, -aseqC, -anyC, hlt, hlt', hw, hx, hc])) | ((first | with_reducible refine sideG ?_ ?_ | with_reducible refine sideG2 ?_ ?_ | with_reducible refine sideS ?_ ?_ | with_reducible refine sideS2 ?_ ?_ | with_reducible refine sideS3 ?_ ?_ | with_reducible refine sideA ?_ ?_ | with_reducible refine sideA2 ?_ ?_ | with_reducible refine sideA3 ?_ ?_); (first | omega | assumption | (simp; done))) | (refine awp_seq_k fun K hK => ?_) | (refine awp_regionC ?_) | (refine awp_anyA true (by kernel_rfl) (by kernel_rfl) ?_) | (refine hK _ ?_; clear hK; clear K) | (clear hK; clear K; refine hK _ ?_; clear hK; clear K) | (clear hK; clear K; clear hK; clear K; refine hK _ ?_; clear hK; clear K) | refine awp_block ?_)
      all_goals first | exact hRi.symm
    · rw [if_neg hc] at hd
      have hc2 : ¬ ((hexd i).toNat : Int) = c.toNat := fun h => hc (UInt8.toNat_inj.1 (by omega))
      repeat' (first | ((first | ((with_reducible refine aguard (fun hg => ?_) (fun hg => ?_)) <;> (try simp only [hg]) <;> (try simp only [beq_iff_eq, beq_eq_false_iff_ne, ne_eq, decide_eq_true_eq, decide_eq_false_iff_not, bne_iff_ne, bne_eq_false_iff_eq] at hg) <;> (try (first | simp only [eq_false hg, if_true, if_false] | simp only [eq_true hg, if_true, if_false]))) | with_reducible refine aseq_step ?_ | with_reducible refine any_step' ?_ | with_reducible refine aseq_end ?_ | with_reducible refine any_end' ?_ | refine awp_condC ?_ | refine awp_exit ?_ | refine awp_skip ?_ | refine awp_ret ?_) <;> (try simp (disch := first | omega | simp) [wrap_i64, -aseqC, -anyC, hlt, hlt', hx, hc2])) | ((first | with_reducible refine sideG ?_ ?_ | with_reducible refine sideG2 ?_ ?_ | with_reducible refine sideS ?_ ?_ | with_reducible refine sideS2 ?_ ?_ | with_reducible refine sideS3 ?_ ?_ | with_reducible refine sideA ?_ ?_ | with_reducible refine sideA2 ?_ ?_ | with_reducible refine sideA3 ?_ ?_); (first | omega | assumption | (simp; done))) | (refine awp_seq_k fun K hK => ?_) | (refine awp_regionC ?_) | (refine awp_anyA true (by kernel_rfl) (by kernel_rfl) ?_) | (refine hK _ ?_; clear hK; clear K) | (clear hK; clear K; refine hK _ ?_; clear hK; clear K) | (clear hK; clear K; clear hK; clear K; refine hK _ ?_; clear hK; clear K) | refine awp_block ?_)
      all_goals first | exact absurd (by assumption) hc2 | exact ⟨i + 1, ⟨by omega, hd⟩, by omega, by omega⟩
  · obtain rfl : i = 16 := by omega
    have hR0 : R = 0 := hd.symm
    subst hR0
    repeat' (first | ((first | ((with_reducible refine aguard (fun hg => ?_) (fun hg => ?_)) <;> (try simp only [hg]) <;> (try simp only [beq_iff_eq, beq_eq_false_iff_ne, ne_eq, decide_eq_true_eq, decide_eq_false_iff_not, bne_iff_ne, bne_eq_false_iff_eq] at hg) <;> (try (first | simp only [eq_false hg, if_true, if_false] | simp only [eq_true hg, if_true, if_false]))) | with_reducible refine aseq_step ?_ | with_reducible refine any_step' ?_ | with_reducible refine aseq_end ?_ | with_reducible refine any_end' ?_ | refine awp_condC ?_ | refine awp_exit ?_ | refine awp_skip ?_ | refine awp_ret ?_) <;> (try simp (disch := first | omega | simp) [wrap_i64, -aseqC, -anyC])) | ((first | with_reducible refine sideG ?_ ?_ | with_reducible refine sideG2 ?_ ?_ | with_reducible refine sideS ?_ ?_ | with_reducible refine sideS2 ?_ ?_ | with_reducible refine sideS3 ?_ ?_ | with_reducible refine sideA ?_ ?_ | with_reducible refine sideA2 ?_ ?_ | with_reducible refine sideA3 ?_ ?_); (first | omega | assumption | (simp; done))) | (refine awp_seq_k fun K hK => ?_) | (refine awp_regionC ?_) | (refine awp_anyA true (by kernel_rfl) (by kernel_rfl) ?_) | (refine hK _ ?_; clear hK; clear K) | (clear hK; clear K; refine hK _ ?_; clear hK; clear K) | (clear hK; clear K; clear hK; clear K; refine hK _ ?_; clear hK; clear K) | refine awp_block ?_)
    all_goals first | rfl
def hxR (a b : UInt8) : UInt8 := UInt8.ofNat (16 * (digP a 16 0).toNat + (digP b 16 0).toNat)
theorem hxR_ok : hxOk hxR := by
  have : ∀ n m : _root_.Fin 16, hxR (hexd n.1) (hexd m.1) = UInt8.ofNat (16 * n.1 + m.1) := by decide +kernel
  exact fun n m hn hm => this ⟨n, hn⟩ ⟨m, hm⟩
end Go.Proofs.YtkhmlicikbnmdaaDoor

/- Walks of the reference of chapter 02: closing, In, fits. -/
namespace Go.Proofs.YtkhmlicikbnmdaaDoor
open Go.RowKit Go.Lib

theorem findIdx_step {p : UInt8 → Bool} {l : List UInt8} {k : Nat} (h : k < l.length) : (l.drop k).findIdx? p = if p l[k] then some 0 else ((l.drop (k + 1)).findIdx? p).map (· + 1) := by
  rw [List.drop_eq_getElem_cons h, List.findIdx?_cons]
theorem rclosing_g (s : ByteArray) (i : Nat) (hs : s.size ≤ 1000000) (hi : i ≤ 2000000) : Gives Tryd.prog 87 [.str s, .int i] (.int (closeAt s.data.toList i)) := by
  obtain ⟨l, hl⟩ : ∃ l, l = s.data.toList := ⟨_, rfl⟩
  have hsz : l.length = s.size := by rw [hl, ← Lib.size_eq]
  obtain ⟨R, hR⟩ : ∃ R, R = closeAt l i := ⟨_, rfl⟩
  have hR2 : R = match (l.drop (i + 1)).findIdx? (· == 93) with | some n => ((i + 1 : Nat) : Int) + n | none => -1 := by
    rw [hR]
    unfold closeAt
    by_cases h : i < l.length
    · rw [List.drop_eq_getElem_cons h, closeI]
      cases (l.drop (i + 1)).findIdx? (· == 93) with
      | none => rfl
      | some n => show ((i : Int) + ((n + 1 : Nat) : Int)) = ((i + 1 : Nat) : Int) + (n : Int); omega
    · rw [List.drop_of_length_le (show l.length ≤ i by omega), List.drop_of_length_le (show l.length ≤ i + 1 by omega)]; rfl
  rw [← hl, ← hR]
  clear hR
  refine gives_of_awp Tryd.func87 Tryd.ntmps87 rfl rfl (by decide) rfl (by intro n; simp) fun σ n0 hcl hft => ?_
  repeat' (first | ((first | ((with_reducible refine aguard (fun hg => ?_) (fun hg => ?_)) <;> (try simp only [hg]) <;> (try simp only [beq_iff_eq, beq_eq_false_iff_ne, ne_eq, decide_eq_true_eq, decide_eq_false_iff_not, bne_iff_ne, bne_eq_false_iff_eq] at hg) <;> (try (first | simp only [eq_false hg, if_true, if_false] | simp only [eq_true hg, if_true, if_false]))) | with_reducible refine aseq_step ?_ | with_reducible refine any_step' ?_ | with_reducible refine aseq_end ?_ | with_reducible refine any_end' ?_ | refine awp_condC ?_ | refine awp_exit ?_ | refine awp_skip ?_ | refine awp_ret ?_) <;> (try simp (disch := first | omega | simp) [wrap_i64, -aseqC, -anyC])) | ((first | with_reducible refine sideG ?_ ?_ | with_reducible refine sideG2 ?_ ?_ | with_reducible refine sideS ?_ ?_ | with_reducible refine sideS2 ?_ ?_ | with_reducible refine sideS3 ?_ ?_ | with_reducible refine sideA ?_ ?_ | with_reducible refine sideA2 ?_ ?_ | with_reducible refine sideA3 ?_ ?_); (first | omega | assumption | (simp; done))) | (refine awp_seq_k fun K hK => ?_) | (refine awp_regionC ?_) | (refine awp_anyA true (by kernel_rfl) (by kernel_rfl) ?_) | (refine hK _ ?_; clear hK; clear K) | (clear hK; clear K; refine hK _ ?_; clear hK; clear K) | (clear hK; clear K; clear hK; clear K; refine hK _ ?_; clear hK; clear K) | refine awp_block ?_)
  refine awp_loopC hcl (fun k : Nat => [(0, .str s), (5, .int k)]) (fun _ => []) (fun k => i + 1 ≤ k ∧ (k ≤ s.size ∨ k = i + 1) ∧ R = match (l.drop k).findIdx? (· == 93) with | some n => (k : Int) + n | none => -1) (fun k => s.size + 1 + i - k) (i + 1) ⟨Nat.le_refl _, .inr rfl, hR2⟩ (by simp) fun k ⟨h1, h2, hk⟩ => ?_
  by_cases hlt : k < s.size
  · have hlt3 : k < s.data.size := hlt
    have hgi : l[k]'(by omega) = s.data[k] := by simp only [hl]; rw [Array.getElem_toList]
    rw [findIdx_step (by omega), hgi] at hk
    by_cases hc : s.data[k] = 93
    · have g93 : s.data[k].toNat = 93 := by rw [hc]; rfl
      rw [hc] at hk
      have hk2 : R = k := by rw [hk]; simp
      repeat' (first | ((first | ((with_reducible refine aguard (fun hg => ?_) (fun hg => ?_)) <;> (try simp only [hg]) <;> (try simp only [beq_iff_eq, beq_eq_false_iff_ne, ne_eq, decide_eq_true_eq, decide_eq_false_iff_not, bne_iff_ne, bne_eq_false_iff_eq] at hg) <;> (try (first | simp only [eq_false hg, if_true, if_false] | simp only [eq_true hg, if_true, if_false]))) | with_reducible refine aseq_step ?_ | with_reducible refine any_step' ?_ | with_reducible refine aseq_end ?_ | with_reducible refine any_end' ?_ | refine awp_condC ?_ | refine awp_exit ?_ | refine awp_skip ?_ | refine awp_ret ?_) <;> (try simp (disch := first | omega | simp) [wrap_i64, -aseqC, -anyC, hlt, hlt3, g93])) | ((first | with_reducible refine sideG ?_ ?_ | with_reducible refine sideG2 ?_ ?_ | with_reducible refine sideS ?_ ?_ | with_reducible refine sideS2 ?_ ?_ | with_reducible refine sideS3 ?_ ?_ | with_reducible refine sideA ?_ ?_ | with_reducible refine sideA2 ?_ ?_ | with_reducible refine sideA3 ?_ ?_); (first | omega | assumption | (simp; done))) | (refine awp_seq_k fun K hK => ?_) | (refine awp_regionC ?_) | (refine awp_anyA true (by kernel_rfl) (by kernel_rfl) ?_) | (refine hK _ ?_; clear hK; clear K) | (clear hK; clear K; refine hK _ ?_; clear hK; clear K) | (clear hK; clear K; clear hK; clear K; refine hK _ ?_; clear hK; clear K) | refine awp_block ?_)
      all_goals exact hk2.symm
    · have g93 : ¬ (s.data[k].toNat : Int) = 93 := fun h => hc (UInt8.toNat_inj.1 (by have e : (93 : UInt8).toNat = 93 := rfl; omega))
      have hb : (s.data[k] == 93) = false := by simpa using hc
      rw [hb] at hk
      have hk2 : R = match (l.drop (k + 1)).findIdx? (· == 93) with | some n => ((k + 1 : Nat) : Int) + n | none => -1 := by
        rw [hk]
        cases (l.drop (k + 1)).findIdx? (· == 93) with
        | none => rfl
        | some n => show ((k : Int) + ((n + 1 : Nat) : Int)) = ((k + 1 : Nat) : Int) + (n : Int); omega
      repeat' (first | ((first | ((with_reducible refine aguard (fun hg => ?_) (fun hg => ?_)) <;> (try simp only [hg]) <;> (try simp only [beq_iff_eq, beq_eq_false_iff_ne, ne_eq, decide_eq_true_eq, decide_eq_false_iff_not, bne_iff_ne, bne_eq_false_iff_eq] at hg) <;> (try (first | simp only [eq_false hg, if_true, if_false] | simp only [eq_true hg, if_true, if_false]))) | with_reducible refine aseq_step ?_ | with_reducible refine any_step' ?_ | with_reducible refine aseq_end ?_ | with_reducible refine any_end' ?_ | refine awp_condC ?_ | refine awp_exit ?_ | refine awp_skip ?_ | refine awp_ret ?_) <;> (try simp (disch := first | omega | simp) [wrap_i64, -aseqC, -anyC, hlt, hlt3, g93])) | ((first | with_reducible refine sideG ?_ ?_ | with_reducible refine sideG2 ?_ ?_ | with_reducible refine sideS ?_ ?_ | with_reducible refine sideS2 ?_ ?_ | with_reducible refine sideS3 ?_ ?_ | with_reducible refine sideA ?_ ?_ | with_reducible refine sideA2 ?_ ?_ | with_reducible refine sideA3 ?_ ?_); (first | omega | assumption | (simp; done))) | (refine awp_seq_k fun K hK => ?_) | (refine awp_regionC ?_) | (refine awp_anyA true (by kernel_rfl) (by kernel_rfl) ?_) | (refine hK _ ?_; clear hK; clear K) | (clear hK; clear K; refine hK _ ?_; clear hK; clear K) | (clear hK; clear K; clear hK; clear K; refine hK _ ?_; clear hK; clear K) | refine awp_block ?_)
      all_goals first | exact absurd (by assumption) g93 | exact ⟨k + 1, ⟨by omega, by omega, hk2⟩, by omega, by omega⟩
  · rw [List.drop_of_length_le (show l.length ≤ k by omega)] at hk
    have hk2 : R = -1 := hk
    have hlt' : ¬ (k : Int) < s.size := by omega
    repeat' (first | ((first | ((with_reducible refine aguard (fun hg => ?_) (fun hg => ?_)) <;> (try simp only [hg]) <;> (try simp only [beq_iff_eq, beq_eq_false_iff_ne, ne_eq, decide_eq_true_eq, decide_eq_false_iff_not, bne_iff_ne, bne_eq_false_iff_eq] at hg) <;> (try (first | simp only [eq_false hg, if_true, if_false] | simp only [eq_true hg, if_true, if_false]))) | with_reducible refine aseq_step ?_ | with_reducible refine any_step' ?_ | with_reducible refine aseq_end ?_ | with_reducible refine any_end' ?_ | refine awp_condC ?_ | refine awp_exit ?_ | refine awp_skip ?_ | refine awp_ret ?_) <;> (try simp (disch := first | omega | simp) [wrap_i64, -aseqC, -anyC, hlt, hlt'])) | ((first | with_reducible refine sideG ?_ ?_ | with_reducible refine sideG2 ?_ ?_ | with_reducible refine sideS ?_ ?_ | with_reducible refine sideS2 ?_ ?_ | with_reducible refine sideS3 ?_ ?_ | with_reducible refine sideA ?_ ?_ | with_reducible refine sideA2 ?_ ?_ | with_reducible refine sideA3 ?_ ?_); (first | omega | assumption | (simp; done))) | (refine awp_seq_k fun K hK => ?_) | (refine awp_regionC ?_) | (refine awp_anyA true (by kernel_rfl) (by kernel_rfl) ?_) | (refine hK _ ?_; clear hK; clear K) | (clear hK; clear K; refine hK _ ?_; clear hK; clear K) | (clear hK; clear K; clear hK; clear K; refine hK _ ?_; clear hK; clear K) | refine awp_block ?_)
    all_goals first | exact hk2.symm
set_option maxHeartbeats 2000000 in
theorem rin_g (s : ByteArray) (c : UInt8) (hs : s.size ≤ 1000000) : Gives Tryd.prog 88 [.str s, .v (.int .u8 c.toNat)] (.bool (inSet s.data.toList c)) := by
  obtain ⟨R, hR⟩ : ∃ R, R = inSet s.data.toList c := ⟨_, rfl⟩
  rw [← hR]
  have hsz : s.data.toList.length = s.size := by rw [← Lib.size_eq]
  have hds : s.data.size = s.size := rfl
  have hc8 := c.toNat_lt
  refine gives_of_awp Tryd.func88 Tryd.ntmps88 rfl rfl (by decide) rfl (by intro n; simp) fun σ n0 hcl hft => ?_
  repeat' (first | ((first | ((with_reducible refine aguard (fun hg => ?_) (fun hg => ?_)) <;> (try simp only [hg]) <;> (try simp only [beq_iff_eq, beq_eq_false_iff_ne, ne_eq, decide_eq_true_eq, decide_eq_false_iff_not, bne_iff_ne, bne_eq_false_iff_eq] at hg) <;> (try (first | simp only [eq_false hg, if_true, if_false] | simp only [eq_true hg, if_true, if_false]))) | with_reducible refine aseq_step ?_ | with_reducible refine any_step' ?_ | with_reducible refine aseq_end ?_ | with_reducible refine any_end' ?_ | refine awp_condC ?_ | refine awp_exit ?_ | refine awp_skip ?_ | refine awp_ret ?_) <;> (try simp (disch := first | omega | simp) [wrap_i64, -aseqC, -anyC])) | ((first | with_reducible refine sideG ?_ ?_ | with_reducible refine sideG2 ?_ ?_ | with_reducible refine sideS ?_ ?_ | with_reducible refine sideS2 ?_ ?_ | with_reducible refine sideS3 ?_ ?_ | with_reducible refine sideA ?_ ?_ | with_reducible refine sideA2 ?_ ?_ | with_reducible refine sideA3 ?_ ?_); (first | omega | assumption | (simp; done))) | (refine awp_seq_k fun K hK => ?_) | (refine awp_regionC ?_) | (refine awp_anyA true (by kernel_rfl) (by kernel_rfl) ?_) | (refine hK _ ?_; clear hK; clear K) | (clear hK; clear K; refine hK _ ?_; clear hK; clear K) | (clear hK; clear K; clear hK; clear K; refine hK _ ?_; clear hK; clear K) | refine awp_block ?_)
  refine awp_loopC hcl (fun i : Nat => [(0, .str s), (1, .v (.int .u8 c.toNat)), (5, .int i)]) (fun _ => []) (fun i => i ≤ s.size ∧ inSet (s.data.toList.drop i) c = R) (fun i => s.size - i) 0 ⟨Nat.zero_le _, by rw [hR]; rfl⟩ (by simp) fun i ⟨hi, hin⟩ => ?_
  by_cases hlt : i < s.size
  · have hlt3 : i < s.data.size := hlt
    have hd1 : s.data.toList.drop i = s.data[i] :: s.data.toList.drop (i + 1) := by rw [List.drop_eq_getElem_cons (by omega), Array.getElem_toList]
    have one : ¬ (i + 2 < s.size ∧ s.data.toList[i + 1]? = some 45) → R = if s.data[i] = c then true else inSet (s.data.toList.drop (i + 1)) c := fun h => by
      rw [← hin, hd1]
      refine inSet_one fun ⟨h1, h2⟩ => h ⟨?_, ?_⟩
      · rw [List.length_drop] at h1; omega
      · rw [List.getElem?_drop] at h2; exact h2
    have q0 : (0 : Int) ≤ (i : Int) + 1 := by omega
    have q2 : (0 : Int) ≤ (i : Int) + 2 := by omega
    have t2 : ((i : Int) + 2).toNat = i + 2 := by omega
    by_cases hl2 : i + 2 < s.size
    · have hl2' : (i : Int) + 2 < s.size := by omega
      have hl1' : (i : Int) + 1 < s.size := by omega
      have hlt1 : i + 1 < s.data.size := by omega
      have hlt2 : i + 2 < s.data.size := by omega
      have hl1 : i + 1 < s.size := by omega
      have hget : s.data.toList[i + 1]? = some s.data[i + 1] := by rw [List.getElem?_eq_getElem (by omega), Array.getElem_toList]
      by_cases h45 : s.data[i + 1] = 45
      · have g45 : s.data[i + 1].toNat = 45 := by rw [h45]; rfl
        have hd3 : s.data.toList.drop i = s.data[i] :: 45 :: s.data[i + 2] :: s.data.toList.drop (i + 3) := by
          rw [hd1, List.drop_eq_getElem_cons (by omega), Array.getElem_toList, h45, List.drop_eq_getElem_cons (by omega), Array.getElem_toList]
        have hr : R = if s.data[i] ≤ c ∧ c ≤ s.data[i + 2] then true else inSet (s.data.toList.drop (i + 3)) c := by rw [← hin, hd3, inSet_range]
        have hr1 : s.data[i].toNat ≤ c.toNat → c.toNat ≤ s.data[i + 2].toNat → R = true := fun h1 h2 => by
          rw [hr, if_pos ⟨UInt8.le_iff_toNat_le.2 h1, UInt8.le_iff_toNat_le.2 h2⟩]
        have hr2 : ¬ (s.data[i].toNat ≤ c.toNat ∧ c.toNat ≤ s.data[i + 2].toNat) → inSet (s.data.toList.drop (i + 3)) c = R := fun h => by
          rw [hr, if_neg fun h2 => h ⟨UInt8.le_iff_toNat_le.1 h2.1, UInt8.le_iff_toNat_le.1 h2.2⟩]
        repeat' (first | ((first | ((with_reducible refine aguard (fun hg => ?_) (fun hg => ?_)) <;> (try simp only [hg]) <;> (try simp only [beq_iff_eq, beq_eq_false_iff_ne, ne_eq, decide_eq_true_eq, decide_eq_false_iff_not, bne_iff_ne, bne_eq_false_iff_eq] at hg) <;> (try (first | simp only [eq_false hg, if_true, if_false] | simp only [eq_true hg, if_true, if_false]))) | with_reducible refine aseq_step ?_ | with_reducible refine any_step' ?_ | with_reducible refine aseq_end ?_ | with_reducible refine any_end' ?_ | refine awp_condC ?_ | refine awp_exit ?_ | refine awp_skip ?_ | refine awp_ret ?_) <;> (try simp (disch := first | omega | simp) [wrap_i64, -aseqC, -anyC, hlt, hlt3, hl2, hl2', hl1', hlt1, hlt2, hl1, g45, q0, q2, t2])) | ((first | with_reducible refine sideG ?_ ?_ | with_reducible refine sideG2 ?_ ?_ | with_reducible refine sideS ?_ ?_ | with_reducible refine sideS2 ?_ ?_ | with_reducible refine sideS3 ?_ ?_ | with_reducible refine sideA ?_ ?_ | with_reducible refine sideA2 ?_ ?_ | with_reducible refine sideA3 ?_ ?_); (first | omega | assumption | (simp; done))) | (refine awp_seq_k fun K hK => ?_) | (refine awp_regionC ?_) | (refine awp_anyA true (by kernel_rfl) (by kernel_rfl) ?_) | (refine hK _ ?_; clear hK; clear K) | (clear hK; clear K; refine hK _ ?_; clear hK; clear K) | (clear hK; clear K; clear hK; clear K; refine hK _ ?_; clear hK; clear K) | refine awp_block ?_)
        all_goals first
          | exact hr1 (by omega) (by omega)
          | exact ⟨i + 3, ⟨by omega, hr2 (by omega)⟩, by omega, by omega⟩
      · have g45 : ¬ (s.data[i + 1].toNat : Int) = 45 := fun h => h45 (UInt8.toNat_inj.1 (by have e : (45 : UInt8).toNat = 45 := rfl; omega))
        have hr := one fun h => h45 (by rw [hget] at h; exact Option.some.inj h.2)
        have hr1 : s.data[i].toNat = c.toNat → R = true := fun h => by rw [hr, if_pos (UInt8.toNat_inj.1 h)]
        have hr2 : ¬ s.data[i].toNat = c.toNat → inSet (s.data.toList.drop (i + 1)) c = R := fun h => by rw [hr, if_neg fun h2 => h (by rw [h2])]
        repeat' (first | ((first | ((with_reducible refine aguard (fun hg => ?_) (fun hg => ?_)) <;> (try simp only [hg]) <;> (try simp only [beq_iff_eq, beq_eq_false_iff_ne, ne_eq, decide_eq_true_eq, decide_eq_false_iff_not, bne_iff_ne, bne_eq_false_iff_eq] at hg) <;> (try (first | simp only [eq_false hg, if_true, if_false] | simp only [eq_true hg, if_true, if_false]))) | with_reducible refine aseq_step ?_ | with_reducible refine any_step' ?_ | with_reducible refine aseq_end ?_ | with_reducible refine any_end' ?_ | refine awp_condC ?_ | refine awp_exit ?_ | refine awp_skip ?_ | refine awp_ret ?_) <;> (try simp (disch := first | omega | simp) [wrap_i64, -aseqC, -anyC, hlt, hlt3, hl2, hl2', hl1', hlt1, hlt2, hl1, g45, q0, q2, t2])) | ((first | with_reducible refine sideG ?_ ?_ | with_reducible refine sideG2 ?_ ?_ | with_reducible refine sideS ?_ ?_ | with_reducible refine sideS2 ?_ ?_ | with_reducible refine sideS3 ?_ ?_ | with_reducible refine sideA ?_ ?_ | with_reducible refine sideA2 ?_ ?_ | with_reducible refine sideA3 ?_ ?_); (first | omega | assumption | (simp; done))) | (refine awp_seq_k fun K hK => ?_) | (refine awp_regionC ?_) | (refine awp_anyA true (by kernel_rfl) (by kernel_rfl) ?_) | (refine hK _ ?_; clear hK; clear K) | (clear hK; clear K; refine hK _ ?_; clear hK; clear K) | (clear hK; clear K; clear hK; clear K; refine hK _ ?_; clear hK; clear K) | refine awp_block ?_)
        all_goals first
          | exact absurd (by assumption) g45
          | exact hr1 (by omega)
          | exact ⟨i + 1, ⟨by omega, hr2 (by omega)⟩, by omega, by omega⟩
    · have hl2' : ¬ (i : Int) + 2 < s.size := by omega
      have hr := one fun h => hl2 h.1
      have hr1 : s.data[i].toNat = c.toNat → R = true := fun h => by rw [hr, if_pos (UInt8.toNat_inj.1 h)]
      have hr2 : ¬ s.data[i].toNat = c.toNat → inSet (s.data.toList.drop (i + 1)) c = R := fun h => by rw [hr, if_neg fun h2 => h (by rw [h2])]
      repeat' (first | ((first | ((with_reducible refine aguard (fun hg => ?_) (fun hg => ?_)) <;> (try simp only [hg]) <;> (try simp only [beq_iff_eq, beq_eq_false_iff_ne, ne_eq, decide_eq_true_eq, decide_eq_false_iff_not, bne_iff_ne, bne_eq_false_iff_eq] at hg) <;> (try (first | simp only [eq_false hg, if_true, if_false] | simp only [eq_true hg, if_true, if_false]))) | with_reducible refine aseq_step ?_ | with_reducible refine any_step' ?_ | with_reducible refine aseq_end ?_ | with_reducible refine any_end' ?_ | refine awp_condC ?_ | refine awp_exit ?_ | refine awp_skip ?_ | refine awp_ret ?_) <;> (try simp (disch := first | omega | simp) [wrap_i64, -aseqC, -anyC, hlt, hlt3, hl2, hl2', q0, q2, t2])) | ((first | with_reducible refine sideG ?_ ?_ | with_reducible refine sideG2 ?_ ?_ | with_reducible refine sideS ?_ ?_ | with_reducible refine sideS2 ?_ ?_ | with_reducible refine sideS3 ?_ ?_ | with_reducible refine sideA ?_ ?_ | with_reducible refine sideA2 ?_ ?_ | with_reducible refine sideA3 ?_ ?_); (first | omega | assumption | (simp; done))) | (refine awp_seq_k fun K hK => ?_) | (refine awp_regionC ?_) | (refine awp_anyA true (by kernel_rfl) (by kernel_rfl) ?_) | (refine hK _ ?_; clear hK; clear K) | (clear hK; clear K; refine hK _ ?_; clear hK; clear K) | (clear hK; clear K; clear hK; clear K; refine hK _ ?_; clear hK; clear K) | refine awp_block ?_)
      all_goals first
        | exact hr1 (by omega)
        | exact ⟨i + 1, ⟨by omega, hr2 (by omega)⟩, by omega, by omega⟩
  · obtain rfl : i = s.size := by omega
    rw [List.drop_of_length_le (by omega), inSet] at hin
    repeat' (first | ((first | ((with_reducible refine aguard (fun hg => ?_) (fun hg => ?_)) <;> (try simp only [hg]) <;> (try simp only [beq_iff_eq, beq_eq_false_iff_ne, ne_eq, decide_eq_true_eq, decide_eq_false_iff_not, bne_iff_ne, bne_eq_false_iff_eq] at hg) <;> (try (first | simp only [eq_false hg, if_true, if_false] | simp only [eq_true hg, if_true, if_false]))) | with_reducible refine aseq_step ?_ | with_reducible refine any_step' ?_ | with_reducible refine aseq_end ?_ | with_reducible refine any_end' ?_ | refine awp_condC ?_ | refine awp_exit ?_ | refine awp_skip ?_ | refine awp_ret ?_) <;> (try simp (disch := first | omega | simp) [wrap_i64, -aseqC, -anyC, hlt])) | ((first | with_reducible refine sideG ?_ ?_ | with_reducible refine sideG2 ?_ ?_ | with_reducible refine sideS ?_ ?_ | with_reducible refine sideS2 ?_ ?_ | with_reducible refine sideS3 ?_ ?_ | with_reducible refine sideA ?_ ?_ | with_reducible refine sideA2 ?_ ?_ | with_reducible refine sideA3 ?_ ?_); (first | omega | assumption | (simp; done))) | (refine awp_seq_k fun K hK => ?_) | (refine awp_regionC ?_) | (refine awp_anyA true (by kernel_rfl) (by kernel_rfl) ?_) | (refine hK _ ?_; clear hK; clear K) | (clear hK; clear K; refine hK _ ?_; clear hK; clear K) | (clear hK; clear K; clear hK; clear K; refine hK _ ?_; clear hK; clear K) | refine awp_block ?_)
    all_goals exact hin.symm
/-- a part with its text, as the reference has it -/
def partAv : Pt × List UInt8 → AV
  | (.byte b, t) => .agg [.int 0, .byte b, .str ByteArray.empty, .bool false, .str (bytesA t)]
  | (.star, t) => .agg [.int 1, .byte 42, .str ByteArray.empty, .bool false, .str (bytesA t)]
  | (.any, t) => .agg [.int 2, .byte 63, .str ByteArray.empty, .bool false, .str (bytesA t)]
  | (.cls set neg, t) => .agg [.int 3, .byte 0, .str (bytesA set), .bool neg, .str (bytesA t)]
theorem rfits_g (x : Pt) (t : List UInt8) (c : UInt8) (hx : x ≠ .star) (hset : ∀ set neg, x = .cls set neg → set.length ≤ 1000000) : Gives Tryd.prog 64 [partAv (x, t), .v (.int .u8 c.toNat)] (.bool (fitsP x c)) := by
  cases x with
  | star => exact absurd rfl hx
  | byte b =>
    have hb := byte_eq b c
    show Gives _ _ [.agg [.int 0, .byte b, .str ByteArray.empty, .bool false, .str (bytesA t)], _] _
    refine gives_of_awp Tryd.func64 Tryd.ntmps64 rfl rfl (by decide) rfl (by intro n; simp) fun σ n0 hcl hft => ?_
    repeat' (first | ((first | ((with_reducible refine aguard (fun hg => ?_) (fun hg => ?_)) <;> (try simp only [hg]) <;> (try simp only [beq_iff_eq, beq_eq_false_iff_ne, ne_eq, decide_eq_true_eq, decide_eq_false_iff_not, bne_iff_ne, bne_eq_false_iff_eq] at hg) <;> (try (first | simp only [eq_false hg, if_true, if_false] | simp only [eq_true hg, if_true, if_false]))) | with_reducible refine aseq_step ?_ | with_reducible refine any_step' ?_ | with_reducible refine aseq_end ?_ | with_reducible refine any_end' ?_ | refine awp_condC ?_ | refine awp_exit ?_ | refine awp_skip ?_ | refine awp_ret ?_) <;> (try simp (disch := first | omega | simp) [wrap_i64, -aseqC, -anyC])) | ((first | with_reducible refine sideG ?_ ?_ | with_reducible refine sideG2 ?_ ?_ | with_reducible refine sideS ?_ ?_ | with_reducible refine sideS2 ?_ ?_ | with_reducible refine sideS3 ?_ ?_ | with_reducible refine sideA ?_ ?_ | with_reducible refine sideA2 ?_ ?_ | with_reducible refine sideA3 ?_ ?_); (first | omega | assumption | (simp; done))) | (refine awp_seq_k fun K hK => ?_) | (refine awp_regionC ?_) | (refine awp_anyA true (by kernel_rfl) (by kernel_rfl) ?_) | (refine hK _ ?_; clear hK; clear K) | (clear hK; clear K; refine hK _ ?_; clear hK; clear K) | (clear hK; clear K; clear hK; clear K; refine hK _ ?_; clear hK; clear K) | refine awp_block ?_)
    all_goals first | exact hb | exact hb.symm
  | any =>
    show Gives _ _ [.agg [.int 2, .byte 63, .str ByteArray.empty, .bool false, .str (bytesA t)], _] _
    refine gives_of_awp Tryd.func64 Tryd.ntmps64 rfl rfl (by decide) rfl (by intro n; simp) fun σ n0 hcl hft => ?_
    repeat' (first | ((first | ((with_reducible refine aguard (fun hg => ?_) (fun hg => ?_)) <;> (try simp only [hg]) <;> (try simp only [beq_iff_eq, beq_eq_false_iff_ne, ne_eq, decide_eq_true_eq, decide_eq_false_iff_not, bne_iff_ne, bne_eq_false_iff_eq] at hg) <;> (try (first | simp only [eq_false hg, if_true, if_false] | simp only [eq_true hg, if_true, if_false]))) | with_reducible refine aseq_step ?_ | with_reducible refine any_step' ?_ | with_reducible refine aseq_end ?_ | with_reducible refine any_end' ?_ | refine awp_condC ?_ | refine awp_exit ?_ | refine awp_skip ?_ | refine awp_ret ?_) <;> (try simp (disch := first | omega | simp) [wrap_i64, -aseqC, -anyC])) | ((first | with_reducible refine sideG ?_ ?_ | with_reducible refine sideG2 ?_ ?_ | with_reducible refine sideS ?_ ?_ | with_reducible refine sideS2 ?_ ?_ | with_reducible refine sideS3 ?_ ?_ | with_reducible refine sideA ?_ ?_ | with_reducible refine sideA2 ?_ ?_ | with_reducible refine sideA3 ?_ ?_); (first | omega | assumption | (simp; done))) | (refine awp_seq_k fun K hK => ?_) | (refine awp_regionC ?_) | (refine awp_anyA true (by kernel_rfl) (by kernel_rfl) ?_) | (refine hK _ ?_; clear hK; clear K) | (clear hK; clear K; refine hK _ ?_; clear hK; clear K) | (clear hK; clear K; clear hK; clear K; refine hK _ ?_; clear hK; clear K) | refine awp_block ?_)
    all_goals first | rfl
  | cls set neg =>
    have hin := rin_g (bytesA set) c (by rw [bytesA_size]; exact hset set neg rfl)
    rw [bytesA_data] at hin
    show Gives _ _ [.agg [.int 3, .byte 0, .str (bytesA set), .bool neg, .str (bytesA t)], _] _
    refine gives_of_awp Tryd.func64 Tryd.ntmps64 rfl rfl (by decide) rfl (by intro n; simp) fun σ n0 hcl hft => ?_
    repeat' (first | ((first | ((with_reducible refine aguard (fun hg => ?_) (fun hg => ?_)) <;> (try simp only [hg]) <;> (try simp only [beq_iff_eq, beq_eq_false_iff_ne, ne_eq, decide_eq_true_eq, decide_eq_false_iff_not, bne_iff_ne, bne_eq_false_iff_eq] at hg) <;> (try (first | simp only [eq_false hg, if_true, if_false] | simp only [eq_true hg, if_true, if_false]))) | with_reducible refine aseq_step ?_ | with_reducible refine any_step' ?_ | with_reducible refine aseq_end ?_ | with_reducible refine any_end' ?_ | refine acall (hin) ?_ | refine agives (hin) ?_ | refine awp_condC ?_ | refine awp_exit ?_ | refine awp_skip ?_ | refine awp_ret ?_) <;> (try simp (disch := first | omega | simp) [wrap_i64, -aseqC, -anyC])) | ((first | with_reducible refine sideG ?_ ?_ | with_reducible refine sideG2 ?_ ?_ | with_reducible refine sideS ?_ ?_ | with_reducible refine sideS2 ?_ ?_ | with_reducible refine sideS3 ?_ ?_ | with_reducible refine sideA ?_ ?_ | with_reducible refine sideA2 ?_ ?_ | with_reducible refine sideA3 ?_ ?_); (first | omega | assumption | (simp; done))) | (refine awp_seq_k fun K hK => ?_) | (refine awp_regionC ?_) | (refine awp_anyA true (by kernel_rfl) (by kernel_rfl) ?_) | (refine hK _ ?_; clear hK; clear K) | (clear hK; clear K; refine hK _ ?_; clear hK; clear K) | (clear hK; clear K; clear hK; clear K; refine hK _ ?_; clear hK; clear K) | refine awp_block ?_)
    all_goals
      show _ = !(inSet set c != neg)
      cases inSet set c <;> cases neg <;> rfl
end Go.Proofs.YtkhmlicikbnmdaaDoor
