/- Walk: Quote, of the program. -/
import Derived.Test.YtkhmlicikbnmdaaDoorGa14
set_option linter.unusedSimpArgs false
set_option linter.unusedVariables false
namespace Go.Proofs.YtkhmlicikbnmdaaDoor
open Go.RowKit Go.Lib

def bytesA (l : List UInt8) : ByteArray := ⟨l.toArray⟩
@[simp] theorem bytesA_data (l : List UInt8) : (bytesA l).data.toList = l := rfl
@[simp] theorem bytesA_list (l : List UInt8) : (bytesA l).toList = l := by rw [ByteArray.toList_eq]; rfl
theorem bytesA_eq (s : ByteArray) : bytesA s.data.toList = s := by obtain ⟨⟨l⟩⟩ := s; rfl
theorem qmid_append (a b : List UInt8) : qmid (a ++ b) = qmid a ++ qmid b := by unfold qmid; rw [List.flatMap_append]
theorem qB_len (c : UInt8) : (qB c).length ≤ 4 := by
  unfold qB
  split
  · simp
  · split
    · simp
    · split <;> simp
theorem qmid_len : ∀ l : List UInt8, (qmid l).length ≤ 4 * l.length
  | [] => Nat.le_refl _
  | c :: l => by
    have := qmid_len l
    have := qB_len c
    rw [qmid_cons, List.length_append, List.length_cons]; omega
theorem qmid_take {l : List UInt8} {k : Nat} (h : k < l.length) : qmid (l.take (k + 1)) = qmid (l.take k) ++ qB l[k] := by
  rw [List.take_succ_eq_append_getElem h, qmid_append]; simp [qmid]
theorem wrap_u8 {n : Int} (h0 : 0 ≤ n) (h1 : n ≤ 255) : IntKind.u8.wrap n = n := by
  unfold IntKind.wrap
  simp (config := { decide := true }) only [IntKind.bits, IntKind.signed]
  simp
  omega
theorem hex_at {a : Nat} (h : a < 16) : ((#[48, 49, 50, 51, 52, 53, 54, 55, 56, 57, 97, 98, 99, 100, 101, 102] : Array UInt8).getD a 0) = hexd a := by
  have : ∀ a, a < 16 → ((#[48, 49, 50, 51, 52, 53, 54, 55, 56, 57, 97, 98, 99, 100, 101, 102] : Array UInt8).getD a 0) = hexd a := by decide
  exact this a h
def hexL : List UInt8 := [48, 49, 50, 51, 52, 53, 54, 55, 56, 57, 97, 98, 99, 100, 101, 102]
theorem hex_l (a : Nat) (h : a < ([48, 49, 50, 51, 52, 53, 54, 55, 56, 57, 97, 98, 99, 100, 101, 102] : List UInt8).length) : ([48, 49, 50, 51, 52, 53, 54, 55, 56, 57, 97, 98, 99, 100, 101, 102] : List UInt8)[a] = hexd a := by
  have : ∀ a : _root_.Fin 16, ([48, 49, 50, 51, 52, 53, 54, 55, 56, 57, 97, 98, 99, 100, 101, 102] : List UInt8)[a.1]'a.2 = hexd a.1 := by decide
  exact this ⟨a, h⟩
set_option maxHeartbeats 2000000 in
theorem quote_g (s : ByteArray) (hs : s.size ≤ 1000000) : Gives Tryd.prog 23 [.str s] (.str (bytesA (qP s.data.toList))) := by
  obtain ⟨l, hl⟩ : ∃ l, l = s.data.toList := ⟨_, rfl⟩
  have hsz : l.length = s.size := by rw [hl, ← Lib.size_eq]
  rw [← hl]
  refine gives_of_awp Tryd.func23 Tryd.ntmps23 rfl rfl (by decide) rfl (by intro n; simp) fun σ n0 hcl hft => ?_
  repeat' (first | (refine awp_adoptC 0 1 5 1 (by rfl) (by rfl) ?_; try simp (disch := first | omega | simp) [wrap_i64, -aseqC, -anyC]) | ((with_reducible refine aguard (fun hg => ?_) (fun hg => ?_)) <;> (try simp only [hg]) <;> (try simp only [beq_iff_eq, beq_eq_false_iff_ne, ne_eq, decide_eq_true_eq, decide_eq_false_iff_not, bne_iff_ne, bne_eq_false_iff_eq] at hg) <;> (try (first | simp only [eq_false hg, if_true, if_false] | simp only [eq_true hg, if_true, if_false])) <;> (try simp (disch := first | omega | simp) [wrap_i64, -aseqC, -anyC])) | (with_reducible refine aseq_step ?_; try simp (disch := first | omega | simp) [wrap_i64, -aseqC, -anyC]) | (with_reducible refine any_step' ?_; try simp (disch := first | omega | simp) [wrap_i64, -aseqC, -anyC]) | (with_reducible refine aseq_end ?_; try simp (disch := first | omega | simp) [wrap_i64, -aseqC, -anyC]) | (with_reducible refine any_end' ?_; try simp (disch := first | omega | simp) [wrap_i64, -aseqC, -anyC]) | ((first | with_reducible refine sideG ?_ ?_ | with_reducible refine sideG2 ?_ ?_ | with_reducible refine sideS ?_ ?_ | with_reducible refine sideS2 ?_ ?_ | with_reducible refine sideS3 ?_ ?_ | with_reducible refine sideA ?_ ?_ | with_reducible refine sideA2 ?_ ?_ | with_reducible refine sideA3 ?_ ?_); (first | omega | assumption | (simp; done))) | (refine bld_byte (i := 0) (j := 1) _ (by rfl) (by rfl) (by first | rfl | (simp; done) | omega | (simp; omega)) (by first | (simp; done) | assumption) (by first | (simp; done) | assumption) (by first | omega | (simp; done) | (simp; omega)) ?_; try simp (disch := first | omega | simp) [wrap_i64, -aseqC, -anyC]) | (refine bld_string (i := 0) (j := 1) _ (by rfl) (by rfl) (by first | rfl | (simp; done) | omega | (simp; omega)) (by first | (simp; done) | assumption) (by first | (simp; done) | assumption) (by first | omega | (simp; done) | (simp; omega)) ?_; try simp (disch := first | omega | simp) [wrap_i64, -aseqC, -anyC]) | (refine awp_seq_k fun K hK => ?_) | (refine awp_regionC ?_) | (refine awp_anyA true (by kernel_rfl) (by kernel_rfl) ?_) | (refine awp_anyA false (by kernel_rfl) (by kernel_rfl) ?_) | (refine hK _ ?_; clear hK; clear K) | (clear hK; clear K; refine hK _ ?_; clear hK; clear K) | (clear hK; clear K; clear hK; clear K; refine hK _ ?_; clear hK; clear K) | refine awp_block ?_ | (refine awp_condC ?_; simp (disch := first | omega | simp) [wrap_i64, -aseqC, -anyC]) | (refine awp_exit ?_; try simp (disch := first | omega | simp) [wrap_i64, -aseqC, -anyC]) | (refine awp_skip ?_; try simp (disch := first | omega | simp) [wrap_i64, -aseqC, -anyC]) | (refine awp_ret ?_; try simp (disch := first | omega | simp) [wrap_i64, -aseqC, -anyC]))
  refine awp_loopC hcl (fun k : Nat => [(0, .str s), (3, .ptr n0 0), (8, .int s.size), (9, .int k)]) (fun k => [.cells [.ptr n0 0, .gs (n0 + 1) ((34 :: qmid (l.take k)).map AV.byte)] 54, .tail (34 :: qmid (l.take k)).length 5 1])
    (fun k => k ≤ l.length) (fun k => l.length - k) 0 (Nat.zero_le _) (by simp [qmid]) fun k hk => ?_
  have hq := qmid_len (l.take k)
  rw [List.length_take] at hq
  have hb : AV.isBs ((qmid (l.take k)).map AV.byte) := AV.isBs_bytes _
  by_cases hlt : k < l.length
  · have hlt2 : k < s.size := by omega
    have hlt3 : k < s.data.size := hlt2
    have hget : s.data[k] = l[k] := by simp [hl]
    have hc := l[k].toNat_lt
    obtain ⟨a, ha⟩ : ∃ a, a = l[k].toNat / 16 := ⟨_, rfl⟩
    obtain ⟨b, hb16⟩ : ∃ b, b = l[k].toNat % 16 := ⟨_, rfl⟩
    have ha2 : a < 16 := by omega
    have hb2 : b < 16 := by omega
    have ha1 : IntKind.u8.wrap ((l[k].toNat : Int) / 16) = a := by rw [wrap_u8 (by omega) (by omega)]; omega
    have hb1 : (l[k].toNat : Int).tmod 16 = b := by rw [Int.tmod_eq_emod_of_nonneg (by omega)]; omega
    repeat' (first | (refine awp_adoptC 0 1 5 1 (by rfl) (by rfl) ?_; try simp (disch := first | omega | simp) [wrap_i64, -aseqC, -anyC, hlt, hlt2, hlt3, hget, ha1, hb1, ha2, hb2]) | ((with_reducible refine aguard (fun hg => ?_) (fun hg => ?_)) <;> (try simp only [hg]) <;> (try simp only [beq_iff_eq, beq_eq_false_iff_ne, ne_eq, decide_eq_true_eq, decide_eq_false_iff_not, bne_iff_ne, bne_eq_false_iff_eq] at hg) <;> (try (first | simp only [eq_false hg, if_true, if_false] | simp only [eq_true hg, if_true, if_false])) <;> (try simp (disch := first | omega | simp) [wrap_i64, -aseqC, -anyC, hlt, hlt2, hlt3, hget, ha1, hb1, ha2, hb2])) | (with_reducible refine aseq_step ?_; try simp (disch := first | omega | simp) [wrap_i64, -aseqC, -anyC, hlt, hlt2, hlt3, hget, ha1, hb1, ha2, hb2]) | (with_reducible refine any_step' ?_; try simp (disch := first | omega | simp) [wrap_i64, -aseqC, -anyC, hlt, hlt2, hlt3, hget, ha1, hb1, ha2, hb2]) | (with_reducible refine aseq_end ?_; try simp (disch := first | omega | simp) [wrap_i64, -aseqC, -anyC, hlt, hlt2, hlt3, hget, ha1, hb1, ha2, hb2]) | (with_reducible refine any_end' ?_; try simp (disch := first | omega | simp) [wrap_i64, -aseqC, -anyC, hlt, hlt2, hlt3, hget, ha1, hb1, ha2, hb2]) | ((first | with_reducible refine sideG ?_ ?_ | with_reducible refine sideG2 ?_ ?_ | with_reducible refine sideS ?_ ?_ | with_reducible refine sideS2 ?_ ?_ | with_reducible refine sideS3 ?_ ?_ | with_reducible refine sideA ?_ ?_ | with_reducible refine sideA2 ?_ ?_ | with_reducible refine sideA3 ?_ ?_); (first | omega | assumption | (simp; done))) | (refine bld_byte (i := 0) (j := 1) _ (by rfl) (by rfl) (by first | rfl | (simp; done) | omega | (simp; omega)) (by first | (simp; done) | assumption) (by first | (simp; done) | assumption) (by first | omega | (simp; done) | (simp; omega)) ?_; try simp (disch := first | omega | simp) [wrap_i64, -aseqC, -anyC, hlt, hlt2, hlt3, hget, ha1, hb1, ha2, hb2]) | (refine bld_string (i := 0) (j := 1) _ (by rfl) (by rfl) (by first | rfl | (simp; done) | omega | (simp; omega)) (by first | (simp; done) | assumption) (by first | (simp; done) | assumption) (by first | omega | (simp; done) | (simp; omega)) ?_; try simp (disch := first | omega | simp) [wrap_i64, -aseqC, -anyC, hlt, hlt2, hlt3, hget, ha1, hb1, ha2, hb2]) | (refine awp_seq_k fun K hK => ?_) | (refine awp_regionC ?_) | (refine awp_anyA true (by kernel_rfl) (by kernel_rfl) ?_) | (refine awp_anyA false (by kernel_rfl) (by kernel_rfl) ?_) | (refine hK _ ?_; clear hK; clear K) | (clear hK; clear K; refine hK _ ?_; clear hK; clear K) | (clear hK; clear K; clear hK; clear K; refine hK _ ?_; clear hK; clear K) | refine awp_block ?_ | (refine awp_condC ?_; simp (disch := first | omega | simp) [wrap_i64, -aseqC, -anyC, hlt, hlt2, hlt3, hget, ha1, hb1, ha2, hb2]) | (refine awp_exit ?_; try simp (disch := first | omega | simp) [wrap_i64, -aseqC, -anyC, hlt, hlt2, hlt3, hget, ha1, hb1, ha2, hb2]) | (refine awp_skip ?_; try simp (disch := first | omega | simp) [wrap_i64, -aseqC, -anyC, hlt, hlt2, hlt3, hget, ha1, hb1, ha2, hb2]) | (refine awp_ret ?_; try simp (disch := first | omega | simp) [wrap_i64, -aseqC, -anyC, hlt, hlt2, hlt3, hget, ha1, hb1, ha2, hb2]))
    all_goals
      have hqt := qmid_take (l := l) hlt
      have hlen := congrArg List.length hqt
      rw [List.length_append] at hlen
      have e34 : l[k].toNat = 34 ↔ l[k] = 34 := ⟨fun h => UInt8.toNat_inj.1 h, fun h => by rw [h]; rfl⟩
      have e92 : l[k].toNat = 92 ↔ l[k] = 92 := ⟨fun h => UInt8.toNat_inj.1 h, fun h => by rw [h]; rfl⟩
      have e10 : l[k].toNat = 10 ↔ l[k] = 10 := ⟨fun h => UInt8.toNat_inj.1 h, fun h => by rw [h]; rfl⟩
      refine ⟨k + 1, by omega, by omega, ⟨?_, ?_⟩, by omega⟩
    all_goals first
      | (have hqc : qB l[k] = [92, l[k]] := by
          unfold qB; rw [if_pos (by first | exact .inl (e34.1 (by omega)) | exact .inr (e92.1 (by omega)))]
         rw [hqc] at hqt hlen
         first | (rw [hqt, List.map_append]; rfl) | (rw [hlen]; rfl))
      | (have hn : ¬ (l[k] = 34 ∨ l[k] = 92) := by rintro (h | h); exact absurd (e34.2 h) (by omega); exact absurd (e92.2 h) (by omega)
         first
         | (have hqc : qB l[k] = [92, 110] := by unfold qB; rw [if_neg hn, if_pos (e10.1 (by omega))]
            rw [hqc] at hqt hlen
            first | (rw [hqt, List.map_append]; rfl) | (rw [hlen]; rfl))
         | (have hn2 : ¬ l[k] = 10 := fun h => absurd (e10.2 h) (by omega)
            first
            | (have hqc : qB l[k] = [l[k]] := by unfold qB; rw [if_neg hn, if_neg hn2, if_pos (by omega)]
               rw [hqc] at hqt hlen
               first | (rw [hqt, List.map_append]; rfl) | (rw [hlen]; rfl))
            | (have hqc : qB l[k] = [92, 120, hexd a, hexd b] := by unfold qB; rw [if_neg hn, if_neg hn2, if_neg (by omega), ← ha, ← hb16]
               rw [hqc] at hqt hlen
               first | (rw [hqt, List.map_append, hex_l a ha2, hex_l b hb2]; rfl) | (rw [hlen]; rfl))))
  · obtain rfl : k = l.length := by omega
    rw [List.take_length] at hb hq ⊢
    have hnlt : ¬ l.length < s.size := by omega
    repeat' (first | (refine awp_adoptC 0 1 5 1 (by rfl) (by rfl) ?_; try simp (disch := first | omega | simp) [wrap_i64, -aseqC, -anyC, hnlt, hsz]) | ((with_reducible refine aguard (fun hg => ?_) (fun hg => ?_)) <;> (try simp only [hg]) <;> (try simp only [beq_iff_eq, beq_eq_false_iff_ne, ne_eq, decide_eq_true_eq, decide_eq_false_iff_not, bne_iff_ne, bne_eq_false_iff_eq] at hg) <;> (try (first | simp only [eq_false hg, if_true, if_false] | simp only [eq_true hg, if_true, if_false])) <;> (try simp (disch := first | omega | simp) [wrap_i64, -aseqC, -anyC, hnlt, hsz])) | (with_reducible refine aseq_step ?_; try simp (disch := first | omega | simp) [wrap_i64, -aseqC, -anyC, hnlt, hsz]) | (with_reducible refine any_step' ?_; try simp (disch := first | omega | simp) [wrap_i64, -aseqC, -anyC, hnlt, hsz]) | (with_reducible refine aseq_end ?_; try simp (disch := first | omega | simp) [wrap_i64, -aseqC, -anyC, hnlt, hsz]) | (with_reducible refine any_end' ?_; try simp (disch := first | omega | simp) [wrap_i64, -aseqC, -anyC, hnlt, hsz]) | ((first | with_reducible refine sideG ?_ ?_ | with_reducible refine sideG2 ?_ ?_ | with_reducible refine sideS ?_ ?_ | with_reducible refine sideS2 ?_ ?_ | with_reducible refine sideS3 ?_ ?_ | with_reducible refine sideA ?_ ?_ | with_reducible refine sideA2 ?_ ?_ | with_reducible refine sideA3 ?_ ?_); (first | omega | assumption | (simp; done))) | (refine bld_byte (i := 0) (j := 1) _ (by rfl) (by rfl) (by first | rfl | (simp; done) | omega | (simp; omega)) (by first | (simp; done) | assumption) (by first | (simp; done) | assumption) (by first | omega | (simp; done) | (simp; omega)) ?_; try simp (disch := first | omega | simp) [wrap_i64, -aseqC, -anyC, hnlt, hsz]) | (refine bld_string (i := 0) (j := 1) _ (by rfl) (by rfl) (by first | rfl | (simp; done) | omega | (simp; omega)) (by first | (simp; done) | assumption) (by first | (simp; done) | assumption) (by first | omega | (simp; done) | (simp; omega)) ?_; try simp (disch := first | omega | simp) [wrap_i64, -aseqC, -anyC, hnlt, hsz]) | (refine acall (bld_read (i := 0) (j := 1) (qP l) (by rfl) (by rfl) (by simp) (by simp [qP])) ?_; try simp (disch := first | omega | simp) [wrap_i64, -aseqC, -anyC, hnlt, hsz]) | (refine agives (bld_read (i := 0) (j := 1) (qP l) (by rfl) (by rfl) (by simp) (by simp [qP])) ?_; try simp (disch := first | omega | simp) [wrap_i64, -aseqC, -anyC, hnlt, hsz]) | (refine acallAt (bld_read (i := 0) (j := 1) (qP l) (by rfl) (by rfl) (by simp) (by simp [qP])) ?_; try simp (disch := first | omega | simp) [wrap_i64, -aseqC, -anyC, hnlt, hsz]) | (refine awp_seq_k fun K hK => ?_) | (refine awp_regionC ?_) | (refine awp_anyA true (by kernel_rfl) (by kernel_rfl) ?_) | (refine awp_anyA false (by kernel_rfl) (by kernel_rfl) ?_) | (refine hK _ ?_; clear hK; clear K) | (clear hK; clear K; refine hK _ ?_; clear hK; clear K) | (clear hK; clear K; clear hK; clear K; refine hK _ ?_; clear hK; clear K) | refine awp_block ?_ | (refine awp_condC ?_; simp (disch := first | omega | simp) [wrap_i64, -aseqC, -anyC, hnlt, hsz]) | (refine awp_exit ?_; try simp (disch := first | omega | simp) [wrap_i64, -aseqC, -anyC, hnlt, hsz]) | (refine awp_skip ?_; try simp (disch := first | omega | simp) [wrap_i64, -aseqC, -anyC, hnlt, hsz]) | (refine awp_ret ?_; try simp (disch := first | omega | simp) [wrap_i64, -aseqC, -anyC, hnlt, hsz]))
    rfl
end Go.Proofs.YtkhmlicikbnmdaaDoor
