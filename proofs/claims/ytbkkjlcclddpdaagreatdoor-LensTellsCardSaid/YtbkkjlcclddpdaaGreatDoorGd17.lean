/- Walk: Quote, of the program. -/
import Derived.Test.YtbkkjlcclddpdaaGreatDoorGd8
import Derived.Test.YtbkkjlcclddpdaaGreatDoorGd16
set_option linter.unusedSimpArgs false
set_option linter.unusedVariables false
namespace Go.Proofs.YtbkkjlcclddpdaaGreatDoor
open Go.RowKit Go.Lib
theorem qmid_append (a b : List UInt8) : qmid (a ++ b) = qmid a ++ qmid b := by unfold qmid; rw [List.flatMap_append]
theorem qB_len (c : UInt8) : (qB c).length ≤ 4 := by
  unfold qB
  split
  · simp
  · split
    · simp
    · split <;> simp
theorem qmid_len : ∀ l : List UInt8, (qmid l).length ≤ 4 * l.length
  | [] => Nat.le_refl _
  | c :: l => by
    have := qmid_len l
    have := qB_len c
    rw [qmid_cons, List.length_append, List.length_cons]; omega
theorem qmid_take {l : List UInt8} {k : Nat} (h : k < l.length) : qmid (l.take (k + 1)) = qmid (l.take k) ++ qB l[k] := by
  rw [List.take_succ_eq_append_getElem h, qmid_append]; simp [qmid]
theorem wrap_u8 {n : Int} (h0 : 0 ≤ n) (h1 : n ≤ 255) : IntKind.u8.wrap n = n := by
  unfold IntKind.wrap
  simp (config := { decide := true }) only [IntKind.bits, IntKind.signed]
  simp
  omega
def hexL : List UInt8 := [48, 49, 50, 51, 52, 53, 54, 55, 56, 57, 97, 98, 99, 100, 101, 102]
theorem hex_l (a : Nat) (h : a < ([48, 49, 50, 51, 52, 53, 54, 55, 56, 57, 97, 98, 99, 100, 101, 102] : List UInt8).length) : ([48, 49, 50, 51, 52, 53, 54, 55, 56, 57, 97, 98, 99, 100, 101, 102] : List UInt8)[a] = hexd a := by
  have : ∀ a : _root_.Fin 16, ([48, 49, 50, 51, 52, 53, 54, 55, 56, 57, 97, 98, 99, 100, 101, 102] : List UInt8)[a.1]'a.2 = hexd a.1 := by decide
  exact this ⟨a, h⟩
set_option maxHeartbeats 2000000 in
theorem quote_g (s : ByteArray) (hs : s.size ≤ 1000000) : Gives Tryz.prog 73 [.str s] (.str (qk (qP s.data.toList))) := by
  obtain ⟨l, hl⟩ : ∃ l, l = s.data.toList := ⟨_, rfl⟩
  have hsz : l.length = s.size := by rw [hl, ← Lib.size_eq]
  rw [← hl]
  refine qh Tryz.func73 Tryz.ntmps73 fun σ n0 hcl hft => ?_
  repeat' (first | ((first | refine qbo 0 1 5 1 (by rfl) (by rfl) ?_ | ((with_reducible refine qf (fun hg => ?_) (fun hg => ?_)) <;> (try simp only [hg]) <;> (try simp only [gS] at hg) <;> (try (first | simp only [eq_false hg, gI] | simp only [eq_true hg, gI]))) | refine Stp.m ?_ | refine qcz (i := 0) (j := 1) _ (by rfl) (by rfl) (by first | rfl | (simp; done) | omega | (simp; omega)) (by first | (simp; done) | assumption) (by first | (simp; done) | assumption) (by first | omega | (simp; done) | (simp; omega)) ?_ | refine qbw (i := 0) (j := 1) _ (by rfl) (by rfl) (by first | rfl | (simp; done) | omega | (simp; omega)) (by first | (simp; done) | assumption) (by first | (simp; done) | assumption) (by first | omega | (simp; done) | (simp; omega)) ?_) <;> (try simp (disch := first | omega | simp) [qd, -qg, -ql])) | refine sideA ?_ | refine qc fun K hK => ?_ | refine qa ?_ | refine qe ?_ | refine qb ?_ | (refine hK _ ?_; clear hK K) | clear hK K)
  refine qt hcl (fun k : Nat => [(0, .str s), (3, .ptr n0 0), (8, .int s.size), (9, .int k)]) (fun k => [.cells [.ptr n0 0, .gs (n0 + 1) ((34 :: qmid (l.take k)).map AV.byte)] 61, .tail (34 :: qmid (l.take k)).length 5 1])
    (fun k => k ≤ l.length) (fun k => l.length - k) 0 (Nat.zero_le _) (by simp [qmid]) fun k hk => ?_
  have hq := qmid_len (l.take k)
  rw [List.length_take] at hq
  have hb : AV.isBs ((qmid (l.take k)).map AV.byte) := AV.isBs_bytes _
  by_cases hlt : k < l.length
  · have hlt2 : k < s.size := by omega
    have hlt3 : k < s.data.size := hlt2
    have hget : s.data[k] = l[k] := by simp [hl]
    have hc := l[k].toNat_lt
    obtain ⟨a, ha⟩ : ∃ a, a = l[k].toNat / 16 := ⟨_, rfl⟩
    obtain ⟨b, hb16⟩ : ∃ b, b = l[k].toNat % 16 := ⟨_, rfl⟩
    have ha2 : a < 16 := by omega
    have hb2 : b < 16 := by omega
    have ha1 : IntKind.u8.wrap ((l[k].toNat : Int) / 16) = a := by rw [wrap_u8 (by omega) (by omega)]; omega
    have hb1 : (l[k].toNat : Int).tmod 16 = b := by rw [Int.tmod_eq_emod_of_nonneg (by omega)]; omega
    repeat' (first | ((first | refine qbo 0 1 5 1 (by rfl) (by rfl) ?_ | ((with_reducible refine qf (fun hg => ?_) (fun hg => ?_)) <;> (try simp only [hg]) <;> (try simp only [gS] at hg) <;> (try (first | simp only [eq_false hg, gI] | simp only [eq_true hg, gI]))) | refine Stp.m ?_ | refine qcz (i := 0) (j := 1) _ (by rfl) (by rfl) (by first | rfl | (simp; done) | omega | (simp; omega)) (by first | (simp; done) | assumption) (by first | (simp; done) | assumption) (by first | omega | (simp; done) | (simp; omega)) ?_ | refine qbw (i := 0) (j := 1) _ (by rfl) (by rfl) (by first | rfl | (simp; done) | omega | (simp; omega)) (by first | (simp; done) | assumption) (by first | (simp; done) | assumption) (by first | omega | (simp; done) | (simp; omega)) ?_) <;> (try simp (disch := first | omega | simp) [qd, -qg, -ql, hlt, hlt2, hlt3, hget, ha1, hb1, ha2, hb2])) | refine sideA ?_ | refine qc fun K hK => ?_ | refine qa ?_ | refine qe ?_ | refine qb ?_ | (refine hK _ ?_; clear hK K) | clear hK K)
    all_goals
      have hqt := qmid_take (l := l) hlt
      have hlen := congrArg List.length hqt
      rw [List.length_append] at hlen
      have e34 : l[k].toNat = 34 ↔ l[k] = 34 := ⟨fun h => UInt8.toNat_inj.1 h, fun h => by rw [h]; rfl⟩
      have e92 : l[k].toNat = 92 ↔ l[k] = 92 := ⟨fun h => UInt8.toNat_inj.1 h, fun h => by rw [h]; rfl⟩
      have e10 : l[k].toNat = 10 ↔ l[k] = 10 := ⟨fun h => UInt8.toNat_inj.1 h, fun h => by rw [h]; rfl⟩
      refine ⟨k + 1, by omega, by omega, ⟨?_, ?_⟩, by omega⟩
    all_goals first
      | (have hqc : qB l[k] = [92, l[k]] := by
          unfold qB; rw [if_pos (by first | exact .inl (e34.1 (by omega)) | exact .inr (e92.1 (by omega)))]
         rw [hqc] at hqt hlen
         first | (rw [hqt, List.map_append]; rfl) | (rw [hlen]; rfl))
      | (have hn : ¬ (l[k] = 34 ∨ l[k] = 92) := by rintro (h | h); exact absurd (e34.2 h) (by omega); exact absurd (e92.2 h) (by omega)
         first
         | (have hqc : qB l[k] = [92, 110] := by unfold qB; rw [if_neg hn, if_pos (e10.1 (by omega))]
            rw [hqc] at hqt hlen
            first | (rw [hqt, List.map_append]; rfl) | (rw [hlen]; rfl))
         | (have hn2 : ¬ l[k] = 10 := fun h => absurd (e10.2 h) (by omega)
            first
            | (have hqc : qB l[k] = [l[k]] := by unfold qB; rw [if_neg hn, if_neg hn2, if_pos (by omega)]
               rw [hqc] at hqt hlen
               first | (rw [hqt, List.map_append]; rfl) | (rw [hlen]; rfl))
            | (have hqc : qB l[k] = [92, 120, hexd a, hexd b] := by unfold qB; rw [if_neg hn, if_neg hn2, if_neg (by omega), ← ha, ← hb16]
               rw [hqc] at hqt hlen
               first | (rw [hqt, List.map_append, hex_l a ha2, hex_l b hb2]; rfl) | (rw [hlen]; rfl))))
  · obtain rfl : k = l.length := by omega
    rw [List.take_length] at hb hq ⊢
    have hnlt : ¬ l.length < s.size := by omega
    repeat' (first | ((first | refine qbo 0 1 5 1 (by rfl) (by rfl) ?_ | ((with_reducible refine qf (fun hg => ?_) (fun hg => ?_)) <;> (try simp only [hg]) <;> (try simp only [gS] at hg) <;> (try (first | simp only [eq_false hg, gI] | simp only [eq_true hg, gI]))) | refine Stp.m ?_ | refine qcz (i := 0) (j := 1) _ (by rfl) (by rfl) (by first | rfl | (simp; done) | omega | (simp; omega)) (by first | (simp; done) | assumption) (by first | (simp; done) | assumption) (by first | omega | (simp; done) | (simp; omega)) ?_ | refine qbw (i := 0) (j := 1) _ (by rfl) (by rfl) (by first | rfl | (simp; done) | omega | (simp; omega)) (by first | (simp; done) | assumption) (by first | (simp; done) | assumption) (by first | omega | (simp; done) | (simp; omega)) ?_ | refine acall (qdg (i := 0) (j := 1) (qP l) (by rfl) (by rfl) (by simp) (by simp [qP])) ?_ | refine qo (qdg (i := 0) (j := 1) (qP l) (by rfl) (by rfl) (by simp) (by simp [qP])) ?_ | refine qdj (qdg (i := 0) (j := 1) (qP l) (by rfl) (by rfl) (by simp) (by simp [qP])) ?_) <;> (try simp (disch := first | omega | simp) [qd, -qg, -ql, hnlt, hsz])) | refine sideA ?_ | refine qc fun K hK => ?_ | refine qa ?_ | refine qe ?_ | refine qb ?_ | (refine hK _ ?_; clear hK K) | clear hK K)
    rfl
end Go.Proofs.YtbkkjlcclddpdaaGreatDoor
