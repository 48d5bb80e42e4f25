/- Walks of the reference of chapter 02: Quote. -/
import Derived.Test.YtbkkjlcclddpdaaGreatDoorGc21
import Derived.Test.YtbkkjlcclddpdaaGreatDoorGc24
set_option linter.unusedSimpArgs false
set_option linter.unusedVariables false
namespace Go.Proofs.YtbkkjlcclddpdaaGreatDoor
open Go.RowKit Go.Lib
theorem tb_map (l : List UInt8) : l.map (AV.toByte ∘ AV.byte) = l := by
  conv => rhs; rw [← List.map_id l]
  exact List.map_congr_left fun c _ => by show UInt8.ofNat ((c.toNat : Int)).toNat = c; simp
set_option maxHeartbeats 4000000 in
theorem rquote_g (s : ByteArray) (hs : s.size ≤ 1000000) : Gives Tryz.prog 85 [.str s] (.str (qh (qP s.data.toList))) := by
  obtain ⟨l, hl⟩ : ∃ l, l = s.data.toList := ⟨_, rfl⟩
  have hsz : l.length = s.size := by rw [hl, ← Lib.size_eq]
  rw [← hl]
  refine qj Tryz.func85 Tryz.ntmps85 fun σ n0 hcl hft => ?_
  repeat' (first | ((first | with_reducible refine awp_regionL (id := 1) ?_ | ((with_reducible refine qf (fun hg => ?_) (fun hg => ?_)) <;> (try simp only [hg]) <;> (try simp only [gS] at hg) <;> (try (first | simp only [eq_false hg, gI] | simp only [eq_true hg, gI]))) | refine Stp.m ?_) <;> (try simp (disch := first | omega | simp) [qd, -qg, -qm])) | refine sideA ?_ | refine qc fun K hK => ?_ | refine qa ?_ | refine qe ?_ | refine qb ?_ | (refine hK _ ?_; clear hK K) | clear hK K)
  refine qq 3 0 (k := 1) (by simp) (by rfl) (by simp) ?_
  refine qw hcl (fun k : Nat => [(0, .str s), (3, .gs (n0 + 1) ((34 :: qmid (l.take k)).map AV.byte)), (4, .int k)]) (fun k => [.dead, .tail (34 :: qmid (l.take k)).length 5 1])
    (fun k => k ≤ l.length) (fun k => l.length - k) 0 (Nat.zero_le _) (by simp [qmid, AV.byte]) fun k hk => ?_
  have hq := qmid_len (l.take k)
  rw [List.length_take] at hq
  have hb : AV.isBs ((qmid (l.take k)).map AV.byte) := AV.isBs_bytes _
  by_cases hlt : k < l.length
  · have hlt2 : k < s.size := by omega
    have hlt3 : k < s.data.size := hlt2
    have hget : s.data[k] = l[k] := by simp [hl]
    have hc := l[k].toNat_lt
    obtain ⟨a, ha⟩ : ∃ a, a = l[k].toNat / 16 := ⟨_, rfl⟩
    obtain ⟨b, hb16⟩ : ∃ b, b = l[k].toNat % 16 := ⟨_, rfl⟩
    have ha2 : a < 16 := by omega
    have hb2 : b < 16 := by omega
    have ha1 : IntKind.u8.wrap ((l[k].toNat : Int) / 16) = a := by rw [wrap_u8 (by omega) (by omega)]; omega
    have hb1 : (l[k].toNat : Int).tmod 16 = b := by rw [Int.tmod_eq_emod_of_nonneg (by omega)]; omega
    have hqt := qmid_take (l := l) hlt
    have hlen := congrArg List.length hqt
    rw [List.length_append] at hlen
    have e34 : l[k].toNat = 34 ↔ l[k] = 34 := ⟨fun h => UInt8.toNat_inj.1 h, fun h => by rw [h]; rfl⟩
    have e92 : l[k].toNat = 92 ↔ l[k] = 92 := ⟨fun h => UInt8.toNat_inj.1 h, fun h => by rw [h]; rfl⟩
    have e10 : l[k].toNat = 10 ↔ l[k] = 10 := ⟨fun h => UInt8.toNat_inj.1 h, fun h => by rw [h]; rfl⟩
    repeat' (first | ((first | ((with_reducible refine qf (fun hg => ?_) (fun hg => ?_)) <;> (try simp only [hg]) <;> (try simp only [gS] at hg) <;> (try (first | simp only [eq_false hg, gI] | simp only [eq_true hg, gI]))) | refine Stp.m ?_) <;> (try simp (disch := first | omega | simp) [qd, -qg, -qm, hlt, hlt2, hlt3, hget, ha1, hb1, ha2, hb2])) | refine sideA ?_ | refine qc fun K hK => ?_ | refine qa ?_ | refine qe ?_ | refine qb ?_ | (refine hK _ ?_; clear hK K) | clear hK K)
    all_goals first
      | (have hqc : qB l[k] = [92, l[k]] := by
          unfold qB; rw [if_pos (by first | exact .inl (e34.1 (by omega)) | exact .inr (e92.1 (by omega)))]
         rw [hqc] at hqt hlen
         exact ⟨k + 1, by omega, by omega, by rw [hlen]; rfl, by rw [hqt, List.map_append]; rfl, by omega⟩)
      | (have hn : ¬ (l[k] = 34 ∨ l[k] = 92) := by rintro (h | h); exact absurd (e34.2 h) (by omega); exact absurd (e92.2 h) (by omega)
         first
         | (have hqc : qB l[k] = [92, 110] := by unfold qB; rw [if_neg hn, if_pos (e10.1 (by omega))]
            rw [hqc] at hqt hlen
            exact ⟨k + 1, by omega, by omega, by rw [hlen]; rfl, by rw [hqt, List.map_append]; rfl, by omega⟩)
         | (have hn2 : ¬ l[k] = 10 := fun h => absurd (e10.2 h) (by omega)
            first
            | (have hqc : qB l[k] = [l[k]] := by unfold qB; rw [if_neg hn, if_neg hn2, if_pos (by omega)]
               rw [hqc] at hqt hlen
               exact ⟨k + 1, by omega, by omega, by rw [hlen]; rfl, by rw [hqt, List.map_append]; rfl, by omega⟩)
            | (have hqc : qB l[k] = [92, 120, hexd a, hexd b] := by unfold qB; rw [if_neg hn, if_neg hn2, if_neg (by omega), ← ha, ← hb16]
               rw [hqc] at hqt hlen
               exact ⟨k + 1, by omega, by omega, by rw [hlen]; rfl, by rw [hqt, List.map_append, hex_l a ha2, hex_l b hb2]; rfl, by omega⟩)))
  · obtain rfl : k = l.length := by omega
    rw [List.take_length] at hb hq ⊢
    have hnlt : ¬ l.length < s.size := by omega
    repeat' (first | ((first | ((with_reducible refine qf (fun hg => ?_) (fun hg => ?_)) <;> (try simp only [hg]) <;> (try simp only [gS] at hg) <;> (try (first | simp only [eq_false hg, gI] | simp only [eq_true hg, gI]))) | refine Stp.m ?_) <;> (try simp (disch := first | omega | simp) [qd, -qg, -qm, hnlt, hb])) | refine sideA ?_ | refine qc fun K hK => ?_ | refine qa ?_ | refine qe ?_ | refine qb ?_ | (refine hK _ ?_; clear hK K) | clear hK K)
    rw [tb_map]; rfl
end Go.Proofs.YtbkkjlcclddpdaaGreatDoor

/- Walk of the reference of chapter 02: digit. -/
namespace Go.Proofs.YtbkkjlcclddpdaaGreatDoor
open Go.RowKit Go.Lib
def digP (c : UInt8) : Nat → Nat → UInt8
  | 0, _ => 0
  | f + 1, i => if hexd i = c then UInt8.ofNat i else digP c f (i + 1)
theorem digP_lt (c : UInt8) : ∀ f i, i + f ≤ 16 → (digP c f i).toNat < 16
  | 0, _, _ => (by decide : (0 : UInt8).toNat < 16)
  | f + 1, i, h => by
    rw [digP]
    split
    · rw [UInt8.toNat_ofNat']; omega
    · exact digP_lt c f (i + 1) (by omega)
set_option maxHeartbeats 1000000 in
theorem rdigit_g (c : UInt8) : Gives Tryz.prog 131 [.v (.int .u8 c.toNat)] (.v (.int .u8 (digP c 16 0).toNat)) := by
  obtain ⟨R, hR⟩ : ∃ R, R = digP c 16 0 := ⟨_, rfl⟩
  rw [← hR]
  refine qj Tryz.func131 Tryz.ntmps131 fun σ n0 hcl hft => ?_
  repeat' (first | ((first | ((with_reducible refine qf (fun hg => ?_) (fun hg => ?_)) <;> (try simp only [hg]) <;> (try simp only [gS] at hg) <;> (try (first | simp only [eq_false hg, gI] | simp only [eq_true hg, gI]))) | refine Stp.m ?_) <;> (try simp (disch := first | omega | simp) [qd, -qg, -qm])) | refine sideA ?_ | refine qc fun K hK => ?_ | refine qa ?_ | refine qe ?_ | refine qb ?_ | (refine hK _ ?_; clear hK K) | clear hK K)
  refine qw hcl (fun i : Nat => [(0, .v (.int .u8 c.toNat)), (3, .int i)]) (fun _ => []) (fun i => i ≤ 16 ∧ digP c (16 - i) i = R) (fun i => 16 - i) 0 ⟨Nat.zero_le _, hR.symm⟩ (by simp) fun i ⟨hi, hd⟩ => ?_
  by_cases hlt : i < 16
  · have hlt' : (i : Int) < 16 := by omega
    have h16 : i < ([48, 49, 50, 51, 52, 53, 54, 55, 56, 57, 97, 98, 99, 100, 101, 102] : List UInt8).length := hlt
    have hx := hex_l i h16
    have e : 16 - i = (16 - (i + 1)) + 1 := by omega
    rw [e, digP] at hd
    by_cases hc : hexd i = c
    · rw [if_pos hc] at hd
      have hw : IntKind.u8.wrap (i : Int) = i := wrap_u8 (by omega) (by omega)
      have hRi : (R.toNat : Int) = i := by rw [← hd, UInt8.toNat_ofNat']; omega
      repeat' (first | ((first | ((with_reducible refine qf (fun hg => ?_) (fun hg => ?_)) <;> (try simp only [hg]) <;> (try simp only [gS] at hg) <;> (try (first | simp only [eq_false hg, gI] | simp only [eq_true hg, gI]))) | refine Stp.m ?_) <;> (try simp (disch := first | omega | simp) [qd, -qg, -qm, hlt, hlt', hw, hx, hc])) | refine sideA ?_ | refine qc fun K hK => ?_ | refine qa ?_ | refine qe ?_ | refine qb ?_ | (refine hK _ ?_; clear hK K) | clear hK K)
      all_goals first | exact hRi.symm
    · rw [if_neg hc] at hd
      have hc2 : ¬ ((hexd i).toNat : Int) = c.toNat := fun h => hc (UInt8.toNat_inj.1 (by omega))
      repeat' (first | ((first | ((with_reducible refine qf (fun hg => ?_) (fun hg => ?_)) <;> (try simp only [hg]) <;> (try simp only [gS] at hg) <;> (try (first | simp only [eq_false hg, gI] | simp only [eq_true hg, gI]))) | refine Stp.m ?_) <;> (try simp (disch := first | omega | simp) [qd, -qg, -qm, hlt, hlt', hx, hc2])) | refine sideA ?_ | refine qc fun K hK => ?_ | refine qa ?_ | refine qe ?_ | refine qb ?_ | (refine hK _ ?_; clear hK K) | clear hK K)
      all_goals first | exact absurd (by assumption) hc2 | exact ⟨i + 1, ⟨by omega, hd⟩, by omega, by omega⟩
  · obtain rfl : i = 16 := by omega
    have hR0 : R = 0 := hd.symm
    subst hR0
    repeat' (first | ((first | ((with_reducible refine qf (fun hg => ?_) (fun hg => ?_)) <;> (try simp only [hg]) <;> (try simp only [gS] at hg) <;> (try (first | simp only [eq_false hg, gI] | simp only [eq_true hg, gI]))) | refine Stp.m ?_) <;> (try simp (disch := first | omega | simp) [qd, -qg, -qm])) | refine sideA ?_ | refine qc fun K hK => ?_ | refine qa ?_ | refine qe ?_ | refine qb ?_ | (refine hK _ ?_; clear hK K) | clear hK K)
    all_goals first | rfl
def hxR (a b : UInt8) : UInt8 := UInt8.ofNat (16 * (digP a 16 0).toNat + (digP b 16 0).toNat)
theorem hxR_ok : hxOk hxR := by
  have : ∀ n m : _root_.Fin 16, hxR (hexd n.1) (hexd m.1) = UInt8.ofNat (16 * n.1 + m.1) := by decide +kernel
  exact fun n m hn hm => this ⟨n, hn⟩ ⟨m, hm⟩
end Go.Proofs.YtbkkjlcclddpdaaGreatDoor
