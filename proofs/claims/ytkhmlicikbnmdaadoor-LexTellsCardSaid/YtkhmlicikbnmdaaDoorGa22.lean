/- Walks: white bytes and comments; what takes the token that begins here. -/
import Derived.Test.YtkhmlicikbnmdaaDoorGa19
import Derived.Test.YtkhmlicikbnmdaaDoorGa20
import Derived.Test.YtkhmlicikbnmdaaDoorGa21
set_option linter.unusedSimpArgs false
set_option linter.unusedVariables false
namespace Go.Proofs.YtkhmlicikbnmdaaDoor
open Go.RowKit Go.Lib

/-- a comment's end -/
theorem skip_idx : ∀ (l : List UInt8), skipP true l = if Lib.indexByte l 10 = -1 then [] else l.drop (Lib.indexByte l 10).toNat
  | [] => rfl
  | c :: l => by
    have hge := Lib.indexByte_ge l 10
    by_cases hc : c = 10
    · subst hc; rfl
    · have e : Lib.indexByte (c :: l) 10 = if Lib.indexByte l 10 = -1 then -1 else Lib.indexByte l 10 + 1 := by
        rw [Lib.indexByte, if_neg (by simpa using hc)]
        by_cases hn : Lib.indexByte l 10 = -1 <;> simp [hn]
      rw [skipP, if_neg hc, skip_idx l, e]
      by_cases hn : Lib.indexByte l 10 = -1
      · simp [hn]
      · have e2 : (Lib.indexByte l 10 + 1).toNat = (Lib.indexByte l 10).toNat + 1 := by omega
        rw [if_neg hn, if_neg hn, if_neg (by omega), e2, List.drop_succ_cons]
theorem skip_ft : ∀ (l : List UInt8), skipP false (skipP true l) = skipP true l
  | [] => rfl
  | c :: l => by
    by_cases hc : c = 10
    · subst hc; rw [skip_lf, skip_lf]
    · rw [skipP, if_neg hc]; exact skip_ft l
theorem idx_lt : ∀ (l : List UInt8) (c : UInt8), Lib.indexByte l c < l.length ∨ Lib.indexByte l c = -1
  | [], _ => .inr rfl
  | b :: l, c => by
    rw [Lib.indexByte]
    have := idx_lt l c
    split
    · left; simp
    · split
      · right; rfl
      · left
        rename_i h
        rcases this with h1 | h1
        · simp; omega
        · rw [h1] at h; exact absurd rfl h
section
variable {σ : Nat → AB} {r r' : Nat} {src : ByteArray} {a line : Nat} {L : List (Tk × Nat)}
theorem scnT_one {l : List AV} {av lv : Int} (hr : σ r' = .tail L.length 43 4) (hne : ¬ r' = r) (hl : l = L.map tkAv) (ha : av = a) (hlv : lv = line) : upd σ r (.cells [.str src, .int av, .int lv, .gs r' l] 73) = scnT σ r r' src a line L := by
  subst hl; subst ha; subst hlv
  funext k
  unfold scnT scnC upd
  by_cases h1 : k = r'
  · subst h1; simp [hne, hr]
  · by_cases h2 : k = r
    · subst h2; simp [h1]
    · simp [h1, h2]
set_option maxHeartbeats 2000000 in
theorem skip_g (h : Scn σ r r' src a line L) (hs : src.size ≤ 1000000) (ha : a ≤ src.size) :
    AC Tryd.prog 58 [.ptr r 0] σ fun z τ => z = .tup [] ∧ τ = scnT σ r r' src (src.size - (skipP false (src.data.toList.drop a)).length) line L := by
  have hsz : src.data.toList.length = src.size := by rw [← Lib.size_eq]
  obtain ⟨A, hA⟩ : ∃ A, A = skipP false (src.data.toList.drop a) := ⟨_, rfl⟩
  rw [← hA]
  have e35 : (35 : UInt8).toNat = 35 := rfl
  have nn : ∀ a k : UInt8, a ≠ k → ¬ (a.toNat : Int) = k.toNat := fun a k h h2 => h (UInt8.toNat_inj.1 (by omega))
  refine acT_of_awp Tryd.func58 Tryd.ntmps58 rfl rfl (by decide) rfl (by intro n; simp) (scnT_fin h _ _ _) fun n0 hfin hcl hft => ?_
  obtain ⟨hr, hr'⟩ := h.lt hfin
  have h1 := h.cells
  have h2 := h.row
  unfold scnC at h1
  have hne := h.ne
  have hne' : ¬ r' = r := fun e => hne e.symm
  have hc : ∀ j : Nat, AB.cl n0 (.cells [.str src, .int j, .int line, .gs r' (L.map tkAv)] 73) := fun j => by simp [hr']
  have hL : ∀ (τ : Nat → AB) (L : List AB), loc τ n0 L r = τ r := fun τ L => loc_lt _ _ _ _ hr
  have hσ0 : σ = upd σ r (.cells [.str src, .int a, .int line, .gs r' (L.map tkAv)] 73) := by
    funext k; unfold upd; split
    · rename_i e; rw [e, h1]
    · rfl
  repeat' (first | ((with_reducible refine aguard (fun hg => ?_) (fun hg => ?_)) <;> (try simp only [hg]) <;> (try simp only [beq_iff_eq, beq_eq_false_iff_ne, ne_eq, decide_eq_true_eq, decide_eq_false_iff_not, bne_iff_ne, bne_eq_false_iff_eq] at hg) <;> (try (first | simp only [eq_false hg, if_true, if_false] | simp only [eq_true hg, if_true, if_false])) <;> (try simp (disch := first | omega | simp) [wrap_i64, -aseqC, -anyC])) | (with_reducible refine aseq_step ?_; try simp (disch := first | omega | simp) [wrap_i64, -aseqC, -anyC]) | (with_reducible refine any_step' ?_; try simp (disch := first | omega | simp) [wrap_i64, -aseqC, -anyC]) | (with_reducible refine aseq_end ?_; try simp (disch := first | omega | simp) [wrap_i64, -aseqC, -anyC]) | (with_reducible refine any_end' ?_; try simp (disch := first | omega | simp) [wrap_i64, -aseqC, -anyC]) | ((first | with_reducible refine sideG ?_ ?_ | with_reducible refine sideG2 ?_ ?_ | with_reducible refine sideS ?_ ?_ | with_reducible refine sideS2 ?_ ?_ | with_reducible refine sideS3 ?_ ?_ | with_reducible refine sideA ?_ ?_ | with_reducible refine sideA2 ?_ ?_ | with_reducible refine sideA3 ?_ ?_); (first | omega | assumption | (simp; done))) | (refine awp_seq_k fun K hK => ?_) | (refine awp_regionC ?_) | (refine hK _ ?_; clear hK; clear K) | (clear hK; clear K; refine hK _ ?_; clear hK; clear K) | (clear hK; clear K; clear hK; clear K; refine hK _ ?_; clear hK; clear K) | refine awp_block ?_ | (refine awp_condC ?_; simp (disch := first | omega | simp) [wrap_i64, -aseqC, -anyC]) | (refine awp_exit ?_; try simp (disch := first | omega | simp) [wrap_i64, -aseqC, -anyC]) | (refine awp_skip ?_; try simp (disch := first | omega | simp) [wrap_i64, -aseqC, -anyC]) | (refine awp_ret ?_; try simp (disch := first | omega | simp) [wrap_i64, -aseqC, -anyC]) | (refine awp_label ?_; try simp (disch := first | omega | simp) [wrap_i64, -aseqC, -anyC]) | refine awp_scope ?_)
  refine awp_loopS (fun j : Nat => upd σ r (.cells [.str src, .int j, .int line, .gs r' (L.map tkAv)] 73)) (fun j => [(0, .ptr r 0)]) (fun _ => [])
    (fun j => j ≤ src.size ∧ skipP false (src.data.toList.drop j) = A) (fun j => src.size - j) a (fun j _ => upd_cl hcl (hc j)) ⟨ha, hA.symm⟩ ⟨fun q _ => by rw [← hσ0], by simp [hr]⟩ hcl fun j ⟨hj, hin⟩ => ?_
  have hlr : ∀ B : AB, upd σ r B r = B := fun B => by simp [upd]
  have cl1 : ∀ x : Int, ∀ q, AB.cl n0 (if q = r then AB.cells [AV.str src, AV.v (Value.int IntKind.i64 x), AV.int ↑line, AV.gs r' (List.map tkAv L)] 73 else σ q) := fun x q => by
    split
    · simp [hr']
    · exact hcl q
  by_cases hlt : j < src.size
  · have hlt3 : j < src.data.size := hlt
    have hdj : src.data.toList.drop j = src.data[j] :: src.data.toList.drop (j + 1) := by rw [List.drop_eq_getElem_cons (by omega), Array.getElem_toList]
    by_cases hw : whiteC src.data[j] = true
    · have hin1 : skipP false (src.data.toList.drop (j + 1)) = A := by rw [← hin, hdj, skipP, if_pos hw]
      have hw3 : src.data[j].toNat = 32 ∨ src.data[j].toNat = 9 ∨ src.data[j].toNat = 13 := by
        unfold whiteC at hw
        simp only [Bool.or_eq_true, beq_iff_eq] at hw
        rcases hw with (hw | hw) | hw
        · exact .inl (by rw [hw]; rfl)
        · exact .inr (.inl (by rw [hw]; rfl))
        · exact .inr (.inr (by rw [hw]; rfl))
      rcases hw3 with g | g | g
      all_goals (
        repeat' (first | ((with_reducible refine aguard (fun hg => ?_) (fun hg => ?_)) <;> (try simp only [hg]) <;> (try simp only [beq_iff_eq, beq_eq_false_iff_ne, ne_eq, decide_eq_true_eq, decide_eq_false_iff_not, bne_iff_ne, bne_eq_false_iff_eq] at hg) <;> (try (first | simp only [eq_false hg, if_true, if_false] | simp only [eq_true hg, if_true, if_false])) <;> (try simp (disch := first | omega | simp) [wrap_i64, -aseqC, -anyC, hr, hr', h1, h2, hne, hne', hL, hlt, hlt3, hlr, g])) | (with_reducible refine aseq_step ?_; try simp (disch := first | omega | simp) [wrap_i64, -aseqC, -anyC, hr, hr', h1, h2, hne, hne', hL, hlt, hlt3, hlr, g]) | (with_reducible refine any_step' ?_; try simp (disch := first | omega | simp) [wrap_i64, -aseqC, -anyC, hr, hr', h1, h2, hne, hne', hL, hlt, hlt3, hlr, g]) | (with_reducible refine aseq_end ?_; try simp (disch := first | omega | simp) [wrap_i64, -aseqC, -anyC, hr, hr', h1, h2, hne, hne', hL, hlt, hlt3, hlr, g]) | (with_reducible refine any_end' ?_; try simp (disch := first | omega | simp) [wrap_i64, -aseqC, -anyC, hr, hr', h1, h2, hne, hne', hL, hlt, hlt3, hlr, g]) | ((first | with_reducible refine sideG ?_ ?_ | with_reducible refine sideG2 ?_ ?_ | with_reducible refine sideS ?_ ?_ | with_reducible refine sideS2 ?_ ?_ | with_reducible refine sideS3 ?_ ?_ | with_reducible refine sideA ?_ ?_ | with_reducible refine sideA2 ?_ ?_ | with_reducible refine sideA3 ?_ ?_); (first | omega | assumption | (simp; done))) | (refine awp_seq_k fun K hK => ?_) | (refine awp_regionC ?_) | (refine awp_anyA true (by kernel_rfl) (by kernel_rfl) ?_) | (refine awp_anyA false (by kernel_rfl) (by kernel_rfl) ?_) | (refine hK _ ?_; clear hK; clear K) | (clear hK; clear K; refine hK _ ?_; clear hK; clear K) | (clear hK; clear K; clear hK; clear K; refine hK _ ?_; clear hK; clear K) | refine awp_block ?_ | (refine awp_condC ?_; simp (disch := first | omega | simp) [wrap_i64, -aseqC, -anyC, hr, hr', h1, h2, hne, hne', hL, hlt, hlt3, hlr, g]) | (refine awp_exit ?_; try simp (disch := first | omega | simp) [wrap_i64, -aseqC, -anyC, hr, hr', h1, h2, hne, hne', hL, hlt, hlt3, hlr, g]) | (refine awp_skip ?_; try simp (disch := first | omega | simp) [wrap_i64, -aseqC, -anyC, hr, hr', h1, h2, hne, hne', hL, hlt, hlt3, hlr, g]) | (refine awp_ret ?_; try simp (disch := first | omega | simp) [wrap_i64, -aseqC, -anyC, hr, hr', h1, h2, hne, hne', hL, hlt, hlt3, hlr, g]))
        refine ⟨cl1 _, j + 1, ⟨by omega, hin1⟩, by omega, ⟨fun q _ => by rw [show ((j : Int) + 1) = ((j + 1 : Nat) : Int) by omega], by simp [hr]⟩⟩)
    · have hw1 : ¬ (src.data[j].toNat : Int) = 32 := fun e => hw (by rw [show src.data[j] = 32 from UInt8.toNat_inj.1 (by have : (32 : UInt8).toNat = 32 := rfl; omega)]; rfl)
      have hw2 : ¬ (src.data[j].toNat : Int) = 9 := fun e => hw (by rw [show src.data[j] = 9 from UInt8.toNat_inj.1 (by have : (9 : UInt8).toNat = 9 := rfl; omega)]; rfl)
      have hw3 : ¬ (src.data[j].toNat : Int) = 13 := fun e => hw (by rw [show src.data[j] = 13 from UInt8.toNat_inj.1 (by have : (13 : UInt8).toNat = 13 := rfl; omega)]; rfl)
      by_cases h35 : src.data[j] = 35
      · have g35 : src.data[j].toNat = 35 := by rw [h35]; rfl
        have hix := indexByte_g (src.extract j src.size) 10
        have ex : (src.extract j src.size).data.toList = src.data.toList.drop j := by
          rw [extract_by, bytesA_data, List.take_of_length_le (by rw [List.length_drop]; omega)]
        have e10 : ((10 : Int)).toNat.toUInt8 = 10 := rfl
        rw [ex, e10] at hix
        have hsk : skipP true (src.data.toList.drop (j + 1)) = A := by rw [← hin, hdj, h35, skipP]; rfl
        have hA2 : skipP false A = A := by rw [← hsk]; exact skip_ft _
        rw [skip_idx] at hsk
        have hx0 := Lib.indexByte_ge (src.data.toList.drop (j + 1)) 10
        have hx1 := idx_lt (src.data.toList.drop (j + 1)) 10
        rw [List.length_drop] at hx1
        have hxe : Lib.indexByte (src.data.toList.drop j) 10 = if Lib.indexByte (src.data.toList.drop (j + 1)) 10 = -1 then -1 else Lib.indexByte (src.data.toList.drop (j + 1)) 10 + 1 := by
          rw [hdj, h35, Lib.indexByte, if_neg (by decide)]
          by_cases hn : Lib.indexByte (src.data.toList.drop (j + 1)) 10 = -1 <;> simp [hn]
        rw [hxe] at hix
        clear hxe
        generalize Lib.indexByte (src.data.toList.drop (j + 1)) 10 = n at *
        have q0 : j ≤ src.size := hj
        by_cases hn : n = -1
        · rw [if_pos hn] at hsk hix
          have q1 : (j : Int) + ((src.size : Int) - j) = src.size := by omega
          repeat' (first | ((with_reducible refine aguard (fun hg => ?_) (fun hg => ?_)) <;> (try simp only [hg]) <;> (try simp only [beq_iff_eq, beq_eq_false_iff_ne, ne_eq, decide_eq_true_eq, decide_eq_false_iff_not, bne_iff_ne, bne_eq_false_iff_eq] at hg) <;> (try (first | simp only [eq_false hg, if_true, if_false] | simp only [eq_true hg, if_true, if_false])) <;> (try simp (disch := first | omega | simp) [wrap_i64, -aseqC, -anyC, hr, hr', h1, h2, hne, hne', hL, hlt, hlt3, hlr, g35, q0, q1])) | (with_reducible refine aseq_step ?_; try simp (disch := first | omega | simp) [wrap_i64, -aseqC, -anyC, hr, hr', h1, h2, hne, hne', hL, hlt, hlt3, hlr, g35, q0, q1]) | (with_reducible refine any_step' ?_; try simp (disch := first | omega | simp) [wrap_i64, -aseqC, -anyC, hr, hr', h1, h2, hne, hne', hL, hlt, hlt3, hlr, g35, q0, q1]) | (with_reducible refine aseq_end ?_; try simp (disch := first | omega | simp) [wrap_i64, -aseqC, -anyC, hr, hr', h1, h2, hne, hne', hL, hlt, hlt3, hlr, g35, q0, q1]) | (with_reducible refine any_end' ?_; try simp (disch := first | omega | simp) [wrap_i64, -aseqC, -anyC, hr, hr', h1, h2, hne, hne', hL, hlt, hlt3, hlr, g35, q0, q1]) | ((first | with_reducible refine sideG ?_ ?_ | with_reducible refine sideG2 ?_ ?_ | with_reducible refine sideS ?_ ?_ | with_reducible refine sideS2 ?_ ?_ | with_reducible refine sideS3 ?_ ?_ | with_reducible refine sideA ?_ ?_ | with_reducible refine sideA2 ?_ ?_ | with_reducible refine sideA3 ?_ ?_); (first | omega | assumption | (simp; done))) | (refine acall (hix) ?_; try simp (disch := first | omega | simp) [wrap_i64, -aseqC, -anyC, hr, hr', h1, h2, hne, hne', hL, hlt, hlt3, hlr, g35, q0, q1]) | (refine agives (hix) ?_; try simp (disch := first | omega | simp) [wrap_i64, -aseqC, -anyC, hr, hr', h1, h2, hne, hne', hL, hlt, hlt3, hlr, g35, q0, q1]) | (refine acallAt (hix) ?_; try simp (disch := first | omega | simp) [wrap_i64, -aseqC, -anyC, hr, hr', h1, h2, hne, hne', hL, hlt, hlt3, hlr, g35, q0, q1]) | (refine awp_seq_k fun K hK => ?_) | (refine awp_regionC ?_) | (refine awp_anyA true (by kernel_rfl) (by kernel_rfl) ?_) | (refine awp_anyA false (by kernel_rfl) (by kernel_rfl) ?_) | (refine hK _ ?_; clear hK; clear K) | (clear hK; clear K; refine hK _ ?_; clear hK; clear K) | (clear hK; clear K; clear hK; clear K; refine hK _ ?_; clear hK; clear K) | refine awp_block ?_ | (refine awp_condC ?_; simp (disch := first | omega | simp) [wrap_i64, -aseqC, -anyC, hr, hr', h1, h2, hne, hne', hL, hlt, hlt3, hlr, g35, q0, q1]) | (refine awp_exit ?_; try simp (disch := first | omega | simp) [wrap_i64, -aseqC, -anyC, hr, hr', h1, h2, hne, hne', hL, hlt, hlt3, hlr, g35, q0, q1]) | (refine awp_skip ?_; try simp (disch := first | omega | simp) [wrap_i64, -aseqC, -anyC, hr, hr', h1, h2, hne, hne', hL, hlt, hlt3, hlr, g35, q0, q1]) | (refine awp_ret ?_; try simp (disch := first | omega | simp) [wrap_i64, -aseqC, -anyC, hr, hr', h1, h2, hne, hne', hL, hlt, hlt3, hlr, g35, q0, q1]))
          exact ⟨cl1 _, src.size, ⟨Nat.le_refl _, by rw [List.drop_of_length_le (by omega), ← hsk]; rfl⟩, by omega, ⟨fun q _ => rfl, by simp [hr]⟩⟩
        · rw [if_neg hn] at hsk hix
          obtain ⟨k, rfl⟩ : ∃ k : Nat, n = k := ⟨n.toNat, by omega⟩
          repeat' (first | ((with_reducible refine aguard (fun hg => ?_) (fun hg => ?_)) <;> (try simp only [hg]) <;> (try simp only [beq_iff_eq, beq_eq_false_iff_ne, ne_eq, decide_eq_true_eq, decide_eq_false_iff_not, bne_iff_ne, bne_eq_false_iff_eq] at hg) <;> (try (first | simp only [eq_false hg, if_true, if_false] | simp only [eq_true hg, if_true, if_false])) <;> (try simp (disch := first | omega | simp) [wrap_i64, -aseqC, -anyC, hr, hr', h1, h2, hne, hne', hL, hlt, hlt3, hlr, g35, q0])) | (with_reducible refine aseq_step ?_; try simp (disch := first | omega | simp) [wrap_i64, -aseqC, -anyC, hr, hr', h1, h2, hne, hne', hL, hlt, hlt3, hlr, g35, q0]) | (with_reducible refine any_step' ?_; try simp (disch := first | omega | simp) [wrap_i64, -aseqC, -anyC, hr, hr', h1, h2, hne, hne', hL, hlt, hlt3, hlr, g35, q0]) | (with_reducible refine aseq_end ?_; try simp (disch := first | omega | simp) [wrap_i64, -aseqC, -anyC, hr, hr', h1, h2, hne, hne', hL, hlt, hlt3, hlr, g35, q0]) | (with_reducible refine any_end' ?_; try simp (disch := first | omega | simp) [wrap_i64, -aseqC, -anyC, hr, hr', h1, h2, hne, hne', hL, hlt, hlt3, hlr, g35, q0]) | ((first | with_reducible refine sideG ?_ ?_ | with_reducible refine sideG2 ?_ ?_ | with_reducible refine sideS ?_ ?_ | with_reducible refine sideS2 ?_ ?_ | with_reducible refine sideS3 ?_ ?_ | with_reducible refine sideA ?_ ?_ | with_reducible refine sideA2 ?_ ?_ | with_reducible refine sideA3 ?_ ?_); (first | omega | assumption | (simp; done))) | (refine acall (hix) ?_; try simp (disch := first | omega | simp) [wrap_i64, -aseqC, -anyC, hr, hr', h1, h2, hne, hne', hL, hlt, hlt3, hlr, g35, q0]) | (refine agives (hix) ?_; try simp (disch := first | omega | simp) [wrap_i64, -aseqC, -anyC, hr, hr', h1, h2, hne, hne', hL, hlt, hlt3, hlr, g35, q0]) | (refine acallAt (hix) ?_; try simp (disch := first | omega | simp) [wrap_i64, -aseqC, -anyC, hr, hr', h1, h2, hne, hne', hL, hlt, hlt3, hlr, g35, q0]) | (refine awp_seq_k fun K hK => ?_) | (refine awp_regionC ?_) | (refine awp_anyA true (by kernel_rfl) (by kernel_rfl) ?_) | (refine awp_anyA false (by kernel_rfl) (by kernel_rfl) ?_) | (refine hK _ ?_; clear hK; clear K) | (clear hK; clear K; refine hK _ ?_; clear hK; clear K) | (clear hK; clear K; clear hK; clear K; refine hK _ ?_; clear hK; clear K) | refine awp_block ?_ | (refine awp_condC ?_; simp (disch := first | omega | simp) [wrap_i64, -aseqC, -anyC, hr, hr', h1, h2, hne, hne', hL, hlt, hlt3, hlr, g35, q0]) | (refine awp_exit ?_; try simp (disch := first | omega | simp) [wrap_i64, -aseqC, -anyC, hr, hr', h1, h2, hne, hne', hL, hlt, hlt3, hlr, g35, q0]) | (refine awp_skip ?_; try simp (disch := first | omega | simp) [wrap_i64, -aseqC, -anyC, hr, hr', h1, h2, hne, hne', hL, hlt, hlt3, hlr, g35, q0]) | (refine awp_ret ?_; try simp (disch := first | omega | simp) [wrap_i64, -aseqC, -anyC, hr, hr', h1, h2, hne, hne', hL, hlt, hlt3, hlr, g35, q0]))
          all_goals first | (exfalso; omega) | exact ⟨cl1 _, j + (k + 1), ⟨by omega, by rw [show j + (k + 1) = j + 1 + k by omega, ← List.drop_drop]; rw [show (k : Int).toNat = k from rfl] at hsk; rw [hsk]; exact hA2⟩, by omega, ⟨fun q _ => by rw [show ((j : Int) + ((k : Int) + 1)) = ((j + (k + 1) : Nat) : Int) by omega], by simp [hr]⟩⟩
      · have g35 : ¬ (src.data[j].toNat : Int) = 35 := nn _ _ h35
        have hAe : A = src.data.toList.drop j := by rw [← hin, hdj, skipP, if_neg hw, if_neg h35]
        have hAl : A.length = src.size - j := by rw [hAe, List.length_drop]; omega
        repeat' (first | ((with_reducible refine aguard (fun hg => ?_) (fun hg => ?_)) <;> (try simp only [hg]) <;> (try simp only [beq_iff_eq, beq_eq_false_iff_ne, ne_eq, decide_eq_true_eq, decide_eq_false_iff_not, bne_iff_ne, bne_eq_false_iff_eq] at hg) <;> (try (first | simp only [eq_false hg, if_true, if_false] | simp only [eq_true hg, if_true, if_false])) <;> (try simp (disch := first | omega | simp) [wrap_i64, -aseqC, -anyC, hr, hr', h1, h2, hne, hne', hL, hlt, hlt3, hlr, g35, hw1, hw2, hw3])) | (with_reducible refine aseq_step ?_; try simp (disch := first | omega | simp) [wrap_i64, -aseqC, -anyC, hr, hr', h1, h2, hne, hne', hL, hlt, hlt3, hlr, g35, hw1, hw2, hw3]) | (with_reducible refine any_step' ?_; try simp (disch := first | omega | simp) [wrap_i64, -aseqC, -anyC, hr, hr', h1, h2, hne, hne', hL, hlt, hlt3, hlr, g35, hw1, hw2, hw3]) | (with_reducible refine aseq_end ?_; try simp (disch := first | omega | simp) [wrap_i64, -aseqC, -anyC, hr, hr', h1, h2, hne, hne', hL, hlt, hlt3, hlr, g35, hw1, hw2, hw3]) | (with_reducible refine any_end' ?_; try simp (disch := first | omega | simp) [wrap_i64, -aseqC, -anyC, hr, hr', h1, h2, hne, hne', hL, hlt, hlt3, hlr, g35, hw1, hw2, hw3]) | ((first | with_reducible refine sideG ?_ ?_ | with_reducible refine sideG2 ?_ ?_ | with_reducible refine sideS ?_ ?_ | with_reducible refine sideS2 ?_ ?_ | with_reducible refine sideS3 ?_ ?_ | with_reducible refine sideA ?_ ?_ | with_reducible refine sideA2 ?_ ?_ | with_reducible refine sideA3 ?_ ?_); (first | omega | assumption | (simp; done))) | (refine awp_seq_k fun K hK => ?_) | (refine awp_regionC ?_) | (refine awp_anyA true (by kernel_rfl) (by kernel_rfl) ?_) | (refine awp_anyA false (by kernel_rfl) (by kernel_rfl) ?_) | (refine hK _ ?_; clear hK; clear K) | (clear hK; clear K; refine hK _ ?_; clear hK; clear K) | (clear hK; clear K; clear hK; clear K; refine hK _ ?_; clear hK; clear K) | refine awp_block ?_ | (refine awp_condC ?_; simp (disch := first | omega | simp) [wrap_i64, -aseqC, -anyC, hr, hr', h1, h2, hne, hne', hL, hlt, hlt3, hlr, g35, hw1, hw2, hw3]) | (refine awp_exit ?_; try simp (disch := first | omega | simp) [wrap_i64, -aseqC, -anyC, hr, hr', h1, h2, hne, hne', hL, hlt, hlt3, hlr, g35, hw1, hw2, hw3]) | (refine awp_skip ?_; try simp (disch := first | omega | simp) [wrap_i64, -aseqC, -anyC, hr, hr', h1, h2, hne, hne', hL, hlt, hlt3, hlr, g35, hw1, hw2, hw3]) | (refine awp_ret ?_; try simp (disch := first | omega | simp) [wrap_i64, -aseqC, -anyC, hr, hr', h1, h2, hne, hne', hL, hlt, hlt3, hlr, g35, hw1, hw2, hw3]))
        all_goals first | exact absurd (by assumption) hw1 | exact absurd (by assumption) hw2 | exact absurd (by assumption) hw3 | exact absurd (by assumption) g35 | exact scnT_one h2 hne' rfl (by omega) rfl
  · obtain rfl : j = src.size := by omega
    repeat' (first | ((with_reducible refine aguard (fun hg => ?_) (fun hg => ?_)) <;> (try simp only [hg]) <;> (try simp only [beq_iff_eq, beq_eq_false_iff_ne, ne_eq, decide_eq_true_eq, decide_eq_false_iff_not, bne_iff_ne, bne_eq_false_iff_eq] at hg) <;> (try (first | simp only [eq_false hg, if_true, if_false] | simp only [eq_true hg, if_true, if_false])) <;> (try simp (disch := first | omega | simp) [wrap_i64, -aseqC, -anyC, hr, hr', h1, h2, hne, hne', hL, hlt, hlr])) | (with_reducible refine aseq_step ?_; try simp (disch := first | omega | simp) [wrap_i64, -aseqC, -anyC, hr, hr', h1, h2, hne, hne', hL, hlt, hlr]) | (with_reducible refine any_step' ?_; try simp (disch := first | omega | simp) [wrap_i64, -aseqC, -anyC, hr, hr', h1, h2, hne, hne', hL, hlt, hlr]) | (with_reducible refine aseq_end ?_; try simp (disch := first | omega | simp) [wrap_i64, -aseqC, -anyC, hr, hr', h1, h2, hne, hne', hL, hlt, hlr]) | (with_reducible refine any_end' ?_; try simp (disch := first | omega | simp) [wrap_i64, -aseqC, -anyC, hr, hr', h1, h2, hne, hne', hL, hlt, hlr]) | ((first | with_reducible refine sideG ?_ ?_ | with_reducible refine sideG2 ?_ ?_ | with_reducible refine sideS ?_ ?_ | with_reducible refine sideS2 ?_ ?_ | with_reducible refine sideS3 ?_ ?_ | with_reducible refine sideA ?_ ?_ | with_reducible refine sideA2 ?_ ?_ | with_reducible refine sideA3 ?_ ?_); (first | omega | assumption | (simp; done))) | (refine awp_seq_k fun K hK => ?_) | (refine awp_regionC ?_) | (refine awp_anyA true (by kernel_rfl) (by kernel_rfl) ?_) | (refine awp_anyA false (by kernel_rfl) (by kernel_rfl) ?_) | (refine hK _ ?_; clear hK; clear K) | (clear hK; clear K; refine hK _ ?_; clear hK; clear K) | (clear hK; clear K; clear hK; clear K; refine hK _ ?_; clear hK; clear K) | refine awp_block ?_ | (refine awp_condC ?_; simp (disch := first | omega | simp) [wrap_i64, -aseqC, -anyC, hr, hr', h1, h2, hne, hne', hL, hlt, hlr]) | (refine awp_exit ?_; try simp (disch := first | omega | simp) [wrap_i64, -aseqC, -anyC, hr, hr', h1, h2, hne, hne', hL, hlt, hlr]) | (refine awp_skip ?_; try simp (disch := first | omega | simp) [wrap_i64, -aseqC, -anyC, hr, hr', h1, h2, hne, hne', hL, hlt, hlr]) | (refine awp_ret ?_; try simp (disch := first | omega | simp) [wrap_i64, -aseqC, -anyC, hr, hr', h1, h2, hne, hne', hL, hlt, hlr]))
    exact scnT_one h2 hne' rfl (by rw [← hin, List.drop_of_length_le (by omega)]; simp [skipP]) rfl
theorem givesAt_of_awpF {P : Program} {f : FuncId} {fn : Func} {c : Code} {rs : List ResultVar} {args : List AV} {x : AV} {N : Nat} {σ : Nat → AB} (hf : P.funcs[f]? = some fn) (hN : fn.ntmps = N) (hb : fn.body = some c) (hr : fn.results = rs.toArray) (hlen : rs.length ≤ 4) (ha : Nat.ble args.length N = true) (hx : ∀ n, Fin σ n → x.cl n)
    (h : ∀ n0, Fin σ n0 → (∀ r, (σ r).cl n0) → AV.fitss args → awp P c (fun e s' => (e = .normal ∨ e = .ret) ∧ s'.n0 = n0 ∧ s'.σ = σ ∧ ares P s' rs x) { n := N, t := atEntry args 0, σ := σ, n0 := n0, L := [] }) : GivesAt P f args σ x := by
  subst hN
  exact ac_of_awp hf hb hr hlen (Nat.le_of_ble_eq_true ha) fun n0 hfin hcl hft => awp_mono (h n0 hfin hcl hft) fun e s' ⟨h1, h2, h3, h4⟩ => ⟨h1, h2, x, h4, hx n0 hfin, fun r _ => by rw [h3]; exact hcl r, rfl, by
    funext r
    unfold Proofs.YtkhmlicikbnmdaaDoor.cut
    rw [h3]
    split
    · rfl
    · exact (hfin r (by omega)).symm⟩
theorem next_g (h : Scn σ r r' src a line L) (ha : a ≤ src.size) (f : Nat) (hf : f = match src.data.toList.drop a with
      | [] => 75
      | c :: _ => if partC c = true then 77 else if c = 34 then 78 else if c = 10 then 79 else 80) :
    GivesAt Tryd.prog 59 [.ptr r 0] σ (.bm f [.ptr r 0]) := by
  have hsz : src.data.toList.length = src.size := by rw [← Lib.size_eq]
  have nn : ∀ a k : UInt8, a ≠ k → ¬ (a.toNat : Int) = k.toNat := fun a k h h2 => h (UInt8.toNat_inj.1 (by omega))
  refine givesAt_of_awpF Tryd.func59 Tryd.ntmps59 rfl rfl (by decide) rfl (fun n hf => by simp [(h.lt hf).1]) fun n0 hfin hcl hft => ?_
  obtain ⟨hr, hr'⟩ := h.lt hfin
  have h1 := h.cells
  unfold scnC at h1
  have hL : ∀ (τ : Nat → AB) (L : List AB), loc τ n0 L r = τ r := fun τ L => loc_lt _ _ _ _ hr
  by_cases hlt : a < src.size
  · have hlt3 : a < src.data.size := hlt
    have hda : src.data.toList.drop a = src.data[a] :: src.data.toList.drop (a + 1) := by rw [List.drop_eq_getElem_cons (by omega), Array.getElem_toList]
    rw [hda] at hf
    dsimp only at hf
    have hpg := part_g src.data[a]
    have hne1 : ¬ (a : Int) = src.size := by omega
    have hne2 : ¬ a = src.size := by omega
    by_cases hp : partC src.data[a] = true
    · rw [if_pos hp] at hf
      rw [hp] at hpg
      subst hf
      repeat' (first | ((with_reducible refine aguard (fun hg => ?_) (fun hg => ?_)) <;> (try simp only [hg]) <;> (try simp only [beq_iff_eq, beq_eq_false_iff_ne, ne_eq, decide_eq_true_eq, decide_eq_false_iff_not, bne_iff_ne, bne_eq_false_iff_eq] at hg) <;> (try (first | simp only [eq_false hg, if_true, if_false] | simp only [eq_true hg, if_true, if_false])) <;> (try simp (disch := first | omega | simp) [wrap_i64, -aseqC, -anyC, hr, h1, hL, hlt, hlt3, hne1, hne2])) | (with_reducible refine aseq_step ?_; try simp (disch := first | omega | simp) [wrap_i64, -aseqC, -anyC, hr, h1, hL, hlt, hlt3, hne1, hne2]) | (with_reducible refine any_step' ?_; try simp (disch := first | omega | simp) [wrap_i64, -aseqC, -anyC, hr, h1, hL, hlt, hlt3, hne1, hne2]) | (with_reducible refine aseq_end ?_; try simp (disch := first | omega | simp) [wrap_i64, -aseqC, -anyC, hr, h1, hL, hlt, hlt3, hne1, hne2]) | (with_reducible refine any_end' ?_; try simp (disch := first | omega | simp) [wrap_i64, -aseqC, -anyC, hr, h1, hL, hlt, hlt3, hne1, hne2]) | ((first | with_reducible refine sideG ?_ ?_ | with_reducible refine sideG2 ?_ ?_ | with_reducible refine sideS ?_ ?_ | with_reducible refine sideS2 ?_ ?_ | with_reducible refine sideS3 ?_ ?_ | with_reducible refine sideA ?_ ?_ | with_reducible refine sideA2 ?_ ?_ | with_reducible refine sideA3 ?_ ?_); (first | omega | assumption | (simp; done))) | (refine acall (hpg) ?_; try simp (disch := first | omega | simp) [wrap_i64, -aseqC, -anyC, hr, h1, hL, hlt, hlt3, hne1, hne2]) | (refine agives (hpg) ?_; try simp (disch := first | omega | simp) [wrap_i64, -aseqC, -anyC, hr, h1, hL, hlt, hlt3, hne1, hne2]) | (refine acallAt (hpg) ?_; try simp (disch := first | omega | simp) [wrap_i64, -aseqC, -anyC, hr, h1, hL, hlt, hlt3, hne1, hne2]) | (refine awp_seq_k fun K hK => ?_) | (refine awp_regionC ?_) | (refine awp_anyA true (by kernel_rfl) (by kernel_rfl) ?_) | (refine awp_anyA false (by kernel_rfl) (by kernel_rfl) ?_) | (refine hK _ ?_; clear hK; clear K) | (clear hK; clear K; refine hK _ ?_; clear hK; clear K) | (clear hK; clear K; clear hK; clear K; refine hK _ ?_; clear hK; clear K) | refine awp_block ?_ | (refine awp_condC ?_; simp (disch := first | omega | simp) [wrap_i64, -aseqC, -anyC, hr, h1, hL, hlt, hlt3, hne1, hne2]) | (refine awp_exit ?_; try simp (disch := first | omega | simp) [wrap_i64, -aseqC, -anyC, hr, h1, hL, hlt, hlt3, hne1, hne2]) | (refine awp_skip ?_; try simp (disch := first | omega | simp) [wrap_i64, -aseqC, -anyC, hr, h1, hL, hlt, hlt3, hne1, hne2]) | (refine awp_ret ?_; try simp (disch := first | omega | simp) [wrap_i64, -aseqC, -anyC, hr, h1, hL, hlt, hlt3, hne1, hne2]))
      all_goals exact absurd (by assumption) hne1
    · rw [if_neg hp] at hf
      rw [Bool.eq_false_iff.2 hp] at hpg
      by_cases h34 : src.data[a] = 34
      · rw [if_pos h34] at hf
        subst hf
        have g34 : src.data[a].toNat = 34 := by rw [h34]; rfl
        rw [g34] at hpg
        repeat' (first | ((with_reducible refine aguard (fun hg => ?_) (fun hg => ?_)) <;> (try simp only [hg]) <;> (try simp only [beq_iff_eq, beq_eq_false_iff_ne, ne_eq, decide_eq_true_eq, decide_eq_false_iff_not, bne_iff_ne, bne_eq_false_iff_eq] at hg) <;> (try (first | simp only [eq_false hg, if_true, if_false] | simp only [eq_true hg, if_true, if_false])) <;> (try simp (disch := first | omega | simp) [wrap_i64, -aseqC, -anyC, hr, h1, hL, hlt, hlt3, hne1, hne2, g34])) | (with_reducible refine aseq_step ?_; try simp (disch := first | omega | simp) [wrap_i64, -aseqC, -anyC, hr, h1, hL, hlt, hlt3, hne1, hne2, g34]) | (with_reducible refine any_step' ?_; try simp (disch := first | omega | simp) [wrap_i64, -aseqC, -anyC, hr, h1, hL, hlt, hlt3, hne1, hne2, g34]) | (with_reducible refine aseq_end ?_; try simp (disch := first | omega | simp) [wrap_i64, -aseqC, -anyC, hr, h1, hL, hlt, hlt3, hne1, hne2, g34]) | (with_reducible refine any_end' ?_; try simp (disch := first | omega | simp) [wrap_i64, -aseqC, -anyC, hr, h1, hL, hlt, hlt3, hne1, hne2, g34]) | ((first | with_reducible refine sideG ?_ ?_ | with_reducible refine sideG2 ?_ ?_ | with_reducible refine sideS ?_ ?_ | with_reducible refine sideS2 ?_ ?_ | with_reducible refine sideS3 ?_ ?_ | with_reducible refine sideA ?_ ?_ | with_reducible refine sideA2 ?_ ?_ | with_reducible refine sideA3 ?_ ?_); (first | omega | assumption | (simp; done))) | (refine acall (hpg) ?_; try simp (disch := first | omega | simp) [wrap_i64, -aseqC, -anyC, hr, h1, hL, hlt, hlt3, hne1, hne2, g34]) | (refine agives (hpg) ?_; try simp (disch := first | omega | simp) [wrap_i64, -aseqC, -anyC, hr, h1, hL, hlt, hlt3, hne1, hne2, g34]) | (refine acallAt (hpg) ?_; try simp (disch := first | omega | simp) [wrap_i64, -aseqC, -anyC, hr, h1, hL, hlt, hlt3, hne1, hne2, g34]) | (refine awp_seq_k fun K hK => ?_) | (refine awp_regionC ?_) | (refine awp_anyA true (by kernel_rfl) (by kernel_rfl) ?_) | (refine awp_anyA false (by kernel_rfl) (by kernel_rfl) ?_) | (refine hK _ ?_; clear hK; clear K) | (clear hK; clear K; refine hK _ ?_; clear hK; clear K) | (clear hK; clear K; clear hK; clear K; refine hK _ ?_; clear hK; clear K) | refine awp_block ?_ | (refine awp_condC ?_; simp (disch := first | omega | simp) [wrap_i64, -aseqC, -anyC, hr, h1, hL, hlt, hlt3, hne1, hne2, g34]) | (refine awp_exit ?_; try simp (disch := first | omega | simp) [wrap_i64, -aseqC, -anyC, hr, h1, hL, hlt, hlt3, hne1, hne2, g34]) | (refine awp_skip ?_; try simp (disch := first | omega | simp) [wrap_i64, -aseqC, -anyC, hr, h1, hL, hlt, hlt3, hne1, hne2, g34]) | (refine awp_ret ?_; try simp (disch := first | omega | simp) [wrap_i64, -aseqC, -anyC, hr, h1, hL, hlt, hlt3, hne1, hne2, g34]))
        all_goals exact absurd (by assumption) hne1
      · rw [if_neg h34] at hf
        have g34 : ¬ (src.data[a].toNat : Int) = 34 := nn _ _ h34
        by_cases h10 : src.data[a] = 10
        · rw [if_pos h10] at hf
          subst hf
          have g10 : src.data[a].toNat = 10 := by rw [h10]; rfl
          rw [g10] at hpg
          repeat' (first | ((with_reducible refine aguard (fun hg => ?_) (fun hg => ?_)) <;> (try simp only [hg]) <;> (try simp only [beq_iff_eq, beq_eq_false_iff_ne, ne_eq, decide_eq_true_eq, decide_eq_false_iff_not, bne_iff_ne, bne_eq_false_iff_eq] at hg) <;> (try (first | simp only [eq_false hg, if_true, if_false] | simp only [eq_true hg, if_true, if_false])) <;> (try simp (disch := first | omega | simp) [wrap_i64, -aseqC, -anyC, hr, h1, hL, hlt, hlt3, hne1, hne2, g10])) | (with_reducible refine aseq_step ?_; try simp (disch := first | omega | simp) [wrap_i64, -aseqC, -anyC, hr, h1, hL, hlt, hlt3, hne1, hne2, g10]) | (with_reducible refine any_step' ?_; try simp (disch := first | omega | simp) [wrap_i64, -aseqC, -anyC, hr, h1, hL, hlt, hlt3, hne1, hne2, g10]) | (with_reducible refine aseq_end ?_; try simp (disch := first | omega | simp) [wrap_i64, -aseqC, -anyC, hr, h1, hL, hlt, hlt3, hne1, hne2, g10]) | (with_reducible refine any_end' ?_; try simp (disch := first | omega | simp) [wrap_i64, -aseqC, -anyC, hr, h1, hL, hlt, hlt3, hne1, hne2, g10]) | ((first | with_reducible refine sideG ?_ ?_ | with_reducible refine sideG2 ?_ ?_ | with_reducible refine sideS ?_ ?_ | with_reducible refine sideS2 ?_ ?_ | with_reducible refine sideS3 ?_ ?_ | with_reducible refine sideA ?_ ?_ | with_reducible refine sideA2 ?_ ?_ | with_reducible refine sideA3 ?_ ?_); (first | omega | assumption | (simp; done))) | (refine acall (hpg) ?_; try simp (disch := first | omega | simp) [wrap_i64, -aseqC, -anyC, hr, h1, hL, hlt, hlt3, hne1, hne2, g10]) | (refine agives (hpg) ?_; try simp (disch := first | omega | simp) [wrap_i64, -aseqC, -anyC, hr, h1, hL, hlt, hlt3, hne1, hne2, g10]) | (refine acallAt (hpg) ?_; try simp (disch := first | omega | simp) [wrap_i64, -aseqC, -anyC, hr, h1, hL, hlt, hlt3, hne1, hne2, g10]) | (refine awp_seq_k fun K hK => ?_) | (refine awp_regionC ?_) | (refine awp_anyA true (by kernel_rfl) (by kernel_rfl) ?_) | (refine awp_anyA false (by kernel_rfl) (by kernel_rfl) ?_) | (refine hK _ ?_; clear hK; clear K) | (clear hK; clear K; refine hK _ ?_; clear hK; clear K) | (clear hK; clear K; clear hK; clear K; refine hK _ ?_; clear hK; clear K) | refine awp_block ?_ | (refine awp_condC ?_; simp (disch := first | omega | simp) [wrap_i64, -aseqC, -anyC, hr, h1, hL, hlt, hlt3, hne1, hne2, g10]) | (refine awp_exit ?_; try simp (disch := first | omega | simp) [wrap_i64, -aseqC, -anyC, hr, h1, hL, hlt, hlt3, hne1, hne2, g10]) | (refine awp_skip ?_; try simp (disch := first | omega | simp) [wrap_i64, -aseqC, -anyC, hr, h1, hL, hlt, hlt3, hne1, hne2, g10]) | (refine awp_ret ?_; try simp (disch := first | omega | simp) [wrap_i64, -aseqC, -anyC, hr, h1, hL, hlt, hlt3, hne1, hne2, g10]))
          all_goals exact absurd (by assumption) hne1
        · rw [if_neg h10] at hf
          have g10 : ¬ (src.data[a].toNat : Int) = 10 := nn _ _ h10
          subst hf
          repeat' (first | ((with_reducible refine aguard (fun hg => ?_) (fun hg => ?_)) <;> (try simp only [hg]) <;> (try simp only [beq_iff_eq, beq_eq_false_iff_ne, ne_eq, decide_eq_true_eq, decide_eq_false_iff_not, bne_iff_ne, bne_eq_false_iff_eq] at hg) <;> (try (first | simp only [eq_false hg, if_true, if_false] | simp only [eq_true hg, if_true, if_false])) <;> (try simp (disch := first | omega | simp) [wrap_i64, -aseqC, -anyC, hr, h1, hL, hlt, hlt3, hne1, hne2, g34, g10])) | (with_reducible refine aseq_step ?_; try simp (disch := first | omega | simp) [wrap_i64, -aseqC, -anyC, hr, h1, hL, hlt, hlt3, hne1, hne2, g34, g10]) | (with_reducible refine any_step' ?_; try simp (disch := first | omega | simp) [wrap_i64, -aseqC, -anyC, hr, h1, hL, hlt, hlt3, hne1, hne2, g34, g10]) | (with_reducible refine aseq_end ?_; try simp (disch := first | omega | simp) [wrap_i64, -aseqC, -anyC, hr, h1, hL, hlt, hlt3, hne1, hne2, g34, g10]) | (with_reducible refine any_end' ?_; try simp (disch := first | omega | simp) [wrap_i64, -aseqC, -anyC, hr, h1, hL, hlt, hlt3, hne1, hne2, g34, g10]) | ((first | with_reducible refine sideG ?_ ?_ | with_reducible refine sideG2 ?_ ?_ | with_reducible refine sideS ?_ ?_ | with_reducible refine sideS2 ?_ ?_ | with_reducible refine sideS3 ?_ ?_ | with_reducible refine sideA ?_ ?_ | with_reducible refine sideA2 ?_ ?_ | with_reducible refine sideA3 ?_ ?_); (first | omega | assumption | (simp; done))) | (refine acall (hpg) ?_; try simp (disch := first | omega | simp) [wrap_i64, -aseqC, -anyC, hr, h1, hL, hlt, hlt3, hne1, hne2, g34, g10]) | (refine agives (hpg) ?_; try simp (disch := first | omega | simp) [wrap_i64, -aseqC, -anyC, hr, h1, hL, hlt, hlt3, hne1, hne2, g34, g10]) | (refine acallAt (hpg) ?_; try simp (disch := first | omega | simp) [wrap_i64, -aseqC, -anyC, hr, h1, hL, hlt, hlt3, hne1, hne2, g34, g10]) | (refine awp_seq_k fun K hK => ?_) | (refine awp_regionC ?_) | (refine awp_anyA true (by kernel_rfl) (by kernel_rfl) ?_) | (refine awp_anyA false (by kernel_rfl) (by kernel_rfl) ?_) | (refine hK _ ?_; clear hK; clear K) | (clear hK; clear K; refine hK _ ?_; clear hK; clear K) | (clear hK; clear K; clear hK; clear K; refine hK _ ?_; clear hK; clear K) | refine awp_block ?_ | (refine awp_condC ?_; simp (disch := first | omega | simp) [wrap_i64, -aseqC, -anyC, hr, h1, hL, hlt, hlt3, hne1, hne2, g34, g10]) | (refine awp_exit ?_; try simp (disch := first | omega | simp) [wrap_i64, -aseqC, -anyC, hr, h1, hL, hlt, hlt3, hne1, hne2, g34, g10]) | (refine awp_skip ?_; try simp (disch := first | omega | simp) [wrap_i64, -aseqC, -anyC, hr, h1, hL, hlt, hlt3, hne1, hne2, g34, g10]) | (refine awp_ret ?_; try simp (disch := first | omega | simp) [wrap_i64, -aseqC, -anyC, hr, h1, hL, hlt, hlt3, hne1, hne2, g34, g10]))
          all_goals first | exact absurd (by assumption) hne1 | exact absurd (by assumption) g34 | exact absurd (by assumption) g10
  · obtain rfl : a = src.size := by omega
    rw [List.drop_of_length_le (by omega)] at hf
    dsimp only at hf
    subst hf
    repeat' (first | ((with_reducible refine aguard (fun hg => ?_) (fun hg => ?_)) <;> (try simp only [hg]) <;> (try simp only [beq_iff_eq, beq_eq_false_iff_ne, ne_eq, decide_eq_true_eq, decide_eq_false_iff_not, bne_iff_ne, bne_eq_false_iff_eq] at hg) <;> (try (first | simp only [eq_false hg, if_true, if_false] | simp only [eq_true hg, if_true, if_false])) <;> (try simp (disch := first | omega | simp) [wrap_i64, -aseqC, -anyC, hr, h1, hL])) | (with_reducible refine aseq_step ?_; try simp (disch := first | omega | simp) [wrap_i64, -aseqC, -anyC, hr, h1, hL]) | (with_reducible refine any_step' ?_; try simp (disch := first | omega | simp) [wrap_i64, -aseqC, -anyC, hr, h1, hL]) | (with_reducible refine aseq_end ?_; try simp (disch := first | omega | simp) [wrap_i64, -aseqC, -anyC, hr, h1, hL]) | (with_reducible refine any_end' ?_; try simp (disch := first | omega | simp) [wrap_i64, -aseqC, -anyC, hr, h1, hL]) | ((first | with_reducible refine sideG ?_ ?_ | with_reducible refine sideG2 ?_ ?_ | with_reducible refine sideS ?_ ?_ | with_reducible refine sideS2 ?_ ?_ | with_reducible refine sideS3 ?_ ?_ | with_reducible refine sideA ?_ ?_ | with_reducible refine sideA2 ?_ ?_ | with_reducible refine sideA3 ?_ ?_); (first | omega | assumption | (simp; done))) | (refine awp_seq_k fun K hK => ?_) | (refine awp_regionC ?_) | (refine awp_anyA true (by kernel_rfl) (by kernel_rfl) ?_) | (refine awp_anyA false (by kernel_rfl) (by kernel_rfl) ?_) | (refine hK _ ?_; clear hK; clear K) | (clear hK; clear K; refine hK _ ?_; clear hK; clear K) | (clear hK; clear K; clear hK; clear K; refine hK _ ?_; clear hK; clear K) | refine awp_block ?_ | (refine awp_condC ?_; simp (disch := first | omega | simp) [wrap_i64, -aseqC, -anyC, hr, h1, hL]) | (refine awp_exit ?_; try simp (disch := first | omega | simp) [wrap_i64, -aseqC, -anyC, hr, h1, hL]) | (refine awp_skip ?_; try simp (disch := first | omega | simp) [wrap_i64, -aseqC, -anyC, hr, h1, hL]) | (refine awp_ret ?_; try simp (disch := first | omega | simp) [wrap_i64, -aseqC, -anyC, hr, h1, hL]))

end
end Go.Proofs.YtkhmlicikbnmdaaDoor
