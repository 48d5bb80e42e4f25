/- The law ShapeFinds: it returns true. -/
import Derived.Test.YtinmkhgadekabaaDoorProg
import Derived.KernelRfl
import Derived.Test.YtinmkhgadekabaaDoorCards
import Derived.Test.YtinmkhgadekabaaDoorTie
import Derived.SevenTiedAt
import Derived.Stop.Joined
import Derived.Test.YtinmkhgadekabaaDoorGa1
import Derived.Test.YtinmkhgadekabaaDoorGa2
import Derived.Test.YtinmkhgadekabaaDoorGa11
import Derived.Test.YtinmkhgadekabaaDoorGa16
namespace Go.Proofs.YtinmkhgadekabaaDoor
open Go.RowKit Go.Lib

theorem findP_hit {L : List Col} {s : List UInt8} {i : Nat} (h : i < L.length) (hs : L[i].name.toList = s) : 0 ≤ findP L s ∧ findP L s ≤ i := by
  have h1 := idxP_any (p := fun c : Col => c.name.toList == s) L
  have h2 : L.any (fun c : Col => c.name.toList == s) = true := List.any_eq_true.2 ⟨L[i], List.getElem_mem h, by simpa using hs⟩
  rw [h2, decide_eq_true_eq] at h1
  have h1 : 0 ≤ findP L s := h1
  refine ⟨h1, ?_⟩
  obtain ⟨k, hk⟩ : ∃ k : Nat, findP L s = k := ⟨(findP L s).toNat, by omega⟩
  obtain ⟨hk1, hk2, hk3⟩ := idxP_lt (p := fun c : Col => c.name.toList == s) hk
  by_cases hlt : i < k
  · have := hk3 i h hlt
    simp [hs] at this
  · omega
theorem findP_at {L : List Col} {s : List UInt8} {i : Nat} (h : findP L s = i) : ∃ hi : i < L.length, L[i].name.toList = s := by
  obtain ⟨hk1, hk2, -⟩ := idxP_lt (p := fun c : Col => c.name.toList == s) h
  exact ⟨hk1, by simpa using hk2⟩
theorem findP_range (L : List Col) (s : List UInt8) : -1 ≤ findP L s ∧ findP L s < L.length ∨ findP L s = -1 := by
  have h1 : -1 ≤ findP L s := idxP_ge (p := fun c : Col => c.name.toList == s) L
  by_cases h : findP L s = -1
  · exact Or.inr h
  · obtain ⟨k, hk⟩ : ∃ k : Nat, findP L s = k := ⟨(findP L s).toNat, by omega⟩
    obtain ⟨hk1, -⟩ := findP_at hk
    exact Or.inl ⟨h1, by omega⟩
theorem findP_bounds (L : List Col) (s : List UInt8) : -1 ≤ findP L s ∧ (findP L s < L.length ∨ L = [] ∧ findP L s = -1) := by
  have h1 : -1 ≤ findP L s := idxP_ge (p := fun c : Col => c.name.toList == s) L
  rcases findP_range L s with h | h
  · exact ⟨h1, Or.inl h.2⟩
  · exact ⟨h1, Or.inl (by omega)⟩
theorem right_finds {L : List Col} (h : rightP L = true) {i : Nat} (hi : i < L.length) : findP L L[i].name.toList = i ∧ nameP L[i].name.toList = true ∧ (typeOfP L[i].name.toList).2 = false ∧ (typeOfP L[i].unit.toList).2 = false := by
  obtain ⟨h1, -, -⟩ := right_ok h
  have h2 := h1 i hi
  obtain ⟨hok, hfind⟩ := okCol h2
  unfold okC at h2
  simp only [Bool.and_eq_true] at h2
  obtain ⟨⟨⟨h3, -⟩, h5⟩, h6⟩ := h2
  obtain ⟨n1, n2⟩ := own_name h3
  refine ⟨?_, n1, n2, ?_⟩
  · obtain ⟨f1, f2⟩ := findP_hit hi (rfl : L[i].name.toList = L[i].name.toList)
    obtain ⟨k, hk⟩ : ∃ k : Nat, findP L L[i].name.toList = k := ⟨(findP L L[i].name.toList).toNat, by omega⟩
    obtain ⟨hk1, hk2⟩ := findP_at hk
    by_cases hlt : k < i
    · exfalso
      have h7 : k < (L.take i).length := by simp; omega
      have h8 := (findP_hit (L := L.take i) h7 (s := L[i].name.toList) (by rw [List.getElem_take]; exact hk2)).1
      omega
    · omega
  · unfold unitP at h5
    simp only [Bool.or_eq_true, decide_eq_true_eq, Bool.and_eq_true] at h5
    rcases h5 with h5 | ⟨-, h5⟩
    · rw [h5]; decide
    · exact (own_name h5).2
theorem tname_name {k : Int} (hk : 0 ≤ k ∧ k < 3) : nameP (typeNameP k) = true := by
  obtain rfl | rfl | rfl : k = 0 ∨ k = 1 ∨ k = 2 := by omega
  all_goals decide

set_option maxHeartbeats 4000000 in
theorem finds_g (L : List Col) (s : ByteArray) (hL : L.length ≤ 9223372036854775807) : Gives Tryd.prog 4 [.sl (L.map Col.av), .str s] (.bool true) := by
  have f1 := few_g L 15 hL
  by_cases c1 : fewP L 15 = true
  rotate_left
  · rw [Bool.not_eq_true] at c1
    rw [c1] at f1
    refine gives_of_awp Tryd.func4 Tryd.ntmps4 rfl rfl (by decide) rfl (by intro n; simp) fun σ n0 hcl hft => ?_
    repeat' (first | ((with_reducible refine aguard (fun hg => ?_) (fun hg => ?_)) <;> (try simp only [hg]) <;> (try simp only [beq_iff_eq, beq_eq_false_iff_ne, ne_eq, decide_eq_true_eq, decide_eq_false_iff_not, bne_iff_ne, bne_eq_false_iff_eq] at hg) <;> (try (first | simp only [eq_false hg, if_true, if_false] | simp only [eq_true hg, if_true, if_false])) <;> (try simp (disch := first | omega | simp) [wrap_i64, -aseqC, -anyC])) | (with_reducible refine aseq_step ?_; try simp (disch := first | omega | simp) [wrap_i64, -aseqC, -anyC]) | (with_reducible refine any_step' ?_; try simp (disch := first | omega | simp) [wrap_i64, -aseqC, -anyC]) | (with_reducible refine aseq_end ?_; try simp (disch := first | omega | simp) [wrap_i64, -aseqC, -anyC]) | (with_reducible refine any_end' ?_; try simp (disch := first | omega | simp) [wrap_i64, -aseqC, -anyC]) | ((first | with_reducible refine sideG ?_ ?_ | with_reducible refine sideG2 ?_ ?_ | with_reducible refine sideS ?_ ?_ | with_reducible refine sideS2 ?_ ?_ | with_reducible refine sideS3 ?_ ?_ | with_reducible refine sideA ?_ ?_ | with_reducible refine sideA2 ?_ ?_ | with_reducible refine sideA3 ?_ ?_); (first | omega | assumption | (simp; done))) | (refine acall (small13_g) ?_; try simp (disch := first | omega | simp) [wrap_i64, -aseqC, -anyC]) | (refine agives (small13_g) ?_; try simp (disch := first | omega | simp) [wrap_i64, -aseqC, -anyC]) | (refine acallAt (small13_g) ?_; try simp (disch := first | omega | simp) [wrap_i64, -aseqC, -anyC]) | (refine acall (f1) ?_; try simp (disch := first | omega | simp) [wrap_i64, -aseqC, -anyC]) | (refine agives (f1) ?_; try simp (disch := first | omega | simp) [wrap_i64, -aseqC, -anyC]) | (refine acallAt (f1) ?_; try simp (disch := first | omega | simp) [wrap_i64, -aseqC, -anyC]) | (refine awp_seq_k fun K hK => ?_) | (refine awp_regionC ?_) | (refine awp_anyA true (by kernel_rfl) (by kernel_rfl) ?_) | (refine awp_anyA false (by kernel_rfl) (by kernel_rfl) ?_) | (refine hK _ ?_; clear hK; clear K) | (clear hK; clear K; refine hK _ ?_; clear hK; clear K) | (clear hK; clear K; clear hK; clear K; refine hK _ ?_; clear hK; clear K) | refine awp_block ?_ | (refine awp_condC ?_; simp (disch := first | omega | simp) [wrap_i64, -aseqC, -anyC]) | (refine awp_exit ?_; try simp (disch := first | omega | simp) [wrap_i64, -aseqC, -anyC]) | (refine awp_skip ?_; try simp (disch := first | omega | simp) [wrap_i64, -aseqC, -anyC]) | (refine awp_ret ?_; try simp (disch := first | omega | simp) [wrap_i64, -aseqC, -anyC]))
  rw [c1] at f1
  by_cases c3 : 100 < s.size
  · have c3' : (100 : Int) < s.size := by omega
    refine gives_of_awp Tryd.func4 Tryd.ntmps4 rfl rfl (by decide) rfl (by intro n; simp) fun σ n0 hcl hft => ?_
    repeat' (first | ((with_reducible refine aguard (fun hg => ?_) (fun hg => ?_)) <;> (try simp only [hg]) <;> (try simp only [beq_iff_eq, beq_eq_false_iff_ne, ne_eq, decide_eq_true_eq, decide_eq_false_iff_not, bne_iff_ne, bne_eq_false_iff_eq] at hg) <;> (try (first | simp only [eq_false hg, if_true, if_false] | simp only [eq_true hg, if_true, if_false])) <;> (try simp (disch := first | omega | simp) [wrap_i64, -aseqC, -anyC, c3'])) | (with_reducible refine aseq_step ?_; try simp (disch := first | omega | simp) [wrap_i64, -aseqC, -anyC, c3']) | (with_reducible refine any_step' ?_; try simp (disch := first | omega | simp) [wrap_i64, -aseqC, -anyC, c3']) | (with_reducible refine aseq_end ?_; try simp (disch := first | omega | simp) [wrap_i64, -aseqC, -anyC, c3']) | (with_reducible refine any_end' ?_; try simp (disch := first | omega | simp) [wrap_i64, -aseqC, -anyC, c3']) | ((first | with_reducible refine sideG ?_ ?_ | with_reducible refine sideG2 ?_ ?_ | with_reducible refine sideS ?_ ?_ | with_reducible refine sideS2 ?_ ?_ | with_reducible refine sideS3 ?_ ?_ | with_reducible refine sideA ?_ ?_ | with_reducible refine sideA2 ?_ ?_ | with_reducible refine sideA3 ?_ ?_); (first | omega | assumption | (simp; done))) | (refine acall (small13_g) ?_; try simp (disch := first | omega | simp) [wrap_i64, -aseqC, -anyC, c3']) | (refine agives (small13_g) ?_; try simp (disch := first | omega | simp) [wrap_i64, -aseqC, -anyC, c3']) | (refine acallAt (small13_g) ?_; try simp (disch := first | omega | simp) [wrap_i64, -aseqC, -anyC, c3']) | (refine acall (f1) ?_; try simp (disch := first | omega | simp) [wrap_i64, -aseqC, -anyC, c3']) | (refine agives (f1) ?_; try simp (disch := first | omega | simp) [wrap_i64, -aseqC, -anyC, c3']) | (refine acallAt (f1) ?_; try simp (disch := first | omega | simp) [wrap_i64, -aseqC, -anyC, c3']) | (refine awp_seq_k fun K hK => ?_) | (refine awp_regionC ?_) | (refine awp_anyA true (by kernel_rfl) (by kernel_rfl) ?_) | (refine awp_anyA false (by kernel_rfl) (by kernel_rfl) ?_) | (refine hK _ ?_; clear hK; clear K) | (clear hK; clear K; refine hK _ ?_; clear hK; clear K) | (clear hK; clear K; clear hK; clear K; refine hK _ ?_; clear hK; clear K) | refine awp_block ?_ | (refine awp_condC ?_; simp (disch := first | omega | simp) [wrap_i64, -aseqC, -anyC, c3']) | (refine awp_exit ?_; try simp (disch := first | omega | simp) [wrap_i64, -aseqC, -anyC, c3']) | (refine awp_skip ?_; try simp (disch := first | omega | simp) [wrap_i64, -aseqC, -anyC, c3']) | (refine awp_ret ?_; try simp (disch := first | omega | simp) [wrap_i64, -aseqC, -anyC, c3']))
  have c3' : ¬ (100 : Int) < s.size := by omega
  obtain ⟨la, ha⟩ := few_all (n := 15) c1
  have la' : L.length ≤ 1000000 := by omega
  have ha' : ∀ c ∈ L, c.name.size ≤ 1000000 ∧ c.unit.size ≤ 1000000 := fun c hc => by have := ha c hc; omega
  have ha2 : ∀ i (h : i < L.length), L[i].name.size ≤ 1000000 := fun i h => (ha' _ (List.getElem_mem h)).1
  have g1 := find_g L s la'
  have g3 := right_g L la' ha'
  obtain ⟨n, hn⟩ : ∃ n, findP L s.toList = n := ⟨_, rfl⟩
  have b1 := findP_bounds L s.toList
  rw [hn] at b1 g1
  have b2 : -1 ≤ n := b1.1
  have b2' : ¬ n < -1 := by omega
  have b3 : n < L.length ∨ n = -1 := by rcases b1.2 with h | ⟨-, h⟩ <;> omega
  have b3' : ¬ (L.length : Int) ≤ n := by rcases b1.2 with h | ⟨-, h⟩ <;> omega
  have fa : ∀ i (h : i < L.length), L[i].name.toList = s.toList → 0 ≤ n ∧ n ≤ i := fun i h hs => by rw [← hn]; exact findP_hit h hs
  have fb : ∀ i : Nat, n = i → ∀ h : i < L.length, L[i].name.toList = s.toList := fun i h _ => (findP_at (hn.trans h)).2
  clear hn b1 b3
  refine gives_of_awp Tryd.func4 Tryd.ntmps4 rfl rfl (by decide) rfl (by intro n; simp) fun σ n0 hcl hft => ?_
  repeat' (first | ((with_reducible refine aguard (fun hg => ?_) (fun hg => ?_)) <;> (try simp only [hg]) <;> (try simp only [beq_iff_eq, beq_eq_false_iff_ne, ne_eq, decide_eq_true_eq, decide_eq_false_iff_not, bne_iff_ne, bne_eq_false_iff_eq] at hg) <;> (try (first | simp only [eq_false hg, if_true, if_false] | simp only [eq_true hg, if_true, if_false])) <;> (try simp (disch := first | omega | simp) [wrap_i64, -aseqC, -anyC, c3', b2', b3'])) | (with_reducible refine aseq_step ?_; try simp (disch := first | omega | simp) [wrap_i64, -aseqC, -anyC, c3', b2', b3']) | (with_reducible refine any_step' ?_; try simp (disch := first | omega | simp) [wrap_i64, -aseqC, -anyC, c3', b2', b3']) | (with_reducible refine aseq_end ?_; try simp (disch := first | omega | simp) [wrap_i64, -aseqC, -anyC, c3', b2', b3']) | (with_reducible refine any_end' ?_; try simp (disch := first | omega | simp) [wrap_i64, -aseqC, -anyC, c3', b2', b3']) | ((first | with_reducible refine sideG ?_ ?_ | with_reducible refine sideG2 ?_ ?_ | with_reducible refine sideS ?_ ?_ | with_reducible refine sideS2 ?_ ?_ | with_reducible refine sideS3 ?_ ?_ | with_reducible refine sideA ?_ ?_ | with_reducible refine sideA2 ?_ ?_ | with_reducible refine sideA3 ?_ ?_); (first | omega | assumption | (simp; done))) | (refine acall (small13_g) ?_; try simp (disch := first | omega | simp) [wrap_i64, -aseqC, -anyC, c3', b2', b3']) | (refine agives (small13_g) ?_; try simp (disch := first | omega | simp) [wrap_i64, -aseqC, -anyC, c3', b2', b3']) | (refine acallAt (small13_g) ?_; try simp (disch := first | omega | simp) [wrap_i64, -aseqC, -anyC, c3', b2', b3']) | (refine acall (f1) ?_; try simp (disch := first | omega | simp) [wrap_i64, -aseqC, -anyC, c3', b2', b3']) | (refine agives (f1) ?_; try simp (disch := first | omega | simp) [wrap_i64, -aseqC, -anyC, c3', b2', b3']) | (refine acallAt (f1) ?_; try simp (disch := first | omega | simp) [wrap_i64, -aseqC, -anyC, c3', b2', b3']) | (refine acall (g1) ?_; try simp (disch := first | omega | simp) [wrap_i64, -aseqC, -anyC, c3', b2', b3']) | (refine agives (g1) ?_; try simp (disch := first | omega | simp) [wrap_i64, -aseqC, -anyC, c3', b2', b3']) | (refine acallAt (g1) ?_; try simp (disch := first | omega | simp) [wrap_i64, -aseqC, -anyC, c3', b2', b3']) | (refine awp_seq_k fun K hK => ?_) | (refine awp_regionC ?_) | (refine awp_anyA true (by kernel_rfl) (by kernel_rfl) ?_) | (refine awp_anyA false (by kernel_rfl) (by kernel_rfl) ?_) | (refine hK _ ?_; clear hK; clear K) | (clear hK; clear K; refine hK _ ?_; clear hK; clear K) | (clear hK; clear K; clear hK; clear K; refine hK _ ?_; clear hK; clear K) | refine awp_block ?_ | (refine awp_condC ?_; simp (disch := first | omega | simp) [wrap_i64, -aseqC, -anyC, c3', b2', b3']) | (refine awp_exit ?_; try simp (disch := first | omega | simp) [wrap_i64, -aseqC, -anyC, c3', b2', b3']) | (refine awp_skip ?_; try simp (disch := first | omega | simp) [wrap_i64, -aseqC, -anyC, c3', b2', b3']) | (refine awp_ret ?_; try simp (disch := first | omega | simp) [wrap_i64, -aseqC, -anyC, c3', b2', b3']))
  refine awp_loopC hcl (fun k : Nat => [(0, .sl (L.map Col.av)), (1, .str s), (5, .bool true), (6, .int n), (7, .int k)]) (fun _ => [])
    (fun k => k ≤ L.length) (fun k => L.length - k) 0 (by simp) (by simp) fun k hk => ?_
  by_cases hlt : k < L.length
  · have fak := fa k hlt
    have fbk := fun h => fb k h hlt
    repeat' (first | ((with_reducible refine aguard (fun hg => ?_) (fun hg => ?_)) <;> (try simp only [hg]) <;> (try simp only [beq_iff_eq, beq_eq_false_iff_ne, ne_eq, decide_eq_true_eq, decide_eq_false_iff_not, bne_iff_ne, bne_eq_false_iff_eq] at hg) <;> (try (first | simp only [eq_false hg, if_true, if_false] | simp only [eq_true hg, if_true, if_false])) <;> (try simp (disch := first | omega | simp) [wrap_i64, -aseqC, -anyC, hlt])) | (with_reducible refine aseq_step ?_; try simp (disch := first | omega | simp) [wrap_i64, -aseqC, -anyC, hlt]) | (with_reducible refine any_step' ?_; try simp (disch := first | omega | simp) [wrap_i64, -aseqC, -anyC, hlt]) | (with_reducible refine aseq_end ?_; try simp (disch := first | omega | simp) [wrap_i64, -aseqC, -anyC, hlt]) | (with_reducible refine any_end' ?_; try simp (disch := first | omega | simp) [wrap_i64, -aseqC, -anyC, hlt]) | ((first | with_reducible refine sideG ?_ ?_ | with_reducible refine sideG2 ?_ ?_ | with_reducible refine sideS ?_ ?_ | with_reducible refine sideS2 ?_ ?_ | with_reducible refine sideS3 ?_ ?_ | with_reducible refine sideA ?_ ?_ | with_reducible refine sideA2 ?_ ?_ | with_reducible refine sideA3 ?_ ?_); (first | omega | assumption | (simp; done))) | (refine awp_seq_k fun K hK => ?_) | (refine awp_regionC ?_) | (refine awp_anyA true (by kernel_rfl) (by kernel_rfl) ?_) | (refine awp_anyA false (by kernel_rfl) (by kernel_rfl) ?_) | (refine hK _ ?_; clear hK; clear K) | (clear hK; clear K; refine hK _ ?_; clear hK; clear K) | (clear hK; clear K; clear hK; clear K; refine hK _ ?_; clear hK; clear K) | refine awp_block ?_ | (refine awp_condC ?_; simp (disch := first | omega | simp) [wrap_i64, -aseqC, -anyC, hlt]) | (refine awp_exit ?_; try simp (disch := first | omega | simp) [wrap_i64, -aseqC, -anyC, hlt]) | (refine awp_skip ?_; try simp (disch := first | omega | simp) [wrap_i64, -aseqC, -anyC, hlt]) | (refine awp_ret ?_; try simp (disch := first | omega | simp) [wrap_i64, -aseqC, -anyC, hlt]))
    all_goals first | exact ⟨k + 1, by omega, by omega, by simp⟩ | (exfalso; have := fak (by assumption); omega) | exact absurd (fbk (by assumption)) (by assumption)
  · cases hr : rightP L with
    | false =>
      rw [hr] at g3
      repeat' (first | ((with_reducible refine aguard (fun hg => ?_) (fun hg => ?_)) <;> (try simp only [hg]) <;> (try simp only [beq_iff_eq, beq_eq_false_iff_ne, ne_eq, decide_eq_true_eq, decide_eq_false_iff_not, bne_iff_ne, bne_eq_false_iff_eq] at hg) <;> (try (first | simp only [eq_false hg, if_true, if_false] | simp only [eq_true hg, if_true, if_false])) <;> (try simp (disch := first | omega | simp) [wrap_i64, -aseqC, -anyC, hlt])) | (with_reducible refine aseq_step ?_; try simp (disch := first | omega | simp) [wrap_i64, -aseqC, -anyC, hlt]) | (with_reducible refine any_step' ?_; try simp (disch := first | omega | simp) [wrap_i64, -aseqC, -anyC, hlt]) | (with_reducible refine aseq_end ?_; try simp (disch := first | omega | simp) [wrap_i64, -aseqC, -anyC, hlt]) | (with_reducible refine any_end' ?_; try simp (disch := first | omega | simp) [wrap_i64, -aseqC, -anyC, hlt]) | ((first | with_reducible refine sideG ?_ ?_ | with_reducible refine sideG2 ?_ ?_ | with_reducible refine sideS ?_ ?_ | with_reducible refine sideS2 ?_ ?_ | with_reducible refine sideS3 ?_ ?_ | with_reducible refine sideA ?_ ?_ | with_reducible refine sideA2 ?_ ?_ | with_reducible refine sideA3 ?_ ?_); (first | omega | assumption | (simp; done))) | (refine acall (g3) ?_; try simp (disch := first | omega | simp) [wrap_i64, -aseqC, -anyC, hlt]) | (refine agives (g3) ?_; try simp (disch := first | omega | simp) [wrap_i64, -aseqC, -anyC, hlt]) | (refine acallAt (g3) ?_; try simp (disch := first | omega | simp) [wrap_i64, -aseqC, -anyC, hlt]) | (refine awp_seq_k fun K hK => ?_) | (refine awp_regionC ?_) | (refine awp_anyA true (by kernel_rfl) (by kernel_rfl) ?_) | (refine awp_anyA false (by kernel_rfl) (by kernel_rfl) ?_) | (refine hK _ ?_; clear hK; clear K) | (clear hK; clear K; refine hK _ ?_; clear hK; clear K) | (clear hK; clear K; clear hK; clear K; refine hK _ ?_; clear hK; clear K) | refine awp_block ?_ | (refine awp_condC ?_; simp (disch := first | omega | simp) [wrap_i64, -aseqC, -anyC, hlt]) | (refine awp_exit ?_; try simp (disch := first | omega | simp) [wrap_i64, -aseqC, -anyC, hlt]) | (refine awp_skip ?_; try simp (disch := first | omega | simp) [wrap_i64, -aseqC, -anyC, hlt]) | (refine awp_ret ?_; try simp (disch := first | omega | simp) [wrap_i64, -aseqC, -anyC, hlt]))
      refine awp_loopC hcl (fun k : Nat => [(5, .bool true), (13, .int k)]) (fun _ => [])
        (fun k => k ≤ 3) (fun k => 3 - k) 0 (by simp) (by simp) fun k hk => ?_
      by_cases hlt : k < 3
      · have hk3 : 0 ≤ (k : Int) ∧ (k : Int) < 3 := by omega
        have t1 := typeOf_g (bytesA (typeNameP k))
        rw [bytesA_list, tname_of hk3] at t1
        have t2 := name_g (bytesA (typeNameP k)) (by have := typeName_size k; omega)
        rw [bytesA_list, tname_name hk3] at t2
        repeat' (first | ((with_reducible refine aguard (fun hg => ?_) (fun hg => ?_)) <;> (try simp only [hg]) <;> (try simp only [beq_iff_eq, beq_eq_false_iff_ne, ne_eq, decide_eq_true_eq, decide_eq_false_iff_not, bne_iff_ne, bne_eq_false_iff_eq] at hg) <;> (try (first | simp only [eq_false hg, if_true, if_false] | simp only [eq_true hg, if_true, if_false])) <;> (try simp (disch := first | omega | simp) [wrap_i64, -aseqC, -anyC, hk3.2])) | (with_reducible refine aseq_step ?_; try simp (disch := first | omega | simp) [wrap_i64, -aseqC, -anyC, hk3.2]) | (with_reducible refine any_step' ?_; try simp (disch := first | omega | simp) [wrap_i64, -aseqC, -anyC, hk3.2]) | (with_reducible refine aseq_end ?_; try simp (disch := first | omega | simp) [wrap_i64, -aseqC, -anyC, hk3.2]) | (with_reducible refine any_end' ?_; try simp (disch := first | omega | simp) [wrap_i64, -aseqC, -anyC, hk3.2]) | ((first | with_reducible refine sideG ?_ ?_ | with_reducible refine sideG2 ?_ ?_ | with_reducible refine sideS ?_ ?_ | with_reducible refine sideS2 ?_ ?_ | with_reducible refine sideS3 ?_ ?_ | with_reducible refine sideA ?_ ?_ | with_reducible refine sideA2 ?_ ?_ | with_reducible refine sideA3 ?_ ?_); (first | omega | assumption | (simp; done))) | (refine acall (typeName_g _) ?_; try simp (disch := first | omega | simp) [wrap_i64, -aseqC, -anyC, hk3.2]) | (refine agives (typeName_g _) ?_; try simp (disch := first | omega | simp) [wrap_i64, -aseqC, -anyC, hk3.2]) | (refine acallAt (typeName_g _) ?_; try simp (disch := first | omega | simp) [wrap_i64, -aseqC, -anyC, hk3.2]) | (refine acall (t1) ?_; try simp (disch := first | omega | simp) [wrap_i64, -aseqC, -anyC, hk3.2]) | (refine agives (t1) ?_; try simp (disch := first | omega | simp) [wrap_i64, -aseqC, -anyC, hk3.2]) | (refine acallAt (t1) ?_; try simp (disch := first | omega | simp) [wrap_i64, -aseqC, -anyC, hk3.2]) | (refine acall (t2) ?_; try simp (disch := first | omega | simp) [wrap_i64, -aseqC, -anyC, hk3.2]) | (refine agives (t2) ?_; try simp (disch := first | omega | simp) [wrap_i64, -aseqC, -anyC, hk3.2]) | (refine acallAt (t2) ?_; try simp (disch := first | omega | simp) [wrap_i64, -aseqC, -anyC, hk3.2]) | (refine awp_seq_k fun K hK => ?_) | (refine awp_regionC ?_) | (refine awp_anyA true (by kernel_rfl) (by kernel_rfl) ?_) | (refine awp_anyA false (by kernel_rfl) (by kernel_rfl) ?_) | (refine hK _ ?_; clear hK; clear K) | (clear hK; clear K; refine hK _ ?_; clear hK; clear K) | (clear hK; clear K; clear hK; clear K; refine hK _ ?_; clear hK; clear K) | refine awp_block ?_ | (refine awp_condC ?_; simp (disch := first | omega | simp) [wrap_i64, -aseqC, -anyC, hk3.2]) | (refine awp_exit ?_; try simp (disch := first | omega | simp) [wrap_i64, -aseqC, -anyC, hk3.2]) | (refine awp_skip ?_; try simp (disch := first | omega | simp) [wrap_i64, -aseqC, -anyC, hk3.2]) | (refine awp_ret ?_; try simp (disch := first | omega | simp) [wrap_i64, -aseqC, -anyC, hk3.2]))
        all_goals exact ⟨k + 1, by omega, by omega, by simp⟩
      · have hlt' : ¬ (k : Int) < 3 := by omega
        repeat' (first | ((with_reducible refine aguard (fun hg => ?_) (fun hg => ?_)) <;> (try simp only [hg]) <;> (try simp only [beq_iff_eq, beq_eq_false_iff_ne, ne_eq, decide_eq_true_eq, decide_eq_false_iff_not, bne_iff_ne, bne_eq_false_iff_eq] at hg) <;> (try (first | simp only [eq_false hg, if_true, if_false] | simp only [eq_true hg, if_true, if_false])) <;> (try simp (disch := first | omega | simp) [wrap_i64, -aseqC, -anyC, hlt'])) | (with_reducible refine aseq_step ?_; try simp (disch := first | omega | simp) [wrap_i64, -aseqC, -anyC, hlt']) | (with_reducible refine any_step' ?_; try simp (disch := first | omega | simp) [wrap_i64, -aseqC, -anyC, hlt']) | (with_reducible refine aseq_end ?_; try simp (disch := first | omega | simp) [wrap_i64, -aseqC, -anyC, hlt']) | (with_reducible refine any_end' ?_; try simp (disch := first | omega | simp) [wrap_i64, -aseqC, -anyC, hlt']) | ((first | with_reducible refine sideG ?_ ?_ | with_reducible refine sideG2 ?_ ?_ | with_reducible refine sideS ?_ ?_ | with_reducible refine sideS2 ?_ ?_ | with_reducible refine sideS3 ?_ ?_ | with_reducible refine sideA ?_ ?_ | with_reducible refine sideA2 ?_ ?_ | with_reducible refine sideA3 ?_ ?_); (first | omega | assumption | (simp; done))) | (refine awp_seq_k fun K hK => ?_) | (refine awp_regionC ?_) | (refine awp_anyA true (by kernel_rfl) (by kernel_rfl) ?_) | (refine awp_anyA false (by kernel_rfl) (by kernel_rfl) ?_) | (refine hK _ ?_; clear hK; clear K) | (clear hK; clear K; refine hK _ ?_; clear hK; clear K) | (clear hK; clear K; clear hK; clear K; refine hK _ ?_; clear hK; clear K) | refine awp_block ?_ | (refine awp_condC ?_; simp (disch := first | omega | simp) [wrap_i64, -aseqC, -anyC, hlt']) | (refine awp_exit ?_; try simp (disch := first | omega | simp) [wrap_i64, -aseqC, -anyC, hlt']) | (refine awp_skip ?_; try simp (disch := first | omega | simp) [wrap_i64, -aseqC, -anyC, hlt']) | (refine awp_ret ?_; try simp (disch := first | omega | simp) [wrap_i64, -aseqC, -anyC, hlt']))
    | true =>
      rw [hr] at g3
      repeat' (first | ((with_reducible refine aguard (fun hg => ?_) (fun hg => ?_)) <;> (try simp only [hg]) <;> (try simp only [beq_iff_eq, beq_eq_false_iff_ne, ne_eq, decide_eq_true_eq, decide_eq_false_iff_not, bne_iff_ne, bne_eq_false_iff_eq] at hg) <;> (try (first | simp only [eq_false hg, if_true, if_false] | simp only [eq_true hg, if_true, if_false])) <;> (try simp (disch := first | omega | simp) [wrap_i64, -aseqC, -anyC, hlt])) | (with_reducible refine aseq_step ?_; try simp (disch := first | omega | simp) [wrap_i64, -aseqC, -anyC, hlt]) | (with_reducible refine any_step' ?_; try simp (disch := first | omega | simp) [wrap_i64, -aseqC, -anyC, hlt]) | (with_reducible refine aseq_end ?_; try simp (disch := first | omega | simp) [wrap_i64, -aseqC, -anyC, hlt]) | (with_reducible refine any_end' ?_; try simp (disch := first | omega | simp) [wrap_i64, -aseqC, -anyC, hlt]) | ((first | with_reducible refine sideG ?_ ?_ | with_reducible refine sideG2 ?_ ?_ | with_reducible refine sideS ?_ ?_ | with_reducible refine sideS2 ?_ ?_ | with_reducible refine sideS3 ?_ ?_ | with_reducible refine sideA ?_ ?_ | with_reducible refine sideA2 ?_ ?_ | with_reducible refine sideA3 ?_ ?_); (first | omega | assumption | (simp; done))) | (refine acall (g3) ?_; try simp (disch := first | omega | simp) [wrap_i64, -aseqC, -anyC, hlt]) | (refine agives (g3) ?_; try simp (disch := first | omega | simp) [wrap_i64, -aseqC, -anyC, hlt]) | (refine acallAt (g3) ?_; try simp (disch := first | omega | simp) [wrap_i64, -aseqC, -anyC, hlt]) | (refine awp_seq_k fun K hK => ?_) | (refine awp_regionC ?_) | (refine awp_anyA true (by kernel_rfl) (by kernel_rfl) ?_) | (refine awp_anyA false (by kernel_rfl) (by kernel_rfl) ?_) | (refine hK _ ?_; clear hK; clear K) | (clear hK; clear K; refine hK _ ?_; clear hK; clear K) | (clear hK; clear K; clear hK; clear K; refine hK _ ?_; clear hK; clear K) | refine awp_block ?_ | (refine awp_condC ?_; simp (disch := first | omega | simp) [wrap_i64, -aseqC, -anyC, hlt]) | (refine awp_exit ?_; try simp (disch := first | omega | simp) [wrap_i64, -aseqC, -anyC, hlt]) | (refine awp_skip ?_; try simp (disch := first | omega | simp) [wrap_i64, -aseqC, -anyC, hlt]) | (refine awp_ret ?_; try simp (disch := first | omega | simp) [wrap_i64, -aseqC, -anyC, hlt]))
      refine awp_loopC hcl (fun k : Nat => [(0, .sl (L.map Col.av)), (5, .bool true), (8, .int k)]) (fun _ => [])
        (fun k => k ≤ L.length) (fun k => L.length - k) 0 (by simp) (by simp) fun k hk => ?_
      by_cases hlt : k < L.length
      · obtain ⟨r1, r2, r3, r4⟩ := right_finds hr hlt
        have e1 := find_g L L[k].name la'
        have e2 := name_g L[k].name (ha2 k hlt)
        have e3 := typeOf_g L[k].name
        have e4 := typeOf_g L[k].unit
        rw [r1] at e1; rw [r2] at e2; rw [r3] at e3; rw [r4] at e4
        repeat' (first | ((with_reducible refine aguard (fun hg => ?_) (fun hg => ?_)) <;> (try simp only [hg]) <;> (try simp only [beq_iff_eq, beq_eq_false_iff_ne, ne_eq, decide_eq_true_eq, decide_eq_false_iff_not, bne_iff_ne, bne_eq_false_iff_eq] at hg) <;> (try (first | simp only [eq_false hg, if_true, if_false] | simp only [eq_true hg, if_true, if_false])) <;> (try simp (disch := first | omega | simp) [wrap_i64, -aseqC, -anyC, hlt])) | (with_reducible refine aseq_step ?_; try simp (disch := first | omega | simp) [wrap_i64, -aseqC, -anyC, hlt]) | (with_reducible refine any_step' ?_; try simp (disch := first | omega | simp) [wrap_i64, -aseqC, -anyC, hlt]) | (with_reducible refine aseq_end ?_; try simp (disch := first | omega | simp) [wrap_i64, -aseqC, -anyC, hlt]) | (with_reducible refine any_end' ?_; try simp (disch := first | omega | simp) [wrap_i64, -aseqC, -anyC, hlt]) | ((first | with_reducible refine sideG ?_ ?_ | with_reducible refine sideG2 ?_ ?_ | with_reducible refine sideS ?_ ?_ | with_reducible refine sideS2 ?_ ?_ | with_reducible refine sideS3 ?_ ?_ | with_reducible refine sideA ?_ ?_ | with_reducible refine sideA2 ?_ ?_ | with_reducible refine sideA3 ?_ ?_); (first | omega | assumption | (simp; done))) | (refine acall (e1) ?_; try simp (disch := first | omega | simp) [wrap_i64, -aseqC, -anyC, hlt]) | (refine agives (e1) ?_; try simp (disch := first | omega | simp) [wrap_i64, -aseqC, -anyC, hlt]) | (refine acallAt (e1) ?_; try simp (disch := first | omega | simp) [wrap_i64, -aseqC, -anyC, hlt]) | (refine acall (e2) ?_; try simp (disch := first | omega | simp) [wrap_i64, -aseqC, -anyC, hlt]) | (refine agives (e2) ?_; try simp (disch := first | omega | simp) [wrap_i64, -aseqC, -anyC, hlt]) | (refine acallAt (e2) ?_; try simp (disch := first | omega | simp) [wrap_i64, -aseqC, -anyC, hlt]) | (refine acall (e3) ?_; try simp (disch := first | omega | simp) [wrap_i64, -aseqC, -anyC, hlt]) | (refine agives (e3) ?_; try simp (disch := first | omega | simp) [wrap_i64, -aseqC, -anyC, hlt]) | (refine acallAt (e3) ?_; try simp (disch := first | omega | simp) [wrap_i64, -aseqC, -anyC, hlt]) | (refine acall (e4) ?_; try simp (disch := first | omega | simp) [wrap_i64, -aseqC, -anyC, hlt]) | (refine agives (e4) ?_; try simp (disch := first | omega | simp) [wrap_i64, -aseqC, -anyC, hlt]) | (refine acallAt (e4) ?_; try simp (disch := first | omega | simp) [wrap_i64, -aseqC, -anyC, hlt]) | (refine awp_seq_k fun K hK => ?_) | (refine awp_regionC ?_) | (refine awp_anyA true (by kernel_rfl) (by kernel_rfl) ?_) | (refine awp_anyA false (by kernel_rfl) (by kernel_rfl) ?_) | (refine hK _ ?_; clear hK; clear K) | (clear hK; clear K; refine hK _ ?_; clear hK; clear K) | (clear hK; clear K; clear hK; clear K; refine hK _ ?_; clear hK; clear K) | refine awp_block ?_ | (refine awp_condC ?_; simp (disch := first | omega | simp) [wrap_i64, -aseqC, -anyC, hlt]) | (refine awp_exit ?_; try simp (disch := first | omega | simp) [wrap_i64, -aseqC, -anyC, hlt]) | (refine awp_skip ?_; try simp (disch := first | omega | simp) [wrap_i64, -aseqC, -anyC, hlt]) | (refine awp_ret ?_; try simp (disch := first | omega | simp) [wrap_i64, -aseqC, -anyC, hlt]))
        all_goals exact ⟨k + 1, by omega, by omega, by simp⟩
      · repeat' (first | ((with_reducible refine aguard (fun hg => ?_) (fun hg => ?_)) <;> (try simp only [hg]) <;> (try simp only [beq_iff_eq, beq_eq_false_iff_ne, ne_eq, decide_eq_true_eq, decide_eq_false_iff_not, bne_iff_ne, bne_eq_false_iff_eq] at hg) <;> (try (first | simp only [eq_false hg, if_true, if_false] | simp only [eq_true hg, if_true, if_false])) <;> (try simp (disch := first | omega | simp) [wrap_i64, -aseqC, -anyC, hlt])) | (with_reducible refine aseq_step ?_; try simp (disch := first | omega | simp) [wrap_i64, -aseqC, -anyC, hlt]) | (with_reducible refine any_step' ?_; try simp (disch := first | omega | simp) [wrap_i64, -aseqC, -anyC, hlt]) | (with_reducible refine aseq_end ?_; try simp (disch := first | omega | simp) [wrap_i64, -aseqC, -anyC, hlt]) | (with_reducible refine any_end' ?_; try simp (disch := first | omega | simp) [wrap_i64, -aseqC, -anyC, hlt]) | ((first | with_reducible refine sideG ?_ ?_ | with_reducible refine sideG2 ?_ ?_ | with_reducible refine sideS ?_ ?_ | with_reducible refine sideS2 ?_ ?_ | with_reducible refine sideS3 ?_ ?_ | with_reducible refine sideA ?_ ?_ | with_reducible refine sideA2 ?_ ?_ | with_reducible refine sideA3 ?_ ?_); (first | omega | assumption | (simp; done))) | (refine awp_seq_k fun K hK => ?_) | (refine awp_regionC ?_) | (refine awp_anyA true (by kernel_rfl) (by kernel_rfl) ?_) | (refine awp_anyA false (by kernel_rfl) (by kernel_rfl) ?_) | (refine hK _ ?_; clear hK; clear K) | (clear hK; clear K; refine hK _ ?_; clear hK; clear K) | (clear hK; clear K; clear hK; clear K; refine hK _ ?_; clear hK; clear K) | refine awp_block ?_ | (refine awp_condC ?_; simp (disch := first | omega | simp) [wrap_i64, -aseqC, -anyC, hlt]) | (refine awp_exit ?_; try simp (disch := first | omega | simp) [wrap_i64, -aseqC, -anyC, hlt]) | (refine awp_skip ?_; try simp (disch := first | omega | simp) [wrap_i64, -aseqC, -anyC, hlt]) | (refine awp_ret ?_; try simp (disch := first | omega | simp) [wrap_i64, -aseqC, -anyC, hlt]))
        refine awp_loopC hcl (fun k : Nat => [(5, .bool true), (13, .int k)]) (fun _ => [])
          (fun k => k ≤ 3) (fun k => 3 - k) 0 (by simp) (by simp) fun k hk => ?_
        by_cases hlt : k < 3
        · have hk3 : 0 ≤ (k : Int) ∧ (k : Int) < 3 := by omega
          have t1 := typeOf_g (bytesA (typeNameP k))
          rw [bytesA_list, tname_of hk3] at t1
          have t2 := name_g (bytesA (typeNameP k)) (by have := typeName_size k; omega)
          rw [bytesA_list, tname_name hk3] at t2
          repeat' (first | ((with_reducible refine aguard (fun hg => ?_) (fun hg => ?_)) <;> (try simp only [hg]) <;> (try simp only [beq_iff_eq, beq_eq_false_iff_ne, ne_eq, decide_eq_true_eq, decide_eq_false_iff_not, bne_iff_ne, bne_eq_false_iff_eq] at hg) <;> (try (first | simp only [eq_false hg, if_true, if_false] | simp only [eq_true hg, if_true, if_false])) <;> (try simp (disch := first | omega | simp) [wrap_i64, -aseqC, -anyC, hk3.2])) | (with_reducible refine aseq_step ?_; try simp (disch := first | omega | simp) [wrap_i64, -aseqC, -anyC, hk3.2]) | (with_reducible refine any_step' ?_; try simp (disch := first | omega | simp) [wrap_i64, -aseqC, -anyC, hk3.2]) | (with_reducible refine aseq_end ?_; try simp (disch := first | omega | simp) [wrap_i64, -aseqC, -anyC, hk3.2]) | (with_reducible refine any_end' ?_; try simp (disch := first | omega | simp) [wrap_i64, -aseqC, -anyC, hk3.2]) | ((first | with_reducible refine sideG ?_ ?_ | with_reducible refine sideG2 ?_ ?_ | with_reducible refine sideS ?_ ?_ | with_reducible refine sideS2 ?_ ?_ | with_reducible refine sideS3 ?_ ?_ | with_reducible refine sideA ?_ ?_ | with_reducible refine sideA2 ?_ ?_ | with_reducible refine sideA3 ?_ ?_); (first | omega | assumption | (simp; done))) | (refine acall (typeName_g _) ?_; try simp (disch := first | omega | simp) [wrap_i64, -aseqC, -anyC, hk3.2]) | (refine agives (typeName_g _) ?_; try simp (disch := first | omega | simp) [wrap_i64, -aseqC, -anyC, hk3.2]) | (refine acallAt (typeName_g _) ?_; try simp (disch := first | omega | simp) [wrap_i64, -aseqC, -anyC, hk3.2]) | (refine acall (t1) ?_; try simp (disch := first | omega | simp) [wrap_i64, -aseqC, -anyC, hk3.2]) | (refine agives (t1) ?_; try simp (disch := first | omega | simp) [wrap_i64, -aseqC, -anyC, hk3.2]) | (refine acallAt (t1) ?_; try simp (disch := first | omega | simp) [wrap_i64, -aseqC, -anyC, hk3.2]) | (refine acall (t2) ?_; try simp (disch := first | omega | simp) [wrap_i64, -aseqC, -anyC, hk3.2]) | (refine agives (t2) ?_; try simp (disch := first | omega | simp) [wrap_i64, -aseqC, -anyC, hk3.2]) | (refine acallAt (t2) ?_; try simp (disch := first | omega | simp) [wrap_i64, -aseqC, -anyC, hk3.2]) | (refine awp_seq_k fun K hK => ?_) | (refine awp_regionC ?_) | (refine awp_anyA true (by kernel_rfl) (by kernel_rfl) ?_) | (refine awp_anyA false (by kernel_rfl) (by kernel_rfl) ?_) | (refine hK _ ?_; clear hK; clear K) | (clear hK; clear K; refine hK _ ?_; clear hK; clear K) | (clear hK; clear K; clear hK; clear K; refine hK _ ?_; clear hK; clear K) | refine awp_block ?_ | (refine awp_condC ?_; simp (disch := first | omega | simp) [wrap_i64, -aseqC, -anyC, hk3.2]) | (refine awp_exit ?_; try simp (disch := first | omega | simp) [wrap_i64, -aseqC, -anyC, hk3.2]) | (refine awp_skip ?_; try simp (disch := first | omega | simp) [wrap_i64, -aseqC, -anyC, hk3.2]) | (refine awp_ret ?_; try simp (disch := first | omega | simp) [wrap_i64, -aseqC, -anyC, hk3.2]))
          all_goals exact ⟨k + 1, by omega, by omega, by simp⟩
        · have hlt' : ¬ (k : Int) < 3 := by omega
          repeat' (first | ((with_reducible refine aguard (fun hg => ?_) (fun hg => ?_)) <;> (try simp only [hg]) <;> (try simp only [beq_iff_eq, beq_eq_false_iff_ne, ne_eq, decide_eq_true_eq, decide_eq_false_iff_not, bne_iff_ne, bne_eq_false_iff_eq] at hg) <;> (try (first | simp only [eq_false hg, if_true, if_false] | simp only [eq_true hg, if_true, if_false])) <;> (try simp (disch := first | omega | simp) [wrap_i64, -aseqC, -anyC, hlt'])) | (with_reducible refine aseq_step ?_; try simp (disch := first | omega | simp) [wrap_i64, -aseqC, -anyC, hlt']) | (with_reducible refine any_step' ?_; try simp (disch := first | omega | simp) [wrap_i64, -aseqC, -anyC, hlt']) | (with_reducible refine aseq_end ?_; try simp (disch := first | omega | simp) [wrap_i64, -aseqC, -anyC, hlt']) | (with_reducible refine any_end' ?_; try simp (disch := first | omega | simp) [wrap_i64, -aseqC, -anyC, hlt']) | ((first | with_reducible refine sideG ?_ ?_ | with_reducible refine sideG2 ?_ ?_ | with_reducible refine sideS ?_ ?_ | with_reducible refine sideS2 ?_ ?_ | with_reducible refine sideS3 ?_ ?_ | with_reducible refine sideA ?_ ?_ | with_reducible refine sideA2 ?_ ?_ | with_reducible refine sideA3 ?_ ?_); (first | omega | assumption | (simp; done))) | (refine awp_seq_k fun K hK => ?_) | (refine awp_regionC ?_) | (refine awp_anyA true (by kernel_rfl) (by kernel_rfl) ?_) | (refine awp_anyA false (by kernel_rfl) (by kernel_rfl) ?_) | (refine hK _ ?_; clear hK; clear K) | (clear hK; clear K; refine hK _ ?_; clear hK; clear K) | (clear hK; clear K; clear hK; clear K; refine hK _ ?_; clear hK; clear K) | refine awp_block ?_ | (refine awp_condC ?_; simp (disch := first | omega | simp) [wrap_i64, -aseqC, -anyC, hlt']) | (refine awp_exit ?_; try simp (disch := first | omega | simp) [wrap_i64, -aseqC, -anyC, hlt']) | (refine awp_skip ?_; try simp (disch := first | omega | simp) [wrap_i64, -aseqC, -anyC, hlt']) | (refine awp_ret ?_; try simp (disch := first | omega | simp) [wrap_i64, -aseqC, -anyC, hlt']))
end Go.Proofs.YtinmkhgadekabaaDoor

/- Readings of arguments: api.Col. -/
namespace Go.Proofs.YtinmkhgadekabaaDoor
open Go.RowKit Go.Lib
section
variable {H : Type} {enc : TypeId × Value → H} {w : World} {sp : Nat → Bool} {hd : Bool}

theorem trods_col (N : Nat) : Trods enc Tryd.prog w sp hd 33 Col.d N := by
  intro n cs x hn h
  obtain ⟨xs, m, rfl, -, hlen, hl2, hf⟩ := DataW.trod_struct Tryd.underlying33 h
  have hc : Tryd.prog.cellsOf 33 = 3 := by kernel_rfl
  rw [hc] at hlen
  obtain ⟨y0, h0⟩ := trod_field 0 9 0 1 hl2 hf ⟨_, rfl, rfl, rfl⟩ (by kernel_rfl)
  obtain ⟨y1, h1⟩ := trod_field 1 3 1 1 hl2 hf ⟨_, rfl, rfl, rfl⟩ (by kernel_rfl)
  obtain ⟨y2, h2⟩ := trod_field 2 9 2 1 hl2 hf ⟨_, rfl, rfl, rfl⟩ (by kernel_rfl)
  obtain ⟨a0, r0⟩ := trods_str Tryd.underlying9 (m + 1) m _ _ (by omega) h0
  obtain ⟨a1, r1⟩ := trods_int Tryd.underlying3 (m + 1) m _ _ (by omega) h1
  obtain ⟨a2, r2⟩ := trods_str Tryd.underlying9 (m + 1) m _ _ (by omega) h2
  exact ⟨⟨a0, a1, a2⟩, rd_st (rdS_cut (k := 1) r0 (rdS_cut (k := 1) r1 (rdS_cut (k := 1) r2 (rdS_end (by omega)))))⟩
theorem trods_cols (N : Nat) : Trods enc Tryd.prog w sp hd 22 (fun l : List Col => D.sl (l.map Col.d)) N := fun n cs x hn h =>
  trods_sl Tryd.underlying22 (sz := 3) (by kernel_rfl) (by omega) Col.width (trods_col N) n cs x (by omega) h
end
end Go.Proofs.YtinmkhgadekabaaDoor

/- Readings of arguments: api.Value. -/
namespace Go.Proofs.YtinmkhgadekabaaDoor
open Go.RowKit Go.Lib
section
variable {H : Type} {enc : TypeId × Value → H} {w : World} {sp : Nat → Bool} {hd : Bool}

theorem trods_val (N : Nat) : Trods enc Tryd.prog w sp hd 46 Val.d N := by
  intro n cs x hn h
  obtain ⟨xs, m, rfl, -, hlen, hl2, hf⟩ := DataW.trod_struct Tryd.underlying46 h
  have hc : Tryd.prog.cellsOf 46 = 3 := by kernel_rfl
  rw [hc] at hlen
  obtain ⟨y0, h0⟩ := trod_field 0 3 0 1 hl2 hf ⟨_, rfl, rfl, rfl⟩ (by kernel_rfl)
  obtain ⟨y1, h1⟩ := trod_field 1 3 1 1 hl2 hf ⟨_, rfl, rfl, rfl⟩ (by kernel_rfl)
  obtain ⟨y2, h2⟩ := trod_field 2 9 2 1 hl2 hf ⟨_, rfl, rfl, rfl⟩ (by kernel_rfl)
  obtain ⟨a0, r0⟩ := trods_int Tryd.underlying3 (m + 1) m _ _ (by omega) h0
  obtain ⟨a1, r1⟩ := trods_int Tryd.underlying3 (m + 1) m _ _ (by omega) h1
  obtain ⟨a2, r2⟩ := trods_str Tryd.underlying9 (m + 1) m _ _ (by omega) h2
  exact ⟨⟨a0, a1, a2⟩, rd_st (rdS_cut (k := 1) r0 (rdS_cut (k := 1) r1 (rdS_cut (k := 1) r2 (rdS_end (by omega)))))⟩
theorem trods_vals (N : Nat) : Trods enc Tryd.prog w sp hd 39 (fun l : List Val => D.sl (l.map Val.d)) N := fun n cs x hn h =>
  trods_sl Tryd.underlying39 (sz := 3) (by kernel_rfl) (by omega) Val.width (trods_val N) n cs x (by omega) h
end
end Go.Proofs.YtinmkhgadekabaaDoor

/- The arguments' readings at a law's entry; the variable that strings.Split reads. -/
namespace Go.Proofs.YtinmkhgadekabaaDoor
open Go.ChangeShapes Go.WideShapes Go.ChangeAt Go.RowKit Go.Lib

theorem glob13 {W : World} (h : W.ShapedOpen Tryd.prog) : globsOk (CellsS (St.flat W)) := by
  obtain ⟨m, hm⟩ := cell_of_shapedOpen_int (P := Tryd.prog) (g := 0) (zero := #[.int .i64 0]) (t := 3) h (of_decide_eq_true (by kernel_rfl)) (by kernel_rfl) rfl (by kernel_rfl) (by kernel_rfl) Tryd.underlying3
  have hlt : 0 < W.heap.size := by
    rcases Nat.eq_zero_or_pos W.heap.size with h0 | h0
    · exfalso
      simp only [World.cell?] at hm
      rw [Array.getElem?_eq_none (by omega)] at hm
      cases hm
    · exact h0
  exact ⟨⟨m, hm, hlt, trivial⟩, trivial⟩
theorem flat_int13 {w : World} {n : Int} : RR1 (St.flat w) (.int n) (.int .i64 n) := by
  show RC _ _ _
  rw [RC]
theorem flat_str13 {w : World} {s : ByteArray} : RR1 (St.flat w) (.str s) (.string s) := by
  show RC _ _ _
  rw [RC]

section
variable {H : Type} {enc : TypeId × Value → H} {P : Program} {w : World} {base : Nat} {spare : Nat → Bool} {held : Bool} {t0 t1 t2 t3 t4 : TypeId} {args : Array Value} {ds : List (DataW H)} {ps : List MemPlace}
theorem trodAll_two13 (h : DataW.TrodAll enc P w base spare held [t0, t1] args.toList ds ps) :
    ∃ v0 v1 d0 d1 p0 p1, args = #[v0, v1] ∧ ds = [d0, d1] ∧ ps = p0 ++ p1 ∧ DataW.Trod enc P w base spare held t0 v0 d0 p0 ∧ DataW.Trod enc P w base spare held t1 v1 d1 p1 := by
  obtain ⟨v0, vs0, d0, ds0, p0, q0, hargs, rfl, rfl, h0, r0⟩ := trodAll_cons h
  obtain ⟨v1, vs1, d1, ds1, p1, q1, rfl, rfl, rfl, h1, r1⟩ := trodAll_cons r0
  obtain ⟨rfl, rfl, rfl⟩ := trodAll_nil r1
  exact ⟨v0, v1, d0, d1, p0, p1, by cases args; simp_all, rfl, by simp, h0, h1⟩
theorem trodAll_three13 (h : DataW.TrodAll enc P w base spare held [t0, t1, t2] args.toList ds ps) :
    ∃ v0 v1 v2 d0 d1 d2 p0 p1 p2, args = #[v0, v1, v2] ∧ ds = [d0, d1, d2] ∧ ps = p0 ++ p1 ++ p2 ∧ DataW.Trod enc P w base spare held t0 v0 d0 p0 ∧ DataW.Trod enc P w base spare held t1 v1 d1 p1 ∧ DataW.Trod enc P w base spare held t2 v2 d2 p2 := by
  obtain ⟨v0, vs0, d0, ds0, p0, q0, hargs, rfl, rfl, h0, r0⟩ := trodAll_cons h
  obtain ⟨v1, vs1, d1, ds1, p1, q1, rfl, rfl, rfl, h1, r1⟩ := trodAll_cons r0
  obtain ⟨v2, vs2, d2, ds2, p2, q2, rfl, rfl, rfl, h2, r2⟩ := trodAll_cons r1
  obtain ⟨rfl, rfl, rfl⟩ := trodAll_nil r2
  exact ⟨v0, v1, v2, d0, d1, d2, p0, p1, p2, by cases args; simp_all, rfl, by simp, h0, h1, h2⟩
theorem trodAll_four13 (h : DataW.TrodAll enc P w base spare held [t0, t1, t2, t3] args.toList ds ps) :
    ∃ v0 v1 v2 v3 d0 d1 d2 d3 p0 p1 p2 p3, args = #[v0, v1, v2, v3] ∧ ds = [d0, d1, d2, d3] ∧ ps = p0 ++ p1 ++ p2 ++ p3 ∧ DataW.Trod enc P w base spare held t0 v0 d0 p0 ∧ DataW.Trod enc P w base spare held t1 v1 d1 p1 ∧ DataW.Trod enc P w base spare held t2 v2 d2 p2 ∧ DataW.Trod enc P w base spare held t3 v3 d3 p3 := by
  obtain ⟨v0, vs0, d0, ds0, p0, q0, hargs, rfl, rfl, h0, r0⟩ := trodAll_cons h
  obtain ⟨v1, vs1, d1, ds1, p1, q1, rfl, rfl, rfl, h1, r1⟩ := trodAll_cons r0
  obtain ⟨v2, vs2, d2, ds2, p2, q2, rfl, rfl, rfl, h2, r2⟩ := trodAll_cons r1
  obtain ⟨v3, vs3, d3, ds3, p3, q3, rfl, rfl, rfl, h3, r3⟩ := trodAll_cons r2
  obtain ⟨rfl, rfl, rfl⟩ := trodAll_nil r3
  exact ⟨v0, v1, v2, v3, d0, d1, d2, d3, p0, p1, p2, p3, by cases args; simp_all, rfl, by simp, h0, h1, h2, h3⟩
theorem trodAll_five_13 (h : DataW.TrodAll enc P w base spare held [t0, t1, t2, t3, t4] args.toList ds ps) :
    ∃ v0 v1 v2 v3 v4 d0 d1 d2 d3 d4 p0 p1 p2 p3 p4, args = #[v0, v1, v2, v3, v4] ∧ ds = [d0, d1, d2, d3, d4] ∧ ps = p0 ++ p1 ++ p2 ++ p3 ++ p4 ∧ DataW.Trod enc P w base spare held t0 v0 d0 p0 ∧ DataW.Trod enc P w base spare held t1 v1 d1 p1 ∧ DataW.Trod enc P w base spare held t2 v2 d2 p2 ∧ DataW.Trod enc P w base spare held t3 v3 d3 p3 ∧ DataW.Trod enc P w base spare held t4 v4 d4 p4 := by
  obtain ⟨v0, vs0, d0, ds0, p0, q0, hargs, rfl, rfl, h0, r0⟩ := trodAll_cons h
  obtain ⟨v1, vs1, d1, ds1, p1, q1, rfl, rfl, rfl, h1, r1⟩ := trodAll_cons r0
  obtain ⟨v2, vs2, d2, ds2, p2, q2, rfl, rfl, rfl, h2, r2⟩ := trodAll_cons r1
  obtain ⟨v3, vs3, d3, ds3, p3, q3, rfl, rfl, rfl, h3, r3⟩ := trodAll_cons r2
  obtain ⟨v4, vs4, d4, ds4, p4, q4, rfl, rfl, rfl, h4, r4⟩ := trodAll_cons r3
  obtain ⟨rfl, rfl, rfl⟩ := trodAll_nil r4
  exact ⟨v0, v1, v2, v3, v4, d0, d1, d2, d3, d4, p0, p1, p2, p3, p4, by cases args; simp_all, rfl, by simp, h0, h1, h2, h3, h4⟩
end
end Go.Proofs.YtinmkhgadekabaaDoor

/- The law ShapeFinds, lifted: the row and the tied card. (Printed by gen_lift.py.) -/
namespace Go.Proofs.YtinmkhgadekabaaDoor
open Go.ChangeShapes Go.WideShapes Go.ChangeAt Go.RowKit Go.Lib

set_option maxRecDepth 100000 in
theorem shapeFinds_lifted (os : Os) (started : os.Started) (H : Type) (enc : TypeId × Value → H) :
    ReturnsInHanded {} Tryd.checked os 4 .any (fun w args => (Rows.shapeFindsSpec.pre enc Tryd.prog Tryd.f4 Rows.shapeFindsRow.domain false w args ∧ laidMetH Tryd.prog Rows.shapeFindsRow.laid w) ∧ sizedMet enc Tryd.prog Tryd.f4 (OpenSpec.ofChange Rows.shapeFindsSpec) false w args)
      (Rows.shapeFindsSpec.post enc Tryd.prog Tryd.f4 false true false false) := by
  refine returnsInHanded_both (C := Tryd.checked) (X := fun w _ => laidMetH Tryd.prog Rows.shapeFindsRow.laid w) Tryd.own started (by kernel_rfl) Tryd.func4
    (ChangeSpec.witness_shaped (enc := enc) (C := Tryd.checked) (os := os) (X := fun w _ => laidMetH Tryd.prog Rows.shapeFindsRow.laid w) false (World.laidAll Tryd.prog os Rows.shapeFindsRow.laid) #[.slice .none 0 0, .string ByteArray.empty] 8 (World.laidAll_os _ _ _)
      (World.shaped_of_ZipB (by kernel_rfl) (by kernel_rfl)) (by kernel_rfl) (by kernel_rfl) (by kernel_rfl)
      (by rw [MakeChecks.laidMetH_plain _ _ _ (by kernel_rfl)]; exact laidMet_laidAll _ (by kernel_rfl) (by kernel_rfl))) ?_
  intro W base args ds gs before hval0 hW _ hsh
  have hval : ∀ (j : Nat) t v, Tryd.f4.params[j]? = some t → args[j]? = some v → Value.okWide Tryd.prog W .any base t v := hval0
  have hW' := hW
  obtain ⟨p, q, hA0, hV, rfl, hfz, hnd⟩ := hW
  have hA : DataW.TrodAll enc Tryd.prog W 0 (fun _ => true) true Tryd.f4.params.toList args.toList ds p := hA0
  rw [Tryd.params4] at hA hval
  obtain ⟨v0, v1, d0, d1, p0, p1, rfl, rfl, rfl, h0, h1⟩ := trodAll_two13 hA
  obtain ⟨rfl, rfl⟩ := trodVars_none hV
  obtain ⟨x0, r0⟩ := par_sl Tryd.underlying22 (hval 0 _ v0 rfl rfl) h0 trods_cols
  obtain ⟨x1, rfl⟩ := par_str Tryd.underlying9 (hval 1 _ v1 rfl rfl)
  refine (calls_of_gives (vals := [v0, .string x1]) (finds_g x0 x1 (rd_len r0)) ⟨_, _, rfl, Col.flats r0, _, _, rfl, flat_str13, rfl⟩ (glob13 hsh)).mono ?_
  rintro r W' ⟨rfl, hb⟩
  exact ⟨_, rfl, law_post (P := Tryd.prog) Tryd.laidOut hW' rfl rfl (by kernel_rfl) Tryd.underlying4 (by kernel_rfl) hb⟩

theorem shapeFinds_row : Rows.ShapeFindsSaid :=
  OpenClaim.holds_of_wide 4 Tryd.f4 rfl rfl rfl rfl rfl rfl rfl ⟨rfl, rfl, rfl, rfl, rfl⟩ rfl rfl rfl rfl rfl (by kernel_rfl) Tryd.func4 (by kernel_rfl)
    (of_decide_eq_true (by kernel_rfl)) (by unfold Func.isWrapper; first | (rw [if_pos (by decide +kernel)]; kernel_rfl) | (rw [if_neg (by decide +kernel)]; exact ⟨rfl, rfl⟩))
    (fun os started H enc _ => shapeFinds_lifted os started H enc)
theorem shapeFinds_holds : Rows.ShapeFindsCardSaid :=
  Claim7.holds_tied_plain_at .later [] [.data, .pinned] true (true, "0dc4767559b0b97801cb1afccdee15aa960b43b8442bbdc36cbf9bac0fb0769f") false shapeFinds_row (fun _ h => by cases h) (by kernel_rfl) (fun _ h => by cases h) shapeFinds_row_tie rfl ⟨rfl, rfl⟩ (by kernel_rfl) rfl
    (fun f fn hf hfn => by
      obtain rfl : f = 4 := Option.some.inj ((show Tryd.prog.funcNamed "errata/erratalaw13.ShapeFinds" = some 4 by kernel_rfl).symm.trans hf) |>.symm
      obtain rfl : fn = Tryd.f4 := (Option.some.inj (Tryd.func4.symm.trans hfn)).symm
      exact ⟨by kernel_rfl, fun j t ht => by
        rw [Tryd.params4] at ht
        have hm : t ∈ [22, 9] := by simpa using Array.mem_of_getElem? ht
        have hall : ([22, 9].all fun u => !Tryd.prog.wantsStandIn u) = true := by kernel_rfl
        exact (show Tryd.prog.wantsStandIn t = false by simpa using List.all_eq_true.1 hall t hm)⟩)
    (by kernel_rfl)
end Go.Proofs.YtinmkhgadekabaaDoor
