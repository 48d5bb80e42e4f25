/- Walk: the examples of chapter 02. -/
import Derived.Test.YtkhmlicikbnmdaaDoorGa18
import Derived.Test.YtkhmlicikbnmdaaDoorGa27
set_option linter.unusedSimpArgs false
set_option linter.unusedVariables false
namespace Go.Proofs.YtkhmlicikbnmdaaDoor
open Go.RowKit Go.Lib

set_option maxRecDepth 100000 in
set_option maxHeartbeats 4000000 in
theorem small02_g : Gives Tryd.prog 13 [] (.bool true) := by
  have i1 : Gives Tryd.prog 20 [.str ⟨#[45, 48]⟩] (.tup [.int 0, .bool false]) := by
    have h := int_g ⟨#[45, 48]⟩ (by decide)
    have e : intP (⟨#[45, 48]⟩ : ByteArray).data.toList = none := by decide +kernel
    rw [e] at h; exact h
  have i2 : Gives Tryd.prog 20 [.str ⟨#[48, 48, 55]⟩] (.tup [.int 0, .bool false]) := by
    have h := int_g ⟨#[48, 48, 55]⟩ (by decide)
    have e : intP (⟨#[48, 48, 55]⟩ : ByteArray).data.toList = none := by decide +kernel
    rw [e] at h; exact h
  have i3 : Gives Tryd.prog 20 [.str ⟨#[45, 57, 50, 50, 51, 51, 55, 50, 48, 51, 54, 56, 53, 52, 55, 55, 53, 56, 48, 56]⟩] (.tup [.int (-9223372036854775808), .bool true]) := by
    have h := int_g ⟨#[45, 57, 50, 50, 51, 51, 55, 50, 48, 51, 54, 56, 53, 52, 55, 55, 53, 56, 48, 56]⟩ (by decide)
    have e : intP (⟨#[45, 57, 50, 50, 51, 51, 55, 50, 48, 51, 54, 56, 53, 52, 55, 55, 53, 56, 48, 56]⟩ : ByteArray).data.toList = some (-9223372036854775808) := by decide +kernel
    rw [e] at h; exact h
  have l1 : Gives Tryd.prog 15 [.str ⟨#[97, 10, 10, 98]⟩] (.sl [.str (bytesA [97]), .str (bytesA []), .str (bytesA [98])]) := by
    have h := lines_g ⟨#[97, 10, 10, 98]⟩ (by decide)
    have e : linesP (⟨#[97, 10, 10, 98]⟩ : ByteArray).data.toList = [[97], [], [98]] := by decide +kernel
    rw [e] at h; exact h
  have f1 : Gives Tryd.prog 17 [.str ⟨#[32, 97, 32, 32, 98, 10]⟩] (.sl [.str (bytesA [97]), .str (bytesA [98])]) := by
    have h := fields_g ⟨#[32, 97, 32, 32, 98, 10]⟩ (by decide)
    have e : fieldsP (⟨#[32, 97, 32, 32, 98, 10]⟩ : ByteArray).data.toList = [[97], [98]] := by decide +kernel
    rw [e] at h; exact h
  have q1 : Gives Tryd.prog 23 [.str ⟨#[97, 34, 10, 200]⟩] (.str ⟨#[34, 97, 92, 34, 92, 110, 92, 120, 99, 56, 34]⟩) := by
    have h := quote_g ⟨#[97, 34, 10, 200]⟩ (by decide)
    have e : qP (⟨#[97, 34, 10, 200]⟩ : ByteArray).data.toList = [34, 97, 92, 34, 92, 110, 92, 120, 99, 56, 34] := by decide +kernel
    rw [e] at h; exact h
  have pt : ∀ (p s : ByteArray) (b : Bool), p.size ≤ 1000000 → s.size ≤ 1000000 → patP p.data.toList s.data.toList = b → Gives Tryd.prog 18 [.str p, .str s] (.bool b) := fun p s b hp hs e => by
    have h := pattern_g p s hp hs
    rw [e] at h; exact h
  have p1 := pt ⟨#[97, 42, 91, 33, 120, 45, 122, 93, 63]⟩ ⟨#[97, 98, 99, 100]⟩ true (by decide) (by decide) (by decide +kernel)
  have p2 := pt ⟨#[91, 93, 93]⟩ ⟨#[93]⟩ true (by decide) (by decide) (by decide +kernel)
  have p3 := pt ⟨#[91, 97]⟩ ⟨#[91, 97]⟩ true (by decide) (by decide) (by decide +kernel)
  have p4 := pt ⟨#[92, 42]⟩ ⟨#[42]⟩ true (by decide) (by decide) (by decide +kernel)
  have p5 := pt ⟨#[92, 42]⟩ ⟨#[97, 98]⟩ false (by decide) (by decide) (by decide +kernel)
  refine gives_of_awp Tryd.func13 Tryd.ntmps13 rfl rfl (by decide) rfl (by intro n; simp) fun σ n0 hcl hft => ?_
  repeat' (first | ((with_reducible refine aguard (fun hg => ?_) (fun hg => ?_)) <;> (try simp only [hg]) <;> (try simp only [beq_iff_eq, beq_eq_false_iff_ne, ne_eq, decide_eq_true_eq, decide_eq_false_iff_not, bne_iff_ne, bne_eq_false_iff_eq] at hg) <;> (try (first | simp only [eq_false hg, if_true, if_false] | simp only [eq_true hg, if_true, if_false])) <;> (try simp (disch := first | omega | simp) [wrap_i64, -aseqC, -anyC])) | (with_reducible refine aseq_step ?_; try simp (disch := first | omega | simp) [wrap_i64, -aseqC, -anyC]) | (with_reducible refine any_step' ?_; try simp (disch := first | omega | simp) [wrap_i64, -aseqC, -anyC]) | (with_reducible refine aseq_end ?_; try simp (disch := first | omega | simp) [wrap_i64, -aseqC, -anyC]) | (with_reducible refine any_end' ?_; try simp (disch := first | omega | simp) [wrap_i64, -aseqC, -anyC]) | ((first | with_reducible refine sideG ?_ ?_ | with_reducible refine sideG2 ?_ ?_ | with_reducible refine sideS ?_ ?_ | with_reducible refine sideS2 ?_ ?_ | with_reducible refine sideS3 ?_ ?_ | with_reducible refine sideA ?_ ?_ | with_reducible refine sideA2 ?_ ?_ | with_reducible refine sideA3 ?_ ?_); (first | omega | assumption | (simp; done))) | (refine acall (i1) ?_; try simp (disch := first | omega | simp) [wrap_i64, -aseqC, -anyC]) | (refine agives (i1) ?_; try simp (disch := first | omega | simp) [wrap_i64, -aseqC, -anyC]) | (refine acallAt (i1) ?_; try simp (disch := first | omega | simp) [wrap_i64, -aseqC, -anyC]) | (refine acall (i2) ?_; try simp (disch := first | omega | simp) [wrap_i64, -aseqC, -anyC]) | (refine agives (i2) ?_; try simp (disch := first | omega | simp) [wrap_i64, -aseqC, -anyC]) | (refine acallAt (i2) ?_; try simp (disch := first | omega | simp) [wrap_i64, -aseqC, -anyC]) | (refine acall (i3) ?_; try simp (disch := first | omega | simp) [wrap_i64, -aseqC, -anyC]) | (refine agives (i3) ?_; try simp (disch := first | omega | simp) [wrap_i64, -aseqC, -anyC]) | (refine acallAt (i3) ?_; try simp (disch := first | omega | simp) [wrap_i64, -aseqC, -anyC]) | (refine acall (l1) ?_; try simp (disch := first | omega | simp) [wrap_i64, -aseqC, -anyC]) | (refine agives (l1) ?_; try simp (disch := first | omega | simp) [wrap_i64, -aseqC, -anyC]) | (refine acallAt (l1) ?_; try simp (disch := first | omega | simp) [wrap_i64, -aseqC, -anyC]) | (refine acall (f1) ?_; try simp (disch := first | omega | simp) [wrap_i64, -aseqC, -anyC]) | (refine agives (f1) ?_; try simp (disch := first | omega | simp) [wrap_i64, -aseqC, -anyC]) | (refine acallAt (f1) ?_; try simp (disch := first | omega | simp) [wrap_i64, -aseqC, -anyC]) | (refine acall (q1) ?_; try simp (disch := first | omega | simp) [wrap_i64, -aseqC, -anyC]) | (refine agives (q1) ?_; try simp (disch := first | omega | simp) [wrap_i64, -aseqC, -anyC]) | (refine acallAt (q1) ?_; try simp (disch := first | omega | simp) [wrap_i64, -aseqC, -anyC]) | (refine acall (p1) ?_; try simp (disch := first | omega | simp) [wrap_i64, -aseqC, -anyC]) | (refine agives (p1) ?_; try simp (disch := first | omega | simp) [wrap_i64, -aseqC, -anyC]) | (refine acallAt (p1) ?_; try simp (disch := first | omega | simp) [wrap_i64, -aseqC, -anyC]) | (refine acall (p2) ?_; try simp (disch := first | omega | simp) [wrap_i64, -aseqC, -anyC]) | (refine agives (p2) ?_; try simp (disch := first | omega | simp) [wrap_i64, -aseqC, -anyC]) | (refine acallAt (p2) ?_; try simp (disch := first | omega | simp) [wrap_i64, -aseqC, -anyC]) | (refine acall (p3) ?_; try simp (disch := first | omega | simp) [wrap_i64, -aseqC, -anyC]) | (refine agives (p3) ?_; try simp (disch := first | omega | simp) [wrap_i64, -aseqC, -anyC]) | (refine acallAt (p3) ?_; try simp (disch := first | omega | simp) [wrap_i64, -aseqC, -anyC]) | (refine acall (p4) ?_; try simp (disch := first | omega | simp) [wrap_i64, -aseqC, -anyC]) | (refine agives (p4) ?_; try simp (disch := first | omega | simp) [wrap_i64, -aseqC, -anyC]) | (refine acallAt (p4) ?_; try simp (disch := first | omega | simp) [wrap_i64, -aseqC, -anyC]) | (refine acall (p5) ?_; try simp (disch := first | omega | simp) [wrap_i64, -aseqC, -anyC]) | (refine agives (p5) ?_; try simp (disch := first | omega | simp) [wrap_i64, -aseqC, -anyC]) | (refine acallAt (p5) ?_; try simp (disch := first | omega | simp) [wrap_i64, -aseqC, -anyC]) | (refine awp_seq_k fun K hK => ?_) | (refine awp_regionC ?_) | (refine awp_anyA true (by kernel_rfl) (by kernel_rfl) ?_) | (refine awp_anyA false (by kernel_rfl) (by kernel_rfl) ?_) | (refine hK _ ?_; clear hK; clear K) | (clear hK; clear K; refine hK _ ?_; clear hK; clear K) | (clear hK; clear K; clear hK; clear K; refine hK _ ?_; clear hK; clear K) | refine awp_block ?_ | (refine awp_condC ?_; simp (disch := first | omega | simp) [wrap_i64, -aseqC, -anyC]) | (refine awp_exit ?_; try simp (disch := first | omega | simp) [wrap_i64, -aseqC, -anyC]) | (refine awp_skip ?_; try simp (disch := first | omega | simp) [wrap_i64, -aseqC, -anyC]) | (refine awp_ret ?_; try simp (disch := first | omega | simp) [wrap_i64, -aseqC, -anyC]))

end Go.Proofs.YtkhmlicikbnmdaaDoor
