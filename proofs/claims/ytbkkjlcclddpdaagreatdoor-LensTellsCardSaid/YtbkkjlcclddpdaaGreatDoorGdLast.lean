/- Walks of layer 14's reference: Default as the caller's own row, keeps, Lossless. -/
import Derived.Test.YtbkkjlcclddpdaaGreatDoorCards
import Derived.Test.YtbkkjlcclddpdaaGreatDoorTie
import Derived.SevenTiedAt
import Derived.Stop.Joined
import Derived.Lib.LaidU8
import Derived.HandedShaped
import Derived.Lay
import Derived.LaidMore
import Derived.OpenShut
import Derived.Test.YtbkkjlcclddpdaaGreatDoorProg
import Derived.KernelRfl
import Derived.Test.YtbkkjlcclddpdaaGreatDoorGd1
import Derived.Test.YtbkkjlcclddpdaaGreatDoorGd8
import Derived.Test.YtbkkjlcclddpdaaGreatDoorGd10
import Derived.Test.YtbkkjlcclddpdaaGreatDoorGd12
import Derived.Test.YtbkkjlcclddpdaaGreatDoorGd18
import Derived.Test.YtbkkjlcclddpdaaGreatDoorGd19
import Derived.Test.YtbkkjlcclddpdaaGreatDoorGd31
import Derived.Test.YtbkkjlcclddpdaaGreatDoorGd34
set_option linter.unusedSimpArgs false
set_option linter.unusedVariables false
namespace Go.Proofs.YtbkkjlcclddpdaaGreatDoor
open Go.RowKit Go.Lib
theorem qey (L : List Col) (hL : L.length ≤ 1000000) : GivesV Tryz.prog 118 [.sl (L.map Col.av)] L.length (.vec ((qp L).map Val.av) 27 3) := by
  have hlen : ((qp L).map Val.av).length = L.length := by rw [List.length_map, qbk]
  have key : GivesV Tryz.prog 118 [.sl (L.map Col.av)] ((qp L).map Val.av).length (.vec ((qp L).map Val.av) 27 3) := by
    refine qeq 1 Tryz.func118 Tryz.ntmps118 rfl rfl (by decide) rfl (fun m => Val.avs_cl _ m) fun σ n0 hcl hft => ?_
    rw [hlen]
    obtain ⟨D, hD⟩ : ∃ D, qp L = D := ⟨_, rfl⟩
    have hDl : D.length = L.length := by rw [← hD, qbk]
    have hDk : ∀ k (h : k < D.length) (h2 : k < L.length), D[k] = ⟨L[k].type, 0, ⟨#[]⟩⟩ := fun k h h2 => by simp only [← hD, qp, List.getElem_map, zeroV]
    rw [hD]
    repeat' (first | ((first | ((with_reducible refine qf (fun hg => ?_) (fun hg => ?_)) <;> (try simp only [hg]) <;> (try simp only [gS] at hg) <;> (try (first | simp only [eq_false hg, gI] | simp only [eq_true hg, gI]))) | refine Stp.m ?_) <;> (try simp (disch := first | omega | simp) [qd, -qg, -ql])) | refine sideA ?_ | refine qc fun K hK => ?_ | refine qa ?_ | refine qe ?_ | refine qb ?_ | (refine hK _ ?_; clear hK K) | clear hK K)
    refine awp_adoptR 3 27 3 (by simp) ?_
    refine awp_thawR 3 0 (et := 27) (sz := 3) (by simp) (by rfl) ?_
    refine qt hcl (fun k : Nat => [(0, .sl (L.map Col.av)), (3, .own (n0 + 1) k), (4, .int k)]) (fun k => [.dead, .vec ((D.take k).map Val.av) 27 3])
      (fun k => k ≤ L.length) (fun k => L.length - k) 0 (by simp) (by simp) fun k hk => ?_
    have htl : (D.take k).length = k := by rw [List.length_take]; omega
    obtain ⟨T, hT⟩ : ∃ T, D.take k = T := ⟨_, rfl⟩
    rw [hT] at htl ⊢
    by_cases hlt : k < L.length
    · have hts : D.take (k + 1) = T ++ [⟨L[k].type, 0, ⟨#[]⟩⟩] := by rw [← hT, List.take_succ_eq_append_getElem (by omega), hDk k (by omega) hlt]
      repeat' (first | ((first | ((with_reducible refine qf (fun hg => ?_) (fun hg => ?_)) <;> (try simp only [hg]) <;> (try simp only [gS] at hg) <;> (try (first | simp only [eq_false hg, gI] | simp only [eq_true hg, gI]))) | refine Stp.m ?_ | refine awp_regionW (id := 5) 8 (by rfl) ?_) <;> (try simp (disch := first | omega | simp) [qd, -qg, -ql, hlt, htl, List.take_succ_cons, List.drop_succ_cons])) | refine sideA ?_ | refine qc fun K hK => ?_ | refine qa ?_ | refine qe ?_ | refine qb ?_ | (refine hK _ ?_; clear hK K) | clear hK K)
      exact ⟨k + 1, by omega, by omega, by rw [← List.map_take, hts, List.map_append]; rfl, by rw [← List.map_take]; exact Val.avs_cl _ _, by simp⟩
    · obtain rfl : k = L.length := by omega
      have hTD : T = D := by rw [← hT, List.take_of_length_le (by omega)]
      rw [hTD]
      repeat' (first | ((first | ((with_reducible refine qf (fun hg => ?_) (fun hg => ?_)) <;> (try simp only [hg]) <;> (try simp only [gS] at hg) <;> (try (first | simp only [eq_false hg, gI] | simp only [eq_true hg, gI]))) | refine Stp.m ?_) <;> (try simp (disch := first | omega | simp) [qd, -qg, -ql, hlt, hTD])) | refine sideA ?_ | refine qc fun K hK => ?_ | refine qa ?_ | refine qe ?_ | refine qb ?_ | (refine hK _ ?_; clear hK K) | clear hK K)
  rwa [hlen] at key
section
variable (x : Lens) (cols : List Col) (DD : List Val) (hDD : qp cols = DD) (hc0 : 1 ≤ cols.length) (hc : cols.length ≤ 12)
include hDD hc0 hc
set_option maxRecDepth 4000 in
set_option maxHeartbeats 8000000 in
theorem rkeeps_0 (ho : ¬ x.op = 1 ∧ ¬ x.op = 3 ∧ ¬ x.op = 4 ∧ ¬ x.op = 5 ∧ ¬ x.op = 6) : Gives Tryz.prog 62 [x.av, .sl (cols.map Col.av)] (.tup [.bool true, .sl []]) := by
  have _u := And.intro hDD (And.intro hc0 hc)
  have c2 := qem cols x.a (by omega)
  have c3 := qey cols (by omega)
  obtain ⟨h1, h3, h4, h5, h6⟩ := ho
  have d1 : (x.op == 1) = false := beq_eq_false_iff_ne.2 h1
  have d3 : (x.op == 3) = false := beq_eq_false_iff_ne.2 h3
  have d4 : (x.op == 4) = false := beq_eq_false_iff_ne.2 h4
  have d5 : (x.op == 5) = false := beq_eq_false_iff_ne.2 h5
  have d6 : (x.op == 6) = false := beq_eq_false_iff_ne.2 h6
  refine qh Tryz.func62 Tryz.ntmps62 fun σ n0 hcl hft => ?_
  repeat' (first | ((first | ((with_reducible refine qf (fun hg => ?_) (fun hg => ?_)) <;> (try simp only [hg]) <;> (try simp only [gS] at hg) <;> (try (first | simp only [eq_false hg, gI] | simp only [eq_true hg, gI]))) | refine Stp.m ?_ | refine qw c3 ?_ | refine qi ?_ | refine agH ?_) <;> (try simp (disch := first | omega | simp) [qd, -qg, -ql, d1, d3, d4, d5, d6])) | refine sideA ?_ | refine qc fun K hK => ?_ | refine qa ?_ | refine qe ?_ | refine qb ?_ | (refine hK _ ?_; clear hK K) | clear hK K)
variable (i : Nat) (hi1 : findP cols x.a.toList = i) (hi : i < cols.length) (hid : i < DD.length)
include hi1 hi hid
set_option maxRecDepth 4000 in
set_option maxHeartbeats 8000000 in
theorem rkeeps_1 (ho : x.op = 1) (t0 : 0 ≤ cols[i].type) (t3 : cols[i].type < 3) (R : List Val) (hR : (if Val.eqB DD[i] x.value then DD.set i (if cols[i].type = 0 then ⟨0, 1, ⟨#[]⟩⟩ else if cols[i].type = 1 then ⟨1, 0, ⟨#[97]⟩⟩ else ⟨2, 1, ⟨#[]⟩⟩) else DD) = R) : Gives Tryz.prog 62 [x.av, .sl (cols.map Col.av)] (.tup [.bool false, .sl (R.map Val.av)]) := by
  have c2 := qem cols x.a (by omega)
  rw [hi1] at c2
  have c3 := qey cols (by omega)
  rw [hDD] at c3
  have hln : DD.length = cols.length := by rw [← hDD, qbk]
  have h1 : ((i : Int)).toNat = i := by omega
  have ta : aeq Tryz.prog .eql 27 (.agg [.int DD[i].k, .int DD[i].n, .str DD[i].s]) (.agg [.int x.value.k, .int x.value.n, .str x.value.s]) = some (Val.eqB DD[i] x.value) := Val.aeq _ _
  have hdv : DD[i].av = .agg [.int DD[i].k, .int DD[i].n, .str DD[i].s] := rfl
  have hxv : x.value.av = .agg [.int x.value.k, .int x.value.n, .str x.value.s] := rfl
  by_cases he : Val.eqB DD[i] x.value = true
  · rw [if_pos he] at hR
    have ht : cols[i].type = 0 ∨ cols[i].type = 1 ∨ cols[i].type = 2 := by omega
    rcases ht with ht | ht | ht <;> (rw [ht] at hR; simp only [reduceIte, Int.reduceEq] at hR)
    all_goals
      refine qh Tryz.func62 Tryz.ntmps62 fun σ n0 hcl hft => ?_
      repeat' (first | ((first | with_reducible refine qs ?_ | ((with_reducible refine qf (fun hg => ?_) (fun hg => ?_)) <;> (try simp only [hg]) <;> (try simp only [gS] at hg) <;> (try (first | simp only [eq_false hg, gI] | simp only [eq_true hg, gI]))) | refine Stp.m ?_ | refine qw c3 ?_ | refine qi ?_ | refine agH ?_) <;> (try simp (disch := first | omega | simp) [qd, -qg, -ql, qba ho, h1, hi, hid, hln, ta, he, ht, hdv, hxv, -Val.av_fold])) | refine sideA ?_ | refine qc fun K hK => ?_ | refine qa ?_ | refine qe ?_ | refine qb ?_ | (refine hK _ ?_; clear hK K) | clear hK K)
      refine ⟨qq 5 1 (k := cols.length) (by simp) (by rfl) (by simp; omega) ?_⟩
      repeat' (first | ((first | ((with_reducible refine qf (fun hg => ?_) (fun hg => ?_)) <;> (try simp only [hg]) <;> (try simp only [gS] at hg) <;> (try (first | simp only [eq_false hg, gI] | simp only [eq_true hg, gI]))) | refine Stp.m ?_) <;> (try simp (disch := first | omega | simp) [qd, -qg, -ql])) | refine sideA ?_ | refine qc fun K hK => ?_ | refine qa ?_ | refine qe ?_ | refine qb ?_ | (refine hK _ ?_; clear hK K) | clear hK K)
      first
      | (rw [← hR]; exact (qv DD i ⟨0, 1, ⟨#[]⟩⟩).symm)
      | (rw [← hR]; exact (qv DD i ⟨1, 0, ⟨#[97]⟩⟩).symm)
      | (rw [← hR]; exact (qv DD i ⟨2, 1, ⟨#[]⟩⟩).symm)
  · rw [if_neg he] at hR
    have he2 : Val.eqB DD[i] x.value = false := by simpa using he
    refine qh Tryz.func62 Tryz.ntmps62 fun σ n0 hcl hft => ?_
    repeat' (first | ((first | with_reducible refine qs ?_ | ((with_reducible refine qf (fun hg => ?_) (fun hg => ?_)) <;> (try simp only [hg]) <;> (try simp only [gS] at hg) <;> (try (first | simp only [eq_false hg, gI] | simp only [eq_true hg, gI]))) | refine Stp.m ?_ | refine qw c3 ?_ | refine qi ?_ | refine agH ?_) <;> (try simp (disch := first | omega | simp) [qd, -qg, -ql, qba ho, h1, hi, hid, hln, ta, he2, hdv, hxv, -Val.av_fold])) | refine sideA ?_ | refine qc fun K hK => ?_ | refine qa ?_ | refine qe ?_ | refine qb ?_ | (refine hK _ ?_; clear hK K) | clear hK K)
    refine ⟨qq 5 1 (k := cols.length) (by simp) (by rfl) (by simp; omega) ?_⟩
    repeat' (first | ((first | ((with_reducible refine qf (fun hg => ?_) (fun hg => ?_)) <;> (try simp only [hg]) <;> (try simp only [gS] at hg) <;> (try (first | simp only [eq_false hg, gI] | simp only [eq_true hg, gI]))) | refine Stp.m ?_) <;> (try simp (disch := first | omega | simp) [qd, -qg, -ql])) | refine sideA ?_ | refine qc fun K hK => ?_ | refine qa ?_ | refine qe ?_ | refine qb ?_ | (refine hK _ ?_; clear hK K) | clear hK K)
    rw [hR]
set_option maxRecDepth 4000 in
set_option maxHeartbeats 8000000 in
theorem rkeeps_3 (ho : x.op = 3 ∨ x.op = 4) (hdi : DD[i] = ⟨1, 0, ⟨#[]⟩⟩) (R : List Val) (hR : DD.set i ⟨1, 0, x.sep⟩ = R) : Gives Tryz.prog 62 [x.av, .sl (cols.map Col.av)] (.tup [.bool false, .sl (R.map Val.av)]) := by
  have c2 := qem cols x.a (by omega)
  rw [hi1] at c2
  have c3 := qey cols (by omega)
  rw [hDD] at c3
  have hln : DD.length = cols.length := by rw [← hDD, qbk]
  have h1 : ((i : Int)).toNat = i := by omega
  have hdv : DD[i].av = .agg [.int 1, .int 0, .str ⟨#[]⟩] := by rw [hdi]; rfl
  rcases ho with ho | ho
  all_goals
    refine qh Tryz.func62 Tryz.ntmps62 fun σ n0 hcl hft => ?_
    repeat' (first | ((first | with_reducible refine qs ?_ | ((with_reducible refine qf (fun hg => ?_) (fun hg => ?_)) <;> (try simp only [hg]) <;> (try simp only [gS] at hg) <;> (try (first | simp only [eq_false hg, gI] | simp only [eq_true hg, gI]))) | refine Stp.m ?_ | refine qw c3 ?_ | refine qi ?_ | refine agH ?_) <;> (try simp (disch := first | omega | simp) [qd, -qg, -ql, qba ho, h1, hi, hid, hln, hdv])) | refine sideA ?_ | refine qc fun K hK => ?_ | refine qa ?_ | refine qe ?_ | refine qb ?_ | (refine hK _ ?_; clear hK K) | clear hK K)
    refine ⟨qq 5 1 (k := cols.length) (by simp) (by rfl) (by simp; omega) ?_⟩
    repeat' (first | ((first | ((with_reducible refine qf (fun hg => ?_) (fun hg => ?_)) <;> (try simp only [hg]) <;> (try simp only [gS] at hg) <;> (try (first | simp only [eq_false hg, gI] | simp only [eq_true hg, gI]))) | refine Stp.m ?_) <;> (try simp (disch := first | omega | simp) [qd, -qg, -ql])) | refine sideA ?_ | refine qc fun K hK => ?_ | refine qa ?_ | refine qe ?_ | refine qb ?_ | (refine hK _ ?_; clear hK K) | clear hK K)
    rw [← hR]; exact (qv DD i ⟨1, 0, x.sep⟩).symm
set_option maxRecDepth 4000 in
set_option maxHeartbeats 8000000 in
theorem rkeeps_5 (ho : x.op = 5) (hdi : DD[i] = ⟨cols[i].type, 0, ⟨#[]⟩⟩) (R : Option (List Val)) (hR : (if cols[i].type = 2 ∨ cols[i].type = 0 ∧ x.n = 1 then none else some (if cols[i].type = 0 then DD.set i ⟨0, 2, ⟨#[]⟩⟩ else DD)) = R) : Gives Tryz.prog 62 [x.av, .sl (cols.map Col.av)] (.tup [.bool R.isNone, chAv R]) := by
  have c2 := qem cols x.a (by omega)
  rw [hi1] at c2
  have c3 := qey cols (by omega)
  rw [hDD] at c3
  have hln : DD.length = cols.length := by rw [← hDD, qbk]
  have h1 : ((i : Int)).toNat = i := by omega
  have hdv : DD[i].av = .agg [.int cols[i].type, .int 0, .str ⟨#[]⟩] := by rw [hdi]; rfl
  by_cases h2 : cols[i].type = 2
  · rw [if_pos (.inl h2)] at hR
    subst hR
    have b2 : (cols[i].type == 2) = true := by simp [h2]
    refine qh Tryz.func62 Tryz.ntmps62 fun σ n0 hcl hft => ?_
    repeat' (first | ((first | ((with_reducible refine qf (fun hg => ?_) (fun hg => ?_)) <;> (try simp only [hg]) <;> (try simp only [gS] at hg) <;> (try (first | simp only [eq_false hg, gI] | simp only [eq_true hg, gI]))) | refine Stp.m ?_ | refine qw c3 ?_ | refine qi ?_ | refine agH ?_) <;> (try simp (disch := first | omega | simp) [qd, -qg, -ql, qba ho, h1, hi, hid, hln, b2, chAv])) | refine sideA ?_ | refine qc fun K hK => ?_ | refine qa ?_ | refine qe ?_ | refine qb ?_ | (refine hK _ ?_; clear hK K) | clear hK K)
  · have b2 : (cols[i].type == 2) = false := by simp [h2]
    by_cases h0 : cols[i].type = 0
    · have b0 : (cols[i].type == 0) = true := by simp [h0]
      by_cases hn : x.n = 1
      · rw [if_pos (.inr ⟨h0, hn⟩)] at hR
        subst hR
        have bn : (x.n == 1) = true := by simp [hn]
        refine qh Tryz.func62 Tryz.ntmps62 fun σ n0 hcl hft => ?_
        repeat' (first | ((first | ((with_reducible refine qf (fun hg => ?_) (fun hg => ?_)) <;> (try simp only [hg]) <;> (try simp only [gS] at hg) <;> (try (first | simp only [eq_false hg, gI] | simp only [eq_true hg, gI]))) | refine Stp.m ?_ | refine qw c3 ?_ | refine qi ?_ | refine agH ?_) <;> (try simp (disch := first | omega | simp) [qd, -qg, -ql, qba ho, h1, hi, hid, hln, b2, b0, bn, chAv])) | refine sideA ?_ | refine qc fun K hK => ?_ | refine qa ?_ | refine qe ?_ | refine qb ?_ | (refine hK _ ?_; clear hK K) | clear hK K)
      · have bn : (x.n == 1) = false := by simp [hn]
        rw [if_neg (by rintro (h | h); exact h2 h; exact hn h.2), if_pos h0] at hR
        subst hR
        rw [h0] at hdv
        refine qh Tryz.func62 Tryz.ntmps62 fun σ n0 hcl hft => ?_
        repeat' (first | ((first | with_reducible refine qs ?_ | ((with_reducible refine qf (fun hg => ?_) (fun hg => ?_)) <;> (try simp only [hg]) <;> (try simp only [gS] at hg) <;> (try (first | simp only [eq_false hg, gI] | simp only [eq_true hg, gI]))) | refine Stp.m ?_ | refine qw c3 ?_ | refine qi ?_ | refine agH ?_) <;> (try simp (disch := first | omega | simp) [qd, -qg, -ql, qba ho, h1, hi, hid, hln, b2, b0, bn, hdv])) | refine sideA ?_ | refine qc fun K hK => ?_ | refine qa ?_ | refine qe ?_ | refine qb ?_ | (refine hK _ ?_; clear hK K) | clear hK K)
        refine ⟨qq 5 1 (k := cols.length) (by simp) (by rfl) (by simp; omega) ?_⟩
        repeat' (first | ((first | ((with_reducible refine qf (fun hg => ?_) (fun hg => ?_)) <;> (try simp only [hg]) <;> (try simp only [gS] at hg) <;> (try (first | simp only [eq_false hg, gI] | simp only [eq_true hg, gI]))) | refine Stp.m ?_) <;> (try simp (disch := first | omega | simp) [qd, -qg, -ql])) | refine sideA ?_ | refine qc fun K hK => ?_ | refine qa ?_ | refine qe ?_ | refine qb ?_ | (refine hK _ ?_; clear hK K) | clear hK K)
        first | exact congrArg AV.sl (qv DD i ⟨0, 2, ⟨#[]⟩⟩) | exact congrArg AV.sl (qv DD i ⟨0, 2, ⟨#[]⟩⟩).symm | exact qv DD i ⟨0, 2, ⟨#[]⟩⟩ | exact (qv DD i ⟨0, 2, ⟨#[]⟩⟩).symm
    · have b0 : (cols[i].type == 0) = false := by simp [h0]
      rw [if_neg (by rintro (h | h); exact h2 h; exact h0 h.1), if_neg h0] at hR
      subst hR
      refine qh Tryz.func62 Tryz.ntmps62 fun σ n0 hcl hft => ?_
      repeat' (first | ((first | with_reducible refine qs ?_ | ((with_reducible refine qf (fun hg => ?_) (fun hg => ?_)) <;> (try simp only [hg]) <;> (try simp only [gS] at hg) <;> (try (first | simp only [eq_false hg, gI] | simp only [eq_true hg, gI]))) | refine Stp.m ?_ | refine qw c3 ?_ | refine qi ?_ | refine agH ?_) <;> (try simp (disch := first | omega | simp) [qd, -qg, -ql, qba ho, h1, hi, hid, hln, b2, b0])) | refine sideA ?_ | refine qc fun K hK => ?_ | refine qa ?_ | refine qe ?_ | refine qb ?_ | (refine hK _ ?_; clear hK K) | clear hK K)
      refine ⟨qq 5 1 (k := cols.length) (by simp) (by rfl) (by simp; omega) ?_⟩
      repeat' (first | ((first | ((with_reducible refine qf (fun hg => ?_) (fun hg => ?_)) <;> (try simp only [hg]) <;> (try simp only [gS] at hg) <;> (try (first | simp only [eq_false hg, gI] | simp only [eq_true hg, gI]))) | refine Stp.m ?_) <;> (try simp (disch := first | omega | simp) [qd, -qg, -ql, chAv])) | refine sideA ?_ | refine qc fun K hK => ?_ | refine qa ?_ | refine qe ?_ | refine qb ?_ | (refine hK _ ?_; clear hK K) | clear hK K)
set_option maxRecDepth 4000 in
set_option maxHeartbeats 8000000 in
theorem rkeeps_6 (ho : x.op = 6) (hdi : DD[i] = ⟨0, 0, ⟨#[]⟩⟩) (R : Option (List Val)) (hR : (if x.n = 1 ∨ x.n = -1 then none else some (DD.set i ⟨0, 9223372036854775807, ⟨#[]⟩⟩)) = R) : Gives Tryz.prog 62 [x.av, .sl (cols.map Col.av)] (.tup [.bool R.isNone, chAv R]) := by
  have c2 := qem cols x.a (by omega)
  rw [hi1] at c2
  have c3 := qey cols (by omega)
  rw [hDD] at c3
  have hln : DD.length = cols.length := by rw [← hDD, qbk]
  have h1 : ((i : Int)).toNat = i := by omega
  have hdv : DD[i].av = .agg [.int 0, .int 0, .str ⟨#[]⟩] := by rw [hdi]; rfl
  by_cases hn1 : x.n = 1
  · have bn : (x.n == 1) = true := by simp [hn1]
    rw [if_pos (.inl hn1)] at hR
    subst hR
    refine qh Tryz.func62 Tryz.ntmps62 fun σ n0 hcl hft => ?_
    repeat' (first | ((first | ((with_reducible refine qf (fun hg => ?_) (fun hg => ?_)) <;> (try simp only [hg]) <;> (try simp only [gS] at hg) <;> (try (first | simp only [eq_false hg, gI] | simp only [eq_true hg, gI]))) | refine Stp.m ?_ | refine qw c3 ?_ | refine qi ?_ | refine agH ?_) <;> (try simp (disch := first | omega | simp) [qd, -qg, -ql, qba ho, h1, hi, hid, hln, bn, chAv])) | refine sideA ?_ | refine qc fun K hK => ?_ | refine qa ?_ | refine qe ?_ | refine qb ?_ | (refine hK _ ?_; clear hK K) | clear hK K)
  · have bn : (x.n == 1) = false := by simp [hn1]
    by_cases hn2 : x.n = -1
    · have bm : (x.n == -1) = true := by simp [hn2]
      rw [if_pos (.inr hn2)] at hR
      subst hR
      refine qh Tryz.func62 Tryz.ntmps62 fun σ n0 hcl hft => ?_
      repeat' (first | ((first | ((with_reducible refine qf (fun hg => ?_) (fun hg => ?_)) <;> (try simp only [hg]) <;> (try simp only [gS] at hg) <;> (try (first | simp only [eq_false hg, gI] | simp only [eq_true hg, gI]))) | refine Stp.m ?_ | refine qw c3 ?_ | refine qi ?_ | refine agH ?_) <;> (try simp (disch := first | omega | simp) [qd, -qg, -ql, qba ho, h1, hi, hid, hln, bn, bm, chAv])) | refine sideA ?_ | refine qc fun K hK => ?_ | refine qa ?_ | refine qe ?_ | refine qb ?_ | (refine hK _ ?_; clear hK K) | clear hK K)
    · have bm : (x.n == -1) = false := by simp [hn2]
      rw [if_neg (by rintro (h | h); exact hn1 h; exact hn2 h)] at hR
      subst hR
      refine qh Tryz.func62 Tryz.ntmps62 fun σ n0 hcl hft => ?_
      repeat' (first | ((first | with_reducible refine qs ?_ | ((with_reducible refine qf (fun hg => ?_) (fun hg => ?_)) <;> (try simp only [hg]) <;> (try simp only [gS] at hg) <;> (try (first | simp only [eq_false hg, gI] | simp only [eq_true hg, gI]))) | refine Stp.m ?_ | refine qw c3 ?_ | refine qi ?_ | refine agH ?_) <;> (try simp (disch := first | omega | simp) [qd, -qg, -ql, qba ho, h1, hi, hid, hln, bn, bm, hdv])) | refine sideA ?_ | refine qc fun K hK => ?_ | refine qa ?_ | refine qe ?_ | refine qb ?_ | (refine hK _ ?_; clear hK K) | clear hK K)
      refine ⟨qq 5 1 (k := cols.length) (by simp) (by rfl) (by simp; omega) ?_⟩
      repeat' (first | ((first | ((with_reducible refine qf (fun hg => ?_) (fun hg => ?_)) <;> (try simp only [hg]) <;> (try simp only [gS] at hg) <;> (try (first | simp only [eq_false hg, gI] | simp only [eq_true hg, gI]))) | refine Stp.m ?_) <;> (try simp (disch := first | omega | simp) [qd, -qg, -ql])) | refine sideA ?_ | refine qc fun K hK => ?_ | refine qa ?_ | refine qe ?_ | refine qb ?_ | (refine hK _ ?_; clear hK K) | clear hK K)
      first | exact congrArg AV.sl (qv DD i ⟨0, 9223372036854775807, ⟨#[]⟩⟩) | exact congrArg AV.sl (qv DD i ⟨0, 9223372036854775807, ⟨#[]⟩⟩).symm | exact qv DD i ⟨0, 9223372036854775807, ⟨#[]⟩⟩ | exact (qv DD i ⟨0, 9223372036854775807, ⟨#[]⟩⟩).symm
end
end Go.Proofs.YtbkkjlcclddpdaaGreatDoor

/- Walks of layer 14's reference: keeps, Lossless. -/
namespace Go.Proofs.YtbkkjlcclddpdaaGreatDoor
open Go.RowKit Go.Lib
theorem default_at (L : List Col) {i : Nat} (h : i < (qp L).length) (h2 : i < L.length) : (qp L)[i] = ⟨L[i].type, 0, ⟨#[]⟩⟩ := by simp only [qp, List.getElem_map, zeroV]
theorem rkeeps_g {x : Lens} {L : List Col} (h0 : 1 ≤ L.length) (h1 : L.length ≤ 12) (h : qeh x L) (R : Option (List Val)) (hR : qu x L = R) : Gives Tryz.prog 62 [x.av, .sl (L.map Col.av)] (.tup [.bool R.isNone, chAv R]) := by
  have hd := qbk L
  cases h
  case add ho ha hn hl hR2 hu hv =>
    have e : qu x L = none := by unfold qu; simp only [ho]; rfl
    rw [← hR, e]
    exact rkeeps_0 x L _ rfl h0 h1 (by omega)
  case drop i hi ho h hk hl hR2 hv =>
    have hid : i < (qp L).length := by omega
    have hv := rightV_k hv
    have e : qu x L = some (if Val.eqB (qp L)[i] x.value then (qp L).set i (if L[i].type = 0 then ⟨0, 1, ⟨#[]⟩⟩ else if L[i].type = 1 then ⟨1, 0, ⟨#[97]⟩⟩ else ⟨2, 1, ⟨#[]⟩⟩) else qp L) := by
      unfold qu
      simp only [ho, if_pos, h.find, Int.toNat_natCast, qbi hid, qbu hi]
    rw [← hR, e]
    exact rkeeps_1 x L (qp L) rfl h0 h1 i h.find hi hid ho (by omega) (by omega) _ rfl
  case rename i hi ho h hb hb2 hR2 =>
    have e : qu x L = none := by unfold qu; simp only [ho]; rfl
    rw [← hR, e]
    exact rkeeps_0 x L _ rfl h0 h1 (by omega)
  case split i hi ho h hk hb hc hs hbc hb2 hc2 hl hR2 =>
    have e : qu x L = some ((qp L).set i ⟨1, 0, x.sep⟩) := by unfold qu; simp only [ho, h.find, Int.toNat_natCast]; rfl
    rw [← hR, e]
    exact rkeeps_3 x L (qp L) rfl h0 h1 i h.find hi (by omega) (.inl ho) (by rw [default_at L (by omega) hi, hk]) _ rfl
  case join i k hi hk ho h hkf hkn hik ti tk hc hs hc2 hR2 =>
    have e : qu x L = some ((qp L).set i ⟨1, 0, x.sep⟩) := by unfold qu; simp only [ho, h.find, Int.toNat_natCast]; rfl
    rw [← hR, e]
    exact rkeeps_3 x L (qp L) rfl h0 h1 i h.find hi (by omega) (.inr ho) (by rw [default_at L (by omega) hi, ti]) _ rfl
  case retype i hi ho h hn0 hn3 hv hk ht hR2 =>
    refine rkeeps_5 x L (qp L) rfl h0 h1 i h.find hi (by omega) ho (default_at L (by omega) hi) R ?_
    rw [← hR]
    unfold qu
    simp only [ho, h.find, Int.toNat_natCast, qbu hi]; rfl
  case scale i hi ho h ht hn hu hR2 =>
    refine rkeeps_6 x L (qp L) rfl h0 h1 i h.find hi (by omega) ho (by rw [default_at L (by omega) hi, ht]) R ?_
    rw [← hR]
    unfold qu
    simp only [ho, h.find, Int.toNat_natCast]; rfl
set_option maxHeartbeats 4000000 in
theorem rlossless_g {l : List Lens} {cols : List Col} {ss : List (List Col)} (hc : Chain l ss) (hc0 : shAt ss 0 = cols) (hS : qdp cols) (hl : ∀ x ∈ l, qdv x) (hL : l.length ≤ 60) (R : Bool × Int × List Val) (hR : lostP l ss 0 = R) :
    Gives Tryz.prog 28 [.sl (l.map Lens.av), .sl (cols.map Col.av)] (.tup [.bool R.1, .int R.2.1, .sl (R.2.2.map Val.av)]) := by
  have hsr := qdk hc (by rw [hc0]; exact hS)
  have hsl := hc.len
  refine qh Tryz.func28 Tryz.ntmps28 fun σ n0 hcl hft => ?_
  repeat' (first | ((first | ((with_reducible refine qf (fun hg => ?_) (fun hg => ?_)) <;> (try simp only [hg]) <;> (try simp only [gS] at hg) <;> (try (first | simp only [eq_false hg, gI] | simp only [eq_true hg, gI]))) | refine Stp.m ?_) <;> (try simp (disch := first | omega | simp) [qd, -qg, -ql])) | refine sideA ?_ | refine qc fun K hK => ?_ | refine qa ?_ | refine qe ?_ | refine qb ?_ | (refine hK _ ?_; clear hK K) | clear hK K)
  refine qt hcl (fun k : Nat => [(0, .sl (l.map Lens.av)), (1, .sl ((shAt ss k).map Col.av)), (7, .int k)]) (fun k => [])
    (fun k => k ≤ l.length ∧ lostP (l.drop k) (ss.drop k) k = R) (fun k => l.length - k) 0 ⟨by omega, hR⟩ (by simp [hc0]) fun k ⟨hkl, hk⟩ => ?_
  by_cases hlt : k < l.length
  · obtain ⟨g3, g4⟩ := hc.ok k hlt
    obtain ⟨g5, g6⟩ := hc.sz k hkl
    rw [lost_step hlt] at hk
    obtain ⟨C, hC⟩ : ∃ C, qu l[k] (shAt ss k) = C := ⟨_, rfl⟩
    have c3 := rkeeps_g g5 g6 g3 C hC
    have c4 := rone_g l[k] (shAt ss k) (hl _ (List.getElem_mem hlt)).l (hsr k hkl)
    rw [g4] at c4
    rw [hC] at hk
    cases C with
    | none =>
      have hk' : lostP (l.drop (k + 1)) (ss.drop (k + 1)) (k + 1) = R := hk
      repeat' (first | ((first | ((with_reducible refine qf (fun hg => ?_) (fun hg => ?_)) <;> (try simp only [hg]) <;> (try simp only [gS] at hg) <;> (try (first | simp only [eq_false hg, gI] | simp only [eq_true hg, gI]))) | refine Stp.m ?_ | refine qi ?_ | refine agH ?_) <;> (try simp (disch := first | omega | simp) [qd, -qg, -ql, hlt, chAv])) | refine sideA ?_ | refine qc fun K hK => ?_ | refine qa ?_ | refine qe ?_ | refine qb ?_ | (refine hK _ ?_; clear hK K) | clear hK K)
      exact ⟨k + 1, ⟨by omega, hk'⟩, by omega, by simp⟩
    | some row =>
      have hk' : (false, (k : Int), row) = R := hk
      subst hk'
      repeat' (first | ((first | ((with_reducible refine qf (fun hg => ?_) (fun hg => ?_)) <;> (try simp only [hg]) <;> (try simp only [gS] at hg) <;> (try (first | simp only [eq_false hg, gI] | simp only [eq_true hg, gI]))) | refine Stp.m ?_ | refine qi ?_ | refine agH ?_) <;> (try simp (disch := first | omega | simp) [qd, -qg, -ql, hlt, chAv])) | refine sideA ?_ | refine qc fun K hK => ?_ | refine qa ?_ | refine qe ?_ | refine qb ?_ | (refine hK _ ?_; clear hK K) | clear hK K)
  · obtain rfl : k = l.length := by omega
    rw [List.drop_length, lostP] at hk
    subst hk
    repeat' (first | ((first | ((with_reducible refine qf (fun hg => ?_) (fun hg => ?_)) <;> (try simp only [hg]) <;> (try simp only [gS] at hg) <;> (try (first | simp only [eq_false hg, gI] | simp only [eq_true hg, gI]))) | refine Stp.m ?_) <;> (try simp (disch := first | omega | simp) [qd, -qg, -ql, hlt])) | refine sideA ?_ | refine qc fun K hK => ?_ | refine qa ?_ | refine qe ?_ | refine qb ?_ | (refine hK _ ?_; clear hK K) | clear hK K)
end Go.Proofs.YtbkkjlcclddpdaaGreatDoor

/- Walk of the law LensFits. -/
namespace Go.Proofs.YtbkkjlcclddpdaaGreatDoor
open Go.RowKit Go.Lib
theorem sameC_self (L : List Col) : sameC L L = true := (sameC_iff L L).2 rfl
theorem smallX_of {l : List Lens} (h : ∀ x ∈ l, qbq x ∧ x.value.s.size ≤ 210) (hi : ∀ x ∈ l, i64 x.value.n) : ∀ x ∈ l, qdv x := fun x hx => ⟨(h x hx).1, hi x hx, by have := (h x hx).2; omega⟩
end Go.Proofs.YtbkkjlcclddpdaaGreatDoor

/- Walk of the law LensTells. -/
namespace Go.Proofs.YtbkkjlcclddpdaaGreatDoor
open Go.RowKit Go.Lib
theorem lost_len {l : List Lens} {ss : List (List Col)} (hsz : ∀ s ∈ ss, s.length ≤ 12) : ∀ j, (lostP l ss j).2.2.length ≤ 12 := by
  induction l generalizing ss with
  | nil => intro j; show 0 ≤ 12; omega
  | cons x l ih =>
    intro j
    rw [lostP]
    have hh : (ss.headD []).length ≤ 12 := by
      cases ss with
      | nil => show 0 ≤ 12; omega
      | cons a b => exact hsz a (by simp)
    have hch : ∀ r, qu x (ss.headD []) = some r → r.length ≤ 12 := fun r hr => by
      have hd := qbk (ss.headD [])
      unfold qu at hr
      dsimp only at hr
      repeat' split at hr
      all_goals first
        | (cases hr; done)
        | (cases hr; first | (rw [List.length_set]; omega) | omega | (split <;> first | (rw [List.length_set]; omega) | omega))
    split
    · rename_i r hr; exact hch r hr
    · exact ih (fun s hs => hsz s (List.mem_of_mem_tail hs)) (j + 1)
set_option maxRecDepth 4000 in
set_option maxHeartbeats 8000000 in
theorem lensTells_g (l : List Lens) (cols : List Col) (row : List Val) (hlv : ∀ x ∈ l, i64 x.value.n) (hrv : ∀ v ∈ row, i64 v.n) : Gives Tryz.prog 4 [.sl (l.map Lens.av), .sl (cols.map Col.av), .sl (row.map Val.av)] (.bool true) := by
  have c0 := small14_g
  have c1 := few_g14 l
  cases hf : fewL l with
  | false =>
    rw [hf] at c1
    refine qh Tryz.func4 Tryz.ntmps4 fun σ n0 hcl hft => ?_
    repeat' (first | ((first | ((with_reducible refine qf (fun hg => ?_) (fun hg => ?_)) <;> (try simp only [hg]) <;> (try simp only [gS] at hg) <;> (try (first | simp only [eq_false hg, gI] | simp only [eq_true hg, gI]))) | refine Stp.m ?_ | refine qi ?_ | refine agH ?_) <;> (try simp (disch := first | omega | simp) [qd, -qg, -ql])) | refine sideA ?_ | refine qc fun K hK => ?_ | refine qa ?_ | refine qe ?_ | refine qb ?_ | (refine hK _ ?_; clear hK K) | clear hK K)
  | true =>
    rw [hf] at c1
    obtain ⟨hl20, hsm⟩ := few_small hf
    by_cases h12 : cols.length ≤ 12
    · have h12' : ¬ (12 : Int) < cols.length := by omega
      have c2 := right_gU cols (by omega)
      cases hr : rightP cols with
      | false =>
        rw [hr] at c2
        refine qh Tryz.func4 Tryz.ntmps4 fun σ n0 hcl hft => ?_
        repeat' (first | ((first | ((with_reducible refine qf (fun hg => ?_) (fun hg => ?_)) <;> (try simp only [hg]) <;> (try simp only [gS] at hg) <;> (try (first | simp only [eq_false hg, gI] | simp only [eq_true hg, gI]))) | refine Stp.m ?_ | refine qi ?_ | refine agH ?_) <;> (try simp (disch := first | omega | simp) [qd, -qg, -ql, h12'])) | refine sideA ?_ | refine qc fun K hK => ?_ | refine qa ?_ | refine qe ?_ | refine qb ?_ | (refine hK _ ?_; clear hK K) | clear hK K)
      | true =>
        rw [hr] at c2
        have hS := right_iff.1 hr
        have h0 := hS.l0
        have hsx := smallX_of hsm hlv
        have c3 := to_g l cols (fun x hx => (hsm x hx).1) (by omega) h0 h12
        have c4 := rto_g l cols (fun x hx => (hsm x hx).1) (by omega) hS
        obtain ⟨T, hT⟩ : ∃ T, toP l cols = T := ⟨_, rfl⟩
        rw [hT] at c3 c4
        have c5 := rsame_g13 T.1 T.1
        rw [sameC_self] at c5
        have c6 := fits_gU row cols (by omega)
        refine qh Tryz.func4 Tryz.ntmps4 fun σ n0 hcl hft => ?_
        repeat' (first | ((first | ((with_reducible refine qf (fun hg => ?_) (fun hg => ?_)) <;> (try simp only [hg]) <;> (try simp only [gS] at hg) <;> (try (first | simp only [eq_false hg, gI] | simp only [eq_true hg, gI]))) | refine Stp.m ?_ | refine qi ?_ | refine agH ?_) <;> (try simp (disch := first | omega | simp) [qd, -qg, -ql, h12'])) | refine sideA ?_ | refine qc fun K hK => ?_ | refine qa ?_ | refine qe ?_ | refine qb ?_ | (refine hK _ ?_; clear hK K) | clear hK K)
        refine qt hcl (fun k : Nat => [(0, .sl (l.map Lens.av)), (1, .sl (cols.map Col.av)), (2, .sl (row.map Val.av)), (7, .bool true), (8, .int k)]) (fun _ => [])
          (fun k => k ≤ l.length) (fun k => l.length - k) 0 (Nat.zero_le _) (by simp) fun k hk => ?_
        by_cases hlt : k < l.length
        · have hxk := (hsm _ (List.getElem_mem hlt)).1
          have d1 := one_g l[k] cols hxk h0 (by omega)
          have d2 := rone_g l[k] cols hxk hS
          have hol : (oneP l[k] cols).1.length ≤ 1000000 := by
            by_cases he : (oneP l[k] cols).2 = 0
            · have := (one_len h0 h12 he).2; omega
            · have : (oneP l[k] cols).1 = [] := by
                unfold oneP at he ⊢
                repeat' split
                all_goals first | rfl | (exfalso; simp_all; done)
              rw [this]; show 0 ≤ 1000000; omega
          have d3 := rsame_g13 (oneP l[k] cols).1 (oneP l[k] cols).1 hol
          rw [sameC_self] at d3
          have d4 := qes l[k] hxk
          have d5 := rlright_g l[k] hxk
          generalize oneP l[k] cols = Z at *
          obtain ⟨Z1, Z2⟩ := Z
          dsimp only at d1 d2 d3
          repeat' (first | ((first | ((with_reducible refine qf (fun hg => ?_) (fun hg => ?_)) <;> (try simp only [hg]) <;> (try simp only [gS] at hg) <;> (try (first | simp only [eq_false hg, gI] | simp only [eq_true hg, gI]))) | refine Stp.m ?_ | refine qi ?_ | refine agH ?_) <;> (try simp (disch := first | omega | simp) [qd, -qg, -ql, hlt])) | refine sideA ?_ | refine qc fun K hK => ?_ | refine qa ?_ | refine qe ?_ | refine qb ?_ | (refine hK _ ?_; clear hK K) | clear hK K)
          exact ⟨k + 1, by omega, by omega, by simp⟩
        · obtain rfl : k = l.length := by omega
          by_cases he : T.2 = 0
          · have hto : (toP l cols).2 = 0 := by rw [hT]; exact he
            have hss0 : (qbe l cols).2 = 0 := by
              unfold toP at hto
              unfold qbe
              rw [if_neg (by omega)] at hto ⊢
              by_cases hz : (qn l cols).2 = 0
              · exact hz
              · rw [if_pos hz] at hto; exact hto
            obtain ⟨ss, hss⟩ : ∃ ss, qbe l cols = (ss, 0) := ⟨(qbe l cols).1, by rw [← hss0]⟩
            have hsp : qn l cols = (ss, 0) := by rwa [qbe, if_neg (by omega)] at hss
            obtain ⟨hch, hc0⟩ := chain_of hsp h0 h12
            have htl : toP l cols = (shAt ss l.length, 0) := by
              have := take_shapes hch hc0 hsp hS hsx (by omega) (k := l.length) (Nat.le_refl _)
              rwa [List.take_length] at this
            have hT1 : T.1 = shAt ss l.length := by rw [← hT, htl]
            have hT1l : T.1.length ≤ 12 := by rw [hT1]; exact (hch.sz _ (Nat.le_refl _)).2
            have c7 := c5 (by omega)
            clear c5
            obtain ⟨T1, T2⟩ := T
            dsimp only at he c3 c4 c7
            subst he
            cases hft' : fitsC row cols with
            | false =>
              rw [hft'] at c6
              repeat' (first | ((first | ((with_reducible refine qf (fun hg => ?_) (fun hg => ?_)) <;> (try simp only [hg]) <;> (try simp only [gS] at hg) <;> (try (first | simp only [eq_false hg, gI] | simp only [eq_true hg, gI]))) | refine Stp.m ?_ | refine qi ?_ | refine agH ?_) <;> (try simp (disch := first | omega | simp) [qd, -qg, -ql, hlt])) | refine sideA ?_ | refine qc fun K hK => ?_ | refine qa ?_ | refine qe ?_ | refine qb ?_ | (refine hK _ ?_; clear hK K) | clear hK K)
            | true =>
              rw [hft'] at c6
              have hfit := (fits_iff.1 hft').1
              have hsr := smallR_fit hfit hrv
              have hlen := hfit.len
              obtain ⟨F, hF⟩ : ∃ F, qfg l ss row = F := ⟨_, rfl⟩
              have hFk := fwdK_ok hch hsx hsr (by rw [hc0]; exact hlen) l.length (Nat.le_refl _)
              rw [fwdK_all, hF] at hFk
              have hFl : F.length ≤ 12 := by have := (hch.sz l.length (Nat.le_refl _)).2; omega
              have hFf : FitOk F (shAt ss l.length) := by rw [← hF, ← fwdK_all]; exact chain_fwd hch (by rw [hc0]; exact hS) (by rw [hc0]; exact hfit) _ (Nat.le_refl _)
              have e1 := forward_g hss hsx h0 h12 hsr hlen F hF
              have e2 := rforward_g hch hc0 hsp hS hsx (by omega) hfit hsr F hF
              have e3 := rsame03_g F (by omega)
              obtain ⟨B, hB⟩ : ∃ B, bckAll l ss F = B := ⟨_, rfl⟩
              have e4 := back_g hss hsx h0 h12 hFk.2 hFk.1 B hB
              have e5 := rback_k hch hc0 hsp hS hsx (by omega) hFf hFk.2 l.length (Nat.le_refl _)
              have hb0 : bckK l ss F 0 = B := by rw [← hB]; rfl
              rw [List.take_length, bckK_end, hb0] at e5
              have hBl : B.length ≤ 12 := by
                have := (bckK_ok hch hsx hFk.2 hFk.1 l.length 0 (by omega)).1
                rw [hb0, hc0] at this; omega
              have e6 := rsame03_g B (by omega)
              obtain ⟨Q, hQ⟩ : ∃ Q, lostP l ss 0 = Q := ⟨_, rfl⟩
              have e7 := lossless_g hss hsx h0 h12 Q hQ
              have e8 := rlossless_g hch hc0 hS hsx (by omega) Q hQ
              have hQl : Q.2.2.length ≤ 12 := by
                rw [← hQ]
                exact lost_len (fun s hs => by
                  obtain ⟨j, hj, rfl⟩ := List.mem_iff_getElem.1 hs
                  have := (hch.sz j (by have := hch.len; omega)).2
                  rwa [shAt_eq hj] at this) 0
              have e9 := rsame03_g Q.2.2 (by omega)
              obtain ⟨Q1, Q2, Q3⟩ := Q
              dsimp only at e7 e8 e9
              repeat' (first | ((first | ((with_reducible refine qf (fun hg => ?_) (fun hg => ?_)) <;> (try simp only [hg]) <;> (try simp only [gS] at hg) <;> (try (first | simp only [eq_false hg, gI] | simp only [eq_true hg, gI]))) | refine Stp.m ?_ | refine qi ?_ | refine agH ?_) <;> (try simp (disch := first | omega | simp) [qd, -qg, -ql, hlt])) | refine sideA ?_ | refine qc fun K hK => ?_ | refine qa ?_ | refine qe ?_ | refine qb ?_ | (refine hK _ ?_; clear hK K) | clear hK K)
          · have he' : (T.2 != 0) = true := by simpa using he
            have hTn : T.1 = [] := by
              rw [← hT] at he ⊢
              unfold toP at he ⊢
              repeat' split
              all_goals first | rfl | (exfalso; simp_all; done)
            have c7 := c5 (by rw [hTn]; show 0 ≤ 1000000; omega)
            repeat' (first | ((first | ((with_reducible refine qf (fun hg => ?_) (fun hg => ?_)) <;> (try simp only [hg]) <;> (try simp only [gS] at hg) <;> (try (first | simp only [eq_false hg, gI] | simp only [eq_true hg, gI]))) | refine Stp.m ?_ | refine qi ?_ | refine agH ?_) <;> (try simp (disch := first | omega | simp) [qd, -qg, -ql, hlt, he'])) | refine sideA ?_ | refine qc fun K hK => ?_ | refine qa ?_ | refine qe ?_ | refine qb ?_ | (refine hK _ ?_; clear hK K) | clear hK K)
    · have h12' : (12 : Int) < cols.length := by omega
      refine qh Tryz.func4 Tryz.ntmps4 fun σ n0 hcl hft => ?_
      repeat' (first | ((first | ((with_reducible refine qf (fun hg => ?_) (fun hg => ?_)) <;> (try simp only [hg]) <;> (try simp only [gS] at hg) <;> (try (first | simp only [eq_false hg, gI] | simp only [eq_true hg, gI]))) | refine Stp.m ?_ | refine qi ?_ | refine agH ?_) <;> (try simp (disch := first | omega | simp) [qd, -qg, -ql, h12'])) | refine sideA ?_ | refine qc fun K hK => ?_ | refine qa ?_ | refine qe ?_ | refine qb ?_ | (refine hK _ ?_; clear hK K) | clear hK K)
end Go.Proofs.YtbkkjlcclddpdaaGreatDoor

/- Lifting a law: the arguments' readings, and what the listed variables hold. -/
namespace Go.Proofs.YtbkkjlcclddpdaaGreatDoor
open Go.ChangeShapes Go.WideShapes Go.ChangeAt Go.RowKit Go.Lib
section
variable {H : Type} {enc : TypeId × Value → H}
theorem returnsInHanded_three {a : Assume} {C : Checked} {os : Os} {f : FuncId} {fn : Func} {s : ChangeSpec} {conds : List PathCond} {apart fresh handsOn again : Bool} {X : World → Array Value → Prop}
    (own : ownKnob C.prog.godebug = none) (started : os.Started) (noInit : C.prog.inits.idxOf? f = none) (hfn : C.prog.funcs[f]? = some fn)
    (witness : ∃ (w : World) (tape : Tape) (i : Input), w.os = os ∧ (w.forCall tape i).Shaped C.prog ∧ i.vars = [] ∧ Input.okWide C.prog (w.forCall tape i) .any w.heap.size f i ∧
      ((s.pre enc C.prog fn conds apart (w.forCall tape i).memory i.args ∧ X (w.forCall tape i).memory i.args) ∧ sizedMet enc C.prog fn (OpenSpec.ofChange s) apart (w.forCall tape i).memory i.args) ∧ a.holds C.prog (lone (Frame.enter C.prog f i.args .normal) [] (w.forCall tape i)))
    (hXh : ∀ (w w' : World) (us : Array Value), w.heap = w'.heap → X w us → X w' us)
    (contract : ∀ (W : World) (base : Nat) (args : Array Value) (ds gs : List (DataW H)) (before : List MemPlace),
      (∀ (j : Nat) t v, fn.params[j]? = some t → args[j]? = some v → Value.okWide C.prog W .any base t v) →
      DataW.Whole enc C.prog fn.params.toList s.vars apart W args.toList ds gs before →
      conds.all (PathCond.test C.prog ⟨fn.params.toList, ds, s.plain.varTypes C.prog, gs⟩) = true →
      W.ShapedOpen C.prog → X W args →
      Calls C.prog f args W fun e W' => ∃ v, e = .returned v ∧ s.post enc C.prog fn apart fresh handsOn again W args v W') :
    ReturnsInHanded a C os f .any (fun w args => (s.pre enc C.prog fn conds apart w args ∧ X w args) ∧ sizedMet enc C.prog fn (OpenSpec.ofChange s) apart w args) (s.post enc C.prog fn apart fresh handsOn again) := by
  refine returnsInHanded_of_calls own started noInit witness ?_
  intro w tape i _ hsh _ hok hpre hholds
  obtain ⟨_, _, _, fn', hfn', _, _, _, _, hval⟩ := hok
  have e : fn' = fn := Option.some.inj (hfn'.symm.trans hfn)
  subst e
  obtain ⟨⟨⟨ds, gs, before, hw, hc⟩, hX⟩, -⟩ := hpre
  have hw' := DataW.Whole.of_heap (w' := w.forCall tape i) (by rfl) hw
  refine (contract (w.forCall tape i) w.heap.size i.args ds gs before hval hw' hc hsh (hXh _ _ _ (by rfl) hX)).mono fun e W' ⟨v, he, hp⟩ => ?_
  subst he
  exact ChangeSpec.post_blind hp
end
section
variable {H : Type} {enc : TypeId × Value → H} {w w0 : World} {sp : Nat → Bool} {hd : Bool} {b0 : Nat} {t : TypeId} {v : Value}
end
section
variable {H : Type} {enc : TypeId × Value → H} {P : Program} {w : World} {base : Nat} {spare : Nat → Bool} {held : Bool} {t0 t1 t2 t3 : TypeId} {args : Array Value} {ds : List (DataW H)} {ps : List MemPlace}
theorem trodAll_3_02 (h : DataW.TrodAll enc P w base spare held [t0, t1, t2] args.toList ds ps) :
    ∃ v0 v1 v2 d0 d1 d2 p0 p1 p2, args = #[v0, v1, v2] ∧ ds = [d0, d1, d2] ∧ ps = p0 ++ p1 ++ p2 ∧ DataW.Trod enc P w base spare held t0 v0 d0 p0 ∧ DataW.Trod enc P w base spare held t1 v1 d1 p1 ∧ DataW.Trod enc P w base spare held t2 v2 d2 p2 := by
  obtain ⟨v0, vs0, d0, ds0, p0, q0, hargs, rfl, rfl, h0, r0⟩ := trodAll_cons h
  obtain ⟨v1, vs1, d1, ds1, p1, q1, rfl, rfl, rfl, h1, r1⟩ := trodAll_cons r0
  obtain ⟨v2, vs2, d2, ds2, p2, q2, rfl, rfl, rfl, h2, r2⟩ := trodAll_cons r1
  obtain ⟨rfl, rfl, rfl⟩ := trodAll_nil r2
  exact ⟨v0, v1, v2, d0, d1, d2, p0, p1, p2, by cases args; simp_all, rfl, by simp, h0, h1, h2⟩
end
theorem iface_of_trod {H : Type} {enc : TypeId × Value → H} {P : Program} {w : World} {base : Nat} {sp : Nat → Bool} {held : Bool} {fuel : Nat} {t : TypeId} {cs : List Value} {d : DataW H} {p : List MemPlace} (hu : (match P.underlying t with | some (.interface _) => true | _ => false) = true)
    (h : DataW.trod enc P w base sp held fuel t cs = some (d, p)) : ∃ x, cs = [x] ∧ (x = .nilIface ∨ ∃ te pe, x = .iface te pe) := by
  cases fuel with
  | zero => simp [DataW.trod] at h
  | succ fuel =>
    cases hu' : P.underlying t with
    | none => rw [hu'] at hu; cases hu
    | some u =>
      rw [hu'] at hu
      cases u <;> first | (cases hu; done) | skip
      simp only [DataW.trod, hu'] at h
      match cs, h with
      | [], h => simp at h
      | [x], h => cases x <;> first | exact ⟨_, rfl, .inl rfl⟩ | exact ⟨_, rfl, .inr ⟨_, _, rfl⟩⟩ | (simp at h; done)
      | _ :: _ :: _, h => simp at h
theorem var_block {P : Program} {w : World} {n : String} {g : Nat} {cs : Array Value} (hg : P.globalNamed n = some g) (h : w.var? P n = some cs) : ∃ t fz, w.heap[g]? = some (.cells cs t fz) := by
  unfold World.var? at h
  rw [hg] at h
  dsimp only [Option.bind] at h
  split at h
  · rename_i cs' t fz he
    cases h
    exact ⟨t, fz, he⟩
  · cases h
theorem globS_flat {w : World} {b : Nat} {cs : List Value} (h : ∃ t fz, w.heap[b]? = some (.cells cs.toArray t fz)) (hne : cs ≠ []) : GlobS (St.flat w) b 0 cs := by
  obtain ⟨t, fz, hb⟩ := h
  refine ⟨qei _ 0 fun j u hj => ⟨?_, ?_⟩, ⟨t, fz, hb⟩, (fun r hr => by cases hr), hne⟩
  · show World.cell? w _ = _
    simp [World.cell?, hb, hj]
  · exact (Array.getElem?_eq_some_iff.1 hb).1
end Go.Proofs.YtbkkjlcclddpdaaGreatDoor

/- Readings of arguments: api.Value. -/
namespace Go.Proofs.YtbkkjlcclddpdaaGreatDoor
open Go.RowKit Go.Lib
section
variable {H : Type} {enc : TypeId × Value → H} {w : World} {sp : Nat → Bool} {hd : Bool}
end
end Go.Proofs.YtbkkjlcclddpdaaGreatDoor

/- Readings of arguments: api.Col. -/
namespace Go.Proofs.YtbkkjlcclddpdaaGreatDoor
open Go.RowKit Go.Lib
section
variable {H : Type} {enc : TypeId × Value → H} {w : World} {sp : Nat → Bool} {hd : Bool}
theorem trods_col (N : Nat) : Trods enc Tryz.prog w sp hd 53 Col.d N := by
  intro n cs x hn h
  obtain ⟨xs, m, rfl, -, hlen, hl2, hf⟩ := DataW.trod_struct Tryz.underlying53 h
  have hc : Tryz.prog.cellsOf 53 = 3 := by kernel_rfl
  rw [hc] at hlen
  obtain ⟨y0, h0⟩ := qby 0 9 0 1 hl2 hf ⟨_, rfl, rfl, rfl⟩ (by kernel_rfl)
  obtain ⟨y1, h1⟩ := qby 1 3 1 1 hl2 hf ⟨_, rfl, rfl, rfl⟩ (by kernel_rfl)
  obtain ⟨y2, h2⟩ := qby 2 9 2 1 hl2 hf ⟨_, rfl, rfl, rfl⟩ (by kernel_rfl)
  obtain ⟨a0, r0⟩ := qfb Tryz.underlying9 (m + 1) m _ _ (by omega) h0
  obtain ⟨a1, r1⟩ := trods_int Tryz.underlying3 (m + 1) m _ _ (by omega) h1
  obtain ⟨a2, r2⟩ := qfb Tryz.underlying9 (m + 1) m _ _ (by omega) h2
  exact ⟨⟨a0, a1, a2⟩, rd_st (qec (k := 1) r0 (qec (k := 1) r1 (qec (k := 1) r2 (rdS_end (by omega)))))⟩
theorem trods_cols (N : Nat) : Trods enc Tryz.prog w sp hd 35 (fun l : List Col => D.sl (l.map Col.d)) N := fun n cs x hn h =>
  trods_sl Tryz.underlying35 (sz := 3) (by kernel_rfl) (by omega) Col.width (trods_col N) n cs x (by omega) h
end
end Go.Proofs.YtbkkjlcclddpdaaGreatDoor

/- Readings of arguments: api.Lens. -/
namespace Go.Proofs.YtbkkjlcclddpdaaGreatDoor
open Go.RowKit Go.Lib
section
variable {H : Type} {enc : TypeId × Value → H} {w : World} {sp : Nat → Bool} {hd : Bool}
end
end Go.Proofs.YtbkkjlcclddpdaaGreatDoor

/- What the variables of a row of layer 14 hold at a law's entry. -/
namespace Go.Proofs.YtbkkjlcclddpdaaGreatDoor
open Go.ChangeShapes Go.WideShapes Go.ChangeAt Go.RowKit Go.Lib
theorem glob14 {W : World} {laid : List (String × DataW Unit)} (h : W.ShapedOpen Tryz.prog) (hl : laidMet Tryz.prog laid W)
    (h1 : ("strconv.ErrSyntax", Rows.laid_strconv_ErrSyntax) ∈ laid) (h2 : ("strconv.ErrRange", Rows.laid_strconv_ErrRange) ∈ laid) (h3 : ("internal/strconv.uint64pow10", Rows.laid_internal_strconv_uint64pow10) ∈ laid) : globsOk (GlobS (St.flat W)) := by
  obtain ⟨cs, hh, hs, hr⟩ := h.1 0 #[.int .i64 0] 3 (of_decide_eq_true (by kernel_rfl)) (by kernel_rfl)
  obtain ⟨m, hm⟩ := cell_of_shapedOpen_int (P := Tryz.prog) (g := 0) (zero := #[.int .i64 0]) (t := 3) h (of_decide_eq_true (by kernel_rfl)) (by kernel_rfl) rfl (by kernel_rfl) (by kernel_rfl) Tryz.underlying3
  have hc0 : cs = #[.int .i64 m] := by
    simp only [World.cell?, hh] at hm
    refine Array.ext (by simpa using hs) fun i h1 h2 => ?_
    have : i = 0 := by simp at h2; omega
    subst this
    simpa [Array.getElem?_eq_getElem h1] using hm
  subst hc0
  obtain ⟨g1, t1, c1, f1, p1, a1, b1, d1, e1⟩ := laidMet.reads hl h1
  obtain ⟨g2, t2, c2, f2, p2, a2, b2, d2, e2⟩ := laidMet.reads hl h2
  obtain ⟨g3, t3, c3, f3, p3, a3, b3, d3, e3⟩ := laidMet.reads hl h3
  obtain rfl : g1 = 1 := Option.some.inj (a1.symm.trans (by kernel_rfl))
  obtain rfl : g2 = 2 := Option.some.inj (a2.symm.trans (by kernel_rfl))
  obtain rfl : g3 = 3 := Option.some.inj (a3.symm.trans (by kernel_rfl))
  obtain rfl : t1 = 63 := Option.some.inj (b1.symm.trans (by kernel_rfl))
  obtain rfl : t2 = 63 := Option.some.inj (b2.symm.trans (by kernel_rfl))
  obtain rfl : t3 = 176 := Option.some.inj (b3.symm.trans (by kernel_rfl))
  obtain ⟨x1, y1, z1⟩ := iface_of_trod (by kernel_rfl) e1
  obtain ⟨x2, y2, z2⟩ := iface_of_trod (by kernel_rfl) e2
  have y3 := cells_of_tab (zs := Lib.pow10Tab) (k := .u64) (n := 20) (e := 158) Tryz.underlying176 Tryz.underlying158 (by kernel_rfl) (by kernel_rfl) e3
  refine ⟨⟨m, globS_flat ⟨_, _, hh⟩ (by simp)⟩, ⟨(), globS_flat ?_ (by simp [Lib.pow10Tab])⟩, ⟨⟨x1, z1⟩, globS_flat ?_ (by simp)⟩, ⟨⟨x2, z2⟩, globS_flat ?_ (by simp)⟩, trivial⟩
  · obtain ⟨t, fz, hb⟩ := var_block a3 d3
    exact ⟨t, fz, by rw [hb, ← y3]⟩
  · obtain ⟨t, fz, hb⟩ := var_block a1 d1
    exact ⟨t, fz, by rw [hb, ← y1]⟩
  · obtain ⟨t, fz, hb⟩ := var_block a2 d2
    exact ⟨t, fz, by rw [hb, ← y2]⟩
section
variable {H : Type} {enc : TypeId × Value → H} {w w0 : World} {sp : Nat → Bool} {hd : Bool} {b0 : Nat} {t : TypeId} {v : Value} {d : DataW H} {ps : List MemPlace}
theorem trods_intI {t : TypeId} (ht : Tryz.prog.underlying t = some (.int .i64)) {n : Nat} {cs : List Value} {x : DataW H × List MemPlace} (h : DataW.trod enc Tryz.prog w 0 sp hd n t cs = some x) : ∃ a, i64 a ∧ Rd w Any (D.int a) cs := by
  obtain ⟨a, rfl, -, hwf⟩ := DataW.trod_int ht h
  refine ⟨a, ?_, by rw [Rd]⟩
  simp only [Lit.wf, Bool.and_eq_true, decide_eq_true_eq] at hwf
  have e1 : IntKind.i64.min = -9223372036854775808 := by decide
  have e2 : IntKind.i64.max = 9223372036854775807 := by decide
  exact ⟨by omega, by omega⟩
theorem trods_valI (N : Nat) : Trods enc Tryz.prog w sp hd 27 (fun y : {y : Val // i64 y.n} => y.1.d) N := by
  intro n cs x hn h
  obtain ⟨xs, m, rfl, -, hlen, hl2, hf⟩ := DataW.trod_struct Tryz.underlying27 h
  have hc : Tryz.prog.cellsOf 27 = 3 := by kernel_rfl
  rw [hc] at hlen
  obtain ⟨y0, h0⟩ := qby 0 3 0 1 hl2 hf ⟨_, rfl, rfl, rfl⟩ (by kernel_rfl)
  obtain ⟨y1, h1⟩ := qby 1 3 1 1 hl2 hf ⟨_, rfl, rfl, rfl⟩ (by kernel_rfl)
  obtain ⟨y2, h2⟩ := qby 2 9 2 1 hl2 hf ⟨_, rfl, rfl, rfl⟩ (by kernel_rfl)
  obtain ⟨a0, r0⟩ := trods_int Tryz.underlying3 (m + 1) m _ _ (by omega) h0
  obtain ⟨a1, i1, r1⟩ := trods_intI Tryz.underlying3 h1
  obtain ⟨a2, r2⟩ := qfb Tryz.underlying9 (m + 1) m _ _ (by omega) h2
  exact ⟨⟨⟨a0, a1, a2⟩, i1⟩, rd_st (qec (k := 1) r0 (qec (k := 1) r1 (qec (k := 1) r2 (rdS_end (by omega)))))⟩
theorem trods_lensI (N : Nat) : Trods enc Tryz.prog w sp hd 29 (fun y : {y : Lens // i64 y.n ∧ i64 y.value.n} => y.1.d) N := by
  intro n cs x hn h
  obtain ⟨xs, m, rfl, -, hlen, hl2, hf⟩ := DataW.trod_struct Tryz.underlying29 h
  have hc : Tryz.prog.cellsOf 29 = 9 := by kernel_rfl
  rw [hc] at hlen
  obtain ⟨y0, h0⟩ := qby 0 3 0 1 hl2 hf ⟨_, rfl, rfl, rfl⟩ (by kernel_rfl)
  obtain ⟨y1, h1⟩ := qby 1 9 1 1 hl2 hf ⟨_, rfl, rfl, rfl⟩ (by kernel_rfl)
  obtain ⟨y2, h2⟩ := qby 2 9 2 1 hl2 hf ⟨_, rfl, rfl, rfl⟩ (by kernel_rfl)
  obtain ⟨y3, h3⟩ := qby 3 9 3 1 hl2 hf ⟨_, rfl, rfl, rfl⟩ (by kernel_rfl)
  obtain ⟨y4, h4⟩ := qby 4 9 4 1 hl2 hf ⟨_, rfl, rfl, rfl⟩ (by kernel_rfl)
  obtain ⟨y5, h5⟩ := qby 5 3 5 1 hl2 hf ⟨_, rfl, rfl, rfl⟩ (by kernel_rfl)
  obtain ⟨y6, h6⟩ := qby 6 27 6 3 hl2 hf ⟨_, rfl, rfl, rfl⟩ (by kernel_rfl)
  obtain ⟨a0, r0⟩ := trods_int Tryz.underlying3 (m + 1) m _ _ (by omega) h0
  obtain ⟨a1, r1⟩ := qfb Tryz.underlying9 (m + 1) m _ _ (by omega) h1
  obtain ⟨a2, r2⟩ := qfb Tryz.underlying9 (m + 1) m _ _ (by omega) h2
  obtain ⟨a3, r3⟩ := qfb Tryz.underlying9 (m + 1) m _ _ (by omega) h3
  obtain ⟨a4, r4⟩ := qfb Tryz.underlying9 (m + 1) m _ _ (by omega) h4
  obtain ⟨a5, i5, r5⟩ := trods_intI Tryz.underlying3 h5
  obtain ⟨a6, r6⟩ := trods_valI (m + 1) m _ _ (by omega) h6
  exact ⟨⟨⟨a0, a1, a2, a3, a4, a5, a6.1⟩, i5, a6.2⟩, rd_st (qec (k := 1) r0 (qec (k := 1) r1 (qec (k := 1) r2 (qec (k := 1) r3 (qec (k := 1) r4 (qec (k := 1) r5 (qec (k := 3) r6 (rdS_end (by omega)))))))))⟩
theorem trods_lenssI (N : Nat) : Trods enc Tryz.prog w sp hd 22 (fun l : List {y : Lens // i64 y.n ∧ i64 y.value.n} => D.sl (l.map fun y => y.1.d)) N := fun n cs x hn h =>
  trods_sl Tryz.underlying22 (sz := 9) (by kernel_rfl) (by omega) (f := fun y : {y : Lens // i64 y.n ∧ i64 y.value.n} => y.1.d) (fun y => Lens.width y.1) (trods_lensI N) n cs x (by omega) h
theorem trods_valsI (N : Nat) : Trods enc Tryz.prog w sp hd 36 (fun l : List {y : Val // i64 y.n} => D.sl (l.map fun y => y.1.d)) N := fun n cs x hn h =>
  trods_sl Tryz.underlying36 (sz := 3) (by kernel_rfl) (by omega) (f := fun y : {y : Val // i64 y.n} => y.1.d) (fun y => Val.width y.1) (trods_valI N) n cs x (by omega) h
set_option maxRecDepth 100000 in
theorem par_lens (hval : Value.okWide Tryz.prog w0 .any b0 22 v) (h : DataW.Trod enc Tryz.prog w 0 sp hd 22 v d ps) : ∃ x : List Lens, (∀ y ∈ x, i64 y.n ∧ i64 y.value.n) ∧ Rd w Any (.sl (x.map Lens.d)) [v] := by
  obtain ⟨x, hx⟩ := par_sl Tryz.underlying22 hval h trods_lenssI
  refine ⟨x.map (·.1), fun y hy => ?_, by rw [List.map_map]; exact hx⟩
  obtain ⟨z, -, rfl⟩ := List.mem_map.1 hy
  exact z.2
set_option maxRecDepth 100000 in
theorem par_vals (hval : Value.okWide Tryz.prog w0 .any b0 36 v) (h : DataW.Trod enc Tryz.prog w 0 sp hd 36 v d ps) : ∃ x : List Val, (∀ y ∈ x, i64 y.n) ∧ Rd w Any (.sl (x.map Val.d)) [v] := by
  obtain ⟨x, hx⟩ := par_sl Tryz.underlying36 hval h trods_valsI
  refine ⟨x.map (·.1), fun y hy => ?_, by rw [List.map_map]; exact hx⟩
  obtain ⟨z, -, rfl⟩ := List.mem_map.1 hy
  exact z.2
end
end Go.Proofs.YtbkkjlcclddpdaaGreatDoor

/- The law LensTells, lifted: the row and the tied card. (Printed by gen_lift14.py.) -/
namespace Go.Proofs.YtbkkjlcclddpdaaGreatDoor
open Go.ChangeShapes Go.WideShapes Go.ChangeAt Go.RowKit Go.Lib
set_option maxRecDepth 100000 in
theorem lensTells_lifted (os : Os) (started : os.Started) (H : Type) (enc : TypeId × Value → H) :
    ReturnsInHanded {} Tryz.checked os 4 .any (fun w args => (Rows.lensTellsSpec.pre enc Tryz.prog Tryz.f4 Rows.lensTellsRow.domain false w args ∧ laidMetH Tryz.prog Rows.lensTellsRow.laid w) ∧ sizedMet enc Tryz.prog Tryz.f4 (OpenSpec.ofChange Rows.lensTellsSpec) false w args)
      (Rows.lensTellsSpec.post enc Tryz.prog Tryz.f4 false true false false) := by
  refine returnsInHanded_three (C := Tryz.checked) (X := fun w _ => laidMetH Tryz.prog Rows.lensTellsRow.laid w) Tryz.own started (by kernel_rfl) Tryz.func4
    (ChangeSpec.witness_shaped (enc := enc) (C := Tryz.checked) (os := os) (X := fun w _ => laidMetH Tryz.prog Rows.lensTellsRow.laid w) false (World.laidAll Tryz.prog os Rows.lensTellsRow.laid) #[.slice .none 0 0, .slice .none 0 0, .slice .none 0 0] 8 (World.laidAll_os _ _ _)
      (World.shaped_of_ZipB (by kernel_rfl) (by kernel_rfl)) (by kernel_rfl) (by kernel_rfl) (by kernel_rfl)
      (by rw [MakeChecks.laidMetH_plain _ _ _ (by kernel_rfl)]; exact laidMet_laidAll _ (by kernel_rfl) (by kernel_rfl)))
    (fun w w' us hh hX => by rw [MakeChecks.laidMetH_plain _ _ _ (by kernel_rfl)] at hX ⊢; exact laidMet.of_heap hh hX) ?_
  intro W base args ds gs before hval0 hW _ hsh hlaid
  rw [MakeChecks.laidMetH_plain _ _ _ (by kernel_rfl)] at hlaid
  have hglob := glob14 hsh hlaid (by simp [Rows.lensTellsRow]) (by simp [Rows.lensTellsRow]) (by simp [Rows.lensTellsRow])
  have hval : ∀ (j : Nat) t v, Tryz.f4.params[j]? = some t → args[j]? = some v → Value.okWide Tryz.prog W .any base t v := hval0
  have hW' := hW
  obtain ⟨p, q, hA0, hV, rfl, hfz, hnd⟩ := hW
  have hA : DataW.TrodAll enc Tryz.prog W 0 (fun _ => true) true Tryz.f4.params.toList args.toList ds p := hA0
  rw [Tryz.params4] at hA hval
  obtain ⟨v0, v1, v2, d0, d1, d2, p0, p1, p2, rfl, rfl, rfl, h0, h1, h2⟩ := trodAll_3_02 hA
  obtain ⟨rfl, rfl⟩ := trodVars_none hV
  obtain ⟨x0, n0, r0⟩ := par_lens (hval 0 _ v0 rfl rfl) h0
  obtain ⟨x1, r1⟩ := par_sl Tryz.underlying35 (hval 1 _ v1 rfl rfl) h1 trods_cols
  obtain ⟨x2, n2, r2⟩ := par_vals (hval 2 _ v2 rfl rfl) h2
  refine (calls_of_gives (vals := [v0, v1, v2]) (lensTells_g x0 x1 x2 (fun y hy => (n0 y hy).2) n2) ⟨_, _, rfl, Lens.flats r0, _, _, rfl, Col.flats r1, _, _, rfl, Val.flats r2, rfl⟩ hglob).mono ?_
  rintro r W' ⟨rfl, hb⟩
  exact ⟨_, rfl, law_post (P := Tryz.prog) Tryz.laidOut hW' rfl rfl (by kernel_rfl) Tryz.underlying4 (by kernel_rfl) hb⟩
theorem lensTells_row : Rows.LensTellsSaid :=
  OpenClaim.holds_of_wide 4 Tryz.f4 rfl rfl rfl rfl rfl rfl rfl ⟨rfl, rfl, rfl, rfl, rfl⟩ rfl rfl rfl rfl rfl (by kernel_rfl) Tryz.func4 (by kernel_rfl)
    (of_decide_eq_true (by kernel_rfl)) (by unfold Func.isWrapper; first | (rw [if_pos (by decide +kernel)]; kernel_rfl) | (rw [if_neg (by decide +kernel)]; exact ⟨rfl, rfl⟩))
    (fun os started H enc _ => lensTells_lifted os started H enc)
theorem lensTells_holds : Rows.LensTellsCardSaid :=
  Claim7.holds_tied_plain_at .later [] [.data, .data, .data, .sentinel, .sentinel] true (true, "37ee94979087aae3786833705abdfdda4f29bf2bd51485dabcfa75dee9ddd430") true lensTells_row (fun _ h => by cases h) (by kernel_rfl) (fun _ h => by cases h) lensTells_row_tie rfl ⟨rfl, rfl⟩ (by kernel_rfl) rfl
    (fun f fn hf hfn => by
      obtain rfl : f = 4 := Option.some.inj ((show Tryz.prog.funcNamed "errata/erratalaw14.LensTells" = some 4 by kernel_rfl).symm.trans hf) |>.symm
      obtain rfl : fn = Tryz.f4 := (Option.some.inj (Tryz.func4.symm.trans hfn)).symm
      exact ⟨by kernel_rfl, fun j t ht => by
        rw [Tryz.params4] at ht
        have hm : t ∈ [22, 35, 36] := by simpa using Array.mem_of_getElem? ht
        have hall : ([22, 35, 36].all fun u => !Tryz.prog.wantsStandIn u) = true := by kernel_rfl
        exact (show Tryz.prog.wantsStandIn t = false by simpa using List.all_eq_true.1 hall t hm)⟩)
    (by kernel_rfl)
end Go.Proofs.YtbkkjlcclddpdaaGreatDoor
