/- Walk of layer 26: the law CompileFolds. -/
import Derived.Test.YtnkimlkoijfcpaaGreatDoorGi3
import Derived.Test.YtnkimlkoijfcpaaGreatDoorGi4
import Derived.Test.YtnkimlkoijfcpaaGreatDoorGi5
import Derived.Test.YtnkimlkoijfcpaaGreatDoorGi15
import Derived.Test.YtnkimlkoijfcpaaGreatDoorGi16
import Derived.Test.YtnkimlkoijfcpaaGreatDoorGi17
import Derived.Test.YtnkimlkoijfcpaaGreatDoorGi19
import Derived.Test.YtnkimlkoijfcpaaGreatDoorGi23
import Derived.Test.YtnkimlkoijfcpaaGreatDoorGi24
import Derived.Test.YtnkimlkoijfcpaaGreatDoorGi27
set_option linter.unusedSimpArgs false
set_option linter.unusedVariables false
namespace Go.Proofs.YtnkimlkoijfcpaaGreatDoor
open Go.RowKit Go.Lib
theorem plain26_g (e : Ex) : Gives Tryz.prog 15 [e.av] (.bool (qx e)) := by
  obtain ⟨o, n, s, l⟩ := e
  obtain ⟨R, hR⟩ : ∃ R, R = qx (.mk o n s l) := ⟨_, rfl⟩
  rw [← hR, Ex.av_mk]
  unfold qx at hR
  simp only [Ex.op] at hR
  refine qn Tryz.func15 Tryz.ntmps15 rfl rfl (by decide) rfl (by intro n; simp) fun σ n0 hcl hft => ?_
  repeat' (first | ((first | ((with_reducible refine qo (fun hg => ?_) (fun hg => ?_)) <;> (try simp only [hg]) <;> (try simp only [gS] at hg) <;> (try (first | simp only [eq_false hg, gI] | simp only [eq_true hg, gI]))) | (with_reducible first | refine qf ?_ | refine qe ?_ | refine qk ?_ | refine qj ?_) | refine qc ?_ | refine qh ?_ | refine qi ?_ | refine qm ?_) <;> (try simp (disch := first | omega | simp) [qg, -qq, -qr])) | ((with_reducible refine sideT ?_ ?_); first | omega | assumption | (simp; done)) | (refine qd fun K hK => ?_) | (refine qa ?_) | refine ql ?_ | ((first | refine hK _ ?_ | (clear hK K; refine hK _ ?_) | (clear hK K; clear hK K; refine hK _ ?_)); clear hK K) | refine qb ?_)
  all_goals (rw [hR]; first | (simp [*]; done) | (by_cases q : o = 2 <;> simp [*]))
end Go.Proofs.YtnkimlkoijfcpaaGreatDoor

/- Walks of layer 27: what the instructions compute for one row. -/
namespace Go.Proofs.YtnkimlkoijfcpaaGreatDoor
open Go.RowKit Go.Lib
theorem hw64 (n : Int) : IntKind.i64.wrap n = wrap64 n := by rw [IntKind.wrap_i64]; unfold wrap64; rfl
theorem eqB_eqV (a b : Val) : Val.eqB a b = eqV a b := by
  rw [Bool.eq_iff_iff]
  simp [Val.eqB, eqV]
def Upto (σ τ : Nat → AB) : Prop := ∀ r, σ r ≠ .unborn → τ r = σ r
theorem Upto.at {σ τ : Nat → AB} (h : Upto σ τ) {r : Nat} {ab : AB} (hr : σ r = ab) (hn : ab ≠ .unborn) : τ r = ab := by rw [h r (by rw [hr]; exact hn), hr]
section
variable {x : Ins} {L : List Delta} {σ : Nat → AB} {a b c d m v n : Nat}
end
end Go.Proofs.YtnkimlkoijfcpaaGreatDoor

/- Walks of layer 16's reference: operations on values. -/
namespace Go.Proofs.YtnkimlkoijfcpaaGreatDoor
open Go.RowKit Go.Lib
def lessB (a b : Val) : Bool := if a.k = 1 then Op.bytesLess a.s.toList b.s.toList else decide (a.n < b.n)
theorem bytes_cmp : ∀ (x y : List UInt8), (compareBytes x y < 0 ↔ Op.bytesLess x y = true) ∧ (compareBytes x y ≤ 0 ↔ Op.bytesLess y x = false)
  | [], [] => by simp [compareBytes, Op.bytesLess]
  | [], _ :: _ => by simp [compareBytes, Op.bytesLess]
  | _ :: _, [] => by simp [compareBytes, Op.bytesLess]
  | a :: x, b :: y => by
    have ih := bytes_cmp x y
    simp only [compareBytes, Op.bytesLess, Bool.or_eq_true, Bool.and_eq_true, beq_iff_eq, decide_eq_true_eq, Bool.or_eq_false_iff, Bool.and_eq_false_iff, decide_eq_false_iff_not]
    by_cases h1 : a < b
    · have h2 : ¬ b < a := by intro h; exact absurd (UInt8.lt_trans h1 h) (UInt8.lt_irrefl a)
      have h3 : ¬ b = a := by rintro rfl; exact UInt8.lt_irrefl b h1
      rw [if_pos h1]
      simp [h1, h2, h3]
    · by_cases h2 : b < a
      · have h3 : ¬ a = b := by rintro rfl; exact UInt8.lt_irrefl a h2
        rw [if_neg h1, if_pos h2]
        simp [h1, h2, h3]
      · have h3 : a = b := by
          apply UInt8.toNat.inj
          rw [UInt8.lt_iff_toNat_lt] at h1 h2
          omega
        subst h3
        rw [if_neg h1, if_neg h1]
        simp [ih]
theorem orI_two (x : Int) : orI [0, 0, x] = x := by
  simp [orI]; omega
theorem compareInt_self (x : Int) : compareInt x x = 0 := by simp [compareInt]
theorem less_cmp {a b : Val} (ha : qz a) (hb : qz b) (hk : a.k = b.k) : (cmpV a b < 0 ↔ lessB a b = true) ∧ (cmpV a b ≤ 0 ↔ lessB b a = false) := by
  obtain ⟨k, n, s⟩ := a
  obtain ⟨k2, n2, s2⟩ := b
  simp only at hk
  subst hk
  obtain ⟨ha, -⟩ := ha
  obtain ⟨hb, -⟩ := hb
  unfold okV at ha hb
  simp only at ha hb
  unfold cmpV lessB
  simp only [compareInt_self]
  by_cases h1 : k = 1
  · subst h1
    simp at ha hb
    rw [ha.1, hb.1, compareInt_self, orI_two]
    simp only [if_true, toList_data]
    exact bytes_cmp _ _
  · rw [if_neg h1, if_neg h1]
    have hs : s.toList = [] := by
      by_cases h0 : k = 0
      · rw [if_pos h0] at ha; simpa using ha
      · rw [if_neg h0, if_neg h1] at ha; simp at ha; exact ha.2
    have hs2 : s2.toList = [] := by
      by_cases h0 : k = 0
      · rw [if_pos h0] at hb; simpa using hb
      · rw [if_neg h0, if_neg h1] at hb; simp at hb; exact hb.2
    rw [toList_data] at hs hs2
    rw [hs, hs2]
    have : orI [0, compareInt n n2, compareBytes [] []] = compareInt n n2 := by
      simp only [compareBytes, orI]; simp; intro h; exact h.symm
    rw [this]
    unfold compareInt
    simp only [decide_eq_true_eq, decide_eq_false_iff_not]
    constructor
    · split
      · simp; omega
      · split <;> simp <;> omega
    · split
      · simp; omega
      · split <;> simp <;> omega
theorem rtruth_g (b : Bool) : Gives Tryz.prog 191 [.bool b] (boolV b).av := by
  cases b
  · refine qn Tryz.func191 Tryz.ntmps191 rfl rfl (by decide) rfl (by intro n; simp) fun σ n0 hcl hft => ?_
    repeat' (first | ((first | ((with_reducible refine qo (fun hg => ?_) (fun hg => ?_)) <;> (try simp only [hg]) <;> (try simp only [gS] at hg) <;> (try (first | simp only [eq_false hg, gI] | simp only [eq_true hg, gI]))) | (with_reducible first | refine qf ?_ | refine qe ?_ | refine qk ?_ | refine qj ?_) | refine qc ?_ | refine qh ?_ | refine qi ?_ | refine qm ?_) <;> (try simp (disch := first | omega | simp) [qg, -qq, -qr])) | ((with_reducible refine sideT ?_ ?_); first | omega | assumption | (simp; done)) | (refine qd fun K hK => ?_) | (refine qa ?_) | refine ql ?_ | ((first | refine hK _ ?_ | (clear hK K; refine hK _ ?_) | (clear hK K; clear hK K; refine hK _ ?_)); clear hK K) | refine qb ?_)
    rfl
  · refine qn Tryz.func191 Tryz.ntmps191 rfl rfl (by decide) rfl (by intro n; simp) fun σ n0 hcl hft => ?_
    repeat' (first | ((first | ((with_reducible refine qo (fun hg => ?_) (fun hg => ?_)) <;> (try simp only [hg]) <;> (try simp only [gS] at hg) <;> (try (first | simp only [eq_false hg, gI] | simp only [eq_true hg, gI]))) | (with_reducible first | refine qf ?_ | refine qe ?_ | refine qk ?_ | refine qj ?_) | refine qc ?_ | refine qh ?_ | refine qi ?_ | refine qm ?_) <;> (try simp (disch := first | omega | simp) [qg, -qq, -qr])) | ((with_reducible refine sideT ?_ ?_); first | omega | assumption | (simp; done)) | (refine qd fun K hK => ?_) | (refine qa ?_) | refine ql ?_ | ((first | refine hK _ ?_ | (clear hK K; refine hK _ ?_) | (clear hK K; clear hK K; refine hK _ ?_)); clear hK K) | refine qb ?_)
    rfl
theorem rless_g (a b : Val) : Gives Tryz.prog 192 [a.av, b.av] (.bool (lessB a b)) := by
  unfold lessB
  obtain ⟨k, n, s⟩ := a
  obtain ⟨k2, n2, s2⟩ := b
  by_cases h : k = 1
  · subst h
    refine qn Tryz.func192 Tryz.ntmps192 rfl rfl (by decide) rfl (by intro n; simp) fun σ n0 hcl hft => ?_
    repeat' (first | ((first | ((with_reducible refine qo (fun hg => ?_) (fun hg => ?_)) <;> (try simp only [hg]) <;> (try simp only [gS] at hg) <;> (try (first | simp only [eq_false hg, gI] | simp only [eq_true hg, gI]))) | (with_reducible first | refine qf ?_ | refine qe ?_ | refine qk ?_ | refine qj ?_) | refine qc ?_ | refine qh ?_ | refine qi ?_ | refine qm ?_) <;> (try simp (disch := first | omega | simp) [qg, -qq, -qr])) | ((with_reducible refine sideT ?_ ?_); first | omega | assumption | (simp; done)) | (refine qd fun K hK => ?_) | (refine qa ?_) | refine ql ?_ | ((first | refine hK _ ?_ | (clear hK K; refine hK _ ?_) | (clear hK K; clear hK K; refine hK _ ?_)); clear hK K) | refine qb ?_)
    all_goals first | rfl | simp
  · refine qn Tryz.func192 Tryz.ntmps192 rfl rfl (by decide) rfl (by intro n; simp) fun σ n0 hcl hft => ?_
    repeat' (first | ((first | ((with_reducible refine qo (fun hg => ?_) (fun hg => ?_)) <;> (try simp only [hg]) <;> (try simp only [gS] at hg) <;> (try (first | simp only [eq_false hg, gI] | simp only [eq_true hg, gI]))) | (with_reducible first | refine qf ?_ | refine qe ?_ | refine qk ?_ | refine qj ?_) | refine qc ?_ | refine qh ?_ | refine qi ?_ | refine qm ?_) <;> (try simp (disch := first | omega | simp) [qg, -qq, -qr, h])) | ((with_reducible refine sideT ?_ ?_); first | omega | assumption | (simp; done)) | (refine qd fun K hK => ?_) | (refine qa ?_) | refine ql ?_ | ((first | refine hK _ ?_ | (clear hK K; refine hK _ ?_) | (clear hK K; clear hK K; refine hK _ ?_)); clear hK K) | refine qb ?_)
    all_goals first | exact absurd (by assumption) h | simp_all
section
variable (call : Int → List Val → Val) (time : Int) (row params : List Val)
set_option maxHeartbeats 4000000 in
theorem rap0_g {op n : Int} {s : ByteArray} {l : List Ex} (hop : op = 0 ∨ op = 1 ∨ op = 2) (vs : List Val) : Gives Tryz.prog 163 [(Ex.mk op n s l).av, .sl (vs.map Val.av)] (opV call time row params op n s vs).av := by
  rw [Ex.av_mk]
  rcases hop with rfl | rfl | rfl
  all_goals
    refine qn Tryz.func163 Tryz.ntmps163 rfl rfl (by decide) rfl (by intro n; simp) fun σ n0 hcl hft => ?_
    repeat' (first | ((first | ((with_reducible refine qo (fun hg => ?_) (fun hg => ?_)) <;> (try simp only [hg]) <;> (try simp only [gS] at hg) <;> (try (first | simp only [eq_false hg, gI] | simp only [eq_true hg, gI]))) | (with_reducible first | refine qf ?_ | refine qe ?_ | refine qk ?_ | refine qj ?_) | refine acall (rtruth_g _) ?_ | refine qp (rtruth_g _) ?_ | refine qc ?_ | refine qh ?_ | refine qi ?_ | refine qm ?_) <;> (try simp (disch := first | omega | simp) [qg, -qq, -qr])) | ((with_reducible refine sideT ?_ ?_); first | omega | assumption | (simp; done)) | (refine qd fun K hK => ?_) | (refine qa ?_) | refine ql ?_ | ((first | refine hK _ ?_ | (clear hK K; refine hK _ ?_) | (clear hK K; clear hK K; refine hK _ ?_)); clear hK K) | refine qb ?_)
    all_goals simp [opV, numV, boolV, textV, Val.av, -Val.av_fold]
set_option maxHeartbeats 4000000 in
theorem rap1_g {op n : Int} {s : ByteArray} {l : List Ex} (hop : op = 6 ∨ op = 7 ∨ op = 20) (a : Val) : Gives Tryz.prog 163 [(Ex.mk op n s l).av, .sl [a.av]] (opV call time row params op n s [a]).av := by
  rw [Ex.av_mk]
  rcases hop with rfl | rfl | rfl
  all_goals
    refine qn Tryz.func163 Tryz.ntmps163 rfl rfl (by decide) rfl (by intro n; simp) fun σ n0 hcl hft => ?_
    repeat' (first | ((first | ((with_reducible refine qo (fun hg => ?_) (fun hg => ?_)) <;> (try simp only [hg]) <;> (try simp only [gS] at hg) <;> (try (first | simp only [eq_false hg, gI] | simp only [eq_true hg, gI]))) | (with_reducible first | refine qf ?_ | refine qe ?_ | refine qk ?_ | refine qj ?_) | refine acall (rtruth_g _) ?_ | refine qp (rtruth_g _) ?_ | refine qc ?_ | refine qh ?_ | refine qi ?_ | refine qm ?_) <;> (try simp (disch := first | omega | simp) [qg, -qq, -qr])) | ((with_reducible refine sideT ?_ ?_); first | omega | assumption | (simp; done)) | (refine qd fun K hK => ?_) | (refine qa ?_) | refine ql ?_ | ((first | refine hK _ ?_ | (clear hK K; refine hK _ ?_) | (clear hK K; clear hK K; refine hK _ ?_)); clear hK K) | refine qb ?_)
    all_goals simp [opV, numV, boolV, textV, Val.av, hw64, -Val.av_fold]
set_option maxHeartbeats 8000000 in
theorem rap2_g {op n : Int} {s : ByteArray} {l : List Ex} (hop : 8 ≤ op ∧ op ≤ 19) (a b : Val) (hc : op = 15 ∨ op = 16 → (cmpV a b < 0 ↔ lessB a b = true) ∧ (cmpV a b ≤ 0 ↔ lessB b a = false)) (hs : a.s.size + b.s.size ≤ 1000) :
    Gives Tryz.prog 163 [(Ex.mk op n s l).av, .sl [a.av, b.av]] (opV call time row params op n s [a, b]).av := by
  rw [Ex.av_mk]
  obtain ⟨R, hR⟩ : ∃ R, R = opV call time row params op n s [a, b] := ⟨_, rfl⟩
  rw [← hR]
  unfold opV at hR
  rw [if_neg (by omega), if_neg (by omega), if_neg (by omega), if_neg (by omega), if_neg (by omega), if_neg (by omega), if_neg (by omega), if_neg (by omega), if_neg (by omega), if_neg (by omega)] at hR
  rw [show [a, b].getD 0 zeroV = a from rfl, show [a, b].getD 1 zeroV = b from rfl] at hR
  unfold binV divI modI at hR
  have hop' : op = 8 ∨ op = 9 ∨ op = 10 ∨ op = 11 ∨ op = 12 ∨ op = 13 ∨ op = 14 ∨ op = 15 ∨ op = 16 ∨ op = 17 ∨ op = 18 ∨ op = 19 := by omega
  have hsz : a.s.size + b.s.size ≤ 9223372036854775807 := by omega
  have hM : (if (200 : Int) < (a.s.size : Int) + (b.s.size : Int) then 200 else (a.s.size : Int) + (b.s.size : Int)) = ((min (a.s.size + b.s.size) 200 : Nat) : Int) := by split <;> omega
  have hM2 : min (a.s.size + b.s.size) 200 ≤ a.s.size + b.s.size := by omega
  have hJ : joinS a.s b.s = (a.s ++ b.s).extract 0 (min (a.s.size + b.s.size) 200) := rfl
  generalize hMM : min (a.s.size + b.s.size) 200 = M at *
  rcases hop' with rfl | rfl | rfl | rfl | rfl | rfl | rfl | rfl | rfl | rfl | rfl | rfl
  all_goals
    refine qn Tryz.func163 Tryz.ntmps163 rfl rfl (by decide) rfl (by intro n; simp) fun σ n0 hcl hft => ?_
    repeat' (first | ((first | ((with_reducible refine qo (fun hg => ?_) (fun hg => ?_)) <;> (try simp only [hg]) <;> (try simp only [gS] at hg) <;> (try (first | simp only [eq_false hg, gI] | simp only [eq_true hg, gI]))) | (with_reducible first | refine qf ?_ | refine qe ?_ | refine qk ?_ | refine qj ?_) | refine acall (rtruth_g _) ?_ | refine qp (rtruth_g _) ?_ | refine acall (rless_g _ _) ?_ | refine qp (rless_g _ _) ?_ | refine qc ?_ | refine qh ?_ | refine qi ?_ | refine qm ?_) <;> (try simp (disch := first | omega | simp) [qg, -qq, -qr, hsz, hM, hM2])) | ((with_reducible refine sideT ?_ ?_); first | omega | assumption | (simp; done)) | (refine qd fun K hK => ?_) | (refine qa ?_) | refine ql ?_ | ((first | refine hK _ ?_ | (clear hK K; refine hK _ ?_) | (clear hK K; clear hK K; refine hK _ ?_)); clear hK K) | refine qb ?_)
    all_goals first | (rw [hR]; simp_all [Val.av, numV, boolV, textV, hw64, eqB_eqV, -Val.av_fold]; done)
end
end Go.Proofs.YtnkimlkoijfcpaaGreatDoor

/- Walks of layer 25's reference: what an instruction computes; the results of a program; its value. -/
namespace Go.Proofs.YtnkimlkoijfcpaaGreatDoor
open Go.RowKit Go.Lib
def qcp (v : Val) : Ex := if v.k = 1 then .mk 1 0 v.s [] else if v.k = 2 then .mk 2 v.n ByteArray.empty [] else .mk 0 v.n ByteArray.empty []
def cntAv (v : Val) (n : Int) : AV := .agg [.int v.k, .int v.n, .str v.s, .int n]
abbrev opR (time : Int) (R : List Val) (op n : Int) (s : ByteArray) (vs : List Val) : Val := opV (fun _ _ => zeroV) time R [] op n s vs
set_option maxHeartbeats 8000000 in
theorem rrunG {op n : Int} {s : ByteArray} {time : Int} {R vs : List Val} (hvs : ∀ v ∈ vs, Gives Tryz.prog 123 [.sl [], (qcp v).av, .int time, .sl (R.map Val.av), .sl []] (cntAv v 1))
    (h21 : ¬ op = 21) (h4 : ¬ op = 4) (h22 : ¬ op = 22) (hcol : op = 3 → 0 ≤ n ∧ n < R.length) (c1 : ¬ op = 3 → ¬ op = 5 → Gives Tryz.prog 163 [(Ex.mk op n s (vs.map qcp)).av, .sl (vs.map Val.av)] (opR time R op n s vs).av) (hl : vs.length ≤ 3) :
    Gives Tryz.prog 123 [.sl [], (Ex.mk op n s (vs.map qcp)).av, .int time, .sl (R.map Val.av), .sl []] (cntAv (opR time R op n s vs) (1 + vs.length)) := by
  rw [Ex.av_mk] at c1 ⊢
  obtain ⟨A, hA⟩ : ∃ A, A = vs.map qcp := ⟨_, rfl⟩
  have hAl : A.length = vs.length := by rw [hA, List.length_map]
  have hAg : ∀ i (h : i < vs.length) (h2 : i < A.length), A[i] = qcp vs[i] := fun i h h2 => by subst hA; simp
  rw [← hA] at c1 ⊢
  clear hA
  obtain ⟨V, hV⟩ : ∃ V, V = opR time R op n s vs := ⟨_, rfl⟩
  rw [← hV] at c1 ⊢
  unfold cntAv
  refine qn Tryz.func123 Tryz.ntmps123 rfl rfl (by decide) rfl (by intro n; simp) fun σ n0 hcl hft => ?_
  repeat' (first | ((first | ((with_reducible refine qo (fun hg => ?_) (fun hg => ?_)) <;> (try simp only [hg]) <;> (try simp only [gS] at hg) <;> (try (first | simp only [eq_false hg, gI] | simp only [eq_true hg, gI]))) | (with_reducible first | refine qf ?_ | refine qe ?_ | refine qk ?_ | refine qj ?_) | refine qc ?_ | refine qh ?_ | refine qi ?_ | refine qm ?_) <;> (try simp (disch := first | omega | simp) [qg, -qq, -qr, h21])) | ((with_reducible refine sideT ?_ ?_); first | omega | assumption | (simp; done)) | (refine qd fun K hK => ?_) | (refine qa ?_) | refine ql ?_ | ((first | refine hK _ ?_ | (clear hK K; refine hK _ ?_) | (clear hK K; clear hK K; refine hK _ ?_)); clear hK K) | refine qb ?_)
  all_goals first | exact absurd (by assumption) h21 | skip
  refine qbk 15 39 3 (by simp) ?_
  refine qs hcl (fun i : Nat => [(0, .sl []), (2, .int time), (3, .sl (R.map Val.av)), (4, .sl []), (6, .ptr n0 0), (10, .ptr (n0 + 1) 0), (14, .int (1 + (i : Int))), (15, .gs (n0 + 2) ((vs.take i).map Val.av)), (16, .int i)])
    (fun i => [.cells [.int op, .int n, .str s, .sl (A.map Ex.av)] 25, .cells [.int 0, .int 0, .str ByteArray.empty, .int 0] 155, .tail i 39 3])
    (fun i => i ≤ vs.length) (fun i => vs.length - i) 0 (by simp) (by simp) fun i hi => ?_
  by_cases hlt : i < vs.length
  · have hltA : i < A.length := by omega
    have c0 := hvs vs[i] (List.getElem_mem _)
    rw [← hAg i hlt hltA] at c0
    have hsz : (i + 1) * 32 ≤ 140737488355328 := by omega
    have htk : (vs.take (i + 1)).map Val.av = (vs.take i).map Val.av ++ [vs[i].av] := by rw [List.take_succ_eq_append_getElem hlt, List.map_append]; rfl
    have hwd : AV.wid (List.take i (List.map Val.av vs)) 3 := by rw [← List.map_take]; exact Val.avs_wid _
    unfold cntAv at c0
    repeat' (first | ((first | ((with_reducible refine qo (fun hg => ?_) (fun hg => ?_)) <;> (try simp only [hg]) <;> (try simp only [gS] at hg) <;> (try (first | simp only [eq_false hg, gI] | simp only [eq_true hg, gI]))) | (with_reducible first | refine qf ?_ | refine qe ?_ | refine qk ?_ | refine qj ?_) | refine acall (c0) ?_ | refine qp (c0) ?_ | refine qc ?_ | refine qh ?_ | refine qi ?_ | refine qm ?_) <;> (try simp (disch := first | omega | simp) [qg, -qq, -qr, hltA, hsz, hwd])) | ((with_reducible refine sideT ?_ ?_); first | omega | assumption | (simp; done)) | (refine qd fun K hK => ?_) | (refine qa ?_) | refine ql ?_ | ((first | refine hK _ ?_ | (clear hK K; refine hK _ ?_) | (clear hK K; clear hK K; refine hK _ ?_)); clear hK K) | refine qb ?_)
    exact ⟨i + 1, by omega, by omega, rfl, by omega, by rw [← List.map_take, ← List.map_take]; exact htk.symm, by omega⟩
  · obtain rfl : i = vs.length := by omega
    have hltA : ¬ vs.length < A.length := by omega
    rw [List.take_length]
    by_cases h3 : op = 3
    · obtain ⟨q0, q1⟩ := hcol h3
      repeat' (first | ((first | ((with_reducible refine qo (fun hg => ?_) (fun hg => ?_)) <;> (try simp only [hg]) <;> (try simp only [gS] at hg) <;> (try (first | simp only [eq_false hg, gI] | simp only [eq_true hg, gI]))) | (with_reducible first | refine qf ?_ | refine qe ?_ | refine qk ?_ | refine qj ?_) | refine qc ?_ | refine qh ?_ | refine qi ?_ | refine qm ?_) <;> (try simp (disch := first | omega | simp) [qg, -qq, -qr, hltA, h3, q0, q1])) | ((with_reducible refine sideT ?_ ?_); first | omega | assumption | (simp; done)) | (refine qd fun K hK => ?_) | (refine qa ?_) | refine ql ?_ | ((first | refine hK _ ?_ | (clear hK K; refine hK _ ?_) | (clear hK K; clear hK K; refine hK _ ?_)); clear hK K) | refine qb ?_)
      have hV2 : V = R[n.toNat]'(by omega) := by rw [hV, h3]; unfold opR opV; simp; rw [List.getElem?_eq_getElem (by omega)]; rfl
      rw [hV2]; exact ⟨rfl, rfl, rfl⟩
    · by_cases h5 : op = 5
      · have hV2 : V = numV time := by rw [hV, h5]; unfold opR opV; simp
        repeat' (first | ((first | ((with_reducible refine qo (fun hg => ?_) (fun hg => ?_)) <;> (try simp only [hg]) <;> (try simp only [gS] at hg) <;> (try (first | simp only [eq_false hg, gI] | simp only [eq_true hg, gI]))) | (with_reducible first | refine qf ?_ | refine qe ?_ | refine qk ?_ | refine qj ?_) | refine qc ?_ | refine qh ?_ | refine qi ?_ | refine qm ?_) <;> (try simp (disch := first | omega | simp) [qg, -qq, -qr, hltA, h3, h4, h5])) | ((with_reducible refine sideT ?_ ?_); first | omega | assumption | (simp; done)) | (refine qd fun K hK => ?_) | (refine qa ?_) | refine ql ?_ | ((first | refine hK _ ?_ | (clear hK K; refine hK _ ?_) | (clear hK K; clear hK K; refine hK _ ?_)); clear hK K) | refine qb ?_)
        all_goals first | exact absurd (by assumption) h3 | exact absurd (by assumption) h4 | (rw [hV2]; exact ⟨rfl, rfl, rfl⟩)
      · have c2 := c1 h3 h5
        obtain ⟨vk, vn, vz⟩ := V
        repeat' (first | ((first | ((with_reducible refine qo (fun hg => ?_) (fun hg => ?_)) <;> (try simp only [hg]) <;> (try simp only [gS] at hg) <;> (try (first | simp only [eq_false hg, gI] | simp only [eq_true hg, gI]))) | (with_reducible first | refine qf ?_ | refine qe ?_ | refine qk ?_ | refine qj ?_) | refine acall (c2) ?_ | refine qp (c2) ?_ | refine qc ?_ | refine qh ?_ | refine qi ?_ | refine qm ?_) <;> (try simp (disch := first | omega | simp) [qg, -qq, -qr, hltA, h3, h4, h5, h22])) | ((with_reducible refine sideT ?_ ?_); first | omega | assumption | (simp; done)) | (refine qd fun K hK => ?_) | (refine qa ?_) | refine ql ?_ | ((first | refine hK _ ?_ | (clear hK K; refine hK _ ?_) | (clear hK K; clear hK K; refine hK _ ?_)); clear hK K) | refine qb ?_)
        all_goals first | exact absurd (by assumption) h3 | exact absurd (by assumption) h4 | exact absurd (by assumption) h5 | exact absurd (by assumption) h22 | rfl | exact ⟨rfl, rfl, rfl⟩
theorem konst_g {v : Val} (hv : qz v) (time : Int) (R : List Val) : Gives Tryz.prog 123 [.sl [], (qcp v).av, .int time, .sl (R.map Val.av), .sl []] (cntAv v 1) := by
  have key : ∀ op n s, op = 0 ∨ op = 1 ∨ op = 2 → opR time R op n s [] = v → Gives Tryz.prog 123 [.sl [], (Ex.mk op n s []).av, .int time, .sl (R.map Val.av), .sl []] (cntAv v 1) := fun op n s h1 h2 => by
    have := rrunG (op := op) (n := n) (s := s) (time := time) (R := R) (vs := []) (by simp) (by omega) (by omega) (by omega) (by omega) (fun _ _ => rap0_g (fun _ _ => zeroV) time R [] h1 []) (by simp)
    rw [h2] at this
    exact this
  obtain ⟨h1, -⟩ := hv
  obtain ⟨k, n, s⟩ := v
  unfold okV at h1
  unfold qcp
  dsimp only at h1 ⊢
  have hse : s.toList = [] → s = ByteArray.empty := fun h => by
    apply ByteArray.ext
    rw [ByteArray.toList_eq] at h
    exact Array.toList_eq_nil_iff.1 h
  by_cases hk0 : k = 0
  · subst hk0
    rw [if_pos rfl] at h1
    rw [if_neg (by omega), if_neg (by omega)]
    refine key 0 n _ (.inl rfl) ?_
    rw [hse (by simpa using h1)]
    rfl
  · rw [if_neg hk0] at h1
    by_cases hk1 : k = 1
    · subst hk1
      rw [if_pos rfl] at h1 ⊢
      refine key 1 0 _ (.inr (.inl rfl)) ?_
      have : n = 0 := by simp at h1; exact h1.1
      subst this
      rfl
    · rw [if_neg hk1] at h1 ⊢
      simp only [Bool.and_eq_true, Bool.or_eq_true, decide_eq_true_eq] at h1
      obtain ⟨⟨rfl, hn⟩, hs⟩ := h1
      obtain rfl := hse hs
      rw [if_pos rfl]
      refine key 2 n _ (.inr (.inr rfl)) ?_
      rcases hn with rfl | rfl <;> rfl
set_option maxHeartbeats 4000000 in
theorem rrunI {n : Int} {s : ByteArray} {time : Int} {R : List Val} {a b c : Val} (ha : qz a) (hb : qz b) (hc : qz c) :
    ∃ m, Gives Tryz.prog 123 [.sl [], (Ex.mk 21 n s ([a, b, c].map qcp)).av, .int time, .sl (R.map Val.av), .sl []] (cntAv (ifV [a, b, c]) m) := by
  refine ⟨3, ?_⟩
  have ca := konst_g ha time R
  have cb := konst_g hb time R
  have cc := konst_g hc time R
  rw [Ex.av_mk]
  have hif : ifV [a, b, c] = if a.n = 1 then b else c := rfl
  rw [hif]
  simp only [List.map_cons, List.map_nil]
  generalize qcp a = ea at *
  generalize qcp b = eb at *
  generalize qcp c = ec at *
  unfold cntAv at ca cb cc ⊢
  by_cases h : a.n = 1
  · rw [if_pos h]
    refine qn Tryz.func123 Tryz.ntmps123 rfl rfl (by decide) rfl (by intro n; simp) fun σ n0 hcl hft => ?_
    repeat' (first | ((first | ((with_reducible refine qo (fun hg => ?_) (fun hg => ?_)) <;> (try simp only [hg]) <;> (try simp only [gS] at hg) <;> (try (first | simp only [eq_false hg, gI] | simp only [eq_true hg, gI]))) | (with_reducible first | refine qf ?_ | refine qe ?_ | refine qk ?_ | refine qj ?_) | refine acall (ca) ?_ | refine qp (ca) ?_ | refine acall (cb) ?_ | refine qp (cb) ?_ | refine qc ?_ | refine qh ?_ | refine qi ?_ | refine qm ?_) <;> (try simp (disch := first | omega | simp) [qg, -qq, -qr, h])) | ((with_reducible refine sideT ?_ ?_); first | omega | assumption | (simp; done)) | (refine qd fun K hK => ?_) | (refine qa ?_) | refine ql ?_ | ((first | refine hK _ ?_ | (clear hK K; refine hK _ ?_) | (clear hK K; clear hK K; refine hK _ ?_)); clear hK K) | refine qb ?_)
    all_goals first | rfl | exact ⟨rfl, rfl, rfl⟩
  · rw [if_neg h]
    refine qn Tryz.func123 Tryz.ntmps123 rfl rfl (by decide) rfl (by intro n; simp) fun σ n0 hcl hft => ?_
    repeat' (first | ((first | ((with_reducible refine qo (fun hg => ?_) (fun hg => ?_)) <;> (try simp only [hg]) <;> (try simp only [gS] at hg) <;> (try (first | simp only [eq_false hg, gI] | simp only [eq_true hg, gI]))) | (with_reducible first | refine qf ?_ | refine qe ?_ | refine qk ?_ | refine qj ?_) | refine acall (ca) ?_ | refine qp (ca) ?_ | refine acall (cc) ?_ | refine qp (cc) ?_ | refine qc ?_ | refine qh ?_ | refine qi ?_ | refine qm ?_) <;> (try simp (disch := first | omega | simp) [qg, -qq, -qr, h])) | ((with_reducible refine sideT ?_ ?_); first | omega | assumption | (simp; done)) | (refine qd fun K hK => ?_) | (refine qa ?_) | refine ql ?_ | ((first | refine hK _ ?_ | (clear hK K; refine hK _ ?_) | (clear hK K; clear hK K; refine hK _ ?_)); clear hK K) | refine qb ?_)
    all_goals first | exact absurd (by assumption) h | rfl | exact ⟨rfl, rfl, rfl⟩
end Go.Proofs.YtnkimlkoijfcpaaGreatDoor

/- Walks of layer 25's reference: the results of a program, and its value. -/
namespace Go.Proofs.YtnkimlkoijfcpaaGreatDoor
open Go.RowKit Go.Lib
theorem opcmp_ts {o n t : Int} {ts : List Int} (h : operT o n ts = some t) (ho : 13 ≤ o ∧ o ≤ 16) : ∃ u, ts = [u, u] := by
  unfold operT at h
  split at h
  · cases h
  rw [if_neg (by omega), if_neg (by omega), if_neg (by omega), if_neg (by omega)] at h
  match ts, h with
  | [a, b], h =>
    dsimp only at h
    split at h
    · rename_i e; exact ⟨a, by rw [e]⟩
    · cases h
end Go.Proofs.YtnkimlkoijfcpaaGreatDoor
