/- Walks of layer 25: last and later, of the reference. -/
import Derived.Test.YtnkimlkoijfcpaaGreatDoorGi4
import Derived.Test.YtnkimlkoijfcpaaGreatDoorGi5
import Derived.Test.YtnkimlkoijfcpaaGreatDoorGi14
import Derived.Test.YtnkimlkoijfcpaaGreatDoorGi15
import Derived.Test.YtnkimlkoijfcpaaGreatDoorGi16
import Derived.Test.YtnkimlkoijfcpaaGreatDoorGi19
set_option linter.unusedSimpArgs false
set_option linter.unusedVariables false
namespace Go.Proofs.YtnkimlkoijfcpaaGreatDoor
open Go.RowKit Go.Lib
theorem rlastP_g (c : Cod) (i : Nat) (r : Int) (hi : i ≤ c.ins.length) (hn : c.ins.length ≤ 1000000) : Gives Tryz.prog 121 [c.av, .int i, .int r] (.int (lastP c.ins i r)) := by
  obtain ⟨R, hR⟩ : ∃ R, R = lastP c.ins i r := ⟨_, rfl⟩
  rw [← hR]
  obtain ⟨ins, types, out⟩ := c
  simp only at *
  refine qn Tryz.func121 Tryz.ntmps121 rfl rfl (by decide) rfl (by intro n; simp) fun σ n0 hcl hft => ?_
  repeat' (first | ((first | ((with_reducible refine qo (fun hg => ?_) (fun hg => ?_)) <;> (try simp only [hg]) <;> (try simp only [gS] at hg) <;> (try (first | simp only [eq_false hg, gI] | simp only [eq_true hg, gI]))) | (with_reducible first | refine qf ?_ | refine qe ?_ | refine qk ?_ | refine qj ?_) | refine qc ?_ | refine qh ?_ | refine qi ?_ | refine qm ?_) <;> (try simp (disch := first | omega | simp) [qg, -qq, -qr])) | ((with_reducible refine sideT ?_ ?_); first | omega | assumption | (simp; done)) | (refine qd fun K hK => ?_) | (refine qa ?_) | refine ql ?_ | ((first | refine hK _ ?_ | (clear hK K; refine hK _ ?_) | (clear hK K; clear hK K; refine hK _ ?_)); clear hK K) | refine qb ?_)
  refine qs hcl (fun b : Nat × Int => [(2, .int r), (3, .ptr n0 0), (7, .int b.2)]) (fun _ => [.cells [.sl (ins.map Ins.av), .sl (types.map AV.int), .int out] 45])
    (fun b => b.1 ≤ i ∧ b.2 = (b.1 : Int) - 1 ∧ R = lastP ins b.1 r) (fun b => b.1) (i, (i : Int) - 1) ⟨by omega, rfl, hR⟩ (by simp) fun ⟨k, m⟩ ⟨hk, hm, he⟩ => ?_
  dsimp only at hk hm he
  by_cases h0 : 0 ≤ m
  · obtain ⟨q, rfl⟩ : ∃ q : Nat, m = q := ⟨m.toNat, by omega⟩
    obtain rfl : k = q + 1 := by omega
    have hq : q < ins.length := by omega
    rw [lastP, getD_ins hq] at he
    by_cases h1 : ins[q].to = r
    · rw [if_pos h1] at he
      repeat' (first | ((first | ((with_reducible refine qo (fun hg => ?_) (fun hg => ?_)) <;> (try simp only [hg]) <;> (try simp only [gS] at hg) <;> (try (first | simp only [eq_false hg, gI] | simp only [eq_true hg, gI]))) | (with_reducible first | refine qf ?_ | refine qe ?_ | refine qk ?_ | refine qj ?_) | refine qc ?_ | refine qh ?_ | refine qi ?_ | refine qm ?_) <;> (try simp (disch := first | omega | simp) [qg, -qq, -qr, hq, h1])) | ((with_reducible refine sideT ?_ ?_); first | omega | assumption | (simp; done)) | (refine qd fun K hK => ?_) | (refine qa ?_) | refine ql ?_ | ((first | refine hK _ ?_ | (clear hK K; refine hK _ ?_) | (clear hK K; clear hK K; refine hK _ ?_)); clear hK K) | refine qb ?_)
      all_goals first | exact absurd h1 (by assumption) | (rw [he])
    · rw [if_neg h1] at he
      repeat' (first | ((first | ((with_reducible refine qo (fun hg => ?_) (fun hg => ?_)) <;> (try simp only [hg]) <;> (try simp only [gS] at hg) <;> (try (first | simp only [eq_false hg, gI] | simp only [eq_true hg, gI]))) | (with_reducible first | refine qf ?_ | refine qe ?_ | refine qk ?_ | refine qj ?_) | refine qc ?_ | refine qh ?_ | refine qi ?_ | refine qm ?_) <;> (try simp (disch := first | omega | simp) [qg, -qq, -qr, hq, h1])) | ((with_reducible refine sideT ?_ ?_); first | omega | assumption | (simp; done)) | (refine qd fun K hK => ?_) | (refine qa ?_) | refine ql ?_ | ((first | refine hK _ ?_ | (clear hK K; refine hK _ ?_) | (clear hK K; clear hK K; refine hK _ ?_)); clear hK K) | refine qb ?_)
      all_goals first | exact absurd (by assumption) h1 | exact ⟨q, ⟨by omega, rfl, he⟩, by omega⟩
  · obtain rfl : k = 0 := by omega
    rw [lastP] at he
    have h0b : ¬ 0 ≤ m := h0
    repeat' (first | ((first | ((with_reducible refine qo (fun hg => ?_) (fun hg => ?_)) <;> (try simp only [hg]) <;> (try simp only [gS] at hg) <;> (try (first | simp only [eq_false hg, gI] | simp only [eq_true hg, gI]))) | (with_reducible first | refine qf ?_ | refine qe ?_ | refine qk ?_ | refine qj ?_) | refine qc ?_ | refine qh ?_ | refine qi ?_ | refine qm ?_) <;> (try simp (disch := first | omega | simp) [qg, -qq, -qr, h0b])) | ((with_reducible refine sideT ?_ ?_); first | omega | assumption | (simp; done)) | (refine qd fun K hK => ?_) | (refine qa ?_) | refine ql ?_ | ((first | refine hK _ ?_ | (clear hK K; refine hK _ ?_) | (clear hK K; clear hK K; refine hK _ ?_)); clear hK K) | refine qb ?_)
    all_goals (rw [he])
set_option maxHeartbeats 4000000 in
theorem rlater_g (c : Cod) (a : Nat) (v : Int) (ha : a ≤ c.ins.length) (hn : c.ins.length ≤ 1000000) : Gives Tryz.prog 122 [c.av, .int a, .int v] (.bool (laterB c a v)) := by
  have c1 := rlastP_g c c.ins.length c.out (Nat.le_refl _) hn
  have c3 := fun i r hi => rlastP_g c i r hi hn
  obtain ⟨R, hR⟩ : ∃ R, R = laterB c a v := ⟨_, rfl⟩
  rw [← hR]
  unfold laterB at hR
  obtain ⟨ins, types, out⟩ := c
  simp only [Cod.av] at *
  generalize lastP ins ins.length out = L at *
  by_cases hL : L = v
  · have : R = true := by rw [hR]; simp [hL]
    subst this
    refine qn Tryz.func122 Tryz.ntmps122 rfl rfl (by decide) rfl (by intro n; simp) fun σ n0 hcl hft => ?_
    repeat' (first | ((first | ((with_reducible refine qo (fun hg => ?_) (fun hg => ?_)) <;> (try simp only [hg]) <;> (try simp only [gS] at hg) <;> (try (first | simp only [eq_false hg, gI] | simp only [eq_true hg, gI]))) | (with_reducible first | refine qf ?_ | refine qe ?_ | refine qk ?_ | refine qj ?_) | refine acall (c1) ?_ | refine qp (c1) ?_ | refine qc ?_ | refine qh ?_ | refine qi ?_ | refine qm ?_) <;> (try simp (disch := first | omega | simp) [qg, -qq, -qr, hL])) | ((with_reducible refine sideT ?_ ?_); first | omega | assumption | (simp; done)) | (refine qd fun K hK => ?_) | (refine qa ?_) | refine ql ?_ | ((first | refine hK _ ?_ | (clear hK K; refine hK _ ?_) | (clear hK K; clear hK K; refine hK _ ?_)); clear hK K) | refine qb ?_)
    all_goals exact absurd hL (by assumption)
  have hLb : (L == v) = false := by simp [hL]
  rw [hLb, Bool.false_or] at hR
  obtain ⟨Q, hQ⟩ : ∃ Q : Nat → Bool, Q = fun i => (opsP (ins.getD i insZ)).any fun r => lastP ins i r == v := ⟨_, rfl⟩
  have hR2 : R = (List.range ins.length).any fun i => decide (a < i) && Q i := by rw [hR, hQ]
  clear hR
  refine qn Tryz.func122 Tryz.ntmps122 rfl rfl (by decide) rfl (by intro n; simp) fun σ n0 hcl hft => ?_
  repeat' (first | ((first | ((with_reducible refine qo (fun hg => ?_) (fun hg => ?_)) <;> (try simp only [hg]) <;> (try simp only [gS] at hg) <;> (try (first | simp only [eq_false hg, gI] | simp only [eq_true hg, gI]))) | (with_reducible first | refine qf ?_ | refine qe ?_ | refine qk ?_ | refine qj ?_) | refine acall (c1) ?_ | refine qp (c1) ?_ | refine qc ?_ | refine qh ?_ | refine qi ?_ | refine qm ?_) <;> (try simp (disch := first | omega | simp) [qg, -qq, -qr, hL])) | ((with_reducible refine sideT ?_ ?_); first | omega | assumption | (simp; done)) | (refine qd fun K hK => ?_) | (refine qa ?_) | refine ql ?_ | ((first | refine hK _ ?_ | (clear hK K; refine hK _ ?_) | (clear hK K; clear hK K; refine hK _ ?_)); clear hK K) | refine qb ?_)
  all_goals try exact absurd (by assumption) hL
  refine qs hcl (fun i : Nat => [(2, .int v), (3, .ptr n0 0), (7, .int i)]) (fun _ => [.cells [.sl (ins.map Ins.av), .sl (types.map AV.int), .int out] 45])
    (fun i => a < i ∧ i ≤ ins.length + 1 ∧ ∀ j, a < j → j < i → j < ins.length → Q j = false) (fun i => ins.length + 1 - i) (a + 1) ⟨by omega, by omega, fun j h1 h2 => by omega⟩ (by simp) fun i ⟨hi, hi2, hf⟩ => ?_
  by_cases hlt : i < ins.length
  · have c2 := rops_g ins[i]
    have hol : (opsP ins[i]).length ≤ 3 := by have := qep ins[i]; have := arO_le ins[i].op; split at * <;> omega
    have hQi : Q i = (opsP ins[i]).any fun r => lastP ins i r == v := by rw [hQ]; dsimp only; rw [getD_ins hlt]
    have hyes : Q i = true → R = true := fun h => by
      rw [hR2, List.any_eq_true]
      exact ⟨i, List.mem_range.2 hlt, by simp [hi, h]⟩
    obtain ⟨x, hx⟩ : ∃ x, x = ins[i] := ⟨_, rfl⟩
    rw [← hx] at c2 hol hQi
    generalize opsP x = O at *
    repeat' (first | ((first | ((with_reducible refine qo (fun hg => ?_) (fun hg => ?_)) <;> (try simp only [hg]) <;> (try simp only [gS] at hg) <;> (try (first | simp only [eq_false hg, gI] | simp only [eq_true hg, gI]))) | (with_reducible first | refine qf ?_ | refine qe ?_ | refine qk ?_ | refine qj ?_) | refine acall (c2) ?_ | refine qp (c2) ?_ | refine qc ?_ | refine qh ?_ | refine qi ?_ | refine qm ?_) <;> (try simp (disch := first | omega | simp) [qg, -qq, -qr, hlt, ← hx])) | ((with_reducible refine sideT ?_ ?_); first | omega | assumption | (simp; done)) | (refine qd fun K hK => ?_) | (refine qa ?_) | refine ql ?_ | ((first | refine hK _ ?_ | (clear hK K; refine hK _ ?_) | (clear hK K; clear hK K; refine hK _ ?_)); clear hK K) | refine qb ?_)
    refine qs hcl (fun k : Nat => [(2, .int v), (3, .ptr n0 0), (7, .int i), (8, .sl (O.map AV.int)), (9, .int k)]) (fun _ => [.cells [.sl (ins.map Ins.av), .sl (types.map AV.int), .int out] 45])
      (fun k => k ≤ O.length ∧ ∀ j (h : j < O.length), j < k → ¬ lastP ins i O[j] = v) (fun k => O.length - k) 0 ⟨by omega, fun j h hj => by omega⟩ (by simp) fun k ⟨hk, hkf⟩ => ?_
    by_cases hlk : k < O.length
    · have c4 := c3 i O[k] (by omega)
      obtain ⟨J, hJ⟩ : ∃ J, J = lastP ins i O[k] := ⟨_, rfl⟩
      rw [← hJ] at c4
      by_cases hv : J = v
      · have := hyes (by rw [hQi, List.any_eq_true]; exact ⟨O[k], List.getElem_mem hlk, by rw [← hJ]; simp [hv]⟩)
        repeat' (first | ((first | ((with_reducible refine qo (fun hg => ?_) (fun hg => ?_)) <;> (try simp only [hg]) <;> (try simp only [gS] at hg) <;> (try (first | simp only [eq_false hg, gI] | simp only [eq_true hg, gI]))) | (with_reducible first | refine qf ?_ | refine qe ?_ | refine qk ?_ | refine qj ?_) | refine acall (c4) ?_ | refine qp (c4) ?_ | refine qc ?_ | refine qh ?_ | refine qi ?_ | refine qm ?_) <;> (try simp (disch := first | omega | simp) [qg, -qq, -qr, hlk, hv, this])) | ((with_reducible refine sideT ?_ ?_); first | omega | assumption | (simp; done)) | (refine qd fun K hK => ?_) | (refine qa ?_) | refine ql ?_ | ((first | refine hK _ ?_ | (clear hK K; refine hK _ ?_) | (clear hK K; clear hK K; refine hK _ ?_)); clear hK K) | refine qb ?_)
        all_goals exact absurd hv (by assumption)
      · repeat' (first | ((first | ((with_reducible refine qo (fun hg => ?_) (fun hg => ?_)) <;> (try simp only [hg]) <;> (try simp only [gS] at hg) <;> (try (first | simp only [eq_false hg, gI] | simp only [eq_true hg, gI]))) | (with_reducible first | refine qf ?_ | refine qe ?_ | refine qk ?_ | refine qj ?_) | refine acall (c4) ?_ | refine qp (c4) ?_ | refine qc ?_ | refine qh ?_ | refine qi ?_ | refine qm ?_) <;> (try simp (disch := first | omega | simp) [qg, -qq, -qr, hlk, hv])) | ((with_reducible refine sideT ?_ ?_); first | omega | assumption | (simp; done)) | (refine qd fun K hK => ?_) | (refine qa ?_) | refine ql ?_ | ((first | refine hK _ ?_ | (clear hK K; refine hK _ ?_) | (clear hK K; clear hK K; refine hK _ ?_)); clear hK K) | refine qb ?_)
        all_goals first
          | exact absurd (by assumption) hv
          | exact ⟨k + 1, ⟨by omega, qeg (C := fun r : Int => ¬ lastP ins i r = v) hkf fun _ => by rw [← hJ]; exact hv⟩, by omega, by simp⟩
    · have hno : Q i = false := by
        rw [hQi, List.any_eq_false]
        intro r hr
        obtain ⟨j, hj, rfl⟩ := List.getElem_of_mem hr
        have := hkf j hj (by omega)
        simp [this]
      repeat' (first | ((first | ((with_reducible refine qo (fun hg => ?_) (fun hg => ?_)) <;> (try simp only [hg]) <;> (try simp only [gS] at hg) <;> (try (first | simp only [eq_false hg, gI] | simp only [eq_true hg, gI]))) | (with_reducible first | refine qf ?_ | refine qe ?_ | refine qk ?_ | refine qj ?_) | refine qc ?_ | refine qh ?_ | refine qi ?_ | refine qm ?_) <;> (try simp (disch := first | omega | simp) [qg, -qq, -qr, hlk])) | ((with_reducible refine sideT ?_ ?_); first | omega | assumption | (simp; done)) | (refine qd fun K hK => ?_) | (refine qa ?_) | refine ql ?_ | ((first | refine hK _ ?_ | (clear hK K; refine hK _ ?_) | (clear hK K; clear hK K; refine hK _ ?_)); clear hK K) | refine qb ?_)
      all_goals exact ⟨i + 1, ⟨by omega, by omega, fun j h1 h2 h3 => by
        by_cases hji : j = i
        · subst hji; exact hno
        · exact hf j h1 (by omega) h3⟩, by omega, by simp⟩
  · have : R = false := by
      rw [hR2, List.any_eq_false]
      intro j hj
      have := List.mem_range.1 hj
      by_cases h : a < j
      · simp [hf j h (by omega) this]
      · simp [h]
    have hlt2 : ¬ (i : Int) < ins.length := by omega
    repeat' (first | ((first | ((with_reducible refine qo (fun hg => ?_) (fun hg => ?_)) <;> (try simp only [hg]) <;> (try simp only [gS] at hg) <;> (try (first | simp only [eq_false hg, gI] | simp only [eq_true hg, gI]))) | (with_reducible first | refine qf ?_ | refine qe ?_ | refine qk ?_ | refine qj ?_) | refine qc ?_ | refine qh ?_ | refine qi ?_ | refine qm ?_) <;> (try simp (disch := first | omega | simp) [qg, -qq, -qr, hlt2, this])) | ((with_reducible refine sideT ?_ ?_); first | omega | assumption | (simp; done)) | (refine qd fun K hK => ?_) | (refine qa ?_) | refine ql ?_ | ((first | refine hK _ ?_ | (clear hK K; refine hK _ ?_) | (clear hK K; clear hK K; refine hK _ ?_)); clear hK K) | refine qb ?_)
end Go.Proofs.YtnkimlkoijfcpaaGreatDoor

/- Walk of layer 25: sources. -/
namespace Go.Proofs.YtnkimlkoijfcpaaGreatDoor
open Go.RowKit Go.Lib
def natAv (l : List Nat) : List AV := l.map fun k : Nat => AV.int (k : Int)
def srcAv (ds : List Nd) : List AV := ds.map fun d => AV.sl (natAv d.src)
@[simp] theorem natAv_len (l : List Nat) : (natAv l).length = l.length := by simp [natAv]
@[simp] theorem srcAv_len (l : List Nd) : (srcAv l).length = l.length := by simp [srcAv]
@[simp] theorem natAv_get (l : List Nat) (i : Nat) (h : i < (natAv l).length) : (natAv l)[i] = AV.int (l[i]'(by simpa using h)) := by simp [natAv]
@[simp] theorem srcAv_get (l : List Nd) (i : Nat) (h : i < (srcAv l).length) : (srcAv l)[i] = AV.sl (natAv (l[i]'(by simpa using h)).src) := by simp [srcAv]
@[simp] theorem natAv_get? (l : List Nat) (i : Nat) : (natAv l)[i]? = (l[i]?).map fun k : Nat => AV.int (k : Int) := by simp [natAv]
@[simp] theorem srcAv_get? (l : List Nd) (i : Nat) : (srcAv l)[i]? = (l[i]?).map fun d : Nd => AV.sl (natAv d.src) := by simp [srcAv]
@[simp] theorem natAv_cl (l : List Nat) (m : Nat) : AV.cls m (natAv l) := AV.cls_map (f := fun k : Nat => AV.int (k : Int)) (fun _ => by simp) l
@[simp] theorem natAv_wid (l : List Nat) : AV.wid (natAv l) 1 := AV.wid_map (f := fun k : Nat => AV.int (k : Int)) (fun _ => rfl) l
@[simp] theorem natAv_elms (l : List Nat) : AV.elms (natAv l) := AV.elms_map (f := fun k : Nat => AV.int (k : Int)) (fun _ => rfl) l
@[simp] theorem srcAv_cl (l : List Nd) (m : Nat) : AV.cls m (srcAv l) := AV.cls_map (f := fun d : Nd => AV.sl (natAv d.src)) (fun d => by simp) l
@[simp] theorem srcAv_wid (l : List Nd) : AV.wid (srcAv l) 1 := AV.wid_map (f := fun d : Nd => AV.sl (natAv d.src)) (fun _ => rfl) l
@[simp] theorem srcAv_elms (l : List Nd) : AV.elms (srcAv l) := AV.elms_map (f := fun d : Nd => AV.sl (natAv d.src)) (fun _ => rfl) l
set_option maxHeartbeats 4000000 in
theorem sources_g {c : Cod} {cols : List Int} (h : CodOk c cols) : Gives Tryz.prog 58 [c.av] (.tup [.sl (srcAv (qv c)), .int (rootC c)]) := by
  unfold qv rootC
  obtain ⟨ins, types, out⟩ := c
  have hni := h.ni
  have hnt := h.nt
  simp only at hni hnt
  have hsz : 8 * types.length ≤ 281474976710656 := by omega
  have hsz1 : 1 * types.length ≤ 281474976710656 := by omega
  have hal := h.all
  have o0 : 0 ≤ out := h.out0
  have o1 : out < types.length := h.out1
  have o2 := h.out2
  simp only at hal o2
  simp only
  refine qn Tryz.func58 Tryz.ntmps58 rfl rfl (by decide) rfl (by intro n; simp) fun σ n0 hcl hft => ?_
  repeat' (first | ((first | ((with_reducible refine qo (fun hg => ?_) (fun hg => ?_)) <;> (try simp only [hg]) <;> (try simp only [gS] at hg) <;> (try (first | simp only [eq_false hg, gI] | simp only [eq_true hg, gI]))) | (with_reducible first | refine qf ?_ | refine qe ?_ | refine qk ?_ | refine qj ?_) | refine qc ?_ | refine qh ?_ | refine qi ?_ | refine qm ?_) <;> (try simp (disch := first | omega | simp) [qg, -qq, -qr, hsz, hsz1])) | ((with_reducible refine sideT ?_ ?_); first | omega | assumption | (simp; done)) | (refine qd fun K hK => ?_) | (refine qa ?_) | refine ql ?_ | ((first | refine hK _ ?_ | (clear hK K; refine hK _ ?_) | (clear hK K; clear hK K; refine hK _ ?_)); clear hK K) | refine qb ?_)
  refine qs hcl (fun b : Nat × List Int => [(1, .ptr n0 0), (4, .own (n0 + 1) types.length), (16, .own (n0 + 1) types.length), (17, .int types.length), (18, .int b.1)])
    (fun b => [.cells [.sl (ins.map Ins.av), .sl (types.map AV.int), .int out] 45, .vec (b.2.map AV.int) 3 1])
    (fun b => b.1 ≤ types.length ∧ b.2.length = types.length) (fun b => types.length - b.1) (0, List.replicate types.length 0) ⟨by omega, by simp⟩ (by simp) fun ⟨k, G⟩ ⟨hk, hG⟩ => ?_
  simp only at hk hG
  by_cases hlt : k < types.length
  · repeat' (first | ((first | ((with_reducible refine qo (fun hg => ?_) (fun hg => ?_)) <;> (try simp only [hg]) <;> (try simp only [gS] at hg) <;> (try (first | simp only [eq_false hg, gI] | simp only [eq_true hg, gI]))) | (with_reducible first | refine qf ?_ | refine qe ?_ | refine qk ?_ | refine qj ?_) | refine qc ?_ | refine qh ?_ | refine qi ?_ | refine qm ?_) <;> (try simp (disch := first | omega | simp) [qg, -qq, -qr, hlt, hG])) | ((with_reducible refine sideT ?_ ?_); first | omega | assumption | (simp; done)) | (refine qd fun K hK => ?_) | (refine qa ?_) | refine ql ?_ | ((first | refine hK _ ?_ | (clear hK K; refine hK _ ?_) | (clear hK K; clear hK K; refine hK _ ?_)); clear hK K) | refine qb ?_)
    exact ⟨k + 1, G.set k (-1), ⟨by omega, by rw [List.length_set]; exact hG⟩, by omega, by rw [List.map_set], by omega⟩
  · repeat' (first | ((first | ((with_reducible refine qo (fun hg => ?_) (fun hg => ?_)) <;> (try simp only [hg]) <;> (try simp only [gS] at hg) <;> (try (first | simp only [eq_false hg, gI] | simp only [eq_true hg, gI]))) | (with_reducible first | refine qf ?_ | refine qe ?_ | refine qk ?_ | refine qj ?_) | refine qc ?_ | refine qh ?_ | refine qi ?_ | refine qm ?_) <;> (try simp (disch := first | omega | simp) [qg, -qq, -qr, hlt, hG])) | ((with_reducible refine sideT ?_ ?_); first | omega | assumption | (simp; done)) | (refine qd fun K hK => ?_) | (refine qa ?_) | refine ql ?_ | ((first | refine hK _ ?_ | (clear hK K; refine hK _ ?_) | (clear hK K; clear hK K; refine hK _ ?_)); clear hK K) | refine qb ?_)
    refine qbk 6 22 1 (by simp) ?_
    refine qs hcl (fun b : Nat × List Int => [(1, .ptr n0 0), (4, .own (n0 + 1) types.length), (6, .gs (n0 + 2) (srcAv (nodes (ins.take b.1) 0 (List.replicate types.length 0)))), (26, .sl (ins.map Ins.av)), (27, .int ins.length), (28, .int b.1)])
      (fun b => [.cells [.sl (ins.map Ins.av), .sl (types.map AV.int), .int out] 45, .vec (b.2.map AV.int) 3 1, .tail b.1 22 1])
      (fun b => b.1 ≤ ins.length ∧ b.2.length = types.length ∧ ∀ r : Nat, (doneL (ins.take b.1) (List.replicate types.length false)).getD r false = true → b.2[r]? = some ((lastL (ins.take b.1) 0 (List.replicate types.length 0)).getD r 0 : Int))
      (fun b => ins.length - b.1) (0, G) ⟨by omega, hG, fun r hr => (no_done hr).elim⟩ (by simp [nodes, srcAv]) fun ⟨k, G⟩ ⟨hk, hG, hR⟩ => ?_
    simp only at hk hG hR
    by_cases hlt2 : k < ins.length
    · have hx := AllOk.at ins k _ hlt2 hal
      have c2 := ops_g ins[k]
      have t0 := hx.to0
      have t1 : ins[k].to < types.length := hx.to1
      repeat' (first | ((first | ((with_reducible refine qo (fun hg => ?_) (fun hg => ?_)) <;> (try simp only [hg]) <;> (try simp only [gS] at hg) <;> (try (first | simp only [eq_false hg, gI] | simp only [eq_true hg, gI]))) | (with_reducible first | refine qf ?_ | refine qe ?_ | refine qk ?_ | refine qj ?_) | refine acall (c2) ?_ | refine qp (c2) ?_ | refine qc ?_ | refine qh ?_ | refine qi ?_ | refine qm ?_) <;> (try simp (disch := first | omega | simp) [qg, -qq, -qr, hlt2, hG])) | ((with_reducible refine sideT ?_ ?_); first | omega | assumption | (simp; done)) | (refine qd fun K hK => ?_) | (refine qa ?_) | refine ql ?_ | ((first | refine hK _ ?_ | (clear hK K; refine hK _ ?_) | (clear hK K; clear hK K; refine hK _ ?_)); clear hK K) | refine qb ?_)
      refine qbk 9 3 1 (by simp) ?_
      have htk : ins.take (k + 1) = ins.take k ++ [ins[k]] := List.take_succ_eq_append_getElem hlt2
      have hxa := hx.args
      have hol : (opsP ins[k]).length ≤ 3 := by rw [qep]; split <;> first | exact arO_le _ | omega
      generalize hops : opsP ins[k] = ops at *
      have hnew : nodes (ins.take (k + 1)) 0 (List.replicate types.length 0) = nodes (ins.take k) 0 (List.replicate types.length 0) ++ [⟨ins[k], ops.map fun r => (lastL (ins.take k) 0 (List.replicate types.length 0)).getD r.toNat 0⟩] := by rw [htk, nodes_snoc, hops]
      have hstep : ∀ r : Nat, (doneL (ins.take (k + 1)) (List.replicate types.length false)).getD r false = true → (G.set ins[k].to.toNat k)[r]? = some ((lastL (ins.take (k + 1)) 0 (List.replicate types.length 0)).getD r 0 : Int) := fun r hr => by
        rw [htk, doneL_snoc, qy] at hr
        rw [htk, lastL_snoc, qy, List.length_take, lastL_len, List.length_replicate]
        by_cases he : ins[k].to.toNat = r
        · subst he
          rw [List.getElem?_set_self (by omega), if_pos ⟨rfl, by omega⟩]
          congr 1; omega
        · rw [if_neg (fun h => he h.1)] at hr ⊢
          rw [List.getElem?_set_ne he]
          exact hR r hr
      generalize hLN : lastL (ins.take k) 0 (List.replicate types.length 0) = LN at *
      generalize hND : nodes (ins.take k) 0 (List.replicate types.length 0) = ND at *
      have hNl : ND.length = k := by rw [← hND, qbp, List.length_take]; omega
      obtain ⟨S, hS⟩ : ∃ S, S = ops.map fun r => LN.getD r.toNat 0 := ⟨_, rfl⟩
      have hSl : S.length = ops.length := by rw [hS, List.length_map]
      have hSj : ∀ j (h : j < ops.length), S[j]'(by omega) = LN.getD ops[j].toNat 0 := fun j h => by simp [hS]
      rw [← hS] at hnew
      clear hS
      refine qs hcl (fun j : Nat => [(1, .ptr n0 0), (4, .own (n0 + 1) types.length), (6, .gs (n0 + 2) (srcAv ND)), (7, .int k), (8, .ptr (n0 + 3) 0), (9, .gs (n0 + 4) (natAv (S.take j))), (26, .sl (ins.map Ins.av)), (27, .int ins.length), (28, .int k), (34, .sl (ops.map AV.int)), (35, .int ops.length), (36, .int j)])
        (fun j => [.cells [.sl (ins.map Ins.av), .sl (types.map AV.int), .int out] 45, .vec (G.map AV.int) 3 1, .tail k 22 1, .cells [.int ins[k].op, .int ins[k].to, .int ins[k].a, .int ins[k].b, .int ins[k].c, .int ins[k].n, .str ins[k].s] 78, .tail j 3 1])
        (fun j => j ≤ ops.length) (fun j => ops.length - j) 0 (by omega) (by simp [natAv]) fun j hj => ?_
      by_cases hlt3 : j < ops.length
      · obtain ⟨r0, r1, r2⟩ := hxa ops[j] (List.getElem_mem _)
        have hg0 := hR _ r2
        have hg : G[ops[j].toNat]'(by omega) = ((S[j]'(by omega) : Nat) : Int) := by rw [hSj j hlt3]; exact (List.getElem?_eq_some_iff.1 hg0).2
        have hsn : natAv (S.take (j + 1)) = natAv (S.take j) ++ [.int (S[j]'(by omega) : Nat)] := by
          unfold natAv; rw [List.take_succ_eq_append_getElem (by omega), List.map_append]; rfl
        repeat' (first | ((first | ((with_reducible refine qo (fun hg => ?_) (fun hg => ?_)) <;> (try simp only [hg]) <;> (try simp only [gS] at hg) <;> (try (first | simp only [eq_false hg, gI] | simp only [eq_true hg, gI]))) | (with_reducible first | refine qf ?_ | refine qe ?_ | refine qk ?_ | refine qj ?_) | refine qc ?_ | refine qh ?_ | refine qi ?_ | refine qm ?_) <;> (try simp (disch := first | omega | simp) [qg, -qq, -qr, hlt3, hG, r0, r1, hg])) | ((with_reducible refine sideT ?_ ?_); first | omega | assumption | (simp; done)) | (refine qd fun K hK => ?_) | (refine qa ?_) | refine ql ?_ | ((first | refine hK _ ?_ | (clear hK K; refine hK _ ?_) | (clear hK K; clear hK K; refine hK _ ?_)); clear hK K) | refine qb ?_)
        refine ⟨j + 1, by omega, by omega, ?_⟩
        rw [hsn]; simp
      · obtain rfl : j = ops.length := by omega
        rw [List.take_of_length_le (by omega)]
        repeat' (first | ((first | ((with_reducible refine qo (fun hg => ?_) (fun hg => ?_)) <;> (try simp only [hg]) <;> (try simp only [gS] at hg) <;> (try (first | simp only [eq_false hg, gI] | simp only [eq_true hg, gI]))) | (with_reducible first | refine qf ?_ | refine qe ?_ | refine qk ?_ | refine qj ?_) | refine qc ?_ | refine qh ?_ | refine qi ?_ | refine qm ?_) <;> (try simp (disch := first | omega | simp) [qg, -qq, -qr, hlt3, hG, t0, t1])) | ((with_reducible refine sideT ?_ ?_); first | omega | assumption | (simp; done)) | (refine qd fun K hK => ?_) | (refine qa ?_) | refine ql ?_ | ((first | refine hK _ ?_ | (clear hK K; refine hK _ ?_) | (clear hK K; clear hK K; refine hK _ ?_)); clear hK K) | refine qb ?_)
        refine ⟨k + 1, G.set ins[k].to.toNat k, ⟨by omega, by rw [List.length_set]; exact hG, hstep⟩, by omega, ?_⟩
        rw [hnew]; simp [srcAv, List.map_set, hNl]
    · obtain rfl : k = ins.length := by omega
      rw [List.take_length] at hR
      have hg0 := hR _ o2
      have hg : G[out.toNat]'(by omega) = ((lastL ins 0 (List.replicate types.length 0)).getD out.toNat 0 : Int) := (List.getElem?_eq_some_iff.1 hg0).2
      rw [List.take_length]
      repeat' (first | ((first | ((with_reducible refine qo (fun hg => ?_) (fun hg => ?_)) <;> (try simp only [hg]) <;> (try simp only [gS] at hg) <;> (try (first | simp only [eq_false hg, gI] | simp only [eq_true hg, gI]))) | (with_reducible first | refine qf ?_ | refine qe ?_ | refine qk ?_ | refine qj ?_) | refine qc ?_ | refine qh ?_ | refine qi ?_ | refine qm ?_) <;> (try simp (disch := first | omega | simp) [qg, -qq, -qr, hlt2, hG, o0, o1, hg])) | ((with_reducible refine sideT ?_ ?_); first | omega | assumption | (simp; done)) | (refine qd fun K hK => ?_) | (refine qa ?_) | refine ql ?_ | ((first | refine hK _ ?_ | (clear hK K; refine hK _ ?_) | (clear hK K; clear hK K; refine hK _ ?_)); clear hK K) | refine qb ?_)
end Go.Proofs.YtnkimlkoijfcpaaGreatDoor

/- A slice beside nil: what is not empty is not nil; what is empty may be. -/
namespace Go.Proofs.YtnkimlkoijfcpaaGreatDoor
open Go.RowKit Go.Lib
theorem eop_nil {P : Program} {s : AS} {op : BinOp} {t u : TypeId} {x y : Operand} {l : List AV} {K : AV → AS → Prop} (hop : op = .eql ∨ op = .neq) (ht : (einfo P t).isSome = true) (hx : (s.eval x).list = some l) (hy : s.eval y = .v (.slice none 0 0)) (hK : ∀ b : Bool, (b = true → l = []) → K (.v (.bool (if op = .eql then b else !b))) s) :
    EOp P s (.binOp op t x y u) K := by
  intro X0 a w X oper ho hc Q
  have hw := hc.w
  subst hw
  have h1 := hc.eval x
  have h2 := hc.eval y
  rw [hy, RR.v] at h2
  obtain ⟨e, he⟩ : ∃ e, P.underlying t = some (.slice e) := by
    unfold einfo at ht
    split at ht
    · exact ⟨_, ‹_›⟩
    · cases ht
  have key : ∃ A n cap, a.eval x = .slice A n cap ∧ (0 < l.length → A.isNone = false) := by
    cases hev : s.eval x <;> rw [hev] at hx <;> try (cases hx; done)
    · cases hx
      rw [hev] at h1
      have h3 : RC X (.sl l) [a.eval x] := h1
      rw [RC] at h3
      obtain ⟨A, cap, b, off, e1, -, -, h4, -⟩ := h3
      simp at e1
      exact ⟨A, _, cap, e1, fun h => by rw [h4 h]; rfl⟩
    · rename_i r _
      cases hx
      rw [hev] at h1
      have h3 : RC X (.gs r l) [a.eval x] := h1
      rw [RC] at h3
      obtain ⟨A, cap, b, off, e1, -, -, h4, -⟩ := h3
      simp at e1
      exact ⟨A, _, cap, e1, fun h => by rw [h4 h]; rfl⟩
  obtain ⟨A, n, cap, hA, hn⟩ := key
  have hrun : (execOp a.eval oper).run P X.w = .ok (.value (.bool (if op = .eql then A.isNone else !A.isNone))) X.w := by
    have hq : ∀ w, (Op.equal t (.slice A n cap) (.slice none 0 0)).run P w = .ok A.isNone w := fun w => by
      unfold Op.equal
      rw [show Op.maxDepth = 9999 + 1 from rfl, Op.equalIn]
      cases A <;> simp [underlying, he]
    rcases hop with rfl | rfl
    · simp [execOp, ho, hA, h2, eqGuard, binOp, hq]
    · simp [execOp, ho, hA, h2, eqGuard, binOp, hq]
  refine qbj hrun ⟨_, _, s, X, rfl, hK A.isNone fun h => ?_, hc, RR.v.2 rfl⟩
  cases l with
  | nil => rfl
  | cons z zs => rw [hn (by simp)] at h; cases h
def aevN (P : Program) (s : AS) (o : Op) (K : AV → AS → Prop) : Prop :=
  match o with
  | .binOp op t x y u => match (s.eval x).list, s.eval y with
    | some l, .v (.slice none 0 0) => (op = .eql ∨ op = .neq) ∧ (einfo P t).isSome = true ∧ ∀ b : Bool, (b = true → l = []) → K (.v (.bool (if op = .eql then b else !b))) s
    | _, _ => aev P s (.binOp op t x y u) K
  | o => aev P s o K
theorem aevN_sound {P : Program} {s : AS} {o : Op} {K : AV → AS → Prop} (h : aevN P s o K) : EOp P s o K := by
  unfold aevN at h
  split at h
  · split at h
    · exact eop_nil h.1 h.2.1 ‹_› ‹_› h.2.2
    · exact qcf h
  · exact qcf h
def aseqN (P : Program) (ops : Array Oper) (K : AS → Prop) : List Oper → AS → Prop
  | [], s => K s
  | o :: l, s => match awant ops o s.t with
    | some b => qbz b (aevN P s o.op (fun x s1 => dstOk o.dst s1.n ∧ aseqN P ops K l (s1.put o.dst x))) (dstOk o.dst s.n ∧ aseqN P ops K l (s.put o.dst (.v undef)))
    | none => False
theorem aseqN_sound {P : Program} {ops : Array Oper} {K : AS → Prop} : ∀ {l : List Oper} {s : AS}, aseqN P ops K l s → aseq P ops K l s
  | [], _, h => h
  | o :: l, s, h => by
    rw [aseqN] at h
    rw [aseq]
    split at h
    · rename_i b hb
      cases b with
      | true => exact ⟨true, hb, (aevN_sound (h.1 rfl)).mono fun x s1 ⟨h1, h2⟩ => ⟨h1, aseqN_sound h2⟩⟩
      | false => exact ⟨false, hb, (h.2 rfl).1, aseqN_sound (h.2 rfl).2⟩
    · exact h.elim
theorem awp_regionN {P : Program} {s : AS} {id : Nat} {l : List Oper} {Q : Exit → AS → Prop} (h : aseqN P l.toArray (Q .normal) l s) : awp P (.region id l.toArray false) Q s := qcm (aseqN_sound h)
theorem aseqN_step {P : Program} {ops : Array Oper} {K : AS → Prop} {o : Oper} {l : List Oper} {s : AS} (h : match awant ops o s.t with
    | some b => qbz b (aevN P s o.op (fun x s1 => dstOk o.dst s1.n ∧ aseqN P ops K l (s1.put o.dst x))) (dstOk o.dst s.n ∧ aseqN P ops K l (s.put o.dst (.v undef)))
    | none => False) : aseqN P ops K (o :: l) s := h
theorem aseqN_end {P : Program} {ops : Array Oper} {K : AS → Prop} {s : AS} (h : K s) : aseqN P ops K [] s := h
theorem nil_split {P : Program} {ops : Array Oper} {K : AS → Prop} {l : List Oper} {s s' : AS} {C : Prop} (h1 : aseqN P ops K l s) (h2 : C → aseqN P ops K l s') : aseqN P ops K l s ∧ (C → aseqN P ops K l s') := ⟨h1, h2⟩
attribute [simp] aevN
end Go.Proofs.YtnkimlkoijfcpaaGreatDoor

/- Walks of layer 25: Needed, Trim. -/
namespace Go.Proofs.YtnkimlkoijfcpaaGreatDoor
open Go.RowKit Go.Lib
theorem cls_set {m : Nat} {l : List AV} {x : AV} {i : Nat} (h : AV.cls m l) (hx : x.cl m) : AV.cls m (l.set i x) := AV.cls_iff.2 fun y hy => by
  rcases List.mem_or_eq_of_mem_set hy with hy | rfl
  · exact AV.cls_iff.1 h y hy
  · exact hx
theorem setAll_snoc (need : List Bool) (l : List Nat) (k : Nat) : qbr need (l ++ [k]) = (qbr need l).set k true := by unfold qbr; rw [List.foldl_append]; rfl
theorem trimI_snoc (need : List Bool) : ∀ (l : List Ins) (x : Ins) (i : Nat), trimI need (l ++ [x]) i = trimI need l i ++ if need.getD (i + l.length) false then [x] else []
  | [], x, i => by rw [List.nil_append, trimI, trimI]; simp [trimI]
  | y :: l, x, i => by
    rw [List.cons_append, trimI, trimI, trimI_snoc need l, List.length_cons, show i + 1 + l.length = i + (l.length + 1) by omega]
    cases need.getD i false <;> simp
theorem trimI_le (need : List Bool) : ∀ (l : List Ins) (i : Nat), (trimI need l i).length ≤ l.length
  | [], _ => by simp [trimI]
  | y :: l, i => by have := trimI_le need l (i + 1); rw [trimI]; split <;> simp <;> omega
theorem nodes_src : ∀ (l : List Ins) (i : Nat) (last : List Nat), ∀ d ∈ nodes l i last, d.src.length ≤ 3
  | [], _, _, d, hd => by cases hd
  | x :: l, i, last, d, hd => by
    rw [nodes] at hd
    rcases List.mem_cons.1 hd with rfl | hd
    · rw [List.length_map, qep]; split <;> first | exact arO_le _ | omega
    · exact nodes_src l _ _ d hd
set_option maxRecDepth 10000 in
set_option maxHeartbeats 4000000 in
theorem needed_g {c : Cod} {cols : List Int} (h : CodOk c cols) : Gives Tryz.prog 23 [c.av] (.sl ((needP (qv c) (rootC c)).map AV.bool)) := by
  have c1 := sources_g h
  have hro := (h.val_res 0 []).1
  have hdl : (qv c).length = c.ins.length := by unfold qv; exact qbp _ _ _
  have hea := h.early
  have hs3 : ∀ d ∈ qv c, d.src.length ≤ 3 := nodes_src _ _ _
  have hni := h.ni
  obtain ⟨R, hR⟩ : ∃ R, R = needP (qv c) (rootC c) := ⟨_, rfl⟩
  rw [← hR]
  unfold needP at hR
  generalize qv c = ds at *
  generalize rootC c = root at *
  obtain ⟨ins, types, out⟩ := c
  simp only at hro hdl hni
  have hsz1 : 1 * ins.length ≤ 281474976710656 := by omega
  refine qn Tryz.func23 Tryz.ntmps23 rfl rfl (by decide) rfl (by intro n; simp) fun σ n0 hcl hft => ?_
  repeat' (first | ((first | ((with_reducible refine qo (fun hg => ?_) (fun hg => ?_)) <;> (try simp only [hg]) <;> (try simp only [gS] at hg) <;> (try (first | simp only [eq_false hg, gI] | simp only [eq_true hg, gI]))) | (with_reducible first | refine qf ?_ | refine qe ?_ | refine qk ?_ | refine qj ?_) | refine acall (c1) ?_ | refine qp (c1) ?_ | refine qc ?_ | refine qh ?_ | refine qi ?_ | refine qm ?_) <;> (try simp (disch := first | omega | simp) [qg, -qq, -qr, hsz1, hro])) | ((with_reducible refine sideT ?_ ?_); first | omega | assumption | (simp; done)) | (refine qd fun K hK => ?_) | (refine qa ?_) | refine ql ?_ | ((first | refine hK _ ?_ | (clear hK K; refine hK _ ?_) | (clear hK K; clear hK K; refine hK _ ?_)); clear hK K) | refine qb ?_)
  refine qs hcl (fun b : Nat × Int × List Bool => [(3, .sl (srcAv ds)), (5, .own (n0 + 1) ins.length), (6, .int b.2.1)])
    (fun b => [.cells [.sl (ins.map Ins.av), .sl (types.map AV.int), .int out] 45, .vec (b.2.2.map AV.bool) 4 1])
    (fun b => b.1 ≤ ins.length ∧ b.2.1 = (b.1 : Int) - 1 ∧ b.2.2.length = ins.length ∧ R = needI ds b.1 b.2.2) (fun b => b.1) (ins.length, (ins.length : Int) - 1, (List.replicate ins.length false).set root true)
    ⟨by omega, rfl, by simp, by rw [hR, hdl]⟩ (by simp [AV.cls_map]; exact cls_set (AV.cls_replicate (by simp)) (by simp)) fun ⟨k, i, G⟩ ⟨hk, hi, hG, hRk⟩ => ?_
  simp only at hk hi hG hRk
  by_cases hi0 : 0 ≤ i
  · obtain ⟨m, rfl⟩ : ∃ m : Nat, i = m := ⟨i.toNat, by omega⟩
    obtain rfl : k = m + 1 := by omega
    have hm : m < ins.length := by omega
    have hmd : m < ds.length := by omega
    have hGm : G.getD m false = G[m]'(by omega) := by rw [List.getD_eq_getElem?_getD, List.getElem?_eq_getElem (by omega)]; rfl
    rw [needI, hGm] at hRk
    cases hg : G[m]'(by omega)
    · rw [hg, if_neg (by simp)] at hRk
      repeat' (first | ((first | ((with_reducible refine qo (fun hg => ?_) (fun hg => ?_)) <;> (try simp only [hg]) <;> (try simp only [gS] at hg) <;> (try (first | simp only [eq_false hg, gI] | simp only [eq_true hg, gI]))) | (with_reducible first | refine qf ?_ | refine qe ?_ | refine qk ?_ | refine qj ?_) | refine qc ?_ | refine qh ?_ | refine qi ?_ | refine qm ?_) <;> (try simp (disch := first | omega | simp) [qg, -qq, -qr, hG, hm, hg])) | ((with_reducible refine sideT ?_ ?_); first | omega | assumption | (simp; done)) | (refine qd fun K hK => ?_) | (refine qa ?_) | refine ql ?_ | ((first | refine hK _ ?_ | (clear hK K; refine hK _ ?_) | (clear hK K; clear hK K; refine hK _ ?_)); clear hK K) | refine qb ?_)
      exact ⟨m, (m : Int) - 1, G, ⟨by omega, rfl, hG, hRk⟩, by omega, rfl, rfl⟩
    · rw [hg, if_pos rfl] at hRk
      have hsd : (ds.getD m ⟨⟨0, 0, 0, 0, 0, 0, ByteArray.empty⟩, []⟩).src = ds[m].src := by rw [List.getD_eq_getElem?_getD, List.getElem?_eq_getElem hmd]; rfl
      have hse : ∀ k ∈ ds[m].src, k < m := fun k hk => hea m hmd k (by unfold srcOf; rw [hsd]; exact hk)
      rw [hsd] at hRk
      have hsl3 := hs3 ds[m] (List.getElem_mem _)
      generalize hsrc : ds[m].src = src at *
      repeat' (first | ((first | ((with_reducible refine qo (fun hg => ?_) (fun hg => ?_)) <;> (try simp only [hg]) <;> (try simp only [gS] at hg) <;> (try (first | simp only [eq_false hg, gI] | simp only [eq_true hg, gI]))) | (with_reducible first | refine qf ?_ | refine qe ?_ | refine qk ?_ | refine qj ?_) | refine qc ?_ | refine qh ?_ | refine qi ?_ | refine qm ?_) <;> (try simp (disch := first | omega | simp) [qg, -qq, -qr, hG, hm, hg, hmd, hsrc])) | ((with_reducible refine sideT ?_ ?_); first | omega | assumption | (simp; done)) | (refine qd fun K hK => ?_) | (refine qa ?_) | refine ql ?_ | ((first | refine hK _ ?_ | (clear hK K; refine hK _ ?_) | (clear hK K; clear hK K; refine hK _ ?_)); clear hK K) | refine qb ?_)
      refine qs hcl (fun j : Nat => [(3, .sl (srcAv ds)), (5, .own (n0 + 1) ins.length), (6, .int m), (37, .sl (natAv src)), (38, .int src.length), (39, .int j)])
        (fun j => [.cells [.sl (ins.map Ins.av), .sl (types.map AV.int), .int out] 45, .vec ((qbr G (src.take j)).map AV.bool) 4 1])
        (fun j => j ≤ src.length) (fun j => src.length - j) 0 (by omega) (by simp [qbr]) fun j hj => ?_
      have hsl : (qbr G (src.take j)).length = ins.length := by rw [qcv]; exact hG
      by_cases hlt : j < src.length
      · have hs1 := hse src[j] (List.getElem_mem _)
        have hs2 : src[j] < ins.length := by omega
        have hsn : qbr G (src.take (j + 1)) = (qbr G (src.take j)).set src[j] true := by rw [List.take_succ_eq_append_getElem hlt, setAll_snoc]
        repeat' (first | ((first | ((with_reducible refine qo (fun hg => ?_) (fun hg => ?_)) <;> (try simp only [hg]) <;> (try simp only [gS] at hg) <;> (try (first | simp only [eq_false hg, gI] | simp only [eq_true hg, gI]))) | (with_reducible first | refine qf ?_ | refine qe ?_ | refine qk ?_ | refine qj ?_) | refine qc ?_ | refine qh ?_ | refine qi ?_ | refine qm ?_) <;> (try simp (disch := first | omega | simp) [qg, -qq, -qr, hlt, hsl, hs2])) | ((with_reducible refine sideT ?_ ?_); first | omega | assumption | (simp; done)) | (refine qd fun K hK => ?_) | (refine qa ?_) | refine ql ?_ | ((first | refine hK _ ?_ | (clear hK K; refine hK _ ?_) | (clear hK K; clear hK K; refine hK _ ?_)); clear hK K) | refine qb ?_)
        refine ⟨j + 1, by omega, by omega, ?_⟩
        rw [hsn]; simp [List.map_set]
      · obtain rfl : j = src.length := by omega
        rw [List.take_length] at hsl ⊢
        repeat' (first | ((first | ((with_reducible refine qo (fun hg => ?_) (fun hg => ?_)) <;> (try simp only [hg]) <;> (try simp only [gS] at hg) <;> (try (first | simp only [eq_false hg, gI] | simp only [eq_true hg, gI]))) | (with_reducible first | refine qf ?_ | refine qe ?_ | refine qk ?_ | refine qj ?_) | refine qc ?_ | refine qh ?_ | refine qi ?_ | refine qm ?_) <;> (try simp (disch := first | omega | simp) [qg, -qq, -qr, hlt])) | ((with_reducible refine sideT ?_ ?_); first | omega | assumption | (simp; done)) | (refine qd fun K hK => ?_) | (refine qa ?_) | refine ql ?_ | ((first | refine hK _ ?_ | (clear hK K; refine hK _ ?_) | (clear hK K; clear hK K; refine hK _ ?_)); clear hK K) | refine qb ?_)
        exact ⟨m, (m : Int) - 1, qbr G src, ⟨by omega, rfl, hsl, hRk⟩, by omega, rfl, rfl⟩
  · obtain rfl : k = 0 := by omega
    rw [needI] at hRk
    subst hRk
    refine awp_freezeR 5 1 (k := ins.length) (by simp) (by rfl) (by simp [hG]) ?_
    repeat' (first | ((first | ((with_reducible refine qo (fun hg => ?_) (fun hg => ?_)) <;> (try simp only [hg]) <;> (try simp only [gS] at hg) <;> (try (first | simp only [eq_false hg, gI] | simp only [eq_true hg, gI]))) | (with_reducible first | refine qf ?_ | refine qe ?_ | refine qk ?_ | refine qj ?_) | refine qc ?_ | refine qh ?_ | refine qi ?_ | refine qm ?_) <;> (try simp (disch := first | omega | simp) [qg, -qq, -qr, hi0])) | ((with_reducible refine sideT ?_ ?_); first | omega | assumption | (simp; done)) | (refine qd fun K hK => ?_) | (refine qa ?_) | refine ql ?_ | ((first | refine hK _ ?_ | (clear hK K; refine hK _ ?_) | (clear hK K; clear hK K; refine hK _ ?_)); clear hK K) | refine qb ?_)
set_option maxRecDepth 100000 in
theorem cloneI_g (l : List Int) (hl : l.length ≤ 1000000) : Gives Tryz.prog 113 [.sl (l.map AV.int)] (.sl (l.map AV.int)) := by
  have hsz : l.length * 8 ≤ 140737488355328 := by omega
  refine qn Tryz.func113 Tryz.ntmps113 rfl rfl (by decide) rfl (by intro n; simp) fun σ n0 hcl hft => ?_
  repeat' (first | ((first | ((with_reducible refine qo (fun hg => ?_) (fun hg => ?_)) <;> (try simp only [hg]) <;> (try simp only [gS] at hg) <;> (try (first | simp only [eq_false hg, gI] | simp only [eq_true hg, gI]))) | (with_reducible first | refine qf ?_ | refine qe ?_ | refine qk ?_ | refine qj ?_ | refine aseqN_step ?_ | refine aseqN_end ?_) | refine qc ?_ | refine qh ?_ | refine qi ?_ | refine qm ?_) <;> (try simp (disch := first | omega | simp) [qg, -qq, -qr, hsz])) | (with_reducible refine awp_regionN (id := 1) ?_) | ((with_reducible refine sideT ?_ ?_); first | omega | assumption | (simp; done)) | (with_reducible refine nil_split ?_ (fun hnil => ?_); try simp only [hnil]) | (refine qd fun K hK => ?_) | (refine qa ?_) | refine ql ?_ | ((first | refine hK _ ?_ | (clear hK K; refine hK _ ?_) | (clear hK K; clear hK K; refine hK _ ?_)); clear hK K) | refine qb ?_)
  all_goals simp_all
set_option maxHeartbeats 4000000 in
theorem trim_g {c : Cod} {cols : List Int} (h : CodOk c cols) : Gives Tryz.prog 57 [c.av] (trimP c).av := by
  have c1 := needed_g h
  have hnt := h.nt
  have c2 := cloneI_g c.types (by omega)
  have hni := h.ni
  have hnl : (needP (qv c) (rootC c)).length = c.ins.length := by rw [needP_len]; unfold qv; exact qbp _ _ _
  unfold trimP
  generalize needP (qv c) (rootC c) = need at *
  obtain ⟨ins, types, out⟩ := c
  simp only at hnt hni hnl c2
  refine qn Tryz.func57 Tryz.ntmps57 rfl rfl (by decide) rfl (by intro n; simp) fun σ n0 hcl hft => ?_
  repeat' (first | ((first | ((with_reducible refine qo (fun hg => ?_) (fun hg => ?_)) <;> (try simp only [hg]) <;> (try simp only [gS] at hg) <;> (try (first | simp only [eq_false hg, gI] | simp only [eq_true hg, gI]))) | (with_reducible first | refine qf ?_ | refine qe ?_ | refine qk ?_ | refine qj ?_) | refine acall (c2) ?_ | refine qp (c2) ?_ | refine acall (c1) ?_ | refine qp (c1) ?_ | refine qc ?_ | refine qh ?_ | refine qi ?_ | refine qm ?_) <;> (try simp (disch := first | omega | simp) [qg, -qq, -qr])) | ((with_reducible refine sideT ?_ ?_); first | omega | assumption | (simp; done)) | (refine qd fun K hK => ?_) | (refine qa ?_) | refine ql ?_ | ((first | refine hK _ ?_ | (clear hK K; refine hK _ ?_) | (clear hK K; clear hK K; refine hK _ ?_)); clear hK K) | refine qb ?_)
  refine qbf 2 0 78 7 (by rfl) (by rfl) ?_
  obtain ⟨F, hF⟩ : ∃ F : Nat → List Ins, F = fun k => trimI need (ins.take k) 0 := ⟨_, rfl⟩
  have F0 : F 0 = [] := by rw [hF]; rfl
  have F1 : ∀ k (h : k < ins.length), F (k + 1) = F k ++ if need[k]'(by omega) then [ins[k]] else [] := fun k h => by
    have hg : need.getD k false = need[k]'(by omega) := by rw [List.getD_eq_getElem?_getD, List.getElem?_eq_getElem (by omega)]; rfl
    rw [hF]; dsimp only
    rw [List.take_succ_eq_append_getElem h, trimI_snoc, Nat.zero_add, List.length_take, Nat.min_eq_left (by omega), hg]
  have F2 : F ins.length = trimI need ins 0 := by rw [hF]; dsimp only; rw [List.take_length]
  have FL : ∀ k, (F k).length ≤ ins.length := fun k => by
    rw [hF]; have := trimI_le need (ins.take k) 0; rw [List.length_take] at this; dsimp only; omega
  clear hF
  refine qs hcl (fun k : Nat => [(1, .ptr n0 0), (2, .ptr (n0 + 1) 0), (3, .ptr (n0 + 2) 0), (13, .sl (need.map AV.bool)), (14, .int need.length), (15, .int k)])
    (fun k => [.cells [.sl (ins.map Ins.av), .sl (types.map AV.int), .int out] 45, .cells [.v (.slice none 0 0), .v (.slice none 0 0), .int 0] 45, .cells [.gs (n0 + 3) ((F k).map Ins.av), .sl (types.map AV.int), .int out] 45, .tail (F k).length 78 7])
    (fun k => k ≤ ins.length) (fun k => ins.length - k) 0 (by omega) (by simp [F0]) fun k hk => ?_
  by_cases hlt : k < ins.length
  · have hlt2 : k < need.length := by omega
    have f1 := F1 k hlt
    have fl := FL k
    have hz : ((F k).length + 1) * 56 ≤ 140737488355328 := by omega
    cases hnk : need[k]'(by omega)
    · rw [hnk] at f1
      repeat' (first | ((first | ((with_reducible refine qo (fun hg => ?_) (fun hg => ?_)) <;> (try simp only [hg]) <;> (try simp only [gS] at hg) <;> (try (first | simp only [eq_false hg, gI] | simp only [eq_true hg, gI]))) | (with_reducible first | refine qf ?_ | refine qe ?_ | refine qk ?_ | refine qj ?_) | refine qc ?_ | refine qh ?_ | refine qi ?_ | refine qm ?_) <;> (try simp (disch := first | omega | simp) [qg, -qq, -qr, hlt, hlt2, hnk, hz])) | (with_reducible refine qdd (id := 6) false (by kernel_rfl) (by kernel_rfl) ?_) | ((with_reducible refine sideT ?_ ?_); first | omega | assumption | (simp; done)) | (refine qd fun K hK => ?_) | (refine qa ?_) | refine ql ?_ | ((first | refine hK _ ?_ | (clear hK K; refine hK _ ?_) | (clear hK K; clear hK K; refine hK _ ?_)); clear hK K) | refine qb ?_)
      all_goals first | (refine ⟨k + 1, by omega, by omega, ?_⟩; rw [f1]; simp; done) | (exfalso; simp_all; done)
    · rw [hnk] at f1
      repeat' (first | ((first | ((with_reducible refine qo (fun hg => ?_) (fun hg => ?_)) <;> (try simp only [hg]) <;> (try simp only [gS] at hg) <;> (try (first | simp only [eq_false hg, gI] | simp only [eq_true hg, gI]))) | (with_reducible first | refine qf ?_ | refine qe ?_ | refine qk ?_ | refine qj ?_) | refine qc ?_ | refine qh ?_ | refine qi ?_ | refine qm ?_) <;> (try simp (disch := first | omega | simp) [qg, -qq, -qr, hlt, hlt2, hnk, hz])) | (with_reducible refine qdd (id := 6) false (by kernel_rfl) (by kernel_rfl) ?_) | ((with_reducible refine sideT ?_ ?_); first | omega | assumption | (simp; done)) | (refine qd fun K hK => ?_) | (refine qa ?_) | refine ql ?_ | ((first | refine hK _ ?_ | (clear hK K; refine hK _ ?_) | (clear hK K; clear hK K; refine hK _ ?_)); clear hK K) | refine qb ?_)
      all_goals first | (refine ⟨k + 1, by omega, by omega, ?_⟩; rw [f1]; simp; done) | (exfalso; simp_all; done)
  · have hlt2 : ¬ k < need.length := by omega
    obtain rfl : k = ins.length := by omega
    repeat' (first | ((first | ((with_reducible refine qo (fun hg => ?_) (fun hg => ?_)) <;> (try simp only [hg]) <;> (try simp only [gS] at hg) <;> (try (first | simp only [eq_false hg, gI] | simp only [eq_true hg, gI]))) | (with_reducible first | refine qf ?_ | refine qe ?_ | refine qk ?_ | refine qj ?_) | refine qc ?_ | refine qh ?_ | refine qi ?_ | refine qm ?_) <;> (try simp (disch := first | omega | simp) [qg, -qq, -qr, hlt2])) | ((with_reducible refine sideT ?_ ?_); first | omega | assumption | (simp; done)) | (refine qd fun K hK => ?_) | (refine qa ?_) | refine ql ?_ | ((first | refine hK _ ?_ | (clear hK K; refine hK _ ?_) | (clear hK K; clear hK K; refine hK _ ?_)); clear hK K) | refine qb ?_)
    rw [F2]; rfl
end Go.Proofs.YtnkimlkoijfcpaaGreatDoor

/- Walks of layer 25: Needed and Trim, of the reference. -/
namespace Go.Proofs.YtnkimlkoijfcpaaGreatDoor
open Go.RowKit Go.Lib
set_option maxRecDepth 10000 in
set_option maxHeartbeats 8000000 in
theorem rneeded_g {c : Cod} {cols : List Int} (h : CodOk c cols) : Gives Tryz.prog 160 [c.av] (.sl ((needP (qv c) (rootC c)).map AV.bool)) := by
  have hni := h.ni
  have hro := (h.val_res 0 []).1
  have c1 := rlastP_g c c.ins.length c.out (Nat.le_refl _) (by omega)
  have c3 := fun i r hi => rlastP_g c i r hi (by omega)
  rw [root_last h] at c1
  have hdl : (qv c).length = c.ins.length := by unfold qv; exact qbp _ _ _
  have hea := h.early
  have hsrc : ∀ i (hi : i < c.ins.length), (opsP c.ins[i]).map (lastP c.ins i) = (srcOf (qv c) i).map fun k : Nat => (k : Int) := fun i hi => src_last h hi
  obtain ⟨R, hR⟩ : ∃ R, R = needP (qv c) (rootC c) := ⟨_, rfl⟩
  rw [← hR]
  unfold needP at hR
  generalize qv c = ds at *
  generalize rootC c = root at *
  obtain ⟨ins, types, out⟩ := c
  simp only [Cod.av] at *
  have hsz1 : 1 * ins.length ≤ 281474976710656 := by omega
  refine qn Tryz.func160 Tryz.ntmps160 rfl rfl (by decide) rfl (by intro n; simp) fun σ n0 hcl hft => ?_
  repeat' (first | ((first | ((with_reducible refine qo (fun hg => ?_) (fun hg => ?_)) <;> (try simp only [hg]) <;> (try simp only [gS] at hg) <;> (try (first | simp only [eq_false hg, gI] | simp only [eq_true hg, gI]))) | (with_reducible first | refine qf ?_ | refine qe ?_ | refine qk ?_ | refine qj ?_) | refine acall (c1) ?_ | refine qp (c1) ?_ | refine qc ?_ | refine qh ?_ | refine qi ?_ | refine qm ?_) <;> (try simp (disch := first | omega | simp) [qg, -qq, -qr, hsz1, hro])) | ((with_reducible refine sideT ?_ ?_); first | omega | assumption | (simp; done)) | (refine qd fun K hK => ?_) | (refine qa ?_) | refine ql ?_ | ((first | refine hK _ ?_ | (clear hK K; refine hK _ ?_) | (clear hK K; clear hK K; refine hK _ ?_)); clear hK K) | refine qb ?_)
  refine qs hcl (fun b : Nat × Int × List Bool => [(1, .ptr n0 0), (3, .own (n0 + 1) ins.length), (5, .int b.2.1)])
    (fun b => [.cells [.sl (ins.map Ins.av), .sl (types.map AV.int), .int out] 45, .vec (b.2.2.map AV.bool) 4 1])
    (fun b => b.1 ≤ ins.length ∧ b.2.1 = (b.1 : Int) - 1 ∧ b.2.2.length = ins.length ∧ R = needI ds b.1 b.2.2) (fun b => b.1) (ins.length, (ins.length : Int) - 1, (List.replicate ins.length false).set root true)
    ⟨by omega, rfl, by simp, by rw [hR, hdl]⟩ (by simp [AV.cls_map]; exact cls_set (AV.cls_replicate (by simp)) (by simp)) fun ⟨k, i, G⟩ ⟨hk, hi, hG, hRk⟩ => ?_
  simp only at hk hi hG hRk
  by_cases hi0 : 0 ≤ i
  · obtain ⟨m, rfl⟩ : ∃ m : Nat, i = m := ⟨i.toNat, by omega⟩
    obtain rfl : k = m + 1 := by omega
    have hm : m < ins.length := by omega
    have hmd : m < ds.length := by omega
    have hGm : G.getD m false = G[m]'(by omega) := by rw [List.getD_eq_getElem?_getD, List.getElem?_eq_getElem (by omega)]; rfl
    have hsd : (ds.getD m ⟨⟨0, 0, 0, 0, 0, 0, ByteArray.empty⟩, []⟩).src = srcOf ds m := rfl
    have hse := hea m hmd
    have hsm := hsrc m hm
    rw [needI, hGm, hsd] at hRk
    generalize srcOf ds m = src at *
    have c2 := rops_g ins[m]
    have hol : (opsP ins[m]).length ≤ 3 := by have h1 := qep ins[m]; have h2 := arO_le ins[m].op; split at h1 <;> omega
    obtain ⟨x, hx⟩ : ∃ x, x = ins[m] := ⟨_, rfl⟩
    rw [← hx] at c2 hol hsm
    generalize opsP x = O at *
    have hOl : O.length = src.length := by have := congrArg List.length hsm; simpa using this
    have hOs : ∀ j (h1 : j < O.length) (h2 : j < src.length), lastP ins m O[j] = (src[j] : Nat) := fun j h1 h2 => by
      have := congrArg (fun l => l[j]?) hsm
      simpa [h1, h2] using this
    cases hgz : G[m]'(by omega)
    · rw [hgz, if_neg (by simp)] at hRk
      repeat' (first | ((first | ((with_reducible refine qo (fun hg => ?_) (fun hg => ?_)) <;> (try simp only [hg]) <;> (try simp only [gS] at hg) <;> (try (first | simp only [eq_false hg, gI] | simp only [eq_true hg, gI]))) | (with_reducible first | refine qf ?_ | refine qe ?_ | refine qk ?_ | refine qj ?_) | refine acall (c2) ?_ | refine qp (c2) ?_ | refine qc ?_ | refine qh ?_ | refine qi ?_ | refine qm ?_) <;> (try simp (disch := first | omega | simp) [qg, -qq, -qr, hG, hm, hgz, ← hx])) | ((with_reducible refine sideT ?_ ?_); first | omega | assumption | (simp; done)) | (refine qd fun K hK => ?_) | (refine qa ?_) | refine ql ?_ | ((first | refine hK _ ?_ | (clear hK K; refine hK _ ?_) | (clear hK K; clear hK K; refine hK _ ?_)); clear hK K) | refine qb ?_)
      refine qs hcl (fun j : Nat => [(1, .ptr n0 0), (3, .own (n0 + 1) ins.length), (5, .int m), (6, .sl (O.map AV.int)), (7, .int j)])
        (fun j => [.cells [.sl (ins.map Ins.av), .sl (types.map AV.int), .int out] 45, .vec (G.map AV.bool) 4 1])
        (fun j => j = 0) (fun j => 1 - j) 0 rfl (by simp) fun j hj => ?_
      subst hj
      by_cases hO0 : 0 < O.length
      · repeat' (first | ((first | ((with_reducible refine qo (fun hg => ?_) (fun hg => ?_)) <;> (try simp only [hg]) <;> (try simp only [gS] at hg) <;> (try (first | simp only [eq_false hg, gI] | simp only [eq_true hg, gI]))) | (with_reducible first | refine qf ?_ | refine qe ?_ | refine qk ?_ | refine qj ?_) | refine qc ?_ | refine qh ?_ | refine qi ?_ | refine qm ?_) <;> (try simp (disch := first | omega | simp) [qg, -qq, -qr, hO0, hG, hm, hgz])) | ((with_reducible refine sideT ?_ ?_); first | omega | assumption | (simp; done)) | (refine qd fun K hK => ?_) | (refine qa ?_) | refine ql ?_ | ((first | refine hK _ ?_ | (clear hK K; refine hK _ ?_) | (clear hK K; clear hK K; refine hK _ ?_)); clear hK K) | refine qb ?_)
        all_goals exact ⟨m, (m : Int) - 1, G, ⟨by omega, rfl, hG, hRk⟩, by omega, rfl, rfl⟩
      · repeat' (first | ((first | ((with_reducible refine qo (fun hg => ?_) (fun hg => ?_)) <;> (try simp only [hg]) <;> (try simp only [gS] at hg) <;> (try (first | simp only [eq_false hg, gI] | simp only [eq_true hg, gI]))) | (with_reducible first | refine qf ?_ | refine qe ?_ | refine qk ?_ | refine qj ?_) | refine qc ?_ | refine qh ?_ | refine qi ?_ | refine qm ?_) <;> (try simp (disch := first | omega | simp) [qg, -qq, -qr, hO0])) | ((with_reducible refine sideT ?_ ?_); first | omega | assumption | (simp; done)) | (refine qd fun K hK => ?_) | (refine qa ?_) | refine ql ?_ | ((first | refine hK _ ?_ | (clear hK K; refine hK _ ?_) | (clear hK K; clear hK K; refine hK _ ?_)); clear hK K) | refine qb ?_)
        all_goals exact ⟨m, (m : Int) - 1, G, ⟨by omega, rfl, hG, hRk⟩, by omega, rfl, rfl⟩
    · rw [hgz, if_pos rfl] at hRk
      repeat' (first | ((first | ((with_reducible refine qo (fun hg => ?_) (fun hg => ?_)) <;> (try simp only [hg]) <;> (try simp only [gS] at hg) <;> (try (first | simp only [eq_false hg, gI] | simp only [eq_true hg, gI]))) | (with_reducible first | refine qf ?_ | refine qe ?_ | refine qk ?_ | refine qj ?_) | refine acall (c2) ?_ | refine qp (c2) ?_ | refine qc ?_ | refine qh ?_ | refine qi ?_ | refine qm ?_) <;> (try simp (disch := first | omega | simp) [qg, -qq, -qr, hG, hm, hgz, ← hx])) | ((with_reducible refine sideT ?_ ?_); first | omega | assumption | (simp; done)) | (refine qd fun K hK => ?_) | (refine qa ?_) | refine ql ?_ | ((first | refine hK _ ?_ | (clear hK K; refine hK _ ?_) | (clear hK K; clear hK K; refine hK _ ?_)); clear hK K) | refine qb ?_)
      refine qs hcl (fun j : Nat => [(1, .ptr n0 0), (3, .own (n0 + 1) ins.length), (5, .int m), (6, .sl (O.map AV.int)), (7, .int j)])
        (fun j => [.cells [.sl (ins.map Ins.av), .sl (types.map AV.int), .int out] 45, .vec ((qbr G (src.take j)).map AV.bool) 4 1])
        (fun j => j ≤ O.length) (fun j => O.length - j) 0 (by omega) (by simp [qbr]) fun j hj => ?_
      have hsl : (qbr G (src.take j)).length = ins.length := by rw [qcv]; exact hG
      by_cases hlt : j < O.length
      · have hls : j < src.length := by omega
        have hs1 := hse src[j] (List.getElem_mem _)
        have hs2 : src[j] < ins.length := by omega
        have hsn : qbr G (src.take (j + 1)) = (qbr G (src.take j)).set src[j] true := by rw [List.take_succ_eq_append_getElem hls, setAll_snoc]
        have hgm : (qbr G (src.take j))[m]'(by omega) = true := by
          have := (setAll_get (src.take j) G m (by omega)).2 (.inl (by rw [hGm]; exact hgz))
          rw [List.getD_eq_getElem?_getD, List.getElem?_eq_getElem (by omega)] at this
          exact this
        have c4 := c3 m O[j] (by omega)
        rw [hOs j hlt hls] at c4
        repeat' (first | ((first | ((with_reducible refine qo (fun hg => ?_) (fun hg => ?_)) <;> (try simp only [hg]) <;> (try simp only [gS] at hg) <;> (try (first | simp only [eq_false hg, gI] | simp only [eq_true hg, gI]))) | (with_reducible first | refine qf ?_ | refine qe ?_ | refine qk ?_ | refine qj ?_) | refine acall (c4) ?_ | refine qp (c4) ?_ | refine qc ?_ | refine qh ?_ | refine qi ?_ | refine qm ?_) <;> (try simp (disch := first | omega | simp) [qg, -qq, -qr, hlt, hsl, hs2, hgm])) | ((with_reducible refine sideT ?_ ?_); first | omega | assumption | (simp; done)) | (refine qd fun K hK => ?_) | (refine qa ?_) | refine ql ?_ | ((first | refine hK _ ?_ | (clear hK K; refine hK _ ?_) | (clear hK K; clear hK K; refine hK _ ?_)); clear hK K) | refine qb ?_)
        all_goals (refine ⟨j + 1, by omega, by omega, ?_⟩; rw [hsn]; simp [List.map_set])
      · obtain rfl : j = O.length := by omega
        rw [List.take_of_length_le (by omega)] at hsl ⊢
        repeat' (first | ((first | ((with_reducible refine qo (fun hg => ?_) (fun hg => ?_)) <;> (try simp only [hg]) <;> (try simp only [gS] at hg) <;> (try (first | simp only [eq_false hg, gI] | simp only [eq_true hg, gI]))) | (with_reducible first | refine qf ?_ | refine qe ?_ | refine qk ?_ | refine qj ?_) | refine qc ?_ | refine qh ?_ | refine qi ?_ | refine qm ?_) <;> (try simp (disch := first | omega | simp) [qg, -qq, -qr, hlt])) | ((with_reducible refine sideT ?_ ?_); first | omega | assumption | (simp; done)) | (refine qd fun K hK => ?_) | (refine qa ?_) | refine ql ?_ | ((first | refine hK _ ?_ | (clear hK K; refine hK _ ?_) | (clear hK K; clear hK K; refine hK _ ?_)); clear hK K) | refine qb ?_)
        all_goals exact ⟨m, (m : Int) - 1, qbr G src, ⟨by omega, rfl, hsl, hRk⟩, by omega, rfl, rfl⟩
  · obtain rfl : k = 0 := by omega
    rw [needI] at hRk
    subst hRk
    refine awp_freezeR 3 1 (k := ins.length) (by simp) (by rfl) (by simp [hG]) ?_
    repeat' (first | ((first | ((with_reducible refine qo (fun hg => ?_) (fun hg => ?_)) <;> (try simp only [hg]) <;> (try simp only [gS] at hg) <;> (try (first | simp only [eq_false hg, gI] | simp only [eq_true hg, gI]))) | (with_reducible first | refine qf ?_ | refine qe ?_ | refine qk ?_ | refine qj ?_) | refine qc ?_ | refine qh ?_ | refine qi ?_ | refine qm ?_) <;> (try simp (disch := first | omega | simp) [qg, -qq, -qr, hi0])) | ((with_reducible refine sideT ?_ ?_); first | omega | assumption | (simp; done)) | (refine qd fun K hK => ?_) | (refine qa ?_) | refine ql ?_ | ((first | refine hK _ ?_ | (clear hK K; refine hK _ ?_) | (clear hK K; clear hK K; refine hK _ ?_)); clear hK K) | refine qb ?_)
end Go.Proofs.YtnkimlkoijfcpaaGreatDoor
