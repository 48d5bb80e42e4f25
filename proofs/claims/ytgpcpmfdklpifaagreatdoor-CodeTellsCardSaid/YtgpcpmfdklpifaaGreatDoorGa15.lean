/- Walks: the type of an expression, and whether functions are right, as the program finds them. -/
import Derived.Test.YtgpcpmfdklpifaaGreatDoorGa1
import Derived.Test.YtgpcpmfdklpifaaGreatDoorGa14
set_option linter.unusedSimpArgs false
set_option linter.unusedVariables false
namespace Go.Proofs.YtgpcpmfdklpifaaGreatDoor
open Go.RowKit Go.Lib
theorem xkind_g (n : Int) : Gives Tryz.prog 111 [.int n] (.bool (kindB n)) := by
  have e : kindB n = (decide (0 ≤ n) && decide (n < 3)) := rfl
  rw [e]
  by_cases h : 0 ≤ n
  · refine qn Tryz.func111 Tryz.ntmps111 rfl rfl (by decide) rfl (by intro n; simp) fun σ n0 hcl hft => ?_
    repeat' (first | ((first | ((with_reducible refine qo (fun hg => ?_) (fun hg => ?_)) <;> (try simp only [hg]) <;> (try simp only [gS] at hg) <;> (try (first | simp only [eq_false hg, gI] | simp only [eq_true hg, gI]))) | (with_reducible first | refine qc ?_ | refine qb ?_ | refine qi ?_ | refine qh ?_) | refine qe ?_ | refine qj ?_ | refine qk ?_ | refine qm ?_) <;> (try simp (disch := first | omega | simp) [qg, -qq, -qs, h])) | ((with_reducible refine sideT ?_ ?_); first | omega | assumption | (simp; done)) | (refine qf fun K hK => ?_) | (refine qa ?_) | refine ql ?_ | ((first | refine hK _ ?_ | (clear hK K; refine hK _ ?_) | (clear hK K; clear hK K; refine hK _ ?_)); clear hK K) | refine qd ?_)
  · refine qn Tryz.func111 Tryz.ntmps111 rfl rfl (by decide) rfl (by intro n; simp) fun σ n0 hcl hft => ?_
    repeat' (first | ((first | ((with_reducible refine qo (fun hg => ?_) (fun hg => ?_)) <;> (try simp only [hg]) <;> (try simp only [gS] at hg) <;> (try (first | simp only [eq_false hg, gI] | simp only [eq_true hg, gI]))) | (with_reducible first | refine qc ?_ | refine qb ?_ | refine qi ?_ | refine qh ?_) | refine qe ?_ | refine qj ?_ | refine qk ?_ | refine qm ?_) <;> (try simp (disch := first | omega | simp) [qg, -qq, -qs, h])) | ((with_reducible refine sideT ?_ ?_); first | omega | assumption | (simp; done)) | (refine qf fun K hK => ?_) | (refine qa ?_) | refine ql ?_ | ((first | refine hK _ ?_ | (clear hK K; refine hK _ ?_) | (clear hK K; clear hK K; refine hK _ ?_)); clear hK K) | refine qd ?_)
theorem pick_g (l : List Int) (n : Int) : Gives Tryz.prog 148 [.sl (l.map AV.int), .int n] (.tup [.int ((pickT l n).getD 0), .bool (pickT l n).isSome]) := by
  obtain ⟨R, hR⟩ : ∃ R, R = pickT l n := ⟨_, rfl⟩
  rw [← hR]
  unfold pickT at hR
  by_cases h0 : n < 0
  · rw [if_pos h0] at hR
    subst hR
    refine qn Tryz.func148 Tryz.ntmps148 rfl rfl (by decide) rfl (by intro n; simp) fun σ n0 hcl hft => ?_
    repeat' (first | ((first | ((with_reducible refine qo (fun hg => ?_) (fun hg => ?_)) <;> (try simp only [hg]) <;> (try simp only [gS] at hg) <;> (try (first | simp only [eq_false hg, gI] | simp only [eq_true hg, gI]))) | (with_reducible first | refine qc ?_ | refine qb ?_ | refine qi ?_ | refine qh ?_) | refine qe ?_ | refine qj ?_ | refine qk ?_ | refine qm ?_) <;> (try simp (disch := first | omega | simp) [qg, -qq, -qs, h0])) | ((with_reducible refine sideT ?_ ?_); first | omega | assumption | (simp; done)) | (refine qf fun K hK => ?_) | (refine qa ?_) | refine ql ?_ | ((first | refine hK _ ?_ | (clear hK K; refine hK _ ?_) | (clear hK K; clear hK K; refine hK _ ?_)); clear hK K) | refine qd ?_)
  obtain ⟨k, rfl⟩ : ∃ k : Nat, n = k := ⟨n.toNat, by omega⟩
  rw [if_neg h0, Int.toNat_natCast] at hR
  by_cases h1 : k < l.length
  · rw [List.getElem?_eq_getElem h1] at hR
    have c := xkind_g l[k]
    have h3 : ¬ (l.length : Int) ≤ k := by omega
    have h4 : ¬ l.length ≤ k := by omega
    simp only at hR
    generalize kindB l[k] = b at *
    cases b
    · rw [if_neg (by simp)] at hR
      subst hR
      refine qn Tryz.func148 Tryz.ntmps148 rfl rfl (by decide) rfl (by intro n; simp) fun σ n0 hcl hft => ?_
      repeat' (first | ((first | ((with_reducible refine qo (fun hg => ?_) (fun hg => ?_)) <;> (try simp only [hg]) <;> (try simp only [gS] at hg) <;> (try (first | simp only [eq_false hg, gI] | simp only [eq_true hg, gI]))) | (with_reducible first | refine qc ?_ | refine qb ?_ | refine qi ?_ | refine qh ?_) | refine acall (c) ?_ | refine qp (c) ?_ | refine qe ?_ | refine qj ?_ | refine qk ?_ | refine qm ?_) <;> (try simp (disch := first | omega | simp) [qg, -qq, -qs, h0, h1, h3, h4])) | ((with_reducible refine sideT ?_ ?_); first | omega | assumption | (simp; done)) | (refine qf fun K hK => ?_) | (refine qa ?_) | refine ql ?_ | ((first | refine hK _ ?_ | (clear hK K; refine hK _ ?_) | (clear hK K; clear hK K; refine hK _ ?_)); clear hK K) | refine qd ?_)
    · rw [if_pos rfl] at hR
      subst hR
      refine qn Tryz.func148 Tryz.ntmps148 rfl rfl (by decide) rfl (by intro n; simp) fun σ n0 hcl hft => ?_
      repeat' (first | ((first | ((with_reducible refine qo (fun hg => ?_) (fun hg => ?_)) <;> (try simp only [hg]) <;> (try simp only [gS] at hg) <;> (try (first | simp only [eq_false hg, gI] | simp only [eq_true hg, gI]))) | (with_reducible first | refine qc ?_ | refine qb ?_ | refine qi ?_ | refine qh ?_) | refine acall (c) ?_ | refine qp (c) ?_ | refine qe ?_ | refine qj ?_ | refine qk ?_ | refine qm ?_) <;> (try simp (disch := first | omega | simp) [qg, -qq, -qs, h0, h1, h3, h4])) | ((with_reducible refine sideT ?_ ?_); first | omega | assumption | (simp; done)) | (refine qf fun K hK => ?_) | (refine qa ?_) | refine ql ?_ | ((first | refine hK _ ?_ | (clear hK K; refine hK _ ?_) | (clear hK K; clear hK K; refine hK _ ?_)); clear hK K) | refine qd ?_)
  · rw [List.getElem?_eq_none (by omega)] at hR
    subst hR
    have h2 : (l.length : Int) ≤ k := by omega
    refine qn Tryz.func148 Tryz.ntmps148 rfl rfl (by decide) rfl (by intro n; simp) fun σ n0 hcl hft => ?_
    repeat' (first | ((first | ((with_reducible refine qo (fun hg => ?_) (fun hg => ?_)) <;> (try simp only [hg]) <;> (try simp only [gS] at hg) <;> (try (first | simp only [eq_false hg, gI] | simp only [eq_true hg, gI]))) | (with_reducible first | refine qc ?_ | refine qb ?_ | refine qi ?_ | refine qh ?_) | refine qe ?_ | refine qj ?_ | refine qk ?_ | refine qm ?_) <;> (try simp (disch := first | omega | simp) [qg, -qq, -qs, h0, h1, h2])) | ((with_reducible refine sideT ?_ ?_); first | omega | assumption | (simp; done)) | (refine qf fun K hK => ?_) | (refine qa ?_) | refine ql ?_ | ((first | refine hK _ ?_ | (clear hK K; refine hK _ ?_) | (clear hK K; clear hK K; refine hK _ ?_)); clear hK K) | refine qd ?_)
def leafX (c p : List Int) (o n : Int) : Int := if o = 2 then 2 else if o = 3 then (pickT c n).getD 0 else if o = 4 then (pickT p n).getD 0 else if o = 1 then 1 else 0
theorem leaf_eq {c p : List Int} {o n t : Int} {s : ByteArray} (h : leafT c p o n s = some t) : leafX c p o n = t := by
  unfold leafT at h
  unfold leafX
  split at h
  · subst o; simpa using h
  split at h
  · subst o; split at h <;> simp_all
  split at h
  · subst o; simp [h]
  split at h
  · subst o; simp [h]
  split at h
  · subst o; split at h <;> cases h; rfl
  split at h
  · subst o; split at h <;> cases h; rfl
  · cases h
def scopeA (F : List Fn) (c p : List Int) : AV := .agg [.sl (F.map Fn.av), .sl (c.map AV.int), .sl (p.map AV.int)]
set_option maxHeartbeats 4000000 in
theorem leaf_g (F : List Fn) (c p : List Int) (o n : Int) (s : ByteArray) (l : List Ex) : Gives Tryz.prog 133 [scopeA F c p, (Ex.mk o n s l).av] (.tup [.int (leafX c p o n), .bool (leafT c p o n s).isSome]) := by
  have c1 := pick_g c n
  have c2 := pick_g p n
  obtain ⟨X, hX⟩ : ∃ X, X = leafX c p o n := ⟨_, rfl⟩
  obtain ⟨B, hB⟩ : ∃ B, B = (leafT c p o n s).isSome := ⟨_, rfl⟩
  rw [← hX, ← hB]
  unfold leafX at hX
  unfold leafT at hB
  unfold scopeA
  refine qn Tryz.func133 Tryz.ntmps133 rfl rfl (by decide) rfl (by intro n; simp) fun σ n0 hcl hft => ?_
  repeat' (first | ((first | ((with_reducible refine qo (fun hg => ?_) (fun hg => ?_)) <;> (try simp only [hg]) <;> (try simp only [gS] at hg) <;> (try (first | simp only [eq_false hg, gI] | simp only [eq_true hg, gI]))) | (with_reducible first | refine qc ?_ | refine qb ?_ | refine qi ?_ | refine qh ?_) | refine acall (c1) ?_ | refine qp (c1) ?_ | refine acall (c2) ?_ | refine qp (c2) ?_ | refine qe ?_ | refine qj ?_ | refine qk ?_ | refine qm ?_) <;> (try simp (disch := first | omega | simp) [qg, -qq, -qs])) | ((with_reducible refine sideT ?_ ?_); first | omega | assumption | (simp; done)) | (refine qf fun K hK => ?_) | (refine qa ?_) | refine ql ?_ | ((first | refine hK _ ?_ | (clear hK K; refine hK _ ?_) | (clear hK K; clear hK K; refine hK _ ?_)); clear hK K) | refine qd ?_)
  all_goals
    clear c1 c2 hcl hft
    refine ⟨by rw [hX]; simp_all, ?_⟩
    rw [hB]
    clear hX hB
    first | (simp_all; done) | (by_cases q : n = 1 <;> simp_all; done) | (by_cases q : n = 0 <;> simp_all; done) | (by_cases q : (s.size : Int) ≤ 200 <;> simp [*]; done)
def allAre (ts : List Int) (t : Int) (n : Int) : Bool := decide ((ts.length : Int) = n) && !ts.any (· != t)
def operX (o n : Int) (ts : List Int) : Int := if n ≠ 0 then 0 else if o = 6 then 2 else if o = 7 ∨ o = 20 then 0 else if 13 ≤ o ∧ o ≤ 18 then 2 else if o = 19 then 1 else if o = 21 then ts.getD (ts.length - 1) 0 else 0
theorem oper_eq {o n t : Int} {ts : List Int} (h : operT o n ts = some t) : operX o n ts = t := by
  unfold operT at h
  unfold operX
  split at h
  · cases h
  rename_i hn
  rw [if_neg hn]
  split at h
  · subst o; split at h <;> cases h; rfl
  split at h
  · subst o; split at h <;> cases h; rfl
  split at h
  · subst o; split at h <;> cases h; rfl
  split at h
  · rename_i ho; split at h <;> cases h
    rw [if_neg (by omega), if_neg (by omega), if_neg (by omega), if_neg (by omega), if_neg (by omega)]
  split at h
  · rename_i ho
    have : t = 2 := by
      split at h
      · split at h <;> cases h; rfl
      · cases h
    rw [if_neg (by omega), if_neg (by omega), if_pos (by omega), this]
  split at h
  · rename_i ho; split at h <;> cases h
    rw [if_neg (by omega), if_neg (by omega), if_pos (by omega)]
  split at h
  · subst o; split at h <;> cases h; rfl
  split at h
  · subst o
    split at h
    · split at h <;> cases h
      simp
    · cases h
  · cases h
theorem iff_beq {a b : Int} {t : Int} : (if a = b then some t else none).isSome = (a == b) := by
  by_cases h : a = b <;> simp [h]
theorem operX_eqs {o n : Int} {ts : List Int} (hn : n = 0) (ho : o = 13 ∨ o = 14 ∨ o = 15 ∨ o = 16) : operX o n ts = 2 := by
  unfold operX
  rw [if_neg (by omega), if_neg (by omega), if_neg (by omega), if_pos (by omega)]
theorem operT_eqs {o n : Int} (ts : List Int) (hne : 0 < ts.length) (hn : n = 0) (ho : o = 13 ∨ o = 14 ∨ o = 15 ∨ o = 16) : (operT o n ts).isSome = allAre ts ts[0] 2 := by
  unfold operT
  rw [if_neg (by omega), if_neg (by omega), if_neg (by omega), if_neg (by omega), if_neg (by omega), if_pos (by omega)]
  match ts, hne with
  | [a], _ => simp [allAre]
  | [a, b], _ =>
    by_cases h : a = b
    · subst h; simp [allAre]
    · have : ¬ b = a := fun e => h e.symm
      simp [allAre, h, this]
  | a :: b :: d :: l, _ => simp [allAre]; omega
theorem oper_none {o n : Int} {ts : List Int} (hn : n = 0) (h : o ≠ 6 ∧ o ≠ 7 ∧ o ≠ 20 ∧ o ≠ 21 ∧ ¬ (8 ≤ o ∧ o ≤ 19)) : operX o n ts = 0 ∧ (operT o n ts).isSome = false := by
  subst hn
  unfold operX operT
  rw [if_neg (by omega), if_neg (by omega), if_neg (by omega), if_neg (by omega), if_neg (by omega), if_neg (by omega), if_neg (by omega), if_neg (by omega), if_neg (by omega), if_neg (by omega), if_neg (by omega), if_neg (by omega), if_neg (by omega), if_neg (by omega), if_neg (by omega)]
  exact ⟨rfl, rfl⟩
theorem len3' {l : List Int} (h : (l.length : Int) = 3) : ∃ a b c, l = [a, b, c] := by
  match l, h with
  | [a, b, c], _ => exact ⟨a, b, c, rfl⟩
  | [], h => simp at h
  | [a], h => simp at h
  | [a, b], h => simp at h
  | a :: b :: c :: d :: l, h => simp at h; omega
theorem operX_last {o n : Int} (ts : List Int) (hne : 0 < ts.length) (hn : n = 0) (ho : o = 21) : operX o n ts = ts[ts.length - 1] := by
  subst hn; subst ho
  have q : ts.length - 1 < ts.length := by omega
  simp [operX, q]
theorem operT_if0 {o n : Int} {ts : List Int} (h : ¬ (ts.length : Int) = 3) (hn : n = 0) (ho : o = 21) : (operT o n ts).isSome = false := by
  subst hn; subst ho
  match ts, h with
  | [], _ => simp [operT]
  | [a], _ => simp [operT]
  | [a, b], _ => simp [operT]
  | [a, b, c], h => simp at h
  | a :: b :: c :: d :: l, _ => simp [operT]
theorem allAre1 (ts : List Int) (t : Int) : allAre ts t 1 = decide (ts = [t]) := by
  unfold allAre
  match ts with
  | [] => rfl
  | [a] => by_cases h : a = t <;> simp [h]
  | a :: b :: l => simp; omega
theorem allAre2 (ts : List Int) (t : Int) : allAre ts t 2 = decide (ts = [t, t]) := by
  unfold allAre
  match ts with
  | [] => rfl
  | [a] => simp
  | [a, b] => by_cases h : a = t <;> by_cases h2 : b = t <;> simp [h, h2]
  | a :: b :: d :: l => simp; omega
theorem other_g (t k : Int) (b : Nat) (σ : Nat → AB) (hb : σ b = .cells [.int t] 3) : qbu Tryz.prog 150 [.int k, .ptr b 0] σ (.bool (k != t)) := by
  refine qbe Tryz.func150 Tryz.ntmps150 rfl rfl (by decide) rfl (by intro n; simp) fun n0 hfin hcl hft => ?_
  have hloc := loc_at hfin hb (by simp)
  repeat' (first | ((first | ((with_reducible refine qo (fun hg => ?_) (fun hg => ?_)) <;> (try simp only [hg]) <;> (try simp only [gS] at hg) <;> (try (first | simp only [eq_false hg, gI] | simp only [eq_true hg, gI]))) | (with_reducible first | refine qc ?_ | refine qb ?_ | refine qi ?_ | refine qh ?_) | refine qe ?_ | refine qj ?_ | refine qk ?_ | refine qm ?_) <;> (try simp (disch := first | omega | simp) [qg, -qq, -qs, hloc])) | ((with_reducible refine sideT ?_ ?_); first | omega | assumption | (simp; done)) | (refine qf fun K hK => ?_) | (refine qa ?_) | refine ql ?_ | ((first | refine hK _ ?_ | (clear hK K; refine hK _ ?_) | (clear hK K; clear hK K; refine hK _ ?_)); clear hK K) | refine qd ?_)
theorem all_g (ts : List Int) (t n : Int) (b : Nat) (σ : Nat → AB) (hb : σ b = .cells [.sl (ts.map AV.int)] 23) (hl : ts.length ≤ 1000000) : qbu Tryz.prog 149 [.int t, .int n, .ptr b 0] σ (.bool (allAre ts t n)) := by
  unfold allAre
  have c1 : ∀ (m : Nat) (τ : Nat → AB), τ m = .cells [.int t] 3 → qbu Tryz.prog 41 [.sl (ts.map AV.int), .fn 150 [.ptr m 0]] τ (.bool (ts.any (· != t))) := fun m τ h =>
    contI_p ts _ _ (by kernel_rfl) m τ h (fun k _ => other_g t k m τ h) hl
  by_cases hn : (ts.length : Int) = n
  · generalize ts.any (· != t) = R at *
    refine qbe Tryz.func149 Tryz.ntmps149 rfl rfl (by decide) rfl (by intro n; simp) fun n0 hfin hcl hft => ?_
    have hloc := loc_at hfin hb (by simp)
    have c2 := c1 n0
    repeat' (first | ((first | ((with_reducible refine qo (fun hg => ?_) (fun hg => ?_)) <;> (try simp only [hg]) <;> (try simp only [gS] at hg) <;> (try (first | simp only [eq_false hg, gI] | simp only [eq_true hg, gI]))) | (with_reducible first | refine qc ?_ | refine qb ?_ | refine qi ?_ | refine qh ?_) | refine acall (c2 _ (by simp)) ?_ | refine qp (c2 _ (by simp)) ?_ | refine qbv (c2 _ (by simp)) ?_ | refine qe ?_ | refine qj ?_ | refine qk ?_ | refine qm ?_) <;> (try simp (disch := first | omega | simp) [qg, -qq, -qs, hloc, hn])) | ((with_reducible refine sideT ?_ ?_); first | omega | assumption | (simp; done)) | (refine qf fun K hK => ?_) | (refine qa ?_) | refine ql ?_ | ((first | refine hK _ ?_ | (clear hK K; refine hK _ ?_) | (clear hK K; clear hK K; refine hK _ ?_)); clear hK K) | refine qd ?_)
  · refine qbe Tryz.func149 Tryz.ntmps149 rfl rfl (by decide) rfl (by intro n; simp) fun n0 hfin hcl hft => ?_
    have hloc := loc_at hfin hb (by simp)
    have hnb : ((ts.length : Int) == n) = false := by simp [hn]
    repeat' (first | ((first | ((with_reducible refine qo (fun hg => ?_) (fun hg => ?_)) <;> (try simp only [hg]) <;> (try simp only [gS] at hg) <;> (try (first | simp only [eq_false hg, gI] | simp only [eq_true hg, gI]))) | (with_reducible first | refine qc ?_ | refine qb ?_ | refine qi ?_ | refine qh ?_) | refine qe ?_ | refine qj ?_ | refine qk ?_ | refine qm ?_) <;> (try simp (disch := first | omega | simp) [qg, -qq, -qs, hloc, hn, hnb])) | ((with_reducible refine sideT ?_ ?_); first | omega | assumption | (simp; done)) | (refine qf fun K hK => ?_) | (refine qa ?_) | refine ql ?_ | ((first | refine hK _ ?_ | (clear hK K; refine hK _ ?_) | (clear hK K; clear hK K; refine hK _ ?_)); clear hK K) | refine qd ?_)
set_option maxHeartbeats 8000000 in
theorem operation_g (o n : Int) (s : ByteArray) (l : List Ex) (ts : List Int) (hne : ts ≠ []) (hl : ts.length ≤ 1000000) : Gives Tryz.prog 134 [(Ex.mk o n s l).av, .sl (ts.map AV.int)] (.tup [.int (operX o n ts), .bool (operT o n ts).isSome]) := by
  have c1 : ∀ (t m : Int) (b : Nat) (τ : Nat → AB), τ b = .cells [.sl (ts.map AV.int)] 23 → qbu Tryz.prog 149 [.int t, .int m, .ptr b 0] τ (.bool (allAre ts t m)) := fun t m b τ h => all_g ts t m b τ h hl
  obtain ⟨X, hX⟩ : ∃ X, X = operX o n ts := ⟨_, rfl⟩
  obtain ⟨B, hB⟩ : ∃ B, B = (operT o n ts).isSome := ⟨_, rfl⟩
  rw [← hX, ← hB]
  have hl0 : 0 < ts.length := List.length_pos_iff.2 hne
  refine qn Tryz.func134 Tryz.ntmps134 rfl rfl (by decide) rfl (by intro n; simp) fun σ n0 hcl hft => ?_
  have c2 := fun t m => c1 t m (n0 + 1)
  repeat' (first | ((first | ((with_reducible refine qo (fun hg => ?_) (fun hg => ?_)) <;> (try simp only [hg]) <;> (try simp only [gS] at hg) <;> (try (first | simp only [eq_false hg, gI] | simp only [eq_true hg, gI]))) | (with_reducible first | refine qc ?_ | refine qb ?_ | refine qi ?_ | refine qh ?_) | refine acall (c2 _ _ _ (by simp)) ?_ | refine qp (c2 _ _ _ (by simp)) ?_ | refine qbv (c2 _ _ _ (by simp)) ?_ | refine qe ?_ | refine qj ?_ | refine qk ?_ | refine qm ?_) <;> (try simp (disch := first | omega | simp) [qg, -qq, -qs, hl0])) | ((with_reducible refine sideT ?_ ?_); first | omega | assumption | (simp; done)) | (refine qf fun K hK => ?_) | (refine qa ?_) | refine ql ?_ | ((first | refine hK _ ?_ | (clear hK K; refine hK _ ?_) | (clear hK K; clear hK K; refine hK _ ?_)); clear hK K) | refine qd ?_)
  all_goals
    clear c1 c2 hcl hft
    rw [hX, hB]
    clear hX hB
    first
      | exact ⟨operX_eqs ‹n = 0› (.inl ‹o = 13›), operT_eqs ts hl0 ‹n = 0› (.inl ‹o = 13›)⟩
      | exact ⟨operX_eqs ‹n = 0› (.inr (.inl ‹o = 14›)), operT_eqs ts hl0 ‹n = 0› (.inr (.inl ‹o = 14›))⟩
      | exact ⟨operX_eqs ‹n = 0› (.inr (.inr (.inl ‹o = 15›))), operT_eqs ts hl0 ‹n = 0› (.inr (.inr (.inl ‹o = 15›)))⟩
      | exact ⟨operX_eqs ‹n = 0› (.inr (.inr (.inr ‹o = 16›))), operT_eqs ts hl0 ‹n = 0› (.inr (.inr (.inr ‹o = 16›)))⟩
      | (obtain rfl := (‹o = 21› : o = 21); obtain rfl := (‹n = 0› : n = 0); obtain ⟨a, b, d, rfl⟩ := len3' (by assumption); simp_all [operX, operT, iff_beq]; done)
      | exact oper_none ‹n = 0› (by omega)
      | exact ⟨operX_last ts hl0 ‹n = 0› ‹o = 21›, operT_if0 (by assumption) ‹n = 0› ‹o = 21›⟩
      | (simp_all [operX, operT, allAre1, allAre2]; done)
      | (obtain rfl := (‹n = 0› : n = 0)
         simp only [*, operX, operT, allAre1, allAre2]
         simp
         done)
      | (obtain rfl := (‹n = 0› : n = 0)
         simp only [*, operX, operT, allAre1, allAre2]
         simp
         split <;> simp_all
         done)
end Go.Proofs.YtgpcpmfdklpifaaGreatDoor

/- Walks: of, typed, Right and Type of the program. -/
namespace Go.Proofs.YtgpcpmfdklpifaaGreatDoor
open Go.RowKit Go.Lib
theorem eqI_g (xs ys : List Int) : Gives Tryz.prog 46 [.sl (xs.map AV.int), .sl (ys.map AV.int)] (.bool (decide (xs = ys))) := by
  by_cases hl : xs.length = ys.length
  · have hlI : (xs.length : Int) = ys.length := by omega
    refine qn Tryz.func46 Tryz.ntmps46 rfl rfl (by decide) rfl (by intro n; simp) fun σ n0 hcl hft => ?_
    have hxs : xs.length ≤ 9223372036854775807 := by
      simp [AV.fitss, AV.fits] at hft
      exact hft.1.1
    repeat' (first | ((first | ((with_reducible refine qo (fun hg => ?_) (fun hg => ?_)) <;> (try simp only [hg]) <;> (try simp only [gS] at hg) <;> (try (first | simp only [eq_false hg, gI] | simp only [eq_true hg, gI]))) | (with_reducible first | refine qc ?_ | refine qb ?_ | refine qi ?_ | refine qh ?_) | refine qe ?_ | refine qj ?_ | refine qk ?_ | refine qm ?_) <;> (try simp (disch := first | omega | simp) [qg, -qq, -qs, hl, hlI])) | ((with_reducible refine sideT ?_ ?_); first | omega | assumption | (simp; done)) | (refine qf fun K hK => ?_) | (refine qa ?_) | refine ql ?_ | ((first | refine hK _ ?_ | (clear hK K; refine hK _ ?_) | (clear hK K; clear hK K; refine hK _ ?_)); clear hK K) | refine qd ?_)
    refine qr hcl (fun k : Nat => [(0, .sl (xs.map AV.int)), (1, .sl (ys.map AV.int)), (12, .int xs.length), (13, .int k)]) (fun _ => [])
      (fun k => k ≤ xs.length ∧ ∀ j (h : j < xs.length) (h2 : j < ys.length), j < k → xs[j] = ys[j]) (fun k => xs.length - k) 0 ⟨by omega, fun j h h2 hj => by omega⟩ (by simp [hl]) fun k ⟨hk, he⟩ => ?_
    by_cases hlt : k < xs.length
    · have hlt2 : k < ys.length := by omega
      by_cases hx : xs[k] = ys[k]
      · repeat' (first | ((first | ((with_reducible refine qo (fun hg => ?_) (fun hg => ?_)) <;> (try simp only [hg]) <;> (try simp only [gS] at hg) <;> (try (first | simp only [eq_false hg, gI] | simp only [eq_true hg, gI]))) | (with_reducible first | refine qc ?_ | refine qb ?_ | refine qi ?_ | refine qh ?_) | refine qe ?_ | refine qj ?_ | refine qk ?_ | refine qm ?_) <;> (try simp (disch := first | omega | simp) [qg, -qq, -qs, hlt, hlt2, hx])) | ((with_reducible refine sideT ?_ ?_); first | omega | assumption | (simp; done)) | (refine qf fun K hK => ?_) | (refine qa ?_) | refine ql ?_ | ((first | refine hK _ ?_ | (clear hK K; refine hK _ ?_) | (clear hK K; clear hK K; refine hK _ ?_)); clear hK K) | refine qd ?_)
        all_goals
          refine ⟨k + 1, ⟨by omega, fun j h h2 hj => ?_⟩, by omega, by simp⟩
          by_cases hjk : j < k
          · exact he j h h2 hjk
          · obtain rfl : j = k := by omega
            exact hx
      · have : ¬ xs = ys := fun e => hx (by subst e; rfl)
        repeat' (first | ((first | ((with_reducible refine qo (fun hg => ?_) (fun hg => ?_)) <;> (try simp only [hg]) <;> (try simp only [gS] at hg) <;> (try (first | simp only [eq_false hg, gI] | simp only [eq_true hg, gI]))) | (with_reducible first | refine qc ?_ | refine qb ?_ | refine qi ?_ | refine qh ?_) | refine qe ?_ | refine qj ?_ | refine qk ?_ | refine qm ?_) <;> (try simp (disch := first | omega | simp) [qg, -qq, -qs, hlt, hlt2, hx, this])) | ((with_reducible refine sideT ?_ ?_); first | omega | assumption | (simp; done)) | (refine qf fun K hK => ?_) | (refine qa ?_) | refine ql ?_ | ((first | refine hK _ ?_ | (clear hK K; refine hK _ ?_) | (clear hK K; clear hK K; refine hK _ ?_)); clear hK K) | refine qd ?_)
        all_goals exact absurd (by assumption) hx
    · have : xs = ys := List.ext_getElem hl fun j h h2 => he j h h2 (by omega)
      repeat' (first | ((first | ((with_reducible refine qo (fun hg => ?_) (fun hg => ?_)) <;> (try simp only [hg]) <;> (try simp only [gS] at hg) <;> (try (first | simp only [eq_false hg, gI] | simp only [eq_true hg, gI]))) | (with_reducible first | refine qc ?_ | refine qb ?_ | refine qi ?_ | refine qh ?_) | refine qe ?_ | refine qj ?_ | refine qk ?_ | refine qm ?_) <;> (try simp (disch := first | omega | simp) [qg, -qq, -qs, hlt])) | ((with_reducible refine sideT ?_ ?_); first | omega | assumption | (simp; done)) | (refine qf fun K hK => ?_) | (refine qa ?_) | refine ql ?_ | ((first | refine hK _ ?_ | (clear hK K; refine hK _ ?_) | (clear hK K; clear hK K; refine hK _ ?_)); clear hK K) | refine qd ?_)
      all_goals simp [this]
  · have hlI : ¬ (xs.length : Int) = ys.length := by omega
    have hne : ¬ xs = ys := fun e => hl (by rw [e])
    refine qn Tryz.func46 Tryz.ntmps46 rfl rfl (by decide) rfl (by intro n; simp) fun σ n0 hcl hft => ?_
    repeat' (first | ((first | ((with_reducible refine qo (fun hg => ?_) (fun hg => ?_)) <;> (try simp only [hg]) <;> (try simp only [gS] at hg) <;> (try (first | simp only [eq_false hg, gI] | simp only [eq_true hg, gI]))) | (with_reducible first | refine qc ?_ | refine qb ?_ | refine qi ?_ | refine qh ?_) | refine qe ?_ | refine qj ?_ | refine qk ?_ | refine qm ?_) <;> (try simp (disch := first | omega | simp) [qg, -qq, -qs, hl, hlI, hne])) | ((with_reducible refine sideT ?_ ?_); first | omega | assumption | (simp; done)) | (refine qf fun K hK => ?_) | (refine qa ?_) | refine ql ?_ | ((first | refine hK _ ?_ | (clear hK K; refine hK _ ?_) | (clear hK K; clear hK K; refine hK _ ?_)); clear hK K) | refine qd ?_)
    all_goals exact absurd (by assumption) hlI
def ofX (F : List Fn) (c p : List Int) : Ex → Int
  | .mk o n s l => match tys F c p l with
    | some ts => if s.size ≠ 0 ∧ o ≠ 1 then 0 else if o = 22 then (callT F n ts).getD 0 else if ts = [] then leafX c p o n else operX o n ts
    | none => 0
theorem ofX_eq {F : List Fn} {c p : List Int} : ∀ {e : Ex} {t : Int}, ty F c p e = some t → ofX F c p e = t
  | .mk o n s l, t, h => by
    rw [ty] at h
    cases hl : tys F c p l with
    | none => rw [hl] at h; cases h
    | some ts =>
      rw [hl] at h
      rw [ofX, hl]
      dsimp only at h ⊢
      unfold tailT at h
      split at h
      · cases h
      rename_i h1
      rw [if_neg h1]
      split at h
      · rename_i h2; rw [if_pos h2, h]; rfl
      rename_i h2
      rw [if_neg h2]
      split at h
      · rename_i h3; rw [if_pos h3]; exact leaf_eq h
      · rename_i h3; rw [if_neg h3]; exact oper_eq h
set_option maxHeartbeats 8000000 in
theorem of_g (F : List Fn) (c p : List Int) (e : Ex) : parts e ≤ 1000000 → Gives Tryz.prog 113 [scopeA F c p, e.av] (.tup [.int (ofX F c p e), .bool (ty F c p e).isSome]) := by
  induction e using Ex.ind with | h o n s l ih => ?_
  intro hp
  have hll : l.length ≤ 1000000 := by rw [parts] at hp; have := partsL_len l; omega
  obtain ⟨X, hX⟩ : ∃ X, X = ofX F c p (.mk o n s l) := ⟨_, rfl⟩
  obtain ⟨B, hB⟩ : ∃ B, B = (ty F c p (.mk o n s l)).isSome := ⟨_, rfl⟩
  rw [← hX, ← hB]
  unfold scopeA at ih ⊢
  refine qn Tryz.func113 Tryz.ntmps113 rfl rfl (by decide) rfl (by intro n; simp) fun σ n0 hcl hft => ?_
  repeat' (first | ((first | ((with_reducible refine qo (fun hg => ?_) (fun hg => ?_)) <;> (try simp only [hg]) <;> (try simp only [gS] at hg) <;> (try (first | simp only [eq_false hg, gI] | simp only [eq_true hg, gI]))) | (with_reducible first | refine qc ?_ | refine qb ?_ | refine qi ?_ | refine qh ?_) | refine qe ?_ | refine qj ?_ | refine qk ?_ | refine qm ?_) <;> (try simp (disch := first | omega | simp) [qg, -qq, -qs])) | ((with_reducible refine sideT ?_ ?_); first | omega | assumption | (simp; done)) | (refine qf fun K hK => ?_) | (refine qa ?_) | refine ql ?_ | ((first | refine hK _ ?_ | (clear hK K; refine hK _ ?_) | (clear hK K; clear hK K; refine hK _ ?_)); clear hK K) | refine qd ?_)
  refine qby 6 3 1 (by simp) ?_
  simp only [List.length_append, List.length_cons, List.length_nil, Nat.zero_add, Nat.reduceAdd, List.cons_append, List.nil_append]
  refine qr hcl (fun k : Nat => [(2, .ptr n0 0), (3, .ptr (n0 + 1) 0), (6, .gs (n0 + 2) (((l.take k).map fun e => (ty F c p e).getD 0).map AV.int)), (12, .sl (l.map Ex.av)), (13, .int l.length), (14, .int k)])
    (fun k => [.cells [.sl (F.map Fn.av), .sl (c.map AV.int), .sl (p.map AV.int)] 107, .cells [.int o, .int n, .str s, .sl (l.map Ex.av)] 36, .tail k 3 1])
    (fun k => k ≤ l.length ∧ ∀ (i : Nat) (h : i < l.length), i < k → (ty F c p l[i]).isSome = true) (fun k => l.length - k) 0 ⟨by omega, fun i h h2 => by omega⟩ (by simp) fun k ⟨hk, hks⟩ => ?_
  by_cases hlt : k < l.length
  · have hc := ih l[k] (List.getElem_mem hlt) (by rw [parts] at hp; have := partsL_mem l l[k] (List.getElem_mem hlt); omega)
    have hle : (((l.take k).map fun e => (ty F c p e).getD 0)).length = k := by simp; omega
    have htk : (l.take (k + 1)).map (fun e => (ty F c p e).getD 0) = (l.take k).map (fun e => (ty F c p e).getD 0) ++ [(ty F c p l[k]).getD 0] := by rw [List.take_succ_eq_append_getElem hlt, List.map_append]; rfl
    have hxe := @ofX_eq F c p l[k]
    have hav := Ex.av_eq l[k]
    cases ht : ty F c p l[k] with
    | none =>
      rw [ht] at hc
      have h1 := tys_stop l k hlt ht
      have e1 : X = 0 := by rw [hX, ofX, h1]
      have e2 : B = false := by rw [hB, ty, h1]; rfl
      subst e1; subst e2
      generalize ofX F c p l[k] = Y at *
      simp only [Option.isSome_none] at hc
      clear hX hB ih hks
      repeat' (first | ((first | ((with_reducible refine qo (fun hg => ?_) (fun hg => ?_)) <;> (try simp only [hg]) <;> (try simp only [gS] at hg) <;> (try (first | simp only [eq_false hg, gI] | simp only [eq_true hg, gI]))) | (with_reducible first | refine qc ?_ | refine qb ?_ | refine qi ?_ | refine qh ?_) | refine acall (hc) ?_ | refine qp (hc) ?_ | refine qe ?_ | refine qj ?_ | refine qk ?_ | refine qm ?_) <;> (try simp (disch := first | omega | simp) [qg, -qq, -qs, hlt])) | ((with_reducible refine sideT ?_ ?_); first | omega | assumption | (simp; done)) | (refine qf fun K hK => ?_) | (refine qa ?_) | refine ql ?_ | ((first | refine hK _ ?_ | (clear hK K; refine hK _ ?_) | (clear hK K; clear hK K; refine hK _ ?_)); clear hK K) | refine qd ?_)
    | some t =>
      rw [ht] at hc hxe htk
      rw [hxe rfl] at hc
      simp only [Option.isSome_some, Option.getD_some] at hc htk
      generalize (l.take k).map (fun e => (ty F c p e).getD 0) = Vs at *
      clear hX hB ih
      repeat' (first | ((first | ((with_reducible refine qo (fun hg => ?_) (fun hg => ?_)) <;> (try simp only [hg]) <;> (try simp only [gS] at hg) <;> (try (first | simp only [eq_false hg, gI] | simp only [eq_true hg, gI]))) | (with_reducible first | refine qc ?_ | refine qb ?_ | refine qi ?_ | refine qh ?_) | refine acall (hc) ?_ | refine qp (hc) ?_ | refine qe ?_ | refine qj ?_ | refine qk ?_ | refine qm ?_) <;> (try simp (disch := first | omega | simp) [qg, -qq, -qs, hlt])) | ((with_reducible refine sideT ?_ ?_); first | omega | assumption | (simp; done)) | (refine qf fun K hK => ?_) | (refine qa ?_) | refine ql ?_ | ((first | refine hK _ ?_ | (clear hK K; refine hK _ ?_) | (clear hK K; clear hK K; refine hK _ ?_)); clear hK K) | refine qd ?_)
      all_goals refine ⟨k + 1, ⟨by omega, fun i h h2 => ?_⟩, by omega, ?_⟩
      · by_cases hik : i < k
        · exact hks i h hik
        · obtain rfl : i = k := by omega
          rw [ht]; rfl
      · have htk2 := congrArg (List.map AV.int) htk
        simp at htk2
        simp [htk2, hle]
  · obtain rfl : k = l.length := by omega
    rw [List.take_length]
    have hall := tys_all l fun i h => hks i h h
    obtain ⟨ts, hts⟩ : ∃ ts, ts = l.map fun e => (ty F c p e).getD 0 := ⟨_, rfl⟩
    rw [← hts] at hall ⊢
    have hX2 : X = if s.size ≠ 0 ∧ o ≠ 1 then 0 else if o = 22 then (callT F n ts).getD 0 else if ts = [] then leafX c p o n else operX o n ts := by rw [hX, ofX, hall]
    have hB2 : B = (tailT F c p o n s ts).isSome := by rw [hB, ty, hall]
    have htl : ts.length = l.length := by rw [hts]; simp
    clear hX hB ih hks hall hts hp hk
    have hemp : s.toList.isEmpty = decide (s.size = 0) := by
      by_cases h : s.size = 0
      · rw [decide_eq_true h, List.isEmpty_iff]
        exact List.eq_nil_of_length_eq_zero (by rw [ByteArray.toList_eq]; rw [Lib.size_eq] at h; simpa using h)
      · rw [decide_eq_false h, List.isEmpty_eq_false_iff]
        intro h2
        rw [ByteArray.toList_eq] at h2
        exact h (by rw [Lib.size_eq, h2]; rfl)
    by_cases hs : s.size ≠ 0 ∧ o ≠ 1
    · have e1 : X = 0 := by rw [hX2, if_pos hs]
      have e2 : B = false := by rw [hB2, tailT, if_pos hs]; rfl
      subst e1; subst e2
      clear hX2 hB2
      obtain ⟨hs1, hs2⟩ := hs
      rw [decide_eq_false hs1] at hemp
      repeat' (first | ((first | ((with_reducible refine qo (fun hg => ?_) (fun hg => ?_)) <;> (try simp only [hg]) <;> (try simp only [gS] at hg) <;> (try (first | simp only [eq_false hg, gI] | simp only [eq_true hg, gI]))) | (with_reducible first | refine qc ?_ | refine qb ?_ | refine qi ?_ | refine qh ?_) | refine qe ?_ | refine qj ?_ | refine qk ?_ | refine qm ?_) <;> (try simp (disch := first | omega | simp) [qg, -qq, -qs, hlt, hs2, hemp])) | ((with_reducible refine sideT ?_ ?_); first | omega | assumption | (simp; done)) | (refine qf fun K hK => ?_) | (refine qa ?_) | refine ql ?_ | ((first | refine hK _ ?_ | (clear hK K; refine hK _ ?_) | (clear hK K; clear hK K; refine hK _ ?_)); clear hK K) | refine qd ?_)
      all_goals exact absurd (by assumption) hs2
    rw [if_neg hs] at hX2
    rw [tailT, if_neg hs] at hB2
    have hs' : s.toList.isEmpty = false → o = 1 := fun h => by
      rw [hemp] at h
      have := of_decide_eq_false h
      omega
    clear hemp hs
    by_cases h22 : o = 22
    · subst h22
      rw [if_pos rfl] at hX2 hB2
      have h22' : s.toList.isEmpty = true := by
        cases q : s.toList.isEmpty with
        | true => rfl
        | false => exact absurd (hs' q) (by decide)
      unfold callT at hX2 hB2
      by_cases h0 : n < 0
      · rw [if_pos h0] at hX2 hB2
        subst hX2; subst hB2
        repeat' (first | ((first | ((with_reducible refine qo (fun hg => ?_) (fun hg => ?_)) <;> (try simp only [hg]) <;> (try simp only [gS] at hg) <;> (try (first | simp only [eq_false hg, gI] | simp only [eq_true hg, gI]))) | (with_reducible first | refine qc ?_ | refine qb ?_ | refine qi ?_ | refine qh ?_) | refine qe ?_ | refine qj ?_ | refine qk ?_ | refine qm ?_) <;> (try simp (disch := first | omega | simp) [qg, -qq, -qs, hlt, h0, h22'])) | ((with_reducible refine sideT ?_ ?_); first | omega | assumption | (simp; done)) | (refine qf fun K hK => ?_) | (refine qa ?_) | refine ql ?_ | ((first | refine hK _ ?_ | (clear hK K; refine hK _ ?_) | (clear hK K; clear hK K; refine hK _ ?_)); clear hK K) | refine qd ?_)
      obtain ⟨k, rfl⟩ : ∃ k : Nat, n = k := ⟨n.toNat, by omega⟩
      rw [if_neg h0, Int.toNat_natCast] at hX2 hB2
      by_cases h1 : k < F.length
      · rw [List.getElem?_eq_getElem h1] at hX2 hB2
        dsimp only at hX2 hB2
        have h1' : ¬ F.length ≤ k := by omega
        have h1'' : ¬ (F.length : Int) ≤ k := by omega
        obtain ⟨f, hf⟩ : ∃ f, f = F[k] := ⟨_, rfl⟩
        rw [← hf] at hX2 hB2
        have c1 := eqI_g f.params ts
        by_cases h2 : f.params = ts
        · rw [if_pos h2] at hX2 hB2
          subst hX2; subst hB2
          rw [decide_eq_true h2] at c1
          repeat' (first | ((first | ((with_reducible refine qo (fun hg => ?_) (fun hg => ?_)) <;> (try simp only [hg]) <;> (try simp only [gS] at hg) <;> (try (first | simp only [eq_false hg, gI] | simp only [eq_true hg, gI]))) | (with_reducible first | refine qc ?_ | refine qb ?_ | refine qi ?_ | refine qh ?_) | refine acall (c1) ?_ | refine qp (c1) ?_ | refine qe ?_ | refine qj ?_ | refine qk ?_ | refine qm ?_) <;> (try simp (disch := first | omega | simp) [qg, -qq, -qs, hlt, h0, h1, h1', h1'', h22', ← hf])) | ((with_reducible refine sideT ?_ ?_); first | omega | assumption | (simp; done)) | (refine qf fun K hK => ?_) | (refine qa ?_) | refine ql ?_ | ((first | refine hK _ ?_ | (clear hK K; refine hK _ ?_) | (clear hK K; clear hK K; refine hK _ ?_)); clear hK K) | refine qd ?_)
        · rw [if_neg h2] at hX2 hB2
          subst hX2; subst hB2
          rw [decide_eq_false h2] at c1
          repeat' (first | ((first | ((with_reducible refine qo (fun hg => ?_) (fun hg => ?_)) <;> (try simp only [hg]) <;> (try simp only [gS] at hg) <;> (try (first | simp only [eq_false hg, gI] | simp only [eq_true hg, gI]))) | (with_reducible first | refine qc ?_ | refine qb ?_ | refine qi ?_ | refine qh ?_) | refine acall (c1) ?_ | refine qp (c1) ?_ | refine qe ?_ | refine qj ?_ | refine qk ?_ | refine qm ?_) <;> (try simp (disch := first | omega | simp) [qg, -qq, -qs, hlt, h0, h1, h1', h1'', h22', ← hf])) | ((with_reducible refine sideT ?_ ?_); first | omega | assumption | (simp; done)) | (refine qf fun K hK => ?_) | (refine qa ?_) | refine ql ?_ | ((first | refine hK _ ?_ | (clear hK K; refine hK _ ?_) | (clear hK K; clear hK K; refine hK _ ?_)); clear hK K) | refine qd ?_)
      · rw [List.getElem?_eq_none (by omega)] at hX2 hB2
        subst hX2; subst hB2
        have h2 : (F.length : Int) ≤ k := by omega
        repeat' (first | ((first | ((with_reducible refine qo (fun hg => ?_) (fun hg => ?_)) <;> (try simp only [hg]) <;> (try simp only [gS] at hg) <;> (try (first | simp only [eq_false hg, gI] | simp only [eq_true hg, gI]))) | (with_reducible first | refine qc ?_ | refine qb ?_ | refine qi ?_ | refine qh ?_) | refine qe ?_ | refine qj ?_ | refine qk ?_ | refine qm ?_) <;> (try simp (disch := first | omega | simp) [qg, -qq, -qs, hlt, h0, h1, h2, h22'])) | ((with_reducible refine sideT ?_ ?_); first | omega | assumption | (simp; done)) | (refine qf fun K hK => ?_) | (refine qa ?_) | refine ql ?_ | ((first | refine hK _ ?_ | (clear hK K; refine hK _ ?_) | (clear hK K; clear hK K; refine hK _ ?_)); clear hK K) | refine qd ?_)
    rw [if_neg h22] at hX2 hB2
    by_cases hn : ts = []
    · subst hn
      rw [if_pos rfl] at hX2 hB2
      have c1 := leaf_g F c p o n s l
      rw [← hX2, ← hB2] at c1
      unfold scopeA at c1
      rw [Ex.av_mk] at c1
      clear hX2 hB2
      repeat' (first | ((first | ((with_reducible refine qo (fun hg => ?_) (fun hg => ?_)) <;> (try simp only [hg]) <;> (try simp only [gS] at hg) <;> (try (first | simp only [eq_false hg, gI] | simp only [eq_true hg, gI]))) | (with_reducible first | refine qc ?_ | refine qb ?_ | refine qi ?_ | refine qh ?_) | refine acall (c1) ?_ | refine qp (c1) ?_ | refine qe ?_ | refine qj ?_ | refine qk ?_ | refine qm ?_) <;> (try simp (disch := first | omega | simp) [qg, -qq, -qs, hlt, h22])) | ((with_reducible refine sideT ?_ ?_); first | omega | assumption | (simp; done)) | (refine qf fun K hK => ?_) | (refine qa ?_) | refine ql ?_ | ((first | refine hK _ ?_ | (clear hK K; refine hK _ ?_) | (clear hK K; clear hK K; refine hK _ ?_)); clear hK K) | refine qd ?_)
      all_goals first
        | exact absurd (by assumption) h22
        | (exfalso; have := hs' (by assumption); omega)
    · rw [if_neg hn] at hX2 hB2
      have c1 := operation_g o n s l ts hn (by omega)
      rw [← hX2, ← hB2] at c1
      rw [Ex.av_mk] at c1
      clear hX2 hB2
      have hn' : ¬ (ts.length : Int) = 0 := fun e => hn (List.eq_nil_of_length_eq_zero (by omega))
      repeat' (first | ((first | ((with_reducible refine qo (fun hg => ?_) (fun hg => ?_)) <;> (try simp only [hg]) <;> (try simp only [gS] at hg) <;> (try (first | simp only [eq_false hg, gI] | simp only [eq_true hg, gI]))) | (with_reducible first | refine qc ?_ | refine qb ?_ | refine qi ?_ | refine qh ?_) | refine acall (c1) ?_ | refine qp (c1) ?_ | refine qe ?_ | refine qj ?_ | refine qk ?_ | refine qm ?_) <;> (try simp (disch := first | omega | simp) [qg, -qq, -qs, hlt, h22, hn'])) | ((with_reducible refine sideT ?_ ?_); first | omega | assumption | (simp; done)) | (refine qf fun K hK => ?_) | (refine qa ?_) | refine ql ?_ | ((first | refine hK _ ?_ | (clear hK K; refine hK _ ?_) | (clear hK K; clear hK K; refine hK _ ?_)); clear hK K) | refine qd ?_)
      all_goals first
        | exact absurd (by assumption) h22
        | exact absurd (by assumption) hn'
        | (exfalso; have := hs' (by assumption); omega)
set_option maxHeartbeats 4000000 in
theorem typed_g (F : List Fn) (c p : List Int) (e : Ex) (hp : parts e ≤ 1000000) : Gives Tryz.prog 80 [scopeA F c p, e.av] (.tup [.int ((tyD F c p e).getD 0), .bool (tyD F c p e).isSome]) := by
  have hlv := levels_le e
  have c1 := levels_g e (by omega)
  have c2 := of_g F c p e hp
  unfold scopeA at c2 ⊢
  by_cases h : levels e > 12
  · have e1 : tyD F c p e = none := by unfold tyD; rw [if_pos h]
    rw [e1]
    clear c2
    generalize levels e = L at *
    have h' : 12 < L := h
    refine qn Tryz.func80 Tryz.ntmps80 rfl rfl (by decide) rfl (by intro n; simp) fun σ n0 hcl hft => ?_
    repeat' (first | ((first | ((with_reducible refine qo (fun hg => ?_) (fun hg => ?_)) <;> (try simp only [hg]) <;> (try simp only [gS] at hg) <;> (try (first | simp only [eq_false hg, gI] | simp only [eq_true hg, gI]))) | (with_reducible first | refine qc ?_ | refine qb ?_ | refine qi ?_ | refine qh ?_) | refine acall (c1) ?_ | refine qp (c1) ?_ | refine qe ?_ | refine qj ?_ | refine qk ?_ | refine qm ?_) <;> (try simp (disch := first | omega | simp) [qg, -qq, -qs, h'])) | ((with_reducible refine sideT ?_ ?_); first | omega | assumption | (simp; done)) | (refine qf fun K hK => ?_) | (refine qa ?_) | refine ql ?_ | ((first | refine hK _ ?_ | (clear hK K; refine hK _ ?_) | (clear hK K; clear hK K; refine hK _ ?_)); clear hK K) | refine qd ?_)
  · have e1 : tyD F c p e = ty F c p e := by unfold tyD; rw [if_neg h]
    rw [e1]
    have hx := @ofX_eq F c p e
    have h' : ¬ 12 < levels e := h
    generalize levels e = L at *
    generalize ofX F c p e = X at *
    cases ht : ty F c p e with
    | none =>
      rw [ht] at c2
      simp at c2
      clear hx
      refine qn Tryz.func80 Tryz.ntmps80 rfl rfl (by decide) rfl (by intro n; simp) fun σ n0 hcl hft => ?_
      repeat' (first | ((first | ((with_reducible refine qo (fun hg => ?_) (fun hg => ?_)) <;> (try simp only [hg]) <;> (try simp only [gS] at hg) <;> (try (first | simp only [eq_false hg, gI] | simp only [eq_true hg, gI]))) | (with_reducible first | refine qc ?_ | refine qb ?_ | refine qi ?_ | refine qh ?_) | refine acall (c1) ?_ | refine qp (c1) ?_ | refine acall (c2) ?_ | refine qp (c2) ?_ | refine qe ?_ | refine qj ?_ | refine qk ?_ | refine qm ?_) <;> (try simp (disch := first | omega | simp) [qg, -qq, -qs, h'])) | ((with_reducible refine sideT ?_ ?_); first | omega | assumption | (simp; done)) | (refine qf fun K hK => ?_) | (refine qa ?_) | refine ql ?_ | ((first | refine hK _ ?_ | (clear hK K; refine hK _ ?_) | (clear hK K; clear hK K; refine hK _ ?_)); clear hK K) | refine qd ?_)
    | some t =>
      rw [ht] at c2 hx
      rw [hx rfl] at c2
      simp at c2
      clear hx
      refine qn Tryz.func80 Tryz.ntmps80 rfl rfl (by decide) rfl (by intro n; simp) fun σ n0 hcl hft => ?_
      repeat' (first | ((first | ((with_reducible refine qo (fun hg => ?_) (fun hg => ?_)) <;> (try simp only [hg]) <;> (try simp only [gS] at hg) <;> (try (first | simp only [eq_false hg, gI] | simp only [eq_true hg, gI]))) | (with_reducible first | refine qc ?_ | refine qb ?_ | refine qi ?_ | refine qh ?_) | refine acall (c1) ?_ | refine qp (c1) ?_ | refine acall (c2) ?_ | refine qp (c2) ?_ | refine qe ?_ | refine qj ?_ | refine qk ?_ | refine qm ?_) <;> (try simp (disch := first | omega | simp) [qg, -qq, -qs, h'])) | ((with_reducible refine sideT ?_ ?_); first | omega | assumption | (simp; done)) | (refine qf fun K hK => ?_) | (refine qa ?_) | refine ql ?_ | ((first | refine hK _ ?_ | (clear hK K; refine hK _ ?_) | (clear hK K; clear hK K; refine hK _ ?_)); clear hK K) | refine qd ?_)
end Go.Proofs.YtgpcpmfdklpifaaGreatDoor

/- Walks: Right and Type of the program. -/
namespace Go.Proofs.YtgpcpmfdklpifaaGreatDoor
open Go.RowKit Go.Lib
theorem wrong_g (n : Int) : Gives Tryz.prog 110 [.int n] (.bool (!kindB n)) := by
  have c := xkind_g n
  generalize kindB n = b at *
  refine qn Tryz.func110 Tryz.ntmps110 rfl rfl (by decide) rfl (by intro n; simp) fun σ n0 hcl hft => ?_
  repeat' (first | ((first | ((with_reducible refine qo (fun hg => ?_) (fun hg => ?_)) <;> (try simp only [hg]) <;> (try simp only [gS] at hg) <;> (try (first | simp only [eq_false hg, gI] | simp only [eq_true hg, gI]))) | (with_reducible first | refine qc ?_ | refine qb ?_ | refine qi ?_ | refine qh ?_) | refine acall (c) ?_ | refine qp (c) ?_ | refine qe ?_ | refine qj ?_ | refine qk ?_ | refine qm ?_) <;> (try simp (disch := first | omega | simp) [qg, -qq, -qs])) | ((with_reducible refine sideT ?_ ?_); first | omega | assumption | (simp; done)) | (refine qf fun K hK => ?_) | (refine qa ?_) | refine ql ?_ | ((first | refine hK _ ?_ | (clear hK K; refine hK _ ?_) | (clear hK K; clear hK K; refine hK _ ?_)); clear hK K) | refine qd ?_)
theorem fns_fits' {F : List Fn} (h : AV.fitss [.sl (F.map Fn.av)]) : ∀ f ∈ F, f.params.length ≤ 9223372036854775807 := fun f hf => by
  have h1 := (AV.fitss_iff.1 h) _ (List.mem_singleton_self _)
  rw [AV.fits] at h1
  have h2 := (AV.fitss_iff.1 h1.2) f.av (List.mem_map_of_mem hf)
  unfold Fn.av at h2
  rw [AV.fits] at h2
  have h3 := (AV.fitss_iff.1 h2) (.sl (f.params.map AV.int)) (by simp)
  rw [AV.fits] at h3
  simpa using h3.1
theorem any_wrong (l : List Int) : (l.any fun n => !kindB n) = !l.all kindB := by
  induction l with
  | nil => rfl
  | cons a l ih => simp [ih]
set_option maxHeartbeats 8000000 in
theorem xright_g (F : List Fn) (hp : ∀ f ∈ F, parts f.body ≤ 1000000) : Gives Tryz.prog 79 [.sl (F.map Fn.av)] (.bool (qdj F)) := by
  obtain ⟨B, hB⟩ : ∃ B, B = qdj F := ⟨_, rfl⟩
  rw [← hB]
  by_cases h20 : F.length ≤ 20
  rotate_left
  · have hBe : B = false := by
      rw [hB]; unfold qdj
      have : ¬ (F.length : Int) ≤ 20 := by omega
      simp [this]
    subst hBe
    have h20b : (20 : Int) < F.length := by omega
    clear hB
    refine qn Tryz.func79 Tryz.ntmps79 rfl rfl (by decide) rfl (by intro n; simp) fun σ n0 hcl hft => ?_
    repeat' (first | ((first | ((with_reducible refine qo (fun hg => ?_) (fun hg => ?_)) <;> (try simp only [hg]) <;> (try simp only [gS] at hg) <;> (try (first | simp only [eq_false hg, gI] | simp only [eq_true hg, gI]))) | (with_reducible first | refine qc ?_ | refine qb ?_ | refine qi ?_ | refine qh ?_) | refine qe ?_ | refine qj ?_ | refine qk ?_ | refine qm ?_) <;> (try simp (disch := first | omega | simp) [qg, -qq, -qs, h20b])) | ((with_reducible refine sideT ?_ ?_); first | omega | assumption | (simp; done)) | (refine qf fun K hK => ?_) | (refine qa ?_) | refine ql ?_ | ((first | refine hK _ ?_ | (clear hK K; refine hK _ ?_) | (clear hK K; clear hK K; refine hK _ ?_)); clear hK K) | refine qd ?_)
  have h20b : ¬ (20 : Int) < F.length := by omega
  refine qn Tryz.func79 Tryz.ntmps79 rfl rfl (by decide) rfl (by intro n; simp) fun σ n0 hcl hft => ?_
  repeat' (first | ((first | ((with_reducible refine qo (fun hg => ?_) (fun hg => ?_)) <;> (try simp only [hg]) <;> (try simp only [gS] at hg) <;> (try (first | simp only [eq_false hg, gI] | simp only [eq_true hg, gI]))) | (with_reducible first | refine qc ?_ | refine qb ?_ | refine qi ?_ | refine qh ?_) | refine qe ?_ | refine qj ?_ | refine qk ?_ | refine qm ?_) <;> (try simp (disch := first | omega | simp) [qg, -qq, -qs, h20b])) | ((with_reducible refine sideT ?_ ?_); first | omega | assumption | (simp; done)) | (refine qf fun K hK => ?_) | (refine qa ?_) | refine ql ?_ | ((first | refine hK _ ?_ | (clear hK K; refine hK _ ?_) | (clear hK K; clear hK K; refine hK _ ?_)); clear hK K) | refine qd ?_)
  refine qr hcl (fun i : Nat => [(0, .sl (F.map Fn.av)), (11, .sl (F.map Fn.av)), (12, .int F.length), (13, .int i)]) (fun _ => []) (fun i => i ≤ F.length ∧ ∀ j, j < i → j < F.length → okF F j = true) (fun i => F.length - i) 0 ⟨by omega, fun j h => by omega⟩ (by simp) fun i ⟨hi, he⟩ => ?_
  by_cases hlt : i < F.length
  rotate_left
  · have hBe : B = true := by rw [hB, rightF_end fun j hj => he j (by omega) hj]; simp; omega
    subst hBe
    repeat' (first | ((first | ((with_reducible refine qo (fun hg => ?_) (fun hg => ?_)) <;> (try simp only [hg]) <;> (try simp only [gS] at hg) <;> (try (first | simp only [eq_false hg, gI] | simp only [eq_true hg, gI]))) | (with_reducible first | refine qc ?_ | refine qb ?_ | refine qi ?_ | refine qh ?_) | refine qe ?_ | refine qj ?_ | refine qk ?_ | refine qm ?_) <;> (try simp (disch := first | omega | simp) [qg, -qq, -qs, hlt])) | ((with_reducible refine sideT ?_ ?_); first | omega | assumption | (simp; done)) | (refine qf fun K hK => ?_) | (refine qa ?_) | refine ql ?_ | ((first | refine hK _ ?_ | (clear hK K; refine hK _ ?_) | (clear hK K; clear hK K; refine hK _ ?_)); clear hK K) | refine qd ?_)
  have hpk := hp F[i] (List.getElem_mem hlt)
  have hfl : F[i].params.length ≤ 9223372036854775807 := by
    simp [AV.fitss] at hft
    exact fns_fits' (F := F) (by simpa [AV.fitss] using hft) _ (List.getElem_mem hlt)
  obtain ⟨f, hf⟩ : ∃ f, f = F[i] := ⟨_, rfl⟩
  rw [← hf] at hpk hfl
  have hok := okF_at hlt
  rw [← hf] at hok
  have hil : ¬ F.length < i := by omega
  have hb : okF F i = false → B = false := fun h => by rw [hB]; exact rightF_false hlt h
  by_cases hl6 : (f.params.length : Int) ≤ 6
  rotate_left
  · have : B = false := hb (by rw [hok]; simp [hl6])
    subst this
    have hl6b : (6 : Int) < f.params.length := by omega
    clear hB hb hok
    repeat' (first | ((first | ((with_reducible refine qo (fun hg => ?_) (fun hg => ?_)) <;> (try simp only [hg]) <;> (try simp only [gS] at hg) <;> (try (first | simp only [eq_false hg, gI] | simp only [eq_true hg, gI]))) | (with_reducible first | refine qc ?_ | refine qb ?_ | refine qi ?_ | refine qh ?_) | refine qe ?_ | refine qj ?_ | refine qk ?_ | refine qm ?_) <;> (try simp (disch := first | omega | simp) [qg, -qq, -qs, hlt, hl6b, ← hf])) | ((with_reducible refine sideT ?_ ?_); first | omega | assumption | (simp; done)) | (refine qf fun K hK => ?_) | (refine qa ?_) | refine ql ?_ | ((first | refine hK _ ?_ | (clear hK K; refine hK _ ?_) | (clear hK K; clear hK K; refine hK _ ?_)); clear hK K) | refine qd ?_)
  have hl6b : ¬ (6 : Int) < f.params.length := by omega
  have c1 := contI_n f.params (fun n => !kindB n) 110 (by kernel_rfl) (fun x _ => wrong_g x) (by omega)
  rw [any_wrong] at c1
  have c2 := typed_g (F.take i) [] f.params f.body hpk
  rw [scopeA, List.map_take, List.map_nil] at c2
  cases hall : f.params.all kindB with
  | false =>
    have : B = false := hb (by rw [hok, hall]; rfl)
    subst this
    rw [hall] at c1
    clear hB hb hok
    repeat' (first | ((first | ((with_reducible refine qo (fun hg => ?_) (fun hg => ?_)) <;> (try simp only [hg]) <;> (try simp only [gS] at hg) <;> (try (first | simp only [eq_false hg, gI] | simp only [eq_true hg, gI]))) | (with_reducible first | refine qc ?_ | refine qb ?_ | refine qi ?_ | refine qh ?_) | refine acall (c1) ?_ | refine qp (c1) ?_ | refine qe ?_ | refine qj ?_ | refine qk ?_ | refine qm ?_) <;> (try simp (disch := first | omega | simp) [qg, -qq, -qs, hlt, hl6b, ← hf])) | ((with_reducible refine sideT ?_ ?_); first | omega | assumption | (simp; done)) | (refine qf fun K hK => ?_) | (refine qa ?_) | refine ql ?_ | ((first | refine hK _ ?_ | (clear hK K; refine hK _ ?_) | (clear hK K; clear hK K; refine hK _ ?_)); clear hK K) | refine qd ?_)
  | true =>
    rw [hall] at c1 hok
    rw [Bool.true_and] at hok
    cases ht : tyD (F.take i) [] f.params f.body with
    | none =>
      rw [ht] at c2 hok
      have : B = false := hb (by rw [hok]; simp)
      subst this
      simp only [Option.getD_none, Option.isSome_none] at c2
      clear hB hb hok
      repeat' (first | ((first | ((with_reducible refine qo (fun hg => ?_) (fun hg => ?_)) <;> (try simp only [hg]) <;> (try simp only [gS] at hg) <;> (try (first | simp only [eq_false hg, gI] | simp only [eq_true hg, gI]))) | (with_reducible first | refine qc ?_ | refine qb ?_ | refine qi ?_ | refine qh ?_) | refine acall (c1) ?_ | refine qp (c1) ?_ | refine acall (c2) ?_ | refine qp (c2) ?_ | refine qe ?_ | refine qj ?_ | refine qk ?_ | refine qm ?_) <;> (try simp (disch := first | omega | simp) [qg, -qq, -qs, hlt, hl6b, hil, ← hf])) | ((with_reducible refine sideT ?_ ?_); first | omega | assumption | (simp; done)) | (refine qf fun K hK => ?_) | (refine qa ?_) | refine ql ?_ | ((first | refine hK _ ?_ | (clear hK K; refine hK _ ?_) | (clear hK K; clear hK K; refine hK _ ?_)); clear hK K) | refine qd ?_)
    | some t =>
      rw [ht] at c2 hok
      simp only [Option.getD_some, Option.isSome_some] at c2
      by_cases htr : t = f.res
      rotate_left
      · have : B = false := hb (by rw [hok]; simp [htr])
        subst this
        have htb : (t == f.res) = false := by simp [htr]
        clear hB hb hok
        repeat' (first | ((first | ((with_reducible refine qo (fun hg => ?_) (fun hg => ?_)) <;> (try simp only [hg]) <;> (try simp only [gS] at hg) <;> (try (first | simp only [eq_false hg, gI] | simp only [eq_true hg, gI]))) | (with_reducible first | refine qc ?_ | refine qb ?_ | refine qi ?_ | refine qh ?_) | refine acall (c1) ?_ | refine qp (c1) ?_ | refine acall (c2) ?_ | refine qp (c2) ?_ | refine qe ?_ | refine qj ?_ | refine qk ?_ | refine qm ?_) <;> (try simp (disch := first | omega | simp) [qg, -qq, -qs, hlt, hl6b, hil, htr, htb, ← hf])) | ((with_reducible refine sideT ?_ ?_); first | omega | assumption | (simp; done)) | (refine qf fun K hK => ?_) | (refine qa ?_) | refine ql ?_ | ((first | refine hK _ ?_ | (clear hK K; refine hK _ ?_) | (clear hK K; clear hK K; refine hK _ ?_)); clear hK K) | refine qd ?_)
        all_goals exact absurd (by assumption) htr
      · have hoki : okF F i = true := by rw [hok]; simp [htr, hl6]
        clear hB hb hok
        repeat' (first | ((first | ((with_reducible refine qo (fun hg => ?_) (fun hg => ?_)) <;> (try simp only [hg]) <;> (try simp only [gS] at hg) <;> (try (first | simp only [eq_false hg, gI] | simp only [eq_true hg, gI]))) | (with_reducible first | refine qc ?_ | refine qb ?_ | refine qi ?_ | refine qh ?_) | refine acall (c1) ?_ | refine qp (c1) ?_ | refine acall (c2) ?_ | refine qp (c2) ?_ | refine qe ?_ | refine qj ?_ | refine qk ?_ | refine qm ?_) <;> (try simp (disch := first | omega | simp) [qg, -qq, -qs, hlt, hl6b, hil, htr, ← hf])) | ((with_reducible refine sideT ?_ ?_); first | omega | assumption | (simp; done)) | (refine qf fun K hK => ?_) | (refine qa ?_) | refine ql ?_ | ((first | refine hK _ ?_ | (clear hK K; refine hK _ ?_) | (clear hK K; clear hK K; refine hK _ ?_)); clear hK K) | refine qd ?_)
        all_goals
          refine ⟨i + 1, ⟨by omega, fun j hj hjl => ?_⟩, by omega, by simp⟩
          by_cases hji : j < i
          · exact he j hji hjl
          · obtain rfl : j = i := by omega
            exact hoki
theorem type_g (F : List Fn) (c p : List Int) (e : Ex) (hbd : parts e ≤ 1000000) (hpF : ∀ f ∈ F, parts f.body ≤ 1000000) :
    Gives Tryz.prog 63 [.sl (F.map Fn.av), .sl (c.map AV.int), .sl (p.map AV.int), e.av] (.tup [.int ((typeP F c p e).getD 0), .bool (typeP F c p e).isSome]) := by
  have c1 := xright_g F hpF
  have c2 := typed_g F c p e hbd
  unfold scopeA at c2
  unfold typeP
  cases h : qdj F with
  | false =>
    rw [h] at c1
    refine qn Tryz.func63 Tryz.ntmps63 rfl rfl (by decide) rfl (by intro n; simp) fun σ n0 hcl hft => ?_
    repeat' (first | ((first | ((with_reducible refine qo (fun hg => ?_) (fun hg => ?_)) <;> (try simp only [hg]) <;> (try simp only [gS] at hg) <;> (try (first | simp only [eq_false hg, gI] | simp only [eq_true hg, gI]))) | (with_reducible first | refine qc ?_ | refine qb ?_ | refine qi ?_ | refine qh ?_) | refine acall (c1) ?_ | refine qp (c1) ?_ | refine qe ?_ | refine qj ?_ | refine qk ?_ | refine qm ?_) <;> (try simp (disch := first | omega | simp) [qg, -qq, -qs])) | ((with_reducible refine sideT ?_ ?_); first | omega | assumption | (simp; done)) | (refine qf fun K hK => ?_) | (refine qa ?_) | refine ql ?_ | ((first | refine hK _ ?_ | (clear hK K; refine hK _ ?_) | (clear hK K; clear hK K; refine hK _ ?_)); clear hK K) | refine qd ?_)
  | true =>
    rw [h] at c1
    simp only [if_true]
    generalize tyD F c p e = T at *
    refine qn Tryz.func63 Tryz.ntmps63 rfl rfl (by decide) rfl (by intro n; simp) fun σ n0 hcl hft => ?_
    repeat' (first | ((first | ((with_reducible refine qo (fun hg => ?_) (fun hg => ?_)) <;> (try simp only [hg]) <;> (try simp only [gS] at hg) <;> (try (first | simp only [eq_false hg, gI] | simp only [eq_true hg, gI]))) | (with_reducible first | refine qc ?_ | refine qb ?_ | refine qi ?_ | refine qh ?_) | refine acall (c1) ?_ | refine qp (c1) ?_ | refine acall (c2) ?_ | refine qp (c2) ?_ | refine qe ?_ | refine qj ?_ | refine qk ?_ | refine qm ?_) <;> (try simp (disch := first | omega | simp) [qg, -qq, -qs])) | ((with_reducible refine sideT ?_ ?_); first | omega | assumption | (simp; done)) | (refine qf fun K hK => ?_) | (refine qa ?_) | refine ql ?_ | ((first | refine hK _ ?_ | (clear hK K; refine hK _ ?_) | (clear hK K; clear hK K; refine hK _ ?_)); clear hK K) | refine qd ?_)
end Go.Proofs.YtgpcpmfdklpifaaGreatDoor

/- The contract of the program's Type, as an abstract one. -/
namespace Go.Proofs.YtgpcpmfdklpifaaGreatDoor
open Go.RowKit Go.Lib
end Go.Proofs.YtgpcpmfdklpifaaGreatDoor

/- Walk of layer 25: the error of an instruction. -/
namespace Go.Proofs.YtgpcpmfdklpifaaGreatDoor
open Go.RowKit Go.Lib
theorem bad_g (done : List Bool) (r : Int) (h0 : 0 ≤ r) (h1 : r < done.length) (σ : Nat → AB) (b d : Nat) (hb : σ b = .cells [.own d done.length] 30) (hd : σ d = .vec (done.map AV.bool) 4 1) :
    qbu Tryz.prog 62 [.int r, .ptr b 0] σ (.bool (!done.getD r.toNat false)) := by
  have hg : done[r.toNat]? = some (done.getD r.toNat false) := by
    rw [List.getD_eq_getElem?_getD, List.getElem?_eq_getElem (by omega)]; rfl
  refine qbe Tryz.func62 Tryz.ntmps62 rfl rfl (by decide) rfl (by intro n; simp) fun n0 hfin hcl hft => ?_
  have hloc := loc_at hfin hb (by simp)
  have hloc2 := loc_at hfin hd (by simp)
  repeat' (first | ((first | ((with_reducible refine qo (fun hg => ?_) (fun hg => ?_)) <;> (try simp only [hg]) <;> (try simp only [gS] at hg) <;> (try (first | simp only [eq_false hg, gI] | simp only [eq_true hg, gI]))) | (with_reducible first | refine qc ?_ | refine qb ?_ | refine qi ?_ | refine qh ?_) | refine qe ?_ | refine qj ?_ | refine qk ?_ | refine qm ?_) <;> (try simp (disch := first | omega | simp) [qg, -qq, -qs, hloc, hloc2, h0, h1])) | ((with_reducible refine sideT ?_ ?_); first | omega | assumption | (simp; done)) | (refine qf fun K hK => ?_) | (refine qa ?_) | refine ql ?_ | ((first | refine hK _ ?_ | (clear hK K; refine hK _ ?_) | (clear hK K; clear hK K; refine hK _ ?_)); clear hK K) | refine qd ?_)
def offR (types : List Int) (r : Int) : Bool := decide (r < 0) || decide ((types.length : Int) ≤ r)
end Go.Proofs.YtgpcpmfdklpifaaGreatDoor
