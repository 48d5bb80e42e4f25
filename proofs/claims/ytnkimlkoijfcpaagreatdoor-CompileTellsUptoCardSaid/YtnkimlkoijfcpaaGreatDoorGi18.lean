/- Walks of layer 26: the different parts of an expression, of the reference. -/
import Derived.Test.YtnkimlkoijfcpaaGreatDoorGi14
import Derived.Test.YtnkimlkoijfcpaaGreatDoorGi15
import Derived.Test.YtnkimlkoijfcpaaGreatDoorGi16
import Derived.Test.YtnkimlkoijfcpaaGreatDoorGi17
set_option linter.unusedSimpArgs false
set_option linter.unusedVariables false
namespace Go.Proofs.YtnkimlkoijfcpaaGreatDoor
open Go.RowKit Go.Lib
theorem find26_g (L : List Ex) (e : Ex) (hL : L.length ≤ 1000000) (hp : ∀ x ∈ L, parts x ≤ 1000000) : Gives Tryz.prog 56 [.sl (L.map Ex.av), e.av] (.int (findE L e)) := by
  unfold findE
  refine qn Tryz.func56 Tryz.ntmps56 rfl rfl (by decide) rfl (by intro n; simp) fun σ n0 hcl hft => ?_
  repeat' (first | ((first | ((with_reducible refine qo (fun hg => ?_) (fun hg => ?_)) <;> (try simp only [hg]) <;> (try simp only [gS] at hg) <;> (try (first | simp only [eq_false hg, gI] | simp only [eq_true hg, gI]))) | (with_reducible first | refine qf ?_ | refine qe ?_ | refine qk ?_ | refine qj ?_) | refine qc ?_ | refine qh ?_ | refine qi ?_ | refine qm ?_) <;> (try simp (disch := first | omega | simp) [qg, -qq, -qr])) | ((with_reducible refine sideT ?_ ?_); first | omega | assumption | (simp; done)) | (refine qd fun K hK => ?_) | (refine qa ?_) | refine ql ?_ | ((first | refine hK _ ?_ | (clear hK K; refine hK _ ?_) | (clear hK K; clear hK K; refine hK _ ?_)); clear hK K) | refine qb ?_)
  refine qs hcl (fun k : Nat => [(0, .sl (L.map Ex.av)), (3, .ptr n0 0), (5, .int k)]) (fun _ => [.cells e.av.cells 25])
    (fun k => k ≤ L.length ∧ ∀ j (h : j < L.length), j < k → sameB L[j] e = false) (fun k => L.length - k) 0 ⟨by omega, fun j h hj => by omega⟩ (by simp) fun k ⟨hk, he⟩ => ?_
  by_cases hlt : k < L.length
  · have c1 := rsame_g L[k] e (hp _ (List.getElem_mem hlt))
    cases hs : sameB L[k] e
    · rw [hs] at c1
      repeat' (first | ((first | ((with_reducible refine qo (fun hg => ?_) (fun hg => ?_)) <;> (try simp only [hg]) <;> (try simp only [gS] at hg) <;> (try (first | simp only [eq_false hg, gI] | simp only [eq_true hg, gI]))) | (with_reducible first | refine qf ?_ | refine qe ?_ | refine qk ?_ | refine qj ?_) | refine acall (c1) ?_ | refine qp (c1) ?_ | refine qc ?_ | refine qh ?_ | refine qi ?_ | refine qm ?_) <;> (try simp (disch := first | omega | simp) [qg, -qq, -qr, hlt])) | ((with_reducible refine sideT ?_ ?_); first | omega | assumption | (simp; done)) | (refine qd fun K hK => ?_) | (refine qa ?_) | refine ql ?_ | ((first | refine hK _ ?_ | (clear hK K; refine hK _ ?_) | (clear hK K; clear hK K; refine hK _ ?_)); clear hK K) | refine qb ?_)
      all_goals exact ⟨k + 1, ⟨by omega, qeg (C := fun x : Ex => sameB x e = false) he fun _ => hs⟩, by omega, by simp⟩
    · rw [hs] at c1
      have := (idxP_hit (p := fun x => sameB x e) hlt hs he).symm
      repeat' (first | ((first | ((with_reducible refine qo (fun hg => ?_) (fun hg => ?_)) <;> (try simp only [hg]) <;> (try simp only [gS] at hg) <;> (try (first | simp only [eq_false hg, gI] | simp only [eq_true hg, gI]))) | (with_reducible first | refine qf ?_ | refine qe ?_ | refine qk ?_ | refine qj ?_) | refine acall (c1) ?_ | refine qp (c1) ?_ | refine qc ?_ | refine qh ?_ | refine qi ?_ | refine qm ?_) <;> (try simp (disch := first | omega | simp) [qg, -qq, -qr, hlt])) | ((with_reducible refine sideT ?_ ?_); first | omega | assumption | (simp; done)) | (refine qd fun K hK => ?_) | (refine qa ?_) | refine ql ?_ | ((first | refine hK _ ?_ | (clear hK K; refine hK _ ?_) | (clear hK K; clear hK K; refine hK _ ?_)); clear hK K) | refine qb ?_)
      all_goals exact this
  · have := (idxP_miss (p := fun x => sameB x e) (upto_all (C := fun x : Ex => sameB x e = false) he hlt)).symm
    repeat' (first | ((first | ((with_reducible refine qo (fun hg => ?_) (fun hg => ?_)) <;> (try simp only [hg]) <;> (try simp only [gS] at hg) <;> (try (first | simp only [eq_false hg, gI] | simp only [eq_true hg, gI]))) | (with_reducible first | refine qf ?_ | refine qe ?_ | refine qk ?_ | refine qj ?_) | refine qc ?_ | refine qh ?_ | refine qi ?_ | refine qm ?_) <;> (try simp (disch := first | omega | simp) [qg, -qq, -qr, hlt])) | ((with_reducible refine sideT ?_ ?_); first | omega | assumption | (simp; done)) | (refine qd fun K hK => ?_) | (refine qa ?_) | refine ql ?_ | ((first | refine hK _ ?_ | (clear hK K; refine hK _ ?_) | (clear hK K; clear hK K; refine hK _ ?_)); clear hK K) | refine qb ?_)
    all_goals exact this
mutual
theorem pre_parts : ∀ (e x : Ex), x ∈ pre e → parts x ≤ parts e
  | .mk o n s l, x, h => by
    rw [pre] at h
    rcases List.mem_cons.1 h with rfl | h
    · exact Nat.le_refl _
    · have := preL_parts l x h; rw [parts]; omega
theorem preL_parts : ∀ (l : List Ex) (x : Ex), x ∈ preL l → parts x ≤ qu l
  | [], x, h => by rw [preL] at h; cases h
  | e :: l, x, h => by
    rw [preL] at h
    rw [qu]
    rcases List.mem_append.1 h with h | h
    · have := pre_parts e x h; omega
    · have := preL_parts l x h; omega
end
theorem partsP_small {B : Nat} (e : Ex) (L : List Ex) (hL : ∀ x ∈ L, parts x ≤ B) (he : parts e ≤ B) : ∀ x ∈ qbc e L, parts x ≤ B := fun x hx => by
  rcases partsP_sub e L x hx with h | h
  · exact hL x h
  · have := pre_parts e x h; omega
set_option maxHeartbeats 8000000 in
theorem parts26_ac (e : Ex) : ∀ (L : List Ex) (r : Nat) (σ : Nat → AB), σ r = .tail L.length 25 4 → L.length + parts e ≤ 1000000 → (∀ x ∈ L, parts x ≤ 1000000) →
    AC Tryz.prog 20 [.gs r (L.map Ex.av), e.av] σ fun y τ => y = .gs r ((qbc e L).map Ex.av) ∧ τ = upd σ r (.tail (qbc e L).length 25 4) := by
  induction e using Ex.ind with | h o n s l ih => ?_
  intro L r σ hσ hsz hLp
  have hpe : parts (.mk o n s l) = qu l + 1 := by rw [parts]
  have hll : l.length ≤ 1000000 := by have := qbd l; omega
  obtain ⟨R, hR⟩ : ∃ R, R = qbc (.mk o n s l) L := ⟨_, rfl⟩
  have hR2 := hR
  rw [qbc] at hR2
  rw [← hR]
  refine acR_of_awp Tryz.func20 Tryz.ntmps20 rfl rfl (by decide) rfl fun n0 hfin hcl hft => ?_
  have hrn := fin_lt hfin hσ (by simp)
  have hlc : ∀ (τ : Nat → AB) (Lo : List AB), loc τ n0 Lo r = τ r := fun τ Lo => qec τ n0 r Lo hrn
  have hup : ∀ (τ : Nat → AB) (ab : AB), upd τ r ab r = ab := fun τ ab => by simp [upd]
  have hclu : ∀ m k, ((upd σ r (.tail m 25 4)) k).cl n0 := fun m k => by unfold upd; split; trivial; exact hcl k
  refine ⟨by simp [AV.cl, hrn], fun k hk => by unfold upd; rw [if_neg (by omega)]; exact hfin k hk, hclu _, ?_⟩
  obtain ⟨M, hM⟩ : ∃ M : Nat → List Ex, M = fun k => qt (l.take k) L := ⟨_, rfl⟩
  have hM0 : M 0 = L := by rw [hM]; simp [qt]
  have hMs : ∀ k (h : k < l.length), M (k + 1) = qbc l[k] (M k) := fun k h => by
    rw [hM]; dsimp only; rw [List.take_succ_eq_append_getElem h, qeq, qt, qt]
  have hMl : ∀ k, k ≤ l.length → (M k).length ≤ L.length + qu l := fun k hk => by
    rw [hM]; dsimp only
    have h1 := qca (l.take k) L
    have h2 := qbh l k
    omega
  have hMp : ∀ k (h : k < l.length), (M k).length + parts l[k] ≤ 1000000 := fun k h => by
    rw [hM]; dsimp only
    have h1 := qca (l.take k) L
    have h2 := qdn l k h
    have h3 := qbh l (k + 1)
    omega
  have hMx : ∀ k, k ≤ l.length → ∀ x ∈ M k, parts x ≤ 1000000 := fun k => by
    induction k with
    | zero => intro _; rw [hM0]; exact hLp
    | succ k ihk => intro h; rw [hMs k (by omega)]; exact partsP_small _ _ (ihk (by omega)) (by have := qbb l l[k] (List.getElem_mem (by omega)); omega)
  have hME : qt l L = M l.length := by rw [hM]; dsimp only; rw [List.take_length]
  rw [hME] at hR2
  clear hM
  repeat' (first | ((first | ((with_reducible refine qo (fun hg => ?_) (fun hg => ?_)) <;> (try simp only [hg]) <;> (try simp only [gS] at hg) <;> (try (first | simp only [eq_false hg, gI] | simp only [eq_true hg, gI]))) | (with_reducible first | refine qf ?_ | refine qe ?_ | refine qk ?_ | refine qj ?_) | refine qc ?_ | refine qh ?_ | refine qi ?_ | refine qm ?_) <;> (try simp (disch := first | omega | simp) [qg, -qq, -qr])) | ((with_reducible refine sideT ?_ ?_); first | omega | assumption | (simp; done)) | (refine qd fun K hK => ?_) | (refine qa ?_) | refine ql ?_ | ((first | refine hK _ ?_ | (clear hK K; refine hK _ ?_) | (clear hK K; clear hK K; refine hK _ ?_)); clear hK K) | refine qb ?_)
  refine awp_loopS (fun k => upd σ r (.tail (M k).length 25 4)) (fun k : Nat => [(0, .gs r ((M k).map Ex.av)), (3, .ptr n0 0), (5, .int k)])
    (fun _ => [.cells [.int o, .int n, .str s, .sl (l.map Ex.av)] 25])
    (fun k => k ≤ l.length) (fun k => l.length - k) 0 (fun k _ => hclu _) (by omega) (by simp [leS, hM0, upd]; exact ⟨fun r1 h1 h2 => by subst h2; exact hσ.symm, by omega⟩) hcl fun k hk => ?_
  by_cases hlt : k < l.length
  · have c1 := fun τ h => ih l[k] (List.getElem_mem hlt) (M k) r τ h (hMp k hlt) (hMx k (by omega))
    rw [← hMs k hlt] at c1
    repeat' (first | ((first | ((with_reducible refine qo (fun hg => ?_) (fun hg => ?_)) <;> (try simp only [hg]) <;> (try simp only [gS] at hg) <;> (try (first | simp only [eq_false hg, gI] | simp only [eq_true hg, gI]))) | (with_reducible first | refine qf ?_ | refine qe ?_ | refine qk ?_ | refine qj ?_) | refine awp_regionR (id := 4) 6 (by rfl) ?_ | refine acallS r _ (c1 _ (by simp [hlc, hup])) (by simp [hlc, hup]) ?_ | refine qc ?_ | refine qh ?_ | refine qi ?_ | refine qm ?_) <;> (try simp (disch := first | omega | simp) [qg, -qq, -qr, hlt, hrn, hlc, hup, List.take_succ_cons, List.drop_succ_cons])) | ((with_reducible refine sideT ?_ ?_); first | omega | assumption | (simp; done)) | (refine qd fun K hK => ?_) | (refine qa ?_) | refine ql ?_ | ((first | refine hK _ ?_ | (clear hK K; refine hK _ ?_) | (clear hK K; clear hK K; refine hK _ ?_)); clear hK K) | refine qb ?_)
    exact ⟨hclu _, k + 1, by omega, by omega, fun r _ => rfl, by simp; omega⟩
  · obtain rfl : k = l.length := by omega
    have c1 := find26_g (M l.length) (.mk o n s l) (by have := hMl l.length (Nat.le_refl _); omega) (hMx _ (Nat.le_refl _))
    have hml := hMl l.length (Nat.le_refl _)
    generalize M l.length = N at *
    by_cases hf : findE N (.mk o n s l) < 0
    · rw [if_pos hf] at hR2
      generalize findE N (.mk o n s l) = J at *
      rw [Ex.av_mk] at c1
      repeat' (first | ((first | ((with_reducible refine qo (fun hg => ?_) (fun hg => ?_)) <;> (try simp only [hg]) <;> (try simp only [gS] at hg) <;> (try (first | simp only [eq_false hg, gI] | simp only [eq_true hg, gI]))) | (with_reducible first | refine qf ?_ | refine qe ?_ | refine qk ?_ | refine qj ?_) | refine acall (c1) ?_ | refine qp (c1) ?_ | refine qc ?_ | refine qh ?_ | refine qi ?_ | refine qm ?_) <;> (try simp (disch := first | omega | simp) [qg, -qq, -qr, hlt, hrn, hlc, hup, hf])) | ((with_reducible refine sideT ?_ ?_); first | omega | assumption | (simp; done)) | (refine qd fun K hK => ?_) | (refine qa ?_) | refine ql ?_ | ((first | refine hK _ ?_ | (clear hK K; refine hK _ ?_) | (clear hK K; clear hK K; refine hK _ ?_)); clear hK K) | refine qb ?_)
      all_goals first
        | (exfalso; omega)
        | (rw [hR2]; exact ⟨by simp, 4, rfl, by simp, fun l h => by cases h⟩)
    · rw [if_neg hf] at hR2
      generalize findE N (.mk o n s l) = J at *
      rw [Ex.av_mk] at c1
      repeat' (first | ((first | ((with_reducible refine qo (fun hg => ?_) (fun hg => ?_)) <;> (try simp only [hg]) <;> (try simp only [gS] at hg) <;> (try (first | simp only [eq_false hg, gI] | simp only [eq_true hg, gI]))) | (with_reducible first | refine qf ?_ | refine qe ?_ | refine qk ?_ | refine qj ?_) | refine acall (c1) ?_ | refine qp (c1) ?_ | refine qc ?_ | refine qh ?_ | refine qi ?_ | refine qm ?_) <;> (try simp (disch := first | omega | simp) [qg, -qq, -qr, hlt, hrn, hlc, hup, hf])) | ((with_reducible refine sideT ?_ ?_); first | omega | assumption | (simp; done)) | (refine qd fun K hK => ?_) | (refine qa ?_) | refine ql ?_ | ((first | refine hK _ ?_ | (clear hK K; refine hK _ ?_) | (clear hK K; clear hK K; refine hK _ ?_)); clear hK K) | refine qb ?_)
      all_goals first
        | (exfalso; omega)
        | (rw [hR2]; exact ⟨rfl, 4, rfl, by simp, fun l h => by cases h⟩)
theorem parts26_g (e : Ex) (hsz : parts e ≤ 1000000) : Gives Tryz.prog 20 [.v (.slice none 0 0), e.av] (.sl ((qbc e []).map Ex.av)) := by
  obtain ⟨o, n, s, l⟩ := e
  obtain ⟨R, hR⟩ : ∃ R, R = qbc (.mk o n s l) [] := ⟨_, rfl⟩
  have hR2 := hR
  rw [qbc] at hR2
  rw [← hR]
  have hpe : parts (.mk o n s l) = qu l + 1 := by rw [parts]
  have hll : l.length ≤ 1000000 := by have := qbd l; omega
  obtain ⟨M, hM⟩ : ∃ M : Nat → List Ex, M = fun k => qt (l.take k) [] := ⟨_, rfl⟩
  have hM0 : M 0 = [] := by rw [hM]; simp [qt]
  have hMs : ∀ k (h : k < l.length), M (k + 1) = qbc l[k] (M k) := fun k h => by
    rw [hM]; dsimp only; rw [List.take_succ_eq_append_getElem h, qeq, qt, qt]
  have hMl : ∀ k, k ≤ l.length → (M k).length ≤ qu l := fun k hk => by
    rw [hM]; dsimp only
    have h1 := qca (l.take k) []
    have h2 := qbh l k
    rw [List.length_nil] at h1
    omega
  have hMp : ∀ k (h : k < l.length), (M k).length + parts l[k] ≤ 1000000 := fun k h => by
    rw [hM]; dsimp only
    have h1 := qca (l.take k) []
    have h2 := qdn l k h
    have h3 := qbh l (k + 1)
    rw [List.length_nil] at h1
    omega
  have hMx : ∀ k, k ≤ l.length → ∀ x ∈ M k, parts x ≤ 1000000 := fun k => by
    induction k with
    | zero => intro _; rw [hM0]; simp
    | succ k ihk => intro h; rw [hMs k (by omega)]; exact partsP_small _ _ (ihk (by omega)) (by have := qbb l l[k] (List.getElem_mem (by omega)); omega)
  have hME : qt l [] = M l.length := by rw [hM]; dsimp only; rw [List.take_length]
  rw [hME] at hR2
  clear hM
  refine qn Tryz.func20 Tryz.ntmps20 rfl rfl (by decide) rfl (by intro n; simp) fun σ n0 hcl hft => ?_
  repeat' (first | ((first | ((with_reducible refine qo (fun hg => ?_) (fun hg => ?_)) <;> (try simp only [hg]) <;> (try simp only [gS] at hg) <;> (try (first | simp only [eq_false hg, gI] | simp only [eq_true hg, gI]))) | (with_reducible first | refine qf ?_ | refine qe ?_ | refine qk ?_ | refine qj ?_) | refine qc ?_ | refine qh ?_ | refine qi ?_ | refine qm ?_) <;> (try simp (disch := first | omega | simp) [qg, -qq, -qr])) | ((with_reducible refine sideT ?_ ?_); first | omega | assumption | (simp; done)) | (refine qd fun K hK => ?_) | (refine qa ?_) | refine ql ?_ | ((first | refine hK _ ?_ | (clear hK K; refine hK _ ?_) | (clear hK K; clear hK K; refine hK _ ?_)); clear hK K) | refine qb ?_)
  refine qbk 0 25 4 (by simp) ?_
  simp only [List.length_append, List.length_cons, List.length_nil, Nat.zero_add, Nat.reduceAdd, List.cons_append, List.nil_append]
  refine qs hcl (fun k : Nat => [(0, .gs (n0 + 1) ((M k).map Ex.av)), (3, .ptr n0 0), (5, .int k)])
    (fun k => [.cells [.int o, .int n, .str s, .sl (l.map Ex.av)] 25, .tail (M k).length 25 4])
    (fun k => k ≤ l.length) (fun k => l.length - k) 0 (by omega) (by simp [hM0]) fun k hk => ?_
  by_cases hlt : k < l.length
  · have c1 := fun τ h => parts26_ac l[k] (M k) (n0 + 1) τ h (hMp k hlt) (hMx k (by omega))
    rw [← hMs k hlt] at c1
    repeat' (first | ((first | ((with_reducible refine qo (fun hg => ?_) (fun hg => ?_)) <;> (try simp only [hg]) <;> (try simp only [gS] at hg) <;> (try (first | simp only [eq_false hg, gI] | simp only [eq_true hg, gI]))) | (with_reducible first | refine qf ?_ | refine qe ?_ | refine qk ?_ | refine qj ?_) | refine awp_regionR (id := 4) 6 (by rfl) ?_ | refine acallS (n0 + 1) _ (c1 _ (by simp)) (by simp) ?_ | refine qc ?_ | refine qh ?_ | refine qi ?_ | refine qm ?_) <;> (try simp (disch := first | omega | simp) [qg, -qq, -qr, hlt, List.take_succ_cons, List.drop_succ_cons])) | ((with_reducible refine sideT ?_ ?_); first | omega | assumption | (simp; done)) | (refine qd fun K hK => ?_) | (refine qa ?_) | refine ql ?_ | ((first | refine hK _ ?_ | (clear hK K; refine hK _ ?_) | (clear hK K; clear hK K; refine hK _ ?_)); clear hK K) | refine qb ?_)
    all_goals exact ⟨k + 1, by omega, by omega, by simp⟩
  · obtain rfl : k = l.length := by omega
    have c1 := find26_g (M l.length) (.mk o n s l) (by have := hMl l.length (Nat.le_refl _); omega) (hMx _ (Nat.le_refl _))
    have hml := hMl l.length (Nat.le_refl _)
    generalize M l.length = N at *
    by_cases hf : findE N (.mk o n s l) < 0
    · rw [if_pos hf] at hR2
      generalize findE N (.mk o n s l) = J at *
      rw [Ex.av_mk] at c1
      repeat' (first | ((first | ((with_reducible refine qo (fun hg => ?_) (fun hg => ?_)) <;> (try simp only [hg]) <;> (try simp only [gS] at hg) <;> (try (first | simp only [eq_false hg, gI] | simp only [eq_true hg, gI]))) | (with_reducible first | refine qf ?_ | refine qe ?_ | refine qk ?_ | refine qj ?_) | refine acall (c1) ?_ | refine qp (c1) ?_ | refine qc ?_ | refine qh ?_ | refine qi ?_ | refine qm ?_) <;> (try simp (disch := first | omega | simp) [qg, -qq, -qr, hlt, hf])) | ((with_reducible refine sideT ?_ ?_); first | omega | assumption | (simp; done)) | (refine qd fun K hK => ?_) | (refine qa ?_) | refine ql ?_ | ((first | refine hK _ ?_ | (clear hK K; refine hK _ ?_) | (clear hK K; clear hK K; refine hK _ ?_)); clear hK K) | refine qb ?_)
      all_goals first | (exfalso; omega) | (rw [hR2]; simp; done)
    · rw [if_neg hf] at hR2
      generalize findE N (.mk o n s l) = J at *
      rw [Ex.av_mk] at c1
      repeat' (first | ((first | ((with_reducible refine qo (fun hg => ?_) (fun hg => ?_)) <;> (try simp only [hg]) <;> (try simp only [gS] at hg) <;> (try (first | simp only [eq_false hg, gI] | simp only [eq_true hg, gI]))) | (with_reducible first | refine qf ?_ | refine qe ?_ | refine qk ?_ | refine qj ?_) | refine acall (c1) ?_ | refine qp (c1) ?_ | refine qc ?_ | refine qh ?_ | refine qi ?_ | refine qm ?_) <;> (try simp (disch := first | omega | simp) [qg, -qq, -qr, hlt, hf])) | ((with_reducible refine sideT ?_ ?_); first | omega | assumption | (simp; done)) | (refine qd fun K hK => ?_) | (refine qa ?_) | refine ql ?_ | ((first | refine hK _ ?_ | (clear hK K; refine hK _ ?_) | (clear hK K; clear hK K; refine hK _ ?_)); clear hK K) | refine qb ?_)
      all_goals first | (exfalso; omega) | (rw [hR2]; done)
end Go.Proofs.YtnkimlkoijfcpaaGreatDoor

/- Walks: the type of an expression, and whether functions are right, as the reference finds them. -/
namespace Go.Proofs.YtnkimlkoijfcpaaGreatDoor
open Go.RowKit Go.Lib
theorem rkind_g (n : Int) : Gives Tryz.prog 127 [.int n] (.bool (kindB n)) := by
  have e : kindB n = (decide (0 ≤ n) && decide (n < 3)) := rfl
  rw [e]
  by_cases h : 0 ≤ n
  · refine qn Tryz.func127 Tryz.ntmps127 rfl rfl (by decide) rfl (by intro n; simp) fun σ n0 hcl hft => ?_
    repeat' (first | ((first | ((with_reducible refine qo (fun hg => ?_) (fun hg => ?_)) <;> (try simp only [hg]) <;> (try simp only [gS] at hg) <;> (try (first | simp only [eq_false hg, gI] | simp only [eq_true hg, gI]))) | (with_reducible first | refine qf ?_ | refine qe ?_ | refine qk ?_ | refine qj ?_) | refine qc ?_ | refine qh ?_ | refine qi ?_ | refine qm ?_) <;> (try simp (disch := first | omega | simp) [qg, -qq, -qr, h])) | ((with_reducible refine sideT ?_ ?_); first | omega | assumption | (simp; done)) | (refine qd fun K hK => ?_) | (refine qa ?_) | refine ql ?_ | ((first | refine hK _ ?_ | (clear hK K; refine hK _ ?_) | (clear hK K; clear hK K; refine hK _ ?_)); clear hK K) | refine qb ?_)
  · refine qn Tryz.func127 Tryz.ntmps127 rfl rfl (by decide) rfl (by intro n; simp) fun σ n0 hcl hft => ?_
    repeat' (first | ((first | ((with_reducible refine qo (fun hg => ?_) (fun hg => ?_)) <;> (try simp only [hg]) <;> (try simp only [gS] at hg) <;> (try (first | simp only [eq_false hg, gI] | simp only [eq_true hg, gI]))) | (with_reducible first | refine qf ?_ | refine qe ?_ | refine qk ?_ | refine qj ?_) | refine qc ?_ | refine qh ?_ | refine qi ?_ | refine qm ?_) <;> (try simp (disch := first | omega | simp) [qg, -qq, -qr, h])) | ((with_reducible refine sideT ?_ ?_); first | omega | assumption | (simp; done)) | (refine qd fun K hK => ?_) | (refine qa ?_) | refine ql ?_ | ((first | refine hK _ ?_ | (clear hK K; refine hK _ ?_) | (clear hK K; clear hK K; refine hK _ ?_)); clear hK K) | refine qb ?_)
def atX (l : List Int) (n : Int) : Int := if 0 ≤ n ∧ n < l.length then l.getD n.toNat 0 else 0
theorem rat_g (l : List Int) (n : Int) : Gives Tryz.prog 189 [.sl (l.map AV.int), .int n] (.tup [.int (atX l n), .bool (pickT l n).isSome]) := by
  by_cases h0 : n < 0
  · have e1 : atX l n = 0 := by unfold atX; rw [if_neg (by omega)]
    have e2 : (pickT l n).isSome = false := by unfold pickT; rw [if_pos h0]; rfl
    rw [e1, e2]
    refine qn Tryz.func189 Tryz.ntmps189 rfl rfl (by decide) rfl (by intro n; simp) fun σ n0 hcl hft => ?_
    repeat' (first | ((first | ((with_reducible refine qo (fun hg => ?_) (fun hg => ?_)) <;> (try simp only [hg]) <;> (try simp only [gS] at hg) <;> (try (first | simp only [eq_false hg, gI] | simp only [eq_true hg, gI]))) | (with_reducible first | refine qf ?_ | refine qe ?_ | refine qk ?_ | refine qj ?_) | refine qc ?_ | refine qh ?_ | refine qi ?_ | refine qm ?_) <;> (try simp (disch := first | omega | simp) [qg, -qq, -qr, h0])) | ((with_reducible refine sideT ?_ ?_); first | omega | assumption | (simp; done)) | (refine qd fun K hK => ?_) | (refine qa ?_) | refine ql ?_ | ((first | refine hK _ ?_ | (clear hK K; refine hK _ ?_) | (clear hK K; clear hK K; refine hK _ ?_)); clear hK K) | refine qb ?_)
  obtain ⟨k, rfl⟩ : ∃ k : Nat, n = k := ⟨n.toNat, by omega⟩
  by_cases h1 : k < l.length
  · have e1 : atX l k = l[k] := by unfold atX; rw [if_pos (by omega), List.getD_eq_getElem?_getD]; simp [h1]
    have e2 : (pickT l k).isSome = kindB l[k] := by
      unfold pickT
      rw [if_neg h0, Int.toNat_natCast, List.getElem?_eq_getElem h1]
      simp only
      cases kindB l[k] <;> rfl
    rw [e1, e2]
    have c := rkind_g l[k]
    have h3 : ¬ l.length ≤ k := by omega
    refine qn Tryz.func189 Tryz.ntmps189 rfl rfl (by decide) rfl (by intro n; simp) fun σ n0 hcl hft => ?_
    repeat' (first | ((first | ((with_reducible refine qo (fun hg => ?_) (fun hg => ?_)) <;> (try simp only [hg]) <;> (try simp only [gS] at hg) <;> (try (first | simp only [eq_false hg, gI] | simp only [eq_true hg, gI]))) | (with_reducible first | refine qf ?_ | refine qe ?_ | refine qk ?_ | refine qj ?_) | refine acall (c) ?_ | refine qp (c) ?_ | refine qc ?_ | refine qh ?_ | refine qi ?_ | refine qm ?_) <;> (try simp (disch := first | omega | simp) [qg, -qq, -qr, h0, h1, h3])) | ((with_reducible refine sideT ?_ ?_); first | omega | assumption | (simp; done)) | (refine qd fun K hK => ?_) | (refine qa ?_) | refine ql ?_ | ((first | refine hK _ ?_ | (clear hK K; refine hK _ ?_) | (clear hK K; clear hK K; refine hK _ ?_)); clear hK K) | refine qb ?_)
  · have e1 : atX l k = 0 := by unfold atX; rw [if_neg (by omega)]
    have e2 : (pickT l k).isSome = false := by
      unfold pickT
      rw [if_neg h0, Int.toNat_natCast, List.getElem?_eq_none (by omega)]; rfl
    rw [e1, e2]
    have h2 : (l.length : Int) ≤ k := by omega
    refine qn Tryz.func189 Tryz.ntmps189 rfl rfl (by decide) rfl (by intro n; simp) fun σ n0 hcl hft => ?_
    repeat' (first | ((first | ((with_reducible refine qo (fun hg => ?_) (fun hg => ?_)) <;> (try simp only [hg]) <;> (try simp only [gS] at hg) <;> (try (first | simp only [eq_false hg, gI] | simp only [eq_true hg, gI]))) | (with_reducible first | refine qf ?_ | refine qe ?_ | refine qk ?_ | refine qj ?_) | refine qc ?_ | refine qh ?_ | refine qi ?_ | refine qm ?_) <;> (try simp (disch := first | omega | simp) [qg, -qq, -qr, h0, h1, h2])) | ((with_reducible refine sideT ?_ ?_); first | omega | assumption | (simp; done)) | (refine qd fun K hK => ?_) | (refine qa ?_) | refine ql ?_ | ((first | refine hK _ ?_ | (clear hK K; refine hK _ ?_) | (clear hK K; clear hK K; refine hK _ ?_)); clear hK K) | refine qb ?_)
def numP (op : Int) : Int := if 0 ≤ op ∧ op ≤ 5 then 0 else if op = 6 ∨ op = 7 ∨ op = 20 then 1 else if op = 21 then 3 else if 5 < op ∧ op < 21 then 2 else -1
set_option maxHeartbeats 4000000 in
theorem rnumber_g (op : Int) : Gives Tryz.prog 188 [.int op] (.int (numP op)) := by
  obtain ⟨N, hN⟩ : ∃ N, N = numP op := ⟨_, rfl⟩
  rw [← hN]
  refine qn Tryz.func188 Tryz.ntmps188 rfl rfl (by decide) rfl (by intro n; simp) fun σ n0 hcl hft => ?_
  repeat' (first | ((first | ((with_reducible refine qo (fun hg => ?_) (fun hg => ?_)) <;> (try simp only [hg]) <;> (try simp only [gS] at hg) <;> (try (first | simp only [eq_false hg, gI] | simp only [eq_true hg, gI]))) | (with_reducible first | refine qf ?_ | refine qe ?_ | refine qk ?_ | refine qj ?_) | refine qc ?_ | refine qh ?_ | refine qi ?_ | refine qm ?_) <;> (try simp (disch := first | omega | simp) [qg, -qq, -qr])) | ((with_reducible refine sideT ?_ ?_); first | omega | assumption | (simp; done)) | (refine qd fun K hK => ?_) | (refine qa ?_) | refine ql ?_ | ((first | refine hK _ ?_ | (clear hK K; refine hK _ ?_) | (clear hK K; clear hK K; refine hK _ ?_)); clear hK K) | refine qb ?_)
  all_goals (rw [hN]; unfold numP; (repeat' split) <;> omega)
set_option maxHeartbeats 4000000 in
theorem rcall_g (F : List Fn) (n : Int) (ts : List Int) : Gives Tryz.prog 187 [.sl (F.map Fn.av), .int n, .sl (ts.map AV.int)] (.tup [.int ((callT F n ts).getD 0), .bool (callT F n ts).isSome]) := by
  obtain ⟨C, hC⟩ : ∃ C, C = callT F n ts := ⟨_, rfl⟩
  rw [← hC]
  unfold callT at hC
  by_cases h0 : n < 0
  · rw [if_pos h0] at hC
    subst hC
    refine qn Tryz.func187 Tryz.ntmps187 rfl rfl (by decide) rfl (by intro n; simp) fun σ n0 hcl hft => ?_
    repeat' (first | ((first | ((with_reducible refine qo (fun hg => ?_) (fun hg => ?_)) <;> (try simp only [hg]) <;> (try simp only [gS] at hg) <;> (try (first | simp only [eq_false hg, gI] | simp only [eq_true hg, gI]))) | (with_reducible first | refine qf ?_ | refine qe ?_ | refine qk ?_ | refine qj ?_) | refine qc ?_ | refine qh ?_ | refine qi ?_ | refine qm ?_) <;> (try simp (disch := first | omega | simp) [qg, -qq, -qr, h0])) | ((with_reducible refine sideT ?_ ?_); first | omega | assumption | (simp; done)) | (refine qd fun K hK => ?_) | (refine qa ?_) | refine ql ?_ | ((first | refine hK _ ?_ | (clear hK K; refine hK _ ?_) | (clear hK K; clear hK K; refine hK _ ?_)); clear hK K) | refine qb ?_)
  obtain ⟨k, rfl⟩ : ∃ k : Nat, n = k := ⟨n.toNat, by omega⟩
  rw [if_neg h0, Int.toNat_natCast] at hC
  by_cases h1 : k < F.length
  · rw [List.getElem?_eq_getElem h1] at hC
    dsimp only at hC
    have h1' : ¬ F.length ≤ k := by omega
    obtain ⟨f, hf⟩ : ∃ f, f = F[k] := ⟨_, rfl⟩
    rw [← hf] at hC
    by_cases h2 : f.params.length = ts.length
    · refine qn Tryz.func187 Tryz.ntmps187 rfl rfl (by decide) rfl (by intro n; simp) fun σ n0 hcl hft => ?_
      repeat' (first | ((first | ((with_reducible refine qo (fun hg => ?_) (fun hg => ?_)) <;> (try simp only [hg]) <;> (try simp only [gS] at hg) <;> (try (first | simp only [eq_false hg, gI] | simp only [eq_true hg, gI]))) | (with_reducible first | refine qf ?_ | refine qe ?_ | refine qk ?_ | refine qj ?_) | refine qc ?_ | refine qh ?_ | refine qi ?_ | refine qm ?_) <;> (try simp (disch := first | omega | simp) [qg, -qq, -qr, h0, h1, h1', ← hf, h2])) | ((with_reducible refine sideT ?_ ?_); first | omega | assumption | (simp; done)) | (refine qd fun K hK => ?_) | (refine qa ?_) | refine ql ?_ | ((first | refine hK _ ?_ | (clear hK K; refine hK _ ?_) | (clear hK K; clear hK K; refine hK _ ?_)); clear hK K) | refine qb ?_)
      have hts : ts.length ≤ 9223372036854775807 := by
        have := (AV.fitss_iff.1 hft) (.sl (ts.map AV.int)) (by simp)
        simp [AV.fits] at this
        exact this.1
      refine qs hcl (fun i : Nat => [(2, .sl (ts.map AV.int)), (6, .int 0), (7, .bool false), (8, .ptr n0 0), (9, .int i)]) (fun _ => [.cells f.av.cells 80]) (fun i => i ≤ ts.length ∧ ∀ j (h : j < ts.length) (h' : j < f.params.length), j < i → ts[j] = f.params[j]) (fun i => ts.length - i) 0 ⟨by omega, fun j h h' hj => by omega⟩ (by simp) fun i ⟨hi, he⟩ => ?_
      by_cases hlt : i < ts.length
      · have hlt2 : i < f.params.length := by omega
        by_cases hx : ts[i] = f.params[i]
        · repeat' (first | ((first | ((with_reducible refine qo (fun hg => ?_) (fun hg => ?_)) <;> (try simp only [hg]) <;> (try simp only [gS] at hg) <;> (try (first | simp only [eq_false hg, gI] | simp only [eq_true hg, gI]))) | (with_reducible first | refine qf ?_ | refine qe ?_ | refine qk ?_ | refine qj ?_) | refine qc ?_ | refine qh ?_ | refine qi ?_ | refine qm ?_) <;> (try simp (disch := first | omega | simp) [qg, -qq, -qr, hlt, hlt2, hx])) | ((with_reducible refine sideT ?_ ?_); first | omega | assumption | (simp; done)) | (refine qd fun K hK => ?_) | (refine qa ?_) | refine ql ?_ | ((first | refine hK _ ?_ | (clear hK K; refine hK _ ?_) | (clear hK K; clear hK K; refine hK _ ?_)); clear hK K) | refine qb ?_)
          all_goals
            refine ⟨i + 1, ⟨by omega, fun j h h' hj => ?_⟩, by omega, by simp⟩
            by_cases hji : j < i
            · exact he j h h' hji
            · obtain rfl : j = i := by omega
              exact hx
        · have : C = none := by rw [hC, if_neg]; intro h; exact hx (by simp only [h])
          subst this
          repeat' (first | ((first | ((with_reducible refine qo (fun hg => ?_) (fun hg => ?_)) <;> (try simp only [hg]) <;> (try simp only [gS] at hg) <;> (try (first | simp only [eq_false hg, gI] | simp only [eq_true hg, gI]))) | (with_reducible first | refine qf ?_ | refine qe ?_ | refine qk ?_ | refine qj ?_) | refine qc ?_ | refine qh ?_ | refine qi ?_ | refine qm ?_) <;> (try simp (disch := first | omega | simp) [qg, -qq, -qr, hlt, hlt2, hx])) | ((with_reducible refine sideT ?_ ?_); first | omega | assumption | (simp; done)) | (refine qd fun K hK => ?_) | (refine qa ?_) | refine ql ?_ | ((first | refine hK _ ?_ | (clear hK K; refine hK _ ?_) | (clear hK K; clear hK K; refine hK _ ?_)); clear hK K) | refine qb ?_)
          all_goals (exfalso; exact hx (by assumption))
      · have : C = some f.res := by
          rw [hC, if_pos]
          exact List.ext_getElem (by omega) fun j h1 h2 => (he j h2 h1 (by omega)).symm
        subst this
        repeat' (first | ((first | ((with_reducible refine qo (fun hg => ?_) (fun hg => ?_)) <;> (try simp only [hg]) <;> (try simp only [gS] at hg) <;> (try (first | simp only [eq_false hg, gI] | simp only [eq_true hg, gI]))) | (with_reducible first | refine qf ?_ | refine qe ?_ | refine qk ?_ | refine qj ?_) | refine qc ?_ | refine qh ?_ | refine qi ?_ | refine qm ?_) <;> (try simp (disch := first | omega | simp) [qg, -qq, -qr, hlt])) | ((with_reducible refine sideT ?_ ?_); first | omega | assumption | (simp; done)) | (refine qd fun K hK => ?_) | (refine qa ?_) | refine ql ?_ | ((first | refine hK _ ?_ | (clear hK K; refine hK _ ?_) | (clear hK K; clear hK K; refine hK _ ?_)); clear hK K) | refine qb ?_)
    · have : C = none := by rw [hC, if_neg]; intro h; rw [h] at h2; exact h2 rfl
      subst this
      refine qn Tryz.func187 Tryz.ntmps187 rfl rfl (by decide) rfl (by intro n; simp) fun σ n0 hcl hft => ?_
      repeat' (first | ((first | ((with_reducible refine qo (fun hg => ?_) (fun hg => ?_)) <;> (try simp only [hg]) <;> (try simp only [gS] at hg) <;> (try (first | simp only [eq_false hg, gI] | simp only [eq_true hg, gI]))) | (with_reducible first | refine qf ?_ | refine qe ?_ | refine qk ?_ | refine qj ?_) | refine qc ?_ | refine qh ?_ | refine qi ?_ | refine qm ?_) <;> (try simp (disch := first | omega | simp) [qg, -qq, -qr, h0, h1, h1', ← hf, h2])) | ((with_reducible refine sideT ?_ ?_); first | omega | assumption | (simp; done)) | (refine qd fun K hK => ?_) | (refine qa ?_) | refine ql ?_ | ((first | refine hK _ ?_ | (clear hK K; refine hK _ ?_) | (clear hK K; clear hK K; refine hK _ ?_)); clear hK K) | refine qb ?_)
      all_goals (exfalso; omega)
  · rw [List.getElem?_eq_none (by omega)] at hC
    subst hC
    have h2 : (F.length : Int) ≤ k := by omega
    refine qn Tryz.func187 Tryz.ntmps187 rfl rfl (by decide) rfl (by intro n; simp) fun σ n0 hcl hft => ?_
    repeat' (first | ((first | ((with_reducible refine qo (fun hg => ?_) (fun hg => ?_)) <;> (try simp only [hg]) <;> (try simp only [gS] at hg) <;> (try (first | simp only [eq_false hg, gI] | simp only [eq_true hg, gI]))) | (with_reducible first | refine qf ?_ | refine qe ?_ | refine qk ?_ | refine qj ?_) | refine qc ?_ | refine qh ?_ | refine qi ?_ | refine qm ?_) <;> (try simp (disch := first | omega | simp) [qg, -qq, -qr, h0, h1, h2])) | ((with_reducible refine sideT ?_ ?_); first | omega | assumption | (simp; done)) | (refine qd fun K hK => ?_) | (refine qa ?_) | refine ql ?_ | ((first | refine hK _ ?_ | (clear hK K; refine hK _ ?_) | (clear hK K; clear hK K; refine hK _ ?_)); clear hK K) | refine qb ?_)
def tailX (F : List Fn) (c p : List Int) (o n : Int) (s : ByteArray) (ts : List Int) : Int :=
  if s.size ≠ 0 ∧ o ≠ 1 then 0 else if o = 22 then (callT F n ts).getD 0 else if numP o ≠ ts.length then 0
  else if o = 0 then 0 else if o = 2 then 2 else if o = 3 then atX c n else if o = 4 then atX p n else if n ≠ 0 then 0
  else if o = 1 then 1 else if o = 5 then 0 else if o = 6 then 2 else if o = 7 ∨ o = 20 then 0 else if o ≤ 12 then 0 else if o ≤ 18 then 2 else if o = 19 then 1 else ts.getD 1 0
def innerX (F : List Fn) (c p : List Int) : Ex → Int
  | .mk o n s l => match tys F c p l with
    | some ts => tailX F c p o n s ts
    | none => 0
theorem at_pick {l : List Int} {n t : Int} (h : pickT l n = some t) : atX l n = t := by
  unfold pickT at h
  split at h
  · cases h
  · cases hv : l[n.toNat]? with
    | none => rw [hv] at h; cases h
    | some v =>
      rw [hv] at h
      dsimp only at h
      split at h
      · cases h
        have := (List.getElem?_eq_some_iff.1 hv).1
        unfold atX
        rw [if_pos (by omega), List.getD_eq_getElem?_getD, hv]; rfl
      · cases h
theorem tailT_num {F : List Fn} {c p : List Int} {o n t : Int} {s : ByteArray} {ts : List Int} (h : tailT F c p o n s ts = some t) (h22 : o ≠ 22) : numP o = ts.length := by
  unfold tailT at h
  split at h
  · cases h
  unfold numP
  split at h
  · rename_i hn
    subst hn
    unfold leafT at h
    split at h
    · subst o; rfl
    split at h
    · subst o; rfl
    split at h
    · subst o; rfl
    split at h
    · subst o; rfl
    split at h
    · subst o; rfl
    split at h
    · subst o; rfl
    · cases h
  · unfold operT at h
    split at h
    · cases h
    split at h
    · subst o; split at h
      · rename_i e; rw [e]; rfl
      · cases h
    split at h
    · subst o; split at h
      · rename_i e; rw [e]; rfl
      · cases h
    split at h
    · subst o; split at h
      · rename_i e; rw [e]; rfl
      · cases h
    split at h
    · split at h
      · rename_i ho e; rw [e, if_neg (by omega), if_neg (by omega), if_neg (by omega), if_pos (by omega)]; rfl
      · cases h
    split at h
    · split at h
      · rename_i ho _ _ _ ; rw [if_neg (by omega), if_neg (by omega), if_neg (by omega), if_pos (by omega)]; rfl
      · cases h
    split at h
    · split at h
      · rename_i ho e; rw [e, if_neg (by omega), if_neg (by omega), if_neg (by omega), if_pos (by omega)]; rfl
      · cases h
    split at h
    · split at h
      · rename_i ho e; rw [e, if_neg (by omega), if_neg (by omega), if_neg (by omega), if_pos (by omega)]; rfl
      · cases h
    split at h
    · subst o
      split at h
      · rfl
      · cases h
    · cases h
theorem tail_eq {F : List Fn} {c p : List Int} {o n t : Int} {s : ByteArray} {ts : List Int} (h : tailT F c p o n s ts = some t) : tailX F c p o n s ts = t := by
  have hnum := fun h22 => tailT_num h h22
  unfold tailT at h
  unfold tailX
  split at h
  · cases h
  rename_i hs
  rw [if_neg hs]
  split at h
  · rename_i h22
    rw [if_pos h22, h]; rfl
  rename_i h22
  rw [if_neg h22, if_neg (by rw [hnum h22]; simp)]
  split at h
  · unfold leafT at h
    split at h
    · rename_i h0; rw [if_pos h0]; cases h; rfl
    rename_i h0; rw [if_neg h0]
    split at h
    · rename_i h2; rw [if_pos h2]; split at h <;> cases h; rfl
    rename_i h2; rw [if_neg h2]
    split at h
    · rename_i h3; rw [if_pos h3]; exact at_pick h
    rename_i h3; rw [if_neg h3]
    split at h
    · rename_i h4; rw [if_pos h4]; exact at_pick h
    rename_i h4; rw [if_neg h4]
    split at h
    · rename_i h1
      split at h
      · rename_i hn; cases h; rw [if_neg (by omega), if_pos h1]
      · cases h
    rename_i h1
    split at h
    · rename_i h5
      split at h
      · rename_i hn; cases h; rw [if_neg (by omega), if_neg h1, if_pos h5]
      · cases h
    · cases h
  · unfold operT at h
    split at h
    · cases h
    rename_i hn
    split at h
    · subst o; split at h <;> cases h; simp [hn]
    split at h
    · subst o; split at h <;> cases h; simp [hn]
    split at h
    · subst o; split at h <;> cases h; simp [hn]
    split at h
    · rename_i ho; split at h <;> cases h
      rw [if_neg (by omega), if_neg (by omega), if_neg (by omega), if_neg (by omega), if_neg hn, if_neg (by omega), if_neg (by omega), if_neg (by omega), if_neg (by omega), if_pos (by omega)]
    split at h
    · rename_i ho
      rw [if_neg (by omega), if_neg (by omega), if_neg (by omega), if_neg (by omega), if_neg hn, if_neg (by omega), if_neg (by omega), if_neg (by omega), if_neg (by omega), if_neg (by omega), if_pos (by omega)]
      split at h
      · split at h <;> cases h; rfl
      · cases h
    split at h
    · rename_i ho; split at h <;> cases h
      rw [if_neg (by omega), if_neg (by omega), if_neg (by omega), if_neg (by omega), if_neg hn, if_neg (by omega), if_neg (by omega), if_neg (by omega), if_neg (by omega), if_neg (by omega), if_pos (by omega)]
    split at h
    · subst o; split at h <;> cases h; simp [hn]
    split at h
    · subst o
      split at h
      · split at h
        · rename_i hb; cases h; simp [hn]; exact hb.2
        · cases h
      · cases h
    · cases h
theorem inner_eq (F : List Fn) (c p : List Int) : ∀ (e : Ex) (t : Int), ty F c p e = some t → innerX F c p e = t
  | .mk o n s l, t, h => by
    rw [ty] at h
    rw [innerX]
    cases hl : tys F c p l with
    | none => rw [hl] at h; cases h
    | some ts => rw [hl] at h; exact tail_eq h
theorem numP_len {o : Int} {ts : List Int} (h : numP o = ts.length) (h22 : o ≠ 22) :
    ((o = 0 ∨ o = 1 ∨ o = 2 ∨ o = 3 ∨ o = 4 ∨ o = 5) ∧ ts = []) ∨ ((o = 6 ∨ o = 7 ∨ o = 20) ∧ ∃ a, ts = [a]) ∨ (o = 21 ∧ ∃ a b d, ts = [a, b, d]) ∨
    ((o = 8 ∨ o = 9 ∨ o = 10 ∨ o = 11 ∨ o = 12 ∨ o = 13 ∨ o = 14 ∨ o = 15 ∨ o = 16 ∨ o = 17 ∨ o = 18 ∨ o = 19) ∧ ∃ a b, ts = [a, b]) := by
  unfold numP at h
  split at h
  · exact .inl ⟨by omega, List.eq_nil_of_length_eq_zero (by omega)⟩
  split at h
  · refine .inr (.inl ⟨by omega, ?_⟩)
    match ts, h with
    | [a], _ => exact ⟨a, rfl⟩
  split at h
  · refine .inr (.inr (.inl ⟨by omega, ?_⟩))
    match ts, h with
    | [a, b, d], _ => exact ⟨a, b, d, rfl⟩
  split at h
  · refine .inr (.inr (.inr ⟨by omega, ?_⟩))
    match ts, h with
    | [a, b], _ => exact ⟨a, b, rfl⟩
  · omega
end Go.Proofs.YtnkimlkoijfcpaaGreatDoor

/- Walk: the type of an expression, as the reference finds it (errataref16.inner). -/
namespace Go.Proofs.YtnkimlkoijfcpaaGreatDoor
open Go.RowKit Go.Lib
set_option maxHeartbeats 8000000 in
theorem inner_g (F : List Fn) (c p : List Int) (e : Ex) : parts e ≤ 1000000 → Gives Tryz.prog 158 [.sl (F.map Fn.av), .sl (c.map AV.int), .sl (p.map AV.int), e.av] (.tup [.int (innerX F c p e), .bool (ty F c p e).isSome]) := by
  induction e using Ex.ind with | h o n s l ih => ?_
  intro hp
  have hll : l.length ≤ 1000000 := by rw [parts] at hp; have := qbd l; omega
  obtain ⟨X, hX⟩ : ∃ X, X = innerX F c p (.mk o n s l) := ⟨_, rfl⟩
  obtain ⟨B, hB⟩ : ∃ B, B = (ty F c p (.mk o n s l)).isSome := ⟨_, rfl⟩
  rw [← hX, ← hB]
  refine qn Tryz.func158 Tryz.ntmps158 rfl rfl (by decide) rfl (by intro n; simp) fun σ n0 hcl hft => ?_
  repeat' (first | ((first | ((with_reducible refine qo (fun hg => ?_) (fun hg => ?_)) <;> (try simp only [hg]) <;> (try simp only [gS] at hg) <;> (try (first | simp only [eq_false hg, gI] | simp only [eq_true hg, gI]))) | (with_reducible first | refine qf ?_ | refine qe ?_ | refine qk ?_ | refine qj ?_) | refine qc ?_ | refine qh ?_ | refine qi ?_ | refine qm ?_) <;> (try simp (disch := first | omega | simp) [qg, -qq, -qr])) | ((with_reducible refine sideT ?_ ?_); first | omega | assumption | (simp; done)) | (refine qd fun K hK => ?_) | (refine qa ?_) | refine ql ?_ | ((first | refine hK _ ?_ | (clear hK K; refine hK _ ?_) | (clear hK K; clear hK K; refine hK _ ?_)); clear hK K) | refine qb ?_)
  refine qbk 10 3 1 (by simp) ?_
  simp only [List.length_append, List.length_cons, List.length_nil, Nat.zero_add, Nat.reduceAdd, List.cons_append, List.nil_append]
  refine qs hcl (fun k : Nat => [(0, .sl (F.map Fn.av)), (1, .sl (c.map AV.int)), (2, .sl (p.map AV.int)), (7, .ptr n0 0), (10, .gs (n0 + 1) (((l.take k).map fun e => (ty F c p e).getD 0).map AV.int)), (11, .int k)]) (fun k => [.cells [.int o, .int n, .str s, .sl (l.map Ex.av)] 25, .tail k 3 1])
    (fun k => k ≤ l.length ∧ ∀ (i : Nat) (h : i < l.length), i < k → (ty F c p l[i]).isSome = true) (fun k => l.length - k) 0 ⟨by omega, fun i h h2 => by omega⟩ (by simp) fun k ⟨hk, hks⟩ => ?_
  by_cases hlt : k < l.length
  · have hc := ih l[k] (List.getElem_mem hlt) (by rw [parts] at hp; have := qbb l l[k] (List.getElem_mem hlt); omega)
    have hle : (((l.take k).map fun e => (ty F c p e).getD 0)).length = k := by simp; omega
    have htk : (l.take (k + 1)).map (fun e => (ty F c p e).getD 0) = (l.take k).map (fun e => (ty F c p e).getD 0) ++ [(ty F c p l[k]).getD 0] := by rw [List.take_succ_eq_append_getElem hlt, List.map_append]; rfl
    have hxe := inner_eq F c p l[k]
    cases ht : ty F c p l[k] with
    | none =>
      rw [ht] at hc
      have h1 := tys_stop l k hlt ht
      have e1 : X = 0 := by rw [hX, innerX, h1]
      have e2 : B = false := by rw [hB, ty, h1]; rfl
      subst e1; subst e2
      generalize innerX F c p l[k] = Y at *
      simp only [Option.isSome_none] at hc
      clear hX hB ih hks
      repeat' (first | ((first | ((with_reducible refine qo (fun hg => ?_) (fun hg => ?_)) <;> (try simp only [hg]) <;> (try simp only [gS] at hg) <;> (try (first | simp only [eq_false hg, gI] | simp only [eq_true hg, gI]))) | (with_reducible first | refine qf ?_ | refine qe ?_ | refine qk ?_ | refine qj ?_) | refine acall (hc) ?_ | refine qp (hc) ?_ | refine qc ?_ | refine qh ?_ | refine qi ?_ | refine qm ?_) <;> (try simp (disch := first | omega | simp) [qg, -qq, -qr, hlt])) | ((with_reducible refine sideT ?_ ?_); first | omega | assumption | (simp; done)) | (refine qd fun K hK => ?_) | (refine qa ?_) | refine ql ?_ | ((first | refine hK _ ?_ | (clear hK K; refine hK _ ?_) | (clear hK K; clear hK K; refine hK _ ?_)); clear hK K) | refine qb ?_)
    | some t =>
      rw [ht] at hc hxe htk
      rw [hxe t rfl] at hc
      simp only [Option.isSome_some, Option.getD_some] at hc htk
      generalize (l.take k).map (fun e => (ty F c p e).getD 0) = Vs at *
      clear hX hB ih
      repeat' (first | ((first | ((with_reducible refine qo (fun hg => ?_) (fun hg => ?_)) <;> (try simp only [hg]) <;> (try simp only [gS] at hg) <;> (try (first | simp only [eq_false hg, gI] | simp only [eq_true hg, gI]))) | (with_reducible first | refine qf ?_ | refine qe ?_ | refine qk ?_ | refine qj ?_) | refine acall (hc) ?_ | refine qp (hc) ?_ | refine qc ?_ | refine qh ?_ | refine qi ?_ | refine qm ?_) <;> (try simp (disch := first | omega | simp) [qg, -qq, -qr, hlt])) | ((with_reducible refine sideT ?_ ?_); first | omega | assumption | (simp; done)) | (refine qd fun K hK => ?_) | (refine qa ?_) | refine ql ?_ | ((first | refine hK _ ?_ | (clear hK K; refine hK _ ?_) | (clear hK K; clear hK K; refine hK _ ?_)); clear hK K) | refine qb ?_)
      all_goals refine ⟨k + 1, ⟨by omega, fun i h h2 => ?_⟩, by omega, ?_⟩
      · by_cases hik : i < k
        · exact hks i h hik
        · obtain rfl : i = k := by omega
          rw [ht]; rfl
      · have htk2 := congrArg (List.map AV.int) htk
        simp at htk2
        simp [htk2, hle]
  · obtain rfl : k = l.length := by omega
    rw [List.take_length]
    have hall := tys_all l fun i h => hks i h h
    obtain ⟨ts, hts⟩ : ∃ ts, ts = l.map fun e => (ty F c p e).getD 0 := ⟨_, rfl⟩
    rw [← hts] at hall ⊢
    have hX2 : X = tailX F c p o n s ts := by rw [hX, innerX, hall]
    have hB2 : B = (tailT F c p o n s ts).isSome := by rw [hB, ty, hall]
    have htl : ts.length = l.length := by rw [hts]; simp
    clear hX hB ih hks hall hts hp hk
    have hemp : s.toList.isEmpty = decide (s.size = 0) := by
      by_cases h : s.size = 0
      · rw [decide_eq_true h, List.isEmpty_iff]
        exact List.eq_nil_of_length_eq_zero (by rw [ByteArray.toList_eq]; rw [Lib.size_eq] at h; simpa using h)
      · rw [decide_eq_false h, List.isEmpty_eq_false_iff]
        intro h2
        rw [ByteArray.toList_eq] at h2
        exact h (by rw [Lib.size_eq, h2]; rfl)
    by_cases hs : s.size ≠ 0 ∧ o ≠ 1
    · have e1 : X = 0 := by rw [hX2, tailX, if_pos hs]
      have e2 : B = false := by rw [hB2, tailT, if_pos hs]; rfl
      subst e1; subst e2
      clear hX2 hB2
      obtain ⟨hs1, hs2⟩ := hs
      have hs3 : (o == 1) = false := by simp [hs2]
      rw [decide_eq_false hs1] at hemp
      repeat' (first | ((first | ((with_reducible refine qo (fun hg => ?_) (fun hg => ?_)) <;> (try simp only [hg]) <;> (try simp only [gS] at hg) <;> (try (first | simp only [eq_false hg, gI] | simp only [eq_true hg, gI]))) | (with_reducible first | refine qf ?_ | refine qe ?_ | refine qk ?_ | refine qj ?_) | refine qc ?_ | refine qh ?_ | refine qi ?_ | refine qm ?_) <;> (try simp (disch := first | omega | simp) [qg, -qq, -qr, hlt, hs2, hs3, hemp])) | ((with_reducible refine sideT ?_ ?_); first | omega | assumption | (simp; done)) | (refine qd fun K hK => ?_) | (refine qa ?_) | refine ql ?_ | ((first | refine hK _ ?_ | (clear hK K; refine hK _ ?_) | (clear hK K; clear hK K; refine hK _ ?_)); clear hK K) | refine qb ?_)
      all_goals (exfalso; simp_all; done)
    have tX : tailX F c p o n s ts = if o = 22 then (callT F n ts).getD 0 else if numP o ≠ ts.length then 0
        else if o = 0 then 0 else if o = 2 then 2 else if o = 3 then atX c n else if o = 4 then atX p n else if n ≠ 0 then 0
        else if o = 1 then 1 else if o = 5 then 0 else if o = 6 then 2 else if o = 7 ∨ o = 20 then 0 else if o ≤ 12 then 0 else if o ≤ 18 then 2 else if o = 19 then 1 else ts.getD 1 0 := by rw [tailX, if_neg hs]
    have tB : tailT F c p o n s ts = if o = 22 then callT F n ts else if ts = [] then leafT c p o n s else operT o n ts := by rw [tailT, if_neg hs]
    have c1 := rnumber_g o
    by_cases h22 : o = 22
    · subst h22
      rw [if_pos rfl] at tX tB
      rw [tX] at hX2; rw [tB] at hB2
      have c2 := rcall_g F n ts
      rw [← hX2, ← hB2] at c2
      have hs3 : s.size = 0 := by omega
      rw [decide_eq_true hs3] at hemp
      repeat' (first | ((first | ((with_reducible refine qo (fun hg => ?_) (fun hg => ?_)) <;> (try simp only [hg]) <;> (try simp only [gS] at hg) <;> (try (first | simp only [eq_false hg, gI] | simp only [eq_true hg, gI]))) | (with_reducible first | refine qf ?_ | refine qe ?_ | refine qk ?_ | refine qj ?_) | refine acall (c2) ?_ | refine qp (c2) ?_ | refine qc ?_ | refine qh ?_ | refine qi ?_ | refine qm ?_) <;> (try simp (disch := first | omega | simp) [qg, -qq, -qr, hlt, hemp])) | ((with_reducible refine sideT ?_ ?_); first | omega | assumption | (simp; done)) | (refine qd fun K hK => ?_) | (refine qa ?_) | refine ql ?_ | ((first | refine hK _ ?_ | (clear hK K; refine hK _ ?_) | (clear hK K; clear hK K; refine hK _ ?_)); clear hK K) | refine qb ?_)
    have h22b : (o == 22) = false := by simp [h22]
    have c3 := rat_g c n
    have c4 := rat_g p n
    by_cases hnum : numP o = ts.length
    rotate_left
    · have e1 : X = 0 := by rw [hX2, tX, if_neg h22, if_pos hnum]
      have e2 : B = false := by
        rw [hB2]
        cases ht : tailT F c p o n s ts with
        | none => rfl
        | some t => exact absurd (tailT_num ht h22) hnum
      subst e1; subst e2
      clear hX2 hB2 tX tB c3 c4
      generalize numP o = NP at *
      have hnb : (NP == (ts.length : Int)) = false := by simp [hnum]
      by_cases h1 : s.size = 0
      · rw [decide_eq_true h1] at hemp
        repeat' (first | ((first | ((with_reducible refine qo (fun hg => ?_) (fun hg => ?_)) <;> (try simp only [hg]) <;> (try simp only [gS] at hg) <;> (try (first | simp only [eq_false hg, gI] | simp only [eq_true hg, gI]))) | (with_reducible first | refine qf ?_ | refine qe ?_ | refine qk ?_ | refine qj ?_) | refine acall (c1) ?_ | refine qp (c1) ?_ | refine qc ?_ | refine qh ?_ | refine qi ?_ | refine qm ?_) <;> (try simp (disch := first | omega | simp) [qg, -qq, -qr, hlt, hemp, h22, h22b, hnum, hnb])) | ((with_reducible refine sideT ?_ ?_); first | omega | assumption | (simp; done)) | (refine qd fun K hK => ?_) | (refine qa ?_) | refine ql ?_ | ((first | refine hK _ ?_ | (clear hK K; refine hK _ ?_) | (clear hK K; clear hK K; refine hK _ ?_)); clear hK K) | refine qb ?_)
        all_goals (exfalso; first | omega | (simp_all; done))
      · rw [decide_eq_false h1] at hemp
        obtain rfl : o = 1 := by omega
        repeat' (first | ((first | ((with_reducible refine qo (fun hg => ?_) (fun hg => ?_)) <;> (try simp only [hg]) <;> (try simp only [gS] at hg) <;> (try (first | simp only [eq_false hg, gI] | simp only [eq_true hg, gI]))) | (with_reducible first | refine qf ?_ | refine qe ?_ | refine qk ?_ | refine qj ?_) | refine acall (c1) ?_ | refine qp (c1) ?_ | refine qc ?_ | refine qh ?_ | refine qi ?_ | refine qm ?_) <;> (try simp (disch := first | omega | simp) [qg, -qq, -qr, hlt, hemp, hnum, hnb])) | ((with_reducible refine sideT ?_ ?_); first | omega | assumption | (simp; done)) | (refine qd fun K hK => ?_) | (refine qa ?_) | refine ql ?_ | ((first | refine hK _ ?_ | (clear hK K; refine hK _ ?_) | (clear hK K; clear hK K; refine hK _ ?_)); clear hK K) | refine qb ?_)
        all_goals (exfalso; first | omega | (simp_all; done))
    rw [if_neg h22, if_neg (by simp [hnum])] at tX
    rw [if_neg h22] at tB
    rw [tX] at hX2; rw [tB] at hB2
    rw [hnum] at c1
    have hsc := numP_len hnum h22
    clear tX tB hnum
    have hs' : s.toList.isEmpty = false → o = 1 := fun h => by
      rw [hemp] at h
      have := of_decide_eq_false h
      omega
    clear hemp hs htl
    rcases hsc with ⟨ho, rfl⟩ | ⟨ho, a, rfl⟩ | ⟨ho, a, b, d, rfl⟩ | ⟨ho, a, b, rfl⟩
    · rw [if_pos rfl] at hB2
      simp at c1
      repeat' (first | ((first | ((with_reducible refine qo (fun hg => ?_) (fun hg => ?_)) <;> (try simp only [hg]) <;> (try simp only [gS] at hg) <;> (try (first | simp only [eq_false hg, gI] | simp only [eq_true hg, gI]))) | (with_reducible first | refine qf ?_ | refine qe ?_ | refine qk ?_ | refine qj ?_) | refine acall (c1) ?_ | refine qp (c1) ?_ | refine acall (c3) ?_ | refine qp (c3) ?_ | refine acall (c4) ?_ | refine qp (c4) ?_ | refine qc ?_ | refine qh ?_ | refine qi ?_ | refine qm ?_) <;> (try simp (disch := first | omega | simp) [qg, -qq, -qr, hlt, h22, h22b])) | ((with_reducible refine sideT ?_ ?_); first | omega | assumption | (simp; done)) | (refine qd fun K hK => ?_) | (refine qa ?_) | refine ql ?_ | ((first | refine hK _ ?_ | (clear hK K; refine hK _ ?_) | (clear hK K; clear hK K; refine hK _ ?_)); clear hK K) | refine qb ?_)
      all_goals first
        | (exfalso; have := hs' (by assumption); omega)
        | (exfalso; omega)
        | (rw [hX2, hB2]; simp [*, leafT]; done)
        | (have h2 : o = 2 := by assumption
           have hn : ¬ n = 0 := by assumption
           subst h2; rw [hX2, hB2]; simp [leafT, hn]; by_cases h1 : n = 1 <;> simp [h1]; done)
        | (have h1 : o = 1 := by assumption
           have hn : n = 0 := by omega
           subst h1; subst hn
           refine ⟨by rw [hX2]; simp, ?_⟩
           rw [hB2]
           by_cases hz : (s.size : Int) ≤ 200
           · simp only [leafT, hz]; simp
           · simp only [leafT, hz]; simp)
    all_goals rw [if_neg (by simp)] at hB2
    · simp at c1
      repeat' (first | ((first | ((with_reducible refine qo (fun hg => ?_) (fun hg => ?_)) <;> (try simp only [hg]) <;> (try simp only [gS] at hg) <;> (try (first | simp only [eq_false hg, gI] | simp only [eq_true hg, gI]))) | (with_reducible first | refine qf ?_ | refine qe ?_ | refine qk ?_ | refine qj ?_) | refine acall (c1) ?_ | refine qp (c1) ?_ | refine acall (c3) ?_ | refine qp (c3) ?_ | refine acall (c4) ?_ | refine qp (c4) ?_ | refine qc ?_ | refine qh ?_ | refine qi ?_ | refine qm ?_) <;> (try simp (disch := first | omega | simp) [qg, -qq, -qr, hlt, h22, h22b])) | ((with_reducible refine sideT ?_ ?_); first | omega | assumption | (simp; done)) | (refine qd fun K hK => ?_) | (refine qa ?_) | refine ql ?_ | ((first | refine hK _ ?_ | (clear hK K; refine hK _ ?_) | (clear hK K; clear hK K; refine hK _ ?_)); clear hK K) | refine qb ?_)
      all_goals first
        | (exfalso; have := hs' (by assumption); omega)
        | (exfalso; omega)
        | (clear c1 c3 c4 hcl hft hs' h22 h22b; rw [hX2, hB2]; simp [*, operT]; done)
        | (clear c1 c3 c4 hcl hft hs' h22 h22b; rw [hX2, hB2]; simp [*, operT]; by_cases h1 : a = 0 <;> simp [h1]; done)
        | (clear c1 c3 c4 hcl hft hs' h22 h22b; rw [hX2, hB2]; simp [*, operT]; by_cases h1 : a = 1 <;> simp [h1]; done)
        | (clear c1 c3 c4 hcl hft hs' h22 h22b; rw [hX2, hB2]; simp [*, operT]; by_cases h1 : a = 2 <;> simp [h1]; done)
    · simp at c1
      subst ho
      repeat' (first | ((first | ((with_reducible refine qo (fun hg => ?_) (fun hg => ?_)) <;> (try simp only [hg]) <;> (try simp only [gS] at hg) <;> (try (first | simp only [eq_false hg, gI] | simp only [eq_true hg, gI]))) | (with_reducible first | refine qf ?_ | refine qe ?_ | refine qk ?_ | refine qj ?_) | refine acall (c1) ?_ | refine qp (c1) ?_ | refine acall (c3) ?_ | refine qp (c3) ?_ | refine acall (c4) ?_ | refine qp (c4) ?_ | refine qc ?_ | refine qh ?_ | refine qi ?_ | refine qm ?_) <;> (try simp (disch := first | omega | simp) [qg, -qq, -qr, hlt, h22, h22b])) | ((with_reducible refine sideT ?_ ?_); first | omega | assumption | (simp; done)) | (refine qd fun K hK => ?_) | (refine qa ?_) | refine ql ?_ | ((first | refine hK _ ?_ | (clear hK K; refine hK _ ?_) | (clear hK K; clear hK K; refine hK _ ?_)); clear hK K) | refine qb ?_)
      all_goals first
        | (exfalso; have := hs' (by assumption); omega)
        | (exfalso; omega)
        | (clear c1 c3 c4 hcl hft hs' h22 h22b; rw [hX2, hB2]; simp [*, operT]; done)
        | (clear c1 c3 c4 hcl hft hs' h22 h22b; rw [hX2, hB2]; simp [*, operT]; by_cases h1 : a = 2 <;> by_cases h2 : b = d <;> simp [h1, h2]; done)
    · simp at c1
      repeat' (first | ((first | ((with_reducible refine qo (fun hg => ?_) (fun hg => ?_)) <;> (try simp only [hg]) <;> (try simp only [gS] at hg) <;> (try (first | simp only [eq_false hg, gI] | simp only [eq_true hg, gI]))) | (with_reducible first | refine qf ?_ | refine qe ?_ | refine qk ?_ | refine qj ?_) | refine acall (c1) ?_ | refine qp (c1) ?_ | refine acall (c3) ?_ | refine qp (c3) ?_ | refine acall (c4) ?_ | refine qp (c4) ?_ | refine qc ?_ | refine qh ?_ | refine qi ?_ | refine qm ?_) <;> (try simp (disch := first | omega | simp) [qg, -qq, -qr, hlt, h22, h22b])) | ((with_reducible refine sideT ?_ ?_); first | omega | assumption | (simp; done)) | (refine qd fun K hK => ?_) | (refine qa ?_) | refine ql ?_ | ((first | refine hK _ ?_ | (clear hK K; refine hK _ ?_) | (clear hK K; clear hK K; refine hK _ ?_)); clear hK K) | refine qb ?_)
      all_goals first
        | (exfalso; have := hs' (by assumption); omega)
        | (exfalso; omega)
        | (clear c1 c3 c4 hcl hft hs' h22 h22b; rw [hX2, hB2]; simp [*, operT]; done)
        | (clear c1 c3 c4 hcl hft hs' h22 h22b; rw [hX2, hB2]; simp [*, operT]; by_cases h2 : a = b <;> simp [h2]; done)
        | (clear c1 c3 c4 hcl hft hs' h22 h22b; rw [hX2, hB2]; simp [*, operT]; by_cases h1 : b = 0 <;> simp [h1]; done)
        | (clear c1 c3 c4 hcl hft hs' h22 h22b; rw [hX2, hB2]; simp [*, operT]; by_cases h1 : b = 1 <;> simp [h1]; done)
        | (clear c1 c3 c4 hcl hft hs' h22 h22b; rw [hX2, hB2]; simp [*, operT]; by_cases h1 : b = 2 <;> simp [h1]; done)
end Go.Proofs.YtnkimlkoijfcpaaGreatDoor
