/- Layer 26 on plain data: how many instructions a program has, and which columns it reads. -/
import Derived.Test.YtnkimlkoijfcpaaGreatDoorGh3
import Derived.Test.YtnkimlkoijfcpaaGreatDoorGh16
import Derived.Test.YtnkimlkoijfcpaaGreatDoorGh18
import Derived.Test.YtnkimlkoijfcpaaGreatDoorGh25
set_option linter.unusedSimpArgs false
set_option linter.unusedVariables false
namespace Go.Proofs.YtnkimlkoijfcpaaGreatDoor
open Go.RowKit Go.Lib
theorem share_len {cols : List Int} {e : Ex} (h : TypE cols e) (hp : parts e ≤ 1000) : (compP (rawP cols e)).ins.length ≤ (qz e []).length := by
  obtain ⟨h1, -, -⟩ := raw_ok h hp
  have h2 := (comp_ok h1 0 []).2.2
  have h3 := (trim_ok h1 0 []).2.2
  have h4 : (rawP cols e).ins.length = (qz e []).length := by unfold rawP; exact rawI_len _ _ _
  omega
theorem trimI_mem (need : List Bool) : ∀ (l : List Ins) (i : Nat) (x : Ins), x ∈ trimI need l i → x ∈ l
  | [], _, x, h => by rw [trimI] at h; exact h
  | y :: l, i, x, h => by
    rw [trimI] at h
    split at h
    · rcases List.mem_cons.1 h with rfl | h
      · simp
      · exact List.mem_cons_of_mem _ (trimI_mem need l _ x h)
    · exact List.mem_cons_of_mem _ (trimI_mem need l _ x h)
theorem nodes_mem : ∀ (l : List Ins) (i : Nat) (last : List Nat) (d : Nd), d ∈ nodes l i last → d.x ∈ l
  | [], _, _, d, h => by rw [nodes] at h; cases h
  | x :: l, i, last, d, h => by
    rw [nodes] at h
    rcases List.mem_cons.1 h with rfl | h
    · simp
    · exact List.mem_cons_of_mem _ (nodes_mem l _ _ d h)
theorem compI_mem (e : List Nat) (ct : List Int) : ∀ (l : List Nd) (i : Nat) (s : CompS) (x : Ins), x ∈ (compI e ct l i s).ins → x ∈ s.ins ∨ ∃ d ∈ l, x.op = d.x.op ∧ x.n = d.x.n
  | [], _, s, x, h => by rw [compI] at h; exact .inl h
  | d :: l, i, s, x, h => by
    rw [compI] at h
    rcases compI_mem e ct l _ _ x h with h | ⟨d', hd, h⟩
    · rcases List.mem_append.1 h with h | h
      · exact .inl h
      · obtain rfl := List.mem_singleton.1 h
        exact .inr ⟨d, by simp, rfl, rfl⟩
    · exact .inr ⟨d', List.mem_cons_of_mem _ hd, h⟩
theorem comp_mem {c : Cod} {x : Ins} (h : x ∈ (compP c).ins) : ∃ y ∈ c.ins, x.op = y.op ∧ x.n = y.n := by
  unfold compP at h
  dsimp only at h
  unfold compS at h
  rcases compI_mem _ _ _ _ _ x h with h | ⟨d, hd, h⟩
  · cases h
  · have := nodes_mem _ _ _ d hd
    unfold trimP at this
    exact ⟨d.x, trimI_mem _ _ _ _ this, h⟩
theorem rawI_mem (L : List Ex) : ∀ (l : List Ex) (i : Nat) (x : Ins), x ∈ rawI L l i → ∃ e ∈ l, x.op = e.op ∧ x.n = e.n
  | [], _, x, h => by rw [rawI] at h; cases h
  | e :: l, i, x, h => by
    rw [rawI] at h
    rcases List.mem_cons.1 h with rfl | h
    · exact ⟨e, by simp, rfl, rfl⟩
    · obtain ⟨e', he, h⟩ := rawI_mem L l _ x h
      exact ⟨e', List.mem_cons_of_mem _ he, h⟩
mutual
theorem partsP_sub : ∀ (e : Ex) (L : List Ex) (y : Ex), y ∈ qz e L → y ∈ L ∨ y ∈ pre e
  | .mk o n s l, L, y, h => by
    rw [qz] at h
    rw [pre]
    split at h
    · rcases List.mem_append.1 h with h | h
      · rcases partsPs_sub l L y h with h | h
        · exact .inl h
        · exact .inr (List.mem_cons_of_mem _ h)
      · obtain rfl := List.mem_singleton.1 h
        exact .inr (by simp)
    · rcases partsPs_sub l L y h with h | h
      · exact .inl h
      · exact .inr (List.mem_cons_of_mem _ h)
theorem partsPs_sub : ∀ (l L : List Ex) (y : Ex), y ∈ qt l L → y ∈ L ∨ y ∈ preL l
  | [], L, y, h => by rw [qt] at h; exact .inl h
  | e :: l, L, y, h => by
    rw [qt] at h
    rw [preL]
    rcases partsPs_sub l _ y h with h | h
    · rcases partsP_sub e L y h with h | h
      · exact .inl h
      · exact .inr (List.mem_append_left _ h)
    · exact .inr (List.mem_append_right _ h)
end
theorem reads_arg {x : Int} {o n : Int} {s : ByteArray} {l : List Ex} {y : Ex} (hy : y ∈ l) (h : x ∈ qbg y) : x ∈ qbg (.mk o n s l) := by
  rw [qcp, pre]
  obtain ⟨z, hz, h2⟩ := (qeg x l).1 ⟨y, hy, h⟩
  exact ⟨z, List.mem_cons_of_mem _ hz, h2⟩
theorem reads_const (x : Int) (v : Val) : x ∉ qbg (qbl v) := by
  rw [qcp]
  rintro ⟨y, hy, h1, -⟩
  unfold qbl at hy
  (repeat' split at hy) <;> (first | (rw [pre, preL] at hy; obtain rfl := List.mem_singleton.1 hy; simp [Ex.op] at h1) | (unfold zeroE at hy; rw [pre, preL] at hy; obtain rfl := List.mem_singleton.1 hy; simp [Ex.op] at h1))
theorem top_reads {x : Int} {o n : Int} {s : ByteArray} {l : List Ex} (h : x ∈ qbg (topF o n s l)) : x ∈ qbg (.mk o n s l) := by
  rcases top_cases o n s l with e | ⟨v, e⟩ | e | ⟨n2, s2, e⟩
  · rwa [e] at h
  · rw [e] at h; exact absurd h (reads_const x v)
  · exact reads_arg e h
  · have h1 : x ∈ qbg (.mk 6 n2 s2 [topF o n s l]) := reads_arg (by simp) h
    have hm := List.mem_singleton_self (Ex.mk 6 n2 s2 [topF o n s l])
    rw [← e] at hm
    exact reads_arg hm h1
theorem fold_reads {x : Int} (e : Ex) : x ∈ qbg (foldE e) → x ∈ qbg e := by
  induction e using Ex.ind with
  | h o n s l ih =>
    intro h
    rw [foldE] at h
    have h1 := top_reads h
    rw [qcp, pre] at h1
    obtain ⟨z, hz, h2⟩ := h1
    rcases List.mem_cons.1 hz with rfl | hz
    · rw [qcp, pre]
      exact ⟨_, List.mem_cons_self, h2⟩
    · obtain ⟨y, hy, h3⟩ := (qeg x (foldL l)).2 ⟨z, hz, h2⟩
      rw [qdz] at hy
      obtain ⟨w, hw, rfl⟩ := List.mem_map.1 hy
      exact reads_arg hw (ih w hw h3)
theorem compact_mem {l : List Int} {x : Int} (h : x ∈ Lib.compact l) : x ∈ l := by
  unfold Lib.compact Lib.compactUpTo at h
  obtain ⟨j, hj, rfl⟩ := List.mem_map.1 h
  have hj2 := List.mem_range.1 (List.mem_filter.1 hj).1
  simp [getElem!_pos, hj2]
theorem share_reads {cols : List Int} {y : Ex} {x : Int} (h : x ∈ qen (compP (rawP cols (foldE y)))) : x ∈ qbg y := by
  unfold qen at h
  have h1 := compact_mem h
  have h2 : x ∈ colsI (compP (rawP cols (foldE y))).ins := (List.mem_mergeSort).1 h1
  unfold colsI at h2
  obtain ⟨i, hi, rfl⟩ := List.mem_map.1 h2
  obtain ⟨hi, ho⟩ := List.mem_filter.1 hi
  obtain ⟨j, hj, e1, e2⟩ := comp_mem hi
  unfold rawP at hj
  obtain ⟨e, he, e3, e4⟩ := rawI_mem _ _ _ j hj
  refine fold_reads y ?_
  rw [qcp]
  rcases partsP_sub _ _ _ he with he | he
  · cases he
  · exact ⟨e, he, by rw [← e3, ← e1]; simpa using ho, by rw [← e4, ← e2]⟩
end Go.Proofs.YtnkimlkoijfcpaaGreatDoor

/- Walks of layer 26: the different parts of an expression, of the reference. -/
namespace Go.Proofs.YtnkimlkoijfcpaaGreatDoor
open Go.RowKit Go.Lib
theorem find26_g (L : List Ex) (e : Ex) (hL : L.length ≤ 1000000) (hp : ∀ x ∈ L, parts x ≤ 1000000) : Gives Tryz.prog 56 [.sl (L.map Ex.av), e.av] (.int (findE L e)) := by
  unfold findE
  refine qn Tryz.func56 Tryz.ntmps56 rfl rfl (by decide) rfl (by intro n; simp) fun σ n0 hcl hft => ?_
  repeat' (first | ((first | ((with_reducible refine qo (fun hg => ?_) (fun hg => ?_)) <;> (try simp only [hg]) <;> (try simp only [gS] at hg) <;> (try (first | simp only [eq_false hg, gI] | simp only [eq_true hg, gI]))) | (with_reducible first | refine qh ?_ | refine qg ?_ | refine ql ?_ | refine qk ?_) | refine qd ?_ | refine qi ?_ | refine qj ?_ | refine qm ?_) <;> (try simp (disch := first | omega | simp) [qf, -qq, -qs])) | ((with_reducible refine sideT ?_ ?_); first | omega | assumption | (simp; done)) | (refine qe fun K hK => ?_) | (refine qb ?_) | (refine qa true (by kernel_rfl) (by kernel_rfl) ?_) | (refine qa false (by kernel_rfl) (by kernel_rfl) ?_) | (refine hK _ ?_; clear hK K) | (clear hK K; refine hK _ ?_; clear hK K) | (clear hK K; clear hK K; refine hK _ ?_; clear hK K) | refine qc ?_)
  refine qu hcl (fun k : Nat => [(0, .sl (L.map Ex.av)), (3, .ptr n0 0), (5, .int k)]) (fun _ => [.cells e.av.cells 25])
    (fun k => k ≤ L.length ∧ ∀ j (h : j < L.length), j < k → sameB L[j] e = false) (fun k => L.length - k) 0 ⟨by omega, fun j h hj => by omega⟩ (by simp) fun k ⟨hk, he⟩ => ?_
  by_cases hlt : k < L.length
  · have c1 := rsame_g L[k] e (hp _ (List.getElem_mem hlt))
    cases hs : sameB L[k] e
    · rw [hs] at c1
      repeat' (first | ((first | ((with_reducible refine qo (fun hg => ?_) (fun hg => ?_)) <;> (try simp only [hg]) <;> (try simp only [gS] at hg) <;> (try (first | simp only [eq_false hg, gI] | simp only [eq_true hg, gI]))) | (with_reducible first | refine qh ?_ | refine qg ?_ | refine ql ?_ | refine qk ?_) | refine acall (c1) ?_ | refine qr (c1) ?_ | refine qp (c1) ?_ | refine qd ?_ | refine qi ?_ | refine qj ?_ | refine qm ?_) <;> (try simp (disch := first | omega | simp) [qf, -qq, -qs, hlt])) | ((with_reducible refine sideT ?_ ?_); first | omega | assumption | (simp; done)) | (refine qe fun K hK => ?_) | (refine qb ?_) | (refine qa true (by kernel_rfl) (by kernel_rfl) ?_) | (refine qa false (by kernel_rfl) (by kernel_rfl) ?_) | (refine hK _ ?_; clear hK K) | (clear hK K; refine hK _ ?_; clear hK K) | (clear hK K; clear hK K; refine hK _ ?_; clear hK K) | refine qc ?_)
      all_goals exact ⟨k + 1, ⟨by omega, upto_succ (C := fun x : Ex => sameB x e = false) he fun _ => hs⟩, by omega, by simp⟩
    · rw [hs] at c1
      have := (idxP_hit (p := fun x => sameB x e) hlt hs he).symm
      repeat' (first | ((first | ((with_reducible refine qo (fun hg => ?_) (fun hg => ?_)) <;> (try simp only [hg]) <;> (try simp only [gS] at hg) <;> (try (first | simp only [eq_false hg, gI] | simp only [eq_true hg, gI]))) | (with_reducible first | refine qh ?_ | refine qg ?_ | refine ql ?_ | refine qk ?_) | refine acall (c1) ?_ | refine qr (c1) ?_ | refine qp (c1) ?_ | refine qd ?_ | refine qi ?_ | refine qj ?_ | refine qm ?_) <;> (try simp (disch := first | omega | simp) [qf, -qq, -qs, hlt])) | ((with_reducible refine sideT ?_ ?_); first | omega | assumption | (simp; done)) | (refine qe fun K hK => ?_) | (refine qb ?_) | (refine qa true (by kernel_rfl) (by kernel_rfl) ?_) | (refine qa false (by kernel_rfl) (by kernel_rfl) ?_) | (refine hK _ ?_; clear hK K) | (clear hK K; refine hK _ ?_; clear hK K) | (clear hK K; clear hK K; refine hK _ ?_; clear hK K) | refine qc ?_)
      all_goals exact this
  · have := (idxP_miss (p := fun x => sameB x e) (upto_all (C := fun x : Ex => sameB x e = false) he hlt)).symm
    repeat' (first | ((first | ((with_reducible refine qo (fun hg => ?_) (fun hg => ?_)) <;> (try simp only [hg]) <;> (try simp only [gS] at hg) <;> (try (first | simp only [eq_false hg, gI] | simp only [eq_true hg, gI]))) | (with_reducible first | refine qh ?_ | refine qg ?_ | refine ql ?_ | refine qk ?_) | refine qd ?_ | refine qi ?_ | refine qj ?_ | refine qm ?_) <;> (try simp (disch := first | omega | simp) [qf, -qq, -qs, hlt])) | ((with_reducible refine sideT ?_ ?_); first | omega | assumption | (simp; done)) | (refine qe fun K hK => ?_) | (refine qb ?_) | (refine qa true (by kernel_rfl) (by kernel_rfl) ?_) | (refine qa false (by kernel_rfl) (by kernel_rfl) ?_) | (refine hK _ ?_; clear hK K) | (clear hK K; refine hK _ ?_; clear hK K) | (clear hK K; clear hK K; refine hK _ ?_; clear hK K) | refine qc ?_)
    all_goals exact this
mutual
theorem pre_parts : ∀ (e x : Ex), x ∈ pre e → parts x ≤ parts e
  | .mk o n s l, x, h => by
    rw [pre] at h
    rcases List.mem_cons.1 h with rfl | h
    · exact Nat.le_refl _
    · have := preL_parts l x h; rw [parts]; omega
theorem preL_parts : ∀ (l : List Ex) (x : Ex), x ∈ preL l → parts x ≤ qv l
  | [], x, h => by rw [preL] at h; cases h
  | e :: l, x, h => by
    rw [preL] at h
    rw [qv]
    rcases List.mem_append.1 h with h | h
    · have := pre_parts e x h; omega
    · have := preL_parts l x h; omega
end
theorem partsP_small {B : Nat} (e : Ex) (L : List Ex) (hL : ∀ x ∈ L, parts x ≤ B) (he : parts e ≤ B) : ∀ x ∈ qz e L, parts x ≤ B := fun x hx => by
  rcases partsP_sub e L x hx with h | h
  · exact hL x h
  · have := pre_parts e x h; omega
set_option maxHeartbeats 8000000 in
theorem parts26_ac (e : Ex) : ∀ (L : List Ex) (r : Nat) (σ : Nat → AB), σ r = .tail L.length 25 4 → L.length + parts e ≤ 1000000 → (∀ x ∈ L, parts x ≤ 1000000) →
    AC Tryz.prog 20 [.gs r (L.map Ex.av), e.av] σ fun y τ => y = .gs r ((qz e L).map Ex.av) ∧ τ = upd σ r (.tail (qz e L).length 25 4) := by
  induction e using Ex.ind with | h o n s l ih => ?_
  intro L r σ hσ hsz hLp
  have hpe : parts (.mk o n s l) = qv l + 1 := by rw [parts]
  have hll : l.length ≤ 1000000 := by have := qbh l; omega
  obtain ⟨R, hR⟩ : ∃ R, R = qz (.mk o n s l) L := ⟨_, rfl⟩
  have hR2 := hR
  rw [qz] at hR2
  rw [← hR]
  refine acR_of_awp Tryz.func20 Tryz.ntmps20 rfl rfl (by decide) rfl fun n0 hfin hcl hft => ?_
  have hrn := fin_lt hfin hσ (by simp)
  have hlc : ∀ (τ : Nat → AB) (Lo : List AB), loc τ n0 Lo r = τ r := fun τ Lo => qed τ n0 r Lo hrn
  have hup : ∀ (τ : Nat → AB) (ab : AB), upd τ r ab r = ab := fun τ ab => by simp [upd]
  have hclu : ∀ m k, ((upd σ r (.tail m 25 4)) k).cl n0 := fun m k => by unfold upd; split; trivial; exact hcl k
  refine ⟨by simp [AV.cl, hrn], fun k hk => by unfold upd; rw [if_neg (by omega)]; exact hfin k hk, hclu _, ?_⟩
  obtain ⟨M, hM⟩ : ∃ M : Nat → List Ex, M = fun k => qt (l.take k) L := ⟨_, rfl⟩
  have hM0 : M 0 = L := by rw [hM]; simp [qt]
  have hMs : ∀ k (h : k < l.length), M (k + 1) = qz l[k] (M k) := fun k h => by
    rw [hM]; dsimp only; rw [List.take_succ_eq_append_getElem h, qeq, qt, qt]
  have hMl : ∀ k, k ≤ l.length → (M k).length ≤ L.length + qv l := fun k hk => by
    rw [hM]; dsimp only
    have h1 := qbx (l.take k) L
    have h2 := qbd l k
    omega
  have hMp : ∀ k (h : k < l.length), (M k).length + parts l[k] ≤ 1000000 := fun k h => by
    rw [hM]; dsimp only
    have h1 := qbx (l.take k) L
    have h2 := qcr l k h
    have h3 := qbd l (k + 1)
    omega
  have hMx : ∀ k, k ≤ l.length → ∀ x ∈ M k, parts x ≤ 1000000 := fun k => by
    induction k with
    | zero => intro _; rw [hM0]; exact hLp
    | succ k ihk => intro h; rw [hMs k (by omega)]; exact partsP_small _ _ (ihk (by omega)) (by have := qbe l l[k] (List.getElem_mem (by omega)); omega)
  have hME : qt l L = M l.length := by rw [hM]; dsimp only; rw [List.take_length]
  rw [hME] at hR2
  clear hM
  repeat' (first | ((first | ((with_reducible refine qo (fun hg => ?_) (fun hg => ?_)) <;> (try simp only [hg]) <;> (try simp only [gS] at hg) <;> (try (first | simp only [eq_false hg, gI] | simp only [eq_true hg, gI]))) | (with_reducible first | refine qh ?_ | refine qg ?_ | refine ql ?_ | refine qk ?_) | refine qd ?_ | refine qi ?_ | refine qj ?_ | refine qm ?_) <;> (try simp (disch := first | omega | simp) [qf, -qq, -qs])) | ((with_reducible refine sideT ?_ ?_); first | omega | assumption | (simp; done)) | (refine qe fun K hK => ?_) | (refine qb ?_) | (refine qa true (by kernel_rfl) (by kernel_rfl) ?_) | (refine qa false (by kernel_rfl) (by kernel_rfl) ?_) | (refine hK _ ?_; clear hK K) | (clear hK K; refine hK _ ?_; clear hK K) | (clear hK K; clear hK K; refine hK _ ?_; clear hK K) | refine qc ?_)
  refine awp_loopS (fun k => upd σ r (.tail (M k).length 25 4)) (fun k : Nat => [(0, .gs r ((M k).map Ex.av)), (3, .ptr n0 0), (5, .int k)])
    (fun _ => [.cells [.int o, .int n, .str s, .sl (l.map Ex.av)] 25])
    (fun k => k ≤ l.length) (fun k => l.length - k) 0 (fun k _ => hclu _) (by omega) (by simp [leS, hM0, upd]; exact ⟨fun r1 h1 h2 => by subst h2; exact hσ.symm, by omega⟩) hcl fun k hk => ?_
  by_cases hlt : k < l.length
  · have c1 := fun τ h => ih l[k] (List.getElem_mem hlt) (M k) r τ h (hMp k hlt) (hMx k (by omega))
    rw [← hMs k hlt] at c1
    repeat' (first | ((first | ((with_reducible refine qo (fun hg => ?_) (fun hg => ?_)) <;> (try simp only [hg]) <;> (try simp only [gS] at hg) <;> (try (first | simp only [eq_false hg, gI] | simp only [eq_true hg, gI]))) | (with_reducible first | refine qh ?_ | refine qg ?_ | refine ql ?_ | refine qk ?_) | refine awp_regionR (id := 4) 6 (by rfl) ?_ | refine acallS r _ (c1 _ (by simp [hlc, hup])) (by simp [hlc, hup]) ?_ | refine qd ?_ | refine qi ?_ | refine qj ?_ | refine qm ?_) <;> (try simp (disch := first | omega | simp) [qf, -qq, -qs, hlt, hrn, hlc, hup, List.take_succ_cons, List.drop_succ_cons])) | ((with_reducible refine sideT ?_ ?_); first | omega | assumption | (simp; done)) | (refine qe fun K hK => ?_) | (refine qb ?_) | (refine qa true (by kernel_rfl) (by kernel_rfl) ?_) | (refine qa false (by kernel_rfl) (by kernel_rfl) ?_) | (refine hK _ ?_; clear hK K) | (clear hK K; refine hK _ ?_; clear hK K) | (clear hK K; clear hK K; refine hK _ ?_; clear hK K) | refine qc ?_)
    exact ⟨hclu _, k + 1, by omega, by omega, fun r _ => rfl, by simp; omega⟩
  · obtain rfl : k = l.length := by omega
    have c1 := find26_g (M l.length) (.mk o n s l) (by have := hMl l.length (Nat.le_refl _); omega) (hMx _ (Nat.le_refl _))
    have hml := hMl l.length (Nat.le_refl _)
    generalize M l.length = N at *
    by_cases hf : findE N (.mk o n s l) < 0
    · rw [if_pos hf] at hR2
      generalize findE N (.mk o n s l) = J at *
      rw [Ex.av_mk] at c1
      repeat' (first | ((first | ((with_reducible refine qo (fun hg => ?_) (fun hg => ?_)) <;> (try simp only [hg]) <;> (try simp only [gS] at hg) <;> (try (first | simp only [eq_false hg, gI] | simp only [eq_true hg, gI]))) | (with_reducible first | refine qh ?_ | refine qg ?_ | refine ql ?_ | refine qk ?_) | refine acall (c1) ?_ | refine qr (c1) ?_ | refine qp (c1) ?_ | refine qd ?_ | refine qi ?_ | refine qj ?_ | refine qm ?_) <;> (try simp (disch := first | omega | simp) [qf, -qq, -qs, hlt, hrn, hlc, hup, hf])) | ((with_reducible refine sideT ?_ ?_); first | omega | assumption | (simp; done)) | (refine qe fun K hK => ?_) | (refine qb ?_) | (refine qa true (by kernel_rfl) (by kernel_rfl) ?_) | (refine qa false (by kernel_rfl) (by kernel_rfl) ?_) | (refine hK _ ?_; clear hK K) | (clear hK K; refine hK _ ?_; clear hK K) | (clear hK K; clear hK K; refine hK _ ?_; clear hK K) | refine qc ?_)
      all_goals first
        | (exfalso; omega)
        | (rw [hR2]; exact ⟨by simp, 4, rfl, by simp, fun l h => by cases h⟩)
    · rw [if_neg hf] at hR2
      generalize findE N (.mk o n s l) = J at *
      rw [Ex.av_mk] at c1
      repeat' (first | ((first | ((with_reducible refine qo (fun hg => ?_) (fun hg => ?_)) <;> (try simp only [hg]) <;> (try simp only [gS] at hg) <;> (try (first | simp only [eq_false hg, gI] | simp only [eq_true hg, gI]))) | (with_reducible first | refine qh ?_ | refine qg ?_ | refine ql ?_ | refine qk ?_) | refine acall (c1) ?_ | refine qr (c1) ?_ | refine qp (c1) ?_ | refine qd ?_ | refine qi ?_ | refine qj ?_ | refine qm ?_) <;> (try simp (disch := first | omega | simp) [qf, -qq, -qs, hlt, hrn, hlc, hup, hf])) | ((with_reducible refine sideT ?_ ?_); first | omega | assumption | (simp; done)) | (refine qe fun K hK => ?_) | (refine qb ?_) | (refine qa true (by kernel_rfl) (by kernel_rfl) ?_) | (refine qa false (by kernel_rfl) (by kernel_rfl) ?_) | (refine hK _ ?_; clear hK K) | (clear hK K; refine hK _ ?_; clear hK K) | (clear hK K; clear hK K; refine hK _ ?_; clear hK K) | refine qc ?_)
      all_goals first
        | (exfalso; omega)
        | (rw [hR2]; exact ⟨rfl, 4, rfl, by simp, fun l h => by cases h⟩)
theorem parts26_g (e : Ex) (hsz : parts e ≤ 1000000) : Gives Tryz.prog 20 [.v (.slice none 0 0), e.av] (.sl ((qz e []).map Ex.av)) := by
  obtain ⟨o, n, s, l⟩ := e
  obtain ⟨R, hR⟩ : ∃ R, R = qz (.mk o n s l) [] := ⟨_, rfl⟩
  have hR2 := hR
  rw [qz] at hR2
  rw [← hR]
  have hpe : parts (.mk o n s l) = qv l + 1 := by rw [parts]
  have hll : l.length ≤ 1000000 := by have := qbh l; omega
  obtain ⟨M, hM⟩ : ∃ M : Nat → List Ex, M = fun k => qt (l.take k) [] := ⟨_, rfl⟩
  have hM0 : M 0 = [] := by rw [hM]; simp [qt]
  have hMs : ∀ k (h : k < l.length), M (k + 1) = qz l[k] (M k) := fun k h => by
    rw [hM]; dsimp only; rw [List.take_succ_eq_append_getElem h, qeq, qt, qt]
  have hMl : ∀ k, k ≤ l.length → (M k).length ≤ qv l := fun k hk => by
    rw [hM]; dsimp only
    have h1 := qbx (l.take k) []
    have h2 := qbd l k
    rw [List.length_nil] at h1
    omega
  have hMp : ∀ k (h : k < l.length), (M k).length + parts l[k] ≤ 1000000 := fun k h => by
    rw [hM]; dsimp only
    have h1 := qbx (l.take k) []
    have h2 := qcr l k h
    have h3 := qbd l (k + 1)
    rw [List.length_nil] at h1
    omega
  have hMx : ∀ k, k ≤ l.length → ∀ x ∈ M k, parts x ≤ 1000000 := fun k => by
    induction k with
    | zero => intro _; rw [hM0]; simp
    | succ k ihk => intro h; rw [hMs k (by omega)]; exact partsP_small _ _ (ihk (by omega)) (by have := qbe l l[k] (List.getElem_mem (by omega)); omega)
  have hME : qt l [] = M l.length := by rw [hM]; dsimp only; rw [List.take_length]
  rw [hME] at hR2
  clear hM
  refine qn Tryz.func20 Tryz.ntmps20 rfl rfl (by decide) rfl (by intro n; simp) fun σ n0 hcl hft => ?_
  repeat' (first | ((first | ((with_reducible refine qo (fun hg => ?_) (fun hg => ?_)) <;> (try simp only [hg]) <;> (try simp only [gS] at hg) <;> (try (first | simp only [eq_false hg, gI] | simp only [eq_true hg, gI]))) | (with_reducible first | refine qh ?_ | refine qg ?_ | refine ql ?_ | refine qk ?_) | refine qd ?_ | refine qi ?_ | refine qj ?_ | refine qm ?_) <;> (try simp (disch := first | omega | simp) [qf, -qq, -qs])) | ((with_reducible refine sideT ?_ ?_); first | omega | assumption | (simp; done)) | (refine qe fun K hK => ?_) | (refine qb ?_) | (refine qa true (by kernel_rfl) (by kernel_rfl) ?_) | (refine qa false (by kernel_rfl) (by kernel_rfl) ?_) | (refine hK _ ?_; clear hK K) | (clear hK K; refine hK _ ?_; clear hK K) | (clear hK K; clear hK K; refine hK _ ?_; clear hK K) | refine qc ?_)
  refine qcg 0 25 4 (by simp) ?_
  simp only [List.length_append, List.length_cons, List.length_nil, Nat.zero_add, Nat.reduceAdd, List.cons_append, List.nil_append]
  refine qu hcl (fun k : Nat => [(0, .gs (n0 + 1) ((M k).map Ex.av)), (3, .ptr n0 0), (5, .int k)])
    (fun k => [.cells [.int o, .int n, .str s, .sl (l.map Ex.av)] 25, .tail (M k).length 25 4])
    (fun k => k ≤ l.length) (fun k => l.length - k) 0 (by omega) (by simp [hM0]) fun k hk => ?_
  by_cases hlt : k < l.length
  · have c1 := fun τ h => parts26_ac l[k] (M k) (n0 + 1) τ h (hMp k hlt) (hMx k (by omega))
    rw [← hMs k hlt] at c1
    repeat' (first | ((first | ((with_reducible refine qo (fun hg => ?_) (fun hg => ?_)) <;> (try simp only [hg]) <;> (try simp only [gS] at hg) <;> (try (first | simp only [eq_false hg, gI] | simp only [eq_true hg, gI]))) | (with_reducible first | refine qh ?_ | refine qg ?_ | refine ql ?_ | refine qk ?_) | refine awp_regionR (id := 4) 6 (by rfl) ?_ | refine acallS (n0 + 1) _ (c1 _ (by simp)) (by simp) ?_ | refine qd ?_ | refine qi ?_ | refine qj ?_ | refine qm ?_) <;> (try simp (disch := first | omega | simp) [qf, -qq, -qs, hlt, List.take_succ_cons, List.drop_succ_cons])) | ((with_reducible refine sideT ?_ ?_); first | omega | assumption | (simp; done)) | (refine qe fun K hK => ?_) | (refine qb ?_) | (refine qa true (by kernel_rfl) (by kernel_rfl) ?_) | (refine qa false (by kernel_rfl) (by kernel_rfl) ?_) | (refine hK _ ?_; clear hK K) | (clear hK K; refine hK _ ?_; clear hK K) | (clear hK K; clear hK K; refine hK _ ?_; clear hK K) | refine qc ?_)
    all_goals exact ⟨k + 1, by omega, by omega, by simp⟩
  · obtain rfl : k = l.length := by omega
    have c1 := find26_g (M l.length) (.mk o n s l) (by have := hMl l.length (Nat.le_refl _); omega) (hMx _ (Nat.le_refl _))
    have hml := hMl l.length (Nat.le_refl _)
    generalize M l.length = N at *
    by_cases hf : findE N (.mk o n s l) < 0
    · rw [if_pos hf] at hR2
      generalize findE N (.mk o n s l) = J at *
      rw [Ex.av_mk] at c1
      repeat' (first | ((first | ((with_reducible refine qo (fun hg => ?_) (fun hg => ?_)) <;> (try simp only [hg]) <;> (try simp only [gS] at hg) <;> (try (first | simp only [eq_false hg, gI] | simp only [eq_true hg, gI]))) | (with_reducible first | refine qh ?_ | refine qg ?_ | refine ql ?_ | refine qk ?_) | refine acall (c1) ?_ | refine qr (c1) ?_ | refine qp (c1) ?_ | refine qd ?_ | refine qi ?_ | refine qj ?_ | refine qm ?_) <;> (try simp (disch := first | omega | simp) [qf, -qq, -qs, hlt, hf])) | ((with_reducible refine sideT ?_ ?_); first | omega | assumption | (simp; done)) | (refine qe fun K hK => ?_) | (refine qb ?_) | (refine qa true (by kernel_rfl) (by kernel_rfl) ?_) | (refine qa false (by kernel_rfl) (by kernel_rfl) ?_) | (refine hK _ ?_; clear hK K) | (clear hK K; refine hK _ ?_; clear hK K) | (clear hK K; clear hK K; refine hK _ ?_; clear hK K) | refine qc ?_)
      all_goals first | (exfalso; omega) | (rw [hR2]; simp; done)
    · rw [if_neg hf] at hR2
      generalize findE N (.mk o n s l) = J at *
      rw [Ex.av_mk] at c1
      repeat' (first | ((first | ((with_reducible refine qo (fun hg => ?_) (fun hg => ?_)) <;> (try simp only [hg]) <;> (try simp only [gS] at hg) <;> (try (first | simp only [eq_false hg, gI] | simp only [eq_true hg, gI]))) | (with_reducible first | refine qh ?_ | refine qg ?_ | refine ql ?_ | refine qk ?_) | refine acall (c1) ?_ | refine qr (c1) ?_ | refine qp (c1) ?_ | refine qd ?_ | refine qi ?_ | refine qj ?_ | refine qm ?_) <;> (try simp (disch := first | omega | simp) [qf, -qq, -qs, hlt, hf])) | ((with_reducible refine sideT ?_ ?_); first | omega | assumption | (simp; done)) | (refine qe fun K hK => ?_) | (refine qb ?_) | (refine qa true (by kernel_rfl) (by kernel_rfl) ?_) | (refine qa false (by kernel_rfl) (by kernel_rfl) ?_) | (refine hK _ ?_; clear hK K) | (clear hK K; refine hK _ ?_; clear hK K) | (clear hK K; clear hK K; refine hK _ ?_; clear hK K) | refine qc ?_)
      all_goals first | (exfalso; omega) | (rw [hR2]; done)
end Go.Proofs.YtnkimlkoijfcpaaGreatDoor

/- The columns of a typed expression are few. -/
namespace Go.Proofs.YtnkimlkoijfcpaaGreatDoor
open Go.RowKit Go.Lib
theorem cols_ok {F : List Fn} {c p : List Int} {e : Ex} {t : Int} (ht : ty F c p e = some t) (hc : c.length ≤ 1000000) : colsOk e := fun y hy ho => by
  have := reads_lt e ht y.n ((qcp y.n e).2 ⟨y, hy, ho, rfl⟩)
  have h1 : IntKind.i64.min = -9223372036854775808 := by decide
  have h2 : IntKind.i64.max = 9223372036854775807 := by decide
  simp [Lit.wf, h1, h2]
  omega
end Go.Proofs.YtnkimlkoijfcpaaGreatDoor

/- Walk of layer 26: the law CompileShares. -/
namespace Go.Proofs.YtnkimlkoijfcpaaGreatDoor
open Go.RowKit Go.Lib
set_option maxRecDepth 100000 in
set_option maxHeartbeats 16000000 in
theorem shares26_g (F : List Fn) (cols : List Int) (e : Ex) (hlF : F.length ≤ 2000000) (hF : ∀ f ∈ F, parts f.body ≤ 1000000) (hp : parts e ≤ 1000000) (hn : n64 e) (hFn : ∀ f ∈ F, n64 f.body) :
    Gives Tryz.prog 4 [.sl (F.map Fn.av), .sl (cols.map AV.int), e.av] (.bool true) := by
  have csm := small26_g
  have cl := light26_g F cols e hlF hF hp
  cases hl : light26 F cols e with
  | false =>
    rw [hl] at cl
    refine qn Tryz.func4 Tryz.ntmps4 rfl rfl (by decide) rfl (by intro n; simp) fun σ n0 hcl hft => ?_
    repeat' (first | ((first | ((with_reducible refine qo (fun hg => ?_) (fun hg => ?_)) <;> (try simp only [hg]) <;> (try simp only [gS] at hg) <;> (try (first | simp only [eq_false hg, gI] | simp only [eq_true hg, gI]))) | (with_reducible first | refine qh ?_ | refine qg ?_ | refine ql ?_ | refine qk ?_) | refine acall (csm) ?_ | refine qr (csm) ?_ | refine qp (csm) ?_ | refine acall (cl) ?_ | refine qr (cl) ?_ | refine qp (cl) ?_ | refine qd ?_ | refine qi ?_ | refine qj ?_ | refine qm ?_) <;> (try simp (disch := first | omega | simp) [qf, -qq, -qs])) | ((with_reducible refine sideT ?_ ?_); first | omega | assumption | (simp; done)) | (refine qe fun K hK => ?_) | (refine qb ?_) | (refine qa true (by kernel_rfl) (by kernel_rfl) ?_) | (refine qa false (by kernel_rfl) (by kernel_rfl) ?_) | (refine hK _ ?_; clear hK K) | (clear hK K; refine hK _ ?_; clear hK K) | (clear hK K; clear hK K; refine hK _ ?_; clear hK K) | refine qc ?_)
  | true =>
  rw [hl] at cl
  have hl2 := hl
  unfold light26 slimP at hl2
  simp only [Bool.and_eq_true, decide_eq_true_eq, List.all_eq_true] at hl2
  obtain ⟨hfb, ⟨h25, h30⟩, hlv, h300⟩ := hl2
  have hF3 : ∀ f ∈ F, parts f.body ≤ 300 := fun f hf => by
    have := hfb f hf
    unfold fnB slimP at this
    simp only [Bool.and_eq_true, decide_eq_true_eq] at this
    exact this.1.2
  have cc := qdu F cols e (fun f hf => by have := hF3 f hf; omega) (by omega) (by omega) (by omega) hn hFn
  unfold qck at cc
  cases ht : typeP F cols [] e with
  | none =>
    rw [ht] at cc
    simp only [zeroCd, Cod.av, List.map_nil] at cc
    refine qn Tryz.func4 Tryz.ntmps4 rfl rfl (by decide) rfl (by intro n; simp) fun σ n0 hcl hft => ?_
    repeat' (first | ((first | ((with_reducible refine qo (fun hg => ?_) (fun hg => ?_)) <;> (try simp only [hg]) <;> (try simp only [gS] at hg) <;> (try (first | simp only [eq_false hg, gI] | simp only [eq_true hg, gI]))) | (with_reducible first | refine qh ?_ | refine qg ?_ | refine ql ?_ | refine qk ?_) | refine acall (csm) ?_ | refine qr (csm) ?_ | refine qp (csm) ?_ | refine acall (cl) ?_ | refine qr (cl) ?_ | refine qp (cl) ?_ | refine acall (cc) ?_ | refine qr (cc) ?_ | refine qp (cc) ?_ | refine qd ?_ | refine qi ?_ | refine qj ?_ | refine qm ?_) <;> (try simp (disch := first | omega | simp) [qf, -qq, -qs])) | ((with_reducible refine sideT ?_ ?_); first | omega | assumption | (simp; done)) | (refine qe fun K hK => ?_) | (refine qb ?_) | (refine qa true (by kernel_rfl) (by kernel_rfl) ?_) | (refine qa false (by kernel_rfl) (by kernel_rfl) ?_) | (refine hK _ ?_; clear hK K) | (clear hK K; refine hK _ ?_; clear hK K) | (clear hK K; clear hK K; refine hK _ ?_; clear hK K) | refine qc ?_)
  | some t =>
  rw [ht] at cc
  obtain ⟨h1, h2, h3, h4⟩ := typeP_all ht
  cases hy : qcb F e with
  | none =>
    rw [hy] at cc
    simp only [zeroCd, Cod.av, List.map_nil] at cc
    refine qn Tryz.func4 Tryz.ntmps4 rfl rfl (by decide) rfl (by intro n; simp) fun σ n0 hcl hft => ?_
    repeat' (first | ((first | ((with_reducible refine qo (fun hg => ?_) (fun hg => ?_)) <;> (try simp only [hg]) <;> (try simp only [gS] at hg) <;> (try (first | simp only [eq_false hg, gI] | simp only [eq_true hg, gI]))) | (with_reducible first | refine qh ?_ | refine qg ?_ | refine ql ?_ | refine qk ?_) | refine acall (csm) ?_ | refine qr (csm) ?_ | refine qp (csm) ?_ | refine acall (cl) ?_ | refine qr (cl) ?_ | refine qp (cl) ?_ | refine acall (cc) ?_ | refine qr (cc) ?_ | refine qp (cc) ?_ | refine qd ?_ | refine qi ?_ | refine qj ?_ | refine qm ?_) <;> (try simp (disch := first | omega | simp) [qf, -qq, -qs])) | ((with_reducible refine sideT ?_ ?_); first | omega | assumption | (simp; done)) | (refine qe fun K hK => ?_) | (refine qb ?_) | (refine qa true (by kernel_rfl) (by kernel_rfl) ?_) | (refine qa false (by kernel_rfl) (by kernel_rfl) ?_) | (refine hK _ ?_; clear hK K) | (clear hK K; refine hK _ ?_; clear hK K) | (clear hK K; clear hK K; refine hK _ ?_; clear hK K) | refine qc ?_)
  | some y =>
  rw [hy] at cc
  dsimp only at cc
  obtain ⟨g1, g2, g3, g4, g5⟩ := compile_typ ht hy
  obtain ⟨h0, -, -⟩ := raw_ok g3 g4
  have k1 := (comp_ok h0 0 []).1
  have hlen := share_len g3 g4
  have hni0 := k1.ni
  have hlv := (qdr hy).2
  have ci := Inline_g F (fun f hf => by have := hF3 f hf; omega) (by omega) (okF_wfS h2) e (by omega) (wfS_of_ty e h3)
  rw [hy] at ci
  have cf := Fold_g y g1 (by omega)
  have cp := parts26_g (foldE y) (by omega)
  have cn := needed_g k1
  have hfull := comp_full h0
  have cr := reads_g y (cols_ok g1 (by omega)) (by omega)
  have hsub : ∀ x ∈ qen (compP (rawP cols (foldE y))), x ∈ qbg y := fun x hx => share_reads hx
  have ck := compact_g k1
  rw [comp_comp h0] at ck
  have cd := qdu [] cols y (by simp) (by simp) (by omega) (by omega) (inline_n64 hFn hn hy) (by simp)
  rw [compile_nil (by omega), typeP_nil, if_neg (by omega), g1] at cd
  generalize compP (rawP cols (foldE y)) = C at *
  have cg := creads_g C (by have := k1.ni; omega)
  have cs := same25_g C (by have := k1.ni; omega) (by have := k1.nt; omega)
  have hGl : (qen C).length ≤ 1000000 := by
    have h1 := Lib.compact_length_le (sortI (colsI C.ins))
    have h2 : (sortI (colsI C.ins)).length = (colsI C.ins).length := List.length_mergeSort _
    have h3 := colsI_len C.ins
    unfold qen; omega
  have hRD : (qbg y).length ≤ 1000000 := by have := reads_few g1; omega
  generalize qen C = G at *
  generalize qbg y = RD at *
  have hlen2 : ¬ ((qz (foldE y) []).length : Int) < C.ins.length := by omega
  generalize foldE y = FY at *
  generalize hPL : qz FY [] = PL at *
  obtain ⟨NL, hNL⟩ : ∃ NL, NL = needP (qy C) (rootC C) := ⟨_, rfl⟩
  rw [← hNL] at cn
  have hnl : NL.length = C.ins.length := by rw [hNL, needP_len]; unfold qy; exact qbs _ _ _
  have hnt : ∀ k (h : k < NL.length), NL[k] = true := fun k h => by
    have := hfull k (by omega)
    rw [← hNL, List.getD_eq_getElem?_getD, List.getElem?_eq_getElem h] at this
    exact this
  clear hNL hfull k1 h0 g1 g2 g3 g4 g5 hlen ht hy
  obtain ⟨ins, types, out⟩ := C
  simp only [Cod.av, exr, Option.getD_some, Option.isSome_some, List.map_nil] at *
  have hni : NL.length ≤ 1000000 := by omega
  refine qn Tryz.func4 Tryz.ntmps4 rfl rfl (by decide) rfl (by intro n; simp) fun σ n0 hcl hft => ?_
  repeat' (first | ((first | ((with_reducible refine qo (fun hg => ?_) (fun hg => ?_)) <;> (try simp only [hg]) <;> (try simp only [gS] at hg) <;> (try (first | simp only [eq_false hg, gI] | simp only [eq_true hg, gI]))) | (with_reducible first | refine qh ?_ | refine qg ?_ | refine ql ?_ | refine qk ?_ | refine anyF_step ?_ | refine anyF_end ?_) | refine acall (csm) ?_ | refine qr (csm) ?_ | refine qp (csm) ?_ | refine acall (cl) ?_ | refine qr (cl) ?_ | refine qp (cl) ?_ | refine acall (cc) ?_ | refine qr (cc) ?_ | refine qp (cc) ?_ | refine acall (ci) ?_ | refine qr (ci) ?_ | refine qp (ci) ?_ | refine acall (cf) ?_ | refine qr (cf) ?_ | refine qp (cf) ?_ | refine acall (cp) ?_ | refine qr (cp) ?_ | refine qp (cp) ?_ | refine acall (ck) ?_ | refine qr (ck) ?_ | refine qp (ck) ?_ | refine acall (cs) ?_ | refine qr (cs) ?_ | refine qp (cs) ?_ | refine acall (cn) ?_ | refine qr (cn) ?_ | refine qp (cn) ?_ | refine qd ?_ | refine qi ?_ | refine qj ?_ | refine qm ?_) <;> (try simp (disch := first | omega | simp) [qf, -qq, -qs, hlen2])) | (with_reducible refine awp_anyF (id := 8) [.unborn, .cells [.sl (ins.map Ins.av), .sl (types.map AV.int), .int out] 45, .cells y.av.cells 25] 0 [.R, .R, .R, .M, .M, .M, .M, .M, .M, .M, .R, .R, .R, .M, .M, .M, .M, .R, .R] (by kernel_rfl) (by kernel_rfl) (by simp) ?_) | ((with_reducible refine sideT ?_ ?_); first | omega | assumption | (simp; done)) | (refine qe fun K hK => ?_) | (refine qb ?_) | (refine qa true (by kernel_rfl) (by kernel_rfl) ?_) | (refine qa false (by kernel_rfl) (by kernel_rfl) ?_) | (refine hK _ ?_; clear hK K) | (clear hK K; refine hK _ ?_; clear hK K) | (clear hK K; clear hK K; refine hK _ ?_; clear hK K) | refine qc ?_)
  refine qu hcl (fun k : Nat => [(1, .sl (cols.map AV.int)), (7, .bool true), (8, .ptr (n0 + 1) 0), (10, .ptr (n0 + 2) 0), (12, .sl (NL.map AV.bool)), (13, .int k)])
    (fun _ => [.cells e.av.cells 25, .cells [.sl (ins.map Ins.av), .sl (types.map AV.int), .int out] 45, .cells y.av.cells 25]) (fun k => k ≤ NL.length) (fun k => NL.length - k) 0 (by omega) (by simp) fun k hk => ?_
  by_cases hlt : k < NL.length
  · have hb := hnt k hlt
    repeat' (first | ((first | ((with_reducible refine qo (fun hg => ?_) (fun hg => ?_)) <;> (try simp only [hg]) <;> (try simp only [gS] at hg) <;> (try (first | simp only [eq_false hg, gI] | simp only [eq_true hg, gI]))) | (with_reducible first | refine qh ?_ | refine qg ?_ | refine ql ?_ | refine qk ?_) | refine qd ?_ | refine qi ?_ | refine qj ?_ | refine qm ?_) <;> (try simp (disch := first | omega | simp) [qf, -qq, -qs, hlt, hb])) | ((with_reducible refine sideT ?_ ?_); first | omega | assumption | (simp; done)) | (refine qe fun K hK => ?_) | (refine qb ?_) | (refine qa true (by kernel_rfl) (by kernel_rfl) ?_) | (refine qa false (by kernel_rfl) (by kernel_rfl) ?_) | (refine hK _ ?_; clear hK K) | (clear hK K; refine hK _ ?_; clear hK K) | (clear hK K; clear hK K; refine hK _ ?_; clear hK K) | refine qc ?_)
    all_goals exact ⟨k + 1, by omega, by omega, by simp⟩
  · obtain rfl : k = NL.length := by omega
    repeat' (first | ((first | ((with_reducible refine qo (fun hg => ?_) (fun hg => ?_)) <;> (try simp only [hg]) <;> (try simp only [gS] at hg) <;> (try (first | simp only [eq_false hg, gI] | simp only [eq_true hg, gI]))) | (with_reducible first | refine qh ?_ | refine qg ?_ | refine ql ?_ | refine qk ?_) | refine acall (cr) ?_ | refine qr (cr) ?_ | refine qp (cr) ?_ | refine acall (cg) ?_ | refine qr (cg) ?_ | refine qp (cg) ?_ | refine qd ?_ | refine qi ?_ | refine qj ?_ | refine qm ?_) <;> (try simp (disch := first | omega | simp) [qf, -qq, -qs, hlt])) | ((with_reducible refine sideT ?_ ?_); first | omega | assumption | (simp; done)) | (refine qe fun K hK => ?_) | (refine qb ?_) | (refine qa true (by kernel_rfl) (by kernel_rfl) ?_) | (refine qa false (by kernel_rfl) (by kernel_rfl) ?_) | (refine hK _ ?_; clear hK K) | (clear hK K; refine hK _ ?_; clear hK K) | (clear hK K; clear hK K; refine hK _ ?_; clear hK K) | refine qc ?_)
    refine qu hcl (fun k : Nat => [(1, .sl (cols.map AV.int)), (7, .bool true), (8, .ptr (n0 + 1) 0), (10, .ptr (n0 + 2) 0), (14, .sl (RD.map AV.int)), (15, .sl (G.map AV.int)), (16, .int k)])
      (fun _ => [.cells e.av.cells 25, .cells [.sl (ins.map Ins.av), .sl (types.map AV.int), .int out] 45, .cells y.av.cells 25]) (fun k => k ≤ G.length) (fun k => G.length - k) 0 (by omega) (by simp) fun k hk => ?_
    by_cases hlt2 : k < G.length
    · have hm := hsub G[k] (List.getElem_mem hlt2)
      obtain ⟨g, hg0⟩ : ∃ g, g = G[k] := ⟨_, rfl⟩
      rw [← hg0] at hm
      repeat' (first | ((first | ((with_reducible refine qo (fun hg => ?_) (fun hg => ?_)) <;> (try simp only [hg]) <;> (try simp only [gS] at hg) <;> (try (first | simp only [eq_false hg, gI] | simp only [eq_true hg, gI]))) | (with_reducible first | refine qh ?_ | refine qg ?_ | refine ql ?_ | refine qk ?_) | refine qd ?_ | refine qi ?_ | refine qj ?_ | refine qm ?_) <;> (try simp (disch := first | omega | simp) [qf, -qq, -qs, hlt2])) | ((with_reducible refine sideT ?_ ?_); first | omega | assumption | (simp; done)) | (refine qe fun K hK => ?_) | (refine qb ?_) | (refine qa true (by kernel_rfl) (by kernel_rfl) ?_) | (refine qa false (by kernel_rfl) (by kernel_rfl) ?_) | (refine hK _ ?_; clear hK K) | (clear hK K; refine hK _ ?_; clear hK K) | (clear hK K; clear hK K; refine hK _ ?_; clear hK K) | refine qc ?_)
      refine qu hcl (fun j : Nat => [(1, .sl (cols.map AV.int)), (7, .bool true), (8, .ptr (n0 + 1) 0), (10, .ptr (n0 + 2) 0), (14, .sl (RD.map AV.int)), (15, .sl (G.map AV.int)), (16, .int k), (17, .bool ((RD.take j).any (· == g))), (18, .int j)])
        (fun _ => [.cells e.av.cells 25, .cells [.sl (ins.map Ins.av), .sl (types.map AV.int), .int out] 45, .cells y.av.cells 25]) (fun j => j ≤ RD.length) (fun j => RD.length - j) 0 (by omega) (by simp) fun j hj => ?_
      by_cases hlt3 : j < RD.length
      · have ha : (RD.take (j + 1)).any (· == g) = ((RD.take j).any (· == g) || RD[j] == g) := by rw [List.take_succ_eq_append_getElem hlt3, List.any_append]; simp
        cases hb : (RD.take j).any (· == g)
        · rw [hb, Bool.false_or] at ha
          repeat' (first | ((first | ((with_reducible refine qo (fun hg => ?_) (fun hg => ?_)) <;> (try simp only [hg]) <;> (try simp only [gS] at hg) <;> (try (first | simp only [eq_false hg, gI] | simp only [eq_true hg, gI]))) | (with_reducible first | refine qh ?_ | refine qg ?_ | refine ql ?_ | refine qk ?_) | refine qd ?_ | refine qi ?_ | refine qj ?_ | refine qm ?_) <;> (try simp (disch := first | omega | simp) [qf, -qq, -qs, hlt3, hlt2, hb, ← hg0])) | ((with_reducible refine sideT ?_ ?_); first | omega | assumption | (simp; done)) | (refine qe fun K hK => ?_) | (refine qb ?_) | (refine qa true (by kernel_rfl) (by kernel_rfl) ?_) | (refine qa false (by kernel_rfl) (by kernel_rfl) ?_) | (refine hK _ ?_; clear hK K) | (clear hK K; refine hK _ ?_; clear hK K) | (clear hK K; clear hK K; refine hK _ ?_; clear hK K) | refine qc ?_)
          exact ⟨j + 1, by omega, by omega, ha.symm, by omega⟩
        · rw [hb, Bool.true_or] at ha
          have hmem : g ∈ RD.take (j + 1) := by
            rw [List.any_eq_true] at ha
            obtain ⟨x, hx, ex⟩ := ha
            rw [← show x = g by simpa using ex]; exact hx
          repeat' (first | ((first | ((with_reducible refine qo (fun hg => ?_) (fun hg => ?_)) <;> (try simp only [hg]) <;> (try simp only [gS] at hg) <;> (try (first | simp only [eq_false hg, gI] | simp only [eq_true hg, gI]))) | (with_reducible first | refine qh ?_ | refine qg ?_ | refine ql ?_ | refine qk ?_) | refine qd ?_ | refine qi ?_ | refine qj ?_ | refine qm ?_) <;> (try simp (disch := first | omega | simp) [qf, -qq, -qs, hlt3, hlt2, hb, ← hg0])) | ((with_reducible refine sideT ?_ ?_); first | omega | assumption | (simp; done)) | (refine qe fun K hK => ?_) | (refine qb ?_) | (refine qa true (by kernel_rfl) (by kernel_rfl) ?_) | (refine qa false (by kernel_rfl) (by kernel_rfl) ?_) | (refine hK _ ?_; clear hK K) | (clear hK K; refine hK _ ?_; clear hK K) | (clear hK K; clear hK K; refine hK _ ?_; clear hK K) | refine qc ?_)
          exact ⟨j + 1, by omega, by omega, hmem, by omega⟩
      · obtain rfl : j = RD.length := by omega
        have ha : (RD.take RD.length).any (· == g) = true := by rw [List.take_length, List.any_eq_true]; exact ⟨g, hm, by simp⟩
        rw [List.take_length] at ha
        repeat' (first | ((first | ((with_reducible refine qo (fun hg => ?_) (fun hg => ?_)) <;> (try simp only [hg]) <;> (try simp only [gS] at hg) <;> (try (first | simp only [eq_false hg, gI] | simp only [eq_true hg, gI]))) | (with_reducible first | refine qh ?_ | refine qg ?_ | refine ql ?_ | refine qk ?_) | refine qd ?_ | refine qi ?_ | refine qj ?_ | refine qm ?_) <;> (try simp (disch := first | omega | simp) [qf, -qq, -qs, hlt3, ha])) | ((with_reducible refine sideT ?_ ?_); first | omega | assumption | (simp; done)) | (refine qe fun K hK => ?_) | (refine qb ?_) | (refine qa true (by kernel_rfl) (by kernel_rfl) ?_) | (refine qa false (by kernel_rfl) (by kernel_rfl) ?_) | (refine hK _ ?_; clear hK K) | (clear hK K; refine hK _ ?_; clear hK K) | (clear hK K; clear hK K; refine hK _ ?_; clear hK K) | refine qc ?_)
        all_goals first
          | exact ⟨k + 1, by omega, by omega, by omega⟩
          | (rename_i q; rw [ha] at q; cases q)
    · repeat' (first | ((first | ((with_reducible refine qo (fun hg => ?_) (fun hg => ?_)) <;> (try simp only [hg]) <;> (try simp only [gS] at hg) <;> (try (first | simp only [eq_false hg, gI] | simp only [eq_true hg, gI]))) | (with_reducible first | refine qh ?_ | refine qg ?_ | refine ql ?_ | refine qk ?_) | refine acall (cd) ?_ | refine qr (cd) ?_ | refine qp (cd) ?_ | refine acall (cs) ?_ | refine qr (cs) ?_ | refine qp (cs) ?_ | refine qd ?_ | refine qi ?_ | refine qj ?_ | refine qm ?_) <;> (try simp (disch := first | omega | simp) [qf, -qq, -qs, hlt2])) | ((with_reducible refine sideT ?_ ?_); first | omega | assumption | (simp; done)) | (refine qe fun K hK => ?_) | (refine qb ?_) | (refine qa true (by kernel_rfl) (by kernel_rfl) ?_) | (refine qa false (by kernel_rfl) (by kernel_rfl) ?_) | (refine hK _ ?_; clear hK K) | (clear hK K; refine hK _ ?_; clear hK K) | (clear hK K; clear hK K; refine hK _ ?_; clear hK K) | refine qc ?_)
end Go.Proofs.YtnkimlkoijfcpaaGreatDoor

/- The law CompileShares where what it reads is of bulk at most 1048576, lifted: the row and the tied card. (Printed by gen_lift26.py.) -/
namespace Go.Proofs.YtnkimlkoijfcpaaGreatDoor
open Go.ChangeShapes Go.WideShapes Go.ChangeAt Go.RowKit Go.Lib
noncomputable def compileSharesW (os : Os) : World := World.laidAll Tryz.prog os Rows.compileSharesUptoRow.laid
def qcv : Array Value := #[.slice .none 0 0, .slice .none 0 0, .agg #[.int .i64 0, .int .i64 0, .string ByteArray.empty, .slice .none 0 0]]
theorem compileShares_reads (os : Os) {H : Type} (enc : TypeId × Value → H) : ∃ places, DataW.whole enc Tryz.prog ((compileSharesW os).forCall (fun _ _ => 0) ⟨#[], qcv, []⟩).memory Tryz.f4.params.toList Rows.compileSharesSpec.vars false qcv.toList 8 = some ([.nil, .nil, .agg [.lit (.int .i64 0), .lit (.int .i64 0), .lit (.string []), .nil]], [], places) :=
  ⟨[], by kernel_rfl⟩
theorem compileShares_laid (os : Os) : laidMet Tryz.prog Rows.compileSharesUptoRow.laid ((compileSharesW os).forCall (fun _ _ => 0) ⟨#[], qcv, []⟩).memory :=
  laidMet_of_run' 8 (by kernel_rfl) (by kernel_rfl)
set_option maxRecDepth 100000 in
theorem compileShares_lifted (os : Os) (started : os.Started) (H : Type) (enc : TypeId × Value → H) (F : Stop.Interp) :
    ReturnsInHanded {} Tryz.checked os 4 .any ((Rows.OpenSpec.upto Rows.compileSharesSpec).preRow enc Tryz.prog Tryz.f4 Rows.compileSharesUptoRow.domain false Rows.compileSharesUptoRow.laid) (((Rows.OpenSpec.upto Rows.compileSharesSpec).at F).post enc Tryz.prog Tryz.f4 false true false false) := by
  obtain ⟨places, hx⟩ := compileShares_reads os enc
  refine returnsInHanded_of_row (C := Tryz.checked) (s := Rows.OpenSpec.upto Rows.compileSharesSpec) Tryz.own started (by kernel_rfl) Tryz.func4
    (witness_row_at (enc := enc) (C := Tryz.checked) false (compileSharesW os) qcv (World.laidAll_os _ _ _) (by kernel_rfl) (by kernel_rfl) (by kernel_rfl)
      (OpenSpec.preRow_of_cond 8 hx (by kernel_rfl) (fun k hk => by cases hk; kernel_rfl) (by kernel_rfl) (compileShares_laid os))) ?_
  intro W base args ds gs before hval0 hW _ hcond _ hlaid _ _
  rw [MakeChecks.laidMetH_plain _ _ _ (by kernel_rfl)] at hlaid
  have hglob := glob27 hlaid (by simp [Rows.compileSharesUptoRow])
  have hval : ∀ (j : Nat) t v, Tryz.f4.params[j]? = some t → args[j]? = some v → Value.okWide Tryz.prog W .any base t v := hval0
  have hW' := hW
  obtain ⟨p, q, hA0, hV, rfl, hfz, hnd⟩ := hW
  have hA : DataW.TrodAll enc Tryz.prog W 0 (fun _ => true) true Tryz.f4.params.toList args.toList ds p := hA0
  rw [Tryz.params4] at hA hval
  obtain ⟨v0, v1, v2, d0, d1, d2, p0, p1, p2, rfl, rfl, rfl, h0, h1, h2⟩ := trodAll_3_02 hA
  obtain ⟨rfl, rfl⟩ := trodVars_none hV
  have hb0 : Rows.uptoSmall H ([d0, d1, d2] ++ []) = true := hcond _ rfl
  have hb : Rows.uptoBulkAll ([d0, d1, d2] ++ []) ≤ 1048576 := of_decide_eq_true hb0
  simp only [List.append_nil, Rows.uptoBulkAll] at hb
  obtain ⟨x0, r0⟩ := par_sl Tryz.underlying42 (hval 0 _ v0 rfl rfl) h0 trods_fns
  obtain ⟨x1, r1⟩ := par_sl Tryz.underlying22 (hval 1 _ v1 rfl rfl) h1 trods_ints27
  obtain ⟨x2, cs2, rfl, r2⟩ := par_st Tryz.underlying25 (hval 2 _ v2 rfl rfl) h2 trods_ex
  have s0 : (∀ f ∈ x0, n64 f.body) ∧ (x0.map fun f => 5 * parts f.body).sum + 1 ≤ Rows.uptoBulk d0 ∧ x0.length + 1 ≤ Rows.uptoBulk d0 := by
    obtain ⟨A, n, c, rfl⟩ := okWide_slice Tryz.underlying42 (hval 0 _ v0 rfl rfl)
    obtain ⟨k, t⟩ := h0
    exact sl_bulk (Q := fun f => n64 f.body) (g := fun f => 5 * parts f.body) Tryz.underlying42 (by kernel_rfl) (by omega) Fn.width r0 t fun f _ n c y hr hy => fn_bulk f n c y hr hy
  have s2 : n64 x2 ∧ 5 * parts x2 ≤ Rows.uptoBulk d2 := by
    obtain ⟨k, t⟩ := h2
    exact ex_bulk x2 k cs2 _ r2 t
  refine (calls_of_gives (vals := [v0, v1, .agg cs2.toArray]) (shares26_g x0 x1 x2 (by omega) (fun f hf => by have := mem_sum26 (g := fun f : Fn => 5 * parts f.body) hf; omega) (by omega) s2.1 s0.1) ⟨_, _, rfl, fns_flat26 r0, _, _, rfl, ints_flat27 r1, _, _, rfl, ex_flat26 r2, rfl⟩ hglob).mono ?_
  rintro r W' ⟨rfl, hb⟩
  exact ⟨_, rfl, law_post (P := Tryz.prog) Tryz.laidOut hW' rfl rfl (by kernel_rfl) Tryz.underlying4 (by kernel_rfl) hb⟩
theorem compileSharesUpto_row : Rows.CompileSharesUptoSaid :=
  OpenClaim.holds_of_cond 4 Tryz.f4 rfl rfl rfl rfl rfl rfl rfl ⟨rfl, rfl, rfl, rfl, rfl⟩ rfl rfl rfl rfl rfl (by kernel_rfl) Tryz.func4 (by kernel_rfl)
    (of_decide_eq_true (by kernel_rfl)) (by unfold Func.isWrapper; first | (rw [if_pos (by decide +kernel)]; kernel_rfl) | (rw [if_neg (by decide +kernel)]; exact ⟨rfl, rfl⟩))
    (fun os started H enc _ F => by rw [OpenClaim.pre_eq_preRow]; exact compileShares_lifted os started H enc F)
theorem compileSharesUpto_holds : Rows.CompileSharesUptoCardSaid :=
  Claim7.holds_tied_plain_at .later [] _ _ _ _ compileSharesUpto_row (fun _ h => by cases h) (by kernel_rfl) (fun _ h => by cases h) compileSharesUpto_row_tie rfl ⟨rfl, rfl⟩ (by kernel_rfl) rfl
    (fun f fn hf hfn => by
      obtain rfl : f = 4 := Option.some.inj ((show Tryz.prog.funcNamed "errata/erratalaw26.CompileShares" = some 4 by kernel_rfl).symm.trans hf) |>.symm
      obtain rfl : fn = Tryz.f4 := (Option.some.inj (Tryz.func4.symm.trans hfn)).symm
      exact ⟨by kernel_rfl, fun j t ht => by
        rw [Tryz.params4] at ht
        have hm : t ∈ [42, 22, 25] := by simpa using Array.mem_of_getElem? ht
        have hall : ([42, 22, 25].all fun u => !Tryz.prog.wantsStandIn u) = true := by kernel_rfl
        exact (show Tryz.prog.wantsStandIn t = false by simpa using List.all_eq_true.1 hall t hm)⟩)
    (by kernel_rfl)
end Go.Proofs.YtnkimlkoijfcpaaGreatDoor
