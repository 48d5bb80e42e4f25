/- Walk: whether two expressions are the same, of the program. -/
import Derived.Test.YtnkimlkoijfcpaaGreatDoorGi3
import Derived.Test.YtnkimlkoijfcpaaGreatDoorGi14
import Derived.Test.YtnkimlkoijfcpaaGreatDoorGi15
import Derived.Test.YtnkimlkoijfcpaaGreatDoorGi16
import Derived.Test.YtnkimlkoijfcpaaGreatDoorGi17
import Derived.Test.YtnkimlkoijfcpaaGreatDoorGi19
import Derived.Test.YtnkimlkoijfcpaaGreatDoorGi23
set_option linter.unusedSimpArgs false
set_option linter.unusedVariables false
namespace Go.Proofs.YtnkimlkoijfcpaaGreatDoor
open Go.RowKit Go.Lib
set_option maxHeartbeats 1000000 in
theorem eqf_g (l l2 : List Ex) (hl : l.length ≤ 1000000) (h : ∀ (i : Nat) (h1 : i < l.length) (h2 : i < l2.length), Gives Tryz.prog 91 [l[i].av, l2[i].av] (.bool (sameB l[i] l2[i]))) :
    Gives Tryz.prog 141 [.sl (l.map Ex.av), .sl (l2.map Ex.av), .fn 91 []] (.bool (qbq l l2)) := by
  obtain ⟨R, hR⟩ : ∃ R, R = qbq l l2 := ⟨_, rfl⟩
  rw [← hR]
  by_cases hlen : l.length = l2.length
  · have hlen' : (l.length : Int) = l2.length := by omega
    refine qn Tryz.func141 Tryz.ntmps141 rfl rfl (by decide) rfl (by intro n; simp) fun σ n0 hcl hft => ?_
    repeat (rw [qq]; try simp (disch := first | omega | simp) [qg, -qq, hlen'])
    repeat (first | (refine qd fun K hK => ?_) | (refine qa ?_; repeat (rw [qq]; try simp (disch := first | omega | simp) [qg, -qq, hlen'])) | (refine hK _ ?_; clear hK; clear K) | (clear hK; clear K; refine hK _ ?_; clear hK; clear K) | (clear hK; clear K; clear hK; clear K; refine hK _ ?_; clear hK; clear K) | refine qb ?_ | (refine qc ?_; simp (disch := first | omega | simp) [qg, hlen']) | (refine qh ?_; simp (disch := first | omega | simp)) | (refine qi ?_; simp (disch := first | omega | simp)) | (refine qm ?_; simp (disch := first | omega | simp)))
    refine qs hcl (fun k : Nat => [(1, .sl (l2.map Ex.av)), (2, .fn 91 []), (15, .sl (l.map Ex.av)), (16, .int l2.length), (17, .int k)]) (fun _ => [])
      (fun k => k ≤ l.length ∧ R = qbq (l.drop k) (l2.drop k)) (fun k => l.length - k) 0 (by exact ⟨by omega, by rw [hR]; rfl⟩) (by simp) fun k hk => ?_
    obtain ⟨hk, he⟩ := hk
    by_cases hlt : k < l.length
    · have hlt2 : k < l2.length := by omega
      have hc := h k hlt hlt2
      have hd : R = (sameB l[k] l2[k] && qbq (l.drop (k + 1)) (l2.drop (k + 1))) := by
        rw [he, List.drop_eq_getElem_cons hlt, List.drop_eq_getElem_cons hlt2, qbq]
      cases hs : sameB l[k] l2[k] with
      | false =>
        obtain rfl : R = false := by rw [hd, hs]; rfl
        rw [hs] at hc
        repeat' (first | ((first | ((with_reducible refine qo (fun hg => ?_) (fun hg => ?_)) <;> (try simp only [hg]) <;> (try simp only [gS] at hg) <;> (try (first | simp only [eq_false hg, gI] | simp only [eq_true hg, gI]))) | (with_reducible first | refine qf ?_ | refine qe ?_ | refine qk ?_ | refine qj ?_) | refine acall (hc) ?_ | refine qp (hc) ?_ | refine qc ?_ | refine qh ?_ | refine qi ?_ | refine qm ?_) <;> (try simp (disch := first | omega | simp) [qg, -qq, -qr, hlt, hlt2])) | ((with_reducible refine sideT ?_ ?_); first | omega | assumption | (simp; done)) | (refine qd fun K hK => ?_) | (refine qa ?_) | refine ql ?_ | ((first | refine hK _ ?_ | (clear hK K; refine hK _ ?_) | (clear hK K; clear hK K; refine hK _ ?_)); clear hK K) | refine qb ?_)
      | true =>
        rw [hs] at hc
        repeat' (first | ((first | ((with_reducible refine qo (fun hg => ?_) (fun hg => ?_)) <;> (try simp only [hg]) <;> (try simp only [gS] at hg) <;> (try (first | simp only [eq_false hg, gI] | simp only [eq_true hg, gI]))) | (with_reducible first | refine qf ?_ | refine qe ?_ | refine qk ?_ | refine qj ?_) | refine acall (hc) ?_ | refine qp (hc) ?_ | refine qc ?_ | refine qh ?_ | refine qi ?_ | refine qm ?_) <;> (try simp (disch := first | omega | simp) [qg, -qq, -qr, hlt, hlt2])) | ((with_reducible refine sideT ?_ ?_); first | omega | assumption | (simp; done)) | (refine qd fun K hK => ?_) | (refine qa ?_) | refine ql ?_ | ((first | refine hK _ ?_ | (clear hK K; refine hK _ ?_) | (clear hK K; clear hK K; refine hK _ ?_)); clear hK K) | refine qb ?_)
        refine ⟨k + 1, ⟨by omega, by rw [hd, hs]; rfl⟩, by omega, by simp⟩
    · have h1 : k = l.length := by omega
      obtain rfl : R = true := by
        rw [he, h1, List.drop_length, hlen, List.drop_length, qbq]
      have hlt2 : ¬ k < l2.length := by omega
      repeat (rw [qq]; try simp (disch := first | omega | simp) [qg, -qq, hlt, hlt2])
      repeat (first | (refine qd fun K hK => ?_) | (refine qa ?_; repeat (rw [qq]; try simp (disch := first | omega | simp) [qg, -qq, hlt, hlt2])) | (refine hK _ ?_; clear hK; clear K) | (clear hK; clear K; refine hK _ ?_; clear hK; clear K) | (clear hK; clear K; clear hK; clear K; refine hK _ ?_; clear hK; clear K) | refine qb ?_ | (refine qc ?_; simp (disch := first | omega | simp) [qg, hlt, hlt2]) | (refine qh ?_; simp (disch := first | omega | simp)) | (refine qi ?_; simp (disch := first | omega | simp)) | (refine qm ?_; simp (disch := first | omega | simp)))
  · obtain rfl : R = false := by rw [hR, sameBs_len l l2 hlen]
    have hlen' : ¬ (l.length : Int) = l2.length := by omega
    refine qn Tryz.func141 Tryz.ntmps141 rfl rfl (by decide) rfl (by intro n; simp) fun σ n0 hcl hft => ?_
    repeat' (first | ((first | ((with_reducible refine qo (fun hg => ?_) (fun hg => ?_)) <;> (try simp only [hg]) <;> (try simp only [gS] at hg) <;> (try (first | simp only [eq_false hg, gI] | simp only [eq_true hg, gI]))) | (with_reducible first | refine qf ?_ | refine qe ?_ | refine qk ?_ | refine qj ?_) | refine qc ?_ | refine qh ?_ | refine qi ?_ | refine qm ?_) <;> (try simp (disch := first | omega | simp) [qg, -qq, -qr, hlen'])) | ((with_reducible refine sideT ?_ ?_); first | omega | assumption | (simp; done)) | (refine qd fun K hK => ?_) | (refine qa ?_) | refine ql ?_ | ((first | refine hK _ ?_ | (clear hK K; refine hK _ ?_) | (clear hK K; clear hK K; refine hK _ ?_)); clear hK K) | refine qb ?_)
    all_goals first | exact absurd (by assumption) hlen' | exact absurd (by assumption) hlen
set_option maxHeartbeats 1000000 in
theorem same_g (a : Ex) : ∀ b : Ex, parts a ≤ 1000000 → Gives Tryz.prog 91 [a.av, b.av] (.bool (sameB a b)) := by
  induction a using Ex.ind with | h o n s l ih => ?_
  intro b hp
  obtain ⟨o2, n2, s2, l2⟩ := b
  have hl : l.length ≤ 1000000 := by rw [parts] at hp; have := qbd l; omega
  have hc := eqf_g l l2 hl fun i h1 h2 => ih _ (List.getElem_mem h1) l2[i] (by rw [parts] at hp; have := qbb l l[i] (List.getElem_mem h1); omega)
  obtain ⟨R, hR⟩ : ∃ R, R = sameB (.mk o n s l) (.mk o2 n2 s2 l2) := ⟨_, rfl⟩
  rw [← hR]
  rw [sameB] at hR
  by_cases h1 : o = o2
  · subst h1
    by_cases h2 : n = n2
    · subst h2
      by_cases h3 : s.toList = s2.toList
      · obtain rfl : R = qbq l l2 := by rw [hR, h3]; simp
        refine qn Tryz.func91 Tryz.ntmps91 rfl rfl (by decide) rfl (by intro n; simp) fun σ n0 hcl hft => ?_
        repeat (rw [qq]; try simp (disch := first | omega | simp) [qg, -qq, h3])
        repeat (first | (refine qd fun K hK => ?_) | (refine qa ?_; repeat (rw [qq]; try simp (disch := first | omega | simp) [qg, -qq, h3])) | (refine hK _ ?_; clear hK; clear K) | (clear hK; clear K; refine hK _ ?_; clear hK; clear K) | (clear hK; clear K; clear hK; clear K; refine hK _ ?_; clear hK; clear K) | refine qb ?_ | (refine qc ?_; simp (disch := first | omega | simp) [qg, h3]) | (refine qh ?_; simp (disch := first | omega | simp)) | (refine qi ?_; simp (disch := first | omega | simp)) | (refine qm ?_; simp (disch := first | omega | simp)))
        refine acall (hc) ?_
        try simp (disch := first | omega | simp) [qg, -qq, h3]
        repeat (rw [qq]; try simp (disch := first | omega | simp) [qg, -qq, h3])
        repeat (first | (refine qd fun K hK => ?_) | (refine qa ?_; repeat (rw [qq]; try simp (disch := first | omega | simp) [qg, -qq, h3])) | (refine hK _ ?_; clear hK; clear K) | (clear hK; clear K; refine hK _ ?_; clear hK; clear K) | (clear hK; clear K; clear hK; clear K; refine hK _ ?_; clear hK; clear K) | refine qb ?_ | (refine qc ?_; simp (disch := first | omega | simp) [qg, h3]) | (refine qh ?_; simp (disch := first | omega | simp)) | (refine qi ?_; simp (disch := first | omega | simp)) | (refine qm ?_; simp (disch := first | omega | simp)))
      · obtain rfl : R = false := by rw [hR, decide_eq_false h3]; simp
        have h3' : (s.toList == s2.toList) = false := by simpa using h3
        refine qn Tryz.func91 Tryz.ntmps91 rfl rfl (by decide) rfl (by intro n; simp) fun σ n0 hcl hft => ?_
        repeat (rw [qq]; try simp (disch := first | omega | simp) [qg, -qq, h3'])
        repeat (first | (refine qd fun K hK => ?_) | (refine qa ?_; repeat (rw [qq]; try simp (disch := first | omega | simp) [qg, -qq, h3'])) | (refine hK _ ?_; clear hK; clear K) | (clear hK; clear K; refine hK _ ?_; clear hK; clear K) | (clear hK; clear K; clear hK; clear K; refine hK _ ?_; clear hK; clear K) | refine qb ?_ | (refine qc ?_; simp (disch := first | omega | simp) [qg, h3']) | (refine qh ?_; simp (disch := first | omega | simp)) | (refine qi ?_; simp (disch := first | omega | simp)) | (refine qm ?_; simp (disch := first | omega | simp)))
    · obtain rfl : R = false := by rw [hR, decide_eq_false h2]; simp
      have h2' : (n == n2) = false := by simpa using h2
      refine qn Tryz.func91 Tryz.ntmps91 rfl rfl (by decide) rfl (by intro n; simp) fun σ n0 hcl hft => ?_
      repeat (rw [qq]; try simp (disch := first | omega | simp) [qg, -qq, h2'])
      repeat (first | (refine qd fun K hK => ?_) | (refine qa ?_; repeat (rw [qq]; try simp (disch := first | omega | simp) [qg, -qq, h2'])) | (refine hK _ ?_; clear hK; clear K) | (clear hK; clear K; refine hK _ ?_; clear hK; clear K) | (clear hK; clear K; clear hK; clear K; refine hK _ ?_; clear hK; clear K) | refine qb ?_ | (refine qc ?_; simp (disch := first | omega | simp) [qg, h2']) | (refine qh ?_; simp (disch := first | omega | simp)) | (refine qi ?_; simp (disch := first | omega | simp)) | (refine qm ?_; simp (disch := first | omega | simp)))
  · obtain rfl : R = false := by rw [hR, decide_eq_false h1]; simp
    have h1' : (o == o2) = false := by simpa using h1
    refine qn Tryz.func91 Tryz.ntmps91 rfl rfl (by decide) rfl (by intro n; simp) fun σ n0 hcl hft => ?_
    repeat (rw [qq]; try simp (disch := first | omega | simp) [qg, -qq, h1'])
    repeat (first | (refine qd fun K hK => ?_) | (refine qa ?_; repeat (rw [qq]; try simp (disch := first | omega | simp) [qg, -qq, h1'])) | (refine hK _ ?_; clear hK; clear K) | (clear hK; clear K; refine hK _ ?_; clear hK; clear K) | (clear hK; clear K; clear hK; clear K; refine hK _ ?_; clear hK; clear K) | refine qb ?_ | (refine qc ?_; simp (disch := first | omega | simp) [qg, h1']) | (refine qh ?_; simp (disch := first | omega | simp)) | (refine qi ?_; simp (disch := first | omega | simp)) | (refine qm ?_; simp (disch := first | omega | simp)))
end Go.Proofs.YtnkimlkoijfcpaaGreatDoor

/- Stores of values into elements of own slices: what a value without slices that are nil or grow becomes. -/
namespace Go.Proofs.YtnkimlkoijfcpaaGreatDoor
open Go.RowKit Go.Lib
theorem keeps_all : ∀ {l : List AV}, (∀ z ∈ l, z.pub = z ∧ ∀ c, keep1 c z = z) → ∀ cs, keeps cs l = l
  | [], _, cs => keeps_nil
  | y :: l, h, [] => by rw [keeps_cons0, (h y (by simp)).1, keeps_all (fun z hz => h z (by simp [hz]))]
  | y :: l, h, c :: cs => by rw [keeps_cons, (h y (by simp)).2, keeps_all (fun z hz => h z (by simp [hz]))]
theorem keep_all {l : List AV} (h : ∀ z ∈ l, z.pub = z ∧ ∀ c, keep1 c z = z) (hp : (AV.agg l).pub = .agg l) (x : AV) (o : Nat) : x.keep o (.agg l) = .agg l := by
  cases x <;> first | exact hp | (rw [keep_agg, keeps_all h])
@[simp] theorem Val.av_keep (x : AV) (o : Nat) (v : Val) : x.keep o v.av = v.av := by
  have h := v.av_pub
  unfold Val.av at h ⊢
  exact keep_all (by simp) h x o
end Go.Proofs.YtnkimlkoijfcpaaGreatDoor

/- Walks of layer 26: constants, and folding. -/
namespace Go.Proofs.YtnkimlkoijfcpaaGreatDoor
open Go.RowKit Go.Lib
@[simp] theorem Ex.av_keep (x : AV) (o : Nat) (e : Ex) : x.keep o e.av = e.av := by
  have h := e.av_pub
  rw [Ex.av_eq] at h ⊢
  exact keep_all (by simp) h x o
set_option maxHeartbeats 4000000 in
theorem qdy (e : Ex) : Gives Tryz.prog 42 [e.av] (.bool (qx e)) := by
  obtain ⟨o, n, s, l⟩ := e
  refine qn Tryz.func42 Tryz.ntmps42 rfl rfl (by decide) rfl (by intro n; simp) fun σ n0 hcl hft => ?_
  repeat' (first | ((first | ((with_reducible refine qo (fun hg => ?_) (fun hg => ?_)) <;> (try simp only [hg]) <;> (try simp only [gS] at hg) <;> (try (first | simp only [eq_false hg, gI] | simp only [eq_true hg, gI]))) | (with_reducible first | refine qf ?_ | refine qe ?_ | refine qk ?_ | refine qj ?_) | refine qc ?_ | refine qh ?_ | refine qi ?_ | refine qm ?_) <;> (try simp (disch := first | omega | simp) [qg, -qq, -qr])) | ((with_reducible refine sideT ?_ ?_); first | omega | assumption | (simp; done)) | (refine qd fun K hK => ?_) | (refine qa ?_) | refine ql ?_ | ((first | refine hK _ ?_ | (clear hK K; refine hK _ ?_) | (clear hK K; clear hK K; refine hK _ ?_)); clear hK K) | refine qb ?_)
  all_goals (unfold qx; simp_all [Ex.op])
  all_goals (by_cases h2 : o = 2 <;> simp [h2])
set_option maxHeartbeats 4000000 in
theorem Constant_g (v : Val) : Gives Tryz.prog 26 [v.av] (.tup [(qbg v).av, .bool (decide (v.k = 0 ∨ v.k = 1 ∨ v.k = 2))]) := by
  obtain ⟨k, n, s⟩ := v
  refine qn Tryz.func26 Tryz.ntmps26 rfl rfl (by decide) rfl (by intro n; simp) fun σ n0 hcl hft => ?_
  repeat' (first | ((first | ((with_reducible refine qo (fun hg => ?_) (fun hg => ?_)) <;> (try simp only [hg]) <;> (try simp only [gS] at hg) <;> (try (first | simp only [eq_false hg, gI] | simp only [eq_true hg, gI]))) | (with_reducible first | refine qf ?_ | refine qe ?_ | refine qk ?_ | refine qj ?_) | refine qc ?_ | refine qh ?_ | refine qi ?_ | refine qm ?_) <;> (try simp (disch := first | omega | simp) [qg, -qq, -qr])) | ((with_reducible refine sideT ?_ ?_); first | omega | assumption | (simp; done)) | (refine qd fun K hK => ?_) | (refine qa ?_) | refine ql ?_ | ((first | refine hK _ ?_ | (clear hK K; refine hK _ ?_) | (clear hK K; clear hK K; refine hK _ ?_)); clear hK K) | refine qb ?_)
  all_goals simp_all [qbg, zeroE]
set_option maxHeartbeats 4000000 in
theorem choice_g (n : Int) (s : ByteArray) (a b c : Ex) (hp : parts b ≤ 1000000) : Gives Tryz.prog 43 [(Ex.mk 21 n s [a, b, c]).av] (choiceP 21 n s [a, b, c]).av := by
  have c1 := qdy a
  have c2 := same_g b c hp
  obtain ⟨R, hR⟩ : ∃ R, R = choiceP 21 n s [a, b, c] := ⟨_, rfl⟩
  rw [← hR]
  unfold choiceP at hR
  refine qn Tryz.func43 Tryz.ntmps43 rfl rfl (by decide) rfl (by intro n; simp) fun σ n0 hcl hft => ?_
  repeat' (first | ((first | ((with_reducible refine qo (fun hg => ?_) (fun hg => ?_)) <;> (try simp only [hg]) <;> (try simp only [gS] at hg) <;> (try (first | simp only [eq_false hg, gI] | simp only [eq_true hg, gI]))) | (with_reducible first | refine qf ?_ | refine qe ?_ | refine qk ?_ | refine qj ?_) | refine acall (c1) ?_ | refine qp (c1) ?_ | refine acall (c2) ?_ | refine qp (c2) ?_ | refine qc ?_ | refine qh ?_ | refine qi ?_ | refine qm ?_) <;> (try simp (disch := first | omega | simp) [qg, -qq, -qr])) | ((with_reducible refine sideT ?_ ?_); first | omega | assumption | (simp; done)) | (refine qd fun K hK => ?_) | (refine qa ?_) | refine ql ?_ | ((first | refine hK _ ?_ | (clear hK K; refine hK _ ?_) | (clear hK K; clear hK K; refine hK _ ?_)); clear hK K) | refine qb ?_)
  all_goals (rw [hR]; simp_all)
set_option maxHeartbeats 4000000 in
theorem logic_g (o n : Int) (s : ByteArray) (a b : Ex) : Gives Tryz.prog 44 [(Ex.mk o n s [a, b]).av] (logicP o n s [a, b]).av := by
  have c1 := qdy a
  have c2 := qdy b
  obtain ⟨R, hR⟩ : ∃ R, R = logicP o n s [a, b] := ⟨_, rfl⟩
  rw [← hR]
  unfold logicP at hR
  dsimp only at hR
  refine qn Tryz.func44 Tryz.ntmps44 rfl rfl (by decide) rfl (by intro n; simp) fun σ n0 hcl hft => ?_
  repeat' (first | ((first | ((with_reducible refine qo (fun hg => ?_) (fun hg => ?_)) <;> (try simp only [hg]) <;> (try simp only [gS] at hg) <;> (try (first | simp only [eq_false hg, gI] | simp only [eq_true hg, gI]))) | (with_reducible first | refine qf ?_ | refine qe ?_ | refine qk ?_ | refine qj ?_) | refine qc ?_ | refine qh ?_ | refine qi ?_ | refine qm ?_) <;> (try simp (disch := first | omega | simp) [qg, -qq, -qr])) | ((with_reducible refine sideT ?_ ?_); first | omega | assumption | (simp; done)) | (refine qd fun K hK => ?_) | (refine qa ?_) | refine ql ?_ | ((first | refine hK _ ?_ | (clear hK K; refine hK _ ?_) | (clear hK K; clear hK K; refine hK _ ?_)); clear hK K) | refine qb ?_)
  refine qs hcl (fun k : Nat => [(1, .ptr n0 0), (2, .ptr (n0 + 1) 0), (6, .sl [a.av, b.av]), (7, .int 2), (8, .int k)]) (fun _ => [.cells [.int o, .int n, .str s, .sl [a.av, b.av]] 25, .cells [.int 0, .int 0, .str ByteArray.empty, .v (.slice none 0 0)] 25])
    (fun k => k ≤ 2 ∧ (0 < k → qx a = false) ∧ (1 < k → qx b = false)) (fun k => 2 - k) 0 (by simp) (by simp) fun k ⟨hk, h1, h2⟩ => ?_
  match k, hk, h1, h2 with
  | 0, _, _, _ =>
    cases hca : qx a with
    | true =>
      rw [hca] at c1
      repeat' (first | ((first | ((with_reducible refine qo (fun hg => ?_) (fun hg => ?_)) <;> (try simp only [hg]) <;> (try simp only [gS] at hg) <;> (try (first | simp only [eq_false hg, gI] | simp only [eq_true hg, gI]))) | (with_reducible first | refine qf ?_ | refine qe ?_ | refine qk ?_ | refine qj ?_) | refine acall (c1) ?_ | refine qp (c1) ?_ | refine qc ?_ | refine qh ?_ | refine qi ?_ | refine qm ?_) <;> (try simp (disch := first | omega | simp) [qg, -qq, -qr])) | ((with_reducible refine sideT ?_ ?_); first | omega | assumption | (simp; done)) | (refine qd fun K hK => ?_) | (refine qa ?_) | refine ql ?_ | ((first | refine hK _ ?_ | (clear hK K; refine hK _ ?_) | (clear hK K; clear hK K; refine hK _ ?_)); clear hK K) | refine qb ?_)
      all_goals (rw [hR]; by_cases q1 : a.n = 1 <;> by_cases q2 : o = 17 <;> first | (simp_all; done) | (rename_i hg; exact absurd (by rw [beq_eq_false_iff_ne.2 q1, beq_eq_false_iff_ne.2 q2]) hg))
    | false =>
      rw [hca] at c1
      repeat' (first | ((first | ((with_reducible refine qo (fun hg => ?_) (fun hg => ?_)) <;> (try simp only [hg]) <;> (try simp only [gS] at hg) <;> (try (first | simp only [eq_false hg, gI] | simp only [eq_true hg, gI]))) | (with_reducible first | refine qf ?_ | refine qe ?_ | refine qk ?_ | refine qj ?_) | refine acall (c1) ?_ | refine qp (c1) ?_ | refine qc ?_ | refine qh ?_ | refine qi ?_ | refine qm ?_) <;> (try simp (disch := first | omega | simp) [qg, -qq, -qr])) | ((with_reducible refine sideT ?_ ?_); first | omega | assumption | (simp; done)) | (refine qd fun K hK => ?_) | (refine qa ?_) | refine ql ?_ | ((first | refine hK _ ?_ | (clear hK K; refine hK _ ?_) | (clear hK K; clear hK K; refine hK _ ?_)); clear hK K) | refine qb ?_)
      exact ⟨1, ⟨by omega, by omega⟩, by omega, rfl⟩
  | 1, _, h1, _ =>
    have hca := h1 (by omega)
    cases hcb : qx b with
    | true =>
      rw [hcb] at c2
      repeat' (first | ((first | ((with_reducible refine qo (fun hg => ?_) (fun hg => ?_)) <;> (try simp only [hg]) <;> (try simp only [gS] at hg) <;> (try (first | simp only [eq_false hg, gI] | simp only [eq_true hg, gI]))) | (with_reducible first | refine qf ?_ | refine qe ?_ | refine qk ?_ | refine qj ?_) | refine acall (c2) ?_ | refine qp (c2) ?_ | refine qc ?_ | refine qh ?_ | refine qi ?_ | refine qm ?_) <;> (try simp (disch := first | omega | simp) [qg, -qq, -qr])) | ((with_reducible refine sideT ?_ ?_); first | omega | assumption | (simp; done)) | (refine qd fun K hK => ?_) | (refine qa ?_) | refine ql ?_ | ((first | refine hK _ ?_ | (clear hK K; refine hK _ ?_) | (clear hK K; clear hK K; refine hK _ ?_)); clear hK K) | refine qb ?_)
      all_goals (rw [hR]; by_cases q1 : b.n = 1 <;> by_cases q2 : o = 17 <;> first | (simp_all; done) | (rename_i hg; exact absurd (by rw [beq_eq_false_iff_ne.2 q1, beq_eq_false_iff_ne.2 q2]) hg))
    | false =>
      rw [hcb] at c2
      repeat' (first | ((first | ((with_reducible refine qo (fun hg => ?_) (fun hg => ?_)) <;> (try simp only [hg]) <;> (try simp only [gS] at hg) <;> (try (first | simp only [eq_false hg, gI] | simp only [eq_true hg, gI]))) | (with_reducible first | refine qf ?_ | refine qe ?_ | refine qk ?_ | refine qj ?_) | refine acall (c2) ?_ | refine qp (c2) ?_ | refine qc ?_ | refine qh ?_ | refine qi ?_ | refine qm ?_) <;> (try simp (disch := first | omega | simp) [qg, -qq, -qr])) | ((with_reducible refine sideT ?_ ?_); first | omega | assumption | (simp; done)) | (refine qd fun K hK => ?_) | (refine qa ?_) | refine ql ?_ | ((first | refine hK _ ?_ | (clear hK K; refine hK _ ?_) | (clear hK K; clear hK K; refine hK _ ?_)); clear hK K) | refine qb ?_)
      exact ⟨2, ⟨by omega, fun _ => hca⟩, by omega, rfl⟩
  | 2, _, h1, h2 =>
    have hca := h1 (by omega)
    have hcb := h2 (by omega)
    repeat' (first | ((first | ((with_reducible refine qo (fun hg => ?_) (fun hg => ?_)) <;> (try simp only [hg]) <;> (try simp only [gS] at hg) <;> (try (first | simp only [eq_false hg, gI] | simp only [eq_true hg, gI]))) | (with_reducible first | refine qf ?_ | refine qe ?_ | refine qk ?_ | refine qj ?_) | refine qc ?_ | refine qh ?_ | refine qi ?_ | refine qm ?_) <;> (try simp (disch := first | omega | simp) [qg, -qq, -qr])) | ((with_reducible refine sideT ?_ ?_); first | omega | assumption | (simp; done)) | (refine qd fun K hK => ?_) | (refine qa ?_) | refine ql ?_ | ((first | refine hK _ ?_ | (clear hK K; refine hK _ ?_) | (clear hK K; clear hK K; refine hK _ ?_)); clear hK K) | refine qb ?_)
    all_goals (rw [hR]; simp_all)
theorem fold1_g (e : Ex) : Gives Tryz.prog 41 [e.av] (.bool (!qx e)) := by
  refine qn Tryz.func41 Tryz.ntmps41 rfl rfl (by decide) rfl (by intro n; simp) fun σ n0 hcl hft => ?_
  repeat' (first | ((first | ((with_reducible refine qo (fun hg => ?_) (fun hg => ?_)) <;> (try simp only [hg]) <;> (try simp only [gS] at hg) <;> (try (first | simp only [eq_false hg, gI] | simp only [eq_true hg, gI]))) | (with_reducible first | refine qf ?_ | refine qe ?_ | refine qk ?_ | refine qj ?_) | refine acall (qdy e) ?_ | refine qp (qdy e) ?_ | refine qc ?_ | refine qh ?_ | refine qi ?_ | refine qm ?_) <;> (try simp (disch := first | omega | simp) [qg, -qq, -qr])) | ((with_reducible refine sideT ?_ ?_); first | omega | assumption | (simp; done)) | (refine qd fun K hK => ?_) | (refine qa ?_) | refine ql ?_ | ((first | refine hK _ ?_ | (clear hK K; refine hK _ ?_) | (clear hK K; clear hK K; refine hK _ ?_)); clear hK K) | refine qb ?_)
theorem idxF_g (L : List Ex) (hL : L.length ≤ 1000000) : Gives Tryz.prog 90 [.sl (L.map Ex.av), .fn 41 []] (.int (idxP (fun e => !qx e) L)) := by
  refine qn Tryz.func90 Tryz.ntmps90 rfl rfl (by decide) rfl (by intro n; simp) fun σ n0 hcl hft => ?_
  repeat' (first | ((first | ((with_reducible refine qo (fun hg => ?_) (fun hg => ?_)) <;> (try simp only [hg]) <;> (try simp only [gS] at hg) <;> (try (first | simp only [eq_false hg, gI] | simp only [eq_true hg, gI]))) | (with_reducible first | refine qf ?_ | refine qe ?_ | refine qk ?_ | refine qj ?_) | refine qc ?_ | refine qh ?_ | refine qi ?_ | refine qm ?_) <;> (try simp (disch := first | omega | simp) [qg, -qq, -qr])) | ((with_reducible refine sideT ?_ ?_); first | omega | assumption | (simp; done)) | (refine qd fun K hK => ?_) | (refine qa ?_) | refine ql ?_ | ((first | refine hK _ ?_ | (clear hK K; refine hK _ ?_) | (clear hK K; clear hK K; refine hK _ ?_)); clear hK K) | refine qb ?_)
  refine qs hcl (fun k : Nat => [(0, .sl (L.map Ex.av)), (1, .fn 41 []), (7, .int L.length), (8, .int k)]) (fun _ => [])
    (fun k => k ≤ L.length ∧ ∀ j (h : j < L.length), j < k → qx L[j] = true) (fun k => L.length - k) 0 (by simp) (by simp) fun k ⟨hk, he⟩ => ?_
  by_cases hlt : k < L.length
  · cases hr : qx L[k] with
    | true =>
      have c1 := fold1_g L[k]
      rw [hr] at c1
      repeat' (first | ((first | ((with_reducible refine qo (fun hg => ?_) (fun hg => ?_)) <;> (try simp only [hg]) <;> (try simp only [gS] at hg) <;> (try (first | simp only [eq_false hg, gI] | simp only [eq_true hg, gI]))) | (with_reducible first | refine qf ?_ | refine qe ?_ | refine qk ?_ | refine qj ?_) | refine acall (c1) ?_ | refine qp (c1) ?_ | refine qc ?_ | refine qh ?_ | refine qi ?_ | refine qm ?_) <;> (try simp (disch := first | omega | simp) [qg, -qq, -qr, hlt])) | ((with_reducible refine sideT ?_ ?_); first | omega | assumption | (simp; done)) | (refine qd fun K hK => ?_) | (refine qa ?_) | refine ql ?_ | ((first | refine hK _ ?_ | (clear hK K; refine hK _ ?_) | (clear hK K; clear hK K; refine hK _ ?_)); clear hK K) | refine qb ?_)
      exact ⟨k + 1, ⟨by omega, qeg (C := fun v : Ex => qx v = true) he fun _ => hr⟩, by omega, by simp⟩
    | false =>
      have c1 := fold1_g L[k]
      rw [hr] at c1
      repeat' (first | ((first | ((with_reducible refine qo (fun hg => ?_) (fun hg => ?_)) <;> (try simp only [hg]) <;> (try simp only [gS] at hg) <;> (try (first | simp only [eq_false hg, gI] | simp only [eq_true hg, gI]))) | (with_reducible first | refine qf ?_ | refine qe ?_ | refine qk ?_ | refine qj ?_) | refine acall (c1) ?_ | refine qp (c1) ?_ | refine qc ?_ | refine qh ?_ | refine qi ?_ | refine qm ?_) <;> (try simp (disch := first | omega | simp) [qg, -qq, -qr, hlt])) | ((with_reducible refine sideT ?_ ?_); first | omega | assumption | (simp; done)) | (refine qd fun K hK => ?_) | (refine qa ?_) | refine ql ?_ | ((first | refine hK _ ?_ | (clear hK K; refine hK _ ?_) | (clear hK K; clear hK K; refine hK _ ?_)); clear hK K) | refine qb ?_)
      exact (idxP_hit (p := fun v => !qx v) hlt (by simp [hr]) fun j h1 h2 => by simpa using he j h1 h2).symm
  · repeat' (first | ((first | ((with_reducible refine qo (fun hg => ?_) (fun hg => ?_)) <;> (try simp only [hg]) <;> (try simp only [gS] at hg) <;> (try (first | simp only [eq_false hg, gI] | simp only [eq_true hg, gI]))) | (with_reducible first | refine qf ?_ | refine qe ?_ | refine qk ?_ | refine qj ?_) | refine qc ?_ | refine qh ?_ | refine qi ?_ | refine qm ?_) <;> (try simp (disch := first | omega | simp) [qg, -qq, -qr, hlt])) | ((with_reducible refine sideT ?_ ?_); first | omega | assumption | (simp; done)) | (refine qd fun K hK => ?_) | (refine qa ?_) | refine ql ?_ | ((first | refine hK _ ?_ | (clear hK K; refine hK _ ?_) | (clear hK K; clear hK K; refine hK _ ?_)); clear hK K) | refine qb ?_)
    exact (idxP_miss (p := fun v => !qx v) (upto_all (C := fun v : Ex => (!qx v) = false) (fun j h1 h2 => by simpa using he j h1 h2) hlt)).symm
theorem contF_g (L : List Ex) (hL : L.length ≤ 1000000) : Gives Tryz.prog 40 [.sl (L.map Ex.av), .fn 41 []] (.bool (!L.all qx)) := by
  have h : decide (0 ≤ idxP (fun e => !qx e) L) = !L.all qx := by rw [idxP_any, List.not_all_eq_any_not]
  rw [← h]
  refine qn Tryz.func40 Tryz.ntmps40 rfl rfl (by decide) rfl (by intro n; simp) fun σ n0 hcl hft => ?_
  repeat' (first | ((first | ((with_reducible refine qo (fun hg => ?_) (fun hg => ?_)) <;> (try simp only [hg]) <;> (try simp only [gS] at hg) <;> (try (first | simp only [eq_false hg, gI] | simp only [eq_true hg, gI]))) | (with_reducible first | refine qf ?_ | refine qe ?_ | refine qk ?_ | refine qj ?_) | refine acall (idxF_g L hL) ?_ | refine qp (idxF_g L hL) ?_ | refine qc ?_ | refine qh ?_ | refine qi ?_ | refine qm ?_) <;> (try simp (disch := first | omega | simp) [qg, -qq, -qr])) | ((with_reducible refine sideT ?_ ?_); first | omega | assumption | (simp; done)) | (refine qd fun K hK => ?_) | (refine qa ?_) | refine ql ?_ | ((first | refine hK _ ?_ | (clear hK K; refine hK _ ?_) | (clear hK K; clear hK K; refine hK _ ?_)); clear hK K) | refine qb ?_)
theorem const_ty26 {F : List Fn} {c p : List Int} {x : Ex} {t : Int} (hc : qx x = true) (h : ty F c p x = some t) : ty [] [] [] x = some t := by
  obtain ⟨v, h1, rfl, rfl⟩ := qdu hc h
  exact (qcg h1 [] [] []).1
theorem consts_ty26 {F : List Fn} {c p : List Int} : ∀ {l : List Ex} {ts : List Int}, (∀ x ∈ l, qx x = true) → tys F c p l = some ts → tys [] [] [] l = some ts
  | [], ts, _, h => by rw [tys] at h ⊢; exact h
  | x :: l, ts, hc, h => by
    obtain ⟨t, us, rfl, g1, g2⟩ := qcb h
    rw [tys, const_ty26 (hc x (by simp)) g1, consts_ty26 (fun y hy => hc y (by simp [hy])) g2]
theorem closed_ty {F : List Fn} {c p : List Int} {o n : Int} {s : ByteArray} {l : List Ex} {t : Int} (ho : o ≠ 22) (hne : l ≠ []) (hc : ∀ x ∈ l, qx x = true) (h : ty F c p (.mk o n s l) = some t) : ty [] [] [] (.mk o n s l) = some t := by
  obtain ⟨ts, h1, h2⟩ := ty_mk h
  have hts : ts ≠ [] := fun e => hne (by have := qcw l h1; rw [e] at this; exact List.length_eq_zero_iff.1 this.symm)
  rw [ty, consts_ty26 hc h1]
  dsimp only
  unfold tailT at h2 ⊢
  rw [if_neg ho, if_neg hts] at h2 ⊢
  exact h2
theorem ty_op {c : List Int} {o n : Int} {s : ByteArray} {l : List Ex} {t : Int} (h : ty [] c [] (.mk o n s l) = some t) : o ≠ 22 := fun e => by
  have h1 := (ty_form' h).1
  rw [e] at h1
  revert h1; decide
theorem cls_rep {m : Nat} {x : AV} (h : x.cl m) (n : Nat) : AV.cls m (List.replicate n x) := AV.cls_iff.2 fun y hy => by rw [List.eq_of_mem_replicate hy]; exact h
theorem fold_tys {F : List Fn} {c p : List Int} : ∀ {l : List Ex} {ts : List Int}, tys F c p l = some ts → tys F c p (l.map foldE) = some ts
  | [], _, h => h
  | x :: l, _, h => by
    obtain ⟨t, us, rfl, g1, g2⟩ := qcb h
    rw [List.map_cons, tys, (fold_ok x g1).1, fold_tys g2]
theorem qds {F : List Fn} {c p : List Int} {o n : Int} {s : ByteArray} {l : List Ex} {t : Int} (ho : 6 ≤ o) (h : ty F c p (.mk o n s l) = some t) (h22 : o ≠ 22 := by first | exact ty_op h | omega) : ∃ ts, operT o n ts = some t ∧ ts.length = l.length ∧ tys F c p l = some ts := by
  have hl : l ≠ [] := fun e => by
    subst e
    obtain ⟨ts, h1, h2⟩ := ty_mk h
    obtain rfl : ts = [] := by rw [tys] at h1; exact (Option.some.inj h1).symm
    unfold tailT at h2
    split at h2
    · cases h2
    simp only [h22, if_false, if_true] at h2
    unfold leafT at h2
    rw [if_neg (by omega), if_neg (by omega), if_neg (by omega), if_neg (by omega)] at h2
    split at h2
    · omega
    · split at h2
      · omega
      · cases h2
  obtain ⟨ts, h1, h2, -⟩ := ty_oper h h22 hl
  exact ⟨ts, h2, qcw l h1, h1⟩
theorem oper_one {n : Int} {ts : List Int} {t : Int} (h : operT 6 n ts = some t) : ts = [2] := by
  unfold operT at h
  split at h
  · cases h
  rw [if_pos rfl] at h
  split at h
  · assumption
  · cases h
theorem shape_not {F : List Fn} {c p : List Int} {n : Int} {s : ByteArray} {l : List Ex} {t : Int} (h : ty F c p (.mk 6 n s l) = some t) : ∃ x, l = [x] ∧ (x.op = 6 → ∃ y, x.args = [y]) := by
  obtain ⟨ts, h1, h2, h3⟩ := qds (by omega) h
  rw [oper_one h1] at h2
  match l, h2 with
  | [x], _ =>
    refine ⟨x, rfl, fun hx => ?_⟩
    obtain ⟨u, us, rfl, g1, -⟩ := qcb h3
    obtain ⟨o2, n2, s2, l2⟩ := x
    simp only [Ex.op] at hx
    subst hx
    obtain ⟨ts2, k1, k2, -⟩ := qds (by omega) g1
    rw [oper_one k1] at k2
    match l2, k2 with
    | [y], _ => exact ⟨y, rfl⟩
theorem shape_if {F : List Fn} {c p : List Int} {n : Int} {s : ByteArray} {l : List Ex} {t : Int} (h : ty F c p (.mk 21 n s l) = some t) : ∃ a b d, l = [a, b, d] := by
  obtain ⟨ts, h1, h2, -⟩ := qds (by omega) h
  unfold operT at h1
  split at h1
  · cases h1
  rw [if_neg (by omega), if_neg (by omega), if_neg (by omega), if_neg (by omega), if_neg (by omega), if_neg (by omega), if_neg (by omega), if_pos rfl] at h1
  split at h1
  · match l, h2 with
    | [a, b, d], _ => exact ⟨a, b, d, rfl⟩
  · cases h1
theorem shape_two {F : List Fn} {c p : List Int} {o n : Int} {s : ByteArray} {l : List Ex} {t : Int} (ho : o = 17 ∨ o = 18) (h : ty F c p (.mk o n s l) = some t) : ∃ a b, l = [a, b] := by
  obtain ⟨ts, h1, h2, -⟩ := qds (by omega) h
  unfold operT at h1
  split at h1
  · cases h1
  rw [if_neg (by omega), if_neg (by omega), if_neg (by omega), if_neg (by omega), if_neg (by omega), if_pos (by omega)] at h1
  split at h1
  · rename_i hts
    rw [hts] at h2
    match l, h2 with
    | [a, b], _ => exact ⟨a, b, rfl⟩
  · cases h1
def zeroA : AV := .agg [.int 0, .int 0, .str ByteArray.empty, .v (.slice none 0 0)]
set_option maxHeartbeats 8000000 in
theorem Fold_g {F : List Fn} {c p : List Int} (e : Ex) : ∀ {t : Int}, ty F c p e = some t → parts e ≤ 1000000 → Gives Tryz.prog 10 [e.av] (foldE e).av := by
  induction e using Ex.ind with | h o n s l ih => ?_
  intro t ht hp
  have hl : l.length ≤ 1000000 := by rw [parts] at hp; have := qbd l; omega
  have hpl : ∀ x ∈ l, parts x ≤ 1000000 := fun x hx => by rw [parts] at hp; have := qbb l x hx; omega
  have htl : ∀ x ∈ l, ∃ u, ty F c p x = some u := by
    obtain ⟨ts, h1, -⟩ := ty_mk ht
    exact qet l h1
  obtain ⟨ts, hts, htt⟩ := ty_mk ht
  have hsz : 48 * l.length ≤ 281474976710656 := by omega
  obtain ⟨R, hR⟩ : ∃ R, R = foldE (.mk o n s l) := ⟨_, rfl⟩
  rw [← hR]
  rw [foldE, qdz] at hR
  refine qn Tryz.func10 Tryz.ntmps10 rfl rfl (by decide) rfl (by intro n; simp) fun σ n0 hcl hft => ?_
  repeat' (first | ((first | ((with_reducible refine qo (fun hg => ?_) (fun hg => ?_)) <;> (try simp only [hg]) <;> (try simp only [gS] at hg) <;> (try (first | simp only [eq_false hg, gI] | simp only [eq_true hg, gI]))) | (with_reducible first | refine qf ?_ | refine qe ?_ | refine qk ?_ | refine qj ?_) | refine qc ?_ | refine qh ?_ | refine qi ?_ | refine qm ?_) <;> (try simp (disch := first | omega | simp) [qg, -qq, -qr, hsz])) | ((with_reducible refine sideT ?_ ?_); first | omega | assumption | (simp; done)) | (refine qd fun K hK => ?_) | (refine qa ?_) | refine ql ?_ | ((first | refine hK _ ?_ | (clear hK K; refine hK _ ?_) | (clear hK K; clear hK K; refine hK _ ?_)); clear hK K) | refine qb ?_)
  refine qs hcl (fun k : Nat => [(1, .ptr n0 0), (2, .ptr (n0 + 1) 0), (3, .own (n0 + 2) l.length), (13, .sl (l.map Ex.av)), (14, .int l.length), (15, .int k)]) (fun k => [.cells [.int o, .int n, .str s, .sl (l.map Ex.av)] 25, .cells [.int 0, .int 0, .str ByteArray.empty, .v (.slice none 0 0)] 25, .vec (fillV (fun x => (foldE x).av) zeroA l k) 25 4])
    (fun k => k ≤ l.length) (fun k => l.length - k) 0 (by simp) (by simp [fillV_zero, zeroA] <;> exact cls_rep (by simp) _) fun k hk => ?_
  by_cases hlt : k < l.length
  · obtain ⟨u, hu⟩ := htl l[k] (List.getElem_mem hlt)
    have c1 := ih l[k] (List.getElem_mem hlt) hu (hpl _ (List.getElem_mem hlt))
    have hfl : (fillV (fun x => (foldE x).av) zeroA l k).length = l.length := fillV_len (by omega)
    have hge : (fillV (fun x => (foldE x).av) zeroA l k)[k]'(by rw [hfl]; exact hlt) = .agg [.int 0, .int 0, .str ByteArray.empty, .v (.slice none 0 0)] := by
      have := fillV_get (f := fun x => (foldE x).av) (z := zeroA) hlt
      rw [List.getElem?_eq_getElem (by rw [hfl]; exact hlt)] at this
      injection this with this
    have hst := fillV_set (f := fun x => (foldE x).av) (z := zeroA) hlt
    repeat' (first | ((first | ((with_reducible refine qo (fun hg => ?_) (fun hg => ?_)) <;> (try simp only [hg]) <;> (try simp only [gS] at hg) <;> (try (first | simp only [eq_false hg, gI] | simp only [eq_true hg, gI]))) | (with_reducible first | refine qf ?_ | refine qe ?_ | refine qk ?_ | refine qj ?_) | refine acall (c1) ?_ | refine qp (c1) ?_ | refine qc ?_ | refine qh ?_ | refine qi ?_ | refine qm ?_) <;> (try simp (disch := first | omega | simp) [qg, -qq, -qr, hlt, hfl, hge])) | ((with_reducible refine sideT ?_ ?_); first | omega | assumption | (simp; done)) | (refine qd fun K hK => ?_) | (refine qa ?_) | refine ql ?_ | ((first | refine hK _ ?_ | (clear hK K; refine hK _ ?_) | (clear hK K; clear hK K; refine hK _ ?_)); clear hK K) | refine qb ?_)
    exact ⟨k + 1, by omega, by omega, hst, fillV_cls (fun x => (foldE x).av_cl _) (by simp [zeroA]) , by omega⟩
  · obtain rfl : k = l.length := by omega
    rw [fillV_all]
    refine awp_freezeR 3 2 (k := l.length) (by simp) (by rfl) (by simp) ?_
    refine awp_pubR 3 (r := n0 + 3) (l := l.map fun x => (foldE x).av) (by simp) ?_
    obtain ⟨l', hl'⟩ : ∃ l', l' = l.map foldE := ⟨_, rfl⟩
    have hm : (l.map fun x => (foldE x).av) = l'.map Ex.av := by rw [hl', List.map_map]; rfl
    have hlen : l'.length = l.length := by rw [hl', List.length_map]
    have ht' : ty F c p (.mk o n s l') = some t := by rw [hl', ty, fold_tys hts]; exact htt
    have hp' : parts (Ex.mk o n s l') ≤ 1000000 := by
      rw [parts] at hp ⊢
      have := partsL_map (f := foldE) l fun x _ => fold_parts x
      rw [hl']; omega
    rw [hm]
    rw [← hl'] at hR
    clear hl' hm
    unfold topF at hR
    by_cases hnil : l = []
    · subst hnil
      obtain rfl := List.eq_nil_of_length_eq_zero hlen
      rw [if_pos rfl] at hR
      repeat' (first | ((first | ((with_reducible refine qo (fun hg => ?_) (fun hg => ?_)) <;> (try simp only [hg]) <;> (try simp only [gS] at hg) <;> (try (first | simp only [eq_false hg, gI] | simp only [eq_true hg, gI]))) | (with_reducible first | refine qf ?_ | refine qe ?_ | refine qk ?_ | refine qj ?_) | refine qc ?_ | refine qh ?_ | refine qi ?_ | refine qm ?_) <;> (try simp (disch := first | omega | simp) [qg, -qq, -qr])) | ((with_reducible refine sideT ?_ ?_); first | omega | assumption | (simp; done)) | (refine qd fun K hK => ?_) | (refine qa ?_) | refine ql ?_ | ((first | refine hK _ ?_ | (clear hK K; refine hK _ ?_) | (clear hK K; clear hK K; refine hK _ ?_)); clear hK K) | refine qb ?_)
      all_goals (rw [hR]; simp)
    have hne : l' ≠ [] := fun e => hnil (List.eq_nil_of_length_eq_zero (by rw [← hlen, e]; rfl))
    have hn0 : ¬ (l'.length : Int) = 0 := fun e => hne (List.eq_nil_of_length_eq_zero (by omega))
    have hn1 : ((l'.length : Int) == 0) = false := beq_eq_false_iff_ne.2 hn0
    rw [if_neg hne] at hR
    by_cases ho : o = 22
    · subst ho
      rw [if_neg fun h => h.1 rfl, if_neg (by decide), if_neg (by decide), if_neg (by decide)] at hR
      repeat' (first | ((first | ((with_reducible refine qo (fun hg => ?_) (fun hg => ?_)) <;> (try simp only [hg]) <;> (try simp only [gS] at hg) <;> (try (first | simp only [eq_false hg, gI] | simp only [eq_true hg, gI]))) | (with_reducible first | refine qf ?_ | refine qe ?_ | refine qk ?_ | refine qj ?_) | refine qc ?_ | refine qh ?_ | refine qi ?_ | refine qm ?_) <;> (try simp (disch := first | omega | simp) [qg, -qq, -qr, hne, hn0, hn1])) | ((with_reducible refine sideT ?_ ?_); first | omega | assumption | (simp; done)) | (refine qd fun K hK => ?_) | (refine qa ?_) | refine ql ?_ | ((first | refine hK _ ?_ | (clear hK K; refine hK _ ?_) | (clear hK K; clear hK K; refine hK _ ?_)); clear hK K) | refine qb ?_)
      all_goals first | exact absurd (by assumption) hn0 | (exfalso; omega) | (rw [hR]; simp; done) | (rw [hR]; done) | (rw [hR]; exact rfl) | rfl
    have ho22 : (o == 22) = false := beq_eq_false_iff_ne.2 ho
    have ho23 : (o != 22) = true := by rw [bne, ho22]; rfl
    by_cases hall : l'.all qx = true
    · rw [if_pos ⟨ho, hall⟩] at hR
      have c1 := contF_g l' (by omega)
      have c2 := eval_fit_g [] 0 [] (.mk o n s l') t (by simp) (by simp) hp' (closed_ty ho hne (fun x hx => List.all_eq_true.1 hall x hx) ht') (qce.nil [])
      have c3 := Constant_g (evalP [] 0 [] (.mk o n s l'))
      rw [hall] at c1
      rw [← hR] at c3
      simp only [Ex.av_mk, List.map_nil] at c2
      repeat' (first | ((first | ((with_reducible refine qo (fun hg => ?_) (fun hg => ?_)) <;> (try simp only [hg]) <;> (try simp only [gS] at hg) <;> (try (first | simp only [eq_false hg, gI] | simp only [eq_true hg, gI]))) | (with_reducible first | refine qf ?_ | refine qe ?_ | refine qk ?_ | refine qj ?_) | refine acall (c1) ?_ | refine qp (c1) ?_ | refine acall (c2) ?_ | refine qp (c2) ?_ | refine acall (c3) ?_ | refine qp (c3) ?_ | refine qc ?_ | refine qh ?_ | refine qi ?_ | refine qm ?_) <;> (try simp (disch := first | omega | simp) [qg, -qq, -qr, ho22, ho23, hne, hn0, hn1])) | ((with_reducible refine sideT ?_ ?_); first | omega | assumption | (simp; done)) | (refine qd fun K hK => ?_) | (refine qa ?_) | refine ql ?_ | ((first | refine hK _ ?_ | (clear hK K; refine hK _ ?_) | (clear hK K; clear hK K; refine hK _ ?_)); clear hK K) | refine qb ?_)
      all_goals first | exact absurd (by assumption) hn0 | (exfalso; omega) | (rw [hR]; simp; done) | (rw [hR]; done) | (rw [hR]; exact rfl) | rfl
    · rw [if_neg fun h => hall h.2] at hR
      have c1 := contF_g l' (by omega)
      rw [Bool.eq_false_iff.2 hall] at c1
      by_cases h21 : o = 21
      · subst h21
        obtain ⟨a, b, d, rfl⟩ := shape_if ht'
        have c2 := choice_g n s a b d (by rw [parts] at hp'; have := qbb [a, b, d] b (by simp); omega)
        rw [if_pos rfl] at hR
        rw [← hR] at c2
        simp only [Ex.av_mk, List.map_cons, List.map_nil] at c2
        repeat' (first | ((first | ((with_reducible refine qo (fun hg => ?_) (fun hg => ?_)) <;> (try simp only [hg]) <;> (try simp only [gS] at hg) <;> (try (first | simp only [eq_false hg, gI] | simp only [eq_true hg, gI]))) | (with_reducible first | refine qf ?_ | refine qe ?_ | refine qk ?_ | refine qj ?_) | refine acall (c1) ?_ | refine qp (c1) ?_ | refine acall (c2) ?_ | refine qp (c2) ?_ | refine qc ?_ | refine qh ?_ | refine qi ?_ | refine qm ?_) <;> (try simp (disch := first | omega | simp) [qg, -qq, -qr, hne])) | ((with_reducible refine sideT ?_ ?_); first | omega | assumption | (simp; done)) | (refine qd fun K hK => ?_) | (refine qa ?_) | refine ql ?_ | ((first | refine hK _ ?_ | (clear hK K; refine hK _ ?_) | (clear hK K; clear hK K; refine hK _ ?_)); clear hK K) | refine qb ?_)
        all_goals first | exact absurd (by assumption) hn0 | (exfalso; omega) | (rw [hR]; simp; done) | (rw [hR]; done) | (rw [hR]; exact rfl) | rfl
      · rw [if_neg h21] at hR
        by_cases h17 : o = 17 ∨ o = 18
        · obtain ⟨a, b, rfl⟩ := shape_two h17 ht'
          have c2 := logic_g o n s a b
          have h211 : (o == 21) = false := beq_eq_false_iff_ne.2 h21
          rw [if_pos h17] at hR
          rw [← hR] at c2
          simp only [Ex.av_mk, List.map_cons, List.map_nil] at c2
          repeat' (first | ((first | ((with_reducible refine qo (fun hg => ?_) (fun hg => ?_)) <;> (try simp only [hg]) <;> (try simp only [gS] at hg) <;> (try (first | simp only [eq_false hg, gI] | simp only [eq_true hg, gI]))) | (with_reducible first | refine qf ?_ | refine qe ?_ | refine qk ?_ | refine qj ?_) | refine acall (c1) ?_ | refine qp (c1) ?_ | refine acall (c2) ?_ | refine qp (c2) ?_ | refine qc ?_ | refine qh ?_ | refine qi ?_ | refine qm ?_) <;> (try simp (disch := first | omega | simp) [qg, -qq, -qr, ho22, ho23, hne, hn0, hn1, h211])) | ((with_reducible refine sideT ?_ ?_); first | omega | assumption | (simp; done)) | (refine qd fun K hK => ?_) | (refine qa ?_) | refine ql ?_ | ((first | refine hK _ ?_ | (clear hK K; refine hK _ ?_) | (clear hK K; clear hK K; refine hK _ ?_)); clear hK K) | refine qb ?_)
          all_goals first | exact absurd (by assumption) hn0 | (exfalso; omega) | (rw [hR]; simp; done) | (rw [hR]; done) | (rw [hR]; exact rfl) | rfl
        · rw [if_neg h17] at hR
          have h171 : (o == 17) = false := beq_eq_false_iff_ne.2 fun e => h17 (.inl e)
          have h172 : (o == 18) = false := beq_eq_false_iff_ne.2 fun e => h17 (.inr e)
          have h211 : (o == 21) = false := beq_eq_false_iff_ne.2 h21
          by_cases h6 : o = 6
          · subst h6
            obtain ⟨x, rfl, hx⟩ := shape_not ht'
            rw [if_pos rfl] at hR
            obtain ⟨o2, n2, s2, l2⟩ := x
            unfold notP at hR
            dsimp only at hR
            by_cases h26 : o2 = 6
            · subst h26
              obtain ⟨y, rfl⟩ := hx rfl
              rw [if_pos rfl] at hR
              simp only [Ex.av_mk, List.map_cons, List.map_nil] at c1
              repeat' (first | ((first | ((with_reducible refine qo (fun hg => ?_) (fun hg => ?_)) <;> (try simp only [hg]) <;> (try simp only [gS] at hg) <;> (try (first | simp only [eq_false hg, gI] | simp only [eq_true hg, gI]))) | (with_reducible first | refine qf ?_ | refine qe ?_ | refine qk ?_ | refine qj ?_) | refine acall (c1) ?_ | refine qp (c1) ?_ | refine qc ?_ | refine qh ?_ | refine qi ?_ | refine qm ?_) <;> (try simp (disch := first | omega | simp) [qg, -qq, -qr])) | ((with_reducible refine sideT ?_ ?_); first | omega | assumption | (simp; done)) | (refine qd fun K hK => ?_) | (refine qa ?_) | refine ql ?_ | ((first | refine hK _ ?_ | (clear hK K; refine hK _ ?_) | (clear hK K; clear hK K; refine hK _ ?_)); clear hK K) | refine qb ?_)
              all_goals first | exact absurd (by assumption) hn0 | (exfalso; omega) | (rw [hR]; simp; done) | (rw [hR]; done) | (rw [hR]; exact rfl) | rfl
            · rw [if_neg h26] at hR
              have h27 : (o2 == 6) = false := beq_eq_false_iff_ne.2 h26
              simp only [Ex.av_mk, List.map_cons, List.map_nil] at c1
              repeat' (first | ((first | ((with_reducible refine qo (fun hg => ?_) (fun hg => ?_)) <;> (try simp only [hg]) <;> (try simp only [gS] at hg) <;> (try (first | simp only [eq_false hg, gI] | simp only [eq_true hg, gI]))) | (with_reducible first | refine qf ?_ | refine qe ?_ | refine qk ?_ | refine qj ?_) | refine acall (c1) ?_ | refine qp (c1) ?_ | refine qc ?_ | refine qh ?_ | refine qi ?_ | refine qm ?_) <;> (try simp (disch := first | omega | simp) [qg, -qq, -qr, h27])) | ((with_reducible refine sideT ?_ ?_); first | omega | assumption | (simp; done)) | (refine qd fun K hK => ?_) | (refine qa ?_) | refine ql ?_ | ((first | refine hK _ ?_ | (clear hK K; refine hK _ ?_) | (clear hK K; clear hK K; refine hK _ ?_)); clear hK K) | refine qb ?_)
              all_goals first | exact absurd (by assumption) hn0 | (exfalso; omega) | (rw [hR]; simp; done) | (rw [hR]; done) | (rw [hR]; exact rfl) | rfl
          · rw [if_neg h6] at hR
            have h61 : (o == 6) = false := beq_eq_false_iff_ne.2 h6
            repeat' (first | ((first | ((with_reducible refine qo (fun hg => ?_) (fun hg => ?_)) <;> (try simp only [hg]) <;> (try simp only [gS] at hg) <;> (try (first | simp only [eq_false hg, gI] | simp only [eq_true hg, gI]))) | (with_reducible first | refine qf ?_ | refine qe ?_ | refine qk ?_ | refine qj ?_) | refine acall (c1) ?_ | refine qp (c1) ?_ | refine qc ?_ | refine qh ?_ | refine qi ?_ | refine qm ?_) <;> (try simp (disch := first | omega | simp) [qg, -qq, -qr, ho22, ho23, hne, hn0, hn1, h211, h171, h172, h61])) | ((with_reducible refine sideT ?_ ?_); first | omega | assumption | (simp; done)) | (refine qd fun K hK => ?_) | (refine qa ?_) | refine ql ?_ | ((first | refine hK _ ?_ | (clear hK K; refine hK _ ?_) | (clear hK K; clear hK K; refine hK _ ?_)); clear hK K) | refine qb ?_)
            all_goals first | exact absurd (by assumption) hn0 | (exfalso; omega) | (rw [hR]; simp; done) | (rw [hR]; done) | (rw [hR]; exact rfl) | rfl
end Go.Proofs.YtnkimlkoijfcpaaGreatDoor

/- Walks: slices.IndexFunc and ContainsFunc at ints, with a closure over one variable, or over none. -/
namespace Go.Proofs.YtnkimlkoijfcpaaGreatDoor
open Go.RowKit Go.Lib
theorem idxI_p (L : List Int) (p : Int → Bool) (q : Nat) (hq : enters Tryz.prog q = true) (b : Nat) (σ : Nat → AB) {cs : List AV} {t : TypeId} (hb : σ b = .cells cs t) (h : ∀ x ∈ L, qdv Tryz.prog q [.int x, .ptr b 0] σ (.bool (p x))) (hL : L.length ≤ 1000000) :
    qdv Tryz.prog 137 [.sl (L.map AV.int), .fn q [.ptr b 0]] σ (.int (idxP p L)) := by
  refine qci Tryz.func137 Tryz.ntmps137 rfl rfl (by decide) rfl (by intro n; simp) fun n0 hfin hcl hft => ?_
  have hrn := fin_lt hfin hb (by simp)
  rw [← loc_nil hfin] at h
  repeat' (first | ((first | ((with_reducible refine qo (fun hg => ?_) (fun hg => ?_)) <;> (try simp only [hg]) <;> (try simp only [gS] at hg) <;> (try (first | simp only [eq_false hg, gI] | simp only [eq_true hg, gI]))) | (with_reducible first | refine qf ?_ | refine qe ?_ | refine qk ?_ | refine qj ?_) | refine qc ?_ | refine qh ?_ | refine qi ?_ | refine qm ?_) <;> (try simp (disch := first | omega | simp) [qg, -qq, -qr])) | ((with_reducible refine sideT ?_ ?_); first | omega | assumption | (simp; done)) | (refine qd fun K hK => ?_) | (refine qa ?_) | refine ql ?_ | ((first | refine hK _ ?_ | (clear hK K; refine hK _ ?_) | (clear hK K; clear hK K; refine hK _ ?_)); clear hK K) | refine qb ?_)
  refine qs hcl (fun k : Nat => [(0, .sl (L.map AV.int)), (1, .fn q [.ptr b 0]), (7, .int L.length), (8, .int k)]) (fun _ => [])
    (fun k => k ≤ L.length ∧ ∀ j (h : j < L.length), j < k → p L[j] = false) (fun k => L.length - k) 0 (by simp) (by simp [hrn]) fun k ⟨hk, he⟩ => ?_
  by_cases hlt : k < L.length
  · have c1 := h L[k] (List.getElem_mem _)
    cases hp : p L[k]
    · rw [hp] at c1
      repeat' (first | ((first | ((with_reducible refine qo (fun hg => ?_) (fun hg => ?_)) <;> (try simp only [hg]) <;> (try simp only [gS] at hg) <;> (try (first | simp only [eq_false hg, gI] | simp only [eq_true hg, gI]))) | (with_reducible first | refine qf ?_ | refine qe ?_ | refine qk ?_ | refine qj ?_) | refine acall (c1) ?_ | refine qp (c1) ?_ | refine acallAt (c1) ?_ | refine qc ?_ | refine qh ?_ | refine qi ?_ | refine qm ?_) <;> (try simp (disch := first | omega | simp) [qg, -qq, -qr, hlt, hrn, hq])) | ((with_reducible refine sideT ?_ ?_); first | omega | assumption | (simp; done)) | (refine qd fun K hK => ?_) | (refine qa ?_) | refine ql ?_ | ((first | refine hK _ ?_ | (clear hK K; refine hK _ ?_) | (clear hK K; clear hK K; refine hK _ ?_)); clear hK K) | refine qb ?_)
      exact ⟨k + 1, ⟨by omega, qeg (C := fun x : Int => p x = false) he fun _ => hp⟩, by omega, by simp [hrn]⟩
    · rw [hp] at c1
      repeat' (first | ((first | ((with_reducible refine qo (fun hg => ?_) (fun hg => ?_)) <;> (try simp only [hg]) <;> (try simp only [gS] at hg) <;> (try (first | simp only [eq_false hg, gI] | simp only [eq_true hg, gI]))) | (with_reducible first | refine qf ?_ | refine qe ?_ | refine qk ?_ | refine qj ?_) | refine acall (c1) ?_ | refine qp (c1) ?_ | refine acallAt (c1) ?_ | refine qc ?_ | refine qh ?_ | refine qi ?_ | refine qm ?_) <;> (try simp (disch := first | omega | simp) [qg, -qq, -qr, hlt, hrn, hq])) | ((with_reducible refine sideT ?_ ?_); first | omega | assumption | (simp; done)) | (refine qd fun K hK => ?_) | (refine qa ?_) | refine ql ?_ | ((first | refine hK _ ?_ | (clear hK K; refine hK _ ?_) | (clear hK K; clear hK K; refine hK _ ?_)); clear hK K) | refine qb ?_)
      exact (idxP_hit hlt hp he).symm
  · repeat' (first | ((first | ((with_reducible refine qo (fun hg => ?_) (fun hg => ?_)) <;> (try simp only [hg]) <;> (try simp only [gS] at hg) <;> (try (first | simp only [eq_false hg, gI] | simp only [eq_true hg, gI]))) | (with_reducible first | refine qf ?_ | refine qe ?_ | refine qk ?_ | refine qj ?_) | refine qc ?_ | refine qh ?_ | refine qi ?_ | refine qm ?_) <;> (try simp (disch := first | omega | simp) [qg, -qq, -qr, hlt])) | ((with_reducible refine sideT ?_ ?_); first | omega | assumption | (simp; done)) | (refine qd fun K hK => ?_) | (refine qa ?_) | refine ql ?_ | ((first | refine hK _ ?_ | (clear hK K; refine hK _ ?_) | (clear hK K; clear hK K; refine hK _ ?_)); clear hK K) | refine qb ?_)
    exact (idxP_miss (upto_all (C := fun x : Int => p x = false) he hlt)).symm
theorem idxI_n (L : List Int) (p : Int → Bool) (q : Nat) (hq : enters Tryz.prog q = true) (h : ∀ x ∈ L, Gives Tryz.prog q [.int x] (.bool (p x))) (hL : L.length ≤ 1000000) :
    Gives Tryz.prog 137 [.sl (L.map AV.int), .fn q []] (.int (idxP p L)) := by
  refine qn Tryz.func137 Tryz.ntmps137 rfl rfl (by decide) rfl (by intro n; simp) fun σ n0 hcl hft => ?_
  repeat' (first | ((first | ((with_reducible refine qo (fun hg => ?_) (fun hg => ?_)) <;> (try simp only [hg]) <;> (try simp only [gS] at hg) <;> (try (first | simp only [eq_false hg, gI] | simp only [eq_true hg, gI]))) | (with_reducible first | refine qf ?_ | refine qe ?_ | refine qk ?_ | refine qj ?_) | refine qc ?_ | refine qh ?_ | refine qi ?_ | refine qm ?_) <;> (try simp (disch := first | omega | simp) [qg, -qq, -qr])) | ((with_reducible refine sideT ?_ ?_); first | omega | assumption | (simp; done)) | (refine qd fun K hK => ?_) | (refine qa ?_) | refine ql ?_ | ((first | refine hK _ ?_ | (clear hK K; refine hK _ ?_) | (clear hK K; clear hK K; refine hK _ ?_)); clear hK K) | refine qb ?_)
  refine qs hcl (fun k : Nat => [(0, .sl (L.map AV.int)), (1, .fn q []), (7, .int L.length), (8, .int k)]) (fun _ => [])
    (fun k => k ≤ L.length ∧ ∀ j (h : j < L.length), j < k → p L[j] = false) (fun k => L.length - k) 0 (by simp) (by simp) fun k ⟨hk, he⟩ => ?_
  by_cases hlt : k < L.length
  · have c1 := h L[k] (List.getElem_mem _)
    cases hp : p L[k]
    · rw [hp] at c1
      repeat' (first | ((first | ((with_reducible refine qo (fun hg => ?_) (fun hg => ?_)) <;> (try simp only [hg]) <;> (try simp only [gS] at hg) <;> (try (first | simp only [eq_false hg, gI] | simp only [eq_true hg, gI]))) | (with_reducible first | refine qf ?_ | refine qe ?_ | refine qk ?_ | refine qj ?_) | refine acall (c1) ?_ | refine qp (c1) ?_ | refine acallAt (c1) ?_ | refine qc ?_ | refine qh ?_ | refine qi ?_ | refine qm ?_) <;> (try simp (disch := first | omega | simp) [qg, -qq, -qr, hlt, hq])) | ((with_reducible refine sideT ?_ ?_); first | omega | assumption | (simp; done)) | (refine qd fun K hK => ?_) | (refine qa ?_) | refine ql ?_ | ((first | refine hK _ ?_ | (clear hK K; refine hK _ ?_) | (clear hK K; clear hK K; refine hK _ ?_)); clear hK K) | refine qb ?_)
      exact ⟨k + 1, ⟨by omega, qeg (C := fun x : Int => p x = false) he fun _ => hp⟩, by omega, by simp⟩
    · rw [hp] at c1
      repeat' (first | ((first | ((with_reducible refine qo (fun hg => ?_) (fun hg => ?_)) <;> (try simp only [hg]) <;> (try simp only [gS] at hg) <;> (try (first | simp only [eq_false hg, gI] | simp only [eq_true hg, gI]))) | (with_reducible first | refine qf ?_ | refine qe ?_ | refine qk ?_ | refine qj ?_) | refine acall (c1) ?_ | refine qp (c1) ?_ | refine acallAt (c1) ?_ | refine qc ?_ | refine qh ?_ | refine qi ?_ | refine qm ?_) <;> (try simp (disch := first | omega | simp) [qg, -qq, -qr, hlt, hq])) | ((with_reducible refine sideT ?_ ?_); first | omega | assumption | (simp; done)) | (refine qd fun K hK => ?_) | (refine qa ?_) | refine ql ?_ | ((first | refine hK _ ?_ | (clear hK K; refine hK _ ?_) | (clear hK K; clear hK K; refine hK _ ?_)); clear hK K) | refine qb ?_)
      exact (idxP_hit hlt hp he).symm
  · repeat' (first | ((first | ((with_reducible refine qo (fun hg => ?_) (fun hg => ?_)) <;> (try simp only [hg]) <;> (try simp only [gS] at hg) <;> (try (first | simp only [eq_false hg, gI] | simp only [eq_true hg, gI]))) | (with_reducible first | refine qf ?_ | refine qe ?_ | refine qk ?_ | refine qj ?_) | refine qc ?_ | refine qh ?_ | refine qi ?_ | refine qm ?_) <;> (try simp (disch := first | omega | simp) [qg, -qq, -qr, hlt])) | ((with_reducible refine sideT ?_ ?_); first | omega | assumption | (simp; done)) | (refine qd fun K hK => ?_) | (refine qa ?_) | refine ql ?_ | ((first | refine hK _ ?_ | (clear hK K; refine hK _ ?_) | (clear hK K; clear hK K; refine hK _ ?_)); clear hK K) | refine qb ?_)
    exact (idxP_miss (upto_all (C := fun x : Int => p x = false) he hlt)).symm
theorem contI_p (L : List Int) (p : Int → Bool) (q : Nat) (hq : enters Tryz.prog q = true) (b : Nat) (σ : Nat → AB) {cs : List AV} {t : TypeId} (hb : σ b = .cells cs t) (h : ∀ x ∈ L, qdv Tryz.prog q [.int x, .ptr b 0] σ (.bool (p x))) (hL : L.length ≤ 1000000) :
    qdv Tryz.prog 88 [.sl (L.map AV.int), .fn q [.ptr b 0]] σ (.bool (L.any p)) := by
  rw [← idxP_any]
  refine qci Tryz.func88 Tryz.ntmps88 rfl rfl (by decide) rfl (by intro n; simp) fun n0 hfin hcl hft => ?_
  have hrn := fin_lt hfin hb (by simp)
  have c1 := idxI_p L p q hq b σ hb h hL
  rw [← loc_nil hfin] at c1
  repeat' (first | ((first | ((with_reducible refine qo (fun hg => ?_) (fun hg => ?_)) <;> (try simp only [hg]) <;> (try simp only [gS] at hg) <;> (try (first | simp only [eq_false hg, gI] | simp only [eq_true hg, gI]))) | (with_reducible first | refine qf ?_ | refine qe ?_ | refine qk ?_ | refine qj ?_) | refine acall (c1) ?_ | refine qp (c1) ?_ | refine acallAt (c1) ?_ | refine qc ?_ | refine qh ?_ | refine qi ?_ | refine qm ?_) <;> (try simp (disch := first | omega | simp) [qg, -qq, -qr])) | ((with_reducible refine sideT ?_ ?_); first | omega | assumption | (simp; done)) | (refine qd fun K hK => ?_) | (refine qa ?_) | refine ql ?_ | ((first | refine hK _ ?_ | (clear hK K; refine hK _ ?_) | (clear hK K; clear hK K; refine hK _ ?_)); clear hK K) | refine qb ?_)
theorem contI_n (L : List Int) (p : Int → Bool) (q : Nat) (hq : enters Tryz.prog q = true) (h : ∀ x ∈ L, Gives Tryz.prog q [.int x] (.bool (p x))) (hL : L.length ≤ 1000000) :
    Gives Tryz.prog 88 [.sl (L.map AV.int), .fn q []] (.bool (L.any p)) := by
  rw [← idxP_any]
  refine qn Tryz.func88 Tryz.ntmps88 rfl rfl (by decide) rfl (by intro n; simp) fun σ n0 hcl hft => ?_
  repeat' (first | ((first | ((with_reducible refine qo (fun hg => ?_) (fun hg => ?_)) <;> (try simp only [hg]) <;> (try simp only [gS] at hg) <;> (try (first | simp only [eq_false hg, gI] | simp only [eq_true hg, gI]))) | (with_reducible first | refine qf ?_ | refine qe ?_ | refine qk ?_ | refine qj ?_) | refine acall (idxI_n L p q hq h hL) ?_ | refine qp (idxI_n L p q hq h hL) ?_ | refine acallAt (idxI_n L p q hq h hL) ?_ | refine qc ?_ | refine qh ?_ | refine qi ?_ | refine qm ?_) <;> (try simp (disch := first | omega | simp) [qg, -qq, -qr])) | ((with_reducible refine sideT ?_ ?_); first | omega | assumption | (simp; done)) | (refine qd fun K hK => ?_) | (refine qa ?_) | refine ql ?_ | ((first | refine hK _ ?_ | (clear hK K; refine hK _ ?_) | (clear hK K; clear hK K; refine hK _ ?_)); clear hK K) | refine qb ?_)
end Go.Proofs.YtnkimlkoijfcpaaGreatDoor
