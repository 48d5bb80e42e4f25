/- Layer 14 on plain data: what a step makes of right shapes and of rows that fit. -/
import Derived.Test.YtbkkjlcclddpdaaGreatDoorGd14
import Derived.Test.YtbkkjlcclddpdaaGreatDoorGd28
import Derived.Test.YtbkkjlcclddpdaaGreatDoorGd30
import Derived.Test.YtbkkjlcclddpdaaGreatDoorGd31
set_option linter.unusedSimpArgs false
set_option linter.unusedVariables false
namespace Go.Proofs.YtbkkjlcclddpdaaGreatDoor
open Go.RowKit Go.Lib
theorem apart_nodup {α : Type} {l : List α} : Apart l ↔ l.Nodup := by
  unfold Apart List.Nodup
  rw [List.pairwise_iff_getElem]
  constructor
  · intro h i j hi hj hij e
    have := h i j hi hj e; omega
  · intro h i j hi hj e
    rcases Nat.lt_trichotomy i j with h1 | h1 | h1
    · exact absurd e (h i j hi hj h1)
    · exact h1
    · exact absurd e.symm (h j i hj hi h1)
theorem ColOk.set {L : List Col} {i : Nat} {c : Col} (h : ∀ c ∈ L, ColOk c) (hc : ColOk c) : ∀ d ∈ L.set i c, ColOk d := fun d hd => by
  rcases List.mem_or_eq_of_mem_set hd with h1 | rfl
  · exact h d h1
  · exact hc
theorem names_set (L : List Col) (i : Nat) (c : Col) : qbj (L.set i c) = (qbj L).set i c.name.toList := by unfold qbj; rw [List.map_set]
theorem names_erase (L : List Col) (i : Nat) : qbj (L.eraseIdx i) = (qbj L).eraseIdx i := by unfold qbj; exact qbr _ _ _
theorem qgl {L : List Col} {j : Nat} (h : j < (qbj L).length) : (qbj L)[j] = (L[j]'(by simpa [qbj] using h)).name.toList := by simp only [qbj, List.getElem_map]
@[simp] theorem names_len (L : List Col) : (qbj L).length = L.length := by simp [qbj]
theorem emptyL : (⟨#[]⟩ : ByteArray).toList = [] := by rw [ByteArray.toList_eq]
theorem unit_no {n : ByteArray} {t : Int} : unitP ⟨n, t, ⟨#[]⟩⟩ = true := by unfold unitP; simp [emptyL]
theorem names_same {L : List Col} {i : Nat} (hi : i < L.length) {c : Col} (h : c.name = L[i].name) : qbj (L.set i c) = qbj L := by
  rw [names_set, h]
  have : L[i].name.toList = (qbj L)[i]'(by simpa [qbj] using hi) := by rw [qgl]
  rw [this, List.set_getElem_self]
theorem other_ne {x : Lens} {L : List Col} {i : Nat} {hi : i < L.length} (h : At x L i hi) (ha : Apart (qbj L)) {s : List UInt8} (hs : findP L s < 0 ∨ s = x.a.toList) : ∀ j (hj : j < L.length), j ≠ i → L[j].name.toList ≠ s := fun j hj hji e => by
  rcases hs with hs | rfl
  · exact find_no hs hj e
  · exact hji (ha.pre (f := fun c : Col => c.name.toList) hj hi (e.trans h.name.symm))
theorem step_right {x : Lens} {L : List Col} (hL : qdp L) (h : qeh x L) : qdp (oneP x L).1 := by
  obtain ⟨g0, g1, g3, g4, g2⟩ := step_len h
  have hl0 := hL.l0
  have hl1 := hL.l1
  cases h
  case add ho ha hn hl hR hu hv =>
    have hk := rightV_k hv
    have hlen := g0 ho
    rw [hR] at hlen ⊢
    refine ⟨fun c hc => ?_, ?_, by omega, by omega⟩
    · rcases List.mem_append.1 hc with h | h
      · exact hL.cols c h
      · rw [List.mem_singleton] at h; subst h
        refine ⟨ha, hk.1, hk.2, ?_⟩
        unfold unitP
        rcases hu with hu | ⟨hu, hk0⟩
        · simp [hu]
        · unfold nam at hu; simp [hu, hk0]
    · unfold qbj
      rw [List.map_append]
      show Apart (qbj L ++ [x.a.toList])
      exact apart_snoc hL.names fun j hj e => find_no hn (i := j) (by have := names_len L; omega) (by rw [qgl] at e; exact e)
  case drop i hi ho h hk hl hR hv =>
    have hlen := g1 ho
    rw [hR] at hlen ⊢
    exact ⟨fun c hc => hL.cols c (List.mem_of_mem_eraseIdx hc), by rw [names_erase]; exact apart_erase hL.names i, by omega, by omega⟩
  case rename i hi ho h hb hb2 hR =>
    have hlen := g2 (.inl ho)
    have hc := hL.cols _ (List.getElem_mem hi)
    rw [hR] at hlen ⊢
    refine ⟨ColOk.set hL.cols ⟨hb, hc.k0, hc.k1, hc.unit⟩, ?_, by omega, by omega⟩
    rw [names_set]
    exact apart_set hL.names fun j hj _ => by rw [qgl]; exact find_no hb2 _
  case split i hi ho h hk hb hc hs hbc hb2 hc2 hl hR =>
    have hlen := g3 ho
    have hob := other_ne h hL.names hb2
    have hoc := other_ne h hL.names hc2
    rw [hR] at hlen ⊢
    refine ⟨fun c hm => ?_, ?_, by omega, by omega⟩
    · rcases List.mem_append.1 hm with hm | hm
      · rcases List.mem_append.1 hm with hm | hm
        · exact hL.cols c (List.mem_of_mem_take hm)
        · simp only [List.mem_cons, List.not_mem_nil, or_false] at hm
          rcases hm with rfl | rfl
          · exact ⟨hb, by show (0 : Int) ≤ 1; decide, by show (1 : Int) < 3; decide, unit_no⟩
          · exact ⟨hc, by show (0 : Int) ≤ 1; decide, by show (1 : Int) < 3; decide, unit_no⟩
      · exact hL.cols c (List.mem_of_mem_drop hm)
    · have hn := apart_nodup.1 hL.names
      have e : qbj (L.take i ++ [⟨x.b, 1, ⟨#[]⟩⟩, ⟨x.c, 1, ⟨#[]⟩⟩] ++ L.drop (i + 1)) = (qbj L).take i ++ [x.b.toList, x.c.toList] ++ (qbj L).drop (i + 1) := by unfold qbj; simp
      have h1 : ∀ s, (∀ j (hj : j < L.length), j ≠ i → L[j].name.toList ≠ s) → s ∉ (qbj L).take i ∧ s ∉ (qbj L).drop (i + 1) := fun s hs => by
        constructor
        · intro hm
          obtain ⟨j, hj, e⟩ := List.mem_iff_getElem.1 hm
          rw [List.length_take] at hj
          rw [List.getElem_take, qgl] at e
          exact hs j (by omega) (by omega) e
        · intro hm
          obtain ⟨j, hj, e⟩ := List.mem_iff_getElem.1 hm
          have hj' : i + 1 + j < L.length := by simp [qbj] at hj; omega
          rw [List.getElem_drop, qgl] at e
          exact hs (i + 1 + j) hj' (by omega) e
      obtain ⟨b1, b2⟩ := h1 _ hob
      obtain ⟨c1, c2⟩ := h1 _ hoc
      have hsplit : (qbj L).take i ++ (qbj L).drop (i + 1) = (qbj L).eraseIdx i := by rw [List.eraseIdx_eq_take_drop_succ]
      have hne := apart_nodup.1 (apart_erase hL.names i)
      rw [← hsplit, List.nodup_append] at hne
      obtain ⟨n1, n2, n3⟩ := hne
      rw [e, apart_nodup, List.nodup_append, List.nodup_append]
      refine ⟨⟨n1, by simp [hbc], ?_⟩, n2, ?_⟩
      · intro a ha b hb e
        subst e
        simp only [List.mem_cons, List.not_mem_nil, or_false] at hb
        rcases hb with rfl | rfl
        · exact b1 ha
        · exact c1 ha
      · intro a ha b hb e
        subst e
        rcases List.mem_append.1 ha with ha | ha
        · exact n3 a ha a hb rfl
        · simp only [List.mem_cons, List.not_mem_nil, or_false] at ha
          rcases ha with rfl | rfl
          · exact b2 hb
          · exact c2 hb
  case join i k hi hk ho h hkf hkn hik ti tk hc hs hc2 hR =>
    have hlen := g4 ho
    have hci := hL.cols _ (List.getElem_mem hi)
    rw [hR] at hlen ⊢
    refine ⟨fun c hm => ColOk.set (c := ⟨x.c, L[i].type, L[i].unit⟩) hL.cols ⟨hc, hci.k0, hci.k1, hci.unit⟩ c (List.mem_of_mem_eraseIdx hm), ?_, ?_, by omega⟩
    · rw [names_erase, names_set]
      refine fun p q hp hq e => ?_
      have hlen2 : (qbj L).length = L.length := by simp [qbj]
      rw [List.getElem_eraseIdx, List.getElem_eraseIdx] at e
      have key : ∀ u v (hu : u < ((qbj L).set i x.c.toList).length) (hv : v < ((qbj L).set i x.c.toList).length), u ≠ k → v ≠ k → ((qbj L).set i x.c.toList)[u] = ((qbj L).set i x.c.toList)[v] → u = v := fun u v hu hv huk hvk e => by
        rw [List.length_set, hlen2] at hu hv
        rw [List.getElem_set, List.getElem_set] at e
        have no : ∀ w (hw : w < L.length), w ≠ i → w ≠ k → L[w].name.toList ≠ x.c.toList := fun w hw hwi hwk ew => by
          rcases hc2 with h1 | h1 | h1
          · exact find_no h1 hw ew
          · exact hwi (hL.names.pre (f := fun c : Col => c.name.toList) hw hi (ew.trans (h1.trans h.name.symm)))
          · exact hwk (hL.names.pre (f := fun c : Col => c.name.toList) hw hk (ew.trans (h1.trans hkn.symm)))
        split at e <;> split at e
        · omega
        · rw [qgl] at e; exact absurd e.symm (no v hv (by omega) hvk)
        · rw [qgl] at e; exact absurd e (no u hu (by omega) huk)
        · exact hL.names u v (by omega) (by omega) e
      have hpl : p < L.length - 1 := by rw [List.length_eraseIdx_of_lt (by rw [List.length_set, hlen2]; exact hk), List.length_set, hlen2] at hp; exact hp
      have hql : q < L.length - 1 := by rw [List.length_eraseIdx_of_lt (by rw [List.length_set, hlen2]; exact hk), List.length_set, hlen2] at hq; exact hq
      split at e <;> split at e
      · exact key _ _ _ _ (by omega) (by omega) e
      · have := key _ _ _ _ (by omega) (by omega) e; omega
      · have := key _ _ _ _ (by omega) (by omega) e; omega
      · have := key _ _ _ _ (by omega) (by omega) e; omega
    · have : i < L.length := hi
      omega
  case retype i hi ho h hn0 hn3 hv hk ht hR =>
    have hlen := g2 (.inr (.inl ho))
    have hc := hL.cols _ (List.getElem_mem hi)
    rw [hR] at hlen ⊢
    exact ⟨ColOk.set hL.cols ⟨hc.name, hn0, hn3, unit_no⟩, by rw [names_same (c := ⟨L[i].name, x.n, ⟨#[]⟩⟩) hi rfl]; exact hL.names, by omega, by omega⟩
  case scale i hi ho h ht hn hu hR =>
    have hlen := g2 (.inr (.inr ho))
    have hc := hL.cols _ (List.getElem_mem hi)
    rw [hR] at hlen ⊢
    refine ⟨ColOk.set hL.cols ⟨hc.name, hc.k0, hc.k1, ?_⟩, by rw [names_same (c := ⟨L[i].name, L[i].type, x.b⟩) hi rfl]; exact hL.names, by omega, by omega⟩
    unfold unitP
    rcases hu with hu | hu
    · simp [hu]
    · unfold nam at hu; simp [hu, ht]
end Go.Proofs.YtbkkjlcclddpdaaGreatDoor

/- Walks of layer 14's reference: One, To. -/
namespace Go.Proofs.YtbkkjlcclddpdaaGreatDoor
open Go.RowKit Go.Lib
theorem qba {x : Lens} {k : Int} (ho : x.op = k) : (x.op == 0) = (k == 0) ∧ (x.op == 1) = (k == 1) ∧ (x.op == 2) = (k == 2) ∧ (x.op == 3) = (k == 3) ∧ (x.op == 4) = (k == 4) ∧ (x.op == 5) = (k == 5) ∧ (x.op == 6) = (k == 6) := by subst ho; exact ⟨rfl, rfl, rfl, rfl, rfl, rfl, rfl⟩
theorem set_td {α : Type} {l : List α} {i : Nat} {a : α} (h : i < l.length) : l.take i ++ [a] ++ l.drop (i + 1) = l.set i a := by
  rw [List.set_eq_take_append_cons_drop, if_pos h]; simp
theorem erase_td {α : Type} (l : List α) (i : Nat) : l.take i ++ [] ++ l.drop (i + 1) = l.eraseIdx i := by rw [List.append_nil, List.eraseIdx_eq_take_drop_succ]
theorem unit_text {c : Col} (h : ColOk c) (ht : c.type = 1) : c.unit = ⟨#[]⟩ := by
  have := h.unit
  unfold unitP at this
  rw [ht] at this
  simp at this
  rw [ByteArray.toList_eq] at this
  exact bA_eq this
set_option maxRecDepth 4000 in
set_option maxHeartbeats 8000000 in
theorem rone_g (x : Lens) (cols : List Col) (hx : qbq x) (hS : qdp cols) : Gives Tryz.prog 19 [x.av, .sl (cols.map Col.av)] (.tup [.sl ((oneP x cols).1.map Col.av), .int (oneP x cols).2]) := by
  have l0 := hS.l0
  have l1 := hS.l1
  have c1 := rlright_g x hx
  have c2 := qem cols x.a (by omega)
  have c3 := qem cols x.b (by omega)
  have c4 := rtaken_g cols x.b x.a x.a (by omega)
  have c5 := rtaken_g cols x.c x.a x.a (by omega)
  have c6 := rtaken_g cols x.c x.a x.b (by omega)
  rw [takenB_two] at c4 c5
  obtain ⟨R, hR⟩ : ∃ R, oneP x cols = R := ⟨_, rfl⟩
  rw [hR]
  unfold oneP at hR
  cases hr : qbz x with
  | false =>
    rw [hr] at c1 hR
    rw [if_pos rfl] at hR
    refine qh Tryz.func19 Tryz.ntmps19 fun σ n0 hcl hft => ?_
    repeat' (first | ((first | ((with_reducible refine qf (fun hg => ?_) (fun hg => ?_)) <;> (try simp only [hg]) <;> (try simp only [gS] at hg) <;> (try (first | simp only [eq_false hg, gI] | simp only [eq_true hg, gI]))) | refine Stp.m ?_ | refine qi ?_ | refine agH ?_) <;> (try simp (disch := first | omega | simp) [qd, -qg, -ql])) | refine sideA ?_ | refine qc fun K hK => ?_ | refine qa ?_ | refine qe ?_ | refine qb ?_ | (refine hK _ ?_; clear hK K) | clear hK K)
    all_goals (subst hR; simp)
  | true =>
    rw [hr] at c1 hR
    simp only [Bool.true_eq_false, if_false] at hR
    by_cases h0 : x.op = 0
    · rw [if_pos h0] at hR
      by_cases hi : 0 ≤ findP cols x.a.toList
      · rw [if_pos hi] at hR
        refine qh Tryz.func19 Tryz.ntmps19 fun σ n0 hcl hft => ?_
        repeat' (first | ((first | ((with_reducible refine qf (fun hg => ?_) (fun hg => ?_)) <;> (try simp only [hg]) <;> (try simp only [gS] at hg) <;> (try (first | simp only [eq_false hg, gI] | simp only [eq_true hg, gI]))) | refine Stp.m ?_ | refine qi ?_ | refine agH ?_) <;> (try simp (disch := first | omega | simp) [qd, -qg, -ql, qba h0, hi])) | refine sideA ?_ | refine qc fun K hK => ?_ | refine qa ?_ | refine qe ?_ | refine qb ?_ | (refine hK _ ?_; clear hK K) | clear hK K)
        all_goals (subst hR; simp)
      · rw [if_neg hi] at hR
        by_cases hl : 12 ≤ cols.length
        · have hl' : (12 : Int) ≤ cols.length := by omega
          rw [if_pos hl] at hR
          refine qh Tryz.func19 Tryz.ntmps19 fun σ n0 hcl hft => ?_
          repeat' (first | ((first | ((with_reducible refine qf (fun hg => ?_) (fun hg => ?_)) <;> (try simp only [hg]) <;> (try simp only [gS] at hg) <;> (try (first | simp only [eq_false hg, gI] | simp only [eq_true hg, gI]))) | refine Stp.m ?_ | refine qi ?_ | refine agH ?_) <;> (try simp (disch := first | omega | simp) [qd, -qg, -ql, qba h0, hi, hl'])) | refine sideA ?_ | refine qc fun K hK => ?_ | refine qa ?_ | refine qe ?_ | refine qb ?_ | (refine hK _ ?_; clear hK K) | clear hK K)
          all_goals (subst hR; simp)
        · have hl' : ¬ (12 : Int) ≤ cols.length := by omega
          rw [if_neg hl] at hR
          have cw := rwith_g cols [⟨x.a, x.value.k, x.b⟩] cols.length cols.length (Nat.le_refl _) (Nat.le_refl _) (by omega) (by show 1 ≤ 1000; omega) (cols ++ [⟨x.a, x.value.k, x.b⟩]) (by rw [List.take_length, List.drop_length, List.append_nil])
          refine qh Tryz.func19 Tryz.ntmps19 fun σ n0 hcl hft => ?_
          repeat' (first | ((first | ((with_reducible refine qf (fun hg => ?_) (fun hg => ?_)) <;> (try simp only [hg]) <;> (try simp only [gS] at hg) <;> (try (first | simp only [eq_false hg, gI] | simp only [eq_true hg, gI]))) | refine Stp.m ?_ | refine qi ?_ | refine agH ?_) <;> (try simp (disch := first | omega | simp) [qd, -qg, -ql, qba h0, hi, hl'])) | refine sideA ?_ | refine qc fun K hK => ?_ | refine qa ?_ | refine qe ?_ | refine qb ?_ | (refine hK _ ?_; clear hK K) | clear hK K)
          all_goals (subst hR; simp)
    · rw [if_neg h0] at hR
      by_cases hi : 0 ≤ findP cols x.a.toList
      · obtain ⟨i, hi1, hi2, hin⟩ := findI hi
        have hci := qbu hi2
        have hni : ¬ (i : Int) < 0 := by omega
        have hcast : ((i + 1 : Nat) : Int) = (i : Int) + 1 := by simp
        rw [hi1] at c2 hR
        have cs := fun (a : Col) => rwith_g cols [a] i (i + 1) (by omega) (by omega) (by omega) (by show 1 ≤ 1000; omega) (cols.set i a) (set_td hi2)
        simp only [hcast] at cs
        have en : ((i : Int)).toNat = i := by omega
        rw [en] at hR
        unfold qcx nextP at hR
        rw [hci] at hR
        rcases right_op hr with ho | ho | ho | ho | ho | ho | ho
        · exact absurd ho h0
        · simp only [ho, Int.reduceEq, reduceIte, hni, false_and, or_self] at hR
          have cn := rwith_g cols [] i (i + 1) (by omega) (by omega) (by omega) (by show 0 ≤ 1000; omega) _ (erase_td cols i)
          rw [hcast] at cn
          by_cases ht : cols[i].type = x.value.k
          · have ht' : (cols[i].type != x.value.k) = false := by simp [ht]
            by_cases hl : cols.length < 2
            · have hl' : (cols.length : Int) < 2 := by omega
              simp [ht, hl] at hR
              refine qh Tryz.func19 Tryz.ntmps19 fun σ n0 hcl hft => ?_
              repeat' (first | ((first | ((with_reducible refine qf (fun hg => ?_) (fun hg => ?_)) <;> (try simp only [hg]) <;> (try simp only [gS] at hg) <;> (try (first | simp only [eq_false hg, gI] | simp only [eq_true hg, gI]))) | refine Stp.m ?_ | refine qi ?_ | refine agH ?_) <;> (try simp (disch := first | omega | simp) [qd, -qg, -ql, qba ho, hni, hi2, ht', hl'])) | refine sideA ?_ | refine qc fun K hK => ?_ | refine qa ?_ | refine qe ?_ | refine qb ?_ | (refine hK _ ?_; clear hK K) | clear hK K)
              all_goals (subst hR; simp)
            · have hl' : ¬ (cols.length : Int) < 2 := by omega
              simp [ht, hl] at hR
              refine qh Tryz.func19 Tryz.ntmps19 fun σ n0 hcl hft => ?_
              repeat' (first | ((first | ((with_reducible refine qf (fun hg => ?_) (fun hg => ?_)) <;> (try simp only [hg]) <;> (try simp only [gS] at hg) <;> (try (first | simp only [eq_false hg, gI] | simp only [eq_true hg, gI]))) | refine Stp.m ?_ | refine qi ?_ | refine agH ?_) <;> (try simp (disch := first | omega | simp) [qd, -qg, -ql, qba ho, hni, hi2, ht', hl'])) | refine sideA ?_ | refine qc fun K hK => ?_ | refine qa ?_ | refine qe ?_ | refine qb ?_ | (refine hK _ ?_; clear hK K) | clear hK K)
              all_goals (subst hR; simp)
          · have ht' : (cols[i].type != x.value.k) = true := by simp [ht]
            simp [ht] at hR
            refine qh Tryz.func19 Tryz.ntmps19 fun σ n0 hcl hft => ?_
            repeat' (first | ((first | ((with_reducible refine qf (fun hg => ?_) (fun hg => ?_)) <;> (try simp only [hg]) <;> (try simp only [gS] at hg) <;> (try (first | simp only [eq_false hg, gI] | simp only [eq_true hg, gI]))) | refine Stp.m ?_ | refine qi ?_ | refine agH ?_) <;> (try simp (disch := first | omega | simp) [qd, -qg, -ql, qba ho, hni, hi2, ht'])) | refine sideA ?_ | refine qc fun K hK => ?_ | refine qa ?_ | refine qe ?_ | refine qb ?_ | (refine hK _ ?_; clear hK K) | clear hK K)
            all_goals (subst hR; simp)
        · simp only [ho, Int.reduceEq, reduceIte, hni, false_and, or_self] at hR
          have c7 := cs ⟨x.b, cols[i].type, cols[i].unit⟩
          by_cases hb : 0 ≤ findP cols x.b.toList
          · simp [takenB_nil, hb] at hR
            refine qh Tryz.func19 Tryz.ntmps19 fun σ n0 hcl hft => ?_
            repeat' (first | ((first | ((with_reducible refine qf (fun hg => ?_) (fun hg => ?_)) <;> (try simp only [hg]) <;> (try simp only [gS] at hg) <;> (try (first | simp only [eq_false hg, gI] | simp only [eq_true hg, gI]))) | refine Stp.m ?_ | refine qi ?_ | refine agH ?_) <;> (try simp (disch := first | omega | simp) [qd, -qg, -ql, qba ho, hni, hi2, hb])) | refine sideA ?_ | refine qc fun K hK => ?_ | refine qa ?_ | refine qe ?_ | refine qb ?_ | (refine hK _ ?_; clear hK K) | clear hK K)
            all_goals (subst hR; simp)
          · simp [takenB_nil, hb] at hR
            refine qh Tryz.func19 Tryz.ntmps19 fun σ n0 hcl hft => ?_
            repeat' (first | ((first | ((with_reducible refine qf (fun hg => ?_) (fun hg => ?_)) <;> (try simp only [hg]) <;> (try simp only [gS] at hg) <;> (try (first | simp only [eq_false hg, gI] | simp only [eq_true hg, gI]))) | refine Stp.m ?_ | refine qi ?_ | refine agH ?_) <;> (try simp (disch := first | omega | simp) [qd, -qg, -ql, qba ho, hni, hi2, hb])) | refine sideA ?_ | refine qc fun K hK => ?_ | refine qa ?_ | refine qe ?_ | refine qb ?_ | (refine hK _ ?_; clear hK K) | clear hK K)
            all_goals (subst hR; simp)
        · simp only [ho, Int.reduceEq, reduceIte, hni, false_and, or_self] at hR
          have c7 := rwith_g cols [⟨x.b, 1, ⟨#[]⟩⟩, ⟨x.c, 1, ⟨#[]⟩⟩] i (i + 1) (by omega) (by omega) (by omega) (by show 2 ≤ 1000; omega) _ rfl
          rw [hcast] at c7
          by_cases ht : cols[i].type = 1
          · have ht' : (cols[i].type != 1) = false := by simp [ht]
            by_cases hbc : x.b.toList = x.c.toList
            · simp [ht, hbc] at hR
              refine qh Tryz.func19 Tryz.ntmps19 fun σ n0 hcl hft => ?_
              repeat' (first | ((first | ((with_reducible refine qf (fun hg => ?_) (fun hg => ?_)) <;> (try simp only [hg]) <;> (try simp only [gS] at hg) <;> (try (first | simp only [eq_false hg, gI] | simp only [eq_true hg, gI]))) | refine Stp.m ?_ | refine qi ?_ | refine agH ?_) <;> (try simp (disch := first | omega | simp) [qd, -qg, -ql, qba ho, hni, hi2, ht', hbc])) | refine sideA ?_ | refine qc fun K hK => ?_ | refine qa ?_ | refine qe ?_ | refine qb ?_ | (refine hK _ ?_; clear hK K) | clear hK K)
              all_goals (subst hR; simp)
            · have hbc' : (x.b.toList == x.c.toList) = false := by simpa using hbc
              cases hk1 : qdw cols x.b.toList [x.a.toList] with
              | true =>
                rw [hk1] at c4
                simp [ht, hk1] at hR
                refine qh Tryz.func19 Tryz.ntmps19 fun σ n0 hcl hft => ?_
                repeat' (first | ((first | ((with_reducible refine qf (fun hg => ?_) (fun hg => ?_)) <;> (try simp only [hg]) <;> (try simp only [gS] at hg) <;> (try (first | simp only [eq_false hg, gI] | simp only [eq_true hg, gI]))) | refine Stp.m ?_ | refine qi ?_ | refine agH ?_) <;> (try simp (disch := first | omega | simp) [qd, -qg, -ql, qba ho, hni, hi2, ht', hbc'])) | refine sideA ?_ | refine qc fun K hK => ?_ | refine qa ?_ | refine qe ?_ | refine qb ?_ | (refine hK _ ?_; clear hK K) | clear hK K)
                all_goals (subst hR; simp)
              | false =>
                rw [hk1] at c4
                cases hk2 : qdw cols x.c.toList [x.a.toList] with
                | true =>
                  rw [hk2] at c5
                  simp [ht, hk2] at hR
                  refine qh Tryz.func19 Tryz.ntmps19 fun σ n0 hcl hft => ?_
                  repeat' (first | ((first | ((with_reducible refine qf (fun hg => ?_) (fun hg => ?_)) <;> (try simp only [hg]) <;> (try simp only [gS] at hg) <;> (try (first | simp only [eq_false hg, gI] | simp only [eq_true hg, gI]))) | refine Stp.m ?_ | refine qi ?_ | refine agH ?_) <;> (try simp (disch := first | omega | simp) [qd, -qg, -ql, qba ho, hni, hi2, ht', hbc'])) | refine sideA ?_ | refine qc fun K hK => ?_ | refine qa ?_ | refine qe ?_ | refine qb ?_ | (refine hK _ ?_; clear hK K) | clear hK K)
                  all_goals (subst hR; simp)
                | false =>
                  rw [hk2] at c5
                  by_cases hl : 12 ≤ cols.length
                  · have hl' : (12 : Int) ≤ cols.length := by omega
                    simp [ht, hbc, hk1, hk2, hl] at hR
                    refine qh Tryz.func19 Tryz.ntmps19 fun σ n0 hcl hft => ?_
                    repeat' (first | ((first | ((with_reducible refine qf (fun hg => ?_) (fun hg => ?_)) <;> (try simp only [hg]) <;> (try simp only [gS] at hg) <;> (try (first | simp only [eq_false hg, gI] | simp only [eq_true hg, gI]))) | refine Stp.m ?_ | refine qi ?_ | refine agH ?_) <;> (try simp (disch := first | omega | simp) [qd, -qg, -ql, qba ho, hni, hi2, ht', hbc', hl'])) | refine sideA ?_ | refine qc fun K hK => ?_ | refine qa ?_ | refine qe ?_ | refine qb ?_ | (refine hK _ ?_; clear hK K) | clear hK K)
                    all_goals (subst hR; simp)
                  · have hl' : ¬ (12 : Int) ≤ cols.length := by omega
                    simp [ht, hbc, hk1, hk2, hl] at hR
                    refine qh Tryz.func19 Tryz.ntmps19 fun σ n0 hcl hft => ?_
                    repeat' (first | ((first | ((with_reducible refine qf (fun hg => ?_) (fun hg => ?_)) <;> (try simp only [hg]) <;> (try simp only [gS] at hg) <;> (try (first | simp only [eq_false hg, gI] | simp only [eq_true hg, gI]))) | refine Stp.m ?_ | refine qi ?_ | refine agH ?_) <;> (try simp (disch := first | omega | simp) [qd, -qg, -ql, qba ho, hni, hi2, ht', hbc', hl'])) | refine sideA ?_ | refine qc fun K hK => ?_ | refine qa ?_ | refine qe ?_ | refine qb ?_ | (refine hK _ ?_; clear hK K) | clear hK K)
                    all_goals (subst hR; simp)
          · have ht' : (cols[i].type != 1) = true := by simp [ht]
            simp [ht] at hR
            refine qh Tryz.func19 Tryz.ntmps19 fun σ n0 hcl hft => ?_
            repeat' (first | ((first | ((with_reducible refine qf (fun hg => ?_) (fun hg => ?_)) <;> (try simp only [hg]) <;> (try simp only [gS] at hg) <;> (try (first | simp only [eq_false hg, gI] | simp only [eq_true hg, gI]))) | refine Stp.m ?_ | refine qi ?_ | refine agH ?_) <;> (try simp (disch := first | omega | simp) [qd, -qg, -ql, qba ho, hni, hi2, ht'])) | refine sideA ?_ | refine qc fun K hK => ?_ | refine qa ?_ | refine qe ?_ | refine qb ?_ | (refine hK _ ?_; clear hK K) | clear hK K)
            all_goals (subst hR; simp)
        · by_cases hb : 0 ≤ findP cols x.b.toList
          · obtain ⟨k, hk1, hk2, hkn⟩ := findI hb
            have hck := qbu hk2
            have hnk : ¬ (k : Int) < 0 := by omega
            have enk : ((k : Int)).toNat = k := by omega
            rw [hk1] at c3 hR
            rw [enk] at hR
            rw [hck] at hR
            simp only [ho, Int.reduceEq, reduceIte, hni, hnk, and_false, or_self] at hR
            have hkast : ((k + 1 : Nat) : Int) = (k : Int) + 1 := by simp
            by_cases ht : cols[i].type = 1
            · have ht' : (cols[i].type != 1) = false := by simp [ht]
              have hu := unit_text (hS.cols _ (List.getElem_mem hi2)) ht
              have c7 := cs ⟨x.c, 1, ⟨#[]⟩⟩
              obtain ⟨L1, hL1⟩ : ∃ L1, cols.set i ⟨x.c, 1, ⟨#[]⟩⟩ = L1 := ⟨_, rfl⟩
              have hl1 : L1.length = cols.length := by rw [← hL1, List.length_set]
              rw [hL1] at c7
              have c8 := rwith_g L1 [] k (k + 1) (by omega) (by omega) (by omega) (by show 0 ≤ 1000; omega) _ (erase_td _ k)
              rw [hkast] at c8
              by_cases tk : cols[k].type = 1
              · have tk' : (cols[k].type != 1) = false := by simp [tk]
                cases hk3 : qdw cols x.c.toList [x.a.toList, x.b.toList] with
                | true =>
                  rw [hk3] at c6
                  simp [ht, tk, hk3] at hR
                  refine qh Tryz.func19 Tryz.ntmps19 fun σ n0 hcl hft => ?_
                  repeat' (first | ((first | ((with_reducible refine qf (fun hg => ?_) (fun hg => ?_)) <;> (try simp only [hg]) <;> (try simp only [gS] at hg) <;> (try (first | simp only [eq_false hg, gI] | simp only [eq_true hg, gI]))) | refine Stp.m ?_ | refine qi ?_ | refine agH ?_) <;> (try simp (disch := first | omega | simp) [qd, -qg, -ql, qba ho, hni, hnk, hi2, hk2, ht', tk'])) | refine sideA ?_ | refine qc fun K hK => ?_ | refine qa ?_ | refine qe ?_ | refine qb ?_ | (refine hK _ ?_; clear hK K) | clear hK K)
                  all_goals (subst hR; simp)
                | false =>
                  rw [hk3] at c6
                  simp [ht, tk, hk3, hu, hL1] at hR
                  refine qh Tryz.func19 Tryz.ntmps19 fun σ n0 hcl hft => ?_
                  repeat' (first | ((first | ((with_reducible refine qf (fun hg => ?_) (fun hg => ?_)) <;> (try simp only [hg]) <;> (try simp only [gS] at hg) <;> (try (first | simp only [eq_false hg, gI] | simp only [eq_true hg, gI]))) | refine Stp.m ?_ | refine qi ?_ | refine agH ?_) <;> (try simp (disch := first | omega | simp) [qd, -qg, -ql, qba ho, hni, hnk, hi2, hk2, ht', tk'])) | refine sideA ?_ | refine qc fun K hK => ?_ | refine qa ?_ | refine qe ?_ | refine qb ?_ | (refine hK _ ?_; clear hK K) | clear hK K)
                  all_goals (subst hR; simp)
              · have tk' : (cols[k].type != 1) = true := by simp [tk]
                simp [ht, tk] at hR
                refine qh Tryz.func19 Tryz.ntmps19 fun σ n0 hcl hft => ?_
                repeat' (first | ((first | ((with_reducible refine qf (fun hg => ?_) (fun hg => ?_)) <;> (try simp only [hg]) <;> (try simp only [gS] at hg) <;> (try (first | simp only [eq_false hg, gI] | simp only [eq_true hg, gI]))) | refine Stp.m ?_ | refine qi ?_ | refine agH ?_) <;> (try simp (disch := first | omega | simp) [qd, -qg, -ql, qba ho, hni, hnk, hi2, hk2, ht', tk'])) | refine sideA ?_ | refine qc fun K hK => ?_ | refine qa ?_ | refine qe ?_ | refine qb ?_ | (refine hK _ ?_; clear hK K) | clear hK K)
                all_goals (subst hR; simp)
            · have ht' : (cols[i].type != 1) = true := by simp [ht]
              simp [ht] at hR
              refine qh Tryz.func19 Tryz.ntmps19 fun σ n0 hcl hft => ?_
              repeat' (first | ((first | ((with_reducible refine qf (fun hg => ?_) (fun hg => ?_)) <;> (try simp only [hg]) <;> (try simp only [gS] at hg) <;> (try (first | simp only [eq_false hg, gI] | simp only [eq_true hg, gI]))) | refine Stp.m ?_ | refine qi ?_ | refine agH ?_) <;> (try simp (disch := first | omega | simp) [qd, -qg, -ql, qba ho, hni, hnk, hi2, hk2, ht'])) | refine sideA ?_ | refine qc fun K hK => ?_ | refine qa ?_ | refine qe ?_ | refine qb ?_ | (refine hK _ ?_; clear hK K) | clear hK K)
              all_goals (subst hR; simp)
          · have hb' : findP cols x.b.toList < 0 := by omega
            rw [if_pos (.inr ⟨ho, hb'⟩)] at hR
            refine qh Tryz.func19 Tryz.ntmps19 fun σ n0 hcl hft => ?_
            repeat' (first | ((first | ((with_reducible refine qf (fun hg => ?_) (fun hg => ?_)) <;> (try simp only [hg]) <;> (try simp only [gS] at hg) <;> (try (first | simp only [eq_false hg, gI] | simp only [eq_true hg, gI]))) | refine Stp.m ?_ | refine qi ?_ | refine agH ?_) <;> (try simp (disch := first | omega | simp) [qd, -qg, -ql, qba ho, hni, hb'])) | refine sideA ?_ | refine qc fun K hK => ?_ | refine qa ?_ | refine qe ?_ | refine qb ?_ | (refine hK _ ?_; clear hK K) | clear hK K)
            all_goals (subst hR; simp)
        · simp only [ho, Int.reduceEq, reduceIte, hni, false_and, or_self] at hR
          have hna : cols[i].name = x.a := WideShapes.bytes_inj (by rw [← ByteArray.toList_eq, ← ByteArray.toList_eq]; exact hin)
          have c7 := cs ⟨x.a, x.n, ⟨#[]⟩⟩
          by_cases ht : cols[i].type = x.n
          · have ht' : (cols[i].type == x.n) = true := by simp [ht]
            simp [ht] at hR
            refine qh Tryz.func19 Tryz.ntmps19 fun σ n0 hcl hft => ?_
            repeat' (first | ((first | ((with_reducible refine qf (fun hg => ?_) (fun hg => ?_)) <;> (try simp only [hg]) <;> (try simp only [gS] at hg) <;> (try (first | simp only [eq_false hg, gI] | simp only [eq_true hg, gI]))) | refine Stp.m ?_ | refine qi ?_ | refine agH ?_) <;> (try simp (disch := first | omega | simp) [qd, -qg, -ql, qba ho, hni, hi2, ht'])) | refine sideA ?_ | refine qc fun K hK => ?_ | refine qa ?_ | refine qe ?_ | refine qb ?_ | (refine hK _ ?_; clear hK K) | clear hK K)
            all_goals (subst hR; simp)
          · have ht' : (cols[i].type == x.n) = false := by simp [ht]
            simp [ht, hna] at hR
            refine qh Tryz.func19 Tryz.ntmps19 fun σ n0 hcl hft => ?_
            repeat' (first | ((first | ((with_reducible refine qf (fun hg => ?_) (fun hg => ?_)) <;> (try simp only [hg]) <;> (try simp only [gS] at hg) <;> (try (first | simp only [eq_false hg, gI] | simp only [eq_true hg, gI]))) | refine Stp.m ?_ | refine qi ?_ | refine agH ?_) <;> (try simp (disch := first | omega | simp) [qd, -qg, -ql, qba ho, hni, hi2, ht'])) | refine sideA ?_ | refine qc fun K hK => ?_ | refine qa ?_ | refine qe ?_ | refine qb ?_ | (refine hK _ ?_; clear hK K) | clear hK K)
            all_goals (subst hR; simp)
        · simp only [ho, Int.reduceEq, reduceIte, hni, false_and, or_self] at hR
          have hna : cols[i].name = x.a := WideShapes.bytes_inj (by rw [← ByteArray.toList_eq, ← ByteArray.toList_eq]; exact hin)
          have c7 := cs ⟨x.a, 0, x.b⟩
          by_cases ht : cols[i].type = 0
          · have ht' : (cols[i].type != 0) = false := by simp [ht]
            simp [ht, hna] at hR
            refine qh Tryz.func19 Tryz.ntmps19 fun σ n0 hcl hft => ?_
            repeat' (first | ((first | ((with_reducible refine qf (fun hg => ?_) (fun hg => ?_)) <;> (try simp only [hg]) <;> (try simp only [gS] at hg) <;> (try (first | simp only [eq_false hg, gI] | simp only [eq_true hg, gI]))) | refine Stp.m ?_ | refine qi ?_ | refine agH ?_) <;> (try simp (disch := first | omega | simp) [qd, -qg, -ql, qba ho, hni, hi2, ht'])) | refine sideA ?_ | refine qc fun K hK => ?_ | refine qa ?_ | refine qe ?_ | refine qb ?_ | (refine hK _ ?_; clear hK K) | clear hK K)
            all_goals (subst hR; simp)
          · have ht' : (cols[i].type != 0) = true := by simp [ht]
            simp [ht] at hR
            refine qh Tryz.func19 Tryz.ntmps19 fun σ n0 hcl hft => ?_
            repeat' (first | ((first | ((with_reducible refine qf (fun hg => ?_) (fun hg => ?_)) <;> (try simp only [hg]) <;> (try simp only [gS] at hg) <;> (try (first | simp only [eq_false hg, gI] | simp only [eq_true hg, gI]))) | refine Stp.m ?_ | refine qi ?_ | refine agH ?_) <;> (try simp (disch := first | omega | simp) [qd, -qg, -ql, qba ho, hni, hi2, ht'])) | refine sideA ?_ | refine qc fun K hK => ?_ | refine qa ?_ | refine qe ?_ | refine qb ?_ | (refine hK _ ?_; clear hK K) | clear hK K)
            all_goals (subst hR; simp)
      · have hi' : findP cols x.a.toList < 0 := by omega
        have hn0 : (x.op == 0) = false := beq_eq_false_iff_ne.2 h0
        rw [if_pos (.inl hi')] at hR
        refine qh Tryz.func19 Tryz.ntmps19 fun σ n0 hcl hft => ?_
        repeat' (first | ((first | ((with_reducible refine qf (fun hg => ?_) (fun hg => ?_)) <;> (try simp only [hg]) <;> (try simp only [gS] at hg) <;> (try (first | simp only [eq_false hg, gI] | simp only [eq_true hg, gI]))) | refine Stp.m ?_ | refine qi ?_ | refine agH ?_) <;> (try simp (disch := first | omega | simp) [qd, -qg, -ql, hn0, hi'])) | refine sideA ?_ | refine qc fun K hK => ?_ | refine qa ?_ | refine qe ?_ | refine qb ?_ | (refine hK _ ?_; clear hK K) | clear hK K)
        all_goals (subst hR; simp)
end Go.Proofs.YtbkkjlcclddpdaaGreatDoor

/- Walk: whether a shape is right, names of any length. -/
namespace Go.Proofs.YtbkkjlcclddpdaaGreatDoor
open Go.RowKit Go.Lib
theorem name_gU (s : ByteArray) : Gives Tryz.prog 68 [.str s] (.bool (nameP s.toList)) := by
  by_cases hs : s.size ≤ 1000000
  · exact name_g s hs
  · have hl := list_size s
    have h0 : s.toList.isEmpty = false := by
      cases h : s.toList with
      | nil => rw [h] at hl; simp at hl; omega
      | cons => rfl
    have h20 : (20 : Int) < s.size := by omega
    rw [nameP_long (s := s.toList) (by omega)]
    refine qh Tryz.func68 Tryz.ntmps68 fun σ n0 hcl hft => ?_
    repeat' (first | ((first | ((with_reducible refine qf (fun hg => ?_) (fun hg => ?_)) <;> (try simp only [hg]) <;> (try simp only [gS] at hg) <;> (try (first | simp only [eq_false hg, gI] | simp only [eq_true hg, gI]))) | refine Stp.m ?_) <;> (try simp (disch := first | omega | simp) [qd, -qg, -ql, h0, h20])) | refine sideA ?_ | refine qc fun K hK => ?_ | refine qa ?_ | refine qe ?_ | refine qb ?_ | (refine hK _ ?_; clear hK K) | clear hK K)
theorem own_gU (s : ByteArray) : Gives Tryz.prog 95 [.str s] (.bool (ownP s.toList)) := by
  refine qh Tryz.func95 Tryz.ntmps95 fun σ n0 hcl hft => ?_
  repeat' (first | ((first | ((with_reducible refine qf (fun hg => ?_) (fun hg => ?_)) <;> (try simp only [hg]) <;> (try simp only [gS] at hg) <;> (try (first | simp only [eq_false hg, gI] | simp only [eq_true hg, gI]))) | refine Stp.m ?_ | refine acall (qdi _) ?_ | refine qo (qdi _) ?_ | refine acall (name_gU _) ?_ | refine qo (name_gU _) ?_) <;> (try simp (disch := first | omega | simp) [qd, -qg, -ql])) | refine sideA ?_ | refine qc fun K hK => ?_ | refine qa ?_ | refine qe ?_ | refine qb ?_ | (refine hK _ ?_; clear hK K) | clear hK K)
  all_goals simp_all [ownP]
set_option maxHeartbeats 2000000 in
theorem wrong_itU (r0 : Nat) (L : List Col) (hL : L.length ≤ 1000000) : Iter Tryz.prog 94 [.ptr r0 0] ((qbn L L.length).map fun i => [AV.int i]) (fun _ σ => σ r0 = .cells [.sl (L.map Col.av)] 35) (fun _ σ => σ) := by
  refine iter_of_awp Tryz.func94 Tryz.ntmps94 rfl rfl rfl fun l S m stop n0 hm hs0 hs1 hI hSc hSf hft hcc hy => ?_
  have hr0 : r0 < n0 := by simpa using hcc
  have hl : ∀ k, k ≤ m → ∀ L', loc (S k) n0 L' r0 = .cells [.sl (L.map Col.av)] 35 := fun k hk L' => by rw [qct _ _ _ _ hr0]; exact hI k hk
  have hml : m ≤ (qbn L L.length).length := by simpa using hm
  have hl0 := hl 0 (by omega)
  repeat' (first | ((first | ((with_reducible refine qf (fun hg => ?_) (fun hg => ?_)) <;> (try simp only [hg]) <;> (try simp only [gS] at hg) <;> (try (first | simp only [eq_false hg, gI] | simp only [eq_true hg, gI]))) | refine Stp.m ?_) <;> (try simp (disch := first | omega | simp) [qd, -qg, -ql, hl0, hr0])) | refine sideA ?_ | refine qc fun K hK => ?_ | refine qa ?_ | refine qe ?_ | refine qb ?_ | (refine hK _ ?_; clear hK K) | clear hK K)
  refine awp_loopS (fun k => S (qbn L k).length) (fun k => [(0, .v (.func (.yield l) #[] #[])), (1, .ptr r0 0), (6, .sl (L.map Col.av)), (7, .int L.length), (8, .int k)]) (fun _ => [])
    (fun k => k ≤ L.length ∧ (qbn L k).length ≤ m ∧ (stop = true → (qbn L k).length < m)) (fun k => L.length - k) 0 (fun k hk r => hSc _ hk.2.1 r) ⟨by omega, by simp [qbn], fun h => by simpa [qbn] using hs1 h⟩ (by simp [leS, qbn]; exact hr0) (hSc 0 (by omega)) fun k ⟨hk, hjm, hjs⟩ => ?_
  have hlk := hl _ hjm
  by_cases hlt : k < L.length
  · have hf := qx (L.take k) L[k].name (by rw [List.length_take]; omega)
    rw [List.map_take] at hf
    cases hok : okC L k L[k] with
    | true =>
      have hw := wrongs_ok hlt hok
      have hc1 := hSc _ hjm
      repeat' (first | ((first | ((with_reducible refine qf (fun hg => ?_) (fun hg => ?_)) <;> (try simp only [hg]) <;> (try simp only [gS] at hg) <;> (try (first | simp only [eq_false hg, gI] | simp only [eq_true hg, gI]))) | refine Stp.m ?_ | refine acall (own_gU _) ?_ | refine qo (own_gU _) ?_ | refine acall (qeg _) ?_ | refine qo (qeg _) ?_ | refine qi ?_ | refine agH ?_) <;> (try simp (disch := first | omega | simp) [qd, -qg, -ql, hlt, hlk, hr0])) | refine sideA ?_ | refine qc fun K hK => ?_ | refine qa ?_ | refine qe ?_ | refine qb ?_ | (refine hK _ ?_; clear hK K) | clear hK K)
      all_goals first
        | exact ⟨hSc _ hjm, k + 1, ⟨by omega, by rw [hw]; exact hjm, by rw [hw]; exact hjs⟩, by omega, by simp [leS, hw, hr0, qd]⟩
        | (exfalso; simp_all [okC, unitP]; done)
    | false =>
      have hw := wrongs_bad hlt hok
      obtain ⟨hj, hjk⟩ := wrongs_get hlt hok
      have hjm2 : (qbn L k).length < m := by
        cases stop with
        | true => exact hjs rfl
        | false => have := hs0 rfl; simp at this; omega
      have hyk := fun L' => hy (qbn L k).length hjm2 (by simpa using hj) L'
      simp only [List.getElem_map, hjk] at hyk
      have hj1 : (qbn L (k + 1)).length = (qbn L k).length + 1 := by rw [hw]; simp
      cases hst : (stop && decide ((qbn L k).length + 1 = m)) with
      | true =>
        rw [hst] at hyk
        have hjm3 : (qbn L k).length + 1 = m := by simp at hst; exact hst.2
        repeat' (first | ((first | ((with_reducible refine qf (fun hg => ?_) (fun hg => ?_)) <;> (try simp only [hg]) <;> (try simp only [gS] at hg) <;> (try (first | simp only [eq_false hg, gI] | simp only [eq_true hg, gI]))) | refine Stp.m ?_ | refine qcu (id := 5) 2 (by rfl) ?_ | refine ayield _ (hyk _) ?_ | refine acall (own_gU _) ?_ | refine qo (own_gU _) ?_ | refine acall (qeg _) ?_ | refine qo (qeg _) ?_ | refine qi ?_ | refine agH ?_) <;> (try simp (disch := first | omega | simp) [qd, -qg, -ql, hlt, hlk, hr0, List.take_succ_cons, List.drop_succ_cons])) | refine sideA ?_ | refine qc fun K hK => ?_ | refine qa ?_ | refine qe ?_ | refine qb ?_ | (refine hK _ ?_; clear hK K) | clear hK K)
        all_goals first
          | exact congrArg S hjm3
          | (exfalso; simp_all [okC, unitP]; done)
      | false =>
        rw [hst] at hyk
        have hjm3 : stop = true → (qbn L k).length + 1 < m := fun h => by
          rw [h, Bool.true_and, decide_eq_false_iff_not] at hst; omega
        repeat' (first | ((first | ((with_reducible refine qf (fun hg => ?_) (fun hg => ?_)) <;> (try simp only [hg]) <;> (try simp only [gS] at hg) <;> (try (first | simp only [eq_false hg, gI] | simp only [eq_true hg, gI]))) | refine Stp.m ?_ | refine qcu (id := 5) 2 (by rfl) ?_ | refine ayield _ (hyk _) ?_ | refine acall (own_gU _) ?_ | refine qo (own_gU _) ?_ | refine acall (qeg _) ?_ | refine qo (qeg _) ?_ | refine qi ?_ | refine agH ?_) <;> (try simp (disch := first | omega | simp) [qd, -qg, -ql, hlt, hlk, hr0, List.take_succ_cons, List.drop_succ_cons])) | refine sideA ?_ | refine qc fun K hK => ?_ | refine qa ?_ | refine qe ?_ | refine qb ?_ | (refine hK _ ?_; clear hK K) | clear hK K)
        all_goals first
          | (refine ⟨hSc _ (by omega), k + 1, ⟨by omega, by rw [hj1]; omega, by rw [hj1]; exact hjm3⟩, by omega, ?_⟩; simp [leS, hj1, hr0, qd]; done)
          | (exfalso; simp_all [okC, unitP]; done)
  · obtain rfl : k = L.length := by omega
    repeat' (first | ((first | ((with_reducible refine qf (fun hg => ?_) (fun hg => ?_)) <;> (try simp only [hg]) <;> (try simp only [gS] at hg) <;> (try (first | simp only [eq_false hg, gI] | simp only [eq_true hg, gI]))) | refine Stp.m ?_) <;> (try simp (disch := first | omega | simp) [qd, -qg, -ql, hlt])) | refine sideA ?_ | refine qc fun K hK => ?_ | refine qa ?_ | refine qe ?_ | refine qb ?_ | (refine hK _ ?_; clear hK K) | clear hK K)
    have hme : (qbn L L.length).length = m := by
      cases stop with
      | true => have := hjs rfl; omega
      | false => have := hs0 rfl; simpa using this.symm
    exact congrArg S hme
set_option maxHeartbeats 4000000 in
theorem right_gU (L : List Col) (hL : L.length ≤ 1000000) : Gives Tryz.prog 17 [.sl (L.map Col.av)] (.bool (rightP L)) := by
  refine gives_of_fwp Tryz.func17 Tryz.ntmps17 rfl rfl (by decide) rfl (by intro n; simp) fun σ n0 hcl hft => ?_
  refine qcq fun K hK => qel ?_
  repeat' (first | ((first | ((with_reducible refine qf (fun hg => ?_) (fun hg => ?_)) <;> (try simp only [hg]) <;> (try simp only [gS] at hg) <;> (try (first | simp only [eq_false hg, gI] | simp only [eq_true hg, gI]))) | refine Stp.m ?_) <;> (try simp (disch := first | omega | simp) [qd, -qg, -ql])) | refine sideA ?_ | refine qc fun K hK => ?_ | refine qa ?_ | refine qe ?_ | refine qb ?_ | (refine hK _ ?_; clear hK K) | clear hK K)
  refine hK _ _ ?_
  clear hK K
  refine qcq fun K hK => ?_
  refine qcq fun K2 hK2 => qel ?_
  repeat' (first | ((first | ((with_reducible refine qf (fun hg => ?_) (fun hg => ?_)) <;> (try simp only [hg]) <;> (try simp only [gS] at hg) <;> (try (first | simp only [eq_false hg, gI] | simp only [eq_true hg, gI]))) | refine Stp.m ?_ | refine acallB (wrong_b L) ?_) <;> (try simp (disch := first | omega | simp) [qd, -qg, -ql])) | refine sideA ?_ | refine qc fun K hK => ?_ | refine qa ?_ | refine qe ?_ | refine qb ?_ | (refine hK _ ?_; clear hK K) | clear hK K)
  refine hK2 _ _ ?_
  clear hK2 K2
  refine fwp_block ?_
  have hw := wrong_itU (n0 + 1) L hL
  by_cases he : qbn L L.length = []
  · refine fwp_range (psl := [5]) (by rfl) (by kernel_rfl) hw (fun _ => [.cells [.bool false] 4, .cells [.sl (L.map Col.av)] 35]) (fun _ => [.cells [.bool false] 4, .cells [.sl (L.map Col.av)] 35]) 0 false .ret (.inl rfl) (by rfl) (by omega) (by simp [he]) (by simp) hcl (fun _ _ => rfl) (fun _ _ => rfl) (fun _ _ => by simp) (fun _ _ _ => by simp) (fun _ h => by omega) (by decide) (by simp [he]) (fun k hk => by omega) ?_
    intro D
    simp only [Bool.false_eq_true, if_false, FBlock, FThen]
    refine hK _ _ ?_
    clear hK K
    refine qel ?_
    repeat' (first | ((first | ((with_reducible refine qf (fun hg => ?_) (fun hg => ?_)) <;> (try simp only [hg]) <;> (try simp only [gS] at hg) <;> (try (first | simp only [eq_false hg, gI] | simp only [eq_true hg, gI]))) | refine Stp.m ?_) <;> (try simp (disch := first | omega | simp) [qd, -qg, -ql])) | refine sideA ?_ | refine qc fun K hK => ?_ | refine qa ?_ | refine qe ?_ | refine qb ?_ | (refine hK _ ?_; clear hK K) | clear hK K)
    all_goals
      refine fend_mark 2 (.inr rfl) (by rfl) ?_
      simp [rightP, he]
      first
      | omega
      | (rw [decide_eq_true (p := 1 ≤ L.length) (by omega), Bool.true_and]; exact decide_eq_decide.2 (by omega))
  · obtain ⟨w0, ws, hw0⟩ := List.exists_cons_of_ne_nil he
    refine fwp_range (psl := [5]) (by rfl) (by kernel_rfl) hw (fun _ => [.cells [.bool false] 4, .cells [.sl (L.map Col.av)] 35]) (fun _ => [.cells [.bool false] 4, .cells [.sl (L.map Col.av)] 35]) 1 true .ret (.inl rfl) (by rfl) (by simp [hw0]) (by simp) (by simp) hcl (fun _ _ => rfl) (fun _ _ => rfl) (fun _ _ => by simp) (fun _ _ _ => by simp) (fun _ _ _ => rfl) (by decide) (by simp) (fun k hk hx σ' σb nx h1 h2 hxc => ?_) ?_
    · have g1 := h2.at' 0 _ rfl
      have g2 := h2.lt
      simp at g1 g2
      refine awp_skip ⟨rfl, rfl, rfl, ?_⟩
      have g3 : n0 < nx := by omega
      have g4 : ∀ L', loc σb nx L' n0 = .cells [.bool false] 4 := fun L' => by rw [qct _ _ _ _ g3]; exact g1
      obtain rfl : k = 0 := by omega
      repeat' (first | ((first | ((with_reducible refine qf (fun hg => ?_) (fun hg => ?_)) <;> (try simp only [hg]) <;> (try simp only [gS] at hg) <;> (try (first | simp only [eq_false hg, gI] | simp only [eq_true hg, gI]))) | refine Stp.m ?_) <;> (try simp (disch := first | omega | simp) [qd, -qg, -ql, g4, g3])) | refine sideA ?_ | refine qc fun K hK => ?_ | refine qa ?_ | refine qe ?_ | refine qb ?_ | (refine hK _ ?_; clear hK K) | clear hK K)
      exact updB_set0 h2.at' _ (by simp)
    · intro D
      simp only [if_true, FBlock, FThen]
      refine fend_mark 2 (.inr rfl) (by rfl) ?_
      simp [rightP, he]
end Go.Proofs.YtbkkjlcclddpdaaGreatDoor

/- Layer 14 on plain data: rows that fit, forward and back. -/
namespace Go.Proofs.YtbkkjlcclddpdaaGreatDoor
open Go.RowKit Go.Lib
theorem qfv (n : Int) : qbh ⟨0, n, ⟨#[]⟩⟩ = true := by unfold qbh; rw [if_pos rfl]; exact (Val.eqB_iff _ _).2 rfl
theorem rightV_text {s : ByteArray} (h : s.size ≤ 200) : qbh ⟨1, 0, s⟩ = true := by
  unfold qbh
  rw [if_neg (by show ¬ (1 : Int) = 0; decide), if_pos rfl, Bool.and_eq_true]
  exact ⟨(Val.eqB_iff _ _).2 rfl, by simpa using h⟩
theorem rightV_bit (b : Bool) : qbh (bitV b) = true := by
  unfold qbh bitV
  rw [if_neg (by show ¬ (2 : Int) = 0; decide), if_neg (by show ¬ (2 : Int) = 1; decide), Bool.or_eq_true]
  cases b
  · exact .inl ((Val.eqB_iff _ _).2 rfl)
  · exact .inr ((Val.eqB_iff _ _).2 rfl)
theorem qdm (s : List UInt8) : qbh (cutV s) = true := rightV_text (by rw [qm, List.length_take]; omega)
theorem rightV_cases {v : Val} (h : qbh v = true) : (v = ⟨0, v.n, ⟨#[]⟩⟩) ∨ (v = ⟨1, 0, v.s⟩ ∧ v.s.size ≤ 200) ∨ v = bitV false ∨ v = bitV true := by
  unfold qbh at h
  by_cases h0 : v.k = 0
  · rw [if_pos h0] at h
    exact .inl ((Val.eqB_iff _ _).1 h)
  · rw [if_neg h0] at h
    by_cases h1 : v.k = 1
    · rw [if_pos h1, Bool.and_eq_true] at h
      exact .inr (.inl ⟨(Val.eqB_iff _ _).1 h.1, by simpa using h.2⟩)
    · rw [if_neg h1, Bool.or_eq_true] at h
      rcases h with h | h
      · exact .inr (.inr (.inl ((Val.eqB_iff _ _).1 h)))
      · exact .inr (.inr (.inr ((Val.eqB_iff _ _).1 h)))
theorem right_zero {t : Int} (h0 : 0 ≤ t) (h1 : t < 3) : qbh ⟨t, 0, ⟨#[]⟩⟩ = true := by
  have : t = 0 ∨ t = 1 ∨ t = 2 := by omega
  rcases this with rfl | rfl | rfl
  · exact qfv 0
  · exact rightV_text (by show 0 ≤ 200; omega)
  · exact rightV_bit false
theorem conv_kind {v o : Val} {t : Int} (h0 : 0 ≤ t) (h1 : t < 3) (hk : o.k = t) (ho : qbh o = true) : (convP v t o).k = t ∧ qbh (convP v t o) = true := by
  have ht : t = 0 ∨ t = 1 ∨ t = 2 := by omega
  unfold convP
  rcases ht with rfl | rfl | rfl
  · rw [if_neg (by simp), if_neg (by decide)]
    split
    · exact ⟨rfl, qfv _⟩
    · rw [if_pos rfl]
      split
      · exact ⟨rfl, qfv _⟩
      · exact ⟨hk, ho⟩
  · split
    · exact ⟨rfl, qdm _⟩
    · rw [if_pos rfl]; exact ⟨rfl, qdm _⟩
  · rw [if_neg (by simp), if_neg (by decide), if_neg (by simp), if_neg (by decide)]
    repeat' split
    · exact ⟨rfl, rightV_bit _⟩
    · exact ⟨rfl, rightV_bit _⟩
    · exact ⟨hk, ho⟩
theorem FitOk.app {r q : List Val} {L M : List Col} (h1 : FitOk r L) (h2 : FitOk q M) : FitOk (r ++ q) (L ++ M) :=
  ⟨by rw [List.map_append, List.map_append, h1.kinds, h2.kinds], fun v hv => (List.mem_append.1 hv).elim (h1.vals v) (h2.vals v)⟩
theorem FitOk.one {v : Val} {c : Col} (h : v.k = c.type) (hr : qbh v = true) : FitOk [v] [c] :=
  ⟨by simp [h], fun u hu => by rw [List.mem_singleton] at hu; subst hu; exact hr⟩
theorem FitOk.take {r : List Val} {L : List Col} (h : FitOk r L) (i : Nat) : FitOk (r.take i) (L.take i) :=
  ⟨by rw [List.map_take, List.map_take, h.kinds], fun v hv => h.vals v (List.mem_of_mem_take hv)⟩
theorem FitOk.drop {r : List Val} {L : List Col} (h : FitOk r L) (i : Nat) : FitOk (r.drop i) (L.drop i) :=
  ⟨by rw [List.map_drop, List.map_drop, h.kinds], fun v hv => h.vals v (List.mem_of_mem_drop hv)⟩
theorem FitOk.set {r : List Val} {L : List Col} (h : FitOk r L) (i : Nat) {v : Val} {c : Col} (hk : v.k = c.type) (hr : qbh v = true) : FitOk (r.set i v) (L.set i c) :=
  ⟨by rw [List.map_set, List.map_set, h.kinds, hk], fun u hu => by
    rcases List.mem_or_eq_of_mem_set hu with h1 | rfl
    · exact h.vals u h1
    · exact hr⟩
theorem FitOk.erase {r : List Val} {L : List Col} (h : FitOk r L) (i : Nat) : FitOk (r.eraseIdx i) (L.eraseIdx i) :=
  ⟨by rw [qbr, qbr, h.kinds], fun v hv => h.vals v (List.mem_of_mem_eraseIdx hv)⟩
theorem FitOk.types {r : List Val} {L M : List Col} (h : FitOk r L) (e : L.map Col.type = M.map Col.type) : FitOk r M := ⟨by rw [h.kinds, e], h.vals⟩
theorem types_set {L : List Col} {i : Nat} (hi : i < L.length) {c : Col} (h : c.type = L[i].type) : (L.set i c).map Col.type = L.map Col.type := by
  rw [List.map_set, h]
  have : L[i].type = (L.map Col.type)[i]'(by simpa using hi) := by simp
  rw [this, List.set_getElem_self]
theorem FitOk.kind {r : List Val} {L : List Col} (h : FitOk r L) {i : Nat} (hi : i < r.length) (hi2 : i < L.length) : r[i].k = L[i].type := by
  have e : (r.map Val.k)[i]'(by simpa using hi) = (L.map Col.type)[i]'(by simpa using hi2) := by simp only [h.kinds]
  simpa using e
theorem split_at {α : Type} {L : List α} {i : Nat} (hi : i < L.length) : L.take i ++ [L[i]] ++ L.drop (i + 1) = L := by
  rw [← List.take_succ_eq_append_getElem hi, List.take_append_drop]
theorem fwd_fits {x : Lens} {L : List Col} {row : List Val} (hL : qdp L) (h : qeh x L) (hf : FitOk row L) : FitOk (fwdP x L row) (oneP x L).1 := by
  have hlen := hf.len
  cases h
  case add ho ha hn hl hR hu hv =>
    have e : fwdP x L row = row ++ [x.value] := by simp only [fwdP, ho]; rfl
    rw [e, hR]; exact hf.app (.one rfl hv)
  case drop i hi ho h hk hl hR hv =>
    have e : fwdP x L row = row.eraseIdx i := by simp only [fwdP, ho, h.find, Int.toNat_natCast]; rfl
    rw [e, hR]; exact hf.erase i
  case rename i hi ho h hb hb2 hR =>
    have e : fwdP x L row = row := by simp only [fwdP, ho]; rfl
    rw [e, hR]; exact hf.types (types_set (c := ⟨x.b, L[i].type, L[i].unit⟩) hi rfl).symm
  case split i hi ho h hk hb hc hs hbc hb2 hc2 hl hR =>
    have e : fwdP x L row = row.take i ++ [(qdf (valAt row i).s.data.toList x.sep.data.toList).1, (qdf (valAt row i).s.data.toList x.sep.data.toList).2] ++ row.drop (i + 1) := by simp only [fwdP, ho, h.find, Int.toNat_natCast]; rfl
    rw [e, hR]
    exact ((hf.take i).app ((FitOk.one (c := ⟨x.b, 1, ⟨#[]⟩⟩) rfl (qdm _)).app (.one rfl (qdm _)))).app (hf.drop (i + 1))
  case join i k hi hk ho h hkf hkn hik ti tk hc hs hc2 hR =>
    have e : fwdP x L row = (row.set i (cutV ((valAt row i).s.data.toList ++ x.sep.data.toList ++ (valAt row k).s.data.toList))).eraseIdx k := by simp only [fwdP, ho, h.find, hkf, Int.toNat_natCast]; rfl
    rw [e, hR]
    exact (hf.set i ti.symm (qdm _)).erase k
  case retype i hi ho h hn0 hn3 hv hk ht hR =>
    have e : fwdP x L row = row.set i (convP (valAt row i) x.n x.value) := by simp only [fwdP, ho, h.find, Int.toNat_natCast]; rfl
    rw [e, hR]
    obtain ⟨c1, c2⟩ := conv_kind (v := valAt row i) hn0 hn3 hk hv
    exact hf.set i c1 c2
  case scale i hi ho h ht hn hu hR =>
    have e : fwdP x L row = row.set i ⟨0, IntKind.i64.wrap ((valAt row i).n * x.n), ⟨#[]⟩⟩ := by simp only [fwdP, ho, h.find, Int.toNat_natCast]; rfl
    rw [e, hR]
    exact hf.set i ht.symm (qfv _)
theorem bck_fits {x : Lens} {L : List Col} {row : List Val} (hL : qdp L) (h : qeh x L) (hf : FitOk row (oneP x L).1) : FitOk (bckP x L row) L := by
  have hlen := hf.len
  cases h
  case add ho ha hn hl hR hu hv =>
    rw [hR] at hf hlen
    have e : bckP x L row = row.take (row.length - 1) := by simp only [bckP, ho]; rfl
    rw [e, hlen]
    have := hf.take L.length
    rw [List.take_left] at this
    simpa using this
  case drop i hi ho h hk hl hR hv =>
    rw [hR] at hf
    have e : bckP x L row = row.take i ++ [x.value] ++ row.drop i := by simp only [bckP, ho, h.find, Int.toNat_natCast]; rfl
    rw [e]
    have h1 := hf.take i
    have h2 := hf.drop i
    rw [List.eraseIdx_eq_take_drop_succ] at h1 h2
    have e1 : (L.take i ++ L.drop (i + 1)).take i = L.take i := List.take_left' (by rw [List.length_take]; omega)
    have e2 : (L.take i ++ L.drop (i + 1)).drop i = L.drop (i + 1) := List.drop_left' (by rw [List.length_take]; omega)
    rw [e1] at h1
    rw [e2] at h2
    have := (h1.app (FitOk.one hk.symm hv)).app h2
    rwa [split_at hi] at this
  case rename i hi ho h hb hb2 hR =>
    rw [hR] at hf
    have e : bckP x L row = row := by simp only [bckP, ho]; rfl
    rw [e]; exact hf.types (types_set (c := ⟨x.b, L[i].type, L[i].unit⟩) hi rfl)
  case split i hi ho h hk hb hc hs hbc hb2 hc2 hl hR =>
    rw [hR] at hf
    have e : bckP x L row = row.take i ++ [cutV ((valAt row i).s.data.toList ++ if (valAt row (i + 1)).s.toList = [] then [] else x.sep.data.toList ++ (valAt row (i + 1)).s.data.toList)] ++ row.drop (i + 2) := by simp only [bckP, ho, h.find, Int.toNat_natCast]; rfl
    rw [e]
    have h1 := hf.take i
    have h2 := hf.drop (i + 2)
    have e1 : (L.take i ++ [(⟨x.b, 1, ⟨#[]⟩⟩ : Col), ⟨x.c, 1, ⟨#[]⟩⟩] ++ L.drop (i + 1)).take i = L.take i := by
      rw [List.append_assoc]; exact List.take_left' (by rw [List.length_take]; omega)
    have e2 : (L.take i ++ [(⟨x.b, 1, ⟨#[]⟩⟩ : Col), ⟨x.c, 1, ⟨#[]⟩⟩] ++ L.drop (i + 1)).drop (i + 2) = L.drop (i + 1) := List.drop_left' (by simp; omega)
    rw [e1] at h1
    rw [e2] at h2
    have := (h1.app (FitOk.one (v := cutV ((valAt row i).s.data.toList ++ if (valAt row (i + 1)).s.toList = [] then [] else x.sep.data.toList ++ (valAt row (i + 1)).s.data.toList)) (c := L[i]) hk.symm (qdm _))).app h2
    rwa [split_at hi] at this
  case join i k hi hk ho h hkf hkn hik ti tk hc hs hc2 hR =>
    rw [hR] at hf
    obtain ⟨a, ha⟩ : ∃ a, a = if k < i then i - 1 else i := ⟨_, rfl⟩
    have e : bckP x L row = (row.set a (qdf (valAt row a).s.data.toList x.sep.data.toList).1).take k ++ [(qdf (valAt row a).s.data.toList x.sep.data.toList).2] ++ (row.set a (qdf (valAt row a).s.data.toList x.sep.data.toList).1).drop k := by
      simp only [bckP, ho, h.find, hkf, Int.toNat_natCast, ← ha]; rfl
    rw [e]
    obtain ⟨c, hcc⟩ : ∃ c : Col, c = ⟨x.c, L[i].type, L[i].unit⟩ := ⟨_, rfl⟩
    rw [← hcc] at hf
    have hct : c.type = 1 := by rw [hcc]; exact ti
    have hls : (L.set i c).length = L.length := List.length_set
    have hM : ((L.set i c).eraseIdx k).length = L.length - 1 := by rw [List.length_eraseIdx_of_lt (by omega), hls]
    have hal : a < ((L.set i c).eraseIdx k).length := by rw [hM, ha]; split <;> omega
    have hat : ((L.set i c).eraseIdx k)[a] = c := by
      rw [List.getElem_eraseIdx]
      split
      · have hai : a = i := by rw [ha]; rw [if_neg]; intro hki; rw [if_pos hki] at ha; omega
        rw [List.getElem_set, if_pos hai.symm]
      · have hai : a + 1 = i := by
          by_cases hki : k < i
          · rw [if_pos hki] at ha; omega
          · rw [if_neg hki] at ha; omega
        rw [List.getElem_set, if_pos hai.symm]
    have hf2 := hf.set a (v := (qdf (valAt row a).s.data.toList x.sep.data.toList).1) (c := c) hct.symm (qdm _)
    have hset : ((L.set i c).eraseIdx k).set a c = (L.set i c).eraseIdx k := by
      have := List.set_getElem_self hal
      rwa [hat] at this
    rw [hset] at hf2
    have h1 := hf2.take k
    have h2 := hf2.drop k
    rw [List.eraseIdx_eq_take_drop_succ] at h1 h2
    have e1 : ((L.set i c).take k ++ (L.set i c).drop (k + 1)).take k = (L.set i c).take k := List.take_left' (by rw [List.length_take]; omega)
    have e2 : ((L.set i c).take k ++ (L.set i c).drop (k + 1)).drop k = (L.set i c).drop (k + 1) := List.drop_left' (by rw [List.length_take]; omega)
    rw [e1] at h1
    rw [e2] at h2
    have hkl : k < (L.set i c).length := by omega
    have hk1 : ((L.set i c)[k]).type = 1 := by rw [List.getElem_set_ne hik]; exact tk
    have := (h1.app (FitOk.one (v := (qdf (valAt row a).s.data.toList x.sep.data.toList).2) hk1.symm (qdm _))).app h2
    rw [split_at hkl] at this
    exact this.types (types_set hi (by rw [hct, ti]))
  case retype i hi ho h hn0 hn3 hv hk ht hR =>
    rw [hR] at hf
    have e : bckP x L row = row.set i (convP (valAt row i) L[i].type ⟨L[i].type, 0, ⟨#[]⟩⟩) := by simp only [bckP, ho, h.find, Int.toNat_natCast, qbu hi]; rfl
    rw [e]
    have hci := hL.cols _ (List.getElem_mem hi)
    obtain ⟨c1, c2⟩ := conv_kind (v := valAt row i) (o := ⟨L[i].type, 0, ⟨#[]⟩⟩) hci.k0 hci.k1 rfl (right_zero hci.k0 hci.k1)
    have := hf.set i (c := L[i]) c1 c2
    rwa [List.set_set, List.set_getElem_self] at this
  case scale i hi ho h ht hn hu hR =>
    rw [hR] at hf
    have e : bckP x L row = row.set i ⟨0, IntKind.i64.wrap ((valAt row i).n.tdiv x.n), ⟨#[]⟩⟩ := by simp only [bckP, ho, h.find, Int.toNat_natCast]; rfl
    rw [e]
    have := hf.set i (v := ⟨0, IntKind.i64.wrap ((valAt row i).n.tdiv x.n), ⟨#[]⟩⟩) (c := L[i]) ht.symm (qfv _)
    rwa [List.set_set, List.set_getElem_self] at this
end Go.Proofs.YtbkkjlcclddpdaaGreatDoor
