/- strings.Lines as an iterator. -/
import Derived.Test.YtbkkjlcclddpdaaGreatDoorGc11
import Derived.Test.YtbkkjlcclddpdaaGreatDoorGc14
import Derived.Test.YtbkkjlcclddpdaaGreatDoorGc18
import Derived.Test.YtbkkjlcclddpdaaGreatDoorGc23
import Derived.Test.YtbkkjlcclddpdaaGreatDoorGc27
set_option linter.unusedSimpArgs false
set_option linter.unusedVariables false
namespace Go.Proofs.YtbkkjlcclddpdaaGreatDoor
open Go.RowKit Go.Lib
def lnK : List UInt8 → List (List UInt8)
  | [] => []
  | b :: l => if b = 10 then [10] :: lnK l else match lnK l with
    | [] => [[b]]
    | x :: xs => (b :: x) :: xs
theorem qfc : ∀ l, (lnK l).flatten = l
  | [] => rfl
  | b :: l => by
    have ih := qfc l
    rw [lnK]
    split
    · rename_i h; rw [List.flatten_cons, ih, h]; rfl
    · split
      · rename_i h; rw [h] at ih; rw [← ih]; rfl
      · rename_i h; rw [h] at ih; rw [← ih]; rfl
theorem lnK_some : ∀ {l : List UInt8} {i : Nat}, Lib.indexByte l 10 = i → i < l.length ∧ lnK l = l.take (i + 1) :: lnK (l.drop (i + 1))
  | [], i, h => by
    rw [Lib.indexByte] at h
    omega
  | b :: l, i, h => by
    rw [Lib.indexByte] at h
    by_cases hb : b = 10
    · subst hb
      simp at h
      obtain rfl : i = 0 := by omega
      exact ⟨by simp, by rw [lnK]; simp⟩
    · rw [if_neg (by simpa using hb)] at h
      split at h
      · omega
      · have hge := Lib.indexByte_ge l 10
        rename_i hne
        have hne' : Lib.indexByte l 10 ≠ -1 := by simpa using hne
        obtain ⟨j, hj⟩ : ∃ j : Nat, Lib.indexByte l 10 = j := ⟨(Lib.indexByte l 10).toNat, by omega⟩
        obtain ⟨h1, h2⟩ := lnK_some hj
        obtain rfl : i = j + 1 := by omega
        refine ⟨by simpa using h1, ?_⟩
        rw [lnK, if_neg hb, h2]
        rfl
theorem lnK_none : ∀ {l : List UInt8}, l ≠ [] → Lib.indexByte l 10 = -1 → lnK l = [l]
  | [], h, _ => absurd rfl h
  | b :: l, _, h => by
    rw [Lib.indexByte] at h
    have hb : ¬ b = 10 := fun e => by subst e; simp at h
    rw [if_neg (by simpa using hb)] at h
    have h2 : Lib.indexByte l 10 = -1 := by
      by_cases hh : Lib.indexByte l 10 = -1
      · exact hh
      · have := Lib.indexByte_ge l 10
        rw [if_neg (by simpa using hh)] at h; omega
    rw [lnK, if_neg hb]
    cases l with
    | nil => rfl
    | cons c l => rw [lnK_none (by simp) h2]
theorem lnK_tail {l x : List UInt8} {xs : List (List UInt8)} (h : lnK l = x :: xs) : lnK xs.flatten = xs := by
  have hne : l ≠ [] := fun e => by subst e; cases h
  by_cases hi : Lib.indexByte l 10 = -1
  · rw [lnK_none hne hi] at h
    cases h; rfl
  · have := Lib.indexByte_ge l 10
    obtain ⟨j, hj⟩ : ∃ j : Nat, Lib.indexByte l 10 = j := ⟨(Lib.indexByte l 10).toNat, by omega⟩
    rw [(lnK_some hj).2] at h
    cases h
    rw [qfc]
theorem lnK_drop (l : List UInt8) : ∀ k, lnK (((lnK l).drop k).flatten) = (lnK l).drop k
  | 0 => by rw [List.drop_zero, qfc]
  | k + 1 => by
    have ih := lnK_drop l k
    by_cases h : k < (lnK l).length
    · rw [List.drop_eq_getElem_cons h] at ih
      exact lnK_tail ih
    · rw [List.drop_eq_nil_of_le (by omega)]; rfl
def restK (s : ByteArray) (k : Nat) : List UInt8 := ((lnK s.data.toList).drop k).flatten
theorem restK_len (s : ByteArray) (k : Nat) : (restK s k).length ≤ s.size := by
    have h : (lnK s.data.toList).flatten = s.data.toList := qfc _
    have h2 : (lnK s.data.toList).flatten = ((lnK s.data.toList).take k).flatten ++ restK s k := by
      unfold restK; rw [← List.flatten_append, List.take_append_drop]
    have := congrArg List.length h2
    rw [h, List.length_append, Array.length_toList] at this
    show _ ≤ s.data.size
    omega
def linesX (s : ByteArray) : List (List AV) := (lnK s.data.toList).map fun x => [AV.str (qh x)]
theorem lines_b (s : ByteArray) : GivesB Tryz.prog 39 [.str s] (fun r => .fn 76 [.ptr r 0]) (.cells [.str s] 9) := by
  refine givesB_of_awp 0 Tryz.func39 Tryz.ntmps39 rfl rfl (by decide) rfl (by intro m; simp) fun σ n0 hcl hft => ?_
  repeat' (first | ((first | ((with_reducible refine qf (fun hg => ?_) (fun hg => ?_)) <;> (try simp only [hg]) <;> (try simp only [gS] at hg) <;> (try (first | simp only [eq_false hg, gI] | simp only [eq_true hg, gI]))) | refine Stp.m ?_) <;> (try simp (disch := first | omega | simp) [qd, -qg, -qm])) | refine sideA ?_ | refine qc fun K hK => ?_ | refine qa ?_ | refine qe ?_ | refine qb ?_ | (refine hK _ ?_; clear hK K) | clear hK K)
set_option maxHeartbeats 2000000 in
theorem lines_it (r0 : Nat) (s : ByteArray) (hs : s.size ≤ 1000000) : Iter Tryz.prog 76 [.ptr r0 0] (linesX s) (fun k σ => σ r0 = .cells [.str (qh (restK s k))] 9) (fun k σ => upd σ r0 (.cells [.str (qh (restK s (k + 1)))] 9)) := by
  refine iter_of_awp Tryz.func76 Tryz.ntmps76 rfl rfl rfl fun l S m stop n0 hm hs0 hs1 hI hSc hSf hft hcc hy => ?_
  have hr0 : r0 < n0 := by simpa using hcc
  have hl : ∀ k, k ≤ m → ∀ L', loc (S k) n0 L' r0 = .cells [.str (qh (restK s k))] 9 := fun k hk L' => by rw [qda _ _ _ _ hr0]; exact hI k hk
  have hnl : (linesX s).length = (lnK s.data.toList).length := by simp [linesX]
  rw [hnl] at hm
  repeat' (first | ((first | ((with_reducible refine qf (fun hg => ?_) (fun hg => ?_)) <;> (try simp only [hg]) <;> (try simp only [gS] at hg) <;> (try (first | simp only [eq_false hg, gI] | simp only [eq_true hg, gI]))) | refine Stp.m ?_) <;> (try simp (disch := first | omega | simp) [qd, -qg, -qm])) | refine sideA ?_ | refine qc fun K hK => ?_ | refine qa ?_ | refine qe ?_ | refine qb ?_ | (refine hK _ ?_; clear hK K) | clear hK K)
  refine awp_loopS (fun k => S k) (fun k => [(0, .v (.func (.yield l) #[] #[])), (1, .ptr r0 0)]) (fun _ => [])
    (fun k => k ≤ (lnK s.data.toList).length ∧ k ≤ m ∧ (stop = true → k < m)) (fun k => (lnK s.data.toList).length - k) 0 (fun k hk r => hSc _ hk.2.1 r) ⟨by omega, by omega, fun h => hs1 h⟩ (by simp [leS, hr0]) (hSc 0 (by omega)) fun k ⟨hk, hkm, hks⟩ => ?_
  have hlk := hl _ hkm
  have hlen := restK_len s k
  have hz := qk (restK s k)
  by_cases hlt : k < (lnK s.data.toList).length
  · have hd := lnK_drop s.data.toList k
    have hd2 : restK s k = (lnK s.data.toList)[k] ++ restK s (k + 1) := by
      unfold restK; rw [List.drop_eq_getElem_cons hlt, List.flatten_cons]
    have hm2 : k < m := by
      cases stop with
      | true => exact hks rfl
      | false => have := hs0 rfl; rw [hnl] at this; omega
    have hyk := fun L' => hy k hm2 (by rw [hnl]; exact hlt) L'
    have hxk : (linesX s)[k]'(by rw [hnl]; exact hlt) = [AV.str (qh (lnK s.data.toList)[k])] := by simp [linesX]
    rw [hxk] at hyk
    have hne : restK s k ≠ [] := fun e => by
      have hd' : lnK (restK s k) = (lnK s.data.toList).drop k := hd
      rw [e, List.drop_eq_getElem_cons hlt] at hd'; cases hd'
    have hpos : 0 < (restK s k).length := by rw [List.length_pos_iff]; exact hne
    have hd' : lnK (restK s k) = (lnK s.data.toList)[k] :: (lnK s.data.toList).drop (k + 1) := by rw [← List.drop_eq_getElem_cons hlt]; exact hd
    have c1 := indexByte_g (qh (restK s k)) 10
    have hge := Lib.indexByte_ge (restK s k) 10
    have e0 : (qh (restK s k)).data.toList = restK s k := rfl
    rw [e0] at c1
    have e1 : ((10 : Int).toNat.toUInt8) = (10 : UInt8) := rfl
    rw [e1] at c1
    have hfin : stop = false ∨ k + 1 < m ∨ k + 1 = m := by omega
    have hst : ∀ b, (stop && decide (k + 1 = m)) = b → (b = true → k + 1 = m) ∧ (b = false → stop = true → k + 1 < m) := fun b h => by
      subst h
      refine ⟨fun h => by simp at h; exact h.2, fun h h2 => by rw [h2, Bool.true_and, decide_eq_false_iff_not] at h; omega⟩
    by_cases hi : Lib.indexByte (restK s k) 10 = -1
    · have hone := lnK_none hne hi
      rw [hd'] at hone
      have hx : (lnK s.data.toList)[k] = restK s k := (List.cons.inj hone).1
      have hr1 : restK s (k + 1) = [] := by rw [hx] at hd2; exact List.append_right_eq_self.1 hd2.symm
      have hb1 : qh (restK s (k + 1)) = ⟨#[]⟩ := by rw [hr1]; rfl
      rw [hb1, hx] at hyk
      rw [hi] at c1
      generalize hbb : (stop && decide (k + 1 = m)) = bb at hyk
      obtain ⟨g1, g2⟩ := hst _ hbb
      cases bb with
      | true =>
        repeat' (first | ((first | ((with_reducible refine qf (fun hg => ?_) (fun hg => ?_)) <;> (try simp only [hg]) <;> (try simp only [gS] at hg) <;> (try (first | simp only [eq_false hg, gI] | simp only [eq_true hg, gI]))) | refine Stp.m ?_ | refine qed (id := 6) 2 (by rfl) ?_ | refine ayield _ (hyk _) ?_ | refine ql ?_ | refine agH ?_) <;> (try simp (disch := first | omega | simp) [qd, -qg, -qm, hlk, hr0, hz, hpos, List.take_succ_cons, List.drop_succ_cons])) | refine sideA ?_ | refine qc fun K hK => ?_ | refine qa ?_ | refine qe ?_ | refine qb ?_ | (refine hK _ ?_; clear hK K) | clear hK K)
        exact congrArg S (g1 rfl)
      | false =>
        repeat' (first | ((first | ((with_reducible refine qf (fun hg => ?_) (fun hg => ?_)) <;> (try simp only [hg]) <;> (try simp only [gS] at hg) <;> (try (first | simp only [eq_false hg, gI] | simp only [eq_true hg, gI]))) | refine Stp.m ?_ | refine qed (id := 6) 2 (by rfl) ?_ | refine ayield _ (hyk _) ?_ | refine ql ?_ | refine agH ?_) <;> (try simp (disch := first | omega | simp) [qd, -qg, -qm, hlk, hr0, hz, hpos, List.take_succ_cons, List.drop_succ_cons])) | refine sideA ?_ | refine qc fun K hK => ?_ | refine qa ?_ | refine qe ?_ | refine qb ?_ | (refine hK _ ?_; clear hK K) | clear hK K)
        exact ⟨hSc _ (by omega), k + 1, ⟨by omega, by omega, g2 rfl⟩, by omega, by simp [leS, hr0, qd]⟩
    · obtain ⟨i, hi⟩ : ∃ i : Nat, Lib.indexByte (restK s k) 10 = i := ⟨(Lib.indexByte (restK s k) 10).toNat, by omega⟩
      obtain ⟨hil, hsome⟩ := lnK_some hi
      rw [hd'] at hsome
      have hx : (lnK s.data.toList)[k] = (restK s k).take (i + 1) := (List.cons.inj hsome).1
      have hr1 : restK s (k + 1) = (restK s k).drop (i + 1) := by
        have h := congrArg (List.drop (i + 1)) hd2
        rw [h, hx, List.drop_left' (by rw [List.length_take]; omega)]
      rw [hi] at c1
      have h3 : ((i : Int) + 1).toNat = i + 1 := by omega
      have h4 : (0 ≤ (i : Int) + 1) = True := eq_true (by omega)
      have hil2 : i + 1 ≤ (restK s k).length := hil
      have hlo : loc (only r0 (loc (S k) n0 [])) n0 [] r0 = .cells [.str (qh (restK s k))] 9 := by
        rw [qda _ _ _ _ hr0]; unfold only; rw [if_pos rfl]; exact hlk []
      have hx1 := ext_tk (restK s k) (i + 1)
      have hx2 := ext_drop (restK s k) (i + 1)
      rw [← hx] at hx1
      rw [← hr1] at hx2
      generalize hbb : (stop && decide (k + 1 = m)) = bb at hyk
      obtain ⟨g1, g2⟩ := hst _ hbb
      cases bb with
      | true =>
        repeat' (first | ((first | ((with_reducible refine qf (fun hg => ?_) (fun hg => ?_)) <;> (try simp only [hg]) <;> (try simp only [gS] at hg) <;> (try (first | simp only [eq_false hg, gI] | simp only [eq_true hg, gI]))) | refine Stp.m ?_ | refine qed (id := 6) 2 (by rfl) ?_ | refine ayield _ (hyk _) ?_ | refine ql ?_ | refine agH ?_) <;> (try simp (disch := first | omega | simp) [qd, -qg, -qm, hlk, hr0, hz, hpos, h3, hx1, hx2, hil, hil2, hlo, h4, List.take_succ_cons, List.drop_succ_cons])) | with_reducible refine awp_anyQ (id := 4) [] r0 [.N, .R, .R, .R, .N, .R, .R, .R, .R, .W] (by kernel_rfl) (by kernel_rfl) (by simp) ?_ | refine sideA ?_ | refine qc fun K hK => ?_ | refine qa ?_ | refine qe ?_ | refine qb ?_ | (refine hK _ ?_; clear hK K) | clear hK K)
        exact congrArg S (g1 rfl)
      | false =>
        repeat' (first | ((first | ((with_reducible refine qf (fun hg => ?_) (fun hg => ?_)) <;> (try simp only [hg]) <;> (try simp only [gS] at hg) <;> (try (first | simp only [eq_false hg, gI] | simp only [eq_true hg, gI]))) | refine Stp.m ?_ | refine qed (id := 6) 2 (by rfl) ?_ | refine ayield _ (hyk _) ?_ | refine ql ?_ | refine agH ?_) <;> (try simp (disch := first | omega | simp) [qd, -qg, -qm, hlk, hr0, hz, hpos, h3, hx1, hx2, hil, hil2, hlo, h4, List.take_succ_cons, List.drop_succ_cons])) | with_reducible refine awp_anyQ (id := 4) [] r0 [.N, .R, .R, .R, .N, .R, .R, .R, .R, .W] (by kernel_rfl) (by kernel_rfl) (by simp) ?_ | refine sideA ?_ | refine qc fun K hK => ?_ | refine qa ?_ | refine qe ?_ | refine qb ?_ | (refine hK _ ?_; clear hK K) | clear hK K)
        exact ⟨hSc _ (by omega), k + 1, ⟨by omega, by omega, g2 rfl⟩, by omega, by simp [leS, hr0, qd]⟩
  · have hr : restK s k = [] := by unfold restK; rw [List.drop_eq_nil_of_le (by omega)]; rfl
    rw [hr] at hz hlk
    repeat' (first | ((first | ((with_reducible refine qf (fun hg => ?_) (fun hg => ?_)) <;> (try simp only [hg]) <;> (try simp only [gS] at hg) <;> (try (first | simp only [eq_false hg, gI] | simp only [eq_true hg, gI]))) | refine Stp.m ?_) <;> (try simp (disch := first | omega | simp) [qd, -qg, -qm, hlk, hr0, hz])) | refine sideA ?_ | refine qc fun K hK => ?_ | refine qa ?_ | refine qe ?_ | refine qb ?_ | (refine hK _ ?_; clear hK K) | clear hK K)
    have hme : k = m := by
      cases stop with
      | true => have := hks rfl; omega
      | false => have := hs0 rfl; rw [hnl] at this; omega
    exact congrArg S hme
end Go.Proofs.YtbkkjlcclddpdaaGreatDoor

/- Walk of lens.Parse. -/
namespace Go.Proofs.YtbkkjlcclddpdaaGreatDoor
open Go.RowKit Go.Lib
def lnR (x : List UInt8) : Lens := readP (Lib.trimSuffix x [10])
def qbk (s : List UInt8) : List Lens := (lnK s).map lnR
def qbo (s : List UInt8) : List Lens × Bool := if qbh (qbk s) = s then (qbk s, true) else ([], false)
theorem qmid_ge : ∀ l : List UInt8, l.length ≤ (qmid l).length
  | [] => Nat.le_refl _
  | c :: l => by
    have := qmid_ge l
    have h : 1 ≤ (qB c).length := by
      unfold qB
      repeat' split
      all_goals simp
    rw [qmid_cons, List.length_append, List.length_cons]; omega
theorem unqP_len (l : List UInt8) : ((unqP hxP l).getD []).length ≤ l.length := by
  unfold unqP
  split
  · rename_i h
    have := qmid_ge (decM hxP (mid l))
    have h2 := congrArg List.length h
    unfold qP at h2
    simp at h2 ⊢
    omega
  · simp
theorem intP_get (l : List UInt8) : i64 ((intP l).getD 0) := by
  cases h : intP l with
  | none => exact ⟨by decide, by decide⟩
  | some n => exact (qfb.1 h).1
theorem qft (l : List UInt8) : i64 (qdn l).1.n ∧ (qdn l).1.s.size ≤ 200 := by
  unfold qdn
  repeat' split
  · unfold bitV; refine ⟨by split <;> exact ⟨by decide, by decide⟩, by show 0 ≤ 200; omega⟩
  · rename_i n h; exact ⟨(qfb.1 h).1, by show 0 ≤ 200; omega⟩
  · rename_i h; exact ⟨⟨by show (-9223372036854775808 : Int) ≤ 0; decide, by show (0 : Int) ≤ _; decide⟩, by rw [qk]; exact h⟩
  · exact ⟨⟨by decide, by decide⟩, by show 0 ≤ 200; omega⟩
  · exact ⟨⟨by decide, by decide⟩, by show 0 ≤ 200; omega⟩
structure RdOk (x : Lens) (m : Nat) : Prop where
  a : x.a.size ≤ m
  b : x.b.size ≤ m
  c : x.c.size ≤ m
  sep : x.sep.size ≤ m
  n : i64 x.n
  v : i64 x.value.n
  s : x.value.s.size ≤ 200
theorem readP_ok (s : List UInt8) : RdOk (readP s) s.length := by
  obtain ⟨a, b, c, d, e, r, hw⟩ := words_five s
  have hle := words_le s
  rw [hw] at hle
  have hb := hle b (by simp)
  have hc := hle c (by simp)
  have hd := hle d (by simp)
  have he := hle e (by simp)
  have z : ∀ l : List UInt8, l.length ≤ s.length → (qh l).size ≤ s.length := fun l h => by rw [qk]; exact h
  have z0 : (⟨#[]⟩ : ByteArray).size ≤ s.length := Nat.zero_le _
  have i0 : i64 0 := ⟨by decide, by decide⟩
  have v0 : i64 val0.n ∧ val0.s.size ≤ 200 := ⟨i0, by show 0 ≤ 200; omega⟩
  have u : ∀ l : List UInt8, l.length ≤ s.length → (qh ((unqP hxP l).getD [])).size ≤ s.length := fun l h => by rw [qk]; have := unqP_len l; omega
  have t := typeOfP_nn c
  unfold readP
  rw [hw]
  show RdOk (readW a b c d e) _
  unfold readW
  rcases opL_cases a with h | h | h | h | h | h | h | h <;> simp only [h, reduceIte, Int.reduceEq]
  · exact ⟨z _ hb, z _ hd, z0, z0, i0, (qft c).1, (qft c).2⟩
  · exact ⟨z _ hb, z0, z0, z0, i0, (qft c).1, (qft c).2⟩
  · exact ⟨z _ hb, z _ hc, z0, z0, i0, v0.1, v0.2⟩
  · exact ⟨z _ hb, z _ hd, z _ he, u _ hc, i0, v0.1, v0.2⟩
  · exact ⟨z _ hb, z _ hc, z _ he, u _ hd, i0, v0.1, v0.2⟩
  · exact ⟨z _ hb, z0, z0, z0, ⟨by have := t.1; show -9223372036854775808 ≤ (qbw c).1; omega, by have := t.2.1; show (qbw c).1 ≤ 9223372036854775807; omega⟩, (qft d).1, (qft d).2⟩
  · exact ⟨z _ hb, z _ hd, z0, z0, intP_get _, v0.1, v0.2⟩
  · exact ⟨z _ hb, z0, z0, z0, i0, v0.1, v0.2⟩
theorem trim_len (x : List UInt8) : (Lib.trimSuffix x [10]).length ≤ x.length := by
  unfold Lib.trimSuffix
  split <;> simp
theorem lnK_le (s : List UInt8) : ∀ x ∈ lnK s, 1 ≤ x.length := by
  induction s with
  | nil => intro x hx; cases hx
  | cons b l ih =>
    intro x hx
    rw [lnK] at hx
    split at hx
    · rcases List.mem_cons.1 hx with rfl | hx
      · simp
      · exact ih x hx
    · split at hx
      · simp at hx; subst hx; simp
      · rename_i y ys h
        rcases List.mem_cons.1 hx with rfl | hx
        · simp
        · exact ih x (by rw [h]; simp [hx])
theorem lnK_num (s : List UInt8) : (lnK s).length ≤ s.length := by
  have h1 := lnK_le s
  have h2 : (lnK s).flatten.length = s.length := by rw [qfc]
  rw [List.length_flatten] at h2
  have : ∀ l : List (List UInt8), (∀ x ∈ l, 1 ≤ x.length) → l.length ≤ (l.map List.length).sum := fun l => by
    induction l with
    | nil => intro _; simp
    | cons a l ih =>
      intro h
      have := ih fun x hx => h x (by simp [hx])
      have := h a (by simp)
      simp; omega
  have := this _ h1
  omega
theorem lnK_one (s : List UInt8) : ∀ x ∈ lnK s, x.length ≤ s.length := fun x hx => by
  have h2 : (lnK s).flatten.length = s.length := by rw [qfc]
  rw [List.length_flatten] at h2
  have : ∀ l : List (List UInt8), x ∈ l → x.length ≤ (l.map List.length).sum := fun l => by
    induction l with
    | nil => intro h; cases h
    | cons a l ih =>
      intro h
      rw [List.map_cons, List.sum_cons]
      rcases List.mem_cons.1 h with rfl | h
      · omega
      · have := ih h; omega
  have := this _ hx
  omega
theorem steps_ok {s : List UInt8} : ∀ x ∈ qbk s, RdOk x s.length := fun x hx => by
  unfold qbk at hx
  obtain ⟨y, hy, rfl⟩ := List.mem_map.1 hx
  have h1 := lnK_one s y hy
  have h2 := trim_len y
  have h3 := readP_ok (Lib.trimSuffix y [10])
  exact ⟨by have := h3.a; show (lnR y).a.size ≤ _; unfold lnR; omega, by have := h3.b; show (lnR y).b.size ≤ _; unfold lnR; omega, by have := h3.c; show (lnR y).c.size ≤ _; unfold lnR; omega, by have := h3.sep; show (lnR y).sep.size ≤ _; unfold lnR; omega, h3.n, h3.v, h3.s⟩
theorem linesL_bound : ∀ L : List (List UInt8), (qr (L.map lnR)).length ≤ 7 * (L.map List.length).sum + 1000 * L.length
  | [] => by simp [qr]
  | y :: l => by
    have h0 := readP_ok (Lib.trimSuffix y [10])
    have h9 := trim_len y
    have h2 := linesL_bound l
    have h3 := lineL_len (lnR y) h0.n h0.v
    have h4 : (lnR y).a.size ≤ _ := h0.a
    have h5 : (lnR y).b.size ≤ _ := h0.b
    have h6 : (lnR y).c.size ≤ _ := h0.c
    have h7 : (lnR y).sep.size ≤ _ := h0.sep
    have h8 : (lnR y).value.s.size ≤ _ := h0.s
    have e : qr ((y :: l).map lnR) = lineL (lnR y) ++ [10] ++ qr (l.map lnR) := by unfold qr; rw [List.map_cons, List.flatMap_cons]
    have e3 : ([10] : List UInt8).length = 1 := rfl
    rw [e, List.length_append, List.length_append, e3, List.map_cons, List.sum_cons, List.length_cons]
    omega
theorem steps_bytes (S : List UInt8) : (qr (qbk S)).length ≤ 1007 * S.length := by
  have h1 := linesL_bound (lnK S)
  have h2 := lnK_num S
  have h3 : ((lnK S).map List.length).sum = S.length := by rw [← List.length_flatten, qfc]
  unfold qbk
  omega
theorem updB_at {σ : Nat → AB} {n0 : Nat} {Bs : List AB} (j : Nat) (b : AB) (h : Bs[j]? = some b) : updB σ n0 Bs (n0 + j) = b := by
  unfold updB
  rw [if_neg (by omega), Nat.add_sub_cancel_left, h]
theorem updB_two {σ : Nat → AB} {n0 : Nat} {Bs Cs : List AB} (h : Cs.length = Bs.length) : updB (updB σ n0 Bs) n0 Cs = updB σ n0 Cs := by
  funext r
  unfold updB
  by_cases hr : r < n0
  · rw [if_pos hr, if_pos hr, if_pos hr]
  · rw [if_neg hr, if_neg hr, if_neg hr]
    cases hc : Cs[r - n0]? with
    | some c => rfl
    | none =>
      have : Bs[r - n0]? = none := by
        rw [List.getElem?_eq_none_iff] at hc ⊢; omega
      rw [this]
theorem updB_set2 {σ : Nat → AB} {n0 : Nat} {Bs : List AB} (h : ∀ j b, Bs[j]? = some b → σ (n0 + j) = b) (i j : Nat) (x y : AB) (hi : i < Bs.length) (hj : j < Bs.length) : upd (upd σ (n0 + i) x) (n0 + j) y = updB σ n0 ((Bs.set i x).set j y) := by
  rw [updB_set h i x hi, updB_set (fun j b hb => updB_at j b hb) j y (by simpa using hj), updB_two (by simp)]
theorem upd_locP {σ : Nat → AB} {n0 : Nat} {L : List AB} (i : Nat) (x : AB) (hi : i < L.length) : upd (loc σ n0 L) (n0 + i) x = loc σ n0 (L.set i x) := by
  funext r
  unfold upd loc
  by_cases h : r = n0 + i
  · subst h
    rw [if_pos rfl, if_neg (by omega), Nat.add_sub_cancel_left, List.getD_eq_getElem?_getD, List.getElem?_set_self hi]; rfl
  · rw [if_neg h]
    by_cases h2 : r < n0
    · rw [if_pos h2, if_pos h2]
    · rw [if_neg h2, if_neg h2, List.getD_eq_getElem?_getD, List.getD_eq_getElem?_getD, List.getElem?_set_ne (by omega)]
set_option maxHeartbeats 4000000 in
theorem lparse_g (s : ByteArray) (hs : s.size ≤ 50000) : Gives Tryz.prog 13 [.str s] (.tup [.sl ((qbo s.data.toList).1.map Lens.av), .bool (qbo s.data.toList).2]) := by
  obtain ⟨S, hS⟩ : ∃ S, s.data.toList = S := ⟨_, rfl⟩
  have hsz : S.length = s.size := by rw [← hS, qcl]
  obtain ⟨R, hR⟩ : ∃ R, qbo S = R := ⟨_, rfl⟩
  rw [hS, hR]
  have hok := steps_ok (s := S)
  have hnum := lnK_num S
  have hsl : (qbk S).length = (lnK S).length := by unfold qbk; simp
  have hb2 : (qr (qbk S)).length ≤ 1000000000 := by
    have := steps_bytes S
    omega
  have c9 := lprint_g (qbk S) (fun x hx => by
    have h := hok x hx
    have := h.a; have := h.b; have := h.c; have := h.sep; have := h.s
    exact ⟨⟨by omega, by omega, by omega, by omega⟩, h.n, h.v, by omega⟩) (by omega) hb2
  refine gives_of_fwp Tryz.func13 Tryz.ntmps13 rfl rfl (by decide) rfl (by intro n; simp) fun σ n0 hcl hft => ?_
  refine qdv fun K hK => qge ?_
  repeat' (first | ((first | ((with_reducible refine qf (fun hg => ?_) (fun hg => ?_)) <;> (try simp only [hg]) <;> (try simp only [gS] at hg) <;> (try (first | simp only [eq_false hg, gI] | simp only [eq_true hg, gI]))) | refine Stp.m ?_) <;> (try simp (disch := first | omega | simp) [qd, -qg, -qm])) | refine sideA ?_ | refine qc fun K hK => ?_ | refine qa ?_ | refine qe ?_ | refine qb ?_ | (refine hK _ ?_; clear hK K) | clear hK K)
  refine hK _ _ ?_
  clear hK K
  refine qdv fun K hK => qge ?_
  repeat' (first | ((first | ((with_reducible refine qf (fun hg => ?_) (fun hg => ?_)) <;> (try simp only [hg]) <;> (try simp only [gS] at hg) <;> (try (first | simp only [eq_false hg, gI] | simp only [eq_true hg, gI]))) | refine Stp.m ?_) <;> (try simp (disch := first | omega | simp) [qd, -qg, -qm])) | refine sideA ?_ | refine qc fun K hK => ?_ | refine qa ?_ | refine qe ?_ | refine qb ?_ | (refine hK _ ?_; clear hK K) | clear hK K)
  refine hK _ _ ?_
  clear hK K
  refine qdv fun K hK => ?_
  refine qdv fun K2 hK2 => qge ?_
  refine qbj 0 0 29 9 (by rfl) (by rfl) ?_
  repeat' (first | ((first | ((with_reducible refine qf (fun hg => ?_) (fun hg => ?_)) <;> (try simp only [hg]) <;> (try simp only [gS] at hg) <;> (try (first | simp only [eq_false hg, gI] | simp only [eq_true hg, gI]))) | refine Stp.m ?_ | refine acallB (lines_b s) ?_) <;> (try simp (disch := first | omega | simp) [qd, -qg, -qm])) | refine sideA ?_ | refine qc fun K hK => ?_ | refine qa ?_ | refine qe ?_ | refine qb ?_ | (refine hK _ ?_; clear hK K) | clear hK K)
  refine hK2 _ _ ?_
  clear hK2 K2
  refine fwp_block ?_
  have hw := lines_it (n0 + 2) s (by omega)
  have hxl : (linesX s).length = (lnK S).length := by unfold linesX; rw [hS]; simp
  obtain ⟨PL, hPL⟩ : ∃ PL : Nat → List AV, PL = fun k => ((qbk S).take k).map Lens.av := ⟨_, rfl⟩
  have hPlen : ∀ k, k ≤ (lnK S).length → (PL k).length = k := fun k hk => by rw [hPL]; simp; omega
  have hPw : ∀ k, AV.wid (PL k) 9 := fun k => by rw [hPL]; exact Lens.avs_wid _
  have hPc : ∀ k m, AV.cls m (PL k) := fun k m => by rw [hPL]; exact Lens.avs_cl _ m
  have hP0 : PL 0 = [] := by rw [hPL]; rfl
  have hPe : PL (lnK S).length = (qbk S).map Lens.av := by rw [hPL, ← hsl]; simp
  have hr0 : qh (restK s 0) = s := by
    unfold restK
    rw [List.drop_zero, qfc]; exact (bA_eq rfl).symm
  refine fwp_range (psl := [8]) (by rfl) (by kernel_rfl) hw (fun k => [.cells [.gs (n0 + 1) (PL k)] 22, .tail k 29 9, .cells [.str (qh (restK s k))] 9]) (fun k => [.cells [.gs (n0 + 1) (PL k)] 22, .tail k 29 9, .cells [.str (qh (restK s (k + 1)))] 9]) (lnK S).length false .ret (.inl rfl) (by rw [hP0, hr0]) (by omega) (by simp [hxl]) (by simp) hcl (fun _ _ => rfl) (fun _ _ => rfl) (fun k _ => by simp [hPc]) (fun k _ Z => by simp) (fun k _ Z => upd_locP 2 _ (by simp)) (by decide) (by unfold linesX; intro x hx; obtain ⟨y, -, rfl⟩ := List.mem_map.1 hx; rfl) (fun k hk hx σ' σb nx h1 h2 hxc => ?_) ?_
  · have hxk : (linesX s)[k] = [AV.str (qh (lnK S)[k])] := by simp [linesX, hS]
    rw [hxk]
    have hks : k < (qbk S).length := by omega
    have hl1 := lnK_one S _ (List.getElem_mem hk)
    have hl2 := trim_len (lnK S)[k]
    have c1 := trimSuffix_g (qh (lnK S)[k]) ⟨#[10]⟩ (by rw [qk]; omega)
    have c2 := read_g (qh (Lib.trimSuffix (lnK S)[k] [10])) (by rw [qk]; omega)
    rw [bA_data] at c1 c2
    have e1 : readP (Lib.trimSuffix (lnK S)[k] [10]) = (qbk S)[k] := by simp only [qbk, List.getElem_map]; rfl
    rw [e1] at c2
    have e2 : (⟨#[10]⟩ : ByteArray).data.toList = [10] := rfl
    rw [e2] at c1
    have hPs : PL (k + 1) = PL k ++ [(qbk S)[k].av] := by rw [hPL]; simp only; rw [List.take_succ_eq_append_getElem hks, List.map_append]; rfl
    have a0 := h2.at' 0 _ rfl
    have a1 := h2.at' 1 _ rfl
    have a3 := h2.lt
    simp at a0 a1 a3
    have g3' : n0 < nx := by omega
    have g4' : n0 + 1 < nx := by omega
    have f0 : ∀ L', loc σb nx L' n0 = .cells [.gs (n0 + 1) (PL k)] 22 := fun L' => by rw [qda _ _ _ _ g3']; exact a0
    have f1 : ∀ L', loc σb nx L' (n0 + 1) = .tail k 29 9 := fun L' => by rw [qda _ _ _ _ g4']; exact a1
    have hpk := hPlen k (by omega)
    have hpw := hPw k
    have hkb : k ≤ 50000 := by omega
    have f2 : ∀ x L', loc (upd σb (n0 + 1) x) nx L' n0 = .cells [.gs (n0 + 1) (PL k)] 22 := fun x L' => by
      rw [qda _ _ _ _ g3']; unfold upd; rw [if_neg (by omega)]; exact a0
    repeat' (first | ((first | ((with_reducible refine qf (fun hg => ?_) (fun hg => ?_)) <;> (try simp only [hg]) <;> (try simp only [gS] at hg) <;> (try (first | simp only [eq_false hg, gI] | simp only [eq_true hg, gI]))) | refine Stp.m ?_ | refine ql ?_ | refine agH ?_) <;> (try simp (disch := first | omega | simp) [qd, -qg, -qm, f0, f1, f2, g3', g4', hpk, hpw])) | refine sideA ?_ | refine qc fun K hK => ?_ | refine qa ?_ | refine qe ?_ | refine qb ?_ | (refine hK _ ?_; clear hK K) | clear hK K)
    rw [hPs]
    exact updB_set2 h2.at' 1 0 _ _ (by simp) (by simp)
  · intro D
    simp only [Bool.false_eq_true, if_false, FBlock, FThen]
    refine hK _ _ ?_
    clear hK K
    refine qge ?_
    unfold qbo at hR
    by_cases hp : qbh (qbk S) = S
    · rw [if_pos hp] at hR
      have hb : qh (qbh (qbk S)) = s := by rw [hp]; exact (bA_eq hS).symm
      rw [hb] at c9
      repeat' (first | ((first | ((with_reducible refine qf (fun hg => ?_) (fun hg => ?_)) <;> (try simp only [hg]) <;> (try simp only [gS] at hg) <;> (try (first | simp only [eq_false hg, gI] | simp only [eq_true hg, gI]))) | refine Stp.m ?_ | refine ql ?_ | refine agH ?_) <;> (try simp (disch := first | omega | simp) [qd, -qg, -qm, hPe])) | refine sideA ?_ | refine qc fun K hK => ?_ | refine qa ?_ | refine qe ?_ | refine qb ?_ | (refine hK _ ?_; clear hK K) | clear hK K)
      subst hR
      refine fend_mark 3 (.inr rfl) (by rfl) ?_
      simp
    · rw [if_neg hp] at hR
      have hb : (qbh (qbk S) == s.toList) = false := by
        rw [beq_eq_false_iff_ne, ByteArray.toList_eq, hS]
        exact hp
      repeat' (first | ((first | ((with_reducible refine qf (fun hg => ?_) (fun hg => ?_)) <;> (try simp only [hg]) <;> (try simp only [gS] at hg) <;> (try (first | simp only [eq_false hg, gI] | simp only [eq_true hg, gI]))) | refine Stp.m ?_ | refine ql ?_ | refine agH ?_) <;> (try simp (disch := first | omega | simp) [qd, -qg, -qm, hPe, hb])) | refine sideA ?_ | refine qc fun K hK => ?_ | refine qa ?_ | refine qe ?_ | refine qb ?_ | (refine hK _ ?_; clear hK K) | clear hK K)
      subst hR
      refine fend_mark 3 (.inr rfl) (by rfl) ?_
      simp
end Go.Proofs.YtbkkjlcclddpdaaGreatDoor

/- Layer 14 on plain data: a step that can be done, part by part. -/
namespace Go.Proofs.YtbkkjlcclddpdaaGreatDoor
open Go.RowKit Go.Lib
def nam (s : ByteArray) : Prop := ownP s.toList = true
structure At (x : Lens) (L : List Col) (i : Nat) (hi : i < L.length) : Prop where
  find : findP L x.a.toList = i
  name : L[i].name.toList = x.a.toList
inductive StepOk (x : Lens) (L : List Col) : Prop
  | add (ho : x.op = 0) (ha : nam x.a) (hn : findP L x.a.toList < 0) (hl : L.length < 12) (hR : (oneP x L).1 = L ++ [⟨x.a, x.value.k, x.b⟩]) (hu : x.b.toList = [] ∨ nam x.b ∧ x.value.k = 0) (hv : qdg x.value = true)
  | drop (i : Nat) (hi : i < L.length) (ho : x.op = 1) (h : At x L i hi) (hk : L[i].type = x.value.k) (hl : 2 ≤ L.length) (hR : (oneP x L).1 = L.eraseIdx i) (hv : qdg x.value = true)
  | rename (i : Nat) (hi : i < L.length) (ho : x.op = 2) (h : At x L i hi) (hb : nam x.b) (hb2 : findP L x.b.toList < 0) (hR : (oneP x L).1 = L.set i ⟨x.b, L[i].type, L[i].unit⟩)
  | split (i : Nat) (hi : i < L.length) (ho : x.op = 3) (h : At x L i hi) (hk : L[i].type = 1) (hb : nam x.b) (hc : nam x.c) (hs : 1 ≤ x.sep.size ∧ x.sep.size ≤ 200) (hbc : x.b.toList ≠ x.c.toList) (hb2 : findP L x.b.toList < 0 ∨ x.b.toList = x.a.toList) (hc2 : findP L x.c.toList < 0 ∨ x.c.toList = x.a.toList) (hl : L.length < 12)
      (hR : (oneP x L).1 = L.take i ++ [⟨x.b, 1, ⟨#[]⟩⟩, ⟨x.c, 1, ⟨#[]⟩⟩] ++ L.drop (i + 1))
  | join (i k : Nat) (hi : i < L.length) (hk : k < L.length) (ho : x.op = 4) (h : At x L i hi) (hkf : findP L x.b.toList = k) (hkn : L[k].name.toList = x.b.toList) (hik : i ≠ k) (ti : L[i].type = 1) (tk : L[k].type = 1) (hc : nam x.c) (hs : 1 ≤ x.sep.size ∧ x.sep.size ≤ 200) (hc2 : findP L x.c.toList < 0 ∨ x.c.toList = x.a.toList ∨ x.c.toList = x.b.toList)
      (hR : (oneP x L).1 = (L.set i ⟨x.c, L[i].type, L[i].unit⟩).eraseIdx k)
  | retype (i : Nat) (hi : i < L.length) (ho : x.op = 5) (h : At x L i hi) (hn0 : 0 ≤ x.n) (hn3 : x.n < 3) (hv : qdg x.value = true) (hk : x.value.k = x.n) (ht : L[i].type ≠ x.n) (hR : (oneP x L).1 = L.set i ⟨L[i].name, x.n, ⟨#[]⟩⟩)
  | scale (i : Nat) (hi : i < L.length) (ho : x.op = 6) (h : At x L i hi) (ht : L[i].type = 0) (hn : x.n ≠ 0) (hu : x.b.toList = [] ∨ nam x.b) (hR : (oneP x L).1 = L.set i ⟨L[i].name, L[i].type, x.b⟩)
theorem takenB_no {L : List Col} {s : List UInt8} {bs : List (List UInt8)} (h : ¬ takenB L s bs = true) : findP L s < 0 ∨ s ∈ bs := by
  unfold takenB at h
  simp only [Bool.and_eq_true, decide_eq_true_eq, Bool.not_eq_true', not_and] at h
  by_cases h1 : 0 ≤ findP L s
  · exact .inr (by simpa using h h1)
  · exact .inl (by omega)
theorem optB {b : ByteArray} (h : (if !strE b then ownA b else strE b) = true) : b.toList = [] ∨ nam b := by
  by_cases hb : b.toList = []
  · exact .inl hb
  · have : strE b = false := by unfold strE; simp [hb]
    rw [this] at h
    exact .inr (by simpa [nam, ownA] using h)
theorem sepB_ok {s : ByteArray} (h : sepB s = true) : 1 ≤ s.size ∧ s.size ≤ 200 := by unfold sepB at h; simpa using h
theorem step_ok {x : Lens} {L : List Col} (h : (oneP x L).2 = 0) : StepOk x L := by
  by_cases hr : qv x = true
  · have hr' := hr
    unfold qv at hr'
    rw [Bool.and_eq_true] at hr'
    obtain ⟨ha, hr'⟩ := hr'
    by_cases h0 : x.op = 0
    · rw [if_pos h0] at hr'
      simp only [usedB, Bool.and_eq_true, Bool.or_eq_true, Bool.true_or, Bool.false_eq_true, if_true, if_false, decide_eq_true_eq] at hr'
      obtain ⟨⟨⟨⟨⟨h1, h2⟩, h3⟩, h4⟩, h5⟩, h6⟩ := hr'
      have hR : (oneP x L).1 = _ := rfl
      unfold oneP at h
      conv at hR => rhs; unfold oneP
      rw [if_neg (by simp [hr]), if_pos h0] at h hR
      split at h
      · cases h
      · split at h
        · cases h
        · rename_i g1 g2
          rw [if_neg g1, if_neg g2] at hR
          refine .add h0 ha (by omega) (by omega) hR ?_ h5
          rcases optB h1 with h7 | h7
          · exact .inl h7
          · rcases h6 with h6 | h6
            · exact .inl (by unfold strE at h6; simpa using h6)
            · exact .inr ⟨h7, h6⟩
    · obtain ⟨i, hi1, hi, hn, hb, he, hR⟩ := oneP_ok hr h0 h
      have hat : At x L i hi := ⟨hi1, hn⟩
      have hci := qcw hi
      unfold qde at he
      unfold nextP at hR
      rw [hci] at he hR
      rw [if_neg h0] at hr'
      rcases right_op hr with ho | ho | ho | ho | ho | ho | ho
      · exact absurd ho h0
      all_goals simp only [ho, if_pos, if_neg, reduceIte, Int.reduceEq, usedB, Bool.and_eq_true, Bool.or_eq_true, Bool.true_or, Bool.false_eq_true, if_true, if_false, decide_eq_true_eq] at hr' he hR
      · obtain ⟨⟨⟨⟨h1, h2⟩, h3⟩, h4⟩, h5⟩ := hr'
        split at he
        · cases he
        · split at he
          · cases he
          · rename_i g1 g2
            exact .drop i hi ho hat (Classical.byContradiction g1) (by omega) hR h5
      · obtain ⟨⟨⟨⟨h1, h2⟩, h3⟩, h4⟩, h5⟩ := hr'
        split at he
        · cases he
        · rename_i g
          exact .rename i hi ho hat h1 (by rcases takenB_no g with g | g; exact g; cases g) hR
      · obtain ⟨⟨⟨⟨h1, h2⟩, h3⟩, h4⟩, h5⟩ := hr'
        split at he
        · cases he
        · split at he
          · cases he
          · split at he
            · cases he
            · rename_i g1 g2 g3
              simp only [not_or] at g2
              obtain ⟨g2, g4, g5⟩ := g2
              refine .split i hi ho hat (Classical.byContradiction g1) h1 h2 (sepB_ok h3) g2 ?_ ?_ (by omega) hR
              · rcases takenB_no g4 with g | g; exact .inl g; exact .inr (by simpa using g)
              · rcases takenB_no g5 with g | g; exact .inl g; exact .inr (by simpa using g)
      · obtain ⟨⟨⟨⟨⟨h1, h2⟩, h3⟩, h4⟩, h5⟩, h6⟩ := hr'
        obtain ⟨k, hk1, hk, hkn⟩ := findI (hb ho)
        have ek : (findP L x.b.toList).toNat = k := by omega
        have hck := qcw hk
        rw [ek] at he hR
        rw [hck] at he
        split at he
        · cases he
        · split at he
          · cases he
          · rename_i g1 g2
            rw [not_or] at g1
            refine .join i k hi hk ho hat hk1 hkn (fun e => ?_) (Classical.byContradiction g1.1) (Classical.byContradiction g1.2) h2 (sepB_ok h3) ?_ hR
            · subst e; exact h6 (hn.symm.trans hkn)
            · rcases takenB_no g2 with g | g; exact .inl g; exact .inr (by simpa using g)
      · obtain ⟨⟨⟨⟨⟨h1, h2⟩, h3⟩, h4⟩, h5⟩, h6, h7, h8⟩ := hr'
        split at he
        · cases he
        · rename_i g
          exact .retype i hi ho hat h6 h7 h5 h8 g hR
      · obtain ⟨⟨⟨⟨⟨h1, h2⟩, h3⟩, h4⟩, h5⟩, h6⟩ := hr'
        split at he
        · cases he
        · rename_i g
          exact .scale i hi ho hat (Classical.byContradiction g) h6 (optB h1) hR
  · unfold oneP at h
    rw [if_pos (by simpa using hr)] at h
    cases h
theorem step_len {x : Lens} {L : List Col} (h : StepOk x L) : (x.op = 0 → (oneP x L).1.length = L.length + 1) ∧ (x.op = 1 → (oneP x L).1.length + 1 = L.length) ∧ (x.op = 3 → (oneP x L).1.length = L.length + 1) ∧ (x.op = 4 → (oneP x L).1.length + 1 = L.length) ∧ (x.op = 2 ∨ x.op = 5 ∨ x.op = 6 → (oneP x L).1.length = L.length) := by
  cases h
  case add ho ha hn hl hR hu hv => rw [hR, ho]; simp
  case drop i hi ho h hk hl hR hv => rw [hR, ho, List.length_eraseIdx_of_lt hi]; simp; omega
  case rename i hi ho h hb hb2 hR => rw [hR, ho]; simp
  case split i hi ho h hk hb hc hs hbc hb2 hc2 hl hR => rw [hR, ho]; simp; omega
  case join i k hi hk ho h hkf hkn hik ti tk hc hs hc2 hR => rw [hR, ho, List.length_eraseIdx_of_lt (by rw [List.length_set]; exact hk), List.length_set]; simp; omega
  case retype i hi ho h hn0 hn3 hv hk ht hR => rw [hR, ho]; simp
  case scale i hi ho h ht hn hu hR => rw [hR, ho]; simp
end Go.Proofs.YtbkkjlcclddpdaaGreatDoor

/- Slice literals that grow. -/
namespace Go.Proofs.YtbkkjlcclddpdaaGreatDoor
open Go.RowKit Go.Lib
theorem EOp.frz {P : Program} {s : AS} {o : Op} {K : AV → AS → Prop} {r n : Nat} {l : List AV} {et : TypeId} {sz : Nat} (h : EOp P s o fun x s1 => x = .own r n ∧ n = l.length ∧ s1.st r = .vec l et sz ∧ K (.gs s1.nx l) ((s1.set r .dead).ext (some (.tail l.length et sz)))) : EOp P s o K := by
  intro X0 a w X oper ho hc Q
  refine OwpA.mono ?_ (h X0 a w X oper ho hc Q)
  rintro a' w' ⟨v, x, s1, X', e1, ⟨rfl, hn, hσ, hK⟩, hc', hr⟩
  obtain ⟨X2, hw, hc2, hF, hR⟩ := con_freeze hc' hσ
  exact ⟨v, _, _, X2, e1, hK, hc2, hR v n hn hr⟩
theorem ext_dead (s : AS) (ab cd : AB) : ((s.ext (some ab)).set s.nx .dead).ext (some cd) = (s.ext (some .dead)).ext (some cd) := by
  have h : (s.ext (some ab)).set s.nx .dead = s.ext (some .dead) := by
    unfold AS.set AS.ext AS.nx
    dsimp only
    rw [if_neg (by omega), Nat.add_sub_cancel_left]
    simp
  rw [h]
def aevZ (P : Program) (s : AS) (o : Op) (K : AV → AS → Prop) : Prop :=
  match o with
  | .buildSlice t n ⟨p :: ps⟩ => match vinfo P t with
    | some (e, sz, _) => n = (p :: ps).length ∧ n * sz ≤ 16777216 ∧ bldS sz 0 ((p :: ps).map fun p => (p.1, s.eval p.2)) ∧ AV.wid ((p :: ps).map fun p => (s.eval p.2).pub) sz ∧
        K (.gs (s.n0 + (s.L.length + 1)) ((p :: ps).map fun p => (s.eval p.2).pub)) ((s.ext (some .dead)).ext (some (.tail n e sz)))
    | none => False
  | o => aev P s o K
theorem aevZ_sound {P : Program} {s : AS} {o : Op} {K : AV → AS → Prop} (h : aevZ P s o K) : EOp P s o K := by
  unfold aevZ at h
  split at h
  · rename_i t n p ps
    split at h
    · rename_i e sz _ hv
      obtain ⟨h1, h2, h3, h4, h5⟩ := h
      have hlen : ((p :: ps).map fun p => (s.eval p.2).pub).length = n := by rw [List.length_map, h1]
      refine EOp.frz (r := s.nx) (n := n) (l := (p :: ps).map fun p => (s.eval p.2).pub) (et := e) (sz := sz) (eop_fun (nb := some _) (fop_litVec hv h1 h2 h3 h4) ⟨rfl, hlen.symm, ?_, ?_⟩)
      · show loc s.σ s.n0 (s.L ++ [_]) (s.n0 + s.L.length) = _
        rw [loc_add]; simp
      · rw [ext_dead, hlen]
        have : (s.ext (some (AB.vec ((p :: ps).map fun p => (s.eval p.2).pub) e sz))).nx = s.n0 + (s.L.length + 1) := by
          show s.n0 + (s.L ++ [_]).length = _
          simp
        rw [this]
        exact h5
    · exact h.elim
  · exact qbt h
def aseqZ (P : Program) (ops : Array Oper) (K : AS → Prop) : List Oper → AS → Prop
  | [], s => K s
  | o :: l, s => match awant ops o s.t with
    | some b => qbv b (aevZ P s o.op (fun x s1 => dstOk o.dst s1.n ∧ aseqZ P ops K l (s1.put o.dst x))) (dstOk o.dst s.n ∧ aseqZ P ops K l (s.put o.dst (.v undef)))
    | none => False
theorem aseqZ_sound {P : Program} {ops : Array Oper} {K : AS → Prop} : ∀ {l : List Oper} {s : AS}, aseqZ P ops K l s → aseq P ops K l s
  | [], _, h => h
  | o :: l, s, h => by
    rw [aseqZ] at h
    rw [aseq]
    split at h
    · rename_i b hb
      cases b with
      | true => exact ⟨true, hb, (aevZ_sound (h.1 rfl)).mono fun x s1 ⟨h1, h2⟩ => ⟨h1, aseqZ_sound h2⟩⟩
      | false => exact ⟨false, hb, (h.2 rfl).1, aseqZ_sound (h.2 rfl).2⟩
    · exact h.elim
theorem awp_regionZ {P : Program} {s : AS} {id : Nat} {l : List Oper} {Q : Exit → AS → Prop} (h : aseqZ P l.toArray (Q .normal) l s) : awp P (.region id l.toArray false) Q s := qdo (aseqZ_sound h)
instance {P : Program} {ops : Array Oper} {K : AS → Prop} {o : Oper} {l : List Oper} {s : AS} : Stp (aseqZ P ops K (o :: l) s) (match awant ops o s.t with
    | some b => qbv b (aevZ P s o.op (fun x s1 => dstOk o.dst s1.n ∧ aseqZ P ops K l (s1.put o.dst x))) (dstOk o.dst s.n ∧ aseqZ P ops K l (s.put o.dst (.v undef)))
    | none => False) := ⟨fun h => h⟩
instance {P : Program} {ops : Array Oper} {K : AS → Prop} {s : AS} : Stp (aseqZ P ops K [] s) (K s) := ⟨fun h => h⟩
attribute [simp] aevZ
end Go.Proofs.YtbkkjlcclddpdaaGreatDoor

/- Walks of lens.shapes, lens.To. -/
namespace Go.Proofs.YtbkkjlcclddpdaaGreatDoor
open Go.RowKit Go.Lib
theorem cloCg (l : List AV) (hne : l ≠ []) (hL : l.length ≤ 1000000) (hw : AV.wid l 3) (he : AV.elms l) (hcl' : ∀ m, AV.cls m l) : Gives Tryz.prog 46 [.sl l] (.sl l) := by
  refine gives_of_awp Tryz.func46 Tryz.ntmps46 rfl rfl (by decide) rfl (by intro n; simpa using hcl' n) fun σ n0 hcl hft => ?_
  repeat' (first | ((first | ((with_reducible refine qf (fun hg => ?_) (fun hg => ?_)) <;> (try simp only [hg]) <;> (try simp only [gS] at hg) <;> (try (first | simp only [eq_false hg, gI] | simp only [eq_true hg, gI]))) | refine Stp.m ?_ | (with_reducible refine nil_split ?_ (fun hnil => ?_); try simp only [hnil])) <;> (try simp (disch := first | omega | simp) [qd, -qg, -qm, hw, he, hne])) | with_reducible refine qfx (id := 1) ?_ | refine sideA ?_ | refine qc fun K hK => ?_ | refine qa ?_ | refine qe ?_ | refine qb ?_ | (refine hK _ ?_; clear hK K) | clear hK K)
theorem cloVg (l : List AV) (hne : l ≠ []) (hL : l.length ≤ 1000000) (hw : AV.wid l 3) (he : AV.elms l) (hcl' : ∀ m, AV.cls m l) : Gives Tryz.prog 58 [.sl l] (.sl l) := by
  refine gives_of_awp Tryz.func58 Tryz.ntmps58 rfl rfl (by decide) rfl (by intro n; simpa using hcl' n) fun σ n0 hcl hft => ?_
  repeat' (first | ((first | ((with_reducible refine qf (fun hg => ?_) (fun hg => ?_)) <;> (try simp only [hg]) <;> (try simp only [gS] at hg) <;> (try (first | simp only [eq_false hg, gI] | simp only [eq_true hg, gI]))) | refine Stp.m ?_ | (with_reducible refine nil_split ?_ (fun hnil => ?_); try simp only [hnil])) <;> (try simp (disch := first | omega | simp) [qd, -qg, -qm, hw, he, hne])) | with_reducible refine qfx (id := 1) ?_ | refine sideA ?_ | refine qc fun K hK => ?_ | refine qa ?_ | refine qe ?_ | refine qb ?_ | (refine hK _ ?_; clear hK K) | clear hK K)
theorem shapes_snoc (x : Lens) : ∀ (l : List Lens) (cols : List Col) (ss : List (List Col)), qn l cols = (ss, 0) → qn (l ++ [x]) cols = if (oneP x (ss.getLastD cols)).2 ≠ 0 then ([], (oneP x (ss.getLastD cols)).2) else (ss ++ [(oneP x (ss.getLastD cols)).1], 0)
  | [], cols, ss, h => by
    rw [qn] at h
    cases h
    rw [List.nil_append, qn, qn]
    rfl
  | y :: l, cols, ss, h => by
    rw [qn] at h
    split at h
    · exact absurd (Prod.mk.inj h).2 (by assumption)
    · split at h
      · exact absurd (Prod.mk.inj h).2 (by assumption)
      · rename_i h1 h2
        have h2' : (qn l (oneP y cols).1).2 = 0 := Classical.byContradiction h2
        cases h
        have ih := shapes_snoc x l (oneP y cols).1 (qn l (oneP y cols).1).1 (by rw [← h2'])
        have hne : (qn l (oneP y cols).1).1 ≠ [] := by
          cases l with
          | nil => simp [qn]
          | cons z l =>
            intro he
            rw [qn] at h2' he
            split at he
            · rename_i hh; rw [if_pos hh] at h2'; exact hh h2'
            · rename_i hh
              rw [if_neg hh] at h2'
              split at he
              · rename_i hh2; rw [if_pos hh2] at h2'; exact hh2 h2'
              · cases he
        have hlast : ((cols :: (qn l (oneP y cols).1).1).getLastD cols) = (qn l (oneP y cols).1).1.getLastD (oneP y cols).1 := by
          cases hq : (qn l (oneP y cols).1).1 with
          | nil => exact absurd hq hne
          | cons a b => simp [List.getLastD]
        rw [hlast, List.cons_append, qn, if_neg h1, ih]
        split
        · rename_i hh; first | rfl | rw [if_pos hh]
        · rfl
theorem shapes_pre (l m : List Lens) (cols : List Col) (h : (qn l cols).2 ≠ 0) : qn (l ++ m) cols = ([], (qn l cols).2) := by
  induction l generalizing cols with
  | nil => exact absurd rfl h
  | cons y l ih =>
    rw [qn] at h
    rw [List.cons_append, qn, qn]
    split at h
    · rename_i h1; rw [if_pos h1, if_pos h1]
    · rename_i h1
      rw [if_neg h1, if_neg h1]
      split at h
      · rename_i h2; rw [if_pos h2, ih _ h2, if_pos h2]
      · exact absurd rfl h
theorem one_len {x : Lens} {cols : List Col} (h0 : 1 ≤ cols.length) (h1 : cols.length ≤ 12) (h : (oneP x cols).2 = 0) : 1 ≤ (oneP x cols).1.length ∧ (oneP x cols).1.length ≤ 12 := by
  by_cases hr : qv x = true
  · by_cases hx : x.op = 0
    · unfold oneP at h ⊢
      rw [if_neg (by simp [hr]), if_pos hx] at h ⊢
      split at h
      · cases h
      · split at h
        · cases h
        · rename_i g1 g2
          rw [if_neg g1, if_neg g2]
          simp; omega
    · obtain ⟨i, hi1, hi2, hn, hb, he, hR⟩ := oneP_ok hr hx h
      rw [hR]
      unfold qde at he
      unfold nextP
      rcases right_op hr with ho | ho | ho | ho | ho | ho | ho
      · exact absurd ho hx
      · rw [if_pos ho] at he ⊢
        rw [List.length_eraseIdx_of_lt hi2]
        split at he
        · cases he
        · split at he
          · cases he
          · omega
      · rw [if_neg (by omega), if_pos ho, List.length_set]; omega
      · rw [if_neg (by omega), if_neg (by omega), if_pos ho] at he ⊢
        have h12 : ¬ 12 ≤ cols.length := fun h12 => by
          repeat' split at he
          all_goals first | cases he | contradiction
        simp; omega
      · obtain ⟨k, hk1, hk2, hk3⟩ := findI (hb ho)
        have hne : i ≠ k := fun e => by
          subst e
          have : x.a.toList ≠ x.b.toList := by
            unfold qv at hr
            rw [if_neg (by omega), if_neg (by omega), if_neg (by omega), if_neg (by omega), if_pos ho] at hr
            simp only [Bool.and_eq_true, decide_eq_true_eq] at hr
            exact hr.2.2
          exact this (hn.symm.trans hk3)
        rw [if_neg (by omega), if_neg (by omega), if_neg (by omega), if_pos ho, List.length_eraseIdx_of_lt (by rw [List.length_set]; omega), List.length_set]
        omega
      · rw [if_neg (by omega), if_neg (by omega), if_neg (by omega), if_neg (by omega), if_pos ho, List.length_set]; omega
      · rw [if_neg (by omega), if_neg (by omega), if_neg (by omega), if_neg (by omega), if_neg (by omega), if_pos ho, List.length_set]; omega
  · unfold oneP at h
    rw [if_pos (by simpa using hr)] at h
    cases h
theorem shapes_len : ∀ {l : List Lens} {cols : List Col} {ss : List (List Col)}, qn l cols = (ss, 0) → ss.length = l.length + 1 ∧ (1 ≤ cols.length → cols.length ≤ 12 → ∀ s ∈ ss, 1 ≤ s.length ∧ s.length ≤ 12)
  | [], cols, ss, h => by
    rw [qn] at h
    cases h
    exact ⟨rfl, fun h0 h1 s hs => by simp at hs; subst hs; exact ⟨h0, h1⟩⟩
  | y :: l, cols, ss, h => by
    rw [qn] at h
    split at h
    · exact absurd (Prod.mk.inj h).2 (by assumption)
    · split at h
      · exact absurd (Prod.mk.inj h).2 (by assumption)
      · rename_i h1 h2
        have h1' : (oneP y cols).2 = 0 := Classical.byContradiction h1
        have h2' : (qn l (oneP y cols).1).2 = 0 := Classical.byContradiction h2
        cases h
        obtain ⟨e1, e2⟩ := shapes_len (l := l) (cols := (oneP y cols).1) (ss := (qn l (oneP y cols).1).1) (by rw [← h2'])
        refine ⟨by rw [List.length_cons, e1, List.length_cons], fun h0 h3 s hs => ?_⟩
        rcases List.mem_cons.1 hs with rfl | hs
        · exact ⟨h0, h3⟩
        · obtain ⟨g1, g2⟩ := one_len h0 h3 h1'
          exact e2 g1 g2 s hs
def qbi (l : List Lens) (cols : List Col) : List (List Col) × Int := if 60 < l.length then ([], 6) else qn l cols
def qcz (L : List Col) : AV := .sl (L.map Col.av)
@[simp] theorem colsAv_cl (L : List Col) (m : Nat) : (qcz L).cl m := by unfold qcz; simp
@[simp] theorem colsAvs_wid (L : List (List Col)) : AV.wid (L.map qcz) 1 := AV.wid_map (f := qcz) (fun _ => rfl) L
@[simp] theorem colsAvs_elms (L : List (List Col)) : AV.elms (L.map qcz) := AV.elms_map (f := qcz) (fun _ => rfl) L
set_option maxHeartbeats 4000000 in
theorem shapes_g (l : List Lens) (cols : List Col) (hl : ∀ x ∈ l, qbp x) (hL : l.length ≤ 1000000) (h0 : 1 ≤ cols.length) (h1 : cols.length ≤ 12) : Gives Tryz.prog 56 [.sl (l.map Lens.av), .sl (cols.map Col.av)] (.tup [.sl ((qbi l cols).1.map qcz), .int (qbi l cols).2]) := by
  obtain ⟨R, hR⟩ : ∃ R, R = qbi l cols := ⟨_, rfl⟩
  rw [← hR]
  unfold qbi at hR
  by_cases h60 : 60 < l.length
  · rw [if_pos h60] at hR
    subst hR
    have h60' : (60 : Int) < l.length := by omega
    refine qj Tryz.func56 Tryz.ntmps56 fun σ n0 hcl hft => ?_
    repeat' (first | ((first | ((with_reducible refine qf (fun hg => ?_) (fun hg => ?_)) <;> (try simp only [hg]) <;> (try simp only [gS] at hg) <;> (try (first | simp only [eq_false hg, gI] | simp only [eq_true hg, gI]))) | refine Stp.m ?_) <;> (try simp (disch := first | omega | simp) [qd, -qg, -qm, h60'])) | refine sideA ?_ | refine qc fun K hK => ?_ | refine qa ?_ | refine qe ?_ | refine qb ?_ | (refine hK _ ?_; clear hK K) | clear hK K)
  · rw [if_neg h60] at hR
    have h60' : ¬ (60 : Int) < l.length := by omega
    have c1 := cloCg (cols.map Col.av) (by intro e; rw [List.map_eq_nil_iff] at e; subst e; simp at h0) (by simp; omega) (Col.avs_wid cols) (Col.avs_elms cols) (fun m => Col.avs_cl cols m)
    refine qj Tryz.func56 Tryz.ntmps56 fun σ n0 hcl hft => ?_
    repeat' (first | ((first | ((with_reducible refine qf (fun hg => ?_) (fun hg => ?_)) <;> (try simp only [hg]) <;> (try simp only [gS] at hg) <;> (try (first | simp only [eq_false hg, gI] | simp only [eq_true hg, gI]))) | refine Stp.m ?_ | refine ql ?_ | refine agH ?_) <;> (try simp (disch := first | omega | simp) [qd, -qg, -qm, h60'])) | with_reducible refine awp_regionZ (id := 3) ?_ | refine sideA ?_ | refine qc fun K hK => ?_ | refine qa ?_ | refine qe ?_ | refine qb ?_ | (refine hK _ ?_; clear hK K) | clear hK K)
    refine qw hcl (fun k : Nat => [(6, .gs (n0 + 1) ((qn (l.take k) cols).1.map qcz)), (17, .sl (l.map Lens.av)), (18, .int l.length), (19, .int k)]) (fun k => [.dead, .tail (k + 1) 35 1])
      (fun k => k ≤ l.length ∧ (qn (l.take k) cols).2 = 0) (fun k => l.length - k) 0 ⟨by omega, by simp [qn]⟩ (by simp [qn, qcz]) fun k ⟨hk, he⟩ => ?_
    obtain ⟨ss, hss⟩ : ∃ ss, ss = (qn (l.take k) cols).1 := ⟨_, rfl⟩
    have hsk : qn (l.take k) cols = (ss, 0) := by rw [hss, ← he]
    rw [← hss]
    obtain ⟨hlen, hsz⟩ := shapes_len hsk
    rw [List.length_take, Nat.min_eq_left hk] at hlen
    by_cases hlt : k < l.length
    · have hks : k < ss.length := by omega
      have hlast : ss.getLastD cols = ss[k] := by
        rw [List.getLastD_eq_getLast?, List.getLast?_eq_getElem?, hlen, Nat.add_sub_cancel, List.getElem?_eq_getElem hks]; rfl
      have hsn := shapes_snoc l[k] (l.take k) cols ss hsk
      rw [hlast, ← List.take_succ_eq_append_getElem hlt] at hsn
      obtain ⟨g1, g2⟩ := hsz h0 h1 _ (List.getElem_mem hks)
      have c2 := one_g l[k] ss[k] (hl _ (List.getElem_mem hlt)) g1 (by omega)
      by_cases he2 : (oneP l[k] ss[k]).2 = 0
      · rw [if_neg (by simpa using he2)] at hsn
        rw [he2] at c2
        have hkk : (k : Int) < (k : Int) + 1 := by omega
        repeat' (first | ((first | ((with_reducible refine qf (fun hg => ?_) (fun hg => ?_)) <;> (try simp only [hg]) <;> (try simp only [gS] at hg) <;> (try (first | simp only [eq_false hg, gI] | simp only [eq_true hg, gI]))) | refine Stp.m ?_ | refine ql ?_ | refine agH ?_) <;> (try simp (disch := first | omega | simp) [qd, -qg, -qm, hlt, hks, hlen, qcz, hkk])) | refine sideA ?_ | refine qc fun K hK => ?_ | refine qa ?_ | refine qe ?_ | refine qb ?_ | (refine hK _ ?_; clear hK K) | clear hK K)
        exact ⟨k + 1, ⟨by omega, by rw [hsn]⟩, by omega, rfl, by rw [hsn]; simp [qcz], by simp⟩
      · rw [if_pos he2] at hsn
        have he3 : ((oneP l[k] ss[k]).2 != 0) = true := by simpa using he2
        have hfin := shapes_pre (l.take (k + 1)) (l.drop (k + 1)) cols (by rw [hsn]; exact he2)
        rw [List.take_append_drop, hsn] at hfin
        rw [hfin] at hR
        have hkk : (k : Int) < (k : Int) + 1 := by omega
        repeat' (first | ((first | ((with_reducible refine qf (fun hg => ?_) (fun hg => ?_)) <;> (try simp only [hg]) <;> (try simp only [gS] at hg) <;> (try (first | simp only [eq_false hg, gI] | simp only [eq_true hg, gI]))) | refine Stp.m ?_ | refine ql ?_ | refine agH ?_) <;> (try simp (disch := first | omega | simp) [qd, -qg, -qm, hlt, hks, hlen, qcz, he3, hkk])) | refine sideA ?_ | refine qc fun K hK => ?_ | refine qa ?_ | refine qe ?_ | refine qb ?_ | (refine hK _ ?_; clear hK K) | clear hK K)
        rw [hR]; exact ⟨rfl, rfl⟩
    · obtain rfl : k = l.length := by omega
      rw [List.take_length] at hsk
      rw [hsk] at hR
      repeat' (first | ((first | ((with_reducible refine qf (fun hg => ?_) (fun hg => ?_)) <;> (try simp only [hg]) <;> (try simp only [gS] at hg) <;> (try (first | simp only [eq_false hg, gI] | simp only [eq_true hg, gI]))) | refine Stp.m ?_) <;> (try simp (disch := first | omega | simp) [qd, -qg, -qm, hlt])) | refine sideA ?_ | refine qc fun K hK => ?_ | refine qa ?_ | refine qe ?_ | refine qb ?_ | (refine hK _ ?_; clear hK K) | clear hK K)
      rw [hR]; exact ⟨rfl, rfl⟩
theorem to_g (l : List Lens) (cols : List Col) (hl : ∀ x ∈ l, qbp x) (hL : l.length ≤ 1000000) (h0 : 1 ≤ cols.length) (h1 : cols.length ≤ 12) : Gives Tryz.prog 22 [.sl (l.map Lens.av), .sl (cols.map Col.av)] (.tup [.sl ((toP l cols).1.map Col.av), .int (toP l cols).2]) := by
  have c1 := shapes_g l cols hl hL h0 h1
  have ht : toP l cols = if (qbi l cols).2 ≠ 0 then ([], (qbi l cols).2) else ((qbi l cols).1.getD l.length [], 0) := by
    unfold toP qbi
    by_cases h : 60 < l.length
    · rw [if_pos h, if_pos h]; rfl
    · rw [if_neg h, if_neg h]
  rw [ht]
  by_cases he : (qbi l cols).2 = 0
  · rw [if_neg (by simpa using he)]
    have hle : ¬ 60 < l.length := fun h => by unfold qbi at he; rw [if_pos h] at he; cases he
    have hs : qn l cols = ((qbi l cols).1, 0) := by unfold qbi at he ⊢; rw [if_neg hle] at he ⊢; rw [← he]
    obtain ⟨hlen, -⟩ := shapes_len hs
    have hk : l.length < (qbi l cols).1.length := by omega
    rw [he] at c1
    rw [List.getD_eq_getElem?_getD, List.getElem?_eq_getElem hk]
    generalize (qbi l cols).1 = ss at *
    refine qj Tryz.func22 Tryz.ntmps22 fun σ n0 hcl hft => ?_
    repeat' (first | ((first | ((with_reducible refine qf (fun hg => ?_) (fun hg => ?_)) <;> (try simp only [hg]) <;> (try simp only [gS] at hg) <;> (try (first | simp only [eq_false hg, gI] | simp only [eq_true hg, gI]))) | refine Stp.m ?_ | refine ql ?_ | refine agH ?_) <;> (try simp (disch := first | omega | simp) [qd, -qg, -qm, hk, qcz])) | refine sideA ?_ | refine qc fun K hK => ?_ | refine qa ?_ | refine qe ?_ | refine qb ?_ | (refine hK _ ?_; clear hK K) | clear hK K)
  · rw [if_pos he]
    have he3 : ((qbi l cols).2 != 0) = true := by simpa using he
    refine qj Tryz.func22 Tryz.ntmps22 fun σ n0 hcl hft => ?_
    repeat' (first | ((first | ((with_reducible refine qf (fun hg => ?_) (fun hg => ?_)) <;> (try simp only [hg]) <;> (try simp only [gS] at hg) <;> (try (first | simp only [eq_false hg, gI] | simp only [eq_true hg, gI]))) | refine Stp.m ?_ | refine ql ?_ | refine agH ?_) <;> (try simp (disch := first | omega | simp) [qd, -qg, -qm, he3])) | refine sideA ?_ | refine qc fun K hK => ?_ | refine qa ?_ | refine qe ?_ | refine qb ?_ | (refine hK _ ?_; clear hK K) | clear hK K)
end Go.Proofs.YtbkkjlcclddpdaaGreatDoor
