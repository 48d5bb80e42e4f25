/- Layer 14 on plain data: forward, back and forward again; walk of the law LensSettles. -/
import Derived.Test.YtbkkjlcclddpdaaGreatDoorCards
import Derived.Test.YtbkkjlcclddpdaaGreatDoorTie
import Derived.SevenTiedAt
import Derived.Stop.Joined
import Derived.Lib.LaidU8
import Derived.HandedShaped
import Derived.Lay
import Derived.LaidMore
import Derived.OpenShut
import Derived.Test.YtbkkjlcclddpdaaGreatDoorProg
import Derived.KernelRfl
import Derived.Test.YtbkkjlcclddpdaaGreatDoorRows
import Derived.Deep.DeepHandedRow
import Derived.Lib.LaidTab
import Derived.Test.YtbkkjlcclddpdaaGreatDoorGb1
import Derived.Test.YtbkkjlcclddpdaaGreatDoorGb8
import Derived.Test.YtbkkjlcclddpdaaGreatDoorGb10
import Derived.Test.YtbkkjlcclddpdaaGreatDoorGb18
import Derived.Test.YtbkkjlcclddpdaaGreatDoorGb19
import Derived.Test.YtbkkjlcclddpdaaGreatDoorGb31
set_option linter.unusedSimpArgs false
set_option linter.unusedVariables false
namespace Go.Proofs.YtbkkjlcclddpdaaGreatDoor
open Go.RowKit Go.Lib
theorem erase_mid (A B : List Val) (v : Val) : (A ++ [v] ++ B).eraseIdx A.length = A ++ B := by
  rw [List.append_assoc, List.eraseIdx_append_of_length_le (Nat.le_refl _)]
  simp
theorem index_no : ∀ (s sub : List UInt8), Lib.index s sub = -1 → ∀ a b, s = a ++ sub ++ b → False
  | [], sub, h, a, b, e => by
    have : sub = [] := by
      have := congrArg List.length e
      simp at this
      exact List.eq_nil_of_length_eq_zero (by omega)
    subst this
    simp [Lib.index] at h
  | c :: s, sub, h, a, b, e => by
    rw [Lib.index] at h
    split at h
    · cases h
    · rename_i hp
      split at h
      · rename_i h2
        have h2' : Lib.index s sub = -1 := by simpa using h2
        cases a with
        | nil =>
          apply hp
          rw [List.isPrefixOf_iff_prefix, e]
          exact ⟨b, by simp⟩
        | cons x a =>
          have : s = a ++ sub ++ b := by simpa using (List.cons.inj e).2
          exact index_no s sub h2' a b this
      · have := Lib.index_ge s sub
        omega
theorem index_at : ∀ (s sub : List UInt8) (n : Nat), Lib.index s sub = n → s.take n ++ sub ++ s.drop (n + sub.length) = s ∧ n + sub.length ≤ s.length ∧ ∀ a b, s.take n ≠ a ++ sub ++ b ∨ sub = []
  | [], sub, n, h => by
    rw [Lib.index] at h
    split at h
    · rename_i h2
      have : sub = [] := by simpa using h2
      subst this
      exact ⟨by simp, by simp; omega, fun _ _ => .inr rfl⟩
    · omega
  | c :: s, sub, n, h => by
    rw [Lib.index] at h
    split at h
    · rename_i hp
      obtain rfl : n = 0 := by omega
      rw [List.isPrefixOf_iff_prefix] at hp
      obtain ⟨t, ht⟩ := hp
      refine ⟨?_, ?_, fun a b => ?_⟩
      · rw [← ht]; simp
      · rw [← ht]; simp
      · by_cases hs : sub = []
        · exact .inr hs
        · refine .inl fun e => hs ?_
          have := congrArg List.length e
          simp at this
          exact List.eq_nil_of_length_eq_zero (by omega)
    · rename_i hp
      split at h
      · omega
      · have hge := Lib.index_ge s sub
        rename_i h2
        have h2' : Lib.index s sub ≠ -1 := by simpa using h2
        obtain ⟨m, hm⟩ : ∃ m : Nat, Lib.index s sub = m := ⟨(Lib.index s sub).toNat, by omega⟩
        obtain rfl : n = m + 1 := by omega
        obtain ⟨e1, e2, e3⟩ := index_at s sub m hm
        refine ⟨?_, by simp; omega, fun a b => ?_⟩
        · have : m + 1 + sub.length = (m + sub.length) + 1 := by omega
          rw [this, List.take_succ_cons, List.drop_succ_cons, List.cons_append, List.cons_append, e1]
        · by_cases hs : sub = []
          · exact .inr hs
          · refine .inl fun e => ?_
            rw [List.take_succ_cons] at e
            cases a with
            | nil =>
              apply hp
              rw [List.isPrefixOf_iff_prefix]
              refine ⟨b ++ s.drop m, ?_⟩
              have : c :: s = (c :: s.take m) ++ s.drop m := by simp
              rw [this, e]; simp
            | cons x a =>
              have e4 : s.take m = a ++ sub ++ b := by simpa using (List.cons.inj e).2
              rcases e3 a b with h5 | h5
              · exact h5 e4
              · exact hs h5
theorem cut_cases (s sep : List UInt8) (hs : sep ≠ []) : ((Lib.cut s sep).1 ++ sep ++ (Lib.cut s sep).2.1 = s ∨ (Lib.cut s sep).1 = s ∧ (Lib.cut s sep).2.1 = [] ∧ Lib.index s sep = -1) ∧ Lib.index (Lib.cut s sep).1 sep = -1 := by
  unfold Lib.cut
  by_cases h : 0 ≤ Lib.index s sep
  · rw [if_pos h]
    obtain ⟨n, hn⟩ : ∃ n : Nat, Lib.index s sep = n := ⟨(Lib.index s sep).toNat, by omega⟩
    obtain ⟨e1, e2, e3⟩ := index_at s sep n hn
    have e : (Lib.index s sep).toNat = n := by omega
    rw [e]
    refine ⟨.inl e1, ?_⟩
    show Lib.index (s.take n) sep = -1
    refine Classical.byContradiction fun hne => ?_
    have hge := Lib.index_ge (s.take n) sep
    obtain ⟨m, hm⟩ : ∃ m : Nat, Lib.index (s.take n) sep = m := ⟨(Lib.index (s.take n) sep).toNat, by omega⟩
    obtain ⟨f1, -, -⟩ := index_at _ _ m hm
    rcases e3 _ _ with h5 | h5
    · exact h5 f1.symm
    · exact hs h5
  · rw [if_neg h]
    have hge := Lib.index_ge s sep
    have : Lib.index s sep = -1 := by omega
    exact ⟨.inr ⟨rfl, rfl, this⟩, this⟩
theorem cut_none {s sep : List UInt8} (h : Lib.index s sep = -1) : Lib.cut s sep = (s, [], false) := by unfold Lib.cut; rw [if_neg (by omega)]
theorem cutV_id {s : List UInt8} (h : s.length ≤ 200) : (cutV s).s.data.toList = s := List.take_of_length_le h
theorem split_again {s sep : List UInt8} (hs : sep ≠ []) (hl : s.length ≤ 200) : qby (cutV ((qby s sep).1.s.data.toList ++ if (qby s sep).2.s.toList = [] then [] else sep ++ (qby s sep).2.s.data.toList)).s.data.toList sep = qby s sep := by
  obtain ⟨hc, hn⟩ := cut_cases s sep hs
  have l1 : (Lib.cut s sep).1.length ≤ 200 := by
    rcases hc with h | ⟨h, -, -⟩
    · have := congrArg List.length h; simp at this; omega
    · rw [h]; exact hl
  have l2 : (Lib.cut s sep).2.1.length ≤ 200 := by
    rcases hc with h | ⟨-, h, -⟩
    · have := congrArg List.length h; simp at this; omega
    · rw [h]; simp
  have p1 : (qby s sep).1.s.data.toList = (Lib.cut s sep).1 := cutV_id l1
  have p2 : (qby s sep).2.s.data.toList = (Lib.cut s sep).2.1 := cutV_id l2
  have p3 : (qby s sep).2.s.toList = (Lib.cut s sep).2.1 := by rw [ByteArray.toList_eq]; exact p2
  rw [p1, p2, p3]
  by_cases h2 : (Lib.cut s sep).2.1 = []
  · rw [if_pos h2, List.append_nil, cutV_id l1]
    unfold qby
    rw [cut_none hn, h2]
  · rw [if_neg h2]
    rcases hc with h | ⟨-, h, -⟩
    · rw [← List.append_assoc, h, cutV_id hl]
    · exact absurd h h2
theorem join_again {s sep : List UInt8} (hs : sep ≠ []) (hl : s.length ≤ 200) (hf : ∃ a b, s = a ++ sep ++ b) : (qby s sep).1.s.data.toList ++ sep ++ (qby s sep).2.s.data.toList = s := by
  obtain ⟨hc, hn⟩ := cut_cases s sep hs
  rcases hc with h | ⟨-, -, h⟩
  · have l1 : (Lib.cut s sep).1.length ≤ 200 := by have := congrArg List.length h; simp at this; omega
    have l2 : (Lib.cut s sep).2.1.length ≤ 200 := by have := congrArg List.length h; simp at this; omega
    have p1 : (qby s sep).1.s.data.toList = (Lib.cut s sep).1 := cutV_id l1
    have p2 : (qby s sep).2.s.data.toList = (Lib.cut s sep).2.1 := cutV_id l2
    rw [p1, p2, h]
  · obtain ⟨a, b, e⟩ := hf
    exact (index_no s sep h a b e).elim
theorem conv_again {v o : Val} {t n : Int} (hv : qbl v = true) (hi : i64 v.n) (hk : v.k = t) (ht0 : 0 ≤ t) (ht1 : t < 3) (hn0 : 0 ≤ n) (hn1 : n < 3) (hne : t ≠ n) (ho : qbl o = true) (hok : o.k = n) (hoi : i64 o.n) (hci : i64 (convP v n o).n) :
    convP (convP (convP v n o) t ⟨t, 0, ⟨#[]⟩⟩) n o = convP v n o := by
  have hcs : (t = 2 ∧ (n = 0 ∨ n = 1) ∨ t = 0 ∧ n = 1) ∨ (t = 0 ∧ n = 2) ∨ (t = 1 ∧ n = 0) ∨ (t = 1 ∧ n = 2) := by omega
  obtain ⟨c1, c2⟩ := conv_kind (v := v) hn0 hn1 hok ho
  rcases hcs with h | ⟨rfl, rfl⟩ | ⟨rfl, rfl⟩ | ⟨rfl, rfl⟩
  · rw [conv_kept hv hi hk h]
  · have e : ∀ b, convP (convP (bitV b) 0 ⟨0, 0, ⟨#[]⟩⟩) 2 o = bitV b := fun b => by cases b <;> kernel_rfl
    rcases kind_bool c2 c1 with h | h <;> rw [h, e]
  · have h := kind_int c2 c1
    obtain ⟨m, hm⟩ : ∃ m, (convP v 0 o).n = m := ⟨_, rfl⟩
    rw [hm] at h hci
    rw [h]
    have e : convP ⟨0, m, ⟨#[]⟩⟩ 1 ⟨1, 0, ⟨#[]⟩⟩ = cutV (itoa m) := rfl
    rw [e, conv_itoa hci]
  · have e : ∀ b, convP (convP (bitV b) 1 ⟨1, 0, ⟨#[]⟩⟩) 2 o = bitV b := fun b => by cases b <;> kernel_rfl
    rcases kind_bool c2 c1 with h | h <;> rw [h, e]
structure CalmV (v : Val) : Prop where
  n0 : -1048576 ≤ v.n
  n1 : v.n ≤ 1048576
  s : v.s.size ≤ 6
structure CalmX (x : Lens) : Prop where
  n0 : -1000 ≤ x.n
  n1 : x.n ≤ 1000
  v : CalmV x.value
  sep : x.sep.size ≤ 6
theorem mul_in {m n : Int} (h1 : -1048576 ≤ m) (h2 : m ≤ 1048576) (h3 : -1000 ≤ n) (h4 : n ≤ 1000) : i64 (m * n) := by
  have h : (m * n).natAbs ≤ 1048576 * 1000 := by
    rw [Int.natAbs_mul]; exact Nat.mul_le_mul (by omega) (by omega)
  exact ⟨by omega, by omega⟩
theorem settle_step {x : Lens} {L : List Col} {row : List Val} (hL : ShapeOk L) (h : StepOk x L) (hx : qea x) (hcx : CalmX x) (hf : FitOk row L) (hr : qbu row) (hcr : ∀ v ∈ row, CalmV v) : fwdP x L (bckP x L (fwdP x L row)) = fwdP x L row := by
  have hlen := hf.len
  cases h
  case add ho ha hn hl hR hu hv =>
    have e1 : ∀ r, fwdP x L r = r ++ [x.value] := fun r => by simp only [fwdP, ho]; rfl
    have e2 : ∀ r, bckP x L r = r.take (r.length - 1) := fun r => by simp only [bckP, ho]; rfl
    rw [e1, e2, e1]; simp
  case drop i hi ho h hk2 hl hR hv =>
    have e1 : ∀ r, fwdP x L r = r.eraseIdx i := fun r => by simp only [fwdP, ho, h.find, Int.toNat_natCast]; rfl
    have e2 : ∀ r, bckP x L r = r.take i ++ [x.value] ++ r.drop i := fun r => by simp only [bckP, ho, h.find, Int.toNat_natCast]; rfl
    obtain ⟨F, hF⟩ : ∃ F, row.eraseIdx i = F := ⟨_, rfl⟩
    have hFl : F.length = row.length - 1 := by rw [← hF, List.length_eraseIdx_of_lt (by omega)]
    rw [e1 row, e2, e1, hF]
    have h3 : (F.take i).length = i := by rw [List.length_take]; omega
    have h4 := erase_mid (F.take i) (F.drop i) x.value
    rw [h3] at h4
    rw [h4, List.take_append_drop]
  case rename i hi ho h hb hb2 hR =>
    have e1 : ∀ r, fwdP x L r = r := fun r => by simp only [fwdP, ho]; rfl
    have e2 : ∀ r, bckP x L r = r := fun r => by simp only [bckP, ho]; rfl
    rw [e1, e2, e1]
  case split i hi ho h hk2 hb hc hs hbc hb2 hc2 hl hR =>
    have e1 : ∀ r, fwdP x L r = r.take i ++ [(qby (valAt r i).s.data.toList x.sep.data.toList).1, (qby (valAt r i).s.data.toList x.sep.data.toList).2] ++ r.drop (i + 1) := fun r => by simp only [fwdP, ho, h.find, Int.toNat_natCast]; rfl
    have e2 : ∀ r, bckP x L r = r.take i ++ [cutV ((valAt r i).s.data.toList ++ if (valAt r (i + 1)).s.toList = [] then [] else x.sep.data.toList ++ (valAt r (i + 1)).s.data.toList)] ++ r.drop (i + 2) := fun r => by simp only [bckP, ho, h.find, Int.toNat_natCast]; rfl
    have hir : i < row.length := by omega
    have hsm := (hcr _ (List.getElem_mem hir)).s
    have hsz := qdr row[i].s
    have hag := split_again (s := row[i].s.data.toList) (sep_ne hs.1) (by omega)
    rw [e1 row, qbj hir]
    obtain ⟨P, hP⟩ : ∃ P, (qby row[i].s.data.toList x.sep.data.toList).1 = P := ⟨_, rfl⟩
    obtain ⟨Q, hQ⟩ : ∃ Q, (qby row[i].s.data.toList x.sep.data.toList).2 = Q := ⟨_, rfl⟩
    rw [hP, hQ] at hag ⊢
    obtain ⟨A, hA⟩ : ∃ A, row.take i = A := ⟨_, rfl⟩
    have hAl : A.length = i := by rw [← hA, List.length_take]; omega
    obtain ⟨B, hB⟩ : ∃ B, row.drop (i + 1) = B := ⟨_, rfl⟩
    rw [hA, hB, e2]
    have v1 : valAt (A ++ [P, Q] ++ B) i = P := by
      rw [qbj (by simp; omega)]
      simp [List.getElem_append, hAl]
    have v2 : valAt (A ++ [P, Q] ++ B) (i + 1) = Q := by
      rw [qbj (by simp; omega)]
      simp [List.getElem_append, hAl]
    have t1 : (A ++ [P, Q] ++ B).take i = A := by rw [List.append_assoc]; exact List.take_left' hAl
    have t2 : (A ++ [P, Q] ++ B).drop (i + 2) = B := List.drop_left' (by simp [hAl])
    rw [v1, v2, t1, t2]
    obtain ⟨S, hS⟩ : ∃ S, cutV (P.s.data.toList ++ if Q.s.toList = [] then [] else x.sep.data.toList ++ Q.s.data.toList) = S := ⟨_, rfl⟩
    rw [hS] at hag ⊢
    rw [e1]
    have v3 : valAt (A ++ [S] ++ B) i = S := by have := valAt_mid A B S; rwa [hAl] at this
    have t3 : (A ++ [S] ++ B).take i = A := by rw [List.append_assoc]; exact List.take_left' hAl
    have t4 : (A ++ [S] ++ B).drop (i + 1) = B := List.drop_left' (by simp [hAl])
    rw [v3, t3, t4, hag, hP, hQ]
  case join i k hi hk ho h hkf hkn hik ti tk hc hs hc2 hR =>
    obtain ⟨a, ha⟩ : ∃ a, a = if k < i then i - 1 else i := ⟨_, rfl⟩
    have e1 : ∀ r, fwdP x L r = (r.set i (cutV ((valAt r i).s.data.toList ++ x.sep.data.toList ++ (valAt r k).s.data.toList))).eraseIdx k := fun r => by simp only [fwdP, ho, h.find, hkf, Int.toNat_natCast]; rfl
    have e2 : ∀ r, bckP x L r = (r.set a (qby (valAt r a).s.data.toList x.sep.data.toList).1).take k ++ [(qby (valAt r a).s.data.toList x.sep.data.toList).2] ++ (r.set a (qby (valAt r a).s.data.toList x.sep.data.toList).1).drop k := fun r => by
      simp only [bckP, ho, h.find, hkf, Int.toNat_natCast, ← ha]; rfl
    have hir : i < row.length := by omega
    have hkr : k < row.length := by omega
    have s1 := (hcr _ (List.getElem_mem hir)).s
    have s2 := (hcr _ (List.getElem_mem hkr)).s
    have z1 := qdr row[i].s
    have z2 := qdr row[k].s
    have z3 := qdr x.sep
    have z4 := hcx.sep
    obtain ⟨J, hJ⟩ : ∃ J, row[i].s.data.toList ++ x.sep.data.toList ++ row[k].s.data.toList = J := ⟨_, rfl⟩
    have hJl : J.length ≤ 200 := by rw [← hJ]; simp; omega
    have hag := join_again (sep_ne hs.1) hJl ⟨_, _, hJ.symm⟩
    obtain ⟨F, hF⟩ : ∃ F, (row.set i (cutV J)).eraseIdx k = F := ⟨_, rfl⟩
    rw [e1 row, qbj hir, qbj hkr, hJ, hF]
    have hFl : F.length = row.length - 1 := by rw [← hF, List.length_eraseIdx_of_lt (by rw [List.length_set]; omega), List.length_set]
    have hal : a < F.length := by rw [hFl, ha]; split <;> omega
    have hset : ∀ (g : List Val) (X : Val), (g.set i X).eraseIdx k = (g.eraseIdx k).set a X := fun g X => by
      by_cases hki : k < i
      · rw [if_pos hki] at ha; rw [ha]; exact List.eraseIdx_set_lt hki
      · rw [if_neg hki] at ha; rw [ha]; exact List.eraseIdx_set_gt (by omega)
    have hFa : valAt F a = cutV J := by
      rw [← hF, hset]
      exact valAt_set (by rw [List.length_eraseIdx_of_lt (by omega)]; omega) _
    rw [e2, hFa, cutV_id hJl]
    obtain ⟨P, hP⟩ : ∃ P, (qby J x.sep.data.toList).1 = P := ⟨_, rfl⟩
    obtain ⟨Q, hQ⟩ : ∃ Q, (qby J x.sep.data.toList).2 = Q := ⟨_, rfl⟩
    rw [hP, hQ] at hag ⊢
    obtain ⟨G, hG⟩ : ∃ G, F.set a P = G := ⟨_, rfl⟩
    have hGl : G.length = F.length := by rw [← hG, List.length_set]
    rw [hG, e1]
    have t1 : (G.take k).length = k := by rw [List.length_take]; omega
    have vk : valAt (G.take k ++ [Q] ++ G.drop k) k = Q := by have := valAt_mid (G.take k) (G.drop k) Q; rwa [t1] at this
    have er : (G.take k ++ [Q] ++ G.drop k).eraseIdx k = G := by have := erase_mid (G.take k) (G.drop k) Q; rw [t1] at this; rw [this, List.take_append_drop]
    have hGa : G[a]'(by omega) = P := by simp only [← hG]; exact List.getElem_set_self _
    have vi : valAt (G.take k ++ [Q] ++ G.drop k) i = P := by
      rw [qbj (by simp; omega)]
      by_cases hki : k < i
      · rw [if_pos hki] at ha
        rw [List.getElem_append_right (by simp; omega), List.getElem_drop]
        have : k + (i - (G.take k ++ [Q]).length) = a := by simp; omega
        simp only [this]; exact hGa
      · rw [if_neg hki] at ha
        rw [List.getElem_append_left (by simp; omega), List.getElem_append_left (by simp; omega), List.getElem_take]
        simp only [← ha]; exact hGa
    rw [vi, vk, hag, hset, er, ← hG, List.set_set]
    have : F[a] = cutV J := by rw [← qbj hal]; exact hFa
    rw [← this, List.set_getElem_self]
  case retype i hi ho h hn0 hn3 hv hk2 ht hR =>
    have hir : i < row.length := by omega
    have e1 : ∀ r, fwdP x L r = r.set i (convP (valAt r i) x.n x.value) := fun r => by simp only [fwdP, ho, h.find, Int.toNat_natCast]; rfl
    have e2 : ∀ r, bckP x L r = r.set i (convP (valAt r i) L[i].type ⟨L[i].type, 0, ⟨#[]⟩⟩) := fun r => by simp only [bckP, ho, h.find, Int.toNat_natCast, qda hi]; rfl
    have hm : row[i] ∈ row := List.getElem_mem hir
    have hci := hL.cols _ (List.getElem_mem hi)
    rw [e1 row, e2, valAt_set hir, e1, valAt_set (by simpa using hir), List.set_set, List.set_set, qbj hir]
    rw [conv_again (hf.vals _ hm) (hr _ hm).n (hf.kind hir hi) hci.k0 hci.k1 hn0 hn3 ht hv hk2 hx.v.n (smallV_conv (hr _ hm) hx.v).n]
  case scale i hi ho h ht hn hu hR =>
    have hir : i < row.length := by omega
    have e1 : ∀ r, fwdP x L r = r.set i ⟨0, IntKind.i64.wrap ((valAt r i).n * x.n), ⟨#[]⟩⟩ := fun r => by simp only [fwdP, ho, h.find, Int.toNat_natCast]; rfl
    have e2 : ∀ r, bckP x L r = r.set i ⟨0, IntKind.i64.wrap ((valAt r i).n.tdiv x.n), ⟨#[]⟩⟩ := fun r => by simp only [bckP, ho, h.find, Int.toNat_natCast]; rfl
    have hm : row[i] ∈ row := List.getElem_mem hir
    have hcm := hcr _ hm
    have hmi := mul_in hcm.n0 hcm.n1 hcx.n0 hcx.n1
    rw [e1 row, e2, valAt_set hir, e1, valAt_set (by simpa using hir), List.set_set, List.set_set, qbj hir]
    show row.set i ⟨0, IntKind.i64.wrap (IntKind.i64.wrap ((IntKind.i64.wrap (row[i].n * x.n)).tdiv x.n) * x.n), ⟨#[]⟩⟩ = _
    rw [wrap_in hmi, Int.mul_tdiv_cancel _ hn, wrap_in (hr _ hm).n, wrap_in hmi]
def calmV (v : Val) : Bool := decide (v.n ≤ 1048576) && (decide (-1048576 ≤ v.n) && decide (v.s.size ≤ 6))
def calmX (x : Lens) : Bool := decide (x.n ≤ 1000) && (decide (-1000 ≤ x.n) && (decide (x.value.n ≤ 1048576) && (decide (-1048576 ≤ x.value.n) && (decide (x.value.s.size ≤ 6) && decide (x.sep.size ≤ 6)))))
def calmL (l : List Lens) (row : List Val) : Bool := row.all calmV && (l.all calmX && decide (l.length ≤ 1))
theorem calmV_iff {v : Val} : calmV v = true ↔ v.n ≤ 1048576 ∧ -1048576 ≤ v.n ∧ v.s.size ≤ 6 := by unfold calmV; simp
theorem calmX_iff {x : Lens} : calmX x = true ↔ x.n ≤ 1000 ∧ -1000 ≤ x.n ∧ x.value.n ≤ 1048576 ∧ -1048576 ≤ x.value.n ∧ x.value.s.size ≤ 6 ∧ x.sep.size ≤ 6 := by unfold calmX; simp
theorem all_of {α : Type} {p : α → Bool} {l : List α} (h : ∀ j (h : j < l.length), p l[j] = true) : l.all p = true := by
  rw [List.all_eq_true]
  intro x hx
  obtain ⟨j, hj, rfl⟩ := List.mem_iff_getElem.1 hx
  exact h j hj
theorem all_no {α : Type} {p : α → Bool} {l : List α} {k : Nat} (hk : k < l.length) (h : p l[k] = false) : l.all p = false := by
  rw [List.all_eq_false]; exact ⟨l[k], List.getElem_mem _, by simp [h]⟩
set_option maxHeartbeats 8000000 in
theorem calm_g (l : List Lens) (row : List Val) (hl : l.length ≤ 1000) (hr : row.length ≤ 1000) : Gives Tryz.prog 33 [.sl (l.map Lens.av), .sl (row.map Val.av)] (.bool (calmL l row)) := by
  obtain ⟨R, hR⟩ : ∃ R, R = calmL l row := ⟨_, rfl⟩
  rw [← hR]
  unfold calmL at hR
  refine qm Tryz.func33 Tryz.ntmps33 rfl rfl (by decide) rfl (by intro n; simp) fun σ n0 hcl hft => ?_
  repeat' (first | ((first | ((with_reducible refine qp (fun hg => ?_) (fun hg => ?_)) <;> (try simp only [hg]) <;> (try simp only [gS] at hg) <;> (try (first | simp only [eq_false hg, gI] | simp only [eq_true hg, gI]))) | (with_reducible first | refine qc ?_ | refine qb ?_ | refine qj ?_ | refine qi ?_) | refine qe ?_ | refine qk ?_ | refine qh ?_ | refine qo ?_) <;> (try simp (disch := first | omega | simp) [qg, -qq, -qu])) | ((with_reducible refine sideT ?_ ?_); first | omega | assumption | (simp; done)) | (refine qf fun K hK => ?_) | (refine qa ?_) | refine ql ?_ | ((first | refine hK _ ?_ | (clear hK K; refine hK _ ?_) | (clear hK K; clear hK K; refine hK _ ?_)); clear hK K) | refine qd ?_)
  refine qbq hcl (fun k : Nat => [(0, .sl (l.map Lens.av)), (1, .sl (row.map Val.av)), (5, .int k)]) (fun _ => [])
    (fun k => k ≤ row.length ∧ ∀ j (h : j < row.length), j < k → calmV row[j] = true) (fun k => row.length - k) 0 (by simp) (by simp) fun k ⟨hk, he⟩ => ?_
  by_cases hlt : k < row.length
  · cases hc : calmV row[k] with
    | true =>
      obtain ⟨f1, f2, f3⟩ := calmV_iff.1 hc
      have g1 : ¬ (1048576 : Int) < row[k].n := by omega
      have g2 : ¬ row[k].n < (-1048576 : Int) := by omega
      have g3 : ¬ (6 : Int) < row[k].s.size := by omega
      repeat' (first | ((first | ((with_reducible refine qp (fun hg => ?_) (fun hg => ?_)) <;> (try simp only [hg]) <;> (try simp only [gS] at hg) <;> (try (first | simp only [eq_false hg, gI] | simp only [eq_true hg, gI]))) | (with_reducible first | refine qc ?_ | refine qb ?_ | refine qj ?_ | refine qi ?_) | refine qe ?_ | refine qk ?_ | refine qh ?_ | refine qo ?_) <;> (try simp (disch := first | omega | simp) [qg, -qq, -qu, hlt, g1, g2, g3])) | ((with_reducible refine sideT ?_ ?_); first | omega | assumption | (simp; done)) | (refine qf fun K hK => ?_) | (refine qa ?_) | refine ql ?_ | ((first | refine hK _ ?_ | (clear hK K; refine hK _ ?_) | (clear hK K; clear hK K; refine hK _ ?_)); clear hK K) | refine qd ?_)
      exact ⟨k + 1, ⟨by omega, qff (C := fun x : Val => calmV x = true) he fun _ => hc⟩, by omega, by simp⟩
    | false =>
      rw [all_no hlt hc] at hR
      have hR' : R = false := hR
      subst hR'
      have no : ¬ (row[k].n ≤ 1048576 ∧ -1048576 ≤ row[k].n ∧ row[k].s.size ≤ 6) := fun h => by rw [calmV_iff.2 h] at hc; cases hc
      repeat' (first | ((first | ((with_reducible refine qp (fun hg => ?_) (fun hg => ?_)) <;> (try simp only [hg]) <;> (try simp only [gS] at hg) <;> (try (first | simp only [eq_false hg, gI] | simp only [eq_true hg, gI]))) | (with_reducible first | refine qc ?_ | refine qb ?_ | refine qj ?_ | refine qi ?_) | refine qe ?_ | refine qk ?_ | refine qh ?_ | refine qo ?_) <;> (try simp (disch := first | omega | simp) [qg, -qq, -qu, hlt])) | ((with_reducible refine sideT ?_ ?_); first | omega | assumption | (simp; done)) | (refine qf fun K hK => ?_) | (refine qa ?_) | refine ql ?_ | ((first | refine hK _ ?_ | (clear hK K; refine hK _ ?_) | (clear hK K; clear hK K; refine hK _ ?_)); clear hK K) | refine qd ?_)
      all_goals first | (exfalso; exact no ⟨by omega, by omega, by omega⟩) | rfl
  · rw [all_of (l := row) (p := calmV) fun j hj => he j hj (by omega), Bool.true_and] at hR
    repeat' (first | ((first | ((with_reducible refine qp (fun hg => ?_) (fun hg => ?_)) <;> (try simp only [hg]) <;> (try simp only [gS] at hg) <;> (try (first | simp only [eq_false hg, gI] | simp only [eq_true hg, gI]))) | (with_reducible first | refine qc ?_ | refine qb ?_ | refine qj ?_ | refine qi ?_) | refine qe ?_ | refine qk ?_ | refine qh ?_ | refine qo ?_) <;> (try simp (disch := first | omega | simp) [qg, -qq, -qu, hlt])) | ((with_reducible refine sideT ?_ ?_); first | omega | assumption | (simp; done)) | (refine qf fun K hK => ?_) | (refine qa ?_) | refine ql ?_ | ((first | refine hK _ ?_ | (clear hK K; refine hK _ ?_) | (clear hK K; clear hK K; refine hK _ ?_)); clear hK K) | refine qd ?_)
    refine qbq hcl (fun k : Nat => [(0, .sl (l.map Lens.av)), (1, .sl (row.map Val.av)), (6, .int k)]) (fun _ => [])
      (fun k => k ≤ l.length ∧ ∀ j (h : j < l.length), j < k → calmX l[j] = true) (fun k => l.length - k) 0 (by simp) (by simp) fun k ⟨hk, he⟩ => ?_
    by_cases hlt : k < l.length
    · cases hc : calmX l[k] with
      | true =>
        obtain ⟨f1, f2, f3, f4, f5, f6⟩ := calmX_iff.1 hc
        have g1 : ¬ (1000 : Int) < l[k].n := by omega
        have g2 : ¬ l[k].n < (-1000 : Int) := by omega
        have g3 : ¬ (1048576 : Int) < l[k].value.n := by omega
        have g4 : ¬ l[k].value.n < (-1048576 : Int) := by omega
        have g5 : ¬ (6 : Int) < l[k].value.s.size := by omega
        have g6 : ¬ (6 : Int) < l[k].sep.size := by omega
        repeat' (first | ((first | ((with_reducible refine qp (fun hg => ?_) (fun hg => ?_)) <;> (try simp only [hg]) <;> (try simp only [gS] at hg) <;> (try (first | simp only [eq_false hg, gI] | simp only [eq_true hg, gI]))) | (with_reducible first | refine qc ?_ | refine qb ?_ | refine qj ?_ | refine qi ?_) | refine qe ?_ | refine qk ?_ | refine qh ?_ | refine qo ?_) <;> (try simp (disch := first | omega | simp) [qg, -qq, -qu, hlt, g1, g2, g3, g4, g5, g6])) | ((with_reducible refine sideT ?_ ?_); first | omega | assumption | (simp; done)) | (refine qf fun K hK => ?_) | (refine qa ?_) | refine ql ?_ | ((first | refine hK _ ?_ | (clear hK K; refine hK _ ?_) | (clear hK K; clear hK K; refine hK _ ?_)); clear hK K) | refine qd ?_)
        exact ⟨k + 1, ⟨by omega, qff (C := fun x : Lens => calmX x = true) he fun _ => hc⟩, by omega, by simp⟩
      | false =>
        rw [all_no hlt hc] at hR
        have hR' : R = false := hR
        subst hR'
        have no : ¬ (l[k].n ≤ 1000 ∧ -1000 ≤ l[k].n ∧ l[k].value.n ≤ 1048576 ∧ -1048576 ≤ l[k].value.n ∧ l[k].value.s.size ≤ 6 ∧ l[k].sep.size ≤ 6) := fun h => by rw [calmX_iff.2 h] at hc; cases hc
        repeat' (first | ((first | ((with_reducible refine qp (fun hg => ?_) (fun hg => ?_)) <;> (try simp only [hg]) <;> (try simp only [gS] at hg) <;> (try (first | simp only [eq_false hg, gI] | simp only [eq_true hg, gI]))) | (with_reducible first | refine qc ?_ | refine qb ?_ | refine qj ?_ | refine qi ?_) | refine qe ?_ | refine qk ?_ | refine qh ?_ | refine qo ?_) <;> (try simp (disch := first | omega | simp) [qg, -qq, -qu, hlt])) | ((with_reducible refine sideT ?_ ?_); first | omega | assumption | (simp; done)) | (refine qf fun K hK => ?_) | (refine qa ?_) | refine ql ?_ | ((first | refine hK _ ?_ | (clear hK K; refine hK _ ?_) | (clear hK K; clear hK K; refine hK _ ?_)); clear hK K) | refine qd ?_)
        all_goals first | (exfalso; exact no ⟨by omega, by omega, by omega, by omega, by omega, by omega⟩) | rfl
    · rw [all_of (l := l) (p := calmX) fun j hj => he j hj (by omega), Bool.true_and] at hR
      repeat' (first | ((first | ((with_reducible refine qp (fun hg => ?_) (fun hg => ?_)) <;> (try simp only [hg]) <;> (try simp only [gS] at hg) <;> (try (first | simp only [eq_false hg, gI] | simp only [eq_true hg, gI]))) | (with_reducible first | refine qc ?_ | refine qb ?_ | refine qj ?_ | refine qi ?_) | refine qe ?_ | refine qk ?_ | refine qh ?_ | refine qo ?_) <;> (try simp (disch := first | omega | simp) [qg, -qq, -qu, hlt])) | ((with_reducible refine sideT ?_ ?_); first | omega | assumption | (simp; done)) | (refine qf fun K hK => ?_) | (refine qa ?_) | refine ql ?_ | ((first | refine hK _ ?_ | (clear hK K; refine hK _ ?_) | (clear hK K; clear hK K; refine hK _ ?_)); clear hK K) | refine qd ?_)
      all_goals
        rw [hR, Bool.eq_iff_iff]
        simp
        omega
set_option maxRecDepth 4000 in
set_option maxHeartbeats 8000000 in
theorem lensSettles_g (l : List Lens) (cols : List Col) (row : List Val) (hlv : ∀ x ∈ l, i64 x.value.n) (hrv : ∀ v ∈ row, i64 v.n) : Gives Tryz.prog 8 [.sl (l.map Lens.av), .sl (cols.map Col.av), .sl (row.map Val.av)] (.bool true) := by
  have c0 := small14_g
  have c1 := suits_g14 l cols row
  cases hs : suitsL l cols row with
  | false =>
    rw [hs] at c1
    refine qm Tryz.func8 Tryz.ntmps8 rfl rfl (by decide) rfl (by intro n; simp) fun σ n0 hcl hft => ?_
    repeat' (first | ((first | ((with_reducible refine qp (fun hg => ?_) (fun hg => ?_)) <;> (try simp only [hg]) <;> (try simp only [gS] at hg) <;> (try (first | simp only [eq_false hg, gI] | simp only [eq_true hg, gI]))) | (with_reducible first | refine qc ?_ | refine qb ?_ | refine qj ?_ | refine qi ?_) | refine acall (c0) ?_ | refine qn (c0) ?_ | refine acall (c1) ?_ | refine qn (c1) ?_ | refine qe ?_ | refine qk ?_ | refine qh ?_ | refine qo ?_) <;> (try simp (disch := first | omega | simp) [qg, -qq, -qu])) | ((with_reducible refine sideT ?_ ?_); first | omega | assumption | (simp; done)) | (refine qf fun K hK => ?_) | (refine qa ?_) | refine ql ?_ | ((first | refine hK _ ?_ | (clear hK K; refine hK _ ?_) | (clear hK K; clear hK K; refine hK _ ?_)); clear hK K) | refine qd ?_)
  | true =>
    rw [hs] at c1
    obtain ⟨ss, H⟩ := suits_of hs
    obtain ⟨hc, hc0⟩ := H.chain
    have hsx : ∀ x ∈ l, qea x := fun x hx => ⟨(H.small x hx).1, hlv x hx, by have := (H.small x hx).2; omega⟩
    have hl20 := H.l20
    have h0 := H.shape.l0
    have h1 := H.shape.l1
    have hlen := H.fit.len
    have hsr := smallR_fit H.fit hrv
    have c2 := calm_g l row (by omega) (by omega)
    cases hcm : calmL l row with
    | false =>
      rw [hcm] at c2
      refine qm Tryz.func8 Tryz.ntmps8 rfl rfl (by decide) rfl (by intro n; simp) fun σ n0 hcl hft => ?_
      repeat' (first | ((first | ((with_reducible refine qp (fun hg => ?_) (fun hg => ?_)) <;> (try simp only [hg]) <;> (try simp only [gS] at hg) <;> (try (first | simp only [eq_false hg, gI] | simp only [eq_true hg, gI]))) | (with_reducible first | refine qc ?_ | refine qb ?_ | refine qj ?_ | refine qi ?_) | refine acall (c0) ?_ | refine qn (c0) ?_ | refine acall (c1) ?_ | refine qn (c1) ?_ | refine acall (c2) ?_ | refine qn (c2) ?_ | refine qe ?_ | refine qk ?_ | refine qh ?_ | refine qo ?_) <;> (try simp (disch := first | omega | simp) [qg, -qq, -qu])) | ((with_reducible refine sideT ?_ ?_); first | omega | assumption | (simp; done)) | (refine qf fun K hK => ?_) | (refine qa ?_) | refine ql ?_ | ((first | refine hK _ ?_ | (clear hK K; refine hK _ ?_) | (clear hK K; clear hK K; refine hK _ ?_)); clear hK K) | refine qd ?_)
    | true =>
      rw [hcm] at c2
      unfold calmL at hcm
      rw [Bool.and_eq_true, Bool.and_eq_true, List.all_eq_true, List.all_eq_true, decide_eq_true_eq] at hcm
      obtain ⟨m1, m2, m3⟩ := hcm
      obtain ⟨F, hF⟩ : ∃ F, qcr l ss row = F := ⟨_, rfl⟩
      have hFs : F.length = (shAt ss l.length).length ∧ qbu F := by
        have := fwdK_ok hc hsx hsr (by rw [hc0]; exact hlen) _ (Nat.le_refl _)
        rwa [fwdK_all, hF] at this
      obtain ⟨B, hB⟩ : ∃ B, qem l ss F = B := ⟨_, rfl⟩
      have hBs : B.length = (shAt ss 0).length ∧ qbu B := by
        have := bckK_ok hc hsx hFs.2 hFs.1 l.length 0 (by omega)
        rw [← hB]; exact this
      rw [hc0] at hBs
      have hFB : qcr l ss B = F := by
        match l, m3 with
        | [], _ =>
          have e1 : row = F := hF
          have e2 : F = B := hB
          show B = F
          exact e2.symm
        | [x], _ =>
          obtain ⟨g1, -⟩ := hc.ok 0 (by simp)
          have e1 : fwdP x (shAt ss 0) row = F := by rw [← hF, ← shAt_0]; rfl
          have e2 : bckP x (shAt ss 0) F = B := by rw [← hB, qef]; rfl
          have e3 : qcr [x] ss B = fwdP x (shAt ss 0) B := by rw [← shAt_0]; rfl
          rw [e3, ← e2, ← e1]
          have f1 := calmX_iff.1 (m2 x (by simp))
          exact settle_step (by rw [hc0]; exact H.shape) g1 (hsx x (by simp)) ⟨f1.2.1, f1.1, ⟨f1.2.2.2.1, f1.2.2.1, f1.2.2.2.2.1⟩, f1.2.2.2.2.2⟩ (by rw [hc0]; exact H.fit) hsr fun v hv => by
            have f2 := calmV_iff.1 (m1 v hv)
            exact ⟨f2.2.1, f2.1, f2.2.2⟩
        | _ :: _ :: _, h => simp at h
      have c3 := qeo H.ss hsx h0 h1 hsr hlen F hF
      have c4 := back_g H.ss hsx h0 h1 hFs.2 hFs.1 B hB
      have c5 := qeo H.ss hsx h0 h1 hBs.2 hBs.1 F hFB
      have hFl : F.length ≤ 12 := by have := hc.sz l.length (Nat.le_refl _); omega
      have c6 := rsame03_g F (by omega)
      refine qm Tryz.func8 Tryz.ntmps8 rfl rfl (by decide) rfl (by intro n; simp) fun σ n0 hcl hft => ?_
      repeat' (first | ((first | ((with_reducible refine qp (fun hg => ?_) (fun hg => ?_)) <;> (try simp only [hg]) <;> (try simp only [gS] at hg) <;> (try (first | simp only [eq_false hg, gI] | simp only [eq_true hg, gI]))) | (with_reducible first | refine qc ?_ | refine qb ?_ | refine qj ?_ | refine qi ?_) | refine acall (c0) ?_ | refine qn (c0) ?_ | refine acall (c1) ?_ | refine qn (c1) ?_ | refine acall (c2) ?_ | refine qn (c2) ?_ | refine acall (c3) ?_ | refine qn (c3) ?_ | refine acall (c4) ?_ | refine qn (c4) ?_ | refine acall (c5) ?_ | refine qn (c5) ?_ | refine acall (c6) ?_ | refine qn (c6) ?_ | refine qe ?_ | refine qk ?_ | refine qh ?_ | refine qo ?_) <;> (try simp (disch := first | omega | simp) [qg, -qq, -qu])) | ((with_reducible refine sideT ?_ ?_); first | omega | assumption | (simp; done)) | (refine qf fun K hK => ?_) | (refine qa ?_) | refine ql ?_ | ((first | refine hK _ ?_ | (clear hK K; refine hK _ ?_) | (clear hK K; clear hK K; refine hK _ ?_)); clear hK K) | refine qd ?_)
end Go.Proofs.YtbkkjlcclddpdaaGreatDoor

/- Lifting a law: the arguments' readings, and what the listed variables hold. -/
namespace Go.Proofs.YtbkkjlcclddpdaaGreatDoor
open Go.ChangeShapes Go.WideShapes Go.ChangeAt Go.RowKit Go.Lib
section
variable {H : Type} {enc : TypeId × Value → H}
theorem returnsInHanded_three {a : Assume} {C : Checked} {os : Os} {f : FuncId} {fn : Func} {s : ChangeSpec} {conds : List PathCond} {apart fresh handsOn again : Bool} {X : World → Array Value → Prop}
    (own : ownKnob C.prog.godebug = none) (started : os.Started) (noInit : C.prog.inits.idxOf? f = none) (hfn : C.prog.funcs[f]? = some fn)
    (witness : ∃ (w : World) (tape : Tape) (i : Input), w.os = os ∧ (w.forCall tape i).Shaped C.prog ∧ i.vars = [] ∧ Input.okWide C.prog (w.forCall tape i) .any w.heap.size f i ∧
      ((s.pre enc C.prog fn conds apart (w.forCall tape i).memory i.args ∧ X (w.forCall tape i).memory i.args) ∧ sizedMet enc C.prog fn (OpenSpec.ofChange s) apart (w.forCall tape i).memory i.args) ∧ a.holds C.prog (lone (Frame.enter C.prog f i.args .normal) [] (w.forCall tape i)))
    (hXh : ∀ (w w' : World) (us : Array Value), w.heap = w'.heap → X w us → X w' us)
    (contract : ∀ (W : World) (base : Nat) (args : Array Value) (ds gs : List (DataW H)) (before : List MemPlace),
      (∀ (j : Nat) t v, fn.params[j]? = some t → args[j]? = some v → Value.okWide C.prog W .any base t v) →
      DataW.Whole enc C.prog fn.params.toList s.vars apart W args.toList ds gs before →
      conds.all (PathCond.test C.prog ⟨fn.params.toList, ds, s.plain.varTypes C.prog, gs⟩) = true →
      W.ShapedOpen C.prog → X W args →
      Calls C.prog f args W fun e W' => ∃ v, e = .returned v ∧ s.post enc C.prog fn apart fresh handsOn again W args v W') :
    ReturnsInHanded a C os f .any (fun w args => (s.pre enc C.prog fn conds apart w args ∧ X w args) ∧ sizedMet enc C.prog fn (OpenSpec.ofChange s) apart w args) (s.post enc C.prog fn apart fresh handsOn again) := by
  refine returnsInHanded_of_calls own started noInit witness ?_
  intro w tape i _ hsh _ hok hpre hholds
  obtain ⟨_, _, _, fn', hfn', _, _, _, _, hval⟩ := hok
  have e : fn' = fn := Option.some.inj (hfn'.symm.trans hfn)
  subst e
  obtain ⟨⟨⟨ds, gs, before, hw, hc⟩, hX⟩, -⟩ := hpre
  have hw' := DataW.Whole.of_heap (w' := w.forCall tape i) (by rfl) hw
  refine (contract (w.forCall tape i) w.heap.size i.args ds gs before hval hw' hc hsh (hXh _ _ _ (by rfl) hX)).mono fun e W' ⟨v, he, hp⟩ => ?_
  subst he
  exact ChangeSpec.post_blind hp
end
section
variable {H : Type} {enc : TypeId × Value → H} {w w0 : World} {sp : Nat → Bool} {hd : Bool} {b0 : Nat} {t : TypeId} {v : Value}
end
section
variable {H : Type} {enc : TypeId × Value → H} {P : Program} {w : World} {base : Nat} {spare : Nat → Bool} {held : Bool} {t0 t1 t2 t3 : TypeId} {args : Array Value} {ds : List (DataW H)} {ps : List MemPlace}
theorem trodAll_3_02 (h : DataW.TrodAll enc P w base spare held [t0, t1, t2] args.toList ds ps) :
    ∃ v0 v1 v2 d0 d1 d2 p0 p1 p2, args = #[v0, v1, v2] ∧ ds = [d0, d1, d2] ∧ ps = p0 ++ p1 ++ p2 ∧ DataW.Trod enc P w base spare held t0 v0 d0 p0 ∧ DataW.Trod enc P w base spare held t1 v1 d1 p1 ∧ DataW.Trod enc P w base spare held t2 v2 d2 p2 := by
  obtain ⟨v0, vs0, d0, ds0, p0, q0, hargs, rfl, rfl, h0, r0⟩ := trodAll_cons h
  obtain ⟨v1, vs1, d1, ds1, p1, q1, rfl, rfl, rfl, h1, r1⟩ := trodAll_cons r0
  obtain ⟨v2, vs2, d2, ds2, p2, q2, rfl, rfl, rfl, h2, r2⟩ := trodAll_cons r1
  obtain ⟨rfl, rfl, rfl⟩ := trodAll_nil r2
  exact ⟨v0, v1, v2, d0, d1, d2, p0, p1, p2, by cases args; simp_all, rfl, by simp, h0, h1, h2⟩
theorem trodAll_4_02 (h : DataW.TrodAll enc P w base spare held [t0, t1, t2, t3] args.toList ds ps) :
    ∃ v0 v1 v2 v3 d0 d1 d2 d3 p0 p1 p2 p3, args = #[v0, v1, v2, v3] ∧ ds = [d0, d1, d2, d3] ∧ ps = p0 ++ p1 ++ p2 ++ p3 ∧ DataW.Trod enc P w base spare held t0 v0 d0 p0 ∧ DataW.Trod enc P w base spare held t1 v1 d1 p1 ∧ DataW.Trod enc P w base spare held t2 v2 d2 p2 ∧ DataW.Trod enc P w base spare held t3 v3 d3 p3 := by
  obtain ⟨v0, vs0, d0, ds0, p0, q0, hargs, rfl, rfl, h0, r0⟩ := trodAll_cons h
  obtain ⟨v1, vs1, d1, ds1, p1, q1, rfl, rfl, rfl, h1, r1⟩ := trodAll_cons r0
  obtain ⟨v2, vs2, d2, ds2, p2, q2, rfl, rfl, rfl, h2, r2⟩ := trodAll_cons r1
  obtain ⟨v3, vs3, d3, ds3, p3, q3, rfl, rfl, rfl, h3, r3⟩ := trodAll_cons r2
  obtain ⟨rfl, rfl, rfl⟩ := trodAll_nil r3
  exact ⟨v0, v1, v2, v3, d0, d1, d2, d3, p0, p1, p2, p3, by cases args; simp_all, rfl, by simp, h0, h1, h2, h3⟩
end
theorem iface_of_trod {H : Type} {enc : TypeId × Value → H} {P : Program} {w : World} {base : Nat} {sp : Nat → Bool} {held : Bool} {fuel : Nat} {t : TypeId} {cs : List Value} {d : DataW H} {p : List MemPlace} (hu : (match P.underlying t with | some (.interface _) => true | _ => false) = true)
    (h : DataW.trod enc P w base sp held fuel t cs = some (d, p)) : ∃ x, cs = [x] ∧ (x = .nilIface ∨ ∃ te pe, x = .iface te pe) := by
  cases fuel with
  | zero => simp [DataW.trod] at h
  | succ fuel =>
    cases hu' : P.underlying t with
    | none => rw [hu'] at hu; cases hu
    | some u =>
      rw [hu'] at hu
      cases u <;> first | (cases hu; done) | skip
      simp only [DataW.trod, hu'] at h
      match cs, h with
      | [], h => simp at h
      | [x], h => cases x <;> first | exact ⟨_, rfl, .inl rfl⟩ | exact ⟨_, rfl, .inr ⟨_, _, rfl⟩⟩ | (simp at h; done)
      | _ :: _ :: _, h => simp at h
theorem var_block {P : Program} {w : World} {n : String} {g : Nat} {cs : Array Value} (hg : P.globalNamed n = some g) (h : w.var? P n = some cs) : ∃ t fz, w.heap[g]? = some (.cells cs t fz) := by
  unfold World.var? at h
  rw [hg] at h
  dsimp only [Option.bind] at h
  split at h
  · rename_i cs' t fz he
    cases h
    exact ⟨t, fz, he⟩
  · cases h
theorem globS_flat {w : World} {b : Nat} {cs : List Value} (h : ∃ t fz, w.heap[b]? = some (.cells cs.toArray t fz)) (hne : cs ≠ []) : GlobS (St.flat w) b 0 cs := by
  obtain ⟨t, fz, hb⟩ := h
  refine ⟨qen _ 0 fun j u hj => ⟨?_, ?_⟩, ⟨t, fz, hb⟩, (fun r hr => by cases hr), hne⟩
  · show World.cell? w _ = _
    simp [World.cell?, hb, hj]
  · exact (Array.getElem?_eq_some_iff.1 hb).1
end Go.Proofs.YtbkkjlcclddpdaaGreatDoor

/- Readings of arguments: api.Value. -/
namespace Go.Proofs.YtbkkjlcclddpdaaGreatDoor
open Go.RowKit Go.Lib
section
variable {H : Type} {enc : TypeId × Value → H} {w : World} {sp : Nat → Bool} {hd : Bool}
end
end Go.Proofs.YtbkkjlcclddpdaaGreatDoor

/- Readings of arguments: api.Col. -/
namespace Go.Proofs.YtbkkjlcclddpdaaGreatDoor
open Go.RowKit Go.Lib
section
variable {H : Type} {enc : TypeId × Value → H} {w : World} {sp : Nat → Bool} {hd : Bool}
theorem trods_col (N : Nat) : Trods enc Tryz.prog w sp hd 53 Col.d N := by
  intro n cs x hn h
  obtain ⟨xs, m, rfl, -, hlen, hl2, hf⟩ := DataW.trod_struct Tryz.underlying53 h
  have hc : Tryz.prog.cellsOf 53 = 3 := by kernel_rfl
  rw [hc] at hlen
  obtain ⟨y0, h0⟩ := qcb 0 9 0 1 hl2 hf ⟨_, rfl, rfl, rfl⟩ (by kernel_rfl)
  obtain ⟨y1, h1⟩ := qcb 1 3 1 1 hl2 hf ⟨_, rfl, rfl, rfl⟩ (by kernel_rfl)
  obtain ⟨y2, h2⟩ := qcb 2 9 2 1 hl2 hf ⟨_, rfl, rfl, rfl⟩ (by kernel_rfl)
  obtain ⟨a0, r0⟩ := qfe Tryz.underlying9 (m + 1) m _ _ (by omega) h0
  obtain ⟨a1, r1⟩ := trods_int Tryz.underlying3 (m + 1) m _ _ (by omega) h1
  obtain ⟨a2, r2⟩ := qfe Tryz.underlying9 (m + 1) m _ _ (by omega) h2
  exact ⟨⟨a0, a1, a2⟩, rd_st (qeh (k := 1) r0 (qeh (k := 1) r1 (qeh (k := 1) r2 (rdS_end (by omega)))))⟩
theorem trods_cols (N : Nat) : Trods enc Tryz.prog w sp hd 35 (fun l : List Col => D.sl (l.map Col.d)) N := fun n cs x hn h =>
  trods_sl Tryz.underlying35 (sz := 3) (by kernel_rfl) (by omega) Col.width (trods_col N) n cs x (by omega) h
end
end Go.Proofs.YtbkkjlcclddpdaaGreatDoor

/- Readings of arguments: api.Lens. -/
namespace Go.Proofs.YtbkkjlcclddpdaaGreatDoor
open Go.RowKit Go.Lib
section
variable {H : Type} {enc : TypeId × Value → H} {w : World} {sp : Nat → Bool} {hd : Bool}
end
end Go.Proofs.YtbkkjlcclddpdaaGreatDoor

/- What the variables of a row of layer 14 hold at a law's entry. -/
namespace Go.Proofs.YtbkkjlcclddpdaaGreatDoor
open Go.ChangeShapes Go.WideShapes Go.ChangeAt Go.RowKit Go.Lib
theorem glob14 {W : World} {laid : List (String × DataW Unit)} (h : W.ShapedOpen Tryz.prog) (hl : laidMet Tryz.prog laid W)
    (h1 : ("strconv.ErrSyntax", Rows.laid_strconv_ErrSyntax) ∈ laid) (h2 : ("strconv.ErrRange", Rows.laid_strconv_ErrRange) ∈ laid) (h3 : ("internal/strconv.uint64pow10", Rows.laid_internal_strconv_uint64pow10) ∈ laid) : globsOk (GlobS (St.flat W)) := by
  obtain ⟨cs, hh, hs, hr⟩ := h.1 0 #[.int .i64 0] 3 (of_decide_eq_true (by kernel_rfl)) (by kernel_rfl)
  obtain ⟨m, hm⟩ := cell_of_shapedOpen_int (P := Tryz.prog) (g := 0) (zero := #[.int .i64 0]) (t := 3) h (of_decide_eq_true (by kernel_rfl)) (by kernel_rfl) rfl (by kernel_rfl) (by kernel_rfl) Tryz.underlying3
  have hc0 : cs = #[.int .i64 m] := by
    simp only [World.cell?, hh] at hm
    refine Array.ext (by simpa using hs) fun i h1 h2 => ?_
    have : i = 0 := by simp at h2; omega
    subst this
    simpa [Array.getElem?_eq_getElem h1] using hm
  subst hc0
  obtain ⟨g1, t1, c1, f1, p1, a1, b1, d1, e1⟩ := laidMet.reads hl h1
  obtain ⟨g2, t2, c2, f2, p2, a2, b2, d2, e2⟩ := laidMet.reads hl h2
  obtain ⟨g3, t3, c3, f3, p3, a3, b3, d3, e3⟩ := laidMet.reads hl h3
  obtain rfl : g1 = 1 := Option.some.inj (a1.symm.trans (by kernel_rfl))
  obtain rfl : g2 = 2 := Option.some.inj (a2.symm.trans (by kernel_rfl))
  obtain rfl : g3 = 3 := Option.some.inj (a3.symm.trans (by kernel_rfl))
  obtain rfl : t1 = 63 := Option.some.inj (b1.symm.trans (by kernel_rfl))
  obtain rfl : t2 = 63 := Option.some.inj (b2.symm.trans (by kernel_rfl))
  obtain rfl : t3 = 176 := Option.some.inj (b3.symm.trans (by kernel_rfl))
  obtain ⟨x1, y1, z1⟩ := iface_of_trod (by kernel_rfl) e1
  obtain ⟨x2, y2, z2⟩ := iface_of_trod (by kernel_rfl) e2
  have y3 := cells_of_tab (zs := Lib.pow10Tab) (k := .u64) (n := 20) (e := 158) Tryz.underlying176 Tryz.underlying158 (by kernel_rfl) (by kernel_rfl) e3
  refine ⟨⟨m, globS_flat ⟨_, _, hh⟩ (by simp)⟩, ⟨(), globS_flat ?_ (by simp [Lib.pow10Tab])⟩, ⟨⟨x1, z1⟩, globS_flat ?_ (by simp)⟩, ⟨⟨x2, z2⟩, globS_flat ?_ (by simp)⟩, trivial⟩
  · obtain ⟨t, fz, hb⟩ := var_block a3 d3
    exact ⟨t, fz, by rw [hb, ← y3]⟩
  · obtain ⟨t, fz, hb⟩ := var_block a1 d1
    exact ⟨t, fz, by rw [hb, ← y1]⟩
  · obtain ⟨t, fz, hb⟩ := var_block a2 d2
    exact ⟨t, fz, by rw [hb, ← y2]⟩
section
variable {H : Type} {enc : TypeId × Value → H} {w w0 : World} {sp : Nat → Bool} {hd : Bool} {b0 : Nat} {t : TypeId} {v : Value} {d : DataW H} {ps : List MemPlace}
theorem trods_intI {t : TypeId} (ht : Tryz.prog.underlying t = some (.int .i64)) {n : Nat} {cs : List Value} {x : DataW H × List MemPlace} (h : DataW.trod enc Tryz.prog w 0 sp hd n t cs = some x) : ∃ a, i64 a ∧ Rd w Any (D.int a) cs := by
  obtain ⟨a, rfl, -, hwf⟩ := DataW.trod_int ht h
  refine ⟨a, ?_, by rw [Rd]⟩
  simp only [Lit.wf, Bool.and_eq_true, decide_eq_true_eq] at hwf
  have e1 : IntKind.i64.min = -9223372036854775808 := by decide
  have e2 : IntKind.i64.max = 9223372036854775807 := by decide
  exact ⟨by omega, by omega⟩
theorem trods_valI (N : Nat) : Trods enc Tryz.prog w sp hd 27 (fun y : {y : Val // i64 y.n} => y.1.d) N := by
  intro n cs x hn h
  obtain ⟨xs, m, rfl, -, hlen, hl2, hf⟩ := DataW.trod_struct Tryz.underlying27 h
  have hc : Tryz.prog.cellsOf 27 = 3 := by kernel_rfl
  rw [hc] at hlen
  obtain ⟨y0, h0⟩ := qcb 0 3 0 1 hl2 hf ⟨_, rfl, rfl, rfl⟩ (by kernel_rfl)
  obtain ⟨y1, h1⟩ := qcb 1 3 1 1 hl2 hf ⟨_, rfl, rfl, rfl⟩ (by kernel_rfl)
  obtain ⟨y2, h2⟩ := qcb 2 9 2 1 hl2 hf ⟨_, rfl, rfl, rfl⟩ (by kernel_rfl)
  obtain ⟨a0, r0⟩ := trods_int Tryz.underlying3 (m + 1) m _ _ (by omega) h0
  obtain ⟨a1, i1, r1⟩ := trods_intI Tryz.underlying3 h1
  obtain ⟨a2, r2⟩ := qfe Tryz.underlying9 (m + 1) m _ _ (by omega) h2
  exact ⟨⟨⟨a0, a1, a2⟩, i1⟩, rd_st (qeh (k := 1) r0 (qeh (k := 1) r1 (qeh (k := 1) r2 (rdS_end (by omega)))))⟩
theorem trods_lensI (N : Nat) : Trods enc Tryz.prog w sp hd 29 (fun y : {y : Lens // i64 y.n ∧ i64 y.value.n} => y.1.d) N := by
  intro n cs x hn h
  obtain ⟨xs, m, rfl, -, hlen, hl2, hf⟩ := DataW.trod_struct Tryz.underlying29 h
  have hc : Tryz.prog.cellsOf 29 = 9 := by kernel_rfl
  rw [hc] at hlen
  obtain ⟨y0, h0⟩ := qcb 0 3 0 1 hl2 hf ⟨_, rfl, rfl, rfl⟩ (by kernel_rfl)
  obtain ⟨y1, h1⟩ := qcb 1 9 1 1 hl2 hf ⟨_, rfl, rfl, rfl⟩ (by kernel_rfl)
  obtain ⟨y2, h2⟩ := qcb 2 9 2 1 hl2 hf ⟨_, rfl, rfl, rfl⟩ (by kernel_rfl)
  obtain ⟨y3, h3⟩ := qcb 3 9 3 1 hl2 hf ⟨_, rfl, rfl, rfl⟩ (by kernel_rfl)
  obtain ⟨y4, h4⟩ := qcb 4 9 4 1 hl2 hf ⟨_, rfl, rfl, rfl⟩ (by kernel_rfl)
  obtain ⟨y5, h5⟩ := qcb 5 3 5 1 hl2 hf ⟨_, rfl, rfl, rfl⟩ (by kernel_rfl)
  obtain ⟨y6, h6⟩ := qcb 6 27 6 3 hl2 hf ⟨_, rfl, rfl, rfl⟩ (by kernel_rfl)
  obtain ⟨a0, r0⟩ := trods_int Tryz.underlying3 (m + 1) m _ _ (by omega) h0
  obtain ⟨a1, r1⟩ := qfe Tryz.underlying9 (m + 1) m _ _ (by omega) h1
  obtain ⟨a2, r2⟩ := qfe Tryz.underlying9 (m + 1) m _ _ (by omega) h2
  obtain ⟨a3, r3⟩ := qfe Tryz.underlying9 (m + 1) m _ _ (by omega) h3
  obtain ⟨a4, r4⟩ := qfe Tryz.underlying9 (m + 1) m _ _ (by omega) h4
  obtain ⟨a5, i5, r5⟩ := trods_intI Tryz.underlying3 h5
  obtain ⟨a6, r6⟩ := trods_valI (m + 1) m _ _ (by omega) h6
  exact ⟨⟨⟨a0, a1, a2, a3, a4, a5, a6.1⟩, i5, a6.2⟩, rd_st (qeh (k := 1) r0 (qeh (k := 1) r1 (qeh (k := 1) r2 (qeh (k := 1) r3 (qeh (k := 1) r4 (qeh (k := 1) r5 (qeh (k := 3) r6 (rdS_end (by omega)))))))))⟩
theorem trods_lenssI (N : Nat) : Trods enc Tryz.prog w sp hd 22 (fun l : List {y : Lens // i64 y.n ∧ i64 y.value.n} => D.sl (l.map fun y => y.1.d)) N := fun n cs x hn h =>
  trods_sl Tryz.underlying22 (sz := 9) (by kernel_rfl) (by omega) (f := fun y : {y : Lens // i64 y.n ∧ i64 y.value.n} => y.1.d) (fun y => Lens.width y.1) (trods_lensI N) n cs x (by omega) h
theorem trods_valsI (N : Nat) : Trods enc Tryz.prog w sp hd 36 (fun l : List {y : Val // i64 y.n} => D.sl (l.map fun y => y.1.d)) N := fun n cs x hn h =>
  trods_sl Tryz.underlying36 (sz := 3) (by kernel_rfl) (by omega) (f := fun y : {y : Val // i64 y.n} => y.1.d) (fun y => Val.width y.1) (trods_valI N) n cs x (by omega) h
set_option maxRecDepth 100000 in
theorem par_lens (hval : Value.okWide Tryz.prog w0 .any b0 22 v) (h : DataW.Trod enc Tryz.prog w 0 sp hd 22 v d ps) : ∃ x : List Lens, (∀ y ∈ x, i64 y.n ∧ i64 y.value.n) ∧ Rd w Any (.sl (x.map Lens.d)) [v] := by
  obtain ⟨x, hx⟩ := par_sl Tryz.underlying22 hval h trods_lenssI
  refine ⟨x.map (·.1), fun y hy => ?_, by rw [List.map_map]; exact hx⟩
  obtain ⟨z, -, rfl⟩ := List.mem_map.1 hy
  exact z.2
set_option maxRecDepth 100000 in
theorem par_vals (hval : Value.okWide Tryz.prog w0 .any b0 36 v) (h : DataW.Trod enc Tryz.prog w 0 sp hd 36 v d ps) : ∃ x : List Val, (∀ y ∈ x, i64 y.n) ∧ Rd w Any (.sl (x.map Val.d)) [v] := by
  obtain ⟨x, hx⟩ := par_sl Tryz.underlying36 hval h trods_valsI
  refine ⟨x.map (·.1), fun y hy => ?_, by rw [List.map_map]; exact hx⟩
  obtain ⟨z, -, rfl⟩ := List.mem_map.1 hy
  exact z.2
end
end Go.Proofs.YtbkkjlcclddpdaaGreatDoor

/- The law LensSettles, lifted: the row and the tied card. (Printed by gen_lift14.py.) -/
namespace Go.Proofs.YtbkkjlcclddpdaaGreatDoor
open Go.ChangeShapes Go.WideShapes Go.ChangeAt Go.RowKit Go.Lib
set_option maxRecDepth 100000 in
theorem lensSettles_lifted (os : Os) (started : os.Started) (H : Type) (enc : TypeId × Value → H) :
    ReturnsInHanded {} Tryz.checked os 8 .any (fun w args => (Rows.lensSettlesSpec.pre enc Tryz.prog Tryz.f8 Rows.lensSettlesRow.domain false w args ∧ laidMetH Tryz.prog Rows.lensSettlesRow.laid w) ∧ sizedMet enc Tryz.prog Tryz.f8 (OpenSpec.ofChange Rows.lensSettlesSpec) false w args)
      (Rows.lensSettlesSpec.post enc Tryz.prog Tryz.f8 false true false false) := by
  refine returnsInHanded_three (C := Tryz.checked) (X := fun w _ => laidMetH Tryz.prog Rows.lensSettlesRow.laid w) Tryz.own started (by kernel_rfl) Tryz.func8
    (ChangeSpec.witness_shaped (enc := enc) (C := Tryz.checked) (os := os) (X := fun w _ => laidMetH Tryz.prog Rows.lensSettlesRow.laid w) false (World.laidAll Tryz.prog os Rows.lensSettlesRow.laid) #[.slice .none 0 0, .slice .none 0 0, .slice .none 0 0] 8 (World.laidAll_os _ _ _)
      (World.shaped_of_ZipB (by kernel_rfl) (by kernel_rfl)) (by kernel_rfl) (by kernel_rfl) (by kernel_rfl)
      (by rw [MakeChecks.laidMetH_plain _ _ _ (by kernel_rfl)]; exact laidMet_laidAll _ (by kernel_rfl) (by kernel_rfl)))
    (fun w w' us hh hX => by rw [MakeChecks.laidMetH_plain _ _ _ (by kernel_rfl)] at hX ⊢; exact laidMet.of_heap hh hX) ?_
  intro W base args ds gs before hval0 hW _ hsh hlaid
  rw [MakeChecks.laidMetH_plain _ _ _ (by kernel_rfl)] at hlaid
  have hglob := glob14 hsh hlaid (by simp [Rows.lensSettlesRow]) (by simp [Rows.lensSettlesRow]) (by simp [Rows.lensSettlesRow])
  have hval : ∀ (j : Nat) t v, Tryz.f8.params[j]? = some t → args[j]? = some v → Value.okWide Tryz.prog W .any base t v := hval0
  have hW' := hW
  obtain ⟨p, q, hA0, hV, rfl, hfz, hnd⟩ := hW
  have hA : DataW.TrodAll enc Tryz.prog W 0 (fun _ => true) true Tryz.f8.params.toList args.toList ds p := hA0
  rw [Tryz.params8] at hA hval
  obtain ⟨v0, v1, v2, d0, d1, d2, p0, p1, p2, rfl, rfl, rfl, h0, h1, h2⟩ := trodAll_3_02 hA
  obtain ⟨rfl, rfl⟩ := trodVars_none hV
  obtain ⟨x0, n0, r0⟩ := par_lens (hval 0 _ v0 rfl rfl) h0
  obtain ⟨x1, r1⟩ := par_sl Tryz.underlying35 (hval 1 _ v1 rfl rfl) h1 trods_cols
  obtain ⟨x2, n2, r2⟩ := par_vals (hval 2 _ v2 rfl rfl) h2
  refine (calls_of_gives (vals := [v0, v1, v2]) (lensSettles_g x0 x1 x2 (fun y hy => (n0 y hy).2) n2) ⟨_, _, rfl, Lens.flats r0, _, _, rfl, Col.flats r1, _, _, rfl, Val.flats r2, rfl⟩ hglob).mono ?_
  rintro r W' ⟨rfl, hb⟩
  exact ⟨_, rfl, law_post (P := Tryz.prog) Tryz.laidOut hW' rfl rfl (by kernel_rfl) Tryz.underlying4 (by kernel_rfl) hb⟩
theorem lensSettles_row : Rows.LensSettlesSaid :=
  OpenClaim.holds_of_wide 8 Tryz.f8 rfl rfl rfl rfl rfl rfl rfl ⟨rfl, rfl, rfl, rfl, rfl⟩ rfl rfl rfl rfl rfl (by kernel_rfl) Tryz.func8 (by kernel_rfl)
    (of_decide_eq_true (by kernel_rfl)) (by unfold Func.isWrapper; first | (rw [if_pos (by decide +kernel)]; kernel_rfl) | (rw [if_neg (by decide +kernel)]; exact ⟨rfl, rfl⟩))
    (fun os started H enc _ => lensSettles_lifted os started H enc)
theorem lensSettles_holds : Rows.LensSettlesCardSaid :=
  Claim7.holds_tied_plain_at .later [] [.data, .data, .data, .sentinel, .sentinel] true (true, "37ee94979087aae3786833705abdfdda4f29bf2bd51485dabcfa75dee9ddd430") true lensSettles_row (fun _ h => by cases h) (by kernel_rfl) (fun _ h => by cases h) lensSettles_row_tie rfl ⟨rfl, rfl⟩ (by kernel_rfl) rfl
    (fun f fn hf hfn => by
      obtain rfl : f = 8 := Option.some.inj ((show Tryz.prog.funcNamed "errata/erratalaw14.LensSettles" = some 8 by kernel_rfl).symm.trans hf) |>.symm
      obtain rfl : fn = Tryz.f8 := (Option.some.inj (Tryz.func8.symm.trans hfn)).symm
      exact ⟨by kernel_rfl, fun j t ht => by
        rw [Tryz.params8] at ht
        have hm : t ∈ [22, 35, 36] := by simpa using Array.mem_of_getElem? ht
        have hall : ([22, 35, 36].all fun u => !Tryz.prog.wantsStandIn u) = true := by kernel_rfl
        exact (show Tryz.prog.wantsStandIn t = false by simpa using List.all_eq_true.1 hall t hm)⟩)
    (by kernel_rfl)
end Go.Proofs.YtbkkjlcclddpdaaGreatDoor

/- What the bound of an '..Upto' statement gives of a list's length. -/
namespace Go.Proofs.YtbkkjlcclddpdaaGreatDoor
open Go.ChangeShapes Go.WideShapes Go.ChangeAt Go.RowKit Go.Lib
theorem bulk_one14 {H : Type} (d : DataW H) : 1 ≤ Rows.uptoBulk d := by
  cases d with
  | lit l => cases l <;> simp [Rows.uptoBulk]
  | nil => simp [Rows.uptoBulk]
  | ptr d => simp [Rows.uptoBulk]
  | slice elems spare => simp [Rows.uptoBulk]
  | agg parts => simp [Rows.uptoBulk]
  | iface t d => simp [Rows.uptoBulk]
  | map entries => simp [Rows.uptoBulk]
  | held h => simp [Rows.uptoBulk]
theorem bulk_len14 {H : Type} (l : List (DataW H)) : l.length ≤ Rows.uptoBulkAll l := by
  induction l with
  | nil => simp [Rows.uptoBulkAll]
  | cons x r ih => have := bulk_one14 x; simp only [Rows.uptoBulkAll, List.length_cons]; omega
section
variable {H : Type} {enc : TypeId × Value → H} {P : Program} {w : World} {sp : Nat → Bool} {hd : Bool}
theorem sl_len14 {t e : TypeId} {α : Type} {f : α → D} {n : Nat} {l : List α} {cs : List Value} {x : DataW H × List MemPlace} (ht : P.underlying t = some (.slice e))
    (hr : Rd w Any (.sl (l.map f)) cs) (h : DataW.trod enc P w 0 sp hd n t cs = some x) : l.length + 1 ≤ Rows.uptoBulk x.1 := by
  rw [Rd] at hr
  obtain ⟨A, cap', b, off, rfl, -, -, hA, hm⟩ := hr
  rw [List.length_map] at hA h
  rcases DataW.trod_slice ht h with ⟨h1, rfl⟩ | ⟨a, len, cap, elems, rest, m, rfl, h1, rfl, -, -, -, hlen, hel2, -, -⟩
  · have : l.length = 0 := by
      injection h1 with h2 _
      injection h2
    obtain rfl := List.eq_nil_of_length_eq_zero this
    simp [Rows.uptoBulk]
  · have h2 : Value.slice A l.length cap' = Value.slice (some a) len cap := by simpa using h1
    injection h2 with h3 h4 h5
    have hlen2 : l.length = elems.length := by rw [hlen]; omega
    have := bulk_len14 (elems.map (·.1))
    rw [List.length_map] at this
    simp only [Rows.uptoBulk]; omega
end
end Go.Proofs.YtbkkjlcclddpdaaGreatDoor
