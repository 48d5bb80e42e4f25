/- Walks of the program's text package: Lines, Unlines, Fields, Escape. -/
import Derived.Test.YtgpcpmfdklpifaaGreatDoorGa25
set_option linter.unusedSimpArgs false
set_option linter.unusedVariables false
namespace Go.Proofs.YtgpcpmfdklpifaaGreatDoor
open Go.RowKit Go.Lib
theorem idx_none {b : UInt8} {t : List UInt8} : ∀ {l : List UInt8}, b ∉ l → Lib.index l (b :: t) = -1
  | [], _ => rfl
  | c :: l, h => by
    have h1 : ¬ b = c := fun e => h (by simp [e])
    have ih := idx_none (b := b) (t := t) (l := l) fun e => h (List.mem_cons_of_mem _ e)
    unfold Lib.index
    rw [if_neg (by simp [List.isPrefixOf, h1]), ih]; rfl
theorem idx_at {b : UInt8} {t r : List UInt8} : ∀ {x : List UInt8}, b ∉ x → Lib.index (x ++ (b :: t) ++ r) (b :: t) = x.length
  | [], _ => by
    show Lib.index (b :: (t ++ r)) (b :: t) = _
    unfold Lib.index
    rw [if_pos (by simp [List.isPrefixOf])]; rfl
  | c :: x, h => by
    have h1 : ¬ b = c := fun e => h (by simp [e])
    have ih := idx_at (b := b) (t := t) (r := r) (x := x) fun e => h (List.mem_cons_of_mem _ e)
    show Lib.index (c :: (x ++ (b :: t) ++ r)) (b :: t) = _
    unfold Lib.index
    rw [if_neg (by simp [List.isPrefixOf, h1]), ih, if_neg (by simp <;> omega)]
    simp
theorem splitL_none {b : UInt8} {t x : List UInt8} (h : b ∉ x) : Lib.split x (b :: t) = [x] := by
  unfold Lib.split
  rw [Lib.count_miss (idx_none h)]; rfl
theorem splitL_cons {b : UInt8} {t x r : List UInt8} (h : b ∉ x) : Lib.split (x ++ (b :: t) ++ r) (b :: t) = x :: Lib.split r (b :: t) := by
  have hi := idx_at (t := t) (r := r) h
  have hd : (x ++ (b :: t) ++ r).drop (x.length + (b :: t).length) = r := by
    have : (x ++ (b :: t)).length = x.length + (b :: t).length := by simp
    rw [← this]; exact List.drop_left
  have hK : ∀ n (s : List UInt8), Lib.splitK (b :: t) 0 (n + 1) s = if Lib.index s (b :: t) == -1 then [s] else s.take ((Lib.index s (b :: t)).toNat + 0) :: Lib.splitK (b :: t) 0 n (s.drop ((Lib.index s (b :: t)).toNat + (b :: t).length)) := fun _ _ => rfl
  unfold Lib.split
  rw [Lib.count_hit (by simp) hi, hd, Nat.add_comm, hK, hi, if_neg (by simp <;> omega)]
  simp only [Int.toNat_natCast, Nat.add_zero]
  rw [hd]
  congr 1
  rw [List.append_assoc]; exact List.take_left
theorem split_brk (b : UInt8) : ∀ (n : Nat) (l : List UInt8), l.length ≤ n → Lib.split l [b] = brk b l := fun n => by
  induction n with
  | zero =>
    intro l h
    have : l = [] := List.eq_nil_of_length_eq_zero (by omega)
    subst this
    exact splitL_none (by simp)
  | succ n ih =>
    intro l h
    by_cases hb : b ∈ l
    · obtain ⟨x, r, rfl, hx⟩ := List.eq_append_cons_of_mem hb
      rw [brk_app hx, ← ih r (by simp at h; omega)]
      have := splitL_cons (t := []) (r := r) hx
      rw [← this]
      simp
    · rw [splitL_none hb, brk_none hb]
theorem map_bytes {l : List ByteArray} {m : List (List UInt8)} (h : l.map (·.data.toList) = m) : l = m.map qbc := by
  subst h
  rw [List.map_map]
  conv => lhs; rw [← List.map_id l]
  exact List.map_congr_left fun x _ => (qdf x).symm
def qec (sep s : ByteArray) : List ByteArray := Lib.splitB sep 0 (Lib.countB s sep) s
theorem splitA_length (sep s : ByteArray) (h1 : 1 ≤ sep.size) : (qec sep s).length = Lib.countB s sep + 1 := Lib.splitB_all sep h1 0 _ s rfl
theorem splitA_brk (b : UInt8) (s : ByteArray) : qec ⟨#[b]⟩ s = (brk b s.data.toList).map qbc := by
  refine map_bytes ?_
  rw [← split_brk b _ _ (Nat.le_refl _)]
  unfold qec
  rw [Lib.splitB_data]; rfl
theorem rcs_strs {X : St} : ∀ l : List ByteArray, RCs X (l.map AV.str) (l.map Value.string)
  | [] => rfl
  | c :: l => ⟨[_], _, rfl, by rw [RC], rcs_strs l⟩
theorem split_g (s sep : ByteArray) (hs : s.size < 4294967281) (h1 : 1 ≤ sep.size) : Gives Tryz.prog 67 [.str s, .str sep] (.sl ((qec sep s).map AV.str)) :=
  qdh fun X vals hS ha => by
    obtain ⟨v0, _, rfl, h2, v1, _, rfl, h3, h4⟩ := ha
    cases h4
    cases qdm h2; cases qdm h3
    obtain ⟨⟨m, hm⟩, -⟩ := hS.glob
    refine (Tryz.strings_Split s sep m X.w hs hm.1.1 h1).mono ?_
    rintro e w' ⟨rfl, rfl⟩
    have hE := (Ext.refl X.w).alloc (.cells ((qec sep s).map Value.string).toArray 9)
    refine ⟨hE, _, rfl, ?_⟩
    show RC _ (.sl _) [_]
    rw [RC]
    have hlen := splitA_length sep s h1
    have hc := Lib.countB_le sep h1 _ s (Nat.le_refl _)
    refine ⟨_, _, X.w.heap.size, 0, by rw [List.length_map, hlen], by rw [List.length_map, hlen]; exact Nat.le_refl _, by omega, fun _ => rfl, ?_⟩
    refine RM.of (rcs_strs _) (qcs _ 0 fun j u hj => ⟨?_, .inr ⟨Nat.le_refl _, by simp [World.size_alloc]⟩⟩)
    have := cells_new X.w ((qec sep s).map Value.string).toArray 9 j u (by simpa using hj)
    rwa [qbb] at this
abbrev strA (l : List UInt8) : AV := AV.str (qbc l)
abbrev strs (L : List (List UInt8)) : List AV := L.map strA
theorem trim_eq (l : List UInt8) : Lib.trimSuffix l [10] = if l.getLast? = some 10 then l.dropLast else l := by
  have hs : Lib.hasSuffix l [10] = (l.getLast? == some 10) := by
    unfold Lib.hasSuffix
    rw [Bool.eq_iff_iff]
    simp only [List.isSuffixOf_iff_suffix, beq_iff_eq]
    constructor
    · rintro ⟨t, rfl⟩; simp
    · intro h
      obtain ⟨ys, rfl⟩ := List.getLast?_eq_some_iff.1 h
      exact List.suffix_append _ _
  unfold Lib.trimSuffix
  rw [hs]
  by_cases h : l.getLast? = some 10
  · rw [if_pos (by simp [h]), if_pos h, List.dropLast_eq_take]; rfl
  · rw [if_neg (by simp [h]), if_neg h]
@[simp] theorem strs_wid (L : List (List UInt8)) : AV.wid (L.map strA) 1 := AV.wid_map (f := strA) (fun _ => rfl) L
@[simp] theorem strs_elms (L : List (List UInt8)) : AV.elms (L.map strA) := AV.elms_map (f := strA) (fun _ => rfl) L
theorem trim_le (s p : List UInt8) : (Lib.trimSuffix s p).length ≤ s.length := by
  unfold Lib.trimSuffix
  split
  · rw [List.length_take]; omega
  · exact Nat.le_refl _
theorem qbp (l : List UInt8) : (qbc l).size = l.length := by rw [Lib.size_eq, bytesA_data]
theorem lines_g (s : ByteArray) (hs : s.size ≤ 1000000) : Gives Tryz.prog 66 [.str s] (.sl (strs (linesP s.data.toList))) := by
  by_cases h0 : s.data.toList = []
  · have h0' : s.toList = [] := by rw [ByteArray.toList_eq]; exact h0
    rw [h0]
    refine qn Tryz.func66 Tryz.ntmps66 rfl rfl (by decide) rfl (by intro n; simp) fun σ n0 hcl hft => ?_
    repeat' (first | ((first | ((with_reducible refine qo (fun hg => ?_) (fun hg => ?_)) <;> (try simp only [hg]) <;> (try simp only [gS] at hg) <;> (try (first | simp only [eq_false hg, gI] | simp only [eq_true hg, gI]))) | (with_reducible first | refine qc ?_ | refine qb ?_ | refine qi ?_ | refine qh ?_) | refine qe ?_ | refine qj ?_ | refine qk ?_ | refine qm ?_) <;> (try simp (disch := first | omega | simp) [qg, -qq, -qs, h0'])) | ((with_reducible refine sideT ?_ ?_); first | omega | assumption | (simp; done)) | (refine qf fun K hK => ?_) | (refine qa ?_) | refine ql ?_ | ((first | refine hK _ ?_ | (clear hK K; refine hK _ ?_) | (clear hK K; clear hK K; refine hK _ ?_)); clear hK K) | refine qd ?_)
    all_goals rfl
  · have h0' : ¬ s.toList = [] := by rw [ByteArray.toList_eq]; exact h0
    have h1' : s.toList.isEmpty = false := by simpa using h0'
    have c1 := trimSuffix_g s ⟨#[10]⟩ (by omega)
    have hle := trim_le s.data.toList (⟨#[10]⟩ : ByteArray).data.toList
    rw [← Lib.size_eq] at hle
    have c2 := split_g (qbc (Lib.trimSuffix s.data.toList (⟨#[10]⟩ : ByteArray).data.toList)) ⟨#[10]⟩ (by rw [qbp]; omega) (by decide)
    have e : (qec ⟨#[10]⟩ (qbc (Lib.trimSuffix s.data.toList (⟨#[10]⟩ : ByteArray).data.toList))).map AV.str = strs (linesP s.data.toList) := by
      rw [splitA_brk, bytesA_data, trim_eq]
      unfold linesP strs
      rw [if_neg h0, List.map_map]; rfl
    rw [e] at c2
    refine qn Tryz.func66 Tryz.ntmps66 rfl rfl (by decide) rfl (by intro n; simp) fun σ n0 hcl hft => ?_
    repeat' (first | ((first | ((with_reducible refine qo (fun hg => ?_) (fun hg => ?_)) <;> (try simp only [hg]) <;> (try simp only [gS] at hg) <;> (try (first | simp only [eq_false hg, gI] | simp only [eq_true hg, gI]))) | (with_reducible first | refine qc ?_ | refine qb ?_ | refine qi ?_ | refine qh ?_) | refine acall (c1) ?_ | refine qp (c1) ?_ | refine acall (c2) ?_ | refine qp (c2) ?_ | refine qe ?_ | refine qj ?_ | refine qk ?_ | refine qm ?_) <;> (try simp (disch := first | omega | simp) [qg, -qq, -qs, h0', h1'])) | ((with_reducible refine sideT ?_ ?_); first | omega | assumption | (simp; done)) | (refine qf fun K hK => ?_) | (refine qa ?_) | refine ql ?_ | ((first | refine hK _ ?_ | (clear hK K; refine hK _ ?_) | (clear hK K; clear hK K; refine hK _ ?_)); clear hK K) | refine qd ?_)
end Go.Proofs.YtgpcpmfdklpifaaGreatDoor
