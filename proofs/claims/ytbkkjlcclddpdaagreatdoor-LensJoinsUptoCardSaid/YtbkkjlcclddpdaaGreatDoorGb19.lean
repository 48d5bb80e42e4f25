/- Layer 14 on plain data: right shapes, and rows that fit, as plain facts. -/
import Derived.WideShapes
import Derived.Laws.Strings
import Derived.Test.YtbkkjlcclddpdaaGreatDoorGb1
import Derived.Test.YtbkkjlcclddpdaaGreatDoorGb8
import Derived.Test.YtbkkjlcclddpdaaGreatDoorGb10
import Derived.Test.YtbkkjlcclddpdaaGreatDoorGb18
set_option linter.unusedSimpArgs false
set_option linter.unusedVariables false
namespace Go.Proofs.YtbkkjlcclddpdaaGreatDoor
open Go.RowKit Go.Lib
def namesC (L : List Col) : List (List UInt8) := L.map fun c => c.name.toList
structure ColOk (c : Col) : Prop where
  name : ownP c.name.toList = true
  k0 : 0 ≤ c.type
  k1 : c.type < 3
  unit : unitP c = true
def Apart {α : Type} (l : List α) : Prop := ∀ i j (hi : i < l.length) (hj : j < l.length), l[i] = l[j] → i = j
structure ShapeOk (L : List Col) : Prop where
  cols : ∀ c ∈ L, ColOk c
  names : Apart (namesC L)
  l0 : 1 ≤ L.length
  l1 : L.length ≤ 12
theorem findI {L : List Col} {s : List UInt8} (h : 0 ≤ findP L s) : ∃ i : Nat, findP L s = i ∧ ∃ hi : i < L.length, L[i].name.toList = s := by
  obtain ⟨i, hi⟩ : ∃ i : Nat, findP L s = i := ⟨(findP L s).toNat, by omega⟩
  exact ⟨i, hi, findP_at hi⟩
theorem find_no {L : List Col} {s : List UInt8} (h : findP L s < 0) {i : Nat} (hi : i < L.length) : L[i].name.toList ≠ s := fun e => by
  have := (findP_hit hi e).1; omega
theorem find_none {L : List Col} {s : List UInt8} (h : ∀ i (hi : i < L.length), L[i].name.toList ≠ s) : findP L s < 0 := by
  refine Classical.byContradiction fun hn => ?_
  obtain ⟨i, -, hi, e⟩ := findI (L := L) (s := s) (by omega)
  exact h i hi e
theorem type_name {k : Int} : ¬ qcx k = [] ↔ 0 ≤ k ∧ k < 3 := by
  unfold qcx
  by_cases h : 0 ≤ k ∧ k < 3
  · rw [if_pos h]
    refine ⟨fun _ => h, fun _ => ?_⟩
    obtain rfl | rfl | rfl : k = 0 ∨ k = 1 ∨ k = 2 := by omega
    all_goals decide
  · rw [if_neg h]; simp [h]
theorem okC_iff {L : List Col} {i : Nat} {c : Col} : okC L i c = true ↔ ColOk c ∧ findP (L.take i) c.name.toList < 0 := by
  unfold okC
  simp only [Bool.and_eq_true, Bool.not_eq_true', decide_eq_false_iff_not, decide_eq_true_eq, type_name]
  constructor
  · rintro ⟨⟨⟨h1, h2⟩, h3⟩, h4⟩; exact ⟨⟨h1, h2.1, h2.2, h3⟩, h4⟩
  · rintro ⟨h1, h4⟩; exact ⟨⟨⟨h1.name, h1.k0, h1.k1⟩, h1.unit⟩, h4⟩
theorem right_iff {L : List Col} : rightP L = true ↔ ShapeOk L := by
  constructor
  · intro h
    obtain ⟨h1, h2, h3⟩ := right_ok h
    refine ⟨fun c hc => ?_, fun i j hi hj e => ?_, h2, h3⟩
    · obtain ⟨j, hj, rfl⟩ := List.mem_iff_getElem.1 hc
      exact (okC_iff.1 (h1 j hj)).1
    · have key : ∀ i j (hi : i < L.length) (hj : j < L.length), i < j → L[i].name.toList ≠ L[j].name.toList := fun i j hi hj hij e => by
        have := (okC_iff.1 (h1 j hj)).2
        have h4 : i < (L.take j).length := by simp; omega
        exact find_no this h4 (by rw [List.getElem_take]; exact e)
      have hi' : i < L.length := by simpa [namesC] using hi
      have hj' : j < L.length := by simpa [namesC] using hj
      have e' : L[i].name.toList = L[j].name.toList := by simpa [namesC] using e
      rcases Nat.lt_trichotomy i j with h5 | h5 | h5
      · exact absurd e' (key i j hi' hj' h5)
      · exact h5
      · exact absurd e'.symm (key j i hj' hi' h5)
  · intro h
    refine right_of (fun j hj => okC_iff.2 ⟨h.cols _ (List.getElem_mem hj), find_none fun i hi e => ?_⟩) h.l0 h.l1
    have hi2 : i < j := by simp at hi; omega
    rw [List.getElem_take] at e
    have := h.names i j (by simp [namesC]; omega) (by simpa [namesC] using hj) (by simpa [namesC] using e)
    omega
structure FitOk (row : List Val) (L : List Col) : Prop where
  kinds : row.map Val.k = L.map Col.type
  vals : ∀ v ∈ row, qbl v = true
theorem FitOk.len {row : List Val} {L : List Col} (h : FitOk row L) : row.length = L.length := by
  have := congrArg List.length h.kinds; simpa using this
theorem fits_iff {row : List Val} {L : List Col} : fitsC row L = true ↔ FitOk row L ∧ L.length ≤ 12 := by
  unfold fitsC rowOk
  simp only [Bool.and_eq_true, decide_eq_true_eq, List.all_eq_true]
  constructor
  · rintro ⟨⟨h1, h2, h3⟩, h4⟩; exact ⟨⟨h4, h3⟩, by omega⟩
  · rintro ⟨h, h2⟩; exact ⟨⟨h.len, by have := h.len; omega, h.vals⟩, h.kinds⟩
theorem Apart.pre {α β : Type} {l : List α} {f : α → β} (h : Apart (l.map f)) {i j : Nat} (hi : i < l.length) (hj : j < l.length) (e : f l[i] = f l[j]) : i = j :=
  h i j (by simpa using hi) (by simpa using hj) (by simpa using e)
end Go.Proofs.YtbkkjlcclddpdaaGreatDoor

/- api.Lens as an abstract value. -/
namespace Go.Proofs.YtbkkjlcclddpdaaGreatDoor
open Go.RowKit Go.Lib
def Lens.av (x : Lens) : AV := .agg [.int x.op, .str x.a, .str x.b, .str x.c, .str x.sep, .int x.n, .int x.value.k, .int x.value.n, .str x.value.s]
@[simp] theorem Lens.av_nt (x : Lens) : x.av.nt = true := rfl
@[simp] theorem Lens.av_sure (x : Lens) : x.av.sure = true := rfl
@[simp] theorem Lens.av_elem (x : Lens) : x.av.elem = true := rfl
@[simp] theorem Lens.av_width (x : Lens) : x.av.width = 9 := rfl
@[simp] theorem Lens.av_pub (x : Lens) : x.av.pub = x.av := by unfold Lens.av; rw [AV.pub]; simp only [AV.pubs_cons, AV.pubs_nil, AV.pub_v, pubV, AV.pub_sl]
@[simp] theorem Lens.av_cells (x : Lens) : x.av.cells = [.int x.op, .str x.a, .str x.b, .str x.c, .str x.sep, .int x.n, .int x.value.k, .int x.value.n, .str x.value.s] := rfl
@[simp] theorem Lens.av_fold (x : Lens) : AV.agg [.int x.op, .str x.a, .str x.b, .str x.c, .str x.sep, .int x.n, .int x.value.k, .int x.value.n, .str x.value.s] = x.av := rfl
@[simp] theorem Lens.av_val? (x : Lens) : x.av.val? = none := rfl
@[simp] theorem Lens.rd_all (x : Lens) (σ : Nat → AB) : rdAt σ true 9 (.ep x.av 0) = some x.av := rfl
@[simp] theorem Lens.rd_0 (x : Lens) (σ : Nat → AB) (n : Nat) : rdAt σ false n (.ep x.av 0) = some (.int x.op) := rfl
@[simp] theorem Lens.rd_1 (x : Lens) (σ : Nat → AB) (n : Nat) : rdAt σ false n (.ep x.av 1) = some (.str x.a) := rfl
@[simp] theorem Lens.rd_2 (x : Lens) (σ : Nat → AB) (n : Nat) : rdAt σ false n (.ep x.av 2) = some (.str x.b) := rfl
@[simp] theorem Lens.rd_3 (x : Lens) (σ : Nat → AB) (n : Nat) : rdAt σ false n (.ep x.av 3) = some (.str x.c) := rfl
@[simp] theorem Lens.rd_4 (x : Lens) (σ : Nat → AB) (n : Nat) : rdAt σ false n (.ep x.av 4) = some (.str x.sep) := rfl
@[simp] theorem Lens.rd_5 (x : Lens) (σ : Nat → AB) (n : Nat) : rdAt σ false n (.ep x.av 5) = some (.int x.n) := rfl
@[simp] theorem Lens.rda_6 (x : Lens) (σ : Nat → AB) : rdAt σ true 3 (.ep x.av 6) = some x.value.av := rfl
@[simp] theorem Lens.rd_6 (x : Lens) (σ : Nat → AB) (n : Nat) : rdAt σ false n (.ep x.av 6) = some (.int x.value.k) := rfl
@[simp] theorem Lens.rd_7 (x : Lens) (σ : Nat → AB) (n : Nat) : rdAt σ false n (.ep x.av 7) = some (.int x.value.n) := rfl
@[simp] theorem Lens.rd_8 (x : Lens) (σ : Nat → AB) (n : Nat) : rdAt σ false n (.ep x.av 8) = some (.str x.value.s) := rfl
@[simp] theorem Lens.av_cl (x : Lens) (m : Nat) : x.av.cl m := by unfold Lens.av; simp [-Lens.av_fold]
@[simp] theorem Lens.avs_cl (l : List Lens) (m : Nat) : AV.cls m (l.map Lens.av) := AV.cls_map (fun f => f.av_cl m) l
@[simp] theorem Lens.avs_wid (l : List Lens) : AV.wid (l.map Lens.av) 9 := AV.wid_map (f := Lens.av) (fun a => a.av_width) l
@[simp] theorem Lens.avs_elms (l : List Lens) : AV.elms (l.map Lens.av) := AV.elms_map (f := Lens.av) (fun a => a.av_elem) l
theorem Lens.q : qinfo Tryz.prog 29 = some [(0, 0), (1, 2), (2, 2), (3, 2), (4, 2), (5, 0), (6, 0), (7, 0), (8, 2)] := by kernel_rfl
theorem Lens.d_av (x : Lens) : x.d.av = x.av := rfl
theorem Lens.ds_av (l : List Lens) : (D.sl (l.map Lens.d)).av = .sl (l.map Lens.av) := by
  rw [D.av, D.avs_map, List.map_map]
  first
  | rfl
  | (congr 1; exact List.map_congr_left fun x _ => x.d_av)
theorem Lens.flat {w : World} {x : Lens} {cs : List Value} (h : Rd w Any x.d cs) : RR1 (St.flat w) x.av (.agg cs.toArray) := by
  have := flat_rc h
  rw [Lens.d_av, Lens.av, RC] at this
  exact ⟨cs, rfl, this⟩
theorem Lens.flats {w : World} {l : List Lens} {v : Value} (h : Rd w Any (.sl (l.map Lens.d)) [v]) : RR1 (St.flat w) (.sl (l.map Lens.av)) v := by
  have := flat_rc h
  rw [Lens.ds_av] at this
  exact this
end Go.Proofs.YtbkkjlcclddpdaaGreatDoor

/- The contract of strings.Cut, abstract. -/
namespace Go.Proofs.YtbkkjlcclddpdaaGreatDoor
open Go.RowKit Go.Lib
def cutA (s sep : ByteArray) : ByteArray × ByteArray × Bool := (qs (Lib.cut s.data.toList sep.data.toList).1, qs (Lib.cut s.data.toList sep.data.toList).2.1, (Lib.cut s.data.toList sep.data.toList).2.2)
theorem cut_g (s sep : ByteArray) (hs : s.size < 4294967281) : Gives Tryz.prog 136 [.str s, .str sep] (.tup [.str (cutA s sep).1, .str (cutA s sep).2.1, .bool (cutA s sep).2.2]) :=
  qft fun X vals hS ha => by
    obtain ⟨v0, _, rfl, h2, v1, _, rfl, h3, h4⟩ := ha
    cases h4
    cases arg_vv h2; cases arg_vv h3
    obtain ⟨⟨m, hm⟩, -⟩ := hS.glob
    refine (Tryz.strings_Cut s sep m X.w hs hm.1.1).mono ?_
    rintro e w' ⟨rfl, n, rfl⟩
    exact ⟨(Ext.refl X.w).drewN n, _, rfl, [_, _, _], rfl, _, _, rfl, RR1.of_one rfl (by rw [RC]; rfl), _, _, rfl, RR1.of_one rfl (by rw [RC]; rfl), _, _, rfl, RR1.of_one rfl (by rw [RC]; rfl), rfl⟩
end Go.Proofs.YtbkkjlcclddpdaaGreatDoor

/- Lengths and parts of strings. -/
namespace Go.Proofs.YtbkkjlcclddpdaaGreatDoor
open Go.RowKit Go.Lib
theorem qt (l : List UInt8) : (qs l).size = l.length := by rw [Lib.size_eq, bytesA_data]
theorem qdr (s : ByteArray) : s.data.toList.length = s.size := by rw [Array.length_toList]; rfl
theorem ext_drop (s : List UInt8) (k : Nat) : (qs s).extract k s.length = qs (s.drop k) := by
  apply ByteArray.ext
  rw [ByteArray.data_extract]
  show (s.toArray).extract k _ = (s.drop k).toArray
  apply Array.ext'
  simp
  rw [List.take_of_length_le (by rw [List.length_drop]; omega)]
theorem ext_tk (s : List UInt8) (k : Nat) : (qs s).extract 0 k = qs (s.take k) := by
  apply ByteArray.ext
  rw [ByteArray.data_extract]
  show (s.toArray).extract 0 _ = (s.take k).toArray
  apply Array.ext'
  simp
end Go.Proofs.YtbkkjlcclddpdaaGreatDoor

/- Walks of lens: names that are taken, cut, split. -/
namespace Go.Proofs.YtbkkjlcclddpdaaGreatDoor
open Go.RowKit Go.Lib
theorem ext_take (s : ByteArray) (k : Nat) : s.extract 0 k = qs (s.data.toList.take k) := by
  apply ByteArray.ext
  rw [ByteArray.data_extract]
  show _ = (s.data.toList.take k).toArray
  apply Array.ext'
  simp
theorem lcut_g (s : ByteArray) (hs : s.size ≤ 9223372036854775807) : Gives Tryz.prog 108 [.str s] (cutV s.data.toList).av := by
  have hm : cutV s.data.toList = ⟨1, 0, s.extract 0 (min s.size 200)⟩ := by
    unfold cutV
    rw [← ext_take]
    by_cases h : s.size ≤ 200
    · rw [Nat.min_eq_left h, ext_take, ext_take, List.take_of_length_le (by rw [Array.length_toList]; exact h), List.take_of_length_le (by rw [Array.length_toList]; exact Nat.le_refl _)]
    · rw [Nat.min_eq_right (by omega)]
  rw [hm]
  by_cases h : s.size ≤ 200
  · rw [Nat.min_eq_left h]
    have h2 : (if (200 : Int) < (s.size : Int) then (200 : Int) else (s.size : Int)) = s.size := if_neg (by omega)
    refine qm Tryz.func108 Tryz.ntmps108 rfl rfl (by decide) rfl (by intro n; simp) fun σ n0 hcl hft => ?_
    repeat' (first | ((first | ((with_reducible refine qp (fun hg => ?_) (fun hg => ?_)) <;> (try simp only [hg]) <;> (try simp only [gS] at hg) <;> (try (first | simp only [eq_false hg, gI] | simp only [eq_true hg, gI]))) | (with_reducible first | refine qc ?_ | refine qb ?_ | refine qj ?_ | refine qi ?_) | refine acall (qde _) ?_ | refine qn (qde _) ?_ | refine qe ?_ | refine qk ?_ | refine qh ?_ | refine qo ?_) <;> (try simp (disch := first | omega | simp) [qg, -qq, -qu, h2])) | ((with_reducible refine sideT ?_ ?_); first | omega | assumption | (simp; done)) | (refine qf fun K hK => ?_) | (refine qa ?_) | refine ql ?_ | ((first | refine hK _ ?_ | (clear hK K; refine hK _ ?_) | (clear hK K; clear hK K; refine hK _ ?_)); clear hK K) | refine qd ?_)
    rfl
  · rw [Nat.min_eq_right (by omega)]
    have h2 : (if (200 : Int) < (s.size : Int) then (200 : Int) else (s.size : Int)) = 200 := if_pos (by omega)
    have h3 : 200 ≤ s.size := by omega
    refine qm Tryz.func108 Tryz.ntmps108 rfl rfl (by decide) rfl (by intro n; simp) fun σ n0 hcl hft => ?_
    repeat' (first | ((first | ((with_reducible refine qp (fun hg => ?_) (fun hg => ?_)) <;> (try simp only [hg]) <;> (try simp only [gS] at hg) <;> (try (first | simp only [eq_false hg, gI] | simp only [eq_true hg, gI]))) | (with_reducible first | refine qc ?_ | refine qb ?_ | refine qj ?_ | refine qi ?_) | refine acall (qde _) ?_ | refine qn (qde _) ?_ | refine qe ?_ | refine qk ?_ | refine qh ?_ | refine qo ?_) <;> (try simp (disch := first | omega | simp) [qg, -qq, -qu, h2, h3])) | ((with_reducible refine sideT ?_ ?_); first | omega | assumption | (simp; done)) | (refine qf fun K hK => ?_) | (refine qa ?_) | refine ql ?_ | ((first | refine hK _ ?_ | (clear hK K; refine hK _ ?_) | (clear hK K; clear hK K; refine hK _ ?_)); clear hK K) | refine qd ?_)
    rfl
theorem cut_len (s sep : List UInt8) : (Lib.cut s sep).1.length ≤ s.length ∧ (Lib.cut s sep).2.1.length ≤ s.length := by
  unfold Lib.cut
  split
  · exact ⟨by rw [List.length_take]; omega, by rw [List.length_drop]; omega⟩
  · exact ⟨Nat.le_refl _, Nat.zero_le _⟩
theorem lsplit_g (s sep : ByteArray) (hs : s.size < 4294967281) : Gives Tryz.prog 106 [.str s, .str sep] (.tup [(qby s.data.toList sep.data.toList).1.av, (qby s.data.toList sep.data.toList).2.av]) := by
  have h1 := cut_len s.data.toList sep.data.toList
  rw [qdr] at h1
  have c1 := cut_g s sep hs
  have c2 := lcut_g (cutA s sep).1 (by have := qt (Lib.cut s.data.toList sep.data.toList).1; show (qs _).size ≤ _; omega)
  have c3 := lcut_g (cutA s sep).2.1 (by have := qt (Lib.cut s.data.toList sep.data.toList).2.1; show (qs _).size ≤ _; omega)
  have e1 : (cutA s sep).1.data.toList = (Lib.cut s.data.toList sep.data.toList).1 := rfl
  have e2 : (cutA s sep).2.1.data.toList = (Lib.cut s.data.toList sep.data.toList).2.1 := rfl
  rw [e1] at c2
  rw [e2] at c3
  unfold qby
  refine qm Tryz.func106 Tryz.ntmps106 rfl rfl (by decide) rfl (by intro n; simp) fun σ n0 hcl hft => ?_
  repeat' (first | ((first | ((with_reducible refine qp (fun hg => ?_) (fun hg => ?_)) <;> (try simp only [hg]) <;> (try simp only [gS] at hg) <;> (try (first | simp only [eq_false hg, gI] | simp only [eq_true hg, gI]))) | (with_reducible first | refine qc ?_ | refine qb ?_ | refine qj ?_ | refine qi ?_) | refine acall (c1) ?_ | refine qn (c1) ?_ | refine acall (c2) ?_ | refine qn (c2) ?_ | refine acall (c3) ?_ | refine qn (c3) ?_ | refine qe ?_ | refine qk ?_ | refine qh ?_ | refine qo ?_) <;> (try simp (disch := first | omega | simp) [qg, -qq, -qu])) | ((with_reducible refine sideT ?_ ?_); first | omega | assumption | (simp; done)) | (refine qf fun K hK => ?_) | (refine qa ?_) | refine ql ?_ | ((first | refine hK _ ?_ | (clear hK K; refine hK _ ?_) | (clear hK K; clear hK K; refine hK _ ?_)); clear hK K) | refine qd ?_)
theorem fmtBool_g (b : Bool) : Gives Tryz.prog 140 [.bool b] (.str (qs (Lib.formatBool b))) :=
  qft fun X vals hS ha => by
    obtain ⟨v0, _, rfl, h2, h4⟩ := ha
    cases h4
    cases arg_vv h2
    refine (Tryz.strconv_FormatBool b X.w).mono ?_
    rintro e w' ⟨rfl, rfl⟩
    exact ⟨Ext.refl _, _, rfl, RR.v.2 rfl⟩
theorem contains_g (L : List ByteArray) (s : ByteArray) (hL : L.length ≤ 1000000) : Gives Tryz.prog 132 [.sl (L.map AV.str), .str s] (.bool (decide (0 ≤ idxP (fun x => s.toList == x.toList) L))) := by
  refine qm Tryz.func132 Tryz.ntmps132 rfl rfl (by decide) rfl (by intro n; simp) fun σ n0 hcl hft => ?_
  repeat' (first | ((first | ((with_reducible refine qp (fun hg => ?_) (fun hg => ?_)) <;> (try simp only [hg]) <;> (try simp only [gS] at hg) <;> (try (first | simp only [eq_false hg, gI] | simp only [eq_true hg, gI]))) | (with_reducible first | refine qc ?_ | refine qb ?_ | refine qj ?_ | refine qi ?_) | refine acall (idxS_g L s hL) ?_ | refine qn (idxS_g L s hL) ?_ | refine qe ?_ | refine qk ?_ | refine qh ?_ | refine qo ?_) <;> (try simp (disch := first | omega | simp) [qg, -qq, -qu])) | ((with_reducible refine sideT ?_ ?_); first | omega | assumption | (simp; done)) | (refine qf fun K hK => ?_) | (refine qa ?_) | refine ql ?_ | ((first | refine hK _ ?_ | (clear hK K; refine hK _ ?_) | (clear hK K; clear hK K; refine hK _ ?_)); clear hK K) | refine qd ?_)
theorem contains_b (L : List ByteArray) (s : ByteArray) : decide (0 ≤ idxP (fun x => s.toList == x.toList) L) = (L.map fun x => x.toList).contains s.toList := by
  rw [idxP_any]
  induction L with
  | nil => rfl
  | cons x l ih => rw [List.any_cons, List.map_cons, List.contains_cons, ih]
theorem taken_g (cols : List Col) (s : ByteArray) (L : List ByteArray) (hc : cols.length ≤ 1000000) (hL : L.length ≤ 1000000) : Gives Tryz.prog 98 [.sl (cols.map Col.av), .str s, .sl (L.map AV.str)] (.bool (takenB cols s.toList (L.map fun x => x.toList))) := by
  have c1 := qz cols s hc
  have c2 := contains_g L s hL
  rw [contains_b] at c2
  unfold takenB
  refine qm Tryz.func98 Tryz.ntmps98 rfl rfl (by decide) rfl (by intro n; simp) fun σ n0 hcl hft => ?_
  repeat' (first | ((first | ((with_reducible refine qp (fun hg => ?_) (fun hg => ?_)) <;> (try simp only [hg]) <;> (try simp only [gS] at hg) <;> (try (first | simp only [eq_false hg, gI] | simp only [eq_true hg, gI]))) | (with_reducible first | refine qc ?_ | refine qb ?_ | refine qj ?_ | refine qi ?_) | refine acall (c1) ?_ | refine qn (c1) ?_ | refine acall (c2) ?_ | refine qn (c2) ?_ | refine qe ?_ | refine qk ?_ | refine qh ?_ | refine qo ?_) <;> (try simp (disch := first | omega | simp) [qg, -qq, -qu])) | ((with_reducible refine sideT ?_ ?_); first | omega | assumption | (simp; done)) | (refine qf fun K hK => ?_) | (refine qa ?_) | refine ql ?_ | ((first | refine hK _ ?_ | (clear hK K; refine hK _ ?_) | (clear hK K; clear hK K; refine hK _ ?_)); clear hK K) | refine qd ?_)
  all_goals first | omega | (intro _; assumption)
end Go.Proofs.YtbkkjlcclddpdaaGreatDoor

/- Walk of lens.refuse. -/
namespace Go.Proofs.YtbkkjlcclddpdaaGreatDoor
open Go.RowKit Go.Lib
theorem qda {L : List Col} {i : Nat} (h : i < L.length) : colAt L i = L[i] := by unfold colAt; rw [List.getD_eq_getElem?_getD, List.getElem?_eq_getElem h]; rfl
set_option maxRecDepth 4000 in
set_option maxHeartbeats 4000000 in
theorem qgj (x : Lens) (cols : List Col) (i : Nat) (hi : i < cols.length) (hc : cols.length ≤ 1000000) (hj : x.op = 4 → 0 ≤ findP cols x.b.toList) : Gives Tryz.prog 47 [x.av, .sl (cols.map Col.av), .int i] (.int (qdj x cols i)) := by
  have c0 := taken_g cols x.b [] hc (by decide)
  have c1 := taken_g cols x.b [x.a] hc (by simp)
  have c2 := taken_g cols x.c [x.a] hc (by simp)
  have c3 := taken_g cols x.c [x.a, x.b] hc (by simp)
  have c4 := qz cols x.b hc
  simp only [List.map_nil, List.map_cons] at c0 c1 c2 c3
  have hci := qda hi
  have q1 : (cols.length < 2) = ((cols.length : Int) < 2) := propext (by omega)
  have q2 : (12 ≤ cols.length) = (12 ≤ (cols.length : Int)) := propext (by omega)
  unfold qdj
  rw [hci]
  simp only [q1, q2]
  clear q1 q2
  by_cases h4 : x.op = 4
  · obtain ⟨k, hk, hk2, -⟩ := findI (hj h4)
    have hck := qda hk2
    rw [hk] at c4
    have e1 : (findP cols x.b.toList).toNat = k := by omega
    rw [e1, hck]
    refine qm Tryz.func47 Tryz.ntmps47 rfl rfl (by decide) rfl (by intro n; simp) fun σ n0 hcl hft => ?_
    repeat' (first | ((first | ((with_reducible refine qp (fun hg => ?_) (fun hg => ?_)) <;> (try simp only [hg]) <;> (try simp only [gS] at hg) <;> (try (first | simp only [eq_false hg, gI] | simp only [eq_true hg, gI]))) | (with_reducible first | refine qc ?_ | refine qb ?_ | refine qj ?_ | refine qi ?_) | refine acall (c3) ?_ | refine qn (c3) ?_ | refine acall (c4) ?_ | refine qn (c4) ?_ | refine qe ?_ | refine qk ?_ | refine qh ?_ | refine qo ?_) <;> (try simp (disch := first | omega | simp) [qg, -qq, -qu, hi, h4, hk2])) | ((with_reducible refine sideT ?_ ?_); first | omega | assumption | (simp; done)) | (refine qf fun K hK => ?_) | (refine qa ?_) | refine ql ?_ | ((first | refine hK _ ?_ | (clear hK K; refine hK _ ?_) | (clear hK K; clear hK K; refine hK _ ?_)); clear hK K) | refine qd ?_)
    all_goals (clear c0 c1 c2 c3 c4 hcl hft; first | (simp_all; done) | (exfalso; simp_all; done))
  · refine qm Tryz.func47 Tryz.ntmps47 rfl rfl (by decide) rfl (by intro n; simp) fun σ n0 hcl hft => ?_
    repeat' (first | ((first | ((with_reducible refine qp (fun hg => ?_) (fun hg => ?_)) <;> (try simp only [hg]) <;> (try simp only [gS] at hg) <;> (try (first | simp only [eq_false hg, gI] | simp only [eq_true hg, gI]))) | (with_reducible first | refine qc ?_ | refine qb ?_ | refine qj ?_ | refine qi ?_) | refine acall (c0) ?_ | refine qn (c0) ?_ | refine acall (c1) ?_ | refine qn (c1) ?_ | refine acall (c2) ?_ | refine qn (c2) ?_ | refine qe ?_ | refine qk ?_ | refine qh ?_ | refine qo ?_) <;> (try simp (disch := first | omega | simp) [qg, -qq, -qu, hi, h4])) | ((with_reducible refine sideT ?_ ?_); first | omega | assumption | (simp; done)) | (refine qf fun K hK => ?_) | (refine qa ?_) | refine ql ?_ | ((first | refine hK _ ?_ | (clear hK K; refine hK _ ?_) | (clear hK K; clear hK K; refine hK _ ?_)); clear hK K) | refine qd ?_)
    all_goals (clear c0 c1 c2 c3 c4 hcl hft; first | (simp_all; done) | (exfalso; simp_all; done))
end Go.Proofs.YtbkkjlcclddpdaaGreatDoor
