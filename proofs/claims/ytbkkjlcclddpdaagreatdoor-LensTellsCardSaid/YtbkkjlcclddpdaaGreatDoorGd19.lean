/- api.Lens as an abstract value. -/
import Derived.WideShapes
import Derived.Laws.Strings
import Derived.Test.YtbkkjlcclddpdaaGreatDoorGd1
import Derived.Test.YtbkkjlcclddpdaaGreatDoorGd8
import Derived.Test.YtbkkjlcclddpdaaGreatDoorGd10
import Derived.Test.YtbkkjlcclddpdaaGreatDoorGd18
set_option linter.unusedSimpArgs false
set_option linter.unusedVariables false
namespace Go.Proofs.YtbkkjlcclddpdaaGreatDoor
open Go.RowKit Go.Lib
def Lens.av (x : Lens) : AV := .agg [.int x.op, .str x.a, .str x.b, .str x.c, .str x.sep, .int x.n, .int x.value.k, .int x.value.n, .str x.value.s]
@[simp] theorem Lens.av_nt (x : Lens) : x.av.nt = true := rfl
@[simp] theorem Lens.av_sure (x : Lens) : x.av.sure = true := rfl
@[simp] theorem Lens.av_elem (x : Lens) : x.av.elem = true := rfl
@[simp] theorem Lens.av_width (x : Lens) : x.av.width = 9 := rfl
@[simp] theorem Lens.av_pub (x : Lens) : x.av.pub = x.av := by unfold Lens.av; rw [AV.pub]; simp only [AV.pubs_cons, AV.pubs_nil, AV.pub_v, pubV, AV.pub_sl]
@[simp] theorem Lens.av_cells (x : Lens) : x.av.cells = [.int x.op, .str x.a, .str x.b, .str x.c, .str x.sep, .int x.n, .int x.value.k, .int x.value.n, .str x.value.s] := rfl
@[simp] theorem Lens.av_fold (x : Lens) : AV.agg [.int x.op, .str x.a, .str x.b, .str x.c, .str x.sep, .int x.n, .int x.value.k, .int x.value.n, .str x.value.s] = x.av := rfl
@[simp] theorem Lens.av_val? (x : Lens) : x.av.val? = none := rfl
@[simp] theorem Lens.rd_all (x : Lens) (σ : Nat → AB) : rdAt σ true 9 (.ep x.av 0) = some x.av := rfl
@[simp] theorem Lens.rd_0 (x : Lens) (σ : Nat → AB) (n : Nat) : rdAt σ false n (.ep x.av 0) = some (.int x.op) := rfl
@[simp] theorem Lens.rd_1 (x : Lens) (σ : Nat → AB) (n : Nat) : rdAt σ false n (.ep x.av 1) = some (.str x.a) := rfl
@[simp] theorem Lens.rd_2 (x : Lens) (σ : Nat → AB) (n : Nat) : rdAt σ false n (.ep x.av 2) = some (.str x.b) := rfl
@[simp] theorem Lens.rd_3 (x : Lens) (σ : Nat → AB) (n : Nat) : rdAt σ false n (.ep x.av 3) = some (.str x.c) := rfl
@[simp] theorem Lens.rd_4 (x : Lens) (σ : Nat → AB) (n : Nat) : rdAt σ false n (.ep x.av 4) = some (.str x.sep) := rfl
@[simp] theorem Lens.rd_5 (x : Lens) (σ : Nat → AB) (n : Nat) : rdAt σ false n (.ep x.av 5) = some (.int x.n) := rfl
@[simp] theorem Lens.rda_6 (x : Lens) (σ : Nat → AB) : rdAt σ true 3 (.ep x.av 6) = some x.value.av := rfl
@[simp] theorem Lens.rd_6 (x : Lens) (σ : Nat → AB) (n : Nat) : rdAt σ false n (.ep x.av 6) = some (.int x.value.k) := rfl
@[simp] theorem Lens.rd_7 (x : Lens) (σ : Nat → AB) (n : Nat) : rdAt σ false n (.ep x.av 7) = some (.int x.value.n) := rfl
@[simp] theorem Lens.rd_8 (x : Lens) (σ : Nat → AB) (n : Nat) : rdAt σ false n (.ep x.av 8) = some (.str x.value.s) := rfl
@[simp] theorem Lens.av_cl (x : Lens) (m : Nat) : x.av.cl m := by unfold Lens.av; simp [-Lens.av_fold]
@[simp] theorem Lens.avs_cl (l : List Lens) (m : Nat) : AV.cls m (l.map Lens.av) := AV.cls_map (fun f => f.av_cl m) l
@[simp] theorem Lens.avs_wid (l : List Lens) : AV.wid (l.map Lens.av) 9 := AV.wid_map (f := Lens.av) (fun a => a.av_width) l
@[simp] theorem Lens.avs_elms (l : List Lens) : AV.elms (l.map Lens.av) := AV.elms_map (f := Lens.av) (fun a => a.av_elem) l
theorem Lens.q : qinfo Tryz.prog 29 = some [(0, 0), (1, 2), (2, 2), (3, 2), (4, 2), (5, 0), (6, 0), (7, 0), (8, 2)] := by kernel_rfl
theorem Lens.d_av (x : Lens) : x.d.av = x.av := rfl
theorem Lens.ds_av (l : List Lens) : (D.sl (l.map Lens.d)).av = .sl (l.map Lens.av) := by
  rw [D.av, D.avs_map, List.map_map]
  first
  | rfl
  | (congr 1; exact List.map_congr_left fun x _ => x.d_av)
theorem Lens.flat {w : World} {x : Lens} {cs : List Value} (h : Rd w Any x.d cs) : RR1 (St.flat w) x.av (.agg cs.toArray) := by
  have := flat_rc h
  rw [Lens.d_av, Lens.av, RC] at this
  exact ⟨cs, rfl, this⟩
theorem Lens.flats {w : World} {l : List Lens} {v : Value} (h : Rd w Any (.sl (l.map Lens.d)) [v]) : RR1 (St.flat w) (.sl (l.map Lens.av)) v := by
  have := flat_rc h
  rw [Lens.ds_av] at this
  exact this
end Go.Proofs.YtbkkjlcclddpdaaGreatDoor

/- The contract of strings.Cut, abstract. -/
namespace Go.Proofs.YtbkkjlcclddpdaaGreatDoor
open Go.RowKit Go.Lib
def cutA (s sep : ByteArray) : ByteArray × ByteArray × Bool := (qk (Lib.cut s.data.toList sep.data.toList).1, qk (Lib.cut s.data.toList sep.data.toList).2.1, (Lib.cut s.data.toList sep.data.toList).2.2)
theorem cut_g (s sep : ByteArray) (hs : s.size < 4294967281) : Gives Tryz.prog 136 [.str s, .str sep] (.tup [.str (cutA s sep).1, .str (cutA s sep).2.1, .bool (cutA s sep).2.2]) :=
  qfs fun X vals hS ha => by
    obtain ⟨v0, _, rfl, h2, v1, _, rfl, h3, h4⟩ := ha
    cases h4
    cases arg_vv h2; cases arg_vv h3
    obtain ⟨⟨m, hm⟩, -⟩ := hS.glob
    refine (Tryz.strings_Cut s sep m X.w hs hm.1.1).mono ?_
    rintro e w' ⟨rfl, n, rfl⟩
    exact ⟨(Ext.refl X.w).drewN n, _, rfl, [_, _, _], rfl, _, _, rfl, RR1.of_one rfl (by rw [RC]; rfl), _, _, rfl, RR1.of_one rfl (by rw [RC]; rfl), _, _, rfl, RR1.of_one rfl (by rw [RC]; rfl), rfl⟩
end Go.Proofs.YtbkkjlcclddpdaaGreatDoor

/- Lengths and parts of strings. -/
namespace Go.Proofs.YtbkkjlcclddpdaaGreatDoor
open Go.RowKit Go.Lib
theorem qm (l : List UInt8) : (qk l).size = l.length := by rw [Lib.size_eq, bytesA_data]
theorem qcw (s : ByteArray) : s.data.toList.length = s.size := by rw [Array.length_toList]; rfl
theorem ext_drop (s : List UInt8) (k : Nat) : (qk s).extract k s.length = qk (s.drop k) := by
  apply ByteArray.ext
  rw [ByteArray.data_extract]
  show (s.toArray).extract k _ = (s.drop k).toArray
  apply Array.ext'
  simp
  rw [List.take_of_length_le (by rw [List.length_drop]; omega)]
theorem ext_tk (s : List UInt8) (k : Nat) : (qk s).extract 0 k = qk (s.take k) := by
  apply ByteArray.ext
  rw [ByteArray.data_extract]
  show (s.toArray).extract 0 _ = (s.take k).toArray
  apply Array.ext'
  simp
end Go.Proofs.YtbkkjlcclddpdaaGreatDoor

/- Walks of lens: names that are taken, cut, split. -/
namespace Go.Proofs.YtbkkjlcclddpdaaGreatDoor
open Go.RowKit Go.Lib
theorem qgj (s : ByteArray) (k : Nat) : s.extract 0 k = qk (s.data.toList.take k) := by
  apply ByteArray.ext
  rw [ByteArray.data_extract]
  show _ = (s.data.toList.take k).toArray
  apply Array.ext'
  simp
theorem lcut_g (s : ByteArray) (hs : s.size ≤ 9223372036854775807) : Gives Tryz.prog 108 [.str s] (cutV s.data.toList).av := by
  have hm : cutV s.data.toList = ⟨1, 0, s.extract 0 (min s.size 200)⟩ := by
    unfold cutV
    rw [← qgj]
    by_cases h : s.size ≤ 200
    · rw [Nat.min_eq_left h, qgj, qgj, List.take_of_length_le (by rw [Array.length_toList]; exact h), List.take_of_length_le (by rw [Array.length_toList]; exact Nat.le_refl _)]
    · rw [Nat.min_eq_right (by omega)]
  rw [hm]
  by_cases h : s.size ≤ 200
  · rw [Nat.min_eq_left h]
    have h2 : (if (200 : Int) < (s.size : Int) then (200 : Int) else (s.size : Int)) = s.size := if_neg (by omega)
    refine qh Tryz.func108 Tryz.ntmps108 fun σ n0 hcl hft => ?_
    repeat' (first | ((first | ((with_reducible refine qf (fun hg => ?_) (fun hg => ?_)) <;> (try simp only [hg]) <;> (try simp only [gS] at hg) <;> (try (first | simp only [eq_false hg, gI] | simp only [eq_true hg, gI]))) | refine Stp.m ?_ | refine acall (qcy _) ?_ | refine qo (qcy _) ?_) <;> (try simp (disch := first | omega | simp) [qd, -qg, -ql, h2])) | refine sideA ?_ | refine qc fun K hK => ?_ | refine qa ?_ | refine qe ?_ | refine qb ?_ | (refine hK _ ?_; clear hK K) | clear hK K)
    rfl
  · rw [Nat.min_eq_right (by omega)]
    have h2 : (if (200 : Int) < (s.size : Int) then (200 : Int) else (s.size : Int)) = 200 := if_pos (by omega)
    have h3 : 200 ≤ s.size := by omega
    refine qh Tryz.func108 Tryz.ntmps108 fun σ n0 hcl hft => ?_
    repeat' (first | ((first | ((with_reducible refine qf (fun hg => ?_) (fun hg => ?_)) <;> (try simp only [hg]) <;> (try simp only [gS] at hg) <;> (try (first | simp only [eq_false hg, gI] | simp only [eq_true hg, gI]))) | refine Stp.m ?_ | refine acall (qcy _) ?_ | refine qo (qcy _) ?_) <;> (try simp (disch := first | omega | simp) [qd, -qg, -ql, h2, h3])) | refine sideA ?_ | refine qc fun K hK => ?_ | refine qa ?_ | refine qe ?_ | refine qb ?_ | (refine hK _ ?_; clear hK K) | clear hK K)
    rfl
theorem cut_len (s sep : List UInt8) : (Lib.cut s sep).1.length ≤ s.length ∧ (Lib.cut s sep).2.1.length ≤ s.length := by
  unfold Lib.cut
  split
  · exact ⟨by rw [List.length_take]; omega, by rw [List.length_drop]; omega⟩
  · exact ⟨Nat.le_refl _, Nat.zero_le _⟩
theorem lsplit_g (s sep : ByteArray) (hs : s.size < 4294967281) : Gives Tryz.prog 106 [.str s, .str sep] (.tup [(qdf s.data.toList sep.data.toList).1.av, (qdf s.data.toList sep.data.toList).2.av]) := by
  have h1 := cut_len s.data.toList sep.data.toList
  rw [qcw] at h1
  have c1 := cut_g s sep hs
  have c2 := lcut_g (cutA s sep).1 (by have := qm (Lib.cut s.data.toList sep.data.toList).1; show (qk _).size ≤ _; omega)
  have c3 := lcut_g (cutA s sep).2.1 (by have := qm (Lib.cut s.data.toList sep.data.toList).2.1; show (qk _).size ≤ _; omega)
  have e1 : (cutA s sep).1.data.toList = (Lib.cut s.data.toList sep.data.toList).1 := rfl
  have e2 : (cutA s sep).2.1.data.toList = (Lib.cut s.data.toList sep.data.toList).2.1 := rfl
  rw [e1] at c2
  rw [e2] at c3
  unfold qdf
  refine qh Tryz.func106 Tryz.ntmps106 fun σ n0 hcl hft => ?_
  repeat' (first | ((first | ((with_reducible refine qf (fun hg => ?_) (fun hg => ?_)) <;> (try simp only [hg]) <;> (try simp only [gS] at hg) <;> (try (first | simp only [eq_false hg, gI] | simp only [eq_true hg, gI]))) | refine Stp.m ?_ | refine qi ?_ | refine agH ?_) <;> (try simp (disch := first | omega | simp) [qd, -qg, -ql])) | refine sideA ?_ | refine qc fun K hK => ?_ | refine qa ?_ | refine qe ?_ | refine qb ?_ | (refine hK _ ?_; clear hK K) | clear hK K)
theorem fmtBool_g (b : Bool) : Gives Tryz.prog 140 [.bool b] (.str (qk (Lib.formatBool b))) :=
  qfs fun X vals hS ha => by
    obtain ⟨v0, _, rfl, h2, h4⟩ := ha
    cases h4
    cases arg_vv h2
    refine (Tryz.strconv_FormatBool b X.w).mono ?_
    rintro e w' ⟨rfl, rfl⟩
    exact ⟨Ext.refl _, _, rfl, RR.v.2 rfl⟩
theorem contains_g (L : List ByteArray) (s : ByteArray) (hL : L.length ≤ 1000000) : Gives Tryz.prog 132 [.sl (L.map AV.str), .str s] (.bool (decide (0 ≤ idxP (fun x => s.toList == x.toList) L))) := by
  refine qh Tryz.func132 Tryz.ntmps132 fun σ n0 hcl hft => ?_
  repeat' (first | ((first | ((with_reducible refine qf (fun hg => ?_) (fun hg => ?_)) <;> (try simp only [hg]) <;> (try simp only [gS] at hg) <;> (try (first | simp only [eq_false hg, gI] | simp only [eq_true hg, gI]))) | refine Stp.m ?_ | refine acall (idxS_g L s hL) ?_ | refine qo (idxS_g L s hL) ?_) <;> (try simp (disch := first | omega | simp) [qd, -qg, -ql])) | refine sideA ?_ | refine qc fun K hK => ?_ | refine qa ?_ | refine qe ?_ | refine qb ?_ | (refine hK _ ?_; clear hK K) | clear hK K)
theorem contains_b (L : List ByteArray) (s : ByteArray) : decide (0 ≤ idxP (fun x => s.toList == x.toList) L) = (L.map fun x => x.toList).contains s.toList := by
  rw [idxP_any]
  induction L with
  | nil => rfl
  | cons x l ih => rw [List.any_cons, List.map_cons, List.contains_cons, ih]
theorem taken_g (cols : List Col) (s : ByteArray) (L : List ByteArray) (hc : cols.length ≤ 1000000) (hL : L.length ≤ 1000000) : Gives Tryz.prog 98 [.sl (cols.map Col.av), .str s, .sl (L.map AV.str)] (.bool (qdw cols s.toList (L.map fun x => x.toList))) := by
  have c1 := qx cols s hc
  have c2 := contains_g L s hL
  rw [contains_b] at c2
  unfold qdw
  refine qh Tryz.func98 Tryz.ntmps98 fun σ n0 hcl hft => ?_
  repeat' (first | ((first | ((with_reducible refine qf (fun hg => ?_) (fun hg => ?_)) <;> (try simp only [hg]) <;> (try simp only [gS] at hg) <;> (try (first | simp only [eq_false hg, gI] | simp only [eq_true hg, gI]))) | refine Stp.m ?_ | refine qi ?_ | refine agH ?_) <;> (try simp (disch := first | omega | simp) [qd, -qg, -ql])) | refine sideA ?_ | refine qc fun K hK => ?_ | refine qa ?_ | refine qe ?_ | refine qb ?_ | (refine hK _ ?_; clear hK K) | clear hK K)
  all_goals first | omega | (intro _; assumption)
end Go.Proofs.YtbkkjlcclddpdaaGreatDoor

/- Walk of lens.convert. -/
namespace Go.Proofs.YtbkkjlcclddpdaaGreatDoor
open Go.RowKit Go.Lib
theorem vbit_g (b : Bool) : Gives Tryz.prog 117 [.bool b] (bitV b).av := by
  cases b
  · exact vfalse_g
  · exact qbl
set_option maxHeartbeats 2000000 in
theorem conv_g (v : Val) (to : Int) (o : Val) (hn : i64 v.n) (hs : v.s.size ≤ 1000000) : Gives Tryz.prog 109 [v.av, .int to, o.av] (convP v to o).av := by
  have c1 := decimal_g v.n hn
  have c2 := lcut_g (qk (itoa v.n)) (by have := itoa_length_le v.n hn.1 hn.2; have := qm (itoa v.n); omega)
  have c3 := fun b => fmtBool_g b
  have c4 := fun b => lcut_g (qk (Lib.formatBool b)) (by cases b <;> decide)
  have c5 := qdd v.n
  have c6 := int_g v.s hs
  have c7 := fun b => vbit_g b
  have e1 : (qk (itoa v.n)).data.toList = itoa v.n := rfl
  have e2 : ∀ b, (qk (Lib.formatBool b)).data.toList = Lib.formatBool b := fun _ => rfl
  rw [e1] at c2
  simp only [e2] at c4
  unfold convP
  by_cases t1 : to = 1
  · subst t1
    by_cases k0 : v.k = 0
    · refine qh Tryz.func109 Tryz.ntmps109 fun σ n0 hcl hft => ?_
      repeat' (first | ((first | ((with_reducible refine qf (fun hg => ?_) (fun hg => ?_)) <;> (try simp only [hg]) <;> (try simp only [gS] at hg) <;> (try (first | simp only [eq_false hg, gI] | simp only [eq_true hg, gI]))) | refine Stp.m ?_ | refine qi ?_ | refine agH ?_) <;> (try simp (disch := first | omega | simp) [qd, -qg, -ql, k0])) | refine sideA ?_ | refine qc fun K hK => ?_ | refine qa ?_ | refine qe ?_ | refine qb ?_ | (refine hK _ ?_; clear hK K) | clear hK K)
      all_goals (clear c1 c2 c3 c4 c5 c6 c7 hcl hft; first | rfl | (simp_all; done))
    · have e3 : Lib.formatBool (v.n == 1) = if v.n = 1 then wTrue else qdx := by
        have f1 : Lib.formatBool true = wTrue := by kernel_rfl
        have f2 : Lib.formatBool false = qdx := by kernel_rfl
        by_cases h : v.n = 1
        · rw [if_pos h, ← f1]; congr 1; simpa using h
        · rw [if_neg h, ← f2]; congr 1; simpa using h
      refine qh Tryz.func109 Tryz.ntmps109 fun σ n0 hcl hft => ?_
      repeat' (first | ((first | ((with_reducible refine qf (fun hg => ?_) (fun hg => ?_)) <;> (try simp only [hg]) <;> (try simp only [gS] at hg) <;> (try (first | simp only [eq_false hg, gI] | simp only [eq_true hg, gI]))) | refine Stp.m ?_ | refine acall (c3 _) ?_ | refine qo (c3 _) ?_ | refine acall (c4 _) ?_ | refine qo (c4 _) ?_) <;> (try simp (disch := first | omega | simp) [qd, -qg, -ql, k0])) | refine sideA ?_ | refine qc fun K hK => ?_ | refine qa ?_ | refine qe ?_ | refine qb ?_ | (refine hK _ ?_; clear hK K) | clear hK K)
      all_goals (clear c1 c2 c3 c4 c5 c6 c7 hcl hft; first | rfl | (simp_all; done))
  · by_cases t0 : to = 0
    · subst t0
      by_cases k2 : v.k = 2
      · refine qh Tryz.func109 Tryz.ntmps109 fun σ n0 hcl hft => ?_
        repeat' (first | ((first | ((with_reducible refine qf (fun hg => ?_) (fun hg => ?_)) <;> (try simp only [hg]) <;> (try simp only [gS] at hg) <;> (try (first | simp only [eq_false hg, gI] | simp only [eq_true hg, gI]))) | refine Stp.m ?_ | refine qi ?_ | refine agH ?_) <;> (try simp (disch := first | omega | simp) [qd, -qg, -ql, k2])) | refine sideA ?_ | refine qc fun K hK => ?_ | refine qa ?_ | refine qe ?_ | refine qb ?_ | (refine hK _ ?_; clear hK K) | clear hK K)
        all_goals (clear c1 c2 c3 c4 c5 c6 c7 hcl hft; first | rfl | (simp_all; done))
      · cases hI : intP v.s.data.toList with
        | none =>
          rw [hI] at c6
          refine qh Tryz.func109 Tryz.ntmps109 fun σ n0 hcl hft => ?_
          repeat' (first | ((first | ((with_reducible refine qf (fun hg => ?_) (fun hg => ?_)) <;> (try simp only [hg]) <;> (try simp only [gS] at hg) <;> (try (first | simp only [eq_false hg, gI] | simp only [eq_true hg, gI]))) | refine Stp.m ?_ | refine qi ?_ | refine agH ?_) <;> (try simp (disch := first | omega | simp) [qd, -qg, -ql, k2])) | refine sideA ?_ | refine qc fun K hK => ?_ | refine qa ?_ | refine qe ?_ | refine qb ?_ | (refine hK _ ?_; clear hK K) | clear hK K)
          all_goals (clear c1 c2 c3 c4 c5 c6 c7 hcl hft; first | rfl | (simp_all; done))
        | some n =>
          have c8 := qdd n
          rw [hI] at c6
          refine qh Tryz.func109 Tryz.ntmps109 fun σ n0 hcl hft => ?_
          repeat' (first | ((first | ((with_reducible refine qf (fun hg => ?_) (fun hg => ?_)) <;> (try simp only [hg]) <;> (try simp only [gS] at hg) <;> (try (first | simp only [eq_false hg, gI] | simp only [eq_true hg, gI]))) | refine Stp.m ?_ | refine qi ?_ | refine agH ?_) <;> (try simp (disch := first | omega | simp) [qd, -qg, -ql, k2])) | refine sideA ?_ | refine qc fun K hK => ?_ | refine qa ?_ | refine qe ?_ | refine qb ?_ | (refine hK _ ?_; clear hK K) | clear hK K)
          all_goals (clear c1 c2 c3 c4 c5 c6 c7 c8 hcl hft; first | rfl | (simp_all; done))
    · by_cases k0 : v.k = 0
      · have e3 : (v.n != 0) = decide (v.n ≠ 0) := by by_cases h : v.n = 0 <;> simp [h]
        refine qh Tryz.func109 Tryz.ntmps109 fun σ n0 hcl hft => ?_
        repeat' (first | ((first | ((with_reducible refine qf (fun hg => ?_) (fun hg => ?_)) <;> (try simp only [hg]) <;> (try simp only [gS] at hg) <;> (try (first | simp only [eq_false hg, gI] | simp only [eq_true hg, gI]))) | refine Stp.m ?_ | refine acall (c7 _) ?_ | refine qo (c7 _) ?_) <;> (try simp (disch := first | omega | simp) [qd, -qg, -ql, t1, t0, k0])) | refine sideA ?_ | refine qc fun K hK => ?_ | refine qa ?_ | refine qe ?_ | refine qb ?_ | (refine hK _ ?_; clear hK K) | clear hK K)
        all_goals (clear c1 c2 c3 c4 c5 c6 c7 hcl hft; first | rfl | (simp_all; done))
      · have e3 : (v.s.toList == [116, 114, 117, 101]) = decide (v.s.toList = [116, 114, 117, 101]) := by by_cases h : v.s.toList = [116, 114, 117, 101] <;> simp [h]
        refine qh Tryz.func109 Tryz.ntmps109 fun σ n0 hcl hft => ?_
        repeat' (first | ((first | ((with_reducible refine qf (fun hg => ?_) (fun hg => ?_)) <;> (try simp only [hg]) <;> (try simp only [gS] at hg) <;> (try (first | simp only [eq_false hg, gI] | simp only [eq_true hg, gI]))) | refine Stp.m ?_ | refine acall (c7 _) ?_ | refine qo (c7 _) ?_) <;> (try simp (disch := first | omega | simp) [qd, -qg, -ql, t1, t0, k0])) | refine sideA ?_ | refine qc fun K hK => ?_ | refine qa ?_ | refine qe ?_ | refine qb ?_ | (refine hK _ ?_; clear hK K) | clear hK K)
        all_goals (clear c1 c2 c3 c4 c5 c6 c7 hcl hft; first | rfl | (simp_all [wTrue, qdx]; done))
end Go.Proofs.YtbkkjlcclddpdaaGreatDoor
