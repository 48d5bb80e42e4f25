/- api.Col as an abstract value. -/
import Derived.WideShapes
import Derived.Laws.Strings
import Derived.Test.YtgpcpmfdklpifaaGreatDoorGa3
import Derived.Test.YtgpcpmfdklpifaaGreatDoorGa11
import Derived.Test.YtgpcpmfdklpifaaGreatDoorGa13
import Derived.Test.YtgpcpmfdklpifaaGreatDoorGa14
import Derived.Test.YtgpcpmfdklpifaaGreatDoorGa18
import Derived.Test.YtgpcpmfdklpifaaGreatDoorGa19
import Derived.Test.YtgpcpmfdklpifaaGreatDoorGa21
import Derived.Test.YtgpcpmfdklpifaaGreatDoorGa26
set_option linter.unusedSimpArgs false
set_option linter.unusedVariables false
namespace Go.Proofs.YtgpcpmfdklpifaaGreatDoor
open Go.RowKit Go.Lib
def Col.av (x : Col) : AV := .agg [.str x.name, .int x.type, .str x.unit]
@[simp] theorem Col.av_nt (x : Col) : x.av.nt = true := rfl
@[simp] theorem Col.av_sure (x : Col) : x.av.sure = true := rfl
@[simp] theorem Col.av_elem (x : Col) : x.av.elem = true := rfl
@[simp] theorem Col.av_width (x : Col) : x.av.width = 3 := rfl
@[simp] theorem Col.av_pub (x : Col) : x.av.pub = x.av := by unfold Col.av; rw [AV.pub]; simp only [AV.pubs_cons, AV.pubs_nil, AV.pub_v, pubV, AV.pub_sl]
@[simp] theorem Col.av_cells (x : Col) : x.av.cells = [.str x.name, .int x.type, .str x.unit] := rfl
@[simp] theorem Col.av_fold (x : Col) : AV.agg [.str x.name, .int x.type, .str x.unit] = x.av := rfl
@[simp] theorem Col.av_val? (x : Col) : x.av.val? = none := rfl
@[simp] theorem Col.rd_all (x : Col) (σ : Nat → AB) : rdAt σ true 3 (.ep x.av 0) = some x.av := rfl
@[simp] theorem Col.rd_0 (x : Col) (σ : Nat → AB) (n : Nat) : rdAt σ false n (.ep x.av 0) = some (.str x.name) := rfl
@[simp] theorem Col.rd_1 (x : Col) (σ : Nat → AB) (n : Nat) : rdAt σ false n (.ep x.av 1) = some (.int x.type) := rfl
@[simp] theorem Col.rd_2 (x : Col) (σ : Nat → AB) (n : Nat) : rdAt σ false n (.ep x.av 2) = some (.str x.unit) := rfl
@[simp] theorem Col.av_cl (x : Col) (m : Nat) : x.av.cl m := by unfold Col.av; simp [-Col.av_fold]
@[simp] theorem Col.avs_cl (l : List Col) (m : Nat) : AV.cls m (l.map Col.av) := AV.cls_map (fun f => f.av_cl m) l
@[simp] theorem Col.avs_wid (l : List Col) : AV.wid (l.map Col.av) 3 := AV.wid_map (f := Col.av) (fun a => a.av_width) l
@[simp] theorem Col.avs_elms (l : List Col) : AV.elms (l.map Col.av) := AV.elms_map (f := Col.av) (fun a => a.av_elem) l
def Col.eqB (x y : Col) : Bool := ((x.name.toList == y.name.toList) && ((x.type == y.type) && (x.unit.toList == y.unit.toList)))
theorem Col.eqB_iff (x y : Col) : Col.eqB x y = true ↔ x = y := by
  obtain ⟨a0, a1, a2⟩ := x
  obtain ⟨b0, b1, b2⟩ := y
  simp only [Col.eqB, Bool.and_eq_true, beq_iff_eq, Col.mk.injEq, ByteArray.toList_eq]
  have e0 : a0.data.toList = b0.data.toList ↔ a0 = b0 := ⟨fun h => WideShapes.bytes_inj h, fun h => by rw [h]⟩
  have e2 : a2.data.toList = b2.data.toList ↔ a2 = b2 := ⟨fun h => WideShapes.bytes_inj h, fun h => by rw [h]⟩
  rw [e0, e2]
theorem Col.d_av (x : Col) : x.d.av = x.av := rfl
theorem Col.ds_av (l : List Col) : (D.sl (l.map Col.d)).av = .sl (l.map Col.av) := by
  rw [D.av, D.avs_map, List.map_map]
  first
  | rfl
  | (congr 1; exact List.map_congr_left fun x _ => x.d_av)
theorem Col.flat {w : World} {x : Col} {cs : List Value} (h : Rd w Any x.d cs) : RR1 (St.flat w) x.av (.agg cs.toArray) := by
  have := qdg h
  rw [Col.d_av, Col.av, RC] at this
  exact ⟨cs, rfl, this⟩
theorem Col.flats {w : World} {l : List Col} {v : Value} (h : Rd w Any (.sl (l.map Col.d)) [v]) : RR1 (St.flat w) (.sl (l.map Col.av)) v := by
  have := qdg h
  rw [Col.ds_av] at this
  exact this
end Go.Proofs.YtgpcpmfdklpifaaGreatDoor

/- Layer 13, on plain data. -/
namespace Go.Proofs.YtgpcpmfdklpifaaGreatDoor
open Go.RowKit Go.Lib
def tnames : List (List UInt8) := [[105, 110, 116], [116, 101, 120, 116], [98, 111, 111, 108]]
def qct (k : Int) : List UInt8 := if 0 ≤ k ∧ k < 3 then tnames.getD k.toNat [] else []
def qcp (s : List UInt8) : Int × Bool :=
  if s = [105, 110, 116] then (0, true) else if s = [116, 101, 120, 116] then (1, true) else if s = [98, 111, 111, 108] then (2, true) else (0, false)
end Go.Proofs.YtgpcpmfdklpifaaGreatDoor

/- Walks: names and types. -/
namespace Go.Proofs.YtgpcpmfdklpifaaGreatDoor
open Go.RowKit Go.Lib
theorem qcw : Gives Tryz.prog 95 [] (.sl (tnames.map fun l => .str (qbc l))) := by
  refine qn Tryz.func95 Tryz.ntmps95 rfl rfl (by decide) rfl (by intro n; simp) fun σ n0 hcl hft => ?_
  repeat' (first | ((first | ((with_reducible refine qo (fun hg => ?_) (fun hg => ?_)) <;> (try simp only [hg]) <;> (try simp only [gS] at hg) <;> (try (first | simp only [eq_false hg, gI] | simp only [eq_true hg, gI]))) | (with_reducible first | refine qc ?_ | refine qb ?_ | refine qi ?_ | refine qh ?_) | refine qe ?_ | refine qj ?_ | refine qk ?_ | refine qm ?_) <;> (try simp (disch := first | omega | simp) [qg, -qq, -qs])) | ((with_reducible refine sideT ?_ ?_); first | omega | assumption | (simp; done)) | (refine qf fun K hK => ?_) | (refine qa ?_) | refine ql ?_ | ((first | refine hK _ ?_ | (clear hK K; refine hK _ ?_) | (clear hK K; clear hK K; refine hK _ ?_)); clear hK K) | refine qd ?_)
  all_goals rfl
theorem idxS_g (L : List ByteArray) (s : ByteArray) (hL : L.length ≤ 1000000) : Gives Tryz.prog 94 [.sl (L.map AV.str), .str s] (.int (idxP (fun x => s.toList == x.toList) L)) := by
  refine qn Tryz.func94 Tryz.ntmps94 rfl rfl (by decide) rfl (by intro n; simp) fun σ n0 hcl hft => ?_
  repeat' (first | ((first | ((with_reducible refine qo (fun hg => ?_) (fun hg => ?_)) <;> (try simp only [hg]) <;> (try simp only [gS] at hg) <;> (try (first | simp only [eq_false hg, gI] | simp only [eq_true hg, gI]))) | (with_reducible first | refine qc ?_ | refine qb ?_ | refine qi ?_ | refine qh ?_) | refine qe ?_ | refine qj ?_ | refine qk ?_ | refine qm ?_) <;> (try simp (disch := first | omega | simp) [qg, -qq, -qs])) | ((with_reducible refine sideT ?_ ?_); first | omega | assumption | (simp; done)) | (refine qf fun K hK => ?_) | (refine qa ?_) | refine ql ?_ | ((first | refine hK _ ?_ | (clear hK K; refine hK _ ?_) | (clear hK K; clear hK K; refine hK _ ?_)); clear hK K) | refine qd ?_)
  refine qr hcl (fun k : Nat => [(0, .sl (L.map AV.str)), (1, .str s), (7, .int L.length), (8, .int k)]) (fun _ => [])
    (fun k => k ≤ L.length ∧ ∀ j (h : j < L.length), j < k → ¬ s.toList = L[j].toList) (fun k => L.length - k) 0 (by simp) (by simp) fun k ⟨hk, he⟩ => ?_
  by_cases hlt : k < L.length
  · repeat' (first | ((first | ((with_reducible refine qo (fun hg => ?_) (fun hg => ?_)) <;> (try simp only [hg]) <;> (try simp only [gS] at hg) <;> (try (first | simp only [eq_false hg, gI] | simp only [eq_true hg, gI]))) | (with_reducible first | refine qc ?_ | refine qb ?_ | refine qi ?_ | refine qh ?_) | refine qe ?_ | refine qj ?_ | refine qk ?_ | refine qm ?_) <;> (try simp (disch := first | omega | simp) [qg, -qq, -qs, hlt])) | ((with_reducible refine sideT ?_ ?_); first | omega | assumption | (simp; done)) | (refine qf fun K hK => ?_) | (refine qa ?_) | refine ql ?_ | ((first | refine hK _ ?_ | (clear hK K; refine hK _ ?_) | (clear hK K; clear hK K; refine hK _ ?_)); clear hK K) | refine qd ?_)
    · rename_i hg
      exact (idxP_hit (p := fun x : ByteArray => s.toList == x.toList) hlt (by simp [hg]) fun j h1 h2 => by simpa using he j h1 h2).symm
    · rename_i hg
      exact ⟨k + 1, ⟨by omega, qcu (C := fun x : ByteArray => ¬ s.toList = x.toList) he fun _ => hg⟩, by omega, by simp⟩
  · repeat' (first | ((first | ((with_reducible refine qo (fun hg => ?_) (fun hg => ?_)) <;> (try simp only [hg]) <;> (try simp only [gS] at hg) <;> (try (first | simp only [eq_false hg, gI] | simp only [eq_true hg, gI]))) | (with_reducible first | refine qc ?_ | refine qb ?_ | refine qi ?_ | refine qh ?_) | refine qe ?_ | refine qj ?_ | refine qk ?_ | refine qm ?_) <;> (try simp (disch := first | omega | simp) [qg, -qq, -qs, hlt])) | ((with_reducible refine sideT ?_ ?_); first | omega | assumption | (simp; done)) | (refine qf fun K hK => ?_) | (refine qa ?_) | refine ql ?_ | ((first | refine hK _ ?_ | (clear hK K; refine hK _ ?_) | (clear hK K; clear hK K; refine hK _ ?_)); clear hK K) | refine qd ?_)
    exact (idxP_miss (p := fun x : ByteArray => s.toList == x.toList) fun j h1 => by simpa using upto_all (C := fun x : ByteArray => ¬ s.toList = x.toList) he hlt j h1).symm
theorem typeName_g (k : Int) : Gives Tryz.prog 103 [.int k] (.str (qbc (qct k))) := by
  by_cases hk : 0 ≤ k ∧ k < 3
  · obtain rfl | rfl | rfl : k = 0 ∨ k = 1 ∨ k = 2 := by omega
    · refine qn Tryz.func103 Tryz.ntmps103 rfl rfl (by decide) rfl (by intro n; simp) fun σ n0 hcl hft => ?_
      repeat' (first | ((first | ((with_reducible refine qo (fun hg => ?_) (fun hg => ?_)) <;> (try simp only [hg]) <;> (try simp only [gS] at hg) <;> (try (first | simp only [eq_false hg, gI] | simp only [eq_true hg, gI]))) | (with_reducible first | refine qc ?_ | refine qb ?_ | refine qi ?_ | refine qh ?_) | refine acall (qcw) ?_ | refine qp (qcw) ?_ | refine qe ?_ | refine qj ?_ | refine qk ?_ | refine qm ?_) <;> (try simp (disch := first | omega | simp) [qg, -qq, -qs, tnames])) | ((with_reducible refine sideT ?_ ?_); first | omega | assumption | (simp; done)) | (refine qf fun K hK => ?_) | (refine qa ?_) | refine ql ?_ | ((first | refine hK _ ?_ | (clear hK K; refine hK _ ?_) | (clear hK K; clear hK K; refine hK _ ?_)); clear hK K) | refine qd ?_)
      rfl
    · refine qn Tryz.func103 Tryz.ntmps103 rfl rfl (by decide) rfl (by intro n; simp) fun σ n0 hcl hft => ?_
      repeat' (first | ((first | ((with_reducible refine qo (fun hg => ?_) (fun hg => ?_)) <;> (try simp only [hg]) <;> (try simp only [gS] at hg) <;> (try (first | simp only [eq_false hg, gI] | simp only [eq_true hg, gI]))) | (with_reducible first | refine qc ?_ | refine qb ?_ | refine qi ?_ | refine qh ?_) | refine acall (qcw) ?_ | refine qp (qcw) ?_ | refine qe ?_ | refine qj ?_ | refine qk ?_ | refine qm ?_) <;> (try simp (disch := first | omega | simp) [qg, -qq, -qs, tnames])) | ((with_reducible refine sideT ?_ ?_); first | omega | assumption | (simp; done)) | (refine qf fun K hK => ?_) | (refine qa ?_) | refine ql ?_ | ((first | refine hK _ ?_ | (clear hK K; refine hK _ ?_) | (clear hK K; clear hK K; refine hK _ ?_)); clear hK K) | refine qd ?_)
      rfl
    · refine qn Tryz.func103 Tryz.ntmps103 rfl rfl (by decide) rfl (by intro n; simp) fun σ n0 hcl hft => ?_
      repeat' (first | ((first | ((with_reducible refine qo (fun hg => ?_) (fun hg => ?_)) <;> (try simp only [hg]) <;> (try simp only [gS] at hg) <;> (try (first | simp only [eq_false hg, gI] | simp only [eq_true hg, gI]))) | (with_reducible first | refine qc ?_ | refine qb ?_ | refine qi ?_ | refine qh ?_) | refine acall (qcw) ?_ | refine qp (qcw) ?_ | refine qe ?_ | refine qj ?_ | refine qk ?_ | refine qm ?_) <;> (try simp (disch := first | omega | simp) [qg, -qq, -qs, tnames])) | ((with_reducible refine sideT ?_ ?_); first | omega | assumption | (simp; done)) | (refine qf fun K hK => ?_) | (refine qa ?_) | refine ql ?_ | ((first | refine hK _ ?_ | (clear hK K; refine hK _ ?_) | (clear hK K; clear hK K; refine hK _ ?_)); clear hK K) | refine qd ?_)
      rfl
  · have hz : qct k = [] := if_neg hk
    rw [hz]
    refine qn Tryz.func103 Tryz.ntmps103 rfl rfl (by decide) rfl (by intro n; simp) fun σ n0 hcl hft => ?_
    repeat' (first | ((first | ((with_reducible refine qo (fun hg => ?_) (fun hg => ?_)) <;> (try simp only [hg]) <;> (try simp only [gS] at hg) <;> (try (first | simp only [eq_false hg, gI] | simp only [eq_true hg, gI]))) | (with_reducible first | refine qc ?_ | refine qb ?_ | refine qi ?_ | refine qh ?_) | refine acall (qcw) ?_ | refine qp (qcw) ?_ | refine qe ?_ | refine qj ?_ | refine qk ?_ | refine qm ?_) <;> (try simp (disch := first | omega | simp) [qg, -qq, -qs])) | ((with_reducible refine sideT ?_ ?_); first | omega | assumption | (simp; done)) | (refine qf fun K hK => ?_) | (refine qa ?_) | refine ql ?_ | ((first | refine hK _ ?_ | (clear hK K; refine hK _ ?_) | (clear hK K; clear hK K; refine hK _ ?_)); clear hK K) | refine qd ?_)
    · rfl
    · rfl
    · omega
theorem typeOf_idx (s : ByteArray) : idxP (fun x => s.toList == x.toList) (tnames.map qbc) = if (qcp s.toList).2 then (qcp s.toList).1 else -1 := by
  simp only [tnames, List.map_cons, List.map_nil, qdz, idxP, bytesA_list, qcp, beq_iff_eq]
  by_cases h1 : s.toList = [105, 110, 116]
  · simp [h1]
  · by_cases h2 : s.toList = [116, 101, 120, 116]
    · simp [h2]
    · by_cases h3 : s.toList = [98, 111, 111, 108] <;> simp [h1, h2, h3]
theorem typeOfP_nn (s : List UInt8) : 0 ≤ (qcp s).1 ∧ (qcp s).1 < 3 ∧ ((qcp s).2 = false → (qcp s).1 = 0) := by
  unfold qcp
  by_cases h1 : s = [105, 110, 116]
  · simp [h1]
  · by_cases h2 : s = [116, 101, 120, 116]
    · simp [h2]
    · by_cases h3 : s = [98, 111, 111, 108] <;> simp [h1, h2, h3]
theorem typeOf_g (s : ByteArray) : Gives Tryz.prog 68 [.str s] (.tup [.int (qcp s.toList).1, .bool (qcp s.toList).2]) := by
  have hi := idxS_g (tnames.map qbc) s (by decide)
  rw [typeOf_idx, List.map_map] at hi
  have hn := typeOfP_nn s.toList
  generalize qcp s.toList = z at *
  obtain ⟨n, b⟩ := z
  cases b with
  | true =>
    simp only [if_true] at hi
    have h1 : ¬ n < 0 := by have := hn.1; simp at this; omega
    have h2 : 0 ≤ n := by omega
    refine qn Tryz.func68 Tryz.ntmps68 rfl rfl (by decide) rfl (by intro n; simp) fun σ n0 hcl hft => ?_
    repeat' (first | ((first | ((with_reducible refine qo (fun hg => ?_) (fun hg => ?_)) <;> (try simp only [hg]) <;> (try simp only [gS] at hg) <;> (try (first | simp only [eq_false hg, gI] | simp only [eq_true hg, gI]))) | (with_reducible first | refine qc ?_ | refine qb ?_ | refine qi ?_ | refine qh ?_) | refine acall (qcw) ?_ | refine qp (qcw) ?_ | refine acall (hi) ?_ | refine qp (hi) ?_ | refine qe ?_ | refine qj ?_ | refine qk ?_ | refine qm ?_) <;> (try simp (disch := first | omega | simp) [qg, -qq, -qs, h1, h2])) | ((with_reducible refine sideT ?_ ?_); first | omega | assumption | (simp; done)) | (refine qf fun K hK => ?_) | (refine qa ?_) | refine ql ?_ | ((first | refine hK _ ?_ | (clear hK K; refine hK _ ?_) | (clear hK K; clear hK K; refine hK _ ?_)); clear hK K) | refine qd ?_)
  | false =>
    have h0 : n = 0 := hn.2.2 rfl
    subst h0
    simp only [Bool.false_eq_true, if_false] at hi
    refine qn Tryz.func68 Tryz.ntmps68 rfl rfl (by decide) rfl (by intro n; simp) fun σ n0 hcl hft => ?_
    repeat' (first | ((first | ((with_reducible refine qo (fun hg => ?_) (fun hg => ?_)) <;> (try simp only [hg]) <;> (try simp only [gS] at hg) <;> (try (first | simp only [eq_false hg, gI] | simp only [eq_true hg, gI]))) | (with_reducible first | refine qc ?_ | refine qb ?_ | refine qi ?_ | refine qh ?_) | refine acall (qcw) ?_ | refine qp (qcw) ?_ | refine acall (hi) ?_ | refine qp (hi) ?_ | refine qe ?_ | refine qj ?_ | refine qk ?_ | refine qm ?_) <;> (try simp (disch := first | omega | simp) [qg, -qq, -qs])) | ((with_reducible refine sideT ?_ ?_); first | omega | assumption | (simp; done)) | (refine qf fun K hK => ?_) | (refine qa ?_) | refine ql ?_ | ((first | refine hK _ ?_ | (clear hK K; refine hK _ ?_) | (clear hK K; clear hK K; refine hK _ ?_)); clear hK K) | refine qd ?_)
end Go.Proofs.YtgpcpmfdklpifaaGreatDoor

/- Walks of layer 25: the parts of a program's text that are read. -/
namespace Go.Proofs.YtgpcpmfdklpifaaGreatDoor
open Go.RowKit Go.Lib
def cutA (s sep : ByteArray) : ByteArray × ByteArray × Bool := (qbc (Lib.cut s.data.toList sep.data.toList).1, qbc (Lib.cut s.data.toList sep.data.toList).2.1, (Lib.cut s.data.toList sep.data.toList).2.2)
theorem cut_g (s sep : ByteArray) (hs : s.size < 4294967281) : Gives Tryz.prog 96 [.str s, .str sep] (.tup [.str (cutA s sep).1, .str (cutA s sep).2.1, .bool (cutA s sep).2.2]) :=
  qdh fun X vals hS ha => by
    obtain ⟨v0, _, rfl, h2, v1, _, rfl, h3, h4⟩ := ha
    cases h4
    cases qdm h2; cases qdm h3
    obtain ⟨⟨m, hm⟩, -⟩ := hS.glob
    refine (Tryz.strings_Cut s sep m X.w hs hm.1.1).mono ?_
    rintro e w' ⟨rfl, n, rfl⟩
    exact ⟨(Ext.refl X.w).drewN n, _, rfl, [_, _, _], rfl, _, _, rfl, RR1.of_one rfl (by rw [RC]; rfl), _, _, rfl, RR1.of_one rfl (by rw [RC]; rfl), _, _, rfl, RR1.of_one rfl (by rw [RC]; rfl), rfl⟩
theorem cutPrefix_g (s p : ByteArray) : Gives Tryz.prog 99 [.str s, .str p] (.tup [.str (qbc (Lib.trimPrefix s.data.toList p.data.toList)), .bool (Lib.hasPrefix s.data.toList p.data.toList)]) :=
  qdh fun X vals hS ha => by
    obtain ⟨v0, _, rfl, h2, v1, _, rfl, h3, h4⟩ := ha
    cases h4
    cases qdm h2; cases qdm h3
    refine (Tryz.strings_CutPrefix s p X.w).mono ?_
    rintro e w' ⟨rfl, rfl⟩
    exact ⟨Ext.refl _, _, rfl, [_, _], rfl, _, _, rfl, RR1.of_one rfl (by rw [RC]; rfl), _, _, rfl, RR1.of_one rfl (by rw [RC]), rfl⟩
theorem lastIndex_g (s : ByteArray) (hs : s.size < 4611686018427387904) : Gives Tryz.prog 71 [.str s, .str ⟨#[32]⟩] (.int (Lib.lastIndexByte s 32)) :=
  qdh fun X vals hS ha => by
    obtain ⟨v0, _, rfl, h2, v1, _, rfl, h3, h4⟩ := ha
    cases h4
    cases qdm h2; cases qdm h3
    refine (Tryz.strings_LastIndex_one s ⟨#[32]⟩ rfl hs X.w).mono ?_
    rintro e w' ⟨rfl, rfl⟩
    exact ⟨Ext.refl _, _, rfl, RR.v.2 rfl⟩
def regP (s : ByteArray) : Int × Bool :=
  ((intP (Lib.trimPrefix s.data.toList [114])).getD 0, Lib.hasPrefix s.data.toList [114] && (intP (Lib.trimPrefix s.data.toList [114])).isSome && decide (0 ≤ (intP (Lib.trimPrefix s.data.toList [114])).getD 0))
theorem number_g (s : ByteArray) (hs : s.size ≤ 1000000) : Gives Tryz.prog 70 [.str s] (.tup [.int (regP s).1, .bool (regP s).2]) := by
  have c1 := cutPrefix_g s ⟨#[114]⟩
  have hl : (Lib.trimPrefix s.data.toList [114]).length ≤ s.size := by
    unfold Lib.trimPrefix
    rw [Lib.size_eq]
    split <;> simp
  have c2 := int_g (qbc (Lib.trimPrefix s.data.toList [114])) (by rw [qbp]; omega)
  have e1 : (qbc (Lib.trimPrefix s.data.toList [114])).data.toList = Lib.trimPrefix s.data.toList [114] := rfl
  rw [e1] at c2
  unfold regP
  have e2 : (⟨#[114]⟩ : ByteArray).data.toList = [114] := rfl
  rw [e2] at c1
  generalize Lib.trimPrefix s.data.toList [114] = d at *
  generalize Lib.hasPrefix s.data.toList [114] = b at *
  generalize intP d = r at *
  generalize r.getD 0 = v at *
  generalize r.isSome = q at *
  cases b <;> cases q
  all_goals
    refine qn Tryz.func70 Tryz.ntmps70 rfl rfl (by decide) rfl (by intro n; simp) fun σ n0 hcl hft => ?_
    repeat' (first | ((first | ((with_reducible refine qo (fun hg => ?_) (fun hg => ?_)) <;> (try simp only [hg]) <;> (try simp only [gS] at hg) <;> (try (first | simp only [eq_false hg, gI] | simp only [eq_true hg, gI]))) | (with_reducible first | refine qc ?_ | refine qb ?_ | refine qi ?_ | refine qh ?_) | refine acall (c1) ?_ | refine qp (c1) ?_ | refine acall (c2) ?_ | refine qp (c2) ?_ | refine qe ?_ | refine qj ?_ | refine qk ?_ | refine qm ?_) <;> (try simp (disch := first | omega | simp) [qg, -qq, -qs])) | ((with_reducible refine sideT ?_ ?_); first | omega | assumption | (simp; done)) | (refine qf fun K hK => ?_) | (refine qa ?_) | refine ql ?_ | ((first | refine hK _ ?_ | (clear hK K; refine hK _ ?_) | (clear hK K; clear hK K; refine hK _ ?_)); clear hK K) | refine qd ?_)
    all_goals first | rfl | (simp; done) | omega
end Go.Proofs.YtgpcpmfdklpifaaGreatDoor

/- An append to a slice of the call's own that is written too, in a region in text order. -/
namespace Go.Proofs.YtgpcpmfdklpifaaGreatDoor
open Go.RowKit Go.Lib
section
variable {P : Program} {s : AS}
def ownApp2 (P : Program) (ops : Array Oper) (s : AS) (o : Oper) (K : AS → Prop) : Prop :=
  match o.op with
  | .call { callee := .builtin .append, args := ⟨[x, y]⟩, argTypes := ⟨[t, t']⟩ } => t' = t ∧ awant ops o s.t = some true ∧ (match vinfo P t with
    | some (e, sz, by_) => match s.eval x, (s.eval y).list with
      | .own r n, some ys => (match s.st r with
        | .vec l e' sz' => e' = e ∧ sz' = sz ∧ n = l.length ∧ AV.wid ys sz ∧ AV.elms ys ∧ (l.length + ys.length) * by_ ≤ 140737488355328 ∧ dstOk o.dst (s.set r (.vec (l ++ ys) e sz)).n ∧ K ((s.set r (.vec (l ++ ys) e sz)).put o.dst (.own r (l.length + ys.length)))
        | _ => False)
      | _, _ => False
    | none => False)
  | _ => False
theorem ownApp2_sound {ops : Array Oper} {K K' : AS → Prop} {o : Oper} {l : List Oper} (hk : ∀ s, K' s → aseq P ops K l s) (h : ownApp2 P ops s o K') : aseq P ops K (o :: l) s := by
  unfold ownApp2 at h
  rw [aseq]
  split at h
  · rename_i x y t t' hop
    obtain ⟨rfl, hwt, h⟩ := h
    refine ⟨true, hwt, ?_⟩
    show EOp P s o.op _
    rw [hop]
    split at h
    · split at h
      · split at h
        · obtain ⟨rfl, rfl, h1, h2, h3, h4, h6, h7⟩ := h
          exact eop_appendO0 ‹_› ‹_› ‹_› h1 ‹_› h2 h3 h4 ⟨h6, hk _ h7⟩
        · exact h.elim
      · exact h.elim
    · exact h.elim
  · exact h.elim
theorem awp_regionW {id : Nat} {l : List Oper} {Q : Exit → AS → Prop} (k : Nat) {o : Oper} (ho : l[k]? = some o) (h : qq P l.toArray (fun s => ownApp2 P l.toArray s o fun s => qq P l.toArray (Q .normal) (l.drop (k + 1)) s) (l.take k) s) : awp P (.region id l.toArray false) Q s := by
  refine qck ?_
  have h1 : l = l.take k ++ o :: l.drop (k + 1) := by
    have hk := (List.getElem?_eq_some_iff.1 ho)
    obtain ⟨hk, he⟩ := hk
    rw [← he, ← List.drop_eq_getElem_cons hk, List.take_append_drop]
  have h2 : aseq P l.toArray (Q .normal) (l.take k ++ o :: l.drop (k + 1)) s := aseqC_cut (fun s' hs => ownApp2_sound (fun s'' h => qde h) hs) h
  rw [← h1] at h2; exact h2
attribute [simp] ownApp2
def nilCall (P : Program) (ops : Array Oper) (s : AS) (o : Oper) (K : AS → Prop) : Prop :=
  match o.op with
  | .call { callee := .value (.func f), args := ⟨.const (.slice none 0 0) :: args⟩, .. } => awant ops o s.t = some true ∧ nts (args.map s.eval) = true ∧ enters P f = true ∧ dstOk o.dst s.n ∧ AGives P f (.v (.slice none 0 0) :: (args.map s.eval).map AV.pub) s.st (fun x => K (s.put o.dst x))
  | _ => False
attribute [simp] nilCall
end
end Go.Proofs.YtgpcpmfdklpifaaGreatDoor

/- Calls that give a slice which is the caller's own from then on. -/
namespace Go.Proofs.YtgpcpmfdklpifaaGreatDoor
open Go.RowKit Go.Lib
def GivesV (P : Program) (f : FuncId) (args : List AV) (n : Nat) (ab : AB) : Prop := ∀ σ r, σ r = .unborn → AC P f args σ fun y τ => y = .own r n ∧ τ = upd σ r ab
theorem acallV {P : Program} {f : FuncId} {args : List AV} {s : AS} {K : AV → AS → Prop} {n : Nat} {ab : AB} (h : GivesV P f args n ab) (hK : K (.own s.nx n) (s.ext (some ab))) : ACall P f args s K :=
  ⟨.own s.nx n, s.ext (some ab), by rw [(qdn s ab).1]; exact h s.st s.nx (s.fin _ (Nat.le_refl _)), ⟨rfl, rfl, rfl⟩, hK⟩
theorem givesV_new {P : Program} {f : FuncId} {args : List AV} {l : List AV} {e : TypeId} {sz : Nat} (hw : ∀ x ∈ l, x.width = sz)
    (h : ∀ X vals, SR X → RRl X args vals → Calls P f vals.toArray X.w fun r w' => ∃ w1 cs cap, Ext X.w w1 ∧ w' = w1.alloc (.cells cs e) ∧ r = .returned (.slice (some ⟨w1.heap.size, 0, none⟩) l.length cap) ∧ l.length ≤ cap ∧ cap ≤ maxLen ∧ cs.size = cap * sz ∧ RCs X l (cs.toList.take (l.length * sz))) :
    GivesV P f args l.length (.vec l e sz) := by
  intro σ r hu X vals nx hS hσ hfin ha
  refine (h X vals hS ha).mono ?_
  rintro e' w' ⟨w1, cs, cap, hE, rfl, rfl, h1, h2, h3, h4⟩
  have hS1 := later_sr hS hE
  have hF1 := qdo hS hE
  have hu1 : (X.later w1).σ r = .unborn := by show X.σ r = _; rw [hσ]; exact hu
  have hv : (AB.vec l e sz).blk (.slice (some ⟨w1.heap.size, 0, none⟩) l.length cap) = some w1.heap.size := rfl
  have hF2 := qee hS1 (cs := cs) (t := e) hu1 hv
  have hlen := RCs.len h4 hw
  refine ⟨(X.later w1).born r (.vec l e sz) cs e (.slice (some ⟨w1.heap.size, 0, none⟩) l.length cap), _, .own r l.length, rfl, rfl, ⟨rfl, by show upd X.σ r _ = _; rw [hσ]⟩, born_sr hS1 hu1 hv ?_, hF1.trans hF2, ?_⟩
  · exact ⟨hw, _, ⟨by rw [hlen], .inr ⟨w1.heap.size, cap, _, by simp, Nat.zero_le _, heap_alloc_new w1 _, h1, h2, h3, by first | rfl | (rw [hlen]) | simp [hlen]⟩⟩, RCs.fr (hF1.trans hF2) _ _ h4⟩
  · show RC _ (.own r l.length) [_]
    rw [RC]
    refine ⟨by simp [St.born, upd], _, rfl, ⟨rfl, fun I h => by simp [St.born, upd] at h⟩, fun l2 e2 s2 hl => ?_⟩
    simp [St.born, upd] at hl
    obtain ⟨rfl, rfl, rfl⟩ := hl
    exact ⟨by simp, fun _ => by simp [St.born, upd]⟩
end Go.Proofs.YtgpcpmfdklpifaaGreatDoor

/- Walk of layer 25: an instruction, read. -/
namespace Go.Proofs.YtgpcpmfdklpifaaGreatDoor
open Go.RowKit Go.Lib
theorem split_v (s sep : ByteArray) (hs : s.size < 4294967281) (h1 : 1 ≤ sep.size) : GivesV Tryz.prog 67 [.str s, .str sep] (qec sep s).length (.vec ((qec sep s).map AV.str) 9 1) := by
  have hlen := splitA_length sep s h1
  have hc := Lib.countB_le sep h1 _ s (Nat.le_refl _)
  have := givesV_new (P := Tryz.prog) (f := 67) (args := [.str s, .str sep]) (l := (qec sep s).map AV.str) (e := 9) (sz := 1) (fun x hx => by obtain ⟨q, -, rfl⟩ := List.mem_map.1 hx; rfl) fun X vals hS ha => by
    obtain ⟨v0, _, rfl, h2, v1, _, rfl, h3, h4⟩ := ha
    cases h4
    cases qdm h2; cases qdm h3
    obtain ⟨⟨m, hm⟩, -⟩ := hS.glob
    refine (Tryz.strings_Split s sep m X.w hs hm.1.1 h1).mono ?_
    rintro e w' ⟨rfl, rfl⟩
    refine ⟨X.w, ((qec sep s).map Value.string).toArray, _, Ext.refl _, rfl, by rw [List.length_map, hlen], ?_, ?_, ?_, ?_⟩
    · rw [List.length_map, hlen]; exact Nat.le_refl _
    · unfold maxLen; omega
    · simp [hlen]
    · rw [List.length_map, Nat.mul_one, List.toList_toArray, List.take_of_length_le (by simp)]
      exact rcs_strs _
  rwa [List.length_map] at this
def namesB : List ByteArray := [⟨#[105, 110, 116]⟩, ⟨#[116, 101, 120, 116]⟩, ⟨#[98, 111, 111, 108]⟩, ⟨#[99, 111, 108]⟩, ⟨#[]⟩, ⟨#[116, 105, 109, 101]⟩, ⟨#[110, 111, 116]⟩, ⟨#[110, 101, 103]⟩, ⟨#[97, 100, 100]⟩, ⟨#[115, 117, 98]⟩, ⟨#[109, 117, 108]⟩, ⟨#[100, 105, 118]⟩, ⟨#[109, 111, 100]⟩, ⟨#[101, 113]⟩, ⟨#[110, 101]⟩, ⟨#[108, 116]⟩, ⟨#[108, 101]⟩, ⟨#[97, 110, 100]⟩, ⟨#[111, 114]⟩, ⟨#[99, 111, 110, 99, 97, 116]⟩, ⟨#[108, 101, 110]⟩, ⟨#[105, 102]⟩, ⟨#[]⟩]
theorem namesB_eq : qv.map AV.v = namesB.map AV.str := rfl
theorem nms_len : qv.length = 23 := rfl
theorem names_idx (s : ByteArray) : Gives Tryz.prog 94 [.sl (qv.map AV.v), .str s] (.int (idxP (fun x => s.toList == x.toList) namesB)) := by
  rw [namesB_eq]; exact idxS_g namesB s (by decide)
set_option maxHeartbeats 4000000 in
theorem insA_g (line tr rest name arg : ByteArray) (o t v : Int) (hs : line.size ≤ 1000000) (hs1 : rest.size ≤ 1000000) (hs2 : tr.size ≤ 1000000) (hs3 : arg.size ≤ 1000000) (h1 : cutA line ⟨#[32, 61, 32]⟩ = (tr, rest, true)) (h2 : cutA rest ⟨#[32]⟩ = (name, arg, true))
    (h3 : idxP (fun x => name.toList == x.toList) namesB = o) (ho : o = 0 ∨ o = 3) (h4 : regP tr = (t, true)) (h5 : intP arg.data.toList = some v) (hv : 0 ≤ v) : Gives Tryz.prog 69 [.str line] (.tup [.agg [.int o, .int t, .int 0, .int 0, .int 0, .int v, .str ByteArray.empty], .bool true]) := by
  have c1 := cut_g line ⟨#[32, 61, 32]⟩ (by omega)
  have c2 := cut_g rest ⟨#[32]⟩ (by omega)
  have c3 := names_idx name
  have c4 := number_g tr hs2
  have c5 := int_g arg hs3
  have c6 := isOp_g o
  rw [h1] at c1
  rw [h2] at c2
  rw [h3] at c3
  rw [h4] at c4
  rw [h5] at c5
  have hop : opOk o = true := by rcases ho with rfl | rfl <;> rfl
  rw [hop] at c6
  rcases ho with rfl | rfl
  · refine qn Tryz.func69 Tryz.ntmps69 rfl rfl (by decide) rfl (by intro n; simp) fun σ n0 hcl hft => ?_
    repeat' (first | ((first | ((with_reducible refine qo (fun hg => ?_) (fun hg => ?_)) <;> (try simp only [hg]) <;> (try simp only [gS] at hg) <;> (try (first | simp only [eq_false hg, gI] | simp only [eq_true hg, gI]))) | (with_reducible first | refine qc ?_ | refine qb ?_ | refine qi ?_ | refine qh ?_ | refine qcy ?_ | refine qdw ?_ | refine qdu ?_ | refine anyE_end ?_) | refine acall (c1) ?_ | refine qp (c1) ?_ | refine acall (c2) ?_ | refine qp (c2) ?_ | refine acall (c3) ?_ | refine qp (c3) ?_ | refine acall (c4) ?_ | refine qp (c4) ?_ | refine acall (c5) ?_ | refine qp (c5) ?_ | refine acall (c6) ?_ | refine qp (c6) ?_ | refine qe ?_ | refine qj ?_ | refine qk ?_ | refine qm ?_) <;> (try simp (disch := first | omega | simp) [qg, -qq, -qs, hv, nms_len])) | (with_reducible refine awp_anyE (id := 13) [.unborn, .cells [.int 0, .int t, .int 0, .int 0, .int 0, .int v, .str ByteArray.empty] 32] [.R, .R, .R, .R, .R, .R, .R, .R, .R, .R, .R, .R, .W, .R] (by kernel_rfl) (by kernel_rfl) (by simp) ?_) | (with_reducible refine qcl (id := 3) ?_) | ((with_reducible refine sideT ?_ ?_); first | omega | assumption | (simp; done)) | (refine qf fun K hK => ?_) | (refine qa ?_) | refine ql ?_ | ((first | refine hK _ ?_ | (clear hK K; refine hK _ ?_) | (clear hK K; clear hK K; refine hK _ ?_)); clear hK K) | refine qd ?_)
  · refine qn Tryz.func69 Tryz.ntmps69 rfl rfl (by decide) rfl (by intro n; simp) fun σ n0 hcl hft => ?_
    repeat' (first | ((first | ((with_reducible refine qo (fun hg => ?_) (fun hg => ?_)) <;> (try simp only [hg]) <;> (try simp only [gS] at hg) <;> (try (first | simp only [eq_false hg, gI] | simp only [eq_true hg, gI]))) | (with_reducible first | refine qc ?_ | refine qb ?_ | refine qi ?_ | refine qh ?_ | refine qcy ?_ | refine qdw ?_ | refine qdu ?_ | refine anyE_end ?_) | refine acall (c1) ?_ | refine qp (c1) ?_ | refine acall (c2) ?_ | refine qp (c2) ?_ | refine acall (c3) ?_ | refine qp (c3) ?_ | refine acall (c4) ?_ | refine qp (c4) ?_ | refine acall (c5) ?_ | refine qp (c5) ?_ | refine acall (c6) ?_ | refine qp (c6) ?_ | refine qe ?_ | refine qj ?_ | refine qk ?_ | refine qm ?_) <;> (try simp (disch := first | omega | simp) [qg, -qq, -qs, hv, nms_len])) | (with_reducible refine awp_anyE (id := 13) [.unborn, .cells [.int 3, .int t, .int 0, .int 0, .int 0, .int v, .str ByteArray.empty] 32] [.R, .R, .R, .R, .R, .R, .R, .R, .R, .R, .R, .R, .W, .R] (by kernel_rfl) (by kernel_rfl) (by simp) ?_) | (with_reducible refine qcl (id := 3) ?_) | ((with_reducible refine sideT ?_ ?_); first | omega | assumption | (simp; done)) | (refine qf fun K hK => ?_) | (refine qa ?_) | refine ql ?_ | ((first | refine hK _ ?_ | (clear hK K; refine hK _ ?_) | (clear hK K; clear hK K; refine hK _ ?_)); clear hK K) | refine qd ?_)
set_option maxHeartbeats 8000000 in
theorem insB_g (line tr rest name arg w1 w2 : ByteArray) (o t a b : Int) (hs : line.size ≤ 1000000) (hs1 : rest.size ≤ 1000000) (hs2 : tr.size ≤ 1000000) (hs3 : arg.size ≤ 1000000) (hs4 : w1.size ≤ 1000000) (hs5 : w2.size ≤ 1000000) (h1 : cutA line ⟨#[32, 61, 32]⟩ = (tr, rest, true)) (h2 : cutA rest ⟨#[32]⟩ = (name, arg, true))
    (h3 : idxP (fun x => name.toList == x.toList) namesB = o) (ho : o = 8 ∨ o = 15) (h4 : regP tr = (t, true)) (h5 : qec ⟨#[32]⟩ arg = [w1, w2]) (h6 : regP w1 = (a, true)) (h7 : regP w2 = (b, true)) : Gives Tryz.prog 69 [.str line] (.tup [.agg [.int o, .int t, .int a, .int b, .int 0, .int 0, .str ByteArray.empty], .bool true]) := by
  have c1 := cut_g line ⟨#[32, 61, 32]⟩ (by omega)
  have c2 := cut_g rest ⟨#[32]⟩ (by omega)
  have c3 := names_idx name
  have c4 := number_g tr hs2
  have c5 := split_v arg ⟨#[32]⟩ (by omega) (by decide)
  have c6 := isOp_g o
  have c7 := number_g w1 hs4
  have c8 := number_g w2 hs5
  have c9 := arity_g o
  rw [h1] at c1
  rw [h2] at c2
  rw [h3] at c3
  rw [h4] at c4
  rw [h5] at c5
  rw [h6] at c7
  rw [h7] at c8
  have hop : opOk o = true := by rcases ho with rfl | rfl <;> rfl
  have har : arO o = 2 := by rcases ho with rfl | rfl <;> rfl
  have ho0 : (o == 0) = false := by rcases ho with rfl | rfl <;> rfl
  have ho1 : (o == 1) = false := by rcases ho with rfl | rfl <;> rfl
  have ho2 : (o == 2) = false := by rcases ho with rfl | rfl <;> rfl
  have ho3 : (o == 3) = false := by rcases ho with rfl | rfl <;> rfl
  have hn0 : ¬ o = 0 := by omega
  have hn1 : ¬ o = 1 := by omega
  have hn2 : ¬ o = 2 := by omega
  have hn3 : ¬ o = 3 := by omega
  rw [hop] at c6
  rw [har] at c9
  simp only [List.map_cons, List.map_nil, List.length_cons, List.length_nil] at c5
  clear h1 h2 h3 h4 h5 h6 h7 hop har ho
  refine qn Tryz.func69 Tryz.ntmps69 rfl rfl (by decide) rfl (by intro n; simp) fun σ n0 hcl hft => ?_
  repeat' (first | ((first | ((with_reducible refine qo (fun hg => ?_) (fun hg => ?_)) <;> (try simp only [hg]) <;> (try simp only [gS] at hg) <;> (try (first | simp only [eq_false hg, gI] | simp only [eq_true hg, gI]))) | (with_reducible first | refine qc ?_ | refine qb ?_ | refine qi ?_ | refine qh ?_ | refine qcy ?_ | refine qdw ?_) | refine acall (c1) ?_ | refine qp (c1) ?_ | refine acall (c2) ?_ | refine qp (c2) ?_ | refine acall (c3) ?_ | refine qp (c3) ?_ | refine acall (c4) ?_ | refine qp (c4) ?_ | refine acall (c6) ?_ | refine qp (c6) ?_ | refine acall (c9) ?_ | refine qp (c9) ?_ | refine awp_regionW (id := 17) 3 (by rfl) ?_ | refine acallV c5 ?_ | refine qe ?_ | refine qj ?_ | refine qk ?_ | refine qm ?_) <;> (try simp (disch := first | omega | simp) [qg, -qq, -qs, nms_len, ho0, ho1, ho2, ho3, hn0, hn1, hn2, hn3, List.take_succ_cons, List.drop_succ_cons])) | (with_reducible refine qcl (id := 3) ?_) | ((with_reducible refine sideT ?_ ?_); first | omega | assumption | (simp; done)) | (refine qf fun K hK => ?_) | (refine qa ?_) | refine ql ?_ | ((first | refine hK _ ?_ | (clear hK K; refine hK _ ?_) | (clear hK K; clear hK K; refine hK _ ?_)); clear hK K) | refine qd ?_)
  all_goals first | (exfalso; contradiction) | skip
  have hrp : ∀ (τ : Nat → AB) (r o : Nat), rdAt τ false 1 (.ep (.ptr r o) 0) = some (.ptr r o) := fun _ _ _ => rfl
  refine qr hcl (fun k : Nat => [(2, .ptr n0 0), (9, .ptr (n0 + 1) 0), (11, .own (n0 + 2) 5), (12, .sl [.ptr (n0 + 1) 2, .ptr (n0 + 1) 3, .ptr (n0 + 1) 4]), (89, .int 2), (90, .int k)])
    (fun k => [.cells [.int 0, .int 0, .int 0, .int 0, .int 0, .int 0, .str ByteArray.empty] 32, .cells [.int o, .int t, .int (if 0 < k then a else 0), .int (if 1 < k then b else 0), .int 0, .int 0, .str ByteArray.empty] 32, .vec [.str w1, .str w2, .str ⟨#[]⟩, .str ⟨#[]⟩, .str ⟨#[]⟩] 9 1])
    (fun k => k ≤ 2) (fun k => 2 - k) 0 (by omega) (by simp) fun k hk => ?_
  have hk3 : k = 0 ∨ k = 1 ∨ k = 2 := by omega
  rcases hk3 with rfl | rfl | rfl
  · repeat' (first | ((first | ((with_reducible refine qo (fun hg => ?_) (fun hg => ?_)) <;> (try simp only [hg]) <;> (try simp only [gS] at hg) <;> (try (first | simp only [eq_false hg, gI] | simp only [eq_true hg, gI]))) | (with_reducible first | refine qc ?_ | refine qb ?_ | refine qi ?_ | refine qh ?_ | refine qdu ?_ | refine anyE_end ?_) | refine acall (c7) ?_ | refine qp (c7) ?_ | refine acall (c8) ?_ | refine qp (c8) ?_ | refine qe ?_ | refine qj ?_ | refine qk ?_ | refine qm ?_) <;> (try simp (disch := first | omega | simp) [qg, -qq, -qs, hrp])) | (with_reducible refine awp_anyE (id := 22) [.unborn, .unborn, .vec [.str w1, .str w2, .str ⟨#[]⟩, .str ⟨#[]⟩, .str ⟨#[]⟩] 9 1] [.R, .R, .R, .R, .R, .R, .R, .R, .M, .R, .R, .R, .M, .W, .R] (by kernel_rfl) (by kernel_rfl) (by simp) ?_) | ((with_reducible refine sideT ?_ ?_); first | omega | assumption | (simp; done)) | (refine qf fun K hK => ?_) | (refine qa ?_) | refine ql ?_ | ((first | refine hK _ ?_ | (clear hK K; refine hK _ ?_) | (clear hK K; clear hK K; refine hK _ ?_)); clear hK K) | refine qd ?_)
    exact ⟨1, by omega, by omega, ⟨by omega, by omega⟩, by simp⟩
  · repeat' (first | ((first | ((with_reducible refine qo (fun hg => ?_) (fun hg => ?_)) <;> (try simp only [hg]) <;> (try simp only [gS] at hg) <;> (try (first | simp only [eq_false hg, gI] | simp only [eq_true hg, gI]))) | (with_reducible first | refine qc ?_ | refine qb ?_ | refine qi ?_ | refine qh ?_ | refine qdu ?_ | refine anyE_end ?_) | refine acall (c7) ?_ | refine qp (c7) ?_ | refine acall (c8) ?_ | refine qp (c8) ?_ | refine qe ?_ | refine qj ?_ | refine qk ?_ | refine qm ?_) <;> (try simp (disch := first | omega | simp) [qg, -qq, -qs, hrp])) | (with_reducible refine awp_anyE (id := 22) [.unborn, .unborn, .vec [.str w1, .str w2, .str ⟨#[]⟩, .str ⟨#[]⟩, .str ⟨#[]⟩] 9 1] [.R, .R, .R, .R, .R, .R, .R, .R, .M, .R, .R, .R, .M, .W, .R] (by kernel_rfl) (by kernel_rfl) (by simp) ?_) | ((with_reducible refine sideT ?_ ?_); first | omega | assumption | (simp; done)) | (refine qf fun K hK => ?_) | (refine qa ?_) | refine ql ?_ | ((first | refine hK _ ?_ | (clear hK K; refine hK _ ?_) | (clear hK K; clear hK K; refine hK _ ?_)); clear hK K) | refine qd ?_)
    exact ⟨2, by omega, by omega, ⟨by omega, by omega⟩, by simp⟩
  · repeat' (first | ((first | ((with_reducible refine qo (fun hg => ?_) (fun hg => ?_)) <;> (try simp only [hg]) <;> (try simp only [gS] at hg) <;> (try (first | simp only [eq_false hg, gI] | simp only [eq_true hg, gI]))) | (with_reducible first | refine qc ?_ | refine qb ?_ | refine qi ?_ | refine qh ?_) | refine qe ?_ | refine qj ?_ | refine qk ?_ | refine qm ?_) <;> (try simp (disch := first | omega | simp) [qg, -qq, -qs, hrp])) | ((with_reducible refine sideT ?_ ?_); first | omega | assumption | (simp; done)) | (refine qf fun K hK => ?_) | (refine qa ?_) | refine ql ?_ | ((first | refine hK _ ?_ | (clear hK K; refine hK _ ?_) | (clear hK K; clear hK K; refine hK _ ?_)); clear hK K) | refine qd ?_)
end Go.Proofs.YtgpcpmfdklpifaaGreatDoor
