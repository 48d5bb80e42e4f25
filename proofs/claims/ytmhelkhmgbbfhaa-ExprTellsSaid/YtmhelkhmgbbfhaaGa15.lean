/- Walk: errataref16.Run: a choice. -/
import Derived.Test.YtmhelkhmgbbfhaaGa8
import Derived.Test.YtmhelkhmgbbfhaaGa11
import Derived.Test.YtmhelkhmgbbfhaaGa13
import Derived.Test.YtmhelkhmgbbfhaaGa14
namespace Go.Proofs.Ytmhelkhmgbbfhaa
open Go.RowKit Go.Lib

def cntV (v : Val) (n : Int) : Value := .agg #[.int .i64 v.k, .int .i64 v.n, .string v.s, .int .i64 n]
/-- what Run is shown to do with an expression -/
def RunOk (F : List Fn) (time : Int) (m : Nat) (e : Ex) : Prop :=
  ∀ (c p : List Int) (R P : List Val) (t : Int) (vF vR vP : Value) (cs : List Value) (w : World), ty (F.take m) c p e = some t → R.map Val.k = c → P.map Val.k = p → (∀ v ∈ R, soundV v) → (∀ v ∈ P, soundV v) → parts e ≤ 1000000 → countE (bodiesS [] F) e < 1099511627776 →
    Rd w Any (.sl (F.map Fn.d)) [vF] → Rd w Any (.sl (R.map Val.d)) [vR] → Rd w Any (.sl (P.map Val.d)) [vP] → Rd w Any e.d cs →
    Calls Try.prog 16 #[vF, .agg cs.toArray, .int .i64 time, vR, vP] w fun r w' => r = .returned (cntV (ev (callN F time m) time R P e) (cnt (callN F time m) (cntN F time m) time R P e)) ∧ Ext w w'

theorem ext_four {w w1 : World} (hw : Ext w w1) (B : Nat) (hB : w.heap.size ≤ B) (x y z u : Value) : Ext w ((((w1.setCell ⟨B, 0, none⟩ x).setCell ⟨B, 1, none⟩ y).setCell ⟨B, 2, none⟩ z).setCell ⟨B, 3, none⟩ u) :=
  (((hw.setCell hB x).setCell hB y).setCell hB z).setCell hB u

set_option maxRecDepth 10000 in
set_option maxHeartbeats 1000000 in
theorem run_if (F : List Fn) (time : Int) (m : Nat) (hOk : ∀ i, i < F.length → okF F i = true) (n : Int) (s : ByteArray) (l : List Ex) (ih : ∀ x ∈ l, RunOk F time m x) : RunOk F time m (.mk 21 n s l) := by
  intro c p R P t vF vR vP cs w ht hR hP hsR hsP hpb hle hF hRr hPr hr
  obtain ⟨A, cap, b, off, rfl, hl1, hl2, hl3, hm⟩ := Ex.open hr
  simp only [Ex.args, Ex.op, Ex.n, Ex.s] at *
  obtain ⟨x, y, z, rfl, tx, tyy, tz⟩ := if_args ht
  obtain ⟨rfl, -⟩ := hl3 (by simp)
  obtain ⟨A1, cap1, b1, off1, c0, c1, c2, c3, hr1, -⟩ := Ex.at hm (k := 0) (by simp)
  obtain ⟨A2, cap2, b2, off2, d0, d1, d2, d3, hr2, -⟩ := Ex.at hm (k := 1) (by simp)
  obtain ⟨A3, cap3, b3, off3, q0, q1, q2, q3, hr3, -⟩ := Ex.at hm (k := 2) (by simp)
  simp only [List.getElem_cons_zero, List.getElem_cons_succ, List.length_cons, List.length_nil, Nat.zero_mul, Nat.one_mul, Nat.add_zero, Nat.reduceAdd, Nat.reduceMul, Nat.zero_add] at *
  have hB : GoodS (bodiesS [] F) := bodiesS_good F [] (fun k hk => by simp at hk)
  have hle2 : countE (bodiesS [] F) x < 1099511627776 ∧ countE (bodiesS [] F) y < 1099511627776 ∧ countE (bodiesS [] F) z < 1099511627776 ∧ 1 + countE (bodiesS [] F) x + max (countE (bodiesS [] F) y) (countE (bodiesS [] F) z) < 1099511627776 := by
    have hx := countE_bd _ hB x; have hy := countE_bd _ hB y; have hz := countE_bd _ hB z
    rw [countE, countL_map] at hle
    rw [List.map_cons, List.map_cons, List.map_cons, List.map_nil, stepsOf_if _ _ n (a := countE (bodiesS [] F) x) (b := countE (bodiesS [] F) y) (c := countE (bodiesS [] F) z) rfl] at hle
    unfold capS at hle; omega
  have bx := cnt_le (row := R) (params := P) time hOk m x tx hle2.1
  have bY := cnt_le (row := R) (params := P) time hOk m y tyy hle2.2.1
  have bz := cnt_le (row := R) (params := P) time hOk m z tz hle2.2.2.1
  have hx := fun cs w (h1 : Rd w Any (.sl (F.map Fn.d)) [vF]) h2 h3 h4 => ih x (by simp) c p R P _ vF vR vP cs w tx hR hP hsR hsP (by rw [parts] at hpb; have := partsL_mem [x, y, z] x (by simp); omega) hle2.1 h1 h2 h3 h4
  have hy := fun cs w (h1 : Rd w Any (.sl (F.map Fn.d)) [vF]) h2 h3 h4 => ih y (by simp) c p R P _ vF vR vP cs w tyy hR hP hsR hsP (by rw [parts] at hpb; have := partsL_mem [x, y, z] y (by simp); omega) hle2.2.1 h1 h2 h3 h4
  have hz := fun cs w (h1 : Rd w Any (.sl (F.map Fn.d)) [vF]) h2 h3 h4 => ih z (by simp) c p R P _ vF vR vP cs w tz hR hP hsR hsP (by rw [parts] at hpb; have := partsL_mem [x, y, z] z (by simp); omega) hle2.2.2.1 h1 h2 h3 h4
  have H := Lib.hid (show ev (callN F time m) time R P (.mk 21 n s [x, y, z]) = if (ev (callN F time m) time R P x).n = 1 then ev (callN F time m) time R P y else ev (callN F time m) time R P z by
    rw [ev, if_pos rfl]; simp only [evs]; rfl)
  have HC := Lib.hid (show cnt (callN F time m) (cntN F time m) time R P (.mk 21 n s [x, y, z]) = 1 + cnt (callN F time m) (cntN F time m) time R P x + if (ev (callN F time m) time R P x).n = 1 then cnt (callN F time m) (cntN F time m) time R P y else cnt (callN F time m) (cntN F time m) time R P z by
    rw [cnt, cntOf, if_pos rfl]; simp only [evs, cnts]; rfl)
  have hbb : 0 ≤ countE (bodiesS [] F) x ∧ 0 ≤ countE (bodiesS [] F) y ∧ 0 ≤ countE (bodiesS [] F) z := ⟨(countE_bd _ hB x).1, (countE_bd _ hB y).1, (countE_bd _ hB z).1⟩
  generalize ev (callN F time m) time R P x = X at *
  generalize ev (callN F time m) time R P y = Y at *
  generalize ev (callN F time m) time R P z = Z at *
  generalize cnt (callN F time m) (cntN F time m) time R P x = NX at *
  generalize cnt (callN F time m) (cntN F time m) time R P y = NY at *
  generalize cnt (callN F time m) (cntN F time m) time R P z = NZ at *
  have w1 : 0 ≤ NX ∧ NX ≤ 1099511627776 := by omega
  have w2 : 0 ≤ NY ∧ NY ≤ 1099511627776 := by omega
  have w3 : 0 ≤ NZ ∧ NZ ≤ 1099511627776 := by omega
  obtain ⟨kx, nx, sx⟩ := X
  obtain ⟨ky, ny, sy⟩ := Y
  obtain ⟨kz, nz, sz⟩ := Z
  simp only [cntV] at hx hy hz
  have hF' := Lib.hid hF; have hR' := Lib.hid hRr; have hP' := Lib.hid hPr
  have hr1' := Lib.hid hr1; have hr2' := Lib.hid hr2; have hr3' := Lib.hid hr3
  have hx' := Lib.hid hx; have hy' := Lib.hid hy; have hz' := Lib.hid hz
  clear hF hRr hPr hr hr1 hr2 hr3 hx hy hz hm hl3 ih hpb ht hsR hsP hR hP tx tyy tz hOk bx bY bz hle hle2 hB hbb
  have c0' : ∀ o1 o2, ((w.alloc o1).alloc o2).cell? _ = some _ := fun o1 o2 => (((Ext.refl w).alloc o1).alloc o2).at c0
  have c1' : ∀ o1 o2, ((w.alloc o1).alloc o2).cell? _ = some _ := fun o1 o2 => (((Ext.refl w).alloc o1).alloc o2).at c1
  have c2' : ∀ o1 o2, ((w.alloc o1).alloc o2).cell? _ = some _ := fun o1 o2 => (((Ext.refl w).alloc o1).alloc o2).at c2
  have c3' : ∀ o1 o2, ((w.alloc o1).alloc o2).cell? _ = some _ := fun o1 o2 => (((Ext.refl w).alloc o1).alloc o2).at c3
  go_enter Try.func16, Try.ntmps16
  go_wp2_with fail
  generalize hWe : World.alloc (World.alloc w _) _ = W
  have e0 : W.cell? ⟨w.heap.size, 0, none⟩ = some (.int .i64 21) := by rw [← hWe]; clear hWe; go_simp
  have e3 : W.cell? ⟨w.heap.size, 3, none⟩ = some (.slice (some ⟨b, off, none⟩) 3 cap) := by rw [← hWe]; clear hWe; go_simp
  have f0 : W.cell? ⟨w.heap.size + 1, 0, none⟩ = some (.int .i64 0) := by rw [← hWe]; clear hWe; go_simp
  have f1 : W.cell? ⟨w.heap.size + 1, 1, none⟩ = some (.int .i64 0) := by rw [← hWe]; clear hWe; go_simp
  have f2 : W.cell? ⟨w.heap.size + 1, 2, none⟩ = some (.string ByteArray.empty) := by rw [← hWe]; clear hWe; go_simp; rfl
  have f3 : W.cell? ⟨w.heap.size + 1, 3, none⟩ = some (.int .i64 0) := by rw [← hWe]; clear hWe; go_simp
  have z0 : W.frozen? ⟨w.heap.size + 1, 0, none⟩ = false := by rw [← hWe]; clear hWe; go_simp
  have z1 : W.frozen? ⟨w.heap.size + 1, 1, none⟩ = false := by rw [← hWe]; clear hWe; go_simp
  have z2 : W.frozen? ⟨w.heap.size + 1, 2, none⟩ = false := by rw [← hWe]; clear hWe; go_simp
  have z3 : W.frozen? ⟨w.heap.size + 1, 3, none⟩ = false := by rw [← hWe]; clear hWe; go_simp
  have hlt : w.heap.size + 1 < W.heap.size := by rw [← hWe]; clear hWe; go_simp
  have hw : Ext w W := by rw [← hWe]; exact (by repeat' first | exact Ext.refl _ | assumption | apply Ext.alloc | apply Ext.drew | apply Ext.drewN | (refine Ext.trans ?_ (by assumption)))
  clear hWe c0' c1' c2' c3'
  have d0 := hw.at d0
  have d1 := hw.at d1
  have d2 := hw.at d2
  have d3 := hw.at d3
  have q0 := hw.at q0
  have q1 := hw.at q1
  have q2 := hw.at q2
  have q3 := hw.at q3
  refine (hx'.out _ _ (hF'.out.ext hw) (hR'.out.ext hw) (hP'.out.ext hw) (hr1'.out.ext hw)).mono ?_
  rintro r w1 ⟨rfl, he⟩
  have e0 := he.at e0
  have e3 := he.at e3
  have f0 := he.at f0
  have f1 := he.at f1
  have f2 := he.at f2
  have f3 := he.at f3
  have d0 := he.at d0
  have d1 := he.at d1
  have d2 := he.at d2
  have d3 := he.at d3
  have q0 := he.at q0
  have q1 := he.at q1
  have q2 := he.at q2
  have q3 := he.at q3
  replace z0 := (he.frozens _ _ hlt).trans z0
  replace z1 := (he.frozens _ _ hlt).trans z1
  replace z2 := (he.frozens _ _ hlt).trans z2
  replace z3 := (he.frozens _ _ hlt).trans z3
  replace hw : Ext w w1 := hw.trans he
  replace hlt : w.heap.size + 1 < w1.heap.size := World.block_lt_of_cell? w1 _ f0
  clear he
  by_cases hX : nx = 1
  · subst hX
    have H2 := Lib.hid (H.out.trans (if_pos rfl))
    have HC2 := Lib.hid (HC.out.trans (congrArg _ (if_pos rfl)))
    clear H HC
    have d0' : ∀ o1, (w1.alloc o1).cell? _ = some _ := fun o1 => ((Ext.refl w1).alloc o1).at d0
    have d1' : ∀ o1, (w1.alloc o1).cell? _ = some _ := fun o1 => ((Ext.refl w1).alloc o1).at d1
    have d2' : ∀ o1, (w1.alloc o1).cell? _ = some _ := fun o1 => ((Ext.refl w1).alloc o1).at d2
    have d3' : ∀ o1, (w1.alloc o1).cell? _ = some _ := fun o1 => ((Ext.refl w1).alloc o1).at d3
    have e0' : ∀ o1, (w1.alloc o1).cell? _ = some _ := fun o1 => ((Ext.refl w1).alloc o1).at e0
    have e3' : ∀ o1, (w1.alloc o1).cell? _ = some _ := fun o1 => ((Ext.refl w1).alloc o1).at e3
    go_wp2_with fail
    refine (hy'.out _ _ (hF'.out.ext (hw.alloc _)) (hR'.out.ext (hw.alloc _)) (hP'.out.ext (hw.alloc _)) (hr2'.out.ext (hw.alloc _))).mono ?_
    rintro r w2 ⟨rfl, he⟩
    have g0 : w2.cell? ⟨w1.heap.size, 0, none⟩ = some (.int .i64 kx) := he.at (by go_simp)
    have g1 : w2.cell? ⟨w1.heap.size, 1, none⟩ = some (.int .i64 1) := he.at (by go_simp)
    have g2 : w2.cell? ⟨w1.heap.size, 2, none⟩ = some (.string sx) := he.at (by go_simp)
    have g3 : w2.cell? ⟨w1.heap.size, 3, none⟩ = some (.int .i64 NX) := he.at (by go_simp)
    have he2 : Ext w1 w2 := ((Ext.refl _).alloc _).trans he
    clear he e0' e3' d0' d1' d2' d3'
    have f0 := he2.at f0
    have f1 := he2.at f1
    have f2 := he2.at f2
    have f3 := he2.at f3
    replace z0 := (he2.frozens _ _ hlt).trans z0
    replace z1 := (he2.frozens _ _ hlt).trans z1
    replace z2 := (he2.frozens _ _ hlt).trans z2
    replace z3 := (he2.frozens _ _ hlt).trans z3
    replace hw : Ext w w2 := hw.trans he2
    have g0' : ∀ o1, (w2.alloc o1).cell? _ = some _ := fun o1 => ((Ext.refl w2).alloc o1).at g0
    have g3' : ∀ o1, (w2.alloc o1).cell? _ = some _ := fun o1 => ((Ext.refl w2).alloc o1).at g3
    replace f0 : ∀ o1, (w2.alloc o1).cell? _ = some _ := fun o1 => ((Ext.refl w2).alloc o1).at f0
    replace f1 : ∀ o1, (w2.alloc o1).cell? _ = some _ := fun o1 => ((Ext.refl w2).alloc o1).at f1
    replace f2 : ∀ o1, (w2.alloc o1).cell? _ = some _ := fun o1 => ((Ext.refl w2).alloc o1).at f2
    replace f3 : ∀ o1, (w2.alloc o1).cell? _ = some _ := fun o1 => ((Ext.refl w2).alloc o1).at f3
    replace z0 : ∀ o1, (w2.alloc o1).frozen? _ = false := fun o1 => (((Ext.refl w2).alloc o1).frozens _ _ (Nat.lt_of_lt_of_le hlt he2.size)).trans z0
    replace z1 : ∀ o1, (w2.alloc o1).frozen? _ = false := fun o1 => (((Ext.refl w2).alloc o1).frozens _ _ (Nat.lt_of_lt_of_le hlt he2.size)).trans z1
    replace z2 : ∀ o1, (w2.alloc o1).frozen? _ = false := fun o1 => (((Ext.refl w2).alloc o1).frozens _ _ (Nat.lt_of_lt_of_le hlt he2.size)).trans z2
    replace z3 : ∀ o1, (w2.alloc o1).frozen? _ = false := fun o1 => (((Ext.refl w2).alloc o1).frozens _ _ (Nat.lt_of_lt_of_le hlt he2.size)).trans z3
    clear g0 g1 g2 g3 d0 d1 d2 d3 q0 q1 q2 q3 e0 e3 he2
    go_wp2_with fail
    exact bodyPost_ret (v := .agg #[.int .i64 ky, .int .i64 ny, .string sy, .int .i64 (1 + NX + NY)]) (by simp [results, Try.results16, go_sem, f0, f1, f2, f3]; done) rfl ⟨by rw [H2.out, HC2.out]; rfl, ext_four (hw.alloc _) _ (by omega) _ _ _ _⟩
  · have hXb : (nx == 1) = false := by simp [hX]
    have H2 := Lib.hid (H.out.trans (if_neg hX))
    have HC2 := Lib.hid (HC.out.trans (congrArg _ (if_neg hX)))
    clear H HC hX
    have d0' : ∀ o1, (w1.alloc o1).cell? _ = some _ := fun o1 => ((Ext.refl w1).alloc o1).at q0
    have d1' : ∀ o1, (w1.alloc o1).cell? _ = some _ := fun o1 => ((Ext.refl w1).alloc o1).at q1
    have d2' : ∀ o1, (w1.alloc o1).cell? _ = some _ := fun o1 => ((Ext.refl w1).alloc o1).at q2
    have d3' : ∀ o1, (w1.alloc o1).cell? _ = some _ := fun o1 => ((Ext.refl w1).alloc o1).at q3
    have e0' : ∀ o1, (w1.alloc o1).cell? _ = some _ := fun o1 => ((Ext.refl w1).alloc o1).at e0
    have e3' : ∀ o1, (w1.alloc o1).cell? _ = some _ := fun o1 => ((Ext.refl w1).alloc o1).at e3
    go_wp2_with fail
    refine (hz'.out _ _ (hF'.out.ext (hw.alloc _)) (hR'.out.ext (hw.alloc _)) (hP'.out.ext (hw.alloc _)) (hr3'.out.ext (hw.alloc _))).mono ?_
    rintro r w2 ⟨rfl, he⟩
    have g0 : w2.cell? ⟨w1.heap.size, 0, none⟩ = some (.int .i64 kx) := he.at (by go_simp)
    have g1 : w2.cell? ⟨w1.heap.size, 1, none⟩ = some (.int .i64 nx) := he.at (by go_simp)
    have g2 : w2.cell? ⟨w1.heap.size, 2, none⟩ = some (.string sx) := he.at (by go_simp)
    have g3 : w2.cell? ⟨w1.heap.size, 3, none⟩ = some (.int .i64 NX) := he.at (by go_simp)
    have he2 : Ext w1 w2 := ((Ext.refl _).alloc _).trans he
    clear he e0' e3' d0' d1' d2' d3'
    have f0 := he2.at f0
    have f1 := he2.at f1
    have f2 := he2.at f2
    have f3 := he2.at f3
    replace z0 := (he2.frozens _ _ hlt).trans z0
    replace z1 := (he2.frozens _ _ hlt).trans z1
    replace z2 := (he2.frozens _ _ hlt).trans z2
    replace z3 := (he2.frozens _ _ hlt).trans z3
    replace hw : Ext w w2 := hw.trans he2
    have g0' : ∀ o1, (w2.alloc o1).cell? _ = some _ := fun o1 => ((Ext.refl w2).alloc o1).at g0
    have g3' : ∀ o1, (w2.alloc o1).cell? _ = some _ := fun o1 => ((Ext.refl w2).alloc o1).at g3
    replace f0 : ∀ o1, (w2.alloc o1).cell? _ = some _ := fun o1 => ((Ext.refl w2).alloc o1).at f0
    replace f1 : ∀ o1, (w2.alloc o1).cell? _ = some _ := fun o1 => ((Ext.refl w2).alloc o1).at f1
    replace f2 : ∀ o1, (w2.alloc o1).cell? _ = some _ := fun o1 => ((Ext.refl w2).alloc o1).at f2
    replace f3 : ∀ o1, (w2.alloc o1).cell? _ = some _ := fun o1 => ((Ext.refl w2).alloc o1).at f3
    replace z0 : ∀ o1, (w2.alloc o1).frozen? _ = false := fun o1 => (((Ext.refl w2).alloc o1).frozens _ _ (Nat.lt_of_lt_of_le hlt he2.size)).trans z0
    replace z1 : ∀ o1, (w2.alloc o1).frozen? _ = false := fun o1 => (((Ext.refl w2).alloc o1).frozens _ _ (Nat.lt_of_lt_of_le hlt he2.size)).trans z1
    replace z2 : ∀ o1, (w2.alloc o1).frozen? _ = false := fun o1 => (((Ext.refl w2).alloc o1).frozens _ _ (Nat.lt_of_lt_of_le hlt he2.size)).trans z2
    replace z3 : ∀ o1, (w2.alloc o1).frozen? _ = false := fun o1 => (((Ext.refl w2).alloc o1).frozens _ _ (Nat.lt_of_lt_of_le hlt he2.size)).trans z3
    clear g0 g1 g2 g3 d0 d1 d2 d3 q0 q1 q2 q3 e0 e3 he2
    go_wp2_with fail
    exact bodyPost_ret (v := .agg #[.int .i64 kz, .int .i64 nz, .string sz, .int .i64 (1 + NX + NZ)]) (by simp [results, Try.results16, go_sem, f0, f1, f2, f3]; done) rfl ⟨by rw [H2.out, HC2.out]; rfl, ext_four (hw.alloc _) _ (by omega) _ _ _ _⟩
end Go.Proofs.Ytmhelkhmgbbfhaa

/- The reference's operations, all of them. -/
namespace Go.Proofs.Ytmhelkhmgbbfhaa
open Go.RowKit Go.Lib

theorem apply_any {F : List Fn} {c p ts : List Int} {op n t : Int} {s : ByteArray} (call : Int → List Val → Val) (time : Int) (R P vs : List Val) (hk : vs.map Val.k = ts) (hv : ∀ v ∈ vs, soundV v) (ht : tailT F c p op n s ts = some t)
    (h3 : op ≠ 3) (h4 : op ≠ 4) (h5 : op ≠ 5) (h21 : op ≠ 21) (h22 : op ≠ 22) (A : Option Addr) (len cap : Nat) (vl : Value) (w : World) (hl : Rd w Any (.sl (vs.map Val.d)) [vl]) :
    Calls Try.prog 44 #[.agg #[.int .i64 op, .int .i64 n, .string s, .slice A len cap], vl] w fun r w' => r = .returned (opV call time R P op n s vs).v ∧ Ext w w' := by
  unfold tailT at ht
  split at ht
  · cases ht
  try rw [if_neg h22] at ht
  split at ht
  · unfold leafT at ht
    split at ht
    · rename_i h1; subst h1; exact rap_int n s A len cap vl w
    split at ht
    · rename_i h1; subst h1; exact rap_bool n s A len cap vl w
    try rw [if_neg h3] at ht
    try rw [if_neg h4] at ht
    split at ht
    · rename_i h1; subst h1; exact rap_text n s A len cap vl w
    try rw [if_neg h5] at ht
    cases ht
  · unfold operT at ht
    split at ht
    · cases ht
    split at ht
    · rename_i h1
      split at ht
      · rename_i hts
        obtain ⟨x, rfl, -⟩ := one_of (hk.trans hts)
        subst h1; exact rap_not n s A len cap x vl w hl
      · cases ht
    split at ht
    · rename_i h1
      split at ht
      · rename_i hts
        obtain ⟨x, rfl, -⟩ := one_of (hk.trans hts)
        subst h1; exact rap_neg n s A len cap x vl w hl
      · cases ht
    split at ht
    · rename_i h1
      split at ht
      · rename_i hts
        obtain ⟨x, rfl, -⟩ := one_of (hk.trans hts)
        subst h1; exact rap_len n s A len cap x vl w hl
      · cases ht
    split at ht
    · rename_i h1
      split at ht
      · rename_i hts
        obtain ⟨x, y, rfl, -, -⟩ := two_of (hk.trans hts)
        have h2 : op = 8 ∨ op = 9 ∨ op = 10 ∨ op = 11 ∨ op = 12 := by omega
        rcases h2 with rfl | rfl | rfl | rfl | rfl
        · exact rap_add n s A len cap x y vl w hl
        · exact rap_sub n s A len cap x y vl w hl
        · exact rap_mul n s A len cap x y vl w hl
        · exact rap_div n s A len cap x y vl w hl
        · exact rap_mod n s A len cap x y vl w hl
      · cases ht
    split at ht
    · rename_i h1
      split at ht
      · rename_i a b
        split at ht
        · rename_i hab
          obtain ⟨x, y, rfl, hx, hy⟩ := two_of hk
          have hc := less_cmp (hv x (by simp)) (hv y (by simp)) (by rw [hx, hy, hab])
          have h2 : op = 13 ∨ op = 14 ∨ op = 15 ∨ op = 16 := by omega
          rcases h2 with rfl | rfl | rfl | rfl
          · exact rap_eq n s A len cap x y vl w hl
          · exact rap_ne n s A len cap x y vl w hl
          · have := rap_lt n s A len cap x y vl w hl
            have he : boolV (lessB x y) = opV call time R P 15 n s [x, y] := by
              show _ = boolV (decide (cmpV x y < 0))
              congr 1
              rw [Bool.eq_iff_iff, decide_eq_true_eq]; exact hc.1.symm
            rwa [he] at this
          · have := rap_le n s A len cap x y vl w hl
            have he : boolV (!lessB y x) = opV call time R P 16 n s [x, y] := by
              show _ = boolV (decide (cmpV x y ≤ 0))
              congr 1
              rw [Bool.eq_iff_iff, decide_eq_true_eq, hc.2]; simp
            rwa [he] at this
        · cases ht
      · cases ht
    split at ht
    · rename_i h1
      split at ht
      · rename_i hts
        obtain ⟨x, y, rfl, -, -⟩ := two_of (hk.trans hts)
        have h2 : op = 17 ∨ op = 18 := by omega
        rcases h2 with rfl | rfl
        · exact rap_and n s A len cap x y vl w hl
        · exact rap_or n s A len cap x y vl w hl
      · cases ht
    split at ht
    · rename_i h1
      split at ht
      · rename_i hts
        obtain ⟨x, y, rfl, -, -⟩ := two_of (hk.trans hts)
        have hx := (hv x (by simp)).2
        have hy := (hv y (by simp)).2
        subst h1; exact rap_concat n s A len cap x y vl w hl (by omega)
      · cases ht
    first
      | cases ht
      | rw [if_neg h21] at ht; cases ht
end Go.Proofs.Ytmhelkhmgbbfhaa

/- Walk: errataref16.Run. -/
namespace Go.Proofs.Ytmhelkhmgbbfhaa
open Go.RowKit Go.Lib

theorem sumI_take {ks : List Int} {k : Nat} (h : k < ks.length) : sumI (ks.take (k + 1)) = sumI (ks.take k) + ks[k] := by
  induction ks generalizing k with
  | nil => simp at h
  | cons x l ih =>
    cases k with
    | zero => simp [sumI]
    | succ k => rw [List.take_succ_cons, List.take_succ_cons, sumI, sumI, ih (by simpa using h)]; simp; omega
theorem sumI_take_le {ks : List Int} (h : GoodS ks) (k : Nat) : 0 ≤ sumI (ks.take k) ∧ sumI (ks.take k) ≤ sumI ks := by
  induction ks generalizing k with
  | nil => simp [sumI]
  | cons x l ih =>
    have hx := h x (by simp)
    have hl : GoodS l := fun y hy => h y (by simp [hy])
    have h0 := sumI_nonneg hl
    cases k with
    | zero => simp only [List.take_zero, sumI]; omega
    | succ k => rw [List.take_succ_cons, sumI, sumI]; have := ih hl k; omega

theorem grown_cellW {W w' : World} {own : Option Nat} (hg : W.grownBy w' own) {p : Addr} {v : Value} (hc : W.cell? p = some v) (hne : some p.block ≠ own) : w'.cell? p = some v :=
  (World.cell?_of_block (hg.block p.block (World.block_lt_of_cell? W p hc) hne)).trans hc
theorem own_neW {w : World} {B : Nat} {e : TypeId} {size n : Nat} {v : Value} {xs : List Value} (h : w.ownsRow B e size v n xs) : some w.heap.size ≠ v.ownBlock := fun e => by
  have := (h.lt _ e.symm).2; omega

theorem wp_append1g {P : Program} {ops : Array Oper} {rest : List Oper} {o : Oper} {a : Act} {Q : Exit → Act → World → Prop} (W : World) (cs : Array Value) (et : TypeId)
    (hgd : o.guard = none) (s x : Operand) (t : TypeId) (ho : o.op = .call { callee := .builtin .append, args := #[s, x], argTypes := #[t, t] })
    (B : Nat) (e : TypeId) (size bytes : Nat) (z : Value) (ht : P.underlying t = some (.slice e)) (hinfo : (P.info? e).map (fun i => (i.zero, i.size, i.bytes)) = some (some z, size, bytes))
    (hz : z.cells.size = size) (hsz : 0 < size) (hby : 0 < bytes)
    (v : Value) (n : Nat) (xs : List Value) (hs : a.eval s = v) (hown : W.ownsRow B e size v n xs) (g : Nat) (hx : a.eval x = .slice (some ⟨g, 0, none⟩) 1 1) (hg : g = W.heap.size) (hcs : cs.size = size) (h1 : ∀ u ∈ cs.toList, u.oneCell' = true)
    (hb : (n + 1) * bytes ≤ 140737488355328) (hB : B ≤ W.heap.size)
    (h : ∀ v' w', w'.ownsRow B e size v' (n + 1) (xs ++ cs.toList) → W.grownBy w' v.ownBlock → v' ≠ .slice none 0 0 → wpList P ops Q rest (a.put o.dst v') w') : wpList P ops Q (o :: rest) a (W.alloc (.cells cs et)) := by
  subst hg
  exact wp_append1 W cs et hgd s x t ho B e size bytes z ht hinfo hz hsz hby v n xs hs hown hx hcs h1 hb hB h

set_option maxRecDepth 100000 in
set_option maxHeartbeats 4000000 in
theorem run_step (F : List Fn) (time : Int) (m : Nat) (hOk : ∀ i, i < F.length → okF F i = true) (hFp : ∀ f ∈ F, parts f.body ≤ 1000000)
    (hprev : ∀ m', m = m' + 1 → ∀ e, RunOk F time m' e) (e : Ex) : RunOk F time m e := by
  induction e using Ex.ind with | h o n s l ih => ?_
  by_cases ho : o = 21
  · subst ho; exact run_if F time m hOk n s l ih
  intro c p R P t vF vR vP cs w ht hR hP hsR hsP hpb hle hF hRr hPr hr
  obtain ⟨A, cap, b, off, rfl, hl1, hl2, hl3, hm⟩ := Ex.open hr
  simp only [Ex.args, Ex.op, Ex.n, Ex.s] at *
  have hll : l.length ≤ 1000000 := by rw [parts] at hpb; have := partsL_len l; omega
  have hlp : ∀ x ∈ l, parts x ≤ 1000000 := fun x hx => by rw [parts] at hpb; have := partsL_mem l x hx; omega
  obtain ⟨ts, hts, htt⟩ : ∃ ts, tys (F.take m) c p l = some ts ∧ tailT (F.take m) c p o n s ts = some t := by
    rw [ty] at ht
    cases hl : tys (F.take m) c p l with
    | none => rw [hl] at ht; cases ht
    | some ts => rw [hl] at ht; exact ⟨ts, rfl, ht⟩
  have hkinds := evs_kinds (call := callN F time m) (time := time) (row := R) (params := P) l hts (fun x hx t' h' => ev_sound time hOk m x h' hR hP hsR hsP)
  have hB : GoodS (bodiesS [] F) := bodiesS_good F [] (fun k hk => by simp at hk)
  have hks : GoodS (countL (bodiesS [] F) l) := countL_good _ hB l
  have hopen : 1 + sumI (countL (bodiesS [] F) l) + (if o = 22 then (bodiesS [] F).getD n.toNat 0 else 0) < 1099511627776 := by
    have hle2 := hle
    rw [countE] at hle2
    have := (stepsOf_open hB hks (fun h => absurd h ho) (fun h => by
      subst h
      have := tail_callW htt
      rw [List.length_take] at this; rw [bodiesS_len]; omega) hle2).2 ho
    omega
  have hbd := goodS_getD hB n.toNat
  have hcl : ∀ x ∈ l, countE (bodiesS [] F) x < 1099511627776 := fun x hx => by
    have := sumI_mem hks (k := countE (bodiesS [] F) x) (by rw [countL_map]; exact List.mem_map_of_mem hx)
    split at hopen <;> omega
  have hcnt : ∀ x ∈ l, 0 ≤ cnt (callN F time m) (cntN F time m) time R P x ∧ cnt (callN F time m) (cntN F time m) time R P x ≤ countE (bodiesS [] F) x := fun x hx => by
    obtain ⟨t', ht'⟩ := tys_mem l hts x hx
    exact cnt_le time hOk m x ht' (hcl x hx)
  have hsum := sumI_le (l := l) hcnt
  rw [← countL_map, ← cnts_map] at hsum
  have hcks : GoodS (cnts (callN F time m) (cntN F time m) time R P l) := fun k hk => by
    rw [cnts_map] at hk
    obtain ⟨x, hx, rfl⟩ := List.mem_map.1 hk
    have := hcnt x hx; have := hcl x hx; omega
  have hcall : o = 22 → ∀ (k : Nat) (hk : k < F.length), n = k → (0 ≤ cntN F time m n (evs (callN F time m) time R P l) ∧ cntN F time m n (evs (callN F time m) time R P l) ≤ (bodiesS [] F).getD n.toNat 0) ∧ ∀ (vF vl : Value) (cs : List Value) (w' : World), Rd w' Any (.sl (F.map Fn.d)) [vF] → Rd w' Any (.sl ((evs (callN F time m) time R P l).map Val.d)) [vl] → Rd w' Any F[k].body.d cs → Calls Try.prog 16 #[vF, .agg cs.toArray, .int .i64 time, .slice none 0 0, vl] w' fun r w'' => r = .returned (cntV (callN F time m n (evs (callN F time m) time R P l)) (cntN F time m n (evs (callN F time m) time R P l))) ∧ Ext w' w'' := by
    intro h22 k hk hn
    have htt2 := htt
    unfold tailT at htt2
    split at htt2
    · cases htt2
    try rw [if_pos h22] at htt2
    obtain ⟨h0, hlt, f, hf, hpar, hres⟩ := callT_some htt2
    obtain ⟨m', rfl⟩ : ∃ m', m = m' + 1 := ⟨m - 1, by omega⟩
    have hkn : n.toNat = k := by omega
    rw [hkn] at hf hlt
    have hfk : F[k] = f := (List.getElem?_eq_some_iff.1 hf).2
    have hb := ty_mono (m := m') (by omega) f.body (okF_body (hOk k hk) hf)
    have hbs := body_steps hOk k hk
    rw [hfk] at hbs
    have hv : callN F time (m' + 1) n (evs (callN F time (m' + 1)) time R P l) = ev (callN F time m') time [] (evs (callN F time (m' + 1)) time R P l) f.body := by
      simp only [callN, hkn, hf]
    have hc : cntN F time (m' + 1) n (evs (callN F time (m' + 1)) time R P l) = cnt (callN F time m') (cntN F time m') time [] (evs (callN F time (m' + 1)) time R P l) f.body := by
      simp only [cntN, hkn, hf]
    rw [hv, hc, ← hfk]
    rw [← hfk] at hb hpar hbs
    have hbl : countE (bodiesS [] F) F[k].body < 1099511627776 := by rw [← hbs]; rw [if_pos h22, hkn] at hopen; have := sumI_nonneg hks; omega
    refine ⟨by rw [hkn, hbs]; exact cnt_le time hOk m' _ hb hbl, fun vF vl cs w' h1 h2 h3 => ?_⟩
    exact hprev m' rfl F[k].body [] F[k].params [] _ _ vF (.slice none 0 0) vl cs w' hb rfl (by rw [hkinds.1, hpar]) (by simp) hkinds.2 (hFp _ (List.getElem_mem hk)) hbl h1 (Rd.nil none (by omega)) h2 h3
  have hstep : ∀ k (hk : k < l.length) (vF' : Value) cs' w', vF' = vF → Rd w' Any (.sl (F.map Fn.d)) [vF] → Rd w' Any (.sl (R.map Val.d)) [vR] → Rd w' Any (.sl (P.map Val.d)) [vP] → Rd w' Any l[k].d cs' → Calls Try.prog 16 #[vF', .agg cs'.toArray, .int .i64 time, vR, vP] w' fun r w'' => r = .returned (cntV (ev (callN F time m) time R P l[k]) (cnt (callN F time m) (cntN F time m) time R P l[k])) ∧ Ext w' w'' := by
    intro k hk vF' cs' w' hvf h1 h2 h3 h4
    subst hvf
    obtain ⟨t', ht'⟩ := tys_mem l hts l[k] (List.getElem_mem hk)
    exact ih l[k] (List.getElem_mem hk) c p R P t' _ vR vP cs' w' ht' hR hP hsR hsP (hlp _ (List.getElem_mem hk)) (hcl _ (List.getElem_mem hk)) h1 h2 h3 h4
  have happ : o ≠ 3 → o ≠ 4 → o ≠ 5 → o ≠ 22 → ∀ (vl : Value) (w' : World), Rd w' Any (.sl ((evs (callN F time m) time R P l).map Val.d)) [vl] → Calls Try.prog 44 #[.agg #[.int .i64 o, .int .i64 n, .string s, .slice A l.length cap], vl] w' fun r w'' => r = .returned (opV (callN F time m) time R P o n s (evs (callN F time m) time R P l)).v ∧ Ext w' w'' :=
    fun h3 h4 h5 h22 vl w' h => apply_any (callN F time m) time R P _ hkinds.1 hkinds.2 htt h3 h4 h5 ho h22 A l.length cap vl w' h
  have hcol : (o = 3 → ∃ k : Nat, n = k ∧ k < R.length) ∧ (o = 4 → ∃ k : Nat, n = k ∧ k < P.length) ∧ (o = 22 → ∃ k : Nat, n = k ∧ k < F.length) := by
    refine ⟨fun h => ?_, fun h => ?_, fun h => ?_⟩
    · subst h
      unfold tailT at htt
      split at htt
      · cases htt
      try rw [if_neg (by decide)] at htt
      split at htt
      · have hq := pick_sound hR hsR (show pickT c n = some t by simpa [leafT] using htt)
        exact ⟨n.toNat, by omega, hq.2.1⟩
      · unfold operT at htt; simp at htt
    · subst h
      unfold tailT at htt
      split at htt
      · cases htt
      try rw [if_neg (by decide)] at htt
      split at htt
      · have hq := pick_sound hP hsP (show pickT p n = some t by simpa [leafT] using htt)
        exact ⟨n.toNat, by omega, hq.2.1⟩
      · unfold operT at htt; simp at htt
    · subst h
      have := tail_callW htt
      rw [List.length_take] at this
      exact ⟨n.toNat, by omega, by omega⟩
  have hE := Lib.hid (show ev (callN F time m) time R P (.mk o n s l) = opV (callN F time m) time R P o n s (evs (callN F time m) time R P l) by rw [ev, if_neg ho])
  have hC := Lib.hid (show cnt (callN F time m) (cntN F time m) time R P (.mk o n s l) = 1 + sumI (cnts (callN F time m) (cntN F time m) time R P l) + (if o = 22 then cntN F time m n (evs (callN F time m) time R P l) else 0) by rw [cnt, cntOf, if_neg ho])
  have hcl2 : (cnts (callN F time m) (cntN F time m) time R P l).length = l.length := by rw [cnts_map, List.length_map]
  have hcg : ∀ k (h : k < l.length), (cnts (callN F time m) (cntN F time m) time R P l)[k]'(by rw [hcl2]; exact h) = cnt (callN F time m) (cntN F time m) time R P l[k] := by
    intro k h
    have := cnts_map (callN F time m) (cntN F time m) time R P l
    simp only [this, List.getElem_map]
  have hS0 : 0 ≤ sumI (cnts (callN F time m) (cntN F time m) time R P l) ∧ 1 + sumI (cnts (callN F time m) (cntN F time m) time R P l) ≤ 1099511627776 := by
    split at hopen <;> omega
  have hS22 : o = 22 → 1 + sumI (cnts (callN F time m) (cntN F time m) time R P l) + (bodiesS [] F).getD n.toNat 0 ≤ 1099511627776 := fun h => by rw [if_pos h] at hopen; omega
  have hcg2 : ∀ k (h : k < l.length), 1 + sumI ((cnts (callN F time m) (cntN F time m) time R P l).take k) + cnt (callN F time m) (cntN F time m) time R P l[k] = 1 + sumI ((cnts (callN F time m) (cntN F time m) time R P l).take (k + 1)) := by
    intro k h
    rw [sumI_take (by rw [hcl2]; exact h), hcg k h]; omega
  have hcg3 : ∀ k, 0 ≤ sumI ((cnts (callN F time m) (cntN F time m) time R P l).take k) ∧ 1 + sumI ((cnts (callN F time m) (cntN F time m) time R P l).take k) ≤ 1099511627776 := by
    intro k
    have := sumI_take_le hcks k
    omega
  have hcg4 : (cnts (callN F time m) (cntN F time m) time R P l).take l.length = cnts (callN F time m) (cntN F time m) time R P l := List.take_of_length_le (by omega)
  generalize cnts (callN F time m) (cntN F time m) time R P l = KS at *
  obtain ⟨AF, capF, bF, offF, rfl, F1, F2, F3, F4⟩ := Rd.sl_open hF
  simp only [List.length_map] at *
  have hF' := Lib.hid hF; have hR' := Lib.hid hRr; have hP' := Lib.hid hPr; have hl3' := Lib.hid hl3; have hm' := Lib.hid hm
  have F3' := Lib.hid F3; have F4' := Lib.hid F4
  have hcall' := Lib.hid hcall; have hstep' := Lib.hid hstep; have happ' := Lib.hid happ; have hcol' := Lib.hid hcol; have ho' := Lib.hid ho
  have hcg2' := Lib.hid hcg2; have hcg3' := Lib.hid hcg3; have hcg4' := Lib.hid hcg4; have hS22' := Lib.hid hS22; have hcnt' := Lib.hid hcnt; have hcl' := Lib.hid hcl; have hS0' := Lib.hid hS0
  have hob : (o == 21) = false := by simp [ho]
  clear hF hRr hPr hr hl3 hm F3 F4 hcall hstep htt hkinds ih hprev hlp hts ht hpb hsR hsP hR hP hOk hFp ho happ hcol hcg hcg2 hcg3 hcg4 hS0 hS22 hcl2 hsum hcks hB hks hopen hbd hcl hcnt hle
  go_enter Try.func16, Try.ntmps16
  go_wp2_with fail
  generalize hWe : World.alloc (World.alloc w _) _ = W
  have e0 : W.cell? ⟨w.heap.size, 0, none⟩ = some (.int .i64 o) := by rw [← hWe]; clear hWe; go_simp
  have e1 : W.cell? ⟨w.heap.size, 1, none⟩ = some (.int .i64 n) := by rw [← hWe]; clear hWe; go_simp
  have e2 : W.cell? ⟨w.heap.size, 2, none⟩ = some (.string s) := by rw [← hWe]; clear hWe; go_simp
  have e3 : W.cell? ⟨w.heap.size, 3, none⟩ = some (.slice A l.length cap) := by rw [← hWe]; clear hWe; go_simp
  have f0 : W.cell? ⟨w.heap.size + 1, 0, none⟩ = some (.int .i64 0) := by rw [← hWe]; clear hWe; go_simp
  have f1 : W.cell? ⟨w.heap.size + 1, 1, none⟩ = some (.int .i64 0) := by rw [← hWe]; clear hWe; go_simp
  have f2 : W.cell? ⟨w.heap.size + 1, 2, none⟩ = some (.string ByteArray.empty) := by rw [← hWe]; clear hWe; go_simp; rfl
  have f3 : W.cell? ⟨w.heap.size + 1, 3, none⟩ = some (.int .i64 0) := by rw [← hWe]; clear hWe; go_simp
  have z0 : W.frozen? ⟨w.heap.size + 1, 0, none⟩ = false := by rw [← hWe]; clear hWe; go_simp
  have z1 : W.frozen? ⟨w.heap.size + 1, 1, none⟩ = false := by rw [← hWe]; clear hWe; go_simp
  have z2 : W.frozen? ⟨w.heap.size + 1, 2, none⟩ = false := by rw [← hWe]; clear hWe; go_simp
  have z3 : W.frozen? ⟨w.heap.size + 1, 3, none⟩ = false := by rw [← hWe]; clear hWe; go_simp
  have hlt : w.heap.size + 1 < W.heap.size := by rw [← hWe]; clear hWe; go_simp
  have hwW : Ext w W := by rw [← hWe]; exact (by repeat' first | exact Ext.refl _ | assumption | apply Ext.alloc | apply Ext.drew | apply Ext.drewN | (refine Ext.trans ?_ (by assumption)))
  clear hWe
  go_loopw [14, 15, 16] (fun q x i wr => ∃ (k : Nat) (q0 : Int), k ≤ l.length ∧ i = .int .i64 k ∧ q = .int .i64 q0 ∧ Hid (q0 = 1 + sumI (KS.take k)) ∧ wr.ownsRow W.heap.size 34 3 x k (cellsV (evs (callN F time m) time R P (l.take k))) ∧ Ext W wr) (fun _ _ i _ => l.length - (intOf i).toNat)
  case atStart => exact ⟨0, 1, by omega, rfl, rfl, Lib.hid (by simp [sumI]), World.ownsRow_nil _ _ _ _, Ext.refl _⟩
  case round =>
    obtain ⟨k, q0, hk, rfl, rfl, HQ, hown, hb⟩ := hrel
    have e0 := hb.at e0
    have e1 := hb.at e1
    have e2 := hb.at e2
    have e3 := hb.at e3
    have f0 := hb.at f0
    have f1 := hb.at f1
    have f2 := hb.at f2
    have f3 := hb.at f3
    replace z0 := (hb.frozens _ _ hlt).trans z0
    replace z1 := (hb.frozens _ _ hlt).trans z1
    replace z2 := (hb.frozens _ _ hlt).trans z2
    replace z3 := (hb.frozens _ _ hlt).trans z3
    have hw : Ext w wr := hwW.trans hb
    have hq : 1 ≤ q0 ∧ q0 ≤ 1099511627776 := by have := hcg3'.out k; rw [HQ.out]; omega
    by_cases hk2 : k < l.length
    · obtain ⟨rfl, hSb⟩ := hl3'.out (by omega)
      obtain ⟨A1, cap1, b1, off1, c0, c1, c2, c3, hr', -⟩ := Ex.at (hm'.out.ext (fun _ => hSb) hw) hk2
      have hr2 := Lib.hid hr'
      have hnext := Lib.hid (cells_next (call := callN F time m) (time := time) (R := R) (P := P) hk2)
      have hst := hstep'.out k hk2
      have hcb : 0 ≤ cnt (callN F time m) (cntN F time m) time R P l[k] ∧ cnt (callN F time m) (cntN F time m) time R P l[k] ≤ 1099511627776 := by
        have := hcnt'.out _ (List.getElem_mem hk2); have := hcl'.out _ (List.getElem_mem hk2); omega
      have hqn := Lib.hid (show q0 + cnt (callN F time m) (cntN F time m) time R P l[k] = 1 + sumI (KS.take (k + 1)) by rw [HQ.out]; exact hcg2'.out k hk2)
      clear hr' hSb HQ
      generalize ev (callN F time m) time R P l[k] = X at hst hnext
      generalize cnt (callN F time m) (cntN F time m) time R P l[k] = NX at hst hcb hqn
      obtain ⟨kx, nx, sx⟩ := X
      simp only [cntV] at hst hnext
      have hst' := Lib.hid hst; clear hst
      go_wp2_with fail
      refine (hst'.out _ _ _ rfl (hF'.out.ext (by repeat' first | exact Ext.refl _ | assumption | apply Ext.alloc | apply Ext.drew | apply Ext.drewN | (refine Ext.trans ?_ (by assumption)))) (hR'.out.ext (by repeat' first | exact Ext.refl _ | assumption | apply Ext.alloc | apply Ext.drew | apply Ext.drewN | (refine Ext.trans ?_ (by assumption)))) (hP'.out.ext (by repeat' first | exact Ext.refl _ | assumption | apply Ext.alloc | apply Ext.drew | apply Ext.drewN | (refine Ext.trans ?_ (by assumption)))) (hr2.out.ext (by repeat' first | exact Ext.refl _ | assumption | apply Ext.alloc | apply Ext.drew | apply Ext.drewN | (refine Ext.trans ?_ (by assumption))))).mono ?_
      rintro r w1 ⟨rfl, he⟩
      have hown0 := own_ext hown he
      have hsz : W.heap.size ≤ w1.heap.size := (hb.trans he).size
      have hne := own_neW hown0
      go_wp2_with (at_builtin; (refine wp_append1g _ _ _ rfl _ _ _ rfl W.heap.size 34 3 32 _ Try.underlying26 infoVal rfl (by decide) (by decide) _ _ _ rfl (own_ext hown0 ((Ext.refl _).alloc _)) _ rfl (by go_simp) rfl (by intro u hu; simp at hu; rcases hu with rfl | rfl | rfl <;> rfl) (by omega) (by go_simp; omega) ?_; intro v' w2 hown2 hg2 hn2; have g3 : w2.cell? ⟨w1.heap.size, 3, none⟩ = some (.int .i64 NX) := grown_cellW hg2 (by go_simp) hne))
      go_roundw
      case rel => exact ⟨k + 1, q0 + NX, by omega, by go_num, rfl, hqn, by rw [hnext.out]; simpa using hown2, (hb.trans (he.alloc _)).grown (own_ext hown0 ((Ext.refl _).alloc _)) (Nat.le_refl _) hg2⟩
      case measure => simp [intOf]; omega
    · have hkl : k = l.length := by omega
      subst hkl
      have HQ2 : q0 = 1 + sumI KS := by rw [HQ.out, hcg4'.out]
      clear HQ
      rw [List.take_length] at hown
      have hRl := own_vals (l := evs (callN F time m) time R P l) (by rw [show (evs (callN F time m) time R P l).length = l.length by rw [evs_map, List.length_map]]; exact hown)
      have hRl' := Lib.hid hRl
      clear hRl hown
      by_cases h3 : o = 3
      · subst h3
        obtain ⟨j, rfl, hj⟩ := hcol'.out.1 rfl
        obtain ⟨A9, cap9, b9, off9, rfl, g1, g2, g3, g4⟩ := Rd.sl_open (hR'.out.ext hw)
        simp only [List.length_map] at *
        obtain ⟨rfl, -⟩ := g3 (by omega)
        obtain ⟨c0, c1, c2, -⟩ := Val.at g4 hj
        have hv : opV (callN F time m) time R P 3 j s (evs (callN F time m) time R P l) = R[j] := by
          show R.getD (j : Int).toNat zeroV = _
          rw [Int.toNat_natCast, List.getD_eq_getElem?_getD, List.getElem?_eq_getElem hj]; rfl
        have hX0 : cntV (ev (callN F time m) time R P (.mk 3 j s l)) (cnt (callN F time m) (cntN F time m) time R P (.mk 3 j s l)) = cntV R[j] q0 := by rw [hE.out, hC.out, hv, HQ2]; simp
        clear hv g3 g4 hE hC HQ2
        generalize R[j] = X at *
        obtain ⟨kx, nx, sx⟩ := X
        have hX := Lib.hid hX0; clear hX0
        simp only at c0 c1 c2
        go_wp2_with fail
        exact bodyPost_ret (v := .agg #[.int .i64 kx, .int .i64 nx, .string sx, .int .i64 q0]) (by simp [results, Try.results16, go_sem, f0, f1, f2, f3]; done) rfl ⟨by rw [hX.out]; rfl, ext_four hw _ (by omega) _ _ _ _⟩
      by_cases h4 : o = 4
      · subst h4
        obtain ⟨j, rfl, hj⟩ := hcol'.out.2.1 rfl
        obtain ⟨A9, cap9, b9, off9, rfl, g1, g2, g3, g4⟩ := Rd.sl_open (hP'.out.ext hw)
        simp only [List.length_map] at *
        obtain ⟨rfl, -⟩ := g3 (by omega)
        obtain ⟨c0, c1, c2, -⟩ := Val.at g4 hj
        have hv : opV (callN F time m) time R P 4 j s (evs (callN F time m) time R P l) = P[j] := by
          show P.getD (j : Int).toNat zeroV = _
          rw [Int.toNat_natCast, List.getD_eq_getElem?_getD, List.getElem?_eq_getElem hj]; rfl
        have hX0 : cntV (ev (callN F time m) time R P (.mk 4 j s l)) (cnt (callN F time m) (cntN F time m) time R P (.mk 4 j s l)) = cntV P[j] q0 := by rw [hE.out, hC.out, hv, HQ2]; simp
        clear hv g3 g4 hE hC HQ2
        generalize P[j] = X at *
        obtain ⟨kx, nx, sx⟩ := X
        have hX := Lib.hid hX0; clear hX0
        simp only at c0 c1 c2
        go_wp2_with fail
        exact bodyPost_ret (v := .agg #[.int .i64 kx, .int .i64 nx, .string sx, .int .i64 q0]) (by simp [results, Try.results16, go_sem, f0, f1, f2, f3]; done) rfl ⟨by rw [hX.out]; rfl, ext_four hw _ (by omega) _ _ _ _⟩
      by_cases h5 : o = 5
      · subst h5
        have hX := Lib.hid (show cntV (ev (callN F time m) time R P (.mk 5 n s l)) (cnt (callN F time m) (cntN F time m) time R P (.mk 5 n s l)) = cntV (numV time) q0 by rw [hE.out, hC.out, HQ2]; simp [opV])
        clear hE hC HQ2
        go_wp2_with fail
        exact bodyPost_ret (v := .agg #[.int .i64 0, .int .i64 time, .string ByteArray.empty, .int .i64 q0]) (by simp [results, Try.results16, go_sem, f0, f1, f2, f3]; rfl) rfl ⟨by rw [hX.out]; rfl, ext_four hw _ (by omega) _ _ _ _⟩
      have b3 : (o == 3) = false := by simp [h3]
      have b4 : (o == 4) = false := by simp [h4]
      have b5 : (o == 5) = false := by simp [h5]
      by_cases h22 : o = 22
      · subst h22
        obtain ⟨j, rfl, hj⟩ := hcol'.out.2.2 rfl
        obtain ⟨hcc, hrun⟩ := hcall'.out rfl j hj rfl
        have hS := hS22'.out rfl
        have hX0 : cntV (ev (callN F time m) time R P (.mk 22 j s l)) (cnt (callN F time m) (cntN F time m) time R P (.mk 22 j s l)) = cntV (callN F time m j (evs (callN F time m) time R P l)) (q0 + cntN F time m j (evs (callN F time m) time R P l)) := by
          rw [hE.out, hC.out, if_pos rfl, HQ2]; simp [opV]
        have hwr : 0 ≤ cntN F time m j (evs (callN F time m) time R P l) ∧ q0 + cntN F time m j (evs (callN F time m) time R P l) ≤ 1099511627776 := by rw [HQ2]; omega
        clear hE hC HQ2 hcc hS
        generalize callN F time m j (evs (callN F time m) time R P l) = X at *
        generalize cntN F time m j (evs (callN F time m) time R P l) = NX at *
        obtain ⟨kx, nx, sx⟩ := X
        simp only [cntV] at hrun
        have hX := Lib.hid hX0; have hrun' := Lib.hid hrun
        clear hX0 hrun
        obtain ⟨rfl, hSF⟩ := F3'.out (by omega)
        obtain ⟨A1, cap1, b1, off1, A2, cap2, b2, off2, c0, c1, c2, c3, c4, c5, c6, -, -, -, -, -, r1, r2, r3, r4⟩ := Fn.at (F4'.out.ext (fun _ => hSF) hw) hj
        have hb' := Lib.hid (Ex.mk_rd r1 r2 r3 r4)
        clear r3 r4 hSF
        go_wp2_with fail
        refine (hrun'.out _ _ _ _ (hF'.out.ext hw) hRl'.out hb'.out).mono ?_
        rintro r w1 ⟨rfl, he⟩
        have hlt1 : w.heap.size + 1 < wr.heap.size := World.block_lt_of_cell? wr _ f0
        have f0 := he.at f0
        have f1 := he.at f1
        have f2 := he.at f2
        have f3 := he.at f3
        replace z0 := (he.frozens _ _ hlt1).trans z0
        replace z1 := (he.frozens _ _ hlt1).trans z1
        replace z2 := (he.frozens _ _ hlt1).trans z2
        replace z3 := (he.frozens _ _ hlt1).trans z3
        have hw1 : Ext w w1 := hw.trans he
        have hlt2 : w.heap.size + 1 < w1.heap.size := World.block_lt_of_cell? w1 _ f0
        clear he c0 c1 c2 c3 c4 c5 c6 e0 e1 e2 e3
        go_wp2_with fail
        exact bodyPost_ret (v := .agg #[.int .i64 kx, .int .i64 nx, .string sx, .int .i64 (q0 + NX)]) (by simp [results, Try.results16, go_sem, f0, f1, f2, f3, hlt2, Nat.ne_of_lt hlt2]; done) rfl ⟨by rw [hX.out]; rfl, (ext_four hw1 _ (by omega) _ _ _ _).alloc _⟩
      · have b22 : (o == 22) = false := by simp [h22]
        have hap := happ'.out h3 h4 h5 h22
        have hX0 : cntV (ev (callN F time m) time R P (.mk o n s l)) (cnt (callN F time m) (cntN F time m) time R P (.mk o n s l)) = cntV (opV (callN F time m) time R P o n s (evs (callN F time m) time R P l)) q0 := by
          rw [hE.out, hC.out, if_neg h22, HQ2]; simp
        clear hE hC HQ2 h3 h4 h5 h22
        generalize opV (callN F time m) time R P o n s (evs (callN F time m) time R P l) = X at *
        obtain ⟨kx, nx, sx⟩ := X
        simp only [Val.v] at hap
        have hX := Lib.hid hX0; have hap' := Lib.hid hap
        clear hX0 hap
        go_wp2_with fail
        refine (hap'.out _ _ hRl'.out).mono ?_
        rintro r w1 ⟨rfl, he⟩
        have hlt1 : w.heap.size + 1 < wr.heap.size := World.block_lt_of_cell? wr _ f0
        have f0 := he.at f0
        have f1 := he.at f1
        have f2 := he.at f2
        have f3 := he.at f3
        replace z0 := (he.frozens _ _ hlt1).trans z0
        replace z1 := (he.frozens _ _ hlt1).trans z1
        replace z2 := (he.frozens _ _ hlt1).trans z2
        replace z3 := (he.frozens _ _ hlt1).trans z3
        have hw1 : Ext w w1 := hw.trans he
        clear he
        go_wp2_with fail
        exact bodyPost_ret (v := .agg #[.int .i64 kx, .int .i64 nx, .string sx, .int .i64 q0]) (by simp [results, Try.results16, go_sem, f0, f1, f2, f3]; done) rfl ⟨by rw [hX.out]; rfl, ext_four hw1 _ (by omega) _ _ _ _⟩

theorem run_any (F : List Fn) (time : Int) (hOk : ∀ i, i < F.length → okF F i = true) (hFp : ∀ f ∈ F, parts f.body ≤ 1000000) : ∀ (m : Nat) (e : Ex), RunOk F time m e := by
  intro m
  induction m with
  | zero => exact fun e => run_step F time 0 hOk hFp (fun m' h => by omega) e
  | succ m ih => exact fun e => run_step F time (m + 1) hOk hFp (fun m' h => by obtain rfl : m' = m := by omega
                                                                                exact ih) e
end Go.Proofs.Ytmhelkhmgbbfhaa
