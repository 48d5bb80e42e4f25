/- Walk: errataref16.Run: a choice. -/
import Derived.Test.YtmhelkhmgbbfhaaRunP16
import Derived.Test.YtmhelkhmgbbfhaaApply16
import Derived.Test.YtmhelkhmgbbfhaaEvalIf16
namespace Go.Proofs.Ytmhelkhmgbbfhaa
open Go.RowKit Go.Lib

def cntV (v : Val) (n : Int) : Value := .agg #[.int .i64 v.k, .int .i64 v.n, .string v.s, .int .i64 n]
/-- what Run is shown to do with an expression -/
def RunOk (F : List Fn) (time : Int) (m : Nat) (e : Ex) : Prop :=
  ∀ (c p : List Int) (R P : List Val) (t : Int) (vF vR vP : Value) (cs : List Value) (w : World), ty (F.take m) c p e = some t → R.map Val.k = c → P.map Val.k = p → (∀ v ∈ R, soundV v) → (∀ v ∈ P, soundV v) → parts e ≤ 1000000 → countE (bodiesS [] F) e < 1099511627776 →
    Rd w Any (.sl (F.map Fn.d)) [vF] → Rd w Any (.sl (R.map Val.d)) [vR] → Rd w Any (.sl (P.map Val.d)) [vP] → Rd w Any e.d cs →
    Calls Try.prog 16 #[vF, .agg cs.toArray, .int .i64 time, vR, vP] w fun r w' => r = .returned (cntV (ev (callN F time m) time R P e) (cnt (callN F time m) (cntN F time m) time R P e)) ∧ Ext w w'

theorem ext_four {w w1 : World} (hw : Ext w w1) (B : Nat) (hB : w.heap.size ≤ B) (x y z u : Value) : Ext w ((((w1.setCell ⟨B, 0, none⟩ x).setCell ⟨B, 1, none⟩ y).setCell ⟨B, 2, none⟩ z).setCell ⟨B, 3, none⟩ u) :=
  (((hw.setCell hB x).setCell hB y).setCell hB z).setCell hB u

set_option maxRecDepth 10000 in
set_option maxHeartbeats 1000000 in
theorem run_if (F : List Fn) (time : Int) (m : Nat) (hOk : ∀ i, i < F.length → okF F i = true) (n : Int) (s : ByteArray) (l : List Ex) (ih : ∀ x ∈ l, RunOk F time m x) : RunOk F time m (.mk 21 n s l) := by
  intro c p R P t vF vR vP cs w ht hR hP hsR hsP hpb hle hF hRr hPr hr
  obtain ⟨A, cap, b, off, rfl, hl1, hl2, hl3, hm⟩ := Ex.open hr
  simp only [Ex.args, Ex.op, Ex.n, Ex.s] at *
  obtain ⟨x, y, z, rfl, tx, tyy, tz⟩ := if_args ht
  obtain ⟨rfl, -⟩ := hl3 (by simp)
  obtain ⟨A1, cap1, b1, off1, c0, c1, c2, c3, hr1, -⟩ := Ex.at hm (k := 0) (by simp)
  obtain ⟨A2, cap2, b2, off2, d0, d1, d2, d3, hr2, -⟩ := Ex.at hm (k := 1) (by simp)
  obtain ⟨A3, cap3, b3, off3, q0, q1, q2, q3, hr3, -⟩ := Ex.at hm (k := 2) (by simp)
  simp only [List.getElem_cons_zero, List.getElem_cons_succ, List.length_cons, List.length_nil, Nat.zero_mul, Nat.one_mul, Nat.add_zero, Nat.reduceAdd, Nat.reduceMul, Nat.zero_add] at *
  have hB : GoodS (bodiesS [] F) := bodiesS_good F [] (fun k hk => by simp at hk)
  have hle2 : countE (bodiesS [] F) x < 1099511627776 ∧ countE (bodiesS [] F) y < 1099511627776 ∧ countE (bodiesS [] F) z < 1099511627776 ∧ 1 + countE (bodiesS [] F) x + max (countE (bodiesS [] F) y) (countE (bodiesS [] F) z) < 1099511627776 := by
    have hx := countE_bd _ hB x; have hy := countE_bd _ hB y; have hz := countE_bd _ hB z
    rw [countE, countL_map] at hle
    rw [List.map_cons, List.map_cons, List.map_cons, List.map_nil, stepsOf_if _ _ n (a := countE (bodiesS [] F) x) (b := countE (bodiesS [] F) y) (c := countE (bodiesS [] F) z) rfl] at hle
    unfold capS at hle; omega
  have bx := cnt_le (row := R) (params := P) time hOk m x tx hle2.1
  have bY := cnt_le (row := R) (params := P) time hOk m y tyy hle2.2.1
  have bz := cnt_le (row := R) (params := P) time hOk m z tz hle2.2.2.1
  have hx := fun cs w (h1 : Rd w Any (.sl (F.map Fn.d)) [vF]) h2 h3 h4 => ih x (by simp) c p R P _ vF vR vP cs w tx hR hP hsR hsP (by rw [parts] at hpb; have := partsL_mem [x, y, z] x (by simp); omega) hle2.1 h1 h2 h3 h4
  have hy := fun cs w (h1 : Rd w Any (.sl (F.map Fn.d)) [vF]) h2 h3 h4 => ih y (by simp) c p R P _ vF vR vP cs w tyy hR hP hsR hsP (by rw [parts] at hpb; have := partsL_mem [x, y, z] y (by simp); omega) hle2.2.1 h1 h2 h3 h4
  have hz := fun cs w (h1 : Rd w Any (.sl (F.map Fn.d)) [vF]) h2 h3 h4 => ih z (by simp) c p R P _ vF vR vP cs w tz hR hP hsR hsP (by rw [parts] at hpb; have := partsL_mem [x, y, z] z (by simp); omega) hle2.2.2.1 h1 h2 h3 h4
  have H := Lib.hid (show ev (callN F time m) time R P (.mk 21 n s [x, y, z]) = if (ev (callN F time m) time R P x).n = 1 then ev (callN F time m) time R P y else ev (callN F time m) time R P z by
    rw [ev, if_pos rfl]; simp only [evs]; rfl)
  have HC := Lib.hid (show cnt (callN F time m) (cntN F time m) time R P (.mk 21 n s [x, y, z]) = 1 + cnt (callN F time m) (cntN F time m) time R P x + if (ev (callN F time m) time R P x).n = 1 then cnt (callN F time m) (cntN F time m) time R P y else cnt (callN F time m) (cntN F time m) time R P z by
    rw [cnt, cntOf, if_pos rfl]; simp only [evs, cnts]; rfl)
  have hbb : 0 ≤ countE (bodiesS [] F) x ∧ 0 ≤ countE (bodiesS [] F) y ∧ 0 ≤ countE (bodiesS [] F) z := ⟨(countE_bd _ hB x).1, (countE_bd _ hB y).1, (countE_bd _ hB z).1⟩
  generalize ev (callN F time m) time R P x = X at *
  generalize ev (callN F time m) time R P y = Y at *
  generalize ev (callN F time m) time R P z = Z at *
  generalize cnt (callN F time m) (cntN F time m) time R P x = NX at *
  generalize cnt (callN F time m) (cntN F time m) time R P y = NY at *
  generalize cnt (callN F time m) (cntN F time m) time R P z = NZ at *
  have w1 : 0 ≤ NX ∧ NX ≤ 1099511627776 := by omega
  have w2 : 0 ≤ NY ∧ NY ≤ 1099511627776 := by omega
  have w3 : 0 ≤ NZ ∧ NZ ≤ 1099511627776 := by omega
  obtain ⟨kx, nx, sx⟩ := X
  obtain ⟨ky, ny, sy⟩ := Y
  obtain ⟨kz, nz, sz⟩ := Z
  simp only [cntV] at hx hy hz
  have hF' := Lib.hid hF; have hR' := Lib.hid hRr; have hP' := Lib.hid hPr
  have hr1' := Lib.hid hr1; have hr2' := Lib.hid hr2; have hr3' := Lib.hid hr3
  have hx' := Lib.hid hx; have hy' := Lib.hid hy; have hz' := Lib.hid hz
  clear hF hRr hPr hr hr1 hr2 hr3 hx hy hz hm hl3 ih hpb ht hsR hsP hR hP tx tyy tz hOk bx bY bz hle hle2 hB hbb
  have c0' : ∀ o1 o2, ((w.alloc o1).alloc o2).cell? _ = some _ := fun o1 o2 => (((Ext.refl w).alloc o1).alloc o2).at c0
  have c1' : ∀ o1 o2, ((w.alloc o1).alloc o2).cell? _ = some _ := fun o1 o2 => (((Ext.refl w).alloc o1).alloc o2).at c1
  have c2' : ∀ o1 o2, ((w.alloc o1).alloc o2).cell? _ = some _ := fun o1 o2 => (((Ext.refl w).alloc o1).alloc o2).at c2
  have c3' : ∀ o1 o2, ((w.alloc o1).alloc o2).cell? _ = some _ := fun o1 o2 => (((Ext.refl w).alloc o1).alloc o2).at c3
  go_enter Try.func16, Try.ntmps16
  go_wp2_with fail
  generalize hWe : World.alloc (World.alloc w _) _ = W
  have e0 : W.cell? ⟨w.heap.size, 0, none⟩ = some (.int .i64 21) := by rw [← hWe]; clear hWe; go_simp
  have e3 : W.cell? ⟨w.heap.size, 3, none⟩ = some (.slice (some ⟨b, off, none⟩) 3 cap) := by rw [← hWe]; clear hWe; go_simp
  have f0 : W.cell? ⟨w.heap.size + 1, 0, none⟩ = some (.int .i64 0) := by rw [← hWe]; clear hWe; go_simp
  have f1 : W.cell? ⟨w.heap.size + 1, 1, none⟩ = some (.int .i64 0) := by rw [← hWe]; clear hWe; go_simp
  have f2 : W.cell? ⟨w.heap.size + 1, 2, none⟩ = some (.string ByteArray.empty) := by rw [← hWe]; clear hWe; go_simp; rfl
  have f3 : W.cell? ⟨w.heap.size + 1, 3, none⟩ = some (.int .i64 0) := by rw [← hWe]; clear hWe; go_simp
  have z0 : W.frozen? ⟨w.heap.size + 1, 0, none⟩ = false := by rw [← hWe]; clear hWe; go_simp
  have z1 : W.frozen? ⟨w.heap.size + 1, 1, none⟩ = false := by rw [← hWe]; clear hWe; go_simp
  have z2 : W.frozen? ⟨w.heap.size + 1, 2, none⟩ = false := by rw [← hWe]; clear hWe; go_simp
  have z3 : W.frozen? ⟨w.heap.size + 1, 3, none⟩ = false := by rw [← hWe]; clear hWe; go_simp
  have hlt : w.heap.size + 1 < W.heap.size := by rw [← hWe]; clear hWe; go_simp
  have hw : Ext w W := by rw [← hWe]; exact (by repeat' first | exact Ext.refl _ | assumption | apply Ext.alloc | apply Ext.drew | apply Ext.drewN | (refine Ext.trans ?_ (by assumption)))
  clear hWe c0' c1' c2' c3'
  have d0 := hw.at d0
  have d1 := hw.at d1
  have d2 := hw.at d2
  have d3 := hw.at d3
  have q0 := hw.at q0
  have q1 := hw.at q1
  have q2 := hw.at q2
  have q3 := hw.at q3
  refine (hx'.out _ _ (hF'.out.ext hw) (hR'.out.ext hw) (hP'.out.ext hw) (hr1'.out.ext hw)).mono ?_
  rintro r w1 ⟨rfl, he⟩
  have e0 := he.at e0
  have e3 := he.at e3
  have f0 := he.at f0
  have f1 := he.at f1
  have f2 := he.at f2
  have f3 := he.at f3
  have d0 := he.at d0
  have d1 := he.at d1
  have d2 := he.at d2
  have d3 := he.at d3
  have q0 := he.at q0
  have q1 := he.at q1
  have q2 := he.at q2
  have q3 := he.at q3
  replace z0 := (he.frozens _ _ hlt).trans z0
  replace z1 := (he.frozens _ _ hlt).trans z1
  replace z2 := (he.frozens _ _ hlt).trans z2
  replace z3 := (he.frozens _ _ hlt).trans z3
  replace hw : Ext w w1 := hw.trans he
  replace hlt : w.heap.size + 1 < w1.heap.size := World.block_lt_of_cell? w1 _ f0
  clear he
  by_cases hX : nx = 1
  · subst hX
    have H2 := Lib.hid (H.out.trans (if_pos rfl))
    have HC2 := Lib.hid (HC.out.trans (congrArg _ (if_pos rfl)))
    clear H HC
    have d0' : ∀ o1, (w1.alloc o1).cell? _ = some _ := fun o1 => ((Ext.refl w1).alloc o1).at d0
    have d1' : ∀ o1, (w1.alloc o1).cell? _ = some _ := fun o1 => ((Ext.refl w1).alloc o1).at d1
    have d2' : ∀ o1, (w1.alloc o1).cell? _ = some _ := fun o1 => ((Ext.refl w1).alloc o1).at d2
    have d3' : ∀ o1, (w1.alloc o1).cell? _ = some _ := fun o1 => ((Ext.refl w1).alloc o1).at d3
    have e0' : ∀ o1, (w1.alloc o1).cell? _ = some _ := fun o1 => ((Ext.refl w1).alloc o1).at e0
    have e3' : ∀ o1, (w1.alloc o1).cell? _ = some _ := fun o1 => ((Ext.refl w1).alloc o1).at e3
    go_wp2_with fail
    refine (hy'.out _ _ (hF'.out.ext (hw.alloc _)) (hR'.out.ext (hw.alloc _)) (hP'.out.ext (hw.alloc _)) (hr2'.out.ext (hw.alloc _))).mono ?_
    rintro r w2 ⟨rfl, he⟩
    have g0 : w2.cell? ⟨w1.heap.size, 0, none⟩ = some (.int .i64 kx) := he.at (by go_simp)
    have g1 : w2.cell? ⟨w1.heap.size, 1, none⟩ = some (.int .i64 1) := he.at (by go_simp)
    have g2 : w2.cell? ⟨w1.heap.size, 2, none⟩ = some (.string sx) := he.at (by go_simp)
    have g3 : w2.cell? ⟨w1.heap.size, 3, none⟩ = some (.int .i64 NX) := he.at (by go_simp)
    have he2 : Ext w1 w2 := ((Ext.refl _).alloc _).trans he
    clear he e0' e3' d0' d1' d2' d3'
    have f0 := he2.at f0
    have f1 := he2.at f1
    have f2 := he2.at f2
    have f3 := he2.at f3
    replace z0 := (he2.frozens _ _ hlt).trans z0
    replace z1 := (he2.frozens _ _ hlt).trans z1
    replace z2 := (he2.frozens _ _ hlt).trans z2
    replace z3 := (he2.frozens _ _ hlt).trans z3
    replace hw : Ext w w2 := hw.trans he2
    have g0' : ∀ o1, (w2.alloc o1).cell? _ = some _ := fun o1 => ((Ext.refl w2).alloc o1).at g0
    have g3' : ∀ o1, (w2.alloc o1).cell? _ = some _ := fun o1 => ((Ext.refl w2).alloc o1).at g3
    replace f0 : ∀ o1, (w2.alloc o1).cell? _ = some _ := fun o1 => ((Ext.refl w2).alloc o1).at f0
    replace f1 : ∀ o1, (w2.alloc o1).cell? _ = some _ := fun o1 => ((Ext.refl w2).alloc o1).at f1
    replace f2 : ∀ o1, (w2.alloc o1).cell? _ = some _ := fun o1 => ((Ext.refl w2).alloc o1).at f2
    replace f3 : ∀ o1, (w2.alloc o1).cell? _ = some _ := fun o1 => ((Ext.refl w2).alloc o1).at f3
    replace z0 : ∀ o1, (w2.alloc o1).frozen? _ = false := fun o1 => (((Ext.refl w2).alloc o1).frozens _ _ (Nat.lt_of_lt_of_le hlt he2.size)).trans z0
    replace z1 : ∀ o1, (w2.alloc o1).frozen? _ = false := fun o1 => (((Ext.refl w2).alloc o1).frozens _ _ (Nat.lt_of_lt_of_le hlt he2.size)).trans z1
    replace z2 : ∀ o1, (w2.alloc o1).frozen? _ = false := fun o1 => (((Ext.refl w2).alloc o1).frozens _ _ (Nat.lt_of_lt_of_le hlt he2.size)).trans z2
    replace z3 : ∀ o1, (w2.alloc o1).frozen? _ = false := fun o1 => (((Ext.refl w2).alloc o1).frozens _ _ (Nat.lt_of_lt_of_le hlt he2.size)).trans z3
    clear g0 g1 g2 g3 d0 d1 d2 d3 q0 q1 q2 q3 e0 e3 he2
    go_wp2_with fail
    exact bodyPost_ret (v := .agg #[.int .i64 ky, .int .i64 ny, .string sy, .int .i64 (1 + NX + NY)]) (by simp [results, Try.results16, go_sem, f0, f1, f2, f3]; done) rfl ⟨by rw [H2.out, HC2.out]; rfl, ext_four (hw.alloc _) _ (by omega) _ _ _ _⟩
  · have hXb : (nx == 1) = false := by simp [hX]
    have H2 := Lib.hid (H.out.trans (if_neg hX))
    have HC2 := Lib.hid (HC.out.trans (congrArg _ (if_neg hX)))
    clear H HC hX
    have d0' : ∀ o1, (w1.alloc o1).cell? _ = some _ := fun o1 => ((Ext.refl w1).alloc o1).at q0
    have d1' : ∀ o1, (w1.alloc o1).cell? _ = some _ := fun o1 => ((Ext.refl w1).alloc o1).at q1
    have d2' : ∀ o1, (w1.alloc o1).cell? _ = some _ := fun o1 => ((Ext.refl w1).alloc o1).at q2
    have d3' : ∀ o1, (w1.alloc o1).cell? _ = some _ := fun o1 => ((Ext.refl w1).alloc o1).at q3
    have e0' : ∀ o1, (w1.alloc o1).cell? _ = some _ := fun o1 => ((Ext.refl w1).alloc o1).at e0
    have e3' : ∀ o1, (w1.alloc o1).cell? _ = some _ := fun o1 => ((Ext.refl w1).alloc o1).at e3
    go_wp2_with fail
    refine (hz'.out _ _ (hF'.out.ext (hw.alloc _)) (hR'.out.ext (hw.alloc _)) (hP'.out.ext (hw.alloc _)) (hr3'.out.ext (hw.alloc _))).mono ?_
    rintro r w2 ⟨rfl, he⟩
    have g0 : w2.cell? ⟨w1.heap.size, 0, none⟩ = some (.int .i64 kx) := he.at (by go_simp)
    have g1 : w2.cell? ⟨w1.heap.size, 1, none⟩ = some (.int .i64 nx) := he.at (by go_simp)
    have g2 : w2.cell? ⟨w1.heap.size, 2, none⟩ = some (.string sx) := he.at (by go_simp)
    have g3 : w2.cell? ⟨w1.heap.size, 3, none⟩ = some (.int .i64 NX) := he.at (by go_simp)
    have he2 : Ext w1 w2 := ((Ext.refl _).alloc _).trans he
    clear he e0' e3' d0' d1' d2' d3'
    have f0 := he2.at f0
    have f1 := he2.at f1
    have f2 := he2.at f2
    have f3 := he2.at f3
    replace z0 := (he2.frozens _ _ hlt).trans z0
    replace z1 := (he2.frozens _ _ hlt).trans z1
    replace z2 := (he2.frozens _ _ hlt).trans z2
    replace z3 := (he2.frozens _ _ hlt).trans z3
    replace hw : Ext w w2 := hw.trans he2
    have g0' : ∀ o1, (w2.alloc o1).cell? _ = some _ := fun o1 => ((Ext.refl w2).alloc o1).at g0
    have g3' : ∀ o1, (w2.alloc o1).cell? _ = some _ := fun o1 => ((Ext.refl w2).alloc o1).at g3
    replace f0 : ∀ o1, (w2.alloc o1).cell? _ = some _ := fun o1 => ((Ext.refl w2).alloc o1).at f0
    replace f1 : ∀ o1, (w2.alloc o1).cell? _ = some _ := fun o1 => ((Ext.refl w2).alloc o1).at f1
    replace f2 : ∀ o1, (w2.alloc o1).cell? _ = some _ := fun o1 => ((Ext.refl w2).alloc o1).at f2
    replace f3 : ∀ o1, (w2.alloc o1).cell? _ = some _ := fun o1 => ((Ext.refl w2).alloc o1).at f3
    replace z0 : ∀ o1, (w2.alloc o1).frozen? _ = false := fun o1 => (((Ext.refl w2).alloc o1).frozens _ _ (Nat.lt_of_lt_of_le hlt he2.size)).trans z0
    replace z1 : ∀ o1, (w2.alloc o1).frozen? _ = false := fun o1 => (((Ext.refl w2).alloc o1).frozens _ _ (Nat.lt_of_lt_of_le hlt he2.size)).trans z1
    replace z2 : ∀ o1, (w2.alloc o1).frozen? _ = false := fun o1 => (((Ext.refl w2).alloc o1).frozens _ _ (Nat.lt_of_lt_of_le hlt he2.size)).trans z2
    replace z3 : ∀ o1, (w2.alloc o1).frozen? _ = false := fun o1 => (((Ext.refl w2).alloc o1).frozens _ _ (Nat.lt_of_lt_of_le hlt he2.size)).trans z3
    clear g0 g1 g2 g3 d0 d1 d2 d3 q0 q1 q2 q3 e0 e3 he2
    go_wp2_with fail
    exact bodyPost_ret (v := .agg #[.int .i64 kz, .int .i64 nz, .string sz, .int .i64 (1 + NX + NZ)]) (by simp [results, Try.results16, go_sem, f0, f1, f2, f3]; done) rfl ⟨by rw [H2.out, HC2.out]; rfl, ext_four (hw.alloc _) _ (by omega) _ _ _ _⟩
end Go.Proofs.Ytmhelkhmgbbfhaa
