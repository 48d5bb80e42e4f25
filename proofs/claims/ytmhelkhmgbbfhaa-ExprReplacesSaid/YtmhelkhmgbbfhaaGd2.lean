/- Walks: Replace. -/
import Derived.Test.YtmhelkhmgbbfhaaGa2
import Derived.Test.YtmhelkhmgbbfhaaGa11
import Derived.Test.YtmhelkhmgbbfhaaGa22
import Derived.Test.YtmhelkhmgbbfhaaGd1
set_option linter.unusedSimpArgs false
set_option linter.unusedVariables false
namespace Go.Proofs.Ytmhelkhmgbbfhaa
open Go.RowKit Go.Lib

set_option maxRecDepth 10000 in
set_option maxHeartbeats 2000000 in
theorem repl_any (L : List Ex) (hLp : ∀ x ∈ L, parts x ≤ 400000) (e : Ex) (S : Nat → Prop) (cs : List Value) (vL : Value) (w : World) (hr : Rd w S e.d cs) (hL : Rd w S (.sl (L.map Ex.d)) [vL]) (hpb : parts e ≤ 400000) :
    Calls Try.prog 19 #[.agg cs.toArray, vL] w fun r w' => RetX w w' (replP e L) r ∧ Ext w w' := by
  have hlev : ∀ x, putP 3 L e = some x → levels x ≤ 1000000 := fun x hx => by
    have := putP_levels (K := 400000) (by omega) (fun y hy => by have := hLp y hy; have := levels_le y; omega) e hx
    have := levels_le e
    omega
  have hput := fun w' h1 h2 => put_any 3 L (fun x hx => by have := hLp x hx; omega) e S cs vL w' h1 h2 (by omega)
  obtain ⟨A, cap, b, off, rfl, hl1, hl2, hl3, hm⟩ := Ex.open hr
  obtain ⟨AL, capL, bL, offL, rfl, hL1, hL2, -, -⟩ := Rd.sl_open hL
  simp only [List.length_map] at *
  have hr' := Lib.hid hr; have hL' := Lib.hid hL
  clear hr hl3 hm hL hLp
  cases hp : putP 3 L e with
  | none =>
    have hP := Lib.hid (show replP e L = none by unfold replP; rw [hp])
    rw [hp] at hput
    have hput' := Lib.hid hput
    clear hput hp hlev
    go_enter Try.func19, Try.ntmps19
    go_wp2_with fail
    generalize hWe : World.alloc (World.alloc w _) _ = W
    have hR0 : OutAt W (w.heap.size + 1) 0 0 ByteArray.empty (.slice none 0 0) := by rw [← hWe]; clear hWe; refine ⟨?_, ?_, ?_, ?_, ?_, ?_, ?_, ?_⟩ <;> go_simp <;> rfl
    have hwW : Ext w W := by rw [← hWe]; exact (by repeat' first | exact Ext.refl _ | assumption | apply Ext.alloc | apply Ext.drew | apply Ext.drewN | (refine Ext.trans ?_ (by assumption)))
    clear hWe
    refine (RetX.no (hput'.out _ (hr'.out.ext hwW) (hL'.out.ext hwW))).mono ?_
    rintro r w2 ⟨⟨A2, cap2, rfl⟩, he⟩
    obtain ⟨f0, f1, f2, f3, z0, z1, z2, z3⟩ := hR0.ext he
    have hlt2 := World.block_lt_of_cell? w2 _ f0
    have hw2 : Ext w w2 := hwW.trans he
    clear hR0 he
    have q0 : ∀ o1, (w2.alloc o1).cell? _ = some _ := fun o1 => ((Ext.refl w2).alloc o1).at f0
    have q1 : ∀ o1, (w2.alloc o1).cell? _ = some _ := fun o1 => ((Ext.refl w2).alloc o1).at f1
    have q2 : ∀ o1, (w2.alloc o1).cell? _ = some _ := fun o1 => ((Ext.refl w2).alloc o1).at f2
    have q3 : ∀ o1, (w2.alloc o1).cell? _ = some _ := fun o1 => ((Ext.refl w2).alloc o1).at f3
    have y0 : ∀ o1, (w2.alloc o1).frozen? _ = false := fun o1 => (((Ext.refl w2).alloc o1).frozens _ _ hlt2).trans z0
    have y1 : ∀ o1, (w2.alloc o1).frozen? _ = false := fun o1 => (((Ext.refl w2).alloc o1).frozens _ _ hlt2).trans z1
    have y2 : ∀ o1, (w2.alloc o1).frozen? _ = false := fun o1 => (((Ext.refl w2).alloc o1).frozens _ _ hlt2).trans z2
    have y3 : ∀ o1, (w2.alloc o1).frozen? _ = false := fun o1 => (((Ext.refl w2).alloc o1).frozens _ _ hlt2).trans z3
    go_wp2_with fail
    refine bodyPost_ret (v := .tuple #[.agg #[.int .i64 0, .int .i64 0, .string ByteArray.empty, .slice none 0 0], .bool false]) (by simp [results, Try.results19, go_sem, f0, f1, f2, f3, q0, q1, q2, q3, hlt2, Nat.ne_of_lt hlt2]; rfl) rfl ⟨?_, ((((hw2.setCell (by dsimp only; omega) _).setCell (by dsimp only; omega) _).setCell (by dsimp only; omega) _).setCell (by dsimp only; omega) _).alloc _⟩
    rw [hP.out]
    exact ⟨none, 0, rfl, rd_leaf _ _ _ _ _⟩
  | some x =>
    rw [hp] at hput
    have hput' := Lib.hid hput
    have hlx := hlev x hp
    have hlvx := fun S cs w h => levels_any x S cs w h hlx
    have hlvx' := Lib.hid hlvx
    have hP0 := Lib.hid (show replP e L = if 12 < levels x then none else some x by unfold replP; rw [hp])
    have hl0 := levels_le x
    clear hput hp hlev hlvx
    generalize hLV : levels x = LV at *
    clear hLV
    go_enter Try.func19, Try.ntmps19
    go_wp2_with fail
    generalize hWe : World.alloc (World.alloc w _) _ = W
    have hR0 : OutAt W (w.heap.size + 1) 0 0 ByteArray.empty (.slice none 0 0) := by rw [← hWe]; clear hWe; refine ⟨?_, ?_, ?_, ?_, ?_, ?_, ?_, ?_⟩ <;> go_simp <;> rfl
    have hWs : W.heap.size = w.heap.size + 2 := by rw [← hWe]; clear hWe; go_simp
    have hwW : Ext w W := by rw [← hWe]; exact (by repeat' first | exact Ext.refl _ | assumption | apply Ext.alloc | apply Ext.drew | apply Ext.drewN | (refine Ext.trans ?_ (by assumption)))
    clear hWe
    refine (RetX.yes (hput'.out _ (hr'.out.ext hwW) (hL'.out.ext hwW))).mono ?_
    rintro r w2 ⟨⟨A2, cap2, rfl, hc⟩, he⟩
    have hc' := Lib.hid hc
    have hR2 := Lib.hid (hR0.ext he)
    have hw2 : Ext w w2 := hwW.trans he
    clear hR0 he hc
    go_wp2_with fail
    refine (hlvx'.out _ _ _ (hc'.out.up ((Ext.refl w2).alloc _))).mono ?_
    rintro r w3 ⟨rfl, he3⟩
    have he4 : Ext w2 w3 := ((Ext.refl w2).alloc _).trans he3
    have g0 : w3.cell? ⟨w2.heap.size, 0, none⟩ = some (.int .i64 x.op) := he3.at (by go_simp)
    have g1 : w3.cell? ⟨w2.heap.size, 1, none⟩ = some (.int .i64 x.n) := he3.at (by go_simp)
    have g2 : w3.cell? ⟨w2.heap.size, 2, none⟩ = some (.string x.s) := he3.at (by go_simp)
    have g3 : w3.cell? ⟨w2.heap.size, 3, none⟩ = some (.slice A2 x.args.length cap2) := he3.at (by go_simp)
    have hc3 := Lib.hid (hc'.out.up he4)
    obtain ⟨f0, f1, f2, f3, z0, z1, z2, z3⟩ := hR2.out.ext he4
    have hw3 : Ext w w3 := hw2.trans he4
    clear he3 he4
    by_cases h12 : 12 < LV
    · have hP := Lib.hid (hP0.out.trans (if_pos h12))
      go_wp2_with fail
      refine bodyPost_ret (v := .tuple #[.agg #[.int .i64 0, .int .i64 0, .string ByteArray.empty, .slice none 0 0], .bool false]) (by simp [results, Try.results19, go_sem, f0, f1, f2, f3]; rfl) rfl ⟨?_, (((hw3.setCell (by dsimp only; omega) _).setCell (by dsimp only; omega) _).setCell (by dsimp only; omega) _).setCell (by dsimp only; omega) _⟩
      rw [hP.out]
      exact ⟨none, 0, rfl, rd_leaf _ _ _ _ _⟩
    · have hP := Lib.hid (hP0.out.trans (if_neg h12))
      have h12' : LV ≤ 12 := by omega
      go_wp2_with fail
      refine bodyPost_ret (v := .tuple #[.agg #[.int .i64 x.op, .int .i64 x.n, .string x.s, .slice A2 x.args.length cap2], .bool true]) (by simp [results, Try.results19, go_sem, f0, f1, f2, f3]; done) rfl ⟨?_, (((hw3.setCell (by dsimp only; omega) _).setCell (by dsimp only; omega) _).setCell (by dsimp only; omega) _).setCell (by dsimp only; omega) _⟩
      rw [hP.out]
      exact ⟨A2, cap2, rfl, ((((hc3.out.set (by dsimp only; omega) _).set (by dsimp only; omega) _).set (by dsimp only; omega) _).set (by dsimp only; omega) _).low (by omega)⟩

set_option maxRecDepth 10000 in
set_option maxHeartbeats 2000000 in
theorem rrepl_any (L : List Ex) (hLp : ∀ x ∈ L, parts x ≤ 400000) (e : Ex) (S : Nat → Prop) (cs : List Value) (vL : Value) (w : World) (hr : Rd w S e.d cs) (hL : Rd w S (.sl (L.map Ex.d)) [vL]) (hpb : parts e ≤ 400000) :
    Calls Try.prog 20 #[.agg cs.toArray, vL] w fun r w' => RetX w w' (replP e L) r ∧ Ext w w' := by
  have hlev : ∀ x, putP 3 L e = some x → levels x ≤ 1000000 := fun x hx => by
    have := putP_levels (K := 400000) (by omega) (fun y hy => by have := hLp y hy; have := levels_le y; omega) e hx
    have := levels_le e
    omega
  have hput := fun w' h1 h2 => rput_any 3 L (fun x hx => by have := hLp x hx; omega) e S cs vL w' h1 h2 (by omega)
  obtain ⟨A, cap, b, off, rfl, hl1, hl2, hl3, hm⟩ := Ex.open hr
  obtain ⟨AL, capL, bL, offL, rfl, hL1, hL2, -, -⟩ := Rd.sl_open hL
  simp only [List.length_map] at *
  have hr' := Lib.hid hr; have hL' := Lib.hid hL
  clear hr hl3 hm hL hLp
  cases hp : putP 3 L e with
  | none =>
    have hP := Lib.hid (show replP e L = none by unfold replP; rw [hp])
    rw [hp] at hput
    have hput' := Lib.hid hput
    clear hput hp hlev
    go_enter Try.func20, Try.ntmps20
    go_wp2_with fail
    generalize hWe : World.alloc (World.alloc w _) _ = W
    have hR0 : OutAt W (w.heap.size + 1) 0 0 ByteArray.empty (.slice none 0 0) := by rw [← hWe]; clear hWe; refine ⟨?_, ?_, ?_, ?_, ?_, ?_, ?_, ?_⟩ <;> go_simp <;> rfl
    have hwW : Ext w W := by rw [← hWe]; exact (by repeat' first | exact Ext.refl _ | assumption | apply Ext.alloc | apply Ext.drew | apply Ext.drewN | (refine Ext.trans ?_ (by assumption)))
    clear hWe
    refine (RetX.no (hput'.out _ (hr'.out.ext hwW) (hL'.out.ext hwW))).mono ?_
    rintro r w2 ⟨⟨A2, cap2, rfl⟩, he⟩
    obtain ⟨f0, f1, f2, f3, z0, z1, z2, z3⟩ := hR0.ext he
    have hlt2 := World.block_lt_of_cell? w2 _ f0
    have hw2 : Ext w w2 := hwW.trans he
    clear hR0 he
    have q0 : ∀ o1, (w2.alloc o1).cell? _ = some _ := fun o1 => ((Ext.refl w2).alloc o1).at f0
    have q1 : ∀ o1, (w2.alloc o1).cell? _ = some _ := fun o1 => ((Ext.refl w2).alloc o1).at f1
    have q2 : ∀ o1, (w2.alloc o1).cell? _ = some _ := fun o1 => ((Ext.refl w2).alloc o1).at f2
    have q3 : ∀ o1, (w2.alloc o1).cell? _ = some _ := fun o1 => ((Ext.refl w2).alloc o1).at f3
    have y0 : ∀ o1, (w2.alloc o1).frozen? _ = false := fun o1 => (((Ext.refl w2).alloc o1).frozens _ _ hlt2).trans z0
    have y1 : ∀ o1, (w2.alloc o1).frozen? _ = false := fun o1 => (((Ext.refl w2).alloc o1).frozens _ _ hlt2).trans z1
    have y2 : ∀ o1, (w2.alloc o1).frozen? _ = false := fun o1 => (((Ext.refl w2).alloc o1).frozens _ _ hlt2).trans z2
    have y3 : ∀ o1, (w2.alloc o1).frozen? _ = false := fun o1 => (((Ext.refl w2).alloc o1).frozens _ _ hlt2).trans z3
    go_wp2_with fail
    refine bodyPost_ret (v := .tuple #[.agg #[.int .i64 0, .int .i64 0, .string ByteArray.empty, .slice none 0 0], .bool false]) (by simp [results, Try.results20, go_sem, f0, f1, f2, f3, q0, q1, q2, q3, hlt2, Nat.ne_of_lt hlt2]; rfl) rfl ⟨?_, ((((hw2.setCell (by dsimp only; omega) _).setCell (by dsimp only; omega) _).setCell (by dsimp only; omega) _).setCell (by dsimp only; omega) _).alloc _⟩
    rw [hP.out]
    exact ⟨none, 0, rfl, rd_leaf _ _ _ _ _⟩
  | some x =>
    rw [hp] at hput
    have hput' := Lib.hid hput
    have hlx := hlev x hp
    have hlvx := fun S cs w h => rlevels_any x S cs w h hlx
    have hlvx' := Lib.hid hlvx
    have hP0 := Lib.hid (show replP e L = if 12 < levels x then none else some x by unfold replP; rw [hp])
    have hl0 := levels_le x
    clear hput hp hlev hlvx
    generalize hLV : levels x = LV at *
    clear hLV
    go_enter Try.func20, Try.ntmps20
    go_wp2_with fail
    generalize hWe : World.alloc (World.alloc w _) _ = W
    have hR0 : OutAt W (w.heap.size + 1) 0 0 ByteArray.empty (.slice none 0 0) := by rw [← hWe]; clear hWe; refine ⟨?_, ?_, ?_, ?_, ?_, ?_, ?_, ?_⟩ <;> go_simp <;> rfl
    have hWs : W.heap.size = w.heap.size + 2 := by rw [← hWe]; clear hWe; go_simp
    have hwW : Ext w W := by rw [← hWe]; exact (by repeat' first | exact Ext.refl _ | assumption | apply Ext.alloc | apply Ext.drew | apply Ext.drewN | (refine Ext.trans ?_ (by assumption)))
    clear hWe
    refine (RetX.yes (hput'.out _ (hr'.out.ext hwW) (hL'.out.ext hwW))).mono ?_
    rintro r w2 ⟨⟨A2, cap2, rfl, hc⟩, he⟩
    have hc' := Lib.hid hc
    have hR2 := Lib.hid (hR0.ext he)
    have hw2 : Ext w w2 := hwW.trans he
    clear hR0 he hc
    go_wp2_with fail
    refine (hlvx'.out _ _ _ (hc'.out.up ((Ext.refl w2).alloc _))).mono ?_
    rintro r w3 ⟨rfl, he3⟩
    have he4 : Ext w2 w3 := ((Ext.refl w2).alloc _).trans he3
    have g0 : w3.cell? ⟨w2.heap.size, 0, none⟩ = some (.int .i64 x.op) := he3.at (by go_simp)
    have g1 : w3.cell? ⟨w2.heap.size, 1, none⟩ = some (.int .i64 x.n) := he3.at (by go_simp)
    have g2 : w3.cell? ⟨w2.heap.size, 2, none⟩ = some (.string x.s) := he3.at (by go_simp)
    have g3 : w3.cell? ⟨w2.heap.size, 3, none⟩ = some (.slice A2 x.args.length cap2) := he3.at (by go_simp)
    have hc3 := Lib.hid (hc'.out.up he4)
    obtain ⟨f0, f1, f2, f3, z0, z1, z2, z3⟩ := hR2.out.ext he4
    have hw3 : Ext w w3 := hw2.trans he4
    clear he3 he4
    by_cases h12 : 12 < LV
    · have hP := Lib.hid (hP0.out.trans (if_pos h12))
      go_wp2_with fail
      refine bodyPost_ret (v := .tuple #[.agg #[.int .i64 0, .int .i64 0, .string ByteArray.empty, .slice none 0 0], .bool false]) (by simp [results, Try.results20, go_sem, f0, f1, f2, f3]; rfl) rfl ⟨?_, (((hw3.setCell (by dsimp only; omega) _).setCell (by dsimp only; omega) _).setCell (by dsimp only; omega) _).setCell (by dsimp only; omega) _⟩
      rw [hP.out]
      exact ⟨none, 0, rfl, rd_leaf _ _ _ _ _⟩
    · have hP := Lib.hid (hP0.out.trans (if_neg h12))
      have h12' : LV ≤ 12 := by omega
      go_wp2_with fail
      refine bodyPost_ret (v := .tuple #[.agg #[.int .i64 x.op, .int .i64 x.n, .string x.s, .slice A2 x.args.length cap2], .bool true]) (by simp [results, Try.results20, go_sem, f0, f1, f2, f3]; done) rfl ⟨?_, (((hw3.setCell (by dsimp only; omega) _).setCell (by dsimp only; omega) _).setCell (by dsimp only; omega) _).setCell (by dsimp only; omega) _⟩
      rw [hP.out]
      exact ⟨A2, cap2, rfl, ((((hc3.out.set (by dsimp only; omega) _).set (by dsimp only; omega) _).set (by dsimp only; omega) _).set (by dsimp only; omega) _).low (by omega)⟩

end Go.Proofs.Ytmhelkhmgbbfhaa

/- Contracts of put, as abstract ones. -/
namespace Go.Proofs.Ytmhelkhmgbbfhaa
open Go.RowKit Go.Lib

/-- an expression, or none -/
@[simp] def exr (o : Option Ex) : AV := .tup [(o.getD zeroE).av, .bool o.isSome]
theorem retX_rr {X : St} {w' : World} {o : Option Ex} {r : Ending} (h : RetX X.w w' o r) : ∃ v, r = .returned v ∧ RR (X.later w') (exr o) v := by
  obtain ⟨A, cap, rfl, hr⟩ := h
  refine ⟨_, rfl, [_, _], rfl, _, _, rfl, ?_, _, _, rfl, ?_, rfl⟩
  · have := later_rc (X := X) hr
    rw [Ex.d_av, Ex.av_eq, RC] at this
    rw [Ex.av_eq]
    exact ⟨_, rfl, this⟩
  · show RC (X.later w') (.v (.bool o.isSome)) [.bool o.isSome]
    rw [RC]
theorem rput_g (op : Int) (L : List Ex) (hL : ∀ x ∈ L, parts x ≤ 1000000) (e : Ex) (he : parts e ≤ 1000000) : Gives Try.prog 47 [e.av, .int op, .sl (L.map Ex.av)] (exr (putP op L e)) :=
  gives_of fun X vals ha => by
    obtain ⟨v0, _, rfl, h0, v1, _, rfl, h1, v2, _, rfl, h2, h3⟩ := ha
    cases h3
    obtain ⟨cs, rfl, hr⟩ := arg_ex h0
    cases arg_v h1
    exact (rput_any op L hL e Any cs v2 X.w hr (arg_exs h2) he).mono fun r w' ⟨h1, h2⟩ => ⟨h2, retX_rr h1⟩
theorem put_g (op : Int) (L : List Ex) (hL : ∀ x ∈ L, parts x ≤ 1000000) (e : Ex) (he : parts e ≤ 1000000) : Gives Try.prog 45 [e.av, .int op, .sl (L.map Ex.av)] (exr (putP op L e)) :=
  gives_of fun X vals ha => by
    obtain ⟨v0, _, rfl, h0, v1, _, rfl, h1, v2, _, rfl, h2, h3⟩ := ha
    cases h3
    obtain ⟨cs, rfl, hr⟩ := arg_ex h0
    cases arg_v h1
    exact (put_any op L hL e Any cs v2 X.w hr (arg_exs h2) he).mono fun r w' ⟨h1, h2⟩ => ⟨h2, retX_rr h1⟩
end Go.Proofs.Ytmhelkhmgbbfhaa

/- Inlining, of the reference. -/
namespace Go.Proofs.Ytmhelkhmgbbfhaa
open Go.RowKit Go.Lib

@[simp] theorem zeroE_av : zeroE.av = .agg [.int 0, .int 0, .str ByteArray.empty, .sl []] := by unfold zeroE; rw [Ex.av_mk]; rfl
set_option maxHeartbeats 1000000 in
theorem expand_g (bs : List (Option Ex)) (hbs : ∀ b ∈ bs, parts (b.getD zeroE) ≤ 1000) (Bd : List Ex) (gd : List Bool) (hBd : Bd = bs.map fun b => b.getD zeroE) (hgd : gd = bs.map Option.isSome) (e : Ex) : parts e ≤ 900 →
    Gives Try.prog 49 [e.av, .sl (Bd.map Ex.av), .sl (gd.map AV.bool)] (exr (inlE bs e)) := by
  induction e using Ex.ind with | h o n s l ih => ?_
  intro hpb
  have hl : l.length ≤ 900 := by rw [parts] at hpb; have := partsL_len l; omega
  obtain ⟨R, hR⟩ : ∃ R, R = inlE bs (.mk o n s l) := ⟨_, rfl⟩
  rw [← hR]
  refine gives_of_awp Try.func49 Try.ntmps49 rfl rfl (by decide) rfl (by intro n; simp) fun σ n0 hcl hft => ?_
  repeat' (first | ((with_reducible refine aguard (fun hg => ?_) (fun hg => ?_)) <;> (try simp only [hg]) <;> (try simp only [beq_iff_eq, beq_eq_false_iff_ne, ne_eq, decide_eq_true_eq, decide_eq_false_iff_not, bne_iff_ne, bne_eq_false_iff_eq] at hg) <;> (try (first | simp only [eq_false hg, if_true, if_false] | simp only [eq_true hg, if_true, if_false])) <;> (try simp (disch := first | omega | simp) [wrap_i64, -aseqC, -anyC])) | (with_reducible refine aseq_step ?_; try simp (disch := first | omega | simp) [wrap_i64, -aseqC, -anyC]) | (with_reducible refine any_step' ?_; try simp (disch := first | omega | simp) [wrap_i64, -aseqC, -anyC]) | (with_reducible refine aseq_end ?_; try simp (disch := first | omega | simp) [wrap_i64, -aseqC, -anyC]) | (with_reducible refine any_end' ?_; try simp (disch := first | omega | simp) [wrap_i64, -aseqC, -anyC]) | ((first | with_reducible refine sideG ?_ ?_ | with_reducible refine sideG2 ?_ ?_ | with_reducible refine sideS ?_ ?_ | with_reducible refine sideS2 ?_ ?_ | with_reducible refine sideS3 ?_ ?_ | with_reducible refine sideA ?_ ?_ | with_reducible refine sideA2 ?_ ?_ | with_reducible refine sideA3 ?_ ?_); (first | omega | assumption | (simp; done))) | (refine awp_seq_k fun K hK => ?_) | (refine awp_regionC ?_) | (refine awp_anyA true (by kernel_rfl) (by kernel_rfl) ?_) | (refine awp_anyA false (by kernel_rfl) (by kernel_rfl) ?_) | (refine hK _ ?_; clear hK; clear K) | (clear hK; clear K; refine hK _ ?_; clear hK; clear K) | (clear hK; clear K; clear hK; clear K; refine hK _ ?_; clear hK; clear K) | refine awp_block ?_ | (refine awp_condC ?_; simp (disch := first | omega | simp) [wrap_i64, -aseqC, -anyC]) | (refine awp_exit ?_; try simp (disch := first | omega | simp) [wrap_i64, -aseqC, -anyC]) | (refine awp_skip ?_; try simp (disch := first | omega | simp) [wrap_i64, -aseqC, -anyC]) | (refine awp_ret ?_; try simp (disch := first | omega | simp) [wrap_i64, -aseqC, -anyC]))
  refine awp_adoptC 2 3 25 4 (by rfl) (by rfl) ?_
  refine awp_loopC hcl (fun ys : List Ex => [(1, .sl (Bd.map Ex.av)), (2, .sl (gd.map AV.bool)), (3, .ptr n0 0), (6, .ptr (n0 + 1) 0), (8, .ptr (n0 + 2) 0), (9, .int ys.length)]) (fun ys => [.cells [.int o, .int n, .str s, .sl (l.map Ex.av)] 25, .cells [.int 0, .int 0, .str ByteArray.empty, .v (.slice none 0 0)] 25, .cells [.int o, .int n, .str s, .gs (n0 + 3) (ys.map Ex.av)] 25, .tail ys.length 25 4])
    (fun ys => ∃ k, k ≤ l.length ∧ ys.length = k ∧ inlL bs (l.take k) = some ys) (fun ys => l.length - ys.length) [] (by exact ⟨0, by omega, rfl, by rw [List.take_zero, inlL]⟩) (by simp) fun ys hys => ?_
  obtain ⟨k, hk, rfl, hys⟩ := hys
  by_cases hlt : ys.length < l.length
  · have hpk : parts l[ys.length] ≤ 900 := by rw [parts] at hpb; have := partsL_mem l l[ys.length] (List.getElem_mem hlt); omega
    have hc := ih _ (List.getElem_mem hlt) hpk
    cases hx : inlE bs l[ys.length] with
    | none =>
      obtain rfl : R = none := by rw [hR, inlE, inlL_none l (List.getElem_mem hlt) hx]
      rw [hx] at hc
      repeat' (first | ((with_reducible refine aguard (fun hg => ?_) (fun hg => ?_)) <;> (try simp only [hg]) <;> (try simp only [beq_iff_eq, beq_eq_false_iff_ne, ne_eq, decide_eq_true_eq, decide_eq_false_iff_not, bne_iff_ne, bne_eq_false_iff_eq] at hg) <;> (try (first | simp only [eq_false hg, if_true, if_false] | simp only [eq_true hg, if_true, if_false])) <;> (try simp (disch := first | omega | simp) [wrap_i64, -aseqC, -anyC, hlt])) | (with_reducible refine aseq_step ?_; try simp (disch := first | omega | simp) [wrap_i64, -aseqC, -anyC, hlt]) | (with_reducible refine any_step' ?_; try simp (disch := first | omega | simp) [wrap_i64, -aseqC, -anyC, hlt]) | (with_reducible refine aseq_end ?_; try simp (disch := first | omega | simp) [wrap_i64, -aseqC, -anyC, hlt]) | (with_reducible refine any_end' ?_; try simp (disch := first | omega | simp) [wrap_i64, -aseqC, -anyC, hlt]) | ((first | with_reducible refine sideG ?_ ?_ | with_reducible refine sideG2 ?_ ?_ | with_reducible refine sideS ?_ ?_ | with_reducible refine sideS2 ?_ ?_ | with_reducible refine sideS3 ?_ ?_ | with_reducible refine sideA ?_ ?_ | with_reducible refine sideA2 ?_ ?_ | with_reducible refine sideA3 ?_ ?_); (first | omega | assumption | (simp; done))) | (refine acall (hc) ?_; try simp (disch := first | omega | simp) [wrap_i64, -aseqC, -anyC, hlt]) | (refine agives (hc) ?_; try simp (disch := first | omega | simp) [wrap_i64, -aseqC, -anyC, hlt]) | (refine acallAt (hc) ?_; try simp (disch := first | omega | simp) [wrap_i64, -aseqC, -anyC, hlt]) | (refine awp_seq_k fun K hK => ?_) | (refine awp_regionC ?_) | (refine awp_anyA true (by kernel_rfl) (by kernel_rfl) ?_) | (refine awp_anyA false (by kernel_rfl) (by kernel_rfl) ?_) | (refine hK _ ?_; clear hK; clear K) | (clear hK; clear K; refine hK _ ?_; clear hK; clear K) | (clear hK; clear K; clear hK; clear K; refine hK _ ?_; clear hK; clear K) | refine awp_block ?_ | (refine awp_condC ?_; simp (disch := first | omega | simp) [wrap_i64, -aseqC, -anyC, hlt]) | (refine awp_exit ?_; try simp (disch := first | omega | simp) [wrap_i64, -aseqC, -anyC, hlt]) | (refine awp_skip ?_; try simp (disch := first | omega | simp) [wrap_i64, -aseqC, -anyC, hlt]) | (refine awp_ret ?_; try simp (disch := first | omega | simp) [wrap_i64, -aseqC, -anyC, hlt]))
    | some y =>
      rw [hx] at hc
      have hsz : (ys.length + 1) * 64 ≤ 140737488355328 := by omega
      repeat' (first | ((with_reducible refine aguard (fun hg => ?_) (fun hg => ?_)) <;> (try simp only [hg]) <;> (try simp only [beq_iff_eq, beq_eq_false_iff_ne, ne_eq, decide_eq_true_eq, decide_eq_false_iff_not, bne_iff_ne, bne_eq_false_iff_eq] at hg) <;> (try (first | simp only [eq_false hg, if_true, if_false] | simp only [eq_true hg, if_true, if_false])) <;> (try simp (disch := first | omega | simp) [wrap_i64, -aseqC, -anyC, hlt, hsz])) | (with_reducible refine aseq_step ?_; try simp (disch := first | omega | simp) [wrap_i64, -aseqC, -anyC, hlt, hsz]) | (with_reducible refine any_step' ?_; try simp (disch := first | omega | simp) [wrap_i64, -aseqC, -anyC, hlt, hsz]) | (with_reducible refine aseq_end ?_; try simp (disch := first | omega | simp) [wrap_i64, -aseqC, -anyC, hlt, hsz]) | (with_reducible refine any_end' ?_; try simp (disch := first | omega | simp) [wrap_i64, -aseqC, -anyC, hlt, hsz]) | ((first | with_reducible refine sideG ?_ ?_ | with_reducible refine sideG2 ?_ ?_ | with_reducible refine sideS ?_ ?_ | with_reducible refine sideS2 ?_ ?_ | with_reducible refine sideS3 ?_ ?_ | with_reducible refine sideA ?_ ?_ | with_reducible refine sideA2 ?_ ?_ | with_reducible refine sideA3 ?_ ?_); (first | omega | assumption | (simp; done))) | (refine acall (hc) ?_; try simp (disch := first | omega | simp) [wrap_i64, -aseqC, -anyC, hlt, hsz]) | (refine agives (hc) ?_; try simp (disch := first | omega | simp) [wrap_i64, -aseqC, -anyC, hlt, hsz]) | (refine acallAt (hc) ?_; try simp (disch := first | omega | simp) [wrap_i64, -aseqC, -anyC, hlt, hsz]) | (refine awp_seq_k fun K hK => ?_) | (refine awp_regionC ?_) | (refine awp_anyA true (by kernel_rfl) (by kernel_rfl) ?_) | (refine awp_anyA false (by kernel_rfl) (by kernel_rfl) ?_) | (refine hK _ ?_; clear hK; clear K) | (clear hK; clear K; refine hK _ ?_; clear hK; clear K) | (clear hK; clear K; clear hK; clear K; refine hK _ ?_; clear hK; clear K) | refine awp_block ?_ | (refine awp_condC ?_; simp (disch := first | omega | simp) [wrap_i64, -aseqC, -anyC, hlt, hsz]) | (refine awp_exit ?_; try simp (disch := first | omega | simp) [wrap_i64, -aseqC, -anyC, hlt, hsz]) | (refine awp_skip ?_; try simp (disch := first | omega | simp) [wrap_i64, -aseqC, -anyC, hlt, hsz]) | (refine awp_ret ?_; try simp (disch := first | omega | simp) [wrap_i64, -aseqC, -anyC, hlt, hsz]))
      refine ⟨ys ++ [y], ⟨_, ?_, rfl, ?_⟩, by simp; omega, by simp⟩
      · simp; omega
      rw [List.length_append, List.length_singleton, List.take_succ_eq_append_getElem hlt]
      exact inlL_snoc hx _ hys
  · have hyl : ys.length = l.length := by omega
    rw [hyl, List.take_length] at hys
    have hlen : gd.length = bs.length := by rw [hgd]; simp
    have hlen2 : Bd.length = bs.length := by rw [hBd]; simp
    by_cases ho : o = 22 ∧ 0 ≤ n ∧ n < bs.length
    · obtain ⟨rfl, h0, h1⟩ := ho
      have hn : n.toNat < bs.length := by omega
      have hng : n.toNat < gd.length := by omega
      have hnB : n.toNat < Bd.length := by omega
      have hyp : ∀ y ∈ ys, parts y ≤ 1000 := fun y hy => by
        obtain ⟨e, -, he⟩ := inlL_mem l hys y hy
        exact inlE_parts he
      cases hb : bs[n.toNat] with
      | none =>
        obtain rfl : R = none := by rw [hR, inlE, hys]; dsimp only; rw [if_pos ⟨rfl, h0, h1⟩, List.getD_eq_getElem?_getD, List.getElem?_eq_getElem hn, hb]; rfl
        have hg0 : gd[n.toNat] = false := by subst hgd; simp [hb]
        repeat' (first | ((with_reducible refine aguard (fun hg => ?_) (fun hg => ?_)) <;> (try simp only [hg]) <;> (try simp only [beq_iff_eq, beq_eq_false_iff_ne, ne_eq, decide_eq_true_eq, decide_eq_false_iff_not, bne_iff_ne, bne_eq_false_iff_eq] at hg) <;> (try (first | simp only [eq_false hg, if_true, if_false] | simp only [eq_true hg, if_true, if_false])) <;> (try simp (disch := first | omega | simp) [wrap_i64, -aseqC, -anyC, hyl, h0, h1, hlen, hlen2, hg0])) | (with_reducible refine aseq_step ?_; try simp (disch := first | omega | simp) [wrap_i64, -aseqC, -anyC, hyl, h0, h1, hlen, hlen2, hg0]) | (with_reducible refine any_step' ?_; try simp (disch := first | omega | simp) [wrap_i64, -aseqC, -anyC, hyl, h0, h1, hlen, hlen2, hg0]) | (with_reducible refine aseq_end ?_; try simp (disch := first | omega | simp) [wrap_i64, -aseqC, -anyC, hyl, h0, h1, hlen, hlen2, hg0]) | (with_reducible refine any_end' ?_; try simp (disch := first | omega | simp) [wrap_i64, -aseqC, -anyC, hyl, h0, h1, hlen, hlen2, hg0]) | ((first | with_reducible refine sideG ?_ ?_ | with_reducible refine sideG2 ?_ ?_ | with_reducible refine sideS ?_ ?_ | with_reducible refine sideS2 ?_ ?_ | with_reducible refine sideS3 ?_ ?_ | with_reducible refine sideA ?_ ?_ | with_reducible refine sideA2 ?_ ?_ | with_reducible refine sideA3 ?_ ?_); (first | omega | assumption | (simp; done))) | (refine awp_seq_k fun K hK => ?_) | (refine awp_regionC ?_) | (refine awp_anyA true (by kernel_rfl) (by kernel_rfl) ?_) | (refine awp_anyA false (by kernel_rfl) (by kernel_rfl) ?_) | (refine hK _ ?_; clear hK; clear K) | (clear hK; clear K; refine hK _ ?_; clear hK; clear K) | (clear hK; clear K; clear hK; clear K; refine hK _ ?_; clear hK; clear K) | refine awp_block ?_ | (refine awp_condC ?_; simp (disch := first | omega | simp) [wrap_i64, -aseqC, -anyC, hyl, h0, h1, hlen, hlen2, hg0]) | (refine awp_exit ?_; try simp (disch := first | omega | simp) [wrap_i64, -aseqC, -anyC, hyl, h0, h1, hlen, hlen2, hg0]) | (refine awp_skip ?_; try simp (disch := first | omega | simp) [wrap_i64, -aseqC, -anyC, hyl, h0, h1, hlen, hlen2, hg0]) | (refine awp_ret ?_; try simp (disch := first | omega | simp) [wrap_i64, -aseqC, -anyC, hyl, h0, h1, hlen, hlen2, hg0]))
      | some b =>
        have hRb : R = fitX ((putP 4 ys b).getD zeroE) := by rw [hR, inlE, hys]; dsimp only; rw [if_pos ⟨rfl, h0, h1⟩, List.getD_eq_getElem?_getD, List.getElem?_eq_getElem hn, hb]; rfl
        have hg0 : gd[n.toNat] = true := by subst hgd; simp [hb]
        have hbb : Bd[n.toNat] = b := by subst hBd; simp [hb]
        have hpb2 : parts b ≤ 1000 := hbs (some b) (by rw [← hb]; exact List.getElem_mem hn)
        have hpp : parts ((putP 4 ys b).getD zeroE) ≤ 1000000 := by
          cases hput : putP 4 ys b with
          | none => decide
          | some x => have h2 := putP_parts (K := 1000) (by omega) hyp b hput; have : parts b * 1000 ≤ 1000 * 1000 := Nat.mul_le_mul_right _ hpb2; show parts x ≤ _; omega
        have hcall := rput_g 4 ys (fun x hx => by have := hyp x hx; omega) b (by omega)
        have hrp := rparts_g ((putP 4 ys b).getD zeroE) hpp
        by_cases hbig : 1000 < parts ((putP 4 ys b).getD zeroE)
        · obtain rfl : R = none := by rw [hRb, fitX, if_pos hbig]
          have hbig' : (1000 : Int) < parts ((putP 4 ys b).getD zeroE) := by omega
          repeat' (first | ((with_reducible refine aguard (fun hg => ?_) (fun hg => ?_)) <;> (try simp only [hg]) <;> (try simp only [beq_iff_eq, beq_eq_false_iff_ne, ne_eq, decide_eq_true_eq, decide_eq_false_iff_not, bne_iff_ne, bne_eq_false_iff_eq] at hg) <;> (try (first | simp only [eq_false hg, if_true, if_false] | simp only [eq_true hg, if_true, if_false])) <;> (try simp (disch := first | omega | simp) [wrap_i64, -aseqC, -anyC, hyl, h0, h1, hlen, hlen2, hg0, hbb, hbig'])) | (with_reducible refine aseq_step ?_; try simp (disch := first | omega | simp) [wrap_i64, -aseqC, -anyC, hyl, h0, h1, hlen, hlen2, hg0, hbb, hbig']) | (with_reducible refine any_step' ?_; try simp (disch := first | omega | simp) [wrap_i64, -aseqC, -anyC, hyl, h0, h1, hlen, hlen2, hg0, hbb, hbig']) | (with_reducible refine aseq_end ?_; try simp (disch := first | omega | simp) [wrap_i64, -aseqC, -anyC, hyl, h0, h1, hlen, hlen2, hg0, hbb, hbig']) | (with_reducible refine any_end' ?_; try simp (disch := first | omega | simp) [wrap_i64, -aseqC, -anyC, hyl, h0, h1, hlen, hlen2, hg0, hbb, hbig']) | ((first | with_reducible refine sideG ?_ ?_ | with_reducible refine sideG2 ?_ ?_ | with_reducible refine sideS ?_ ?_ | with_reducible refine sideS2 ?_ ?_ | with_reducible refine sideS3 ?_ ?_ | with_reducible refine sideA ?_ ?_ | with_reducible refine sideA2 ?_ ?_ | with_reducible refine sideA3 ?_ ?_); (first | omega | assumption | (simp; done))) | (refine acall (hcall) ?_; try simp (disch := first | omega | simp) [wrap_i64, -aseqC, -anyC, hyl, h0, h1, hlen, hlen2, hg0, hbb, hbig']) | (refine agives (hcall) ?_; try simp (disch := first | omega | simp) [wrap_i64, -aseqC, -anyC, hyl, h0, h1, hlen, hlen2, hg0, hbb, hbig']) | (refine acallAt (hcall) ?_; try simp (disch := first | omega | simp) [wrap_i64, -aseqC, -anyC, hyl, h0, h1, hlen, hlen2, hg0, hbb, hbig']) | (refine acall (hrp) ?_; try simp (disch := first | omega | simp) [wrap_i64, -aseqC, -anyC, hyl, h0, h1, hlen, hlen2, hg0, hbb, hbig']) | (refine agives (hrp) ?_; try simp (disch := first | omega | simp) [wrap_i64, -aseqC, -anyC, hyl, h0, h1, hlen, hlen2, hg0, hbb, hbig']) | (refine acallAt (hrp) ?_; try simp (disch := first | omega | simp) [wrap_i64, -aseqC, -anyC, hyl, h0, h1, hlen, hlen2, hg0, hbb, hbig']) | (refine awp_seq_k fun K hK => ?_) | (refine awp_regionC ?_) | (refine awp_anyA true (by kernel_rfl) (by kernel_rfl) ?_) | (refine awp_anyA false (by kernel_rfl) (by kernel_rfl) ?_) | (refine hK _ ?_; clear hK; clear K) | (clear hK; clear K; refine hK _ ?_; clear hK; clear K) | (clear hK; clear K; clear hK; clear K; refine hK _ ?_; clear hK; clear K) | refine awp_block ?_ | (refine awp_condC ?_; simp (disch := first | omega | simp) [wrap_i64, -aseqC, -anyC, hyl, h0, h1, hlen, hlen2, hg0, hbb, hbig']) | (refine awp_exit ?_; try simp (disch := first | omega | simp) [wrap_i64, -aseqC, -anyC, hyl, h0, h1, hlen, hlen2, hg0, hbb, hbig']) | (refine awp_skip ?_; try simp (disch := first | omega | simp) [wrap_i64, -aseqC, -anyC, hyl, h0, h1, hlen, hlen2, hg0, hbb, hbig']) | (refine awp_ret ?_; try simp (disch := first | omega | simp) [wrap_i64, -aseqC, -anyC, hyl, h0, h1, hlen, hlen2, hg0, hbb, hbig']))
        · obtain rfl : R = some ((putP 4 ys b).getD zeroE) := by rw [hRb, fitX, if_neg hbig]
          have hbig' : ¬ (1000 : Int) < parts ((putP 4 ys b).getD zeroE) := by omega
          repeat' (first | ((with_reducible refine aguard (fun hg => ?_) (fun hg => ?_)) <;> (try simp only [hg]) <;> (try simp only [beq_iff_eq, beq_eq_false_iff_ne, ne_eq, decide_eq_true_eq, decide_eq_false_iff_not, bne_iff_ne, bne_eq_false_iff_eq] at hg) <;> (try (first | simp only [eq_false hg, if_true, if_false] | simp only [eq_true hg, if_true, if_false])) <;> (try simp (disch := first | omega | simp) [wrap_i64, -aseqC, -anyC, hyl, h0, h1, hlen, hlen2, hg0, hbb, hbig'])) | (with_reducible refine aseq_step ?_; try simp (disch := first | omega | simp) [wrap_i64, -aseqC, -anyC, hyl, h0, h1, hlen, hlen2, hg0, hbb, hbig']) | (with_reducible refine any_step' ?_; try simp (disch := first | omega | simp) [wrap_i64, -aseqC, -anyC, hyl, h0, h1, hlen, hlen2, hg0, hbb, hbig']) | (with_reducible refine aseq_end ?_; try simp (disch := first | omega | simp) [wrap_i64, -aseqC, -anyC, hyl, h0, h1, hlen, hlen2, hg0, hbb, hbig']) | (with_reducible refine any_end' ?_; try simp (disch := first | omega | simp) [wrap_i64, -aseqC, -anyC, hyl, h0, h1, hlen, hlen2, hg0, hbb, hbig']) | ((first | with_reducible refine sideG ?_ ?_ | with_reducible refine sideG2 ?_ ?_ | with_reducible refine sideS ?_ ?_ | with_reducible refine sideS2 ?_ ?_ | with_reducible refine sideS3 ?_ ?_ | with_reducible refine sideA ?_ ?_ | with_reducible refine sideA2 ?_ ?_ | with_reducible refine sideA3 ?_ ?_); (first | omega | assumption | (simp; done))) | (refine acall (hcall) ?_; try simp (disch := first | omega | simp) [wrap_i64, -aseqC, -anyC, hyl, h0, h1, hlen, hlen2, hg0, hbb, hbig']) | (refine agives (hcall) ?_; try simp (disch := first | omega | simp) [wrap_i64, -aseqC, -anyC, hyl, h0, h1, hlen, hlen2, hg0, hbb, hbig']) | (refine acallAt (hcall) ?_; try simp (disch := first | omega | simp) [wrap_i64, -aseqC, -anyC, hyl, h0, h1, hlen, hlen2, hg0, hbb, hbig']) | (refine acall (hrp) ?_; try simp (disch := first | omega | simp) [wrap_i64, -aseqC, -anyC, hyl, h0, h1, hlen, hlen2, hg0, hbb, hbig']) | (refine agives (hrp) ?_; try simp (disch := first | omega | simp) [wrap_i64, -aseqC, -anyC, hyl, h0, h1, hlen, hlen2, hg0, hbb, hbig']) | (refine acallAt (hrp) ?_; try simp (disch := first | omega | simp) [wrap_i64, -aseqC, -anyC, hyl, h0, h1, hlen, hlen2, hg0, hbb, hbig']) | (refine awp_seq_k fun K hK => ?_) | (refine awp_regionC ?_) | (refine awp_anyA true (by kernel_rfl) (by kernel_rfl) ?_) | (refine awp_anyA false (by kernel_rfl) (by kernel_rfl) ?_) | (refine hK _ ?_; clear hK; clear K) | (clear hK; clear K; refine hK _ ?_; clear hK; clear K) | (clear hK; clear K; clear hK; clear K; refine hK _ ?_; clear hK; clear K) | refine awp_block ?_ | (refine awp_condC ?_; simp (disch := first | omega | simp) [wrap_i64, -aseqC, -anyC, hyl, h0, h1, hlen, hlen2, hg0, hbb, hbig']) | (refine awp_exit ?_; try simp (disch := first | omega | simp) [wrap_i64, -aseqC, -anyC, hyl, h0, h1, hlen, hlen2, hg0, hbb, hbig']) | (refine awp_skip ?_; try simp (disch := first | omega | simp) [wrap_i64, -aseqC, -anyC, hyl, h0, h1, hlen, hlen2, hg0, hbb, hbig']) | (refine awp_ret ?_; try simp (disch := first | omega | simp) [wrap_i64, -aseqC, -anyC, hyl, h0, h1, hlen, hlen2, hg0, hbb, hbig']))
    · have hRb : R = fitX (.mk o n s ys) := by rw [hR, inlE, hys]; dsimp only; rw [if_neg ho]
      have hpp : parts (.mk o n s ys) ≤ 1000000 := by
        have h2 := partsL_bound (K := 1000) ys (fun y hy => by
          obtain ⟨e, -, he⟩ := inlL_mem l hys y hy
          exact inlE_parts he)
        have : ys.length * 1000 ≤ 900 * 1000 := Nat.mul_le_mul_right _ (by omega)
        rw [parts]; omega
      generalize hZ : Ex.mk o n s ys = Z at *
      have hZf : AV.agg [.int o, .int n, .str s, .sl (ys.map Ex.av)] = Z.av := by rw [← hZ, Ex.av_mk]
      have hcall : Gives Try.prog 86 [.agg [.int o, .int n, .str s, .sl (ys.map Ex.av)]] (.int (parts Z)) := by rw [hZf]; exact rparts_g Z hpp
      have hb : (o == 22) = true ∧ 0 ≤ n ∧ ¬ n < (bs.length : Int) ∨ (o == 22) = true ∧ ¬ 0 ≤ n ∨ (o == 22) = false := by
        by_cases ho1 : o = 22
        · by_cases h0 : 0 ≤ n
          · exact .inl ⟨by simp [ho1], h0, fun h => ho ⟨ho1, h0, h⟩⟩
          · exact .inr (.inl ⟨by simp [ho1], h0⟩)
        · exact .inr (.inr (by simp [ho1]))
      generalize hPZ : parts Z = NP at *
      have hRR : R = if 1000 < NP then none else some Z := by rw [hRb, fitX, hPZ]
      clear hRb hR
      by_cases hbig : 1000 < NP
      · obtain rfl : R = none := by rw [hRR, if_pos hbig]
        have hbig' : (1000 : Int) < NP := by omega
        rcases hb with ⟨h22, h0, h1⟩ | ⟨h22, h0⟩ | h22
        · repeat' (first | ((with_reducible refine aguard (fun hg => ?_) (fun hg => ?_)) <;> (try simp only [hg]) <;> (try simp only [beq_iff_eq, beq_eq_false_iff_ne, ne_eq, decide_eq_true_eq, decide_eq_false_iff_not, bne_iff_ne, bne_eq_false_iff_eq] at hg) <;> (try (first | simp only [eq_false hg, if_true, if_false] | simp only [eq_true hg, if_true, if_false])) <;> (try simp (disch := first | omega | simp) [wrap_i64, -aseqC, -anyC, hyl, h0, h1, hlen, hlen2, h22, hbig'])) | (with_reducible refine aseq_step ?_; try simp (disch := first | omega | simp) [wrap_i64, -aseqC, -anyC, hyl, h0, h1, hlen, hlen2, h22, hbig']) | (with_reducible refine any_step' ?_; try simp (disch := first | omega | simp) [wrap_i64, -aseqC, -anyC, hyl, h0, h1, hlen, hlen2, h22, hbig']) | (with_reducible refine aseq_end ?_; try simp (disch := first | omega | simp) [wrap_i64, -aseqC, -anyC, hyl, h0, h1, hlen, hlen2, h22, hbig']) | (with_reducible refine any_end' ?_; try simp (disch := first | omega | simp) [wrap_i64, -aseqC, -anyC, hyl, h0, h1, hlen, hlen2, h22, hbig']) | ((first | with_reducible refine sideG ?_ ?_ | with_reducible refine sideG2 ?_ ?_ | with_reducible refine sideS ?_ ?_ | with_reducible refine sideS2 ?_ ?_ | with_reducible refine sideS3 ?_ ?_ | with_reducible refine sideA ?_ ?_ | with_reducible refine sideA2 ?_ ?_ | with_reducible refine sideA3 ?_ ?_); (first | omega | assumption | (simp; done))) | (refine acall (hcall) ?_; try simp (disch := first | omega | simp) [wrap_i64, -aseqC, -anyC, hyl, h0, h1, hlen, hlen2, h22, hbig']) | (refine agives (hcall) ?_; try simp (disch := first | omega | simp) [wrap_i64, -aseqC, -anyC, hyl, h0, h1, hlen, hlen2, h22, hbig']) | (refine acallAt (hcall) ?_; try simp (disch := first | omega | simp) [wrap_i64, -aseqC, -anyC, hyl, h0, h1, hlen, hlen2, h22, hbig']) | (refine awp_seq_k fun K hK => ?_) | (refine awp_regionC ?_) | (refine awp_anyA true (by kernel_rfl) (by kernel_rfl) ?_) | (refine awp_anyA false (by kernel_rfl) (by kernel_rfl) ?_) | (refine hK _ ?_; clear hK; clear K) | (clear hK; clear K; refine hK _ ?_; clear hK; clear K) | (clear hK; clear K; clear hK; clear K; refine hK _ ?_; clear hK; clear K) | refine awp_block ?_ | (refine awp_condC ?_; simp (disch := first | omega | simp) [wrap_i64, -aseqC, -anyC, hyl, h0, h1, hlen, hlen2, h22, hbig']) | (refine awp_exit ?_; try simp (disch := first | omega | simp) [wrap_i64, -aseqC, -anyC, hyl, h0, h1, hlen, hlen2, h22, hbig']) | (refine awp_skip ?_; try simp (disch := first | omega | simp) [wrap_i64, -aseqC, -anyC, hyl, h0, h1, hlen, hlen2, h22, hbig']) | (refine awp_ret ?_; try simp (disch := first | omega | simp) [wrap_i64, -aseqC, -anyC, hyl, h0, h1, hlen, hlen2, h22, hbig']))
        · repeat' (first | ((with_reducible refine aguard (fun hg => ?_) (fun hg => ?_)) <;> (try simp only [hg]) <;> (try simp only [beq_iff_eq, beq_eq_false_iff_ne, ne_eq, decide_eq_true_eq, decide_eq_false_iff_not, bne_iff_ne, bne_eq_false_iff_eq] at hg) <;> (try (first | simp only [eq_false hg, if_true, if_false] | simp only [eq_true hg, if_true, if_false])) <;> (try simp (disch := first | omega | simp) [wrap_i64, -aseqC, -anyC, hyl, h0, hlen, hlen2, h22, hbig'])) | (with_reducible refine aseq_step ?_; try simp (disch := first | omega | simp) [wrap_i64, -aseqC, -anyC, hyl, h0, hlen, hlen2, h22, hbig']) | (with_reducible refine any_step' ?_; try simp (disch := first | omega | simp) [wrap_i64, -aseqC, -anyC, hyl, h0, hlen, hlen2, h22, hbig']) | (with_reducible refine aseq_end ?_; try simp (disch := first | omega | simp) [wrap_i64, -aseqC, -anyC, hyl, h0, hlen, hlen2, h22, hbig']) | (with_reducible refine any_end' ?_; try simp (disch := first | omega | simp) [wrap_i64, -aseqC, -anyC, hyl, h0, hlen, hlen2, h22, hbig']) | ((first | with_reducible refine sideG ?_ ?_ | with_reducible refine sideG2 ?_ ?_ | with_reducible refine sideS ?_ ?_ | with_reducible refine sideS2 ?_ ?_ | with_reducible refine sideS3 ?_ ?_ | with_reducible refine sideA ?_ ?_ | with_reducible refine sideA2 ?_ ?_ | with_reducible refine sideA3 ?_ ?_); (first | omega | assumption | (simp; done))) | (refine acall (hcall) ?_; try simp (disch := first | omega | simp) [wrap_i64, -aseqC, -anyC, hyl, h0, hlen, hlen2, h22, hbig']) | (refine agives (hcall) ?_; try simp (disch := first | omega | simp) [wrap_i64, -aseqC, -anyC, hyl, h0, hlen, hlen2, h22, hbig']) | (refine acallAt (hcall) ?_; try simp (disch := first | omega | simp) [wrap_i64, -aseqC, -anyC, hyl, h0, hlen, hlen2, h22, hbig']) | (refine awp_seq_k fun K hK => ?_) | (refine awp_regionC ?_) | (refine awp_anyA true (by kernel_rfl) (by kernel_rfl) ?_) | (refine awp_anyA false (by kernel_rfl) (by kernel_rfl) ?_) | (refine hK _ ?_; clear hK; clear K) | (clear hK; clear K; refine hK _ ?_; clear hK; clear K) | (clear hK; clear K; clear hK; clear K; refine hK _ ?_; clear hK; clear K) | refine awp_block ?_ | (refine awp_condC ?_; simp (disch := first | omega | simp) [wrap_i64, -aseqC, -anyC, hyl, h0, hlen, hlen2, h22, hbig']) | (refine awp_exit ?_; try simp (disch := first | omega | simp) [wrap_i64, -aseqC, -anyC, hyl, h0, hlen, hlen2, h22, hbig']) | (refine awp_skip ?_; try simp (disch := first | omega | simp) [wrap_i64, -aseqC, -anyC, hyl, h0, hlen, hlen2, h22, hbig']) | (refine awp_ret ?_; try simp (disch := first | omega | simp) [wrap_i64, -aseqC, -anyC, hyl, h0, hlen, hlen2, h22, hbig']))
        · repeat' (first | ((with_reducible refine aguard (fun hg => ?_) (fun hg => ?_)) <;> (try simp only [hg]) <;> (try simp only [beq_iff_eq, beq_eq_false_iff_ne, ne_eq, decide_eq_true_eq, decide_eq_false_iff_not, bne_iff_ne, bne_eq_false_iff_eq] at hg) <;> (try (first | simp only [eq_false hg, if_true, if_false] | simp only [eq_true hg, if_true, if_false])) <;> (try simp (disch := first | omega | simp) [wrap_i64, -aseqC, -anyC, hyl, hlen, hlen2, h22, hbig'])) | (with_reducible refine aseq_step ?_; try simp (disch := first | omega | simp) [wrap_i64, -aseqC, -anyC, hyl, hlen, hlen2, h22, hbig']) | (with_reducible refine any_step' ?_; try simp (disch := first | omega | simp) [wrap_i64, -aseqC, -anyC, hyl, hlen, hlen2, h22, hbig']) | (with_reducible refine aseq_end ?_; try simp (disch := first | omega | simp) [wrap_i64, -aseqC, -anyC, hyl, hlen, hlen2, h22, hbig']) | (with_reducible refine any_end' ?_; try simp (disch := first | omega | simp) [wrap_i64, -aseqC, -anyC, hyl, hlen, hlen2, h22, hbig']) | ((first | with_reducible refine sideG ?_ ?_ | with_reducible refine sideG2 ?_ ?_ | with_reducible refine sideS ?_ ?_ | with_reducible refine sideS2 ?_ ?_ | with_reducible refine sideS3 ?_ ?_ | with_reducible refine sideA ?_ ?_ | with_reducible refine sideA2 ?_ ?_ | with_reducible refine sideA3 ?_ ?_); (first | omega | assumption | (simp; done))) | (refine acall (hcall) ?_; try simp (disch := first | omega | simp) [wrap_i64, -aseqC, -anyC, hyl, hlen, hlen2, h22, hbig']) | (refine agives (hcall) ?_; try simp (disch := first | omega | simp) [wrap_i64, -aseqC, -anyC, hyl, hlen, hlen2, h22, hbig']) | (refine acallAt (hcall) ?_; try simp (disch := first | omega | simp) [wrap_i64, -aseqC, -anyC, hyl, hlen, hlen2, h22, hbig']) | (refine awp_seq_k fun K hK => ?_) | (refine awp_regionC ?_) | (refine awp_anyA true (by kernel_rfl) (by kernel_rfl) ?_) | (refine awp_anyA false (by kernel_rfl) (by kernel_rfl) ?_) | (refine hK _ ?_; clear hK; clear K) | (clear hK; clear K; refine hK _ ?_; clear hK; clear K) | (clear hK; clear K; clear hK; clear K; refine hK _ ?_; clear hK; clear K) | refine awp_block ?_ | (refine awp_condC ?_; simp (disch := first | omega | simp) [wrap_i64, -aseqC, -anyC, hyl, hlen, hlen2, h22, hbig']) | (refine awp_exit ?_; try simp (disch := first | omega | simp) [wrap_i64, -aseqC, -anyC, hyl, hlen, hlen2, h22, hbig']) | (refine awp_skip ?_; try simp (disch := first | omega | simp) [wrap_i64, -aseqC, -anyC, hyl, hlen, hlen2, h22, hbig']) | (refine awp_ret ?_; try simp (disch := first | omega | simp) [wrap_i64, -aseqC, -anyC, hyl, hlen, hlen2, h22, hbig']))
      · obtain rfl : R = some Z := by rw [hRR, if_neg hbig]
        have hbig' : ¬ (1000 : Int) < NP := by omega
        rcases hb with ⟨h22, h0, h1⟩ | ⟨h22, h0⟩ | h22
        · repeat' (first | ((with_reducible refine aguard (fun hg => ?_) (fun hg => ?_)) <;> (try simp only [hg]) <;> (try simp only [beq_iff_eq, beq_eq_false_iff_ne, ne_eq, decide_eq_true_eq, decide_eq_false_iff_not, bne_iff_ne, bne_eq_false_iff_eq] at hg) <;> (try (first | simp only [eq_false hg, if_true, if_false] | simp only [eq_true hg, if_true, if_false])) <;> (try simp (disch := first | omega | simp) [wrap_i64, -aseqC, -anyC, hyl, h0, h1, hlen, hlen2, h22, hbig'])) | (with_reducible refine aseq_step ?_; try simp (disch := first | omega | simp) [wrap_i64, -aseqC, -anyC, hyl, h0, h1, hlen, hlen2, h22, hbig']) | (with_reducible refine any_step' ?_; try simp (disch := first | omega | simp) [wrap_i64, -aseqC, -anyC, hyl, h0, h1, hlen, hlen2, h22, hbig']) | (with_reducible refine aseq_end ?_; try simp (disch := first | omega | simp) [wrap_i64, -aseqC, -anyC, hyl, h0, h1, hlen, hlen2, h22, hbig']) | (with_reducible refine any_end' ?_; try simp (disch := first | omega | simp) [wrap_i64, -aseqC, -anyC, hyl, h0, h1, hlen, hlen2, h22, hbig']) | ((first | with_reducible refine sideG ?_ ?_ | with_reducible refine sideG2 ?_ ?_ | with_reducible refine sideS ?_ ?_ | with_reducible refine sideS2 ?_ ?_ | with_reducible refine sideS3 ?_ ?_ | with_reducible refine sideA ?_ ?_ | with_reducible refine sideA2 ?_ ?_ | with_reducible refine sideA3 ?_ ?_); (first | omega | assumption | (simp; done))) | (refine acall (hcall) ?_; try simp (disch := first | omega | simp) [wrap_i64, -aseqC, -anyC, hyl, h0, h1, hlen, hlen2, h22, hbig']) | (refine agives (hcall) ?_; try simp (disch := first | omega | simp) [wrap_i64, -aseqC, -anyC, hyl, h0, h1, hlen, hlen2, h22, hbig']) | (refine acallAt (hcall) ?_; try simp (disch := first | omega | simp) [wrap_i64, -aseqC, -anyC, hyl, h0, h1, hlen, hlen2, h22, hbig']) | (refine awp_seq_k fun K hK => ?_) | (refine awp_regionC ?_) | (refine awp_anyA true (by kernel_rfl) (by kernel_rfl) ?_) | (refine awp_anyA false (by kernel_rfl) (by kernel_rfl) ?_) | (refine hK _ ?_; clear hK; clear K) | (clear hK; clear K; refine hK _ ?_; clear hK; clear K) | (clear hK; clear K; clear hK; clear K; refine hK _ ?_; clear hK; clear K) | refine awp_block ?_ | (refine awp_condC ?_; simp (disch := first | omega | simp) [wrap_i64, -aseqC, -anyC, hyl, h0, h1, hlen, hlen2, h22, hbig']) | (refine awp_exit ?_; try simp (disch := first | omega | simp) [wrap_i64, -aseqC, -anyC, hyl, h0, h1, hlen, hlen2, h22, hbig']) | (refine awp_skip ?_; try simp (disch := first | omega | simp) [wrap_i64, -aseqC, -anyC, hyl, h0, h1, hlen, hlen2, h22, hbig']) | (refine awp_ret ?_; try simp (disch := first | omega | simp) [wrap_i64, -aseqC, -anyC, hyl, h0, h1, hlen, hlen2, h22, hbig']))
          all_goals exact hZf.symm
        · repeat' (first | ((with_reducible refine aguard (fun hg => ?_) (fun hg => ?_)) <;> (try simp only [hg]) <;> (try simp only [beq_iff_eq, beq_eq_false_iff_ne, ne_eq, decide_eq_true_eq, decide_eq_false_iff_not, bne_iff_ne, bne_eq_false_iff_eq] at hg) <;> (try (first | simp only [eq_false hg, if_true, if_false] | simp only [eq_true hg, if_true, if_false])) <;> (try simp (disch := first | omega | simp) [wrap_i64, -aseqC, -anyC, hyl, h0, hlen, hlen2, h22, hbig'])) | (with_reducible refine aseq_step ?_; try simp (disch := first | omega | simp) [wrap_i64, -aseqC, -anyC, hyl, h0, hlen, hlen2, h22, hbig']) | (with_reducible refine any_step' ?_; try simp (disch := first | omega | simp) [wrap_i64, -aseqC, -anyC, hyl, h0, hlen, hlen2, h22, hbig']) | (with_reducible refine aseq_end ?_; try simp (disch := first | omega | simp) [wrap_i64, -aseqC, -anyC, hyl, h0, hlen, hlen2, h22, hbig']) | (with_reducible refine any_end' ?_; try simp (disch := first | omega | simp) [wrap_i64, -aseqC, -anyC, hyl, h0, hlen, hlen2, h22, hbig']) | ((first | with_reducible refine sideG ?_ ?_ | with_reducible refine sideG2 ?_ ?_ | with_reducible refine sideS ?_ ?_ | with_reducible refine sideS2 ?_ ?_ | with_reducible refine sideS3 ?_ ?_ | with_reducible refine sideA ?_ ?_ | with_reducible refine sideA2 ?_ ?_ | with_reducible refine sideA3 ?_ ?_); (first | omega | assumption | (simp; done))) | (refine acall (hcall) ?_; try simp (disch := first | omega | simp) [wrap_i64, -aseqC, -anyC, hyl, h0, hlen, hlen2, h22, hbig']) | (refine agives (hcall) ?_; try simp (disch := first | omega | simp) [wrap_i64, -aseqC, -anyC, hyl, h0, hlen, hlen2, h22, hbig']) | (refine acallAt (hcall) ?_; try simp (disch := first | omega | simp) [wrap_i64, -aseqC, -anyC, hyl, h0, hlen, hlen2, h22, hbig']) | (refine awp_seq_k fun K hK => ?_) | (refine awp_regionC ?_) | (refine awp_anyA true (by kernel_rfl) (by kernel_rfl) ?_) | (refine awp_anyA false (by kernel_rfl) (by kernel_rfl) ?_) | (refine hK _ ?_; clear hK; clear K) | (clear hK; clear K; refine hK _ ?_; clear hK; clear K) | (clear hK; clear K; clear hK; clear K; refine hK _ ?_; clear hK; clear K) | refine awp_block ?_ | (refine awp_condC ?_; simp (disch := first | omega | simp) [wrap_i64, -aseqC, -anyC, hyl, h0, hlen, hlen2, h22, hbig']) | (refine awp_exit ?_; try simp (disch := first | omega | simp) [wrap_i64, -aseqC, -anyC, hyl, h0, hlen, hlen2, h22, hbig']) | (refine awp_skip ?_; try simp (disch := first | omega | simp) [wrap_i64, -aseqC, -anyC, hyl, h0, hlen, hlen2, h22, hbig']) | (refine awp_ret ?_; try simp (disch := first | omega | simp) [wrap_i64, -aseqC, -anyC, hyl, h0, hlen, hlen2, h22, hbig']))
          all_goals exact hZf.symm
        · repeat' (first | ((with_reducible refine aguard (fun hg => ?_) (fun hg => ?_)) <;> (try simp only [hg]) <;> (try simp only [beq_iff_eq, beq_eq_false_iff_ne, ne_eq, decide_eq_true_eq, decide_eq_false_iff_not, bne_iff_ne, bne_eq_false_iff_eq] at hg) <;> (try (first | simp only [eq_false hg, if_true, if_false] | simp only [eq_true hg, if_true, if_false])) <;> (try simp (disch := first | omega | simp) [wrap_i64, -aseqC, -anyC, hyl, hlen, hlen2, h22, hbig'])) | (with_reducible refine aseq_step ?_; try simp (disch := first | omega | simp) [wrap_i64, -aseqC, -anyC, hyl, hlen, hlen2, h22, hbig']) | (with_reducible refine any_step' ?_; try simp (disch := first | omega | simp) [wrap_i64, -aseqC, -anyC, hyl, hlen, hlen2, h22, hbig']) | (with_reducible refine aseq_end ?_; try simp (disch := first | omega | simp) [wrap_i64, -aseqC, -anyC, hyl, hlen, hlen2, h22, hbig']) | (with_reducible refine any_end' ?_; try simp (disch := first | omega | simp) [wrap_i64, -aseqC, -anyC, hyl, hlen, hlen2, h22, hbig']) | ((first | with_reducible refine sideG ?_ ?_ | with_reducible refine sideG2 ?_ ?_ | with_reducible refine sideS ?_ ?_ | with_reducible refine sideS2 ?_ ?_ | with_reducible refine sideS3 ?_ ?_ | with_reducible refine sideA ?_ ?_ | with_reducible refine sideA2 ?_ ?_ | with_reducible refine sideA3 ?_ ?_); (first | omega | assumption | (simp; done))) | (refine acall (hcall) ?_; try simp (disch := first | omega | simp) [wrap_i64, -aseqC, -anyC, hyl, hlen, hlen2, h22, hbig']) | (refine agives (hcall) ?_; try simp (disch := first | omega | simp) [wrap_i64, -aseqC, -anyC, hyl, hlen, hlen2, h22, hbig']) | (refine acallAt (hcall) ?_; try simp (disch := first | omega | simp) [wrap_i64, -aseqC, -anyC, hyl, hlen, hlen2, h22, hbig']) | (refine awp_seq_k fun K hK => ?_) | (refine awp_regionC ?_) | (refine awp_anyA true (by kernel_rfl) (by kernel_rfl) ?_) | (refine awp_anyA false (by kernel_rfl) (by kernel_rfl) ?_) | (refine hK _ ?_; clear hK; clear K) | (clear hK; clear K; refine hK _ ?_; clear hK; clear K) | (clear hK; clear K; clear hK; clear K; refine hK _ ?_; clear hK; clear K) | refine awp_block ?_ | (refine awp_condC ?_; simp (disch := first | omega | simp) [wrap_i64, -aseqC, -anyC, hyl, hlen, hlen2, h22, hbig']) | (refine awp_exit ?_; try simp (disch := first | omega | simp) [wrap_i64, -aseqC, -anyC, hyl, hlen, hlen2, h22, hbig']) | (refine awp_skip ?_; try simp (disch := first | omega | simp) [wrap_i64, -aseqC, -anyC, hyl, hlen, hlen2, h22, hbig']) | (refine awp_ret ?_; try simp (disch := first | omega | simp) [wrap_i64, -aseqC, -anyC, hyl, hlen, hlen2, h22, hbig']))
          all_goals exact hZf.symm
end Go.Proofs.Ytmhelkhmgbbfhaa
