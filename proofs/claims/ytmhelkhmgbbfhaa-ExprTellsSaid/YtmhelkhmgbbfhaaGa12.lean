/- Walk: small: the law's examples have the documented results. -/
import Derived.Deep.RegionHeld3
import Derived.Test.YtmhelkhmgbbfhaaGa2
import Derived.Test.YtmhelkhmgbbfhaaGa4
import Derived.Test.YtmhelkhmgbbfhaaGa6
import Derived.Test.YtmhelkhmgbbfhaaGa7
import Derived.Test.YtmhelkhmgbbfhaaGa8
import Derived.Test.YtmhelkhmgbbfhaaGa11
namespace Go.Proofs.Ytmhelkhmgbbfhaa
open Go.RowKit Go.Lib

theorem rdS_two {w : World} {a b : Ex} {a0 a1 a2 a3 b0 b1 b2 b3 : Value} (h1 : Rd w Any a.d [a0, a1, a2, a3]) (h2 : Rd w Any b.d [b0, b1, b2, b3]) : RdS w Any ([a, b].map Ex.d) [a0, a1, a2, a3, b0, b1, b2, b3] :=
  rdS_cons (c1 := [a0, a1, a2, a3]) (c2 := [b0, b1, b2, b3]) rfl h1 (rdS_cons (c1 := [b0, b1, b2, b3]) (c2 := []) rfl h2 (rdS_nil _ _))
theorem rdS_one {w : World} {a : Ex} {a0 a1 a2 a3 : Value} (h1 : Rd w Any a.d [a0, a1, a2, a3]) : RdS w Any ([a].map Ex.d) [a0, a1, a2, a3] :=
  rdS_cons (c1 := [a0, a1, a2, a3]) (c2 := []) rfl h1 (rdS_nil _ _)

set_option maxRecDepth 10000 in
set_option maxHeartbeats 4000000 in
theorem small_any (w : World) : Calls Try.prog 9 #[] w fun r w' => r = .returned (.bool true) ∧ Ext w w' := by
  go_enter Try.func9, Try.ntmps9
  go_wp2_with fail
  refine (col_any _ _).mono ?_
  rintro r w1 ⟨rfl, h1⟩
  have hrow : Rd w1 Any (.sl (rowV.map Val.d)) [.slice (some ⟨w.heap.size, 0, none⟩) 2 2] := Rd.ext (Rd.ext (rd_new rfl rfl (rdS_vals _ Any rowV) trivial (by simp [rowV]) (by omega)) ((Ext.refl _).alloc _)) h1
  have hcols : Rd w1 Any (.sl (([0, 1] : List Int).map D.int)) [.slice (some ⟨w.heap.size + 1, 0, none⟩) 2 2] := Rd.ext (rd_new_ints (l := [0, 1]) (by simp) rfl rfl (by simp)) h1
  have hw1 : Ext w w1 := (((Ext.refl _).alloc _).alloc _).trans h1
  clear h1
  go_wp2_with fail
  refine (col_any _ _).mono ?_
  rintro r w2 ⟨rfl, h2⟩
  have hone : Rd w2 Any oneE.d [.int .i64 22, .int .i64 0, .string ByteArray.empty, .slice (some ⟨w1.heap.size, 0, none⟩) 2 2] := Rd.ext (Rd.ext (rd_node (l := [colE 0, timeE]) (rd_new rfl rfl (rdS_two (rd_leaf _ _ _ _ _) (rd_leaf _ _ _ _ _)) trivial (by simp) (by omega))) ((Ext.refl _).alloc _)) h2
  have a0 : w2.cell? ⟨w1.heap.size + 1, 0, none⟩ = some (.int .i64 22) := h2.at (by go_simp)
  have a1 : w2.cell? ⟨w1.heap.size + 1, 1, none⟩ = some (.int .i64 0) := h2.at (by go_simp)
  have a2 : w2.cell? ⟨w1.heap.size + 1, 2, none⟩ = some (.string ByteArray.empty) := h2.at (by go_simp; rfl)
  have a3 : w2.cell? ⟨w1.heap.size + 1, 3, none⟩ = some (.slice (some ⟨w1.heap.size, 0, none⟩) 2 2) := h2.at (by go_simp)
  have hw2 : Ext w1 w2 := (((Ext.refl _).alloc _).alloc _).trans h2
  clear h2
  go_wp2_with fail
  refine (num_any _ _).mono ?_
  rintro r w3 ⟨rfl, h3⟩
  go_wp2_with fail
  refine (op_any _ _ _ _ _).mono ?_
  rintro r w4 ⟨rfl, h4⟩
  have htwo : Rd w4 Any twoE.d [.int .i64 11, .int .i64 0, .string ByteArray.empty, .slice (some ⟨w3.heap.size, 0, none⟩) 2 2] := Rd.ext (rd_node (l := [colE 0, numE 0]) (rd_new rfl rfl (rdS_two (rd_leaf _ _ _ _ _) (rd_leaf _ _ _ _ _)) trivial (by simp) (by omega))) h4
  have hw4 : Ext w2 w4 := (h3.alloc _).trans h4
  clear h3 h4
  go_wp2_with fail
  refine (col_any _ _).mono ?_
  rintro r w5 ⟨rfl, h5⟩
  have b0 : w5.cell? ⟨w4.heap.size, 0, none⟩ = some (.int .i64 11) := h5.at (by go_simp)
  have b1 : w5.cell? ⟨w4.heap.size, 1, none⟩ = some (.int .i64 0) := h5.at (by go_simp)
  have b2 : w5.cell? ⟨w4.heap.size, 2, none⟩ = some (.string ByteArray.empty) := h5.at (by go_simp)
  have b3 : w5.cell? ⟨w4.heap.size, 3, none⟩ = some (.slice (some ⟨w3.heap.size, 0, none⟩) 2 2) := h5.at (by go_simp)
  have hw5 : Ext w4 w5 := ((Ext.refl _).alloc _).trans h5
  clear h5
  go_wp2_with fail
  refine (op_any _ _ _ _ _).mono ?_
  rintro r w6 ⟨rfl, h6⟩
  have hcat : Rd w6 Any (Ex.mk 19 0 ByteArray.empty [colE 1, .mk 1 0 ⟨#[121, 122]⟩ []]).d [.int .i64 19, .int .i64 0, .string ByteArray.empty, .slice (some ⟨w5.heap.size, 0, none⟩) 2 2] := Rd.ext (rd_node (l := [colE 1, .mk 1 0 ⟨#[121, 122]⟩ []]) (rd_new rfl rfl (rdS_two (rd_leaf _ _ _ _ _) (rd_leaf _ _ _ _ _)) trivial (by simp) (by omega))) h6
  have hw6 : Ext w5 w6 := ((Ext.refl _).alloc _).trans h6
  clear h6
  go_wp2_with fail
  refine (op_any _ _ _ _ _).mono ?_
  rintro r w7 ⟨rfl, h7⟩
  have hthree : Rd w7 Any threeE.d [.int .i64 20, .int .i64 0, .string ByteArray.empty, .slice (some ⟨w6.heap.size, 0, none⟩) 1 1] := Rd.ext (rd_node (l := [.mk 19 0 ByteArray.empty [colE 1, .mk 1 0 ⟨#[121, 122]⟩ []]]) (rd_new rfl rfl (rdS_one (Rd.ext hcat ((Ext.refl _).alloc _))) trivial (by simp) (by omega))) h7
  have hw7 : Ext w6 w7 := ((Ext.refl _).alloc _).trans h7
  clear h7 hcat
  go_wp2_with fail
  generalize hWe : World.alloc w7 _ = W
  have c0 : W.cell? ⟨w7.heap.size, 0, none⟩ = some (.int .i64 20) := by rw [← hWe]; clear hWe; go_simp
  have c1 : W.cell? ⟨w7.heap.size, 1, none⟩ = some (.int .i64 0) := by rw [← hWe]; clear hWe; go_simp
  have c2 : W.cell? ⟨w7.heap.size, 2, none⟩ = some (.string ByteArray.empty) := by rw [← hWe]; clear hWe; go_simp
  have c3 : W.cell? ⟨w7.heap.size, 3, none⟩ = some (.slice (some ⟨w6.heap.size, 0, none⟩) 1 1) := by rw [← hWe]; clear hWe; go_simp
  have hW7 : Ext w7 W := by rw [← hWe]; exact (by repeat' first | exact Ext.refl _ | assumption | apply Ext.alloc | apply Ext.drew | apply Ext.drewN | (refine Ext.trans ?_ (by assumption)))
  clear hWe
  have hW5 : Ext w5 W := hw6.trans (hw7.trans hW7)
  have hW4 : Ext w4 W := hw5.trans hW5
  have hW2 : Ext w2 W := hw4.trans hW4
  have hW1 : Ext w1 W := hw2.trans hW2
  have hW : Ext w W := hw1.trans hW1
  replace a0 := hW2.at a0
  replace a1 := hW2.at a1
  replace a2 := hW2.at a2
  replace a3 := hW2.at a3
  replace b0 := hW5.at b0
  replace b1 := hW5.at b1
  replace b2 := hW5.at b2
  replace b3 := hW5.at b3
  have hrow' := Lib.hid (hrow.ext hW1)
  have hcols' := Lib.hid (hcols.ext hW1)
  have hone' := Lib.hid (hone.ext hW2)
  have htwo' := Lib.hid (htwo.ext hW4)
  have hthree' := Lib.hid (hthree.ext hW7)
  clear hrow hcols hone htwo hthree hw1 hw2 hw4 hw5 hw6 hw7 hW1 hW2 hW4 hW5 hW7
  go_region_held3 (fun w' => w'.cell? ⟨w1.heap.size + 1, 0, none⟩ = some (.int .i64 22) ∧ w'.cell? ⟨w1.heap.size + 1, 1, none⟩ = some (.int .i64 0) ∧ w'.cell? ⟨w1.heap.size + 1, 2, none⟩ = some (.string ByteArray.empty) ∧ w'.cell? ⟨w1.heap.size + 1, 3, none⟩ = some (.slice (some ⟨w1.heap.size, 0, none⟩) 2 2))
    ((refine (fun (hx : Ext W _) => ⟨hx.at a0, hx.at a1, hx.at a2, hx.at a3⟩) ?_; repeat' first | exact Ext.refl _ | assumption | apply Ext.alloc | apply Ext.drew | apply Ext.drewN | (refine Ext.trans ?_ (by assumption))))
    ((first
      | (go_at_call 40; refine (least_any _).mono ?_; rintro r w8 ⟨vL, rfl, hL, h8⟩)
      | (go_at_call 11; refine (type_any [leastF] [0, 1] [] oneE Any Any Any Any _ _ _ _ _ (Rd.ext hL (Ext.refl _)) (Rd.ext hcols'.out ((Ext.refl W).drew.trans h8)) (Rd.nil none (by omega)) (Rd.ext hone'.out ((Ext.refl W).drew.trans h8)) (by decide) (by decide)).mono ?_; rintro r w9 ⟨rfl, h9⟩)))
  have hW9 : Ext W w9 := ((Ext.refl W).drew.trans h8).trans h9
  clear hL h8 h9
  have ht1 : (typeP [leastF] [0, 1] [] oneE).getD 0 = 0 := by rw [ty_one]; rfl
  have ht2 : (typeP [leastF] [0, 1] [] oneE).isSome = true := by rw [ty_one]; rfl
  rw [ht1, ht2]
  go_wp2_with fail
  refine (least_any _).mono ?_
  rintro r w10 ⟨vL2, rfl, hL2, h10⟩
  go_wp2_with fail
  refine (col_any _ _).mono ?_
  rintro r w11 ⟨rfl, h11⟩
  go_wp2_with fail
  refine (op_any _ _ _ _ _).mono ?_
  rintro r w12 ⟨rfl, h12⟩
  go_wp2_with fail
  have hW12 : Ext W w12 := ((hW9.trans h10).trans h11).trans (((Ext.refl _).alloc _).trans h12)
  have hL12 : Rd w12 Any (.sl ([leastF].map Fn.d)) [vL2] := hL2.ext (h11.trans (((Ext.refl _).alloc _).trans h12))
  have hnot : Rd w12 Any notE.d [.int .i64 6, .int .i64 0, .string ByteArray.empty, .slice (some ⟨w11.heap.size, 0, none⟩) 1 1] := Rd.ext (rd_node (l := [colE 0]) (rd_new rfl rfl (rdS_one (rd_leaf _ _ _ _ _)) trivial (by simp) (by omega))) h12
  refine (type_any [leastF] [0, 1] [] notE Any Any Any Any _ _ _ _ _ hL12 (hcols'.out.ext hW12) (Rd.nil none (by omega)) hnot (by decide) (by decide)).mono ?_
  rintro r w13 ⟨rfl, h13⟩
  have hW13 : Ext W w13 := hW12.trans h13
  have ht3 : (typeP [leastF] [0, 1] [] notE).getD 0 = 0 := by rw [ty_not]; rfl
  have ht4 : (typeP [leastF] [0, 1] [] notE).isSome = false := by rw [ty_not]; rfl
  rw [ht3, ht4]
  clear ht1 ht2 ht3 ht4 hnot hL12 hL2 h10 h11 h12 h13 hW12 hW9
  replace a0 := hW13.at a0
  replace a1 := hW13.at a1
  replace a2 := hW13.at a2
  replace a3 := hW13.at a3
  replace b0 := hW13.at b0
  replace b1 := hW13.at b1
  replace b2 := hW13.at b2
  replace b3 := hW13.at b3
  replace c0 := hW13.at c0
  replace c1 := hW13.at c1
  replace c2 := hW13.at c2
  replace c3 := hW13.at c3
  have hrow2 := Lib.hid (hrow'.out.ext hW13)
  have hone2 := Lib.hid (hone'.out.ext hW13)
  have htwo2 := Lib.hid (htwo'.out.ext hW13)
  have hthree2 := Lib.hid (hthree'.out.ext hW13)
  have hfd1 : ∀ X : World, (Instr.field 34 (.agg #[.int .i64 0, .int .i64 7, .string ByteArray.empty]) 1).run Try.prog X = .ok (.int .i64 7) X := fun _ => by kernel_rfl
  have hfd2 : ∀ X : World, (Instr.field 34 (.agg #[.int .i64 0, .int .i64 0, .string ByteArray.empty]) 1).run Try.prog X = .ok (.int .i64 0) X := fun _ => by kernel_rfl
  have hfd3 : ∀ X : World, (Instr.field 34 (.agg #[.int .i64 0, .int .i64 3, .string ByteArray.empty]) 1).run Try.prog X = .ok (.int .i64 3) X := fun _ => by kernel_rfl
  have hS : ∀ X : World, Ext w13 X → (X.cell? ⟨w1.heap.size + 1, 0, none⟩ = some (.int .i64 22) ∧ X.cell? ⟨w1.heap.size + 1, 1, none⟩ = some (.int .i64 0) ∧ X.cell? ⟨w1.heap.size + 1, 2, none⟩ = some (.string ByteArray.empty) ∧ X.cell? ⟨w1.heap.size + 1, 3, none⟩ = some (.slice (some ⟨w1.heap.size, 0, none⟩) 2 2)
      ∧ X.cell? ⟨w4.heap.size, 0, none⟩ = some (.int .i64 11) ∧ X.cell? ⟨w4.heap.size, 1, none⟩ = some (.int .i64 0) ∧ X.cell? ⟨w4.heap.size, 2, none⟩ = some (.string ByteArray.empty) ∧ X.cell? ⟨w4.heap.size, 3, none⟩ = some (.slice (some ⟨w3.heap.size, 0, none⟩) 2 2)
      ∧ X.cell? ⟨w7.heap.size, 0, none⟩ = some (.int .i64 20) ∧ X.cell? ⟨w7.heap.size, 1, none⟩ = some (.int .i64 0) ∧ X.cell? ⟨w7.heap.size, 2, none⟩ = some (.string ByteArray.empty) ∧ X.cell? ⟨w7.heap.size, 3, none⟩ = some (.slice (some ⟨w6.heap.size, 0, none⟩) 1 1)) :=
    fun _ hx => ⟨hx.at a0, hx.at a1, hx.at a2, hx.at a3, hx.at b0, hx.at b1, hx.at b2, hx.at b3, hx.at c0, hx.at c1, hx.at c2, hx.at c3⟩
  have hS' := Lib.hid hS
  have hone3 : ∀ (X : World) (vL : Value), Ext w13 X → Rd X Any (.sl ([leastF].map Fn.d)) [vL] → Calls Try.prog 13 #[vL, .agg #[.int .i64 22, .int .i64 0, .string ByteArray.empty, .slice (some ⟨w1.heap.size, 0, none⟩) 2 2], .int .i64 7, .slice (some ⟨w.heap.size, 0, none⟩) 2 2] X fun r w' => r = .returned (.agg #[.int .i64 0, .int .i64 7, .string ByteArray.empty]) ∧ Ext X w' := by
    intro X vL hx hL
    have := Eval_any [leastF] 7 rowV oneE 0 okF_least parts_least (by decide) (by decide) rowV_sound vL _ _ X hL (Rd.ext hrow2.out hx) (Rd.ext hone2.out hx)
    rw [evv_one] at this
    exact this
  have htwo3 : ∀ X : World, Ext w13 X → Calls Try.prog 13 #[.slice none 0 0, .agg #[.int .i64 11, .int .i64 0, .string ByteArray.empty, .slice (some ⟨w3.heap.size, 0, none⟩) 2 2], .int .i64 7, .slice (some ⟨w.heap.size, 0, none⟩) 2 2] X fun r w' => r = .returned (.agg #[.int .i64 0, .int .i64 0, .string ByteArray.empty]) ∧ Ext X w' := by
    intro X hx
    have := Eval_any [] 7 rowV twoE 0 (by simp) (by simp) (by decide) (by decide) rowV_sound (.slice none 0 0) _ _ X (Rd.nil none (by omega)) (Rd.ext hrow2.out hx) (Rd.ext htwo2.out hx)
    rw [evv_two] at this
    exact this
  have hthree3 : ∀ X : World, Ext w13 X → Calls Try.prog 13 #[.slice none 0 0, .agg #[.int .i64 20, .int .i64 0, .string ByteArray.empty, .slice (some ⟨w6.heap.size, 0, none⟩) 1 1], .int .i64 7, .slice (some ⟨w.heap.size, 0, none⟩) 2 2] X fun r w' => r = .returned (.agg #[.int .i64 0, .int .i64 3, .string ByteArray.empty]) ∧ Ext X w' := by
    intro X hx
    have := Eval_any [] 7 rowV threeE 0 (by simp) (by simp) (by decide) (by decide) rowV_sound (.slice none 0 0) _ _ X (Rd.nil none (by omega)) (Rd.ext hrow2.out hx) (Rd.ext hthree2.out hx)
    rw [evv_three] at this
    exact this
  have hone4 := Lib.hid hone3
  have htwo4 := Lib.hid htwo3
  have hthree4 := Lib.hid hthree3
  clear hS hone3 htwo3 hthree3 hrow2 hone2 htwo2 hthree2 hrow' hone' htwo' hthree' hcols'
  go_wp2_with fail
  go_region_held3 (fun w' => w'.cell? ⟨w1.heap.size + 1, 0, none⟩ = some (.int .i64 22) ∧ w'.cell? ⟨w1.heap.size + 1, 1, none⟩ = some (.int .i64 0) ∧ w'.cell? ⟨w1.heap.size + 1, 2, none⟩ = some (.string ByteArray.empty) ∧ w'.cell? ⟨w1.heap.size + 1, 3, none⟩ = some (.slice (some ⟨w1.heap.size, 0, none⟩) 2 2)
      ∧ w'.cell? ⟨w4.heap.size, 0, none⟩ = some (.int .i64 11) ∧ w'.cell? ⟨w4.heap.size, 1, none⟩ = some (.int .i64 0) ∧ w'.cell? ⟨w4.heap.size, 2, none⟩ = some (.string ByteArray.empty) ∧ w'.cell? ⟨w4.heap.size, 3, none⟩ = some (.slice (some ⟨w3.heap.size, 0, none⟩) 2 2)
      ∧ w'.cell? ⟨w7.heap.size, 0, none⟩ = some (.int .i64 20) ∧ w'.cell? ⟨w7.heap.size, 1, none⟩ = some (.int .i64 0) ∧ w'.cell? ⟨w7.heap.size, 2, none⟩ = some (.string ByteArray.empty) ∧ w'.cell? ⟨w7.heap.size, 3, none⟩ = some (.slice (some ⟨w6.heap.size, 0, none⟩) 1 1))
    ((refine hS'.out _ ?_; repeat' first | exact Ext.refl _ | assumption | apply Ext.alloc | apply Ext.drew | apply Ext.drewN | (refine Ext.trans ?_ (by assumption))))
    ((first
      | (go_at_call 40; refine (least_any _).mono ?_; rintro r w14 ⟨vL, rfl, hL, h14⟩)
      | (go_at_call 13; refine (hthree4.out _ ((((Ext.refl w13).drew.trans h14).trans h15).trans h16)).mono ?_; rintro r w17 ⟨rfl, h17⟩)
      | (go_at_call 13; refine (htwo4.out _ (((Ext.refl w13).drew.trans h14).trans h15)).mono ?_; rintro r w16 ⟨rfl, h16⟩)
      | (go_at_call 13; refine (hone4.out _ _ ((Ext.refl w13).drew.trans h14) hL).mono ?_; rintro r w15 ⟨rfl, h15⟩)))
  have hfin : Ext w w17 := hW.trans (hW13.trans (((((Ext.refl w13).drew.trans h14).trans h15).trans h16).trans h17))
  go_wp2_with fail
  go_ret
  exact ⟨rfl, hfin⟩
end Go.Proofs.Ytmhelkhmgbbfhaa

/- Walks: the reference's count of steps. -/
namespace Go.Proofs.Ytmhelkhmgbbfhaa
open Go.RowKit Go.Lib

theorem sumS_take (n : Int) (ks : List Int) (k : Nat) (h : k < ks.length) : sumS n (ks.take (k + 1)) = capS (sumS n (ks.take k) + ks[k]) := by
  induction ks generalizing n k with
  | nil => simp at h
  | cons x l ih =>
    cases k with
    | zero => simp [sumS]
    | succ k =>
      rw [List.take_succ_cons, List.take_succ_cons, sumS, sumS, ih _ k (by simpa using h)]; rfl
theorem goodS_take {ks : List Int} (h : GoodS ks) (k : Nat) : GoodS (ks.take k) := fun x hx => h x (List.mem_of_mem_take hx)

theorem stepsOf_if (B ks : List Int) (n : Int) {a b c : Int} (h : ks = [a, b, c]) : stepsOf B 21 n ks = capS (1 + a + max b c) := by
  subst h; simp [stepsOf]
theorem stepsOf_sum (B ks : List Int) (op n : Int) (h : op ≠ 21 ∨ ks.length ≠ 3) : stepsOf B op n ks = if op = 22 ∧ 0 ≤ n ∧ n < B.length then capS (sumS 1 ks + B.getD n.toNat 0) else sumS 1 ks := by
  unfold stepsOf
  split
  · rename_i a b c hx
    exfalso
    by_cases ho : op = 21
    · simp [ho] at hx; subst hx; simp [ho] at h
    · simp [ho] at hx
  · rfl
theorem len_3s {l : List Int} (h : l.length = 3) : ∃ a b c, l = [a, b, c] := by
  match l, h with | [a, b, c], _ => exact ⟨a, b, c, rfl⟩

set_option maxRecDepth 100000 in
set_option maxHeartbeats 4000000 in
theorem rcount_any (B : List Int) (hB : GoodS B) (e : Ex) : ∀ (S S1 : Nat → Prop) (vB : Value) (cs : List Value) (w : World), Rd w S1 (.sl (B.map D.int)) [vB] → Rd w S e.d cs → parts e ≤ 1000000 →
    Calls Try.prog 50 #[vB, .agg cs.toArray] w fun r w' => r = .returned (.int .i64 (countE B e)) ∧ Ext w w' := by
  induction e using Ex.ind with | h o m s l ih => ?_
  intro S S1 vB cs w hvB hr hbd
  obtain ⟨A, cap, b, off, rfl, hl1, hl2, hl3, hm⟩ := Ex.open hr
  obtain ⟨AB, capB, bB, offB, rfl, B1, B2, B3, B4⟩ := Rd.sl_open hvB
  simp only [Ex.args, Ex.op, Ex.n, Ex.s, List.length_map] at *
  have hll : l.length ≤ 1000000 := by rw [parts] at hbd; have := partsL_len l; omega
  have hvB' := Lib.hid hvB; have hl3' := Lib.hid hl3; have hm' := Lib.hid hm; have B3' := Lib.hid B3; have B4' := Lib.hid B4
  have hB' := Lib.hid hB
  have H := Lib.hid (show countE B (.mk o m s l) = stepsOf B o m (l.map (countE B)) by rw [countE, countL_map])
  have hks : GoodS (l.map (countE B)) := by rw [← countL_map]; exact countL_good B hB l
  have hks' := Lib.hid hks
  clear hvB hr hl3 hm B3 B4 hB hks
  go_enter Try.func50, Try.ntmps50
  go_wp2_with fail
  go_loopw [6, 7] (fun x i wr => ∃ (k : Nat), k ≤ l.length ∧ i = .int .i64 k ∧ wr.ownsRow (w.heap.size + 1) 3 1 x k (((l.map (countE B)).take k).map (Value.int .i64)) ∧ Ext (w.alloc (.cells #[.int .i64 o, .int .i64 m, .string s, .slice A l.length cap] 25)) wr) (fun _ i _ => l.length - (intOf i).toNat)
  case atStart => exact ⟨0, by omega, rfl, World.ownsRow_nil _ _ _ _, Ext.refl _⟩
  case round =>
    obtain ⟨k, hk, rfl, hown, hb⟩ := hrel
    have e0 : wr.cell? ⟨w.heap.size, 0, none⟩ = some (.int .i64 o) := hb.at (by go_simp)
    have e1 : wr.cell? ⟨w.heap.size, 1, none⟩ = some (.int .i64 m) := hb.at (by go_simp)
    have e3 : wr.cell? ⟨w.heap.size, 3, none⟩ = some (.slice A l.length cap) := hb.at (by go_simp)
    have hw : Ext w wr := ((Ext.refl _).alloc _).trans hb
    by_cases hlt : k < l.length
    · obtain ⟨rfl, hSb⟩ := hl3'.out (by omega)
      obtain ⟨A1, cap1, b1, off1, c0, c1, c2, c3, hr', -⟩ := Ex.at (hm'.out.ext (fun _ => hSb) hw) hlt
      have hr2 := Lib.hid hr'
      have hSb' := Lib.hid hSb
      clear hr' hSb
      have hpb : parts l[k] ≤ 1000000 := by rw [parts] at hbd; have := partsL_mem l l[k] (List.getElem_mem hlt); omega
      go_wp2_with fail
      refine (ih l[k] (List.getElem_mem hlt) S S1 _ _ wr (hvB'.out.ext hw) hr2.out hpb).mono ?_
      rintro r w1 ⟨rfl, he⟩
      have hown1 : w1.ownsRow (w.heap.size + 1) 3 1 _ k (((l.map (countE B)).take k).map (Value.int .i64)) := own_ext hown he
      have hsz := (hb.trans he).size
      have hd := Lib.hid (show (((l.map (countE B)).take (k + 1)).map (Value.int .i64)) = (((l.map (countE B)).take k).map (Value.int .i64)) ++ [Value.int .i64 (countE B l[k])] by rw [List.take_succ_eq_append_getElem (by simpa using hlt)]; simp)
      go_wp2_with (at_builtin; refine wp_append1 _ _ _ rfl _ _ _ rfl (w.heap.size + 1) 3 1 8 _ Try.underlying31 Try.info3 rfl (by decide) (by decide) _ _ _ rfl hown1 rfl rfl (by intro u hu; simp at hu; subst hu; rfl) (by omega) (by simpa using hsz) ?_; intro v' w2 hown2 hg2 hn2)
      go_roundw
      case rel => exact ⟨k + 1, by omega, by go_num, by rw [hd.out]; exact hown2, (hb.trans he).grown hown1 (by simp) hg2⟩
      case measure => simp [intOf]; omega
    · have hkl : k = l.length := by omega
      subst hkl
      obtain ⟨ks, hks2⟩ : ∃ ks, ks = l.map (countE B) := ⟨_, rfl⟩
      rw [← hks2] at hown H hks'
      have hlen : ks.length = l.length := by rw [hks2]; simp
      rw [← hlen] at hown
      rw [List.take_length] at hown
      have hR := own_ints (S := Any) hown (fun _ _ => trivial)
      obtain ⟨A9, cap9, b9, off9, rfl, z1, z2, z3, z4⟩ := Rd.sl_open hR
      simp only [List.length_map] at *
      have z3' := Lib.hid z3; have z4' := Lib.hid z4
      have hlen' := Lib.hid hlen
      have hkl2 : ks.length ≤ 1000000 := by omega
      clear hR z3 z4 hown hlt hks2 hlen
      by_cases h3 : o = 21 ∧ ks.length = 3
      · obtain ⟨rfl, hl⟩ := h3
        obtain ⟨x0, x1, x2, rfl⟩ := len_3s hl
        obtain ⟨rfl, -⟩ := z3'.out (by simp)
        have y0 := ints_at z4'.out (k := 0) (by simp)
        have y1 := ints_at z4'.out (k := 1) (by simp)
        have y2 := ints_at z4'.out (k := 2) (by simp)
        simp only [List.getElem_cons_zero, List.getElem_cons_succ, Nat.add_zero, List.length_cons, List.length_nil, Nat.zero_add, Nat.reduceAdd] at *
        have k0 := hks'.out x0 (by simp)
        have k1 := hks'.out x1 (by simp)
        have k2 := hks'.out x2 (by simp)
        have H2 := Lib.hid (H.out.trans (stepsOf_if B _ m rfl))
        clear H
        have gy0 := ExtW.at y0
        have gy1 := ExtW.at y1
        have gy2 := ExtW.at y2
        go_wp2_with fail
        refine wp_region_ext (by kernel_rfl) (by kernel_rfl) ?_
        repeat (go_big_quiet_step ((fail)))
        refine wpQuiet_nil ?_
        intro w1 he
        go_wp2_with fail
        all_goals
          go_ret
          exact ⟨ret_int (by rw [H2.out]; unfold capS; omega), hw.trans he⟩
      · have h3' : o ≠ 21 ∨ ks.length ≠ 3 := by
          by_cases ho : o = 21
          · right; exact fun h => h3 ⟨ho, h⟩
          · left; exact ho
        have H2 := Lib.hid (H.out.trans (stepsOf_sum B ks o m h3'))
        clear H h3
        obtain ⟨wo, rfl⟩ : ∃ wo : World, wo = wr := ⟨_, rfl⟩
        have h3c := Lib.hid h3'
        clear h3'
        have hcond : (o = 21 ∧ ¬ ks.length = 3) ∨ (o == 21) = false := by
          by_cases ho : o = 21
          · left; exact ⟨ho, h3c.out.resolve_left (fun h => h ho)⟩
          · right; simp [ho]
        rcases hcond with ⟨rfl, hq⟩ | hq
        all_goals
          go_wp2_with fail
          go_loopw [5, 8] (fun x i wr => ∃ (j : Nat) (q : Int), j ≤ ks.length ∧ i = .int .i64 j ∧ x = .int .i64 q ∧ 0 ≤ q ∧ q ≤ 1099511627776 ∧ Hid (q = sumS 1 (ks.take j)) ∧ Ext wo wr) (fun _ i _ => ks.length - (intOf i).toNat)
          case atStart => exact ⟨0, 1, by omega, rfl, rfl, by omega, by omega, Lib.hid rfl, Ext.refl _⟩
          case round =>
            obtain ⟨j, q, hj, rfl, rfl, hq1, hq2, HH, hx⟩ := hrel
            have e0 := hx.at e0
            have e1 := hx.at e1
            by_cases hjl : j < ks.length
            · obtain ⟨rfl, -⟩ := z3'.out (by omega)
              have y0 := hx.at (ints_at z4'.out hjl)
              have hkb := hks'.out ks[j] (List.getElem_mem hjl)
              have HH2 := Lib.hid (show capS (q + ks[j]) = sumS 1 (ks.take (j + 1)) by rw [sumS_take 1 ks j hjl, ← HH.out])
              have hcb := capS_bd (n := q + ks[j]) (by omega)
              clear HH
              go_wp2_with fail
              all_goals
                go_roundw
                case rel => exact ⟨j + 1, capS (q + ks[j]), by omega, by go_num, by first | rfl | (simp [capS, Int.min_def]; done) | (simp only [capS]; congr 1; omega), by omega, by omega, HH2, hx⟩
                case measure => simp [intOf]; omega
            · have hjk : j = ks.length := by omega
              subst hjk
              have HH2 := Lib.hid (show q = sumS 1 ks by rw [HH.out, List.take_length])
              clear HH
              first
                | (have h22 : (21 : Int) ≠ 22 := by decide
                   have H3 := Lib.hid (H2.out.trans (if_neg (fun h => absurd h.1 (by decide))))
                   clear H2 h22
                   go_wp2_with fail
                   go_ret
                   exact ⟨ret_int (by rw [H3.out, HH2.out]), hw.trans hx⟩)
                | (by_cases hc : o = 22 ∧ 0 ≤ m ∧ m < B.length
                   · obtain ⟨rfl, hm1, hm2⟩ := hc
                     obtain ⟨j, rfl⟩ := Int.eq_ofNat_of_zero_le hm1
                     have hjB : j < B.length := by omega
                     obtain ⟨rfl, hSB⟩ := B3'.out (by omega)
                     have y0 := (ints_at (B4'.out.ext (fun _ => hSB) (hw.trans hx)) hjB)
                     have hSB' := Lib.hid hSB
                     clear hSB
                     have H3 := Lib.hid (H2.out.trans (if_pos ⟨rfl, hm1, hm2⟩))
                     have hgB := hB'.out B[j] (List.getElem_mem hjB)
                     have H4 := Lib.hid (show B.getD (j : Int).toNat 0 = B[j] by simp [List.getD_eq_getElem?_getD, List.getElem?_eq_getElem hjB])
                     clear H2
                     go_wp2_with fail
                     all_goals
                       go_ret
                       exact ⟨ret_int (by rw [H3.out, H4.out, ← HH2.out]; unfold capS; omega), hw.trans hx⟩
                   · have H3 := Lib.hid (H2.out.trans (if_neg hc))
                     clear H2
                     by_cases h22 : o = 22
                     · subst h22
                       have hc2 : m < 0 ∨ (B.length : Int) ≤ m := by omega
                       clear hc
                       rcases hc2 with hc | hc
                       · have hm1 : ¬ 0 ≤ m := by omega
                         go_wp2_with fail
                         all_goals
                           go_ret
                           exact ⟨ret_int (by rw [H3.out, HH2.out]), hw.trans hx⟩
                       · have hm1 : ¬ m < (B.length : Int) := by omega
                         have hm0 : 0 ≤ m := by omega
                         all_goals
                           go_wp2_with fail
                           go_ret
                           exact ⟨ret_int (by rw [H3.out, HH2.out]), hw.trans hx⟩
                     · have h22b : (o == 22) = false := by simp [h22]
                       clear hc
                       go_wp2_with fail
                       go_ret
                       exact ⟨ret_int (by rw [H3.out, HH2.out]), hw.trans hx⟩)

set_option maxRecDepth 10000 in
set_option maxHeartbeats 2000000 in
theorem rsteps_any (F : List Fn) (e : Ex) (S S1 : Nat → Prop) (vF : Value) (cs : List Value) (w : World) (hF : Rd w S1 (.sl (F.map Fn.d)) [vF]) (hr : Rd w S e.d cs) (hbd : parts e ≤ 1000000) (hp : ∀ f ∈ F, parts f.body ≤ 1000000) (hlen : F.length ≤ 1000000) :
    Calls Try.prog 25 #[vF, .agg cs.toArray] w fun r w' => r = .returned (.int .i64 (stepsP F e)) ∧ Ext w w' := by
  obtain ⟨A, cap, b, off, rfl, hl1, hl2, hl3, hm⟩ := Ex.open hr
  obtain ⟨AF, capF, bF, offF, rfl, F1, F2, F3, F4⟩ := Rd.sl_open hF
  simp only [List.length_map] at *
  have hr' := Lib.hid hr; have F3' := Lib.hid F3; have F4' := Lib.hid F4; have hp' := Lib.hid hp
  clear hF hr hm hl3 F3 F4 hp
  go_enter Try.func25, Try.ntmps25
  go_wp2_with fail
  go_loopw [5, 6] (fun x i wr => ∃ (k : Nat) (B : List Int), k ≤ F.length ∧ i = .int .i64 k ∧ B.length = k ∧ wr.ownsRow (w.heap.size + 1) 3 1 x k (B.map (Value.int .i64)) ∧ Hid (GoodS B ∧ bodiesS [] F = bodiesS B (F.drop k)) ∧ Ext (w.alloc (.cells #[.int .i64 e.op, .int .i64 e.n, .string e.s, .slice A e.args.length cap] 25)) wr) (fun _ i _ => F.length - (intOf i).toNat)
  case atStart => exact ⟨0, [], by omega, rfl, rfl, World.ownsRow_nil _ _ _ _, Lib.hid ⟨fun k hk => by simp at hk, rfl⟩, Ext.refl _⟩
  case round =>
    obtain ⟨k, B, hk, rfl, hBk, hown, HH, hb⟩ := hrel
    have hBk' := Lib.hid hBk
    have e0 : wr.cell? ⟨w.heap.size, 0, none⟩ = some (.int .i64 e.op) := hb.at (by go_simp)
    have e1 : wr.cell? ⟨w.heap.size, 1, none⟩ = some (.int .i64 e.n) := hb.at (by go_simp)
    have e2 : wr.cell? ⟨w.heap.size, 2, none⟩ = some (.string e.s) := hb.at (by go_simp)
    have e3 : wr.cell? ⟨w.heap.size, 3, none⟩ = some (.slice A e.args.length cap) := hb.at (by go_simp)
    have hw : Ext w wr := ((Ext.refl _).alloc _).trans hb
    subst hBk
    have hR := own_ints (S := Any) hown (fun _ _ => trivial)
    have hR' := Lib.hid hR
    clear hR
    by_cases hlt : B.length < F.length
    · obtain ⟨rfl, hSb⟩ := F3'.out (by omega)
      obtain ⟨A1, cap1, b1, off1, A2, cap2, b2, off2, c0, c1, c2, c3, c4, c5, c6, hr0, q1, q2, q3, q4, q5, q6, q7, q8⟩ := Fn.at (F4'.out.ext (fun _ => hSb) hw) hlt
      have hbod := Lib.hid (Ex.mk_rd q5 q6 q7 q8)
      have hpb := hp'.out F[B.length] (List.getElem_mem hlt)
      have hSb' := Lib.hid hSb
      clear hr0 q3 q4 q5 q7 q8 hSb
      go_wp2_with fail
      refine (rcount_any B HH.out.1 F[B.length].body _ Any _ _ wr hR'.out hbod.out hpb).mono ?_
      rintro r w1 ⟨rfl, he⟩
      have hown1 := own_ext hown he
      have hsz := (hb.trans he).size
      go_wp2_with (at_builtin; refine wp_append1 _ _ _ rfl _ _ _ rfl (w.heap.size + 1) 3 1 8 _ Try.underlying31 Try.info3 rfl (by decide) (by decide) _ _ _ rfl hown1 rfl rfl (by intro u hu; simp at hu; subst hu; rfl) (by omega) (by simpa using hsz) ?_; intro v' w2 hown2 hg2 hn2)
      have HH2 := Lib.hid (show GoodS (B ++ [countE B F[B.length].body]) ∧ bodiesS [] F = bodiesS (B ++ [countE B F[B.length].body]) (F.drop (B.length + 1)) from ⟨fun x hx => by
        rcases List.mem_append.1 hx with hx | hx
        · exact HH.out.1 x hx
        · simp at hx; subst hx; exact countE_bd B HH.out.1 _, by rw [HH.out.2, List.drop_eq_getElem_cons hlt, bodiesS]⟩)
      go_roundw
      case rel => exact ⟨B.length + 1, B ++ [countE B F[B.length].body], by omega, by go_num, by simp, by simpa using hown2, HH2, (hb.trans he).grown hown1 (by simp) hg2⟩
      case measure => simp [intOf]; omega
    · have hkl : F.drop B.length = [] := List.drop_eq_nil_of_le (by omega)
      have H := Lib.hid (show stepsP F e = countE B e by unfold stepsP; rw [HH.out.2, hkl, bodiesS])
      clear hkl
      go_wp2_with fail
      refine (rcount_any B HH.out.1 e S Any _ _ wr hR'.out (hr'.out.ext hw) hbd).mono ?_
      rintro r w1 ⟨rfl, he⟩
      go_wp2_with fail
      go_ret
      exact ⟨ret_int (by rw [H.out]), hw.trans he⟩

end Go.Proofs.Ytmhelkhmgbbfhaa

/- Walk: what is good. -/
namespace Go.Proofs.Ytmhelkhmgbbfhaa
open Go.RowKit Go.Lib

def goodP (F : List Fn) (e : Ex) (R : List Val) : Bool :=
  fair F && decide (0 ≤ light e 100 20) && fitsR R && (typeP F (R.map Val.k) [] e).isSome && decide (stepsP F e ≤ 10000)

theorem goodP_parts {F : List Fn} {e : Ex} {R : List Val} (h1 : fair F = true) (h2 : 0 ≤ light e 100 20) (h3 : fitsR R = true) : F.length ≤ 22 ∧ (∀ f ∈ F, parts f.body ≤ 1000000) ∧ parts e ≤ 1000000 ∧ R.length ≤ 20 := by
  unfold fair at h1
  simp only [Bool.and_eq_true, List.all_eq_true, decide_eq_true_eq] at h1
  unfold fitsR at h3
  simp only [Bool.and_eq_true, List.all_eq_true, decide_eq_true_eq] at h3
  refine ⟨by omega, fun f hf => ?_, ?_, by omega⟩
  · have h := h1.1 f hf
    unfold fairB at h
    simp only [Bool.and_eq_true, decide_eq_true_eq] at h
    have := parts_of_light (by omega) h.1; omega
  · have := parts_of_light (by omega) h2; omega

set_option maxRecDepth 10000 in
set_option maxHeartbeats 2000000 in
theorem good_any (F : List Fn) (e : Ex) (R : List Val) (S S1 S2 : Nat → Prop) (vF vR : Value) (cs : List Value) (w : World) (hF : Rd w S (.sl (F.map Fn.d)) [vF]) (hr : Rd w S1 e.d cs) (hR : Rd w S2 (.sl (R.map Val.d)) [vR]) :
    Calls Try.prog 10 #[vF, .agg cs.toArray, vR] w fun r w' => r = .returned (.bool (goodP F e R)) ∧ Ext w w' := by
  obtain ⟨A, cap, b, off, rfl, hl1, hl2, hl3, hm⟩ := Ex.open hr
  have hF' := Lib.hid hF; have hr' := Lib.hid hr; have hR' := Lib.hid hR
  clear hF hr hR hm hl3
  have hcf := fair_any F S vF
  cases hfair : fair F with
  | false =>
    rw [hfair] at hcf
    have hcf' := Lib.hid hcf
    have H := Lib.hid (show goodP F e R = false by unfold goodP; rw [hfair]; rfl)
    clear hcf hfair
    go_enter Try.func10, Try.ntmps10
    go_wp2_with fail
    refine (hcf'.out _ (hF'.out.ext (by repeat' first | exact Ext.refl _ | assumption | apply Ext.alloc | apply Ext.drew | apply Ext.drewN | (refine Ext.trans ?_ (by assumption))))).mono ?_
    rintro r w1 ⟨rfl, he⟩
    go_wp2_with fail
    go_ret
    exact ⟨ret_bool (by rw [H.out]), (by repeat' first | exact Ext.refl _ | assumption | apply Ext.alloc | apply Ext.drew | apply Ext.drewN | (refine Ext.trans ?_ (by assumption)))⟩
  | true =>
  rw [hfair] at hcf
  have hcf' := Lib.hid hcf
  clear hcf
  by_cases hlight : light e 100 20 < 0
  · have H := Lib.hid (show goodP F e R = false by unfold goodP; rw [decide_eq_false (p := 0 ≤ light e 100 20) (by omega)]; simp)
    clear hfair
    go_enter Try.func10, Try.ntmps10
    go_wp2_with fail
    refine (hcf'.out _ (hF'.out.ext (by repeat' first | exact Ext.refl _ | assumption | apply Ext.alloc | apply Ext.drew | apply Ext.drewN | (refine Ext.trans ?_ (by assumption))))).mono ?_
    rintro r w1 ⟨rfl, he⟩
    have hcs := he.cells
    go_wp2_with fail
    refine (light_any e S1 _ 100 20 w1 (hr'.out.ext (by repeat' first | exact Ext.refl _ | assumption | apply Ext.alloc | apply Ext.drew | apply Ext.drewN | (refine Ext.trans ?_ (by assumption)))) (by omega) (by omega) (by omega) (by omega)).mono ?_
    rintro r w2 ⟨rfl, he2⟩
    go_wp2_with fail
    go_ret
    exact ⟨ret_bool (by rw [H.out]), (by repeat' first | exact Ext.refl _ | assumption | apply Ext.alloc | apply Ext.drew | apply Ext.drewN | (refine Ext.trans ?_ (by assumption)))⟩
  have hcr := fits_any R S2 vR
  cases hfits : fitsR R with
  | false =>
    rw [hfits] at hcr
    have hcr' := Lib.hid hcr
    have H := Lib.hid (show goodP F e R = false by unfold goodP; rw [hfits]; simp)
    clear hcr hfits hfair
    go_enter Try.func10, Try.ntmps10
    go_wp2_with fail
    refine (hcf'.out _ (hF'.out.ext (by repeat' first | exact Ext.refl _ | assumption | apply Ext.alloc | apply Ext.drew | apply Ext.drewN | (refine Ext.trans ?_ (by assumption))))).mono ?_
    rintro r w1 ⟨rfl, he⟩
    have hcs := he.cells
    go_wp2_with fail
    refine (light_any e S1 _ 100 20 w1 (hr'.out.ext (by repeat' first | exact Ext.refl _ | assumption | apply Ext.alloc | apply Ext.drew | apply Ext.drewN | (refine Ext.trans ?_ (by assumption)))) (by omega) (by omega) (by omega) (by omega)).mono ?_
    rintro r w2 ⟨rfl, he2⟩
    go_wp2_with fail
    refine (hcr'.out w2 (hR'.out.ext (by repeat' first | exact Ext.refl _ | assumption | apply Ext.alloc | apply Ext.drew | apply Ext.drewN | (refine Ext.trans ?_ (by assumption))))).mono ?_
    rintro r w3 ⟨rfl, he3⟩
    go_wp2_with fail
    go_ret
    exact ⟨ret_bool (by rw [H.out]), (by repeat' first | exact Ext.refl _ | assumption | apply Ext.alloc | apply Ext.drew | apply Ext.drewN | (refine Ext.trans ?_ (by assumption)))⟩
  | true =>
  rw [hfits] at hcr
  have hcr' := Lib.hid hcr
  clear hcr
  obtain ⟨hp1, hp2, hp3, hp4⟩ := goodP_parts (e := e) hfair (by omega) hfits
  have hG := Lib.hid (show goodP F e R = ((typeP F (R.map Val.k) [] e).isSome && decide (stepsP F e ≤ 10000)) by
    unfold goodP; rw [hfair, hfits, decide_eq_true (p := 0 ≤ light e 100 20) (by omega)]; rfl)
  have hp2' := Lib.hid hp2
  have hl0 : 0 ≤ light e 100 20 := by omega
  have hty := fun (vc : Value) (w' : World) (h1 : Rd w' S (.sl (F.map Fn.d)) [vF]) (h2 : Rd w' Any (.sl ((R.map Val.k).map D.int)) [vc]) (h3 : Rd w' S1 e.d [.int .i64 e.op, .int .i64 e.n, .string e.s, .slice A e.args.length cap]) =>
    rtype_any F (R.map Val.k) [] e S Any Any S1 vF vc (.slice none 0 0) _ w' h1 h2 (Rd.nil none (by omega)) h3 hp3 hp2
  clear hfair hfits hp2
  cases hT : typeP F (R.map Val.k) [] e with
  | none =>
    simp only [hT] at hty
    have hty' := Lib.hid hty
    have hT' := Lib.hid hT
    clear hty hT
    go_enter Try.func10, Try.ntmps10
    go_wp2_with fail
    refine (hcf'.out _ (hF'.out.ext (by repeat' first | exact Ext.refl _ | assumption | apply Ext.alloc | apply Ext.drew | apply Ext.drewN | (refine Ext.trans ?_ (by assumption))))).mono ?_
    rintro r w1 ⟨rfl, he⟩
    have hcs := he.cells
    go_wp2_with fail
    refine (light_any e S1 _ 100 20 w1 (hr'.out.ext (by repeat' first | exact Ext.refl _ | assumption | apply Ext.alloc | apply Ext.drew | apply Ext.drewN | (refine Ext.trans ?_ (by assumption)))) (by omega) (by omega) (by omega) (by omega)).mono ?_
    rintro r w2 ⟨rfl, he2⟩
    go_wp2_with fail
    refine (hcr'.out w2 (hR'.out.ext (by repeat' first | exact Ext.refl _ | assumption | apply Ext.alloc | apply Ext.drew | apply Ext.drewN | (refine Ext.trans ?_ (by assumption))))).mono ?_
    rintro r w3 ⟨rfl, he3⟩
    clear hcs
    have hw3 : Ext w w3 := (by repeat' first | exact Ext.refl _ | assumption | apply Ext.alloc | apply Ext.drew | apply Ext.drewN | (refine Ext.trans ?_ (by assumption)))
    have e0 : w3.cell? ⟨w.heap.size, 0, none⟩ = some (.int .i64 e.op) := he3.at (he2.at (he.at (by go_simp)))
    have e1 : w3.cell? ⟨w.heap.size, 1, none⟩ = some (.int .i64 e.n) := he3.at (he2.at (he.at (by go_simp)))
    have e2 : w3.cell? ⟨w.heap.size, 2, none⟩ = some (.string e.s) := he3.at (he2.at (he.at (by go_simp)))
    have e3 : w3.cell? ⟨w.heap.size, 3, none⟩ = some (.slice A e.args.length cap) := he3.at (he2.at (he.at (by go_simp)))
    clear he he2 he3
    go_wp2_with fail
    go_region_held3 (fun w' => w'.cell? ⟨w.heap.size, 0, none⟩ = some (.int .i64 e.op) ∧ w'.cell? ⟨w.heap.size, 1, none⟩ = some (.int .i64 e.n) ∧ w'.cell? ⟨w.heap.size, 2, none⟩ = some (.string e.s) ∧ w'.cell? ⟨w.heap.size, 3, none⟩ = some (.slice A e.args.length cap))
      (first
        | exact ⟨e0, e1, e2, e3⟩
        | exact ⟨he4.at e0, he4.at e1, he4.at e2, he4.at e3⟩
        | exact ⟨he5.at (he4.at e0), he5.at (he4.at e1), he5.at (he4.at e2), he5.at (he4.at e3)⟩)
      ((first
        | (go_at_call 12; refine (kinds_any R S2 vR _ (hR'.out.ext (hw3.trans (Ext.refl _).drew)) (by omega)).mono ?_; rintro r w4 ⟨⟨v', rfl, hown⟩, he4⟩)
        | (go_at_call 31; refine (hty'.out _ w4 (hF'.out.ext ((hw3.trans (Ext.refl _).drew).trans he4)) (own_ints hown (fun _ _ => trivial)) (hr'.out.ext ((hw3.trans (Ext.refl _).drew).trans he4))).mono ?_; rintro r w5 ⟨rfl, he5⟩)))
    have hw5 : Ext w w5 := ((hw3.trans (Ext.refl _).drew).trans he4).trans he5
    go_wp2_with fail
    go_ret
    exact ⟨ret_bool (by rw [hG.out, hT'.out]; rfl), hw5⟩
  | some t =>
    simp only [hT] at hty
    have hty' := Lib.hid hty
    have hT' := Lib.hid hT
    clear hty hT
    go_enter Try.func10, Try.ntmps10
    go_wp2_with fail
    refine (hcf'.out _ (hF'.out.ext (by repeat' first | exact Ext.refl _ | assumption | apply Ext.alloc | apply Ext.drew | apply Ext.drewN | (refine Ext.trans ?_ (by assumption))))).mono ?_
    rintro r w1 ⟨rfl, he⟩
    have hcs := he.cells
    go_wp2_with fail
    refine (light_any e S1 _ 100 20 w1 (hr'.out.ext (by repeat' first | exact Ext.refl _ | assumption | apply Ext.alloc | apply Ext.drew | apply Ext.drewN | (refine Ext.trans ?_ (by assumption)))) (by omega) (by omega) (by omega) (by omega)).mono ?_
    rintro r w2 ⟨rfl, he2⟩
    go_wp2_with fail
    refine (hcr'.out w2 (hR'.out.ext (by repeat' first | exact Ext.refl _ | assumption | apply Ext.alloc | apply Ext.drew | apply Ext.drewN | (refine Ext.trans ?_ (by assumption))))).mono ?_
    rintro r w3 ⟨rfl, he3⟩
    clear hcs
    have hw3 : Ext w w3 := (by repeat' first | exact Ext.refl _ | assumption | apply Ext.alloc | apply Ext.drew | apply Ext.drewN | (refine Ext.trans ?_ (by assumption)))
    have e0 : w3.cell? ⟨w.heap.size, 0, none⟩ = some (.int .i64 e.op) := he3.at (he2.at (he.at (by go_simp)))
    have e1 : w3.cell? ⟨w.heap.size, 1, none⟩ = some (.int .i64 e.n) := he3.at (he2.at (he.at (by go_simp)))
    have e2 : w3.cell? ⟨w.heap.size, 2, none⟩ = some (.string e.s) := he3.at (he2.at (he.at (by go_simp)))
    have e3 : w3.cell? ⟨w.heap.size, 3, none⟩ = some (.slice A e.args.length cap) := he3.at (he2.at (he.at (by go_simp)))
    clear he he2 he3
    go_wp2_with fail
    go_region_held3 (fun w' => w'.cell? ⟨w.heap.size, 0, none⟩ = some (.int .i64 e.op) ∧ w'.cell? ⟨w.heap.size, 1, none⟩ = some (.int .i64 e.n) ∧ w'.cell? ⟨w.heap.size, 2, none⟩ = some (.string e.s) ∧ w'.cell? ⟨w.heap.size, 3, none⟩ = some (.slice A e.args.length cap))
      (first
        | exact ⟨e0, e1, e2, e3⟩
        | exact ⟨he4.at e0, he4.at e1, he4.at e2, he4.at e3⟩
        | exact ⟨he5.at (he4.at e0), he5.at (he4.at e1), he5.at (he4.at e2), he5.at (he4.at e3)⟩)
      ((first
        | (go_at_call 12; refine (kinds_any R S2 vR _ (hR'.out.ext (hw3.trans (Ext.refl _).drew)) (by omega)).mono ?_; rintro r w4 ⟨⟨v', rfl, hown⟩, he4⟩)
        | (go_at_call 31; refine (hty'.out _ w4 (hF'.out.ext ((hw3.trans (Ext.refl _).drew).trans he4)) (own_ints hown (fun _ _ => trivial)) (hr'.out.ext ((hw3.trans (Ext.refl _).drew).trans he4))).mono ?_; rintro r w5 ⟨rfl, he5⟩)))
    have hw5 : Ext w w5 := ((hw3.trans (Ext.refl _).drew).trans he4).trans he5
    have e0 := he4.at e0
    have e1 := he4.at e1
    have e2 := he4.at e2
    have e3 := he4.at e3
    have e0 := he5.at e0
    have e1 := he5.at e1
    have e2 := he5.at e2
    have e3 := he5.at e3
    have hst := rsteps_any F e S1 S vF _ w5 (hF'.out.ext hw5) (hr'.out.ext hw5) hp3 hp2'.out (by omega)
    have hst' := Lib.hid hst; clear hst
    go_wp2_with fail
    refine (hst'.out).mono ?_
    rintro r w6 ⟨rfl, he6⟩
    go_wp2_with fail
    go_ret
    exact ⟨ret_bool (by rw [hG.out, hT'.out]; rfl), hw5.trans he6⟩

end Go.Proofs.Ytmhelkhmgbbfhaa

/- Walk: the law ExprSound. -/
namespace Go.Proofs.Ytmhelkhmgbbfhaa
open Go.RowKit Go.Lib

theorem good_all {F : List Fn} {e : Ex} {R : List Val} (h : goodP F e R = true) : ∃ t, typeP F (R.map Val.k) [] e = some t ∧ rightF F = true ∧ ty F (R.map Val.k) [] e = some t ∧ (∀ i, i < F.length → okF F i = true) ∧ (∀ f ∈ F, parts f.body ≤ 1000000) ∧ parts e ≤ 1000000 ∧ R.length ≤ 20 ∧ (∀ v ∈ R, soundV v) ∧ levels e ≤ 12 := by
  unfold goodP at h
  simp only [Bool.and_eq_true, decide_eq_true_eq] at h
  obtain ⟨⟨⟨⟨h1, h2⟩, h3⟩, h4⟩, h5⟩ := h
  obtain ⟨-, p2, p3, p4⟩ := goodP_parts h1 h2 h3
  obtain ⟨t, ht⟩ := Option.isSome_iff_exists.1 h4
  have htD := ht
  unfold typeP at htD
  split at htD
  · rename_i hF
    unfold tyD at htD
    split at htD
    · cases htD
    · rename_i hlev
      refine ⟨t, ht, hF, htD, ?_, p2, p3, p4, ?_, by omega⟩
      · unfold rightF at hF
        simp only [Bool.and_eq_true, List.all_eq_true, List.mem_range] at hF
        exact hF.2
      · unfold fitsR at h3
        simp only [Bool.and_eq_true, List.all_eq_true] at h3
        intro v hv
        have := h3.1 v hv
        unfold fitB at this
        simp only [Bool.and_eq_true, decide_eq_true_eq] at this
        exact ⟨this.1, by omega⟩
  · cases htD

set_option maxRecDepth 10000 in
set_option maxHeartbeats 2000000 in
theorem sound_any (F : List Fn) (e : Ex) (time : Int) (R : List Val) (vF vR : Value) (cs : List Value) (w : World) (hF : Rd w Any (.sl (F.map Fn.d)) [vF]) (hr : Rd w Any e.d cs) (hR : Rd w Any (.sl (R.map Val.d)) [vR]) :
    Calls Try.prog 3 #[vF, .agg cs.toArray, .int .i64 time, vR] w fun r w' => r = .returned (.bool true) ∧ Ext w w' := by
  obtain ⟨A, cap, b, off, rfl, hl1, hl2, hl3, hm⟩ := Ex.open hr
  have hF' := Lib.hid hF; have hr' := Lib.hid hr; have hR' := Lib.hid hR
  clear hF hr hR hm hl3
  have hcg := fun w' h1 h2 h3 => good_any F e R Any Any Any vF vR [.int .i64 e.op, .int .i64 e.n, .string e.s, .slice A e.args.length cap] w' h1 h2 h3
  cases hg : goodP F e R with
  | false =>
    rw [hg] at hcg
    have hcg' := Lib.hid hcg
    clear hcg hg
    go_enter Try.func3, Try.ntmps3
    go_wp2_with fail
    refine (small_any _).mono ?_
    rintro r w1 ⟨rfl, he⟩
    have e0 : w1.cell? ⟨w.heap.size, 0, none⟩ = some (.int .i64 e.op) := he.at (by go_simp)
    have e1 : w1.cell? ⟨w.heap.size, 1, none⟩ = some (.int .i64 e.n) := he.at (by go_simp)
    have e2 : w1.cell? ⟨w.heap.size, 2, none⟩ = some (.string e.s) := he.at (by go_simp)
    have e3 : w1.cell? ⟨w.heap.size, 3, none⟩ = some (.slice A e.args.length cap) := he.at (by go_simp)
    go_wp2_with fail
    refine (hcg'.out _ (hF'.out.ext (by repeat' first | exact Ext.refl _ | assumption | apply Ext.alloc | apply Ext.drew | apply Ext.drewN | (refine Ext.trans ?_ (by assumption)))) (hr'.out.ext (by repeat' first | exact Ext.refl _ | assumption | apply Ext.alloc | apply Ext.drew | apply Ext.drewN | (refine Ext.trans ?_ (by assumption)))) (hR'.out.ext (by repeat' first | exact Ext.refl _ | assumption | apply Ext.alloc | apply Ext.drew | apply Ext.drewN | (refine Ext.trans ?_ (by assumption))))).mono ?_
    rintro r w2 ⟨rfl, he2⟩
    go_wp2_with fail
    go_ret
    exact ⟨rfl, (by repeat' first | exact Ext.refl _ | assumption | apply Ext.alloc | apply Ext.drew | apply Ext.drewN | (refine Ext.trans ?_ (by assumption)))⟩
  | true =>
    rw [hg] at hcg
    have hcg' := Lib.hid hcg
    clear hcg
    obtain ⟨t, hT, hRF, hty, hOk, hFp, hpb, hlR, hsR, hlev⟩ := good_all hg
    have hct := fun (vc : Value) (w' : World) (h1 : Rd w' Any (.sl (F.map Fn.d)) [vF]) (h2 : Rd w' Any (.sl ((R.map Val.k).map D.int)) [vc]) (h3 : Rd w' Any e.d [.int .i64 e.op, .int .i64 e.n, .string e.s, .slice A e.args.length cap]) =>
      type_any F (R.map Val.k) [] e Any Any Any Any vF vc (.slice none 0 0) _ w' h1 h2 (Rd.nil none (by omega)) h3 hpb hFp
    simp only [hT, Option.getD_some, Option.isSome_some] at hct
    have hct' := Lib.hid hct
    have hev := fun w' h1 h2 h3 => Eval_any F time R e t hOk hFp hpb hty hsR vF vR [.int .i64 e.op, .int .i64 e.n, .string e.s, .slice A e.args.length cap] w' h1 h2 h3
    obtain ⟨hk, hs1, hs2⟩ := ev_sound (F := F) time hOk F.length e (by rw [List.take_length]; exact hty) rfl rfl hsR (show ∀ v ∈ ([] : List Val), soundV v by simp)
    have hZ : evalP F time R e = ev (callN F time F.length) time R [] e := rfl
    rw [← hZ] at hk hs1 hs2
    clear hZ
    have hri := fun w' => rightV_any (evalP F time R e) w'
    rw [hs1] at hri
    clear hT hRF hty hOk hFp hpb hsR hlev hct hg hs1
    generalize evalP F time R e = Z at *
    obtain ⟨kz, nz, sz⟩ := Z
    simp only [Val.v] at *
    subst hk
    have hev' := Lib.hid hev; have hri' := Lib.hid hri
    have hs3 : (sz.size : Int) ≤ 200 := by omega
    clear hev hri
    go_enter Try.func3, Try.ntmps3
    go_wp2_with fail
    refine (small_any _).mono ?_
    rintro r w1 ⟨rfl, he⟩
    have e0 : w1.cell? ⟨w.heap.size, 0, none⟩ = some (.int .i64 e.op) := he.at (by go_simp)
    have e1 : w1.cell? ⟨w.heap.size, 1, none⟩ = some (.int .i64 e.n) := he.at (by go_simp)
    have e2 : w1.cell? ⟨w.heap.size, 2, none⟩ = some (.string e.s) := he.at (by go_simp)
    have e3 : w1.cell? ⟨w.heap.size, 3, none⟩ = some (.slice A e.args.length cap) := he.at (by go_simp)
    go_wp2_with fail
    refine (hcg'.out _ (hF'.out.ext (by repeat' first | exact Ext.refl _ | assumption | apply Ext.alloc | apply Ext.drew | apply Ext.drewN | (refine Ext.trans ?_ (by assumption)))) (hr'.out.ext (by repeat' first | exact Ext.refl _ | assumption | apply Ext.alloc | apply Ext.drew | apply Ext.drewN | (refine Ext.trans ?_ (by assumption)))) (hR'.out.ext (by repeat' first | exact Ext.refl _ | assumption | apply Ext.alloc | apply Ext.drew | apply Ext.drewN | (refine Ext.trans ?_ (by assumption))))).mono ?_
    rintro r w2 ⟨rfl, he2⟩
    replace e0 := he2.at e0; replace e1 := he2.at e1; replace e2 := he2.at e2; replace e3 := he2.at e3
    have hw3 : Ext w w2 := (by repeat' first | exact Ext.refl _ | assumption | apply Ext.alloc | apply Ext.drew | apply Ext.drewN | (refine Ext.trans ?_ (by assumption)))
    clear he he2
    go_wp2_with fail
    go_region_held3 (fun w' => w'.cell? ⟨w.heap.size, 0, none⟩ = some (.int .i64 e.op) ∧ w'.cell? ⟨w.heap.size, 1, none⟩ = some (.int .i64 e.n) ∧ w'.cell? ⟨w.heap.size, 2, none⟩ = some (.string e.s) ∧ w'.cell? ⟨w.heap.size, 3, none⟩ = some (.slice A e.args.length cap))
      (first
        | exact ⟨e0, e1, e2, e3⟩
        | exact ⟨he4.at e0, he4.at e1, he4.at e2, he4.at e3⟩
        | exact ⟨he5.at (he4.at e0), he5.at (he4.at e1), he5.at (he4.at e2), he5.at (he4.at e3)⟩)
      ((first
        | (go_at_call 12; refine (kinds_any R Any vR _ (hR'.out.ext (hw3.trans (Ext.refl _).drew)) (by omega)).mono ?_; rintro r w4 ⟨⟨v', rfl, hown⟩, he4⟩)
        | (go_at_call 11; refine (hct'.out _ w4 (hF'.out.ext ((hw3.trans (Ext.refl _).drew).trans he4)) (own_ints hown (fun _ _ => trivial)) (hr'.out.ext ((hw3.trans (Ext.refl _).drew).trans he4))).mono ?_; rintro r w5 ⟨rfl, he5⟩)))
    have hw5 : Ext w w5 := ((hw3.trans (Ext.refl _).drew).trans he4).trans he5
    clear hown he4 he5 hw3
    go_wp2_with fail
    refine (hev'.out _ (hF'.out.ext hw5) (hR'.out.ext hw5) (hr'.out.ext hw5)).mono ?_
    rintro r w6 ⟨rfl, he6⟩
    have hw6 : Ext w w6 := hw5.trans he6
    clear hw5 he6
    go_wp2_with fail
    refine (hri'.out _).mono ?_
    rintro r w7 ⟨rfl, he7⟩
    have z0 : w7.cell? ⟨w6.heap.size, 0, none⟩ = some (.int .i64 kz) := he7.at (by go_simp)
    have z1 : w7.cell? ⟨w6.heap.size, 1, none⟩ = some (.int .i64 nz) := he7.at (by go_simp)
    have z2 : w7.cell? ⟨w6.heap.size, 2, none⟩ = some (.string sz) := he7.at (by go_simp)
    have hw7 : Ext w w7 := hw6.trans (((Ext.refl _).alloc _).trans he7)
    clear he7 hw6
    go_wp2_with fail
    go_ret
    exact ⟨rfl, hw7⟩
end Go.Proofs.Ytmhelkhmgbbfhaa

/- Pure: steps of typed expressions; what is evaluated. -/
namespace Go.Proofs.Ytmhelkhmgbbfhaa
open Go.RowKit Go.Lib

mutual
/-- an ExIf has three Args, a call one of the first m functions -/
def wfS (m : Nat) : Ex → Bool
  | .mk op n _ l => (!decide (op = 21) || decide (l.length = 3)) && (!decide (op = 22) || (decide (0 ≤ n) && decide (n < m))) && wfSL m l
def wfSL (m : Nat) : List Ex → Bool
  | [] => true
  | e :: l => wfS m e && wfSL m l
end
theorem wfSL_all (m : Nat) : ∀ l, wfSL m l = l.all (wfS m)
  | [] => by rw [wfSL]; rfl
  | e :: l => by rw [wfSL, wfSL_all m l]; rfl

theorem tys_len {F : List Fn} {c p : List Int} : ∀ (l : List Ex) {ts : List Int}, tys F c p l = some ts → ts.length = l.length
  | [], ts, h => by rw [tys] at h; cases h; rfl
  | e :: l, ts, h => by
    rw [tys] at h
    cases he : ty F c p e with
    | none => rw [he] at h; cases h
    | some t =>
      rw [he] at h
      cases hl : tys F c p l with
      | none => rw [hl] at h; cases h
      | some us => rw [hl] at h; cases h; simp [tys_len l hl]
theorem tail_ifW {F : List Fn} {c p : List Int} {n r : Int} {s : ByteArray} {ts : List Int} (h : tailT F c p 21 n s ts = some r) : ts.length = 3 := by
  unfold tailT at h
  split at h
  · cases h
  · rw [if_neg (by decide)] at h
    split at h
    · unfold leafT at h; simp at h
    · unfold operT at h
      split at h
      · cases h
      · simp at h
        split at h
        · rfl
        · cases h
theorem tail_callW {F : List Fn} {c p : List Int} {n r : Int} {s : ByteArray} {ts : List Int} (h : tailT F c p 22 n s ts = some r) : 0 ≤ n ∧ n < F.length := by
  unfold tailT at h
  split at h
  · cases h
  · rw [if_pos rfl] at h
    unfold callT at h
    split at h
    · cases h
    · split at h
      · rename_i hf
        have := (List.getElem?_eq_some_iff.1 hf).1
        omega
      · cases h
theorem wfS_of_ty {F : List Fn} {c p : List Int} (e : Ex) : ∀ {t : Int}, ty F c p e = some t → wfS F.length e = true := by
  induction e using Ex.ind with
  | h op n s l ih =>
    intro t ht
    rw [ty] at ht
    cases hl : tys F c p l with
    | none => rw [hl] at ht; cases ht
    | some ts =>
      rw [hl] at ht
      dsimp only at ht
      rw [wfS, wfSL_all]
      simp only [Bool.and_eq_true, List.all_eq_true, Bool.or_eq_true, Bool.not_eq_true', decide_eq_false_iff_not, decide_eq_true_eq]
      refine ⟨⟨?_, ?_⟩, fun e he => ?_⟩
      · by_cases ho : op = 21
        · subst ho; right; rw [← tys_len l hl]; exact tail_ifW ht
        · left; exact ho
      · by_cases ho : op = 22
        · subst ho; right; exact tail_callW ht
        · left; exact ho
      · obtain ⟨u, hu⟩ := tys_mem l hl e he
        exact ih e he hu

/-- the sum of numbers, cut at each addition, is the sum, cut -/
def sumI : List Int → Int
  | [] => 0
  | k :: l => k + sumI l
theorem sumI_nonneg : ∀ {l : List Int}, GoodS l → 0 ≤ sumI l
  | [], _ => by simp [sumI]
  | k :: l, h => by have := h k (by simp); have := sumI_nonneg (l := l) (fun x hx => h x (by simp [hx])); rw [sumI]; omega
theorem sumS_eq : ∀ (l : List Int) (n : Int), GoodS l → 0 ≤ n → n ≤ 1099511627776 → sumS n l = capS (n + sumI l)
  | [], n, _, h1, h2 => by rw [sumS, sumI]; unfold capS; omega
  | k :: l, n, hg, h1, h2 => by
    have hk := hg k (by simp)
    have hl : GoodS l := fun x hx => hg x (by simp [hx])
    have := capS_bd (n := n + k) (by omega)
    have h0 := sumI_nonneg hl
    rw [sumS, sumS_eq l _ hl this.1 this.2, sumI]
    unfold capS; omega
/-- the program adds the body of a call first -/
theorem sumS_swap {l : List Int} {b : Int} (h : GoodS l) (hb : 0 ≤ b) (hb2 : b ≤ 1099511627776) : sumS (capS (1 + b)) l = capS (sumS 1 l + b) := by
  have := capS_bd (n := 1 + b) (by omega)
  have h0 := sumI_nonneg h
  rw [sumS_eq l _ h this.1 this.2, sumS_eq l 1 h (by omega) (by omega)]
  unfold capS; omega
end Go.Proofs.Ytmhelkhmgbbfhaa
