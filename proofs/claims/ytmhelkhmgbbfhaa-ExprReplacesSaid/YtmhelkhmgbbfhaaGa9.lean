/- Walk: small: the law's examples have the documented results. -/
import Derived.ChangeArms
import Derived.Lib.LaidU8
import Derived.Test.YtmhelkhmgbbfhaaRows
import Derived.ProofKit
import Derived.Below
import Derived.ChangeSame
import Derived.Test.YtmhelkhmgbbfhaaGa1
import Derived.Test.YtmhelkhmgbbfhaaGa2
import Derived.Test.YtmhelkhmgbbfhaaGa8
set_option linter.unusedSimpArgs false
set_option linter.unusedVariables false
namespace Go.Proofs.Ytmhelkhmgbbfhaa
open Go.RowKit Go.Lib

theorem rdS_two {w : World} {a b : Ex} {a0 a1 a2 a3 b0 b1 b2 b3 : Value} (h1 : Rd w Any a.d [a0, a1, a2, a3]) (h2 : Rd w Any b.d [b0, b1, b2, b3]) : RdS w Any ([a, b].map Ex.d) [a0, a1, a2, a3, b0, b1, b2, b3] :=
  rdS_cons (c1 := [a0, a1, a2, a3]) (c2 := [b0, b1, b2, b3]) rfl h1 (rdS_cons (c1 := [b0, b1, b2, b3]) (c2 := []) rfl h2 (rdS_nil _ _))
theorem rdS_one {w : World} {a : Ex} {a0 a1 a2 a3 : Value} (h1 : Rd w Any a.d [a0, a1, a2, a3]) : RdS w Any ([a].map Ex.d) [a0, a1, a2, a3] :=
  rdS_cons (c1 := [a0, a1, a2, a3]) (c2 := []) rfl h1 (rdS_nil _ _)

set_option maxRecDepth 10000 in
set_option maxHeartbeats 4000000 in
theorem small_any (w : World) : Calls Try.prog 9 #[] w fun r w' => r = .returned (.bool true) ∧ Ext w w' := by
  go_enter Try.func9, Try.ntmps9
  go_wp2_with fail
  refine (col_any _ _).mono ?_
  rintro r w1 ⟨rfl, h1⟩
  have hrow : Rd w1 Any (.sl (rowV.map Val.d)) [.slice (some ⟨w.heap.size, 0, none⟩) 2 2] := Rd.ext (Rd.ext (rd_new rfl rfl (rdS_vals _ Any rowV) trivial (by simp [rowV]) (by omega)) ((Ext.refl _).alloc _)) h1
  have hcols : Rd w1 Any (.sl (([0, 1] : List Int).map D.int)) [.slice (some ⟨w.heap.size + 1, 0, none⟩) 2 2] := Rd.ext (rd_new_ints (l := [0, 1]) (by simp) rfl rfl (by simp)) h1
  have hw1 : Ext w w1 := (((Ext.refl _).alloc _).alloc _).trans h1
  clear h1
  go_wp2_with fail
  refine (col_any _ _).mono ?_
  rintro r w2 ⟨rfl, h2⟩
  have hone : Rd w2 Any oneE.d [.int .i64 22, .int .i64 0, .string ByteArray.empty, .slice (some ⟨w1.heap.size, 0, none⟩) 2 2] := Rd.ext (Rd.ext (rd_node (l := [colE 0, timeE]) (rd_new rfl rfl (rdS_two (rd_leaf _ _ _ _ _) (rd_leaf _ _ _ _ _)) trivial (by simp) (by omega))) ((Ext.refl _).alloc _)) h2
  have a0 : w2.cell? ⟨w1.heap.size + 1, 0, none⟩ = some (.int .i64 22) := h2.at (by go_simp)
  have a1 : w2.cell? ⟨w1.heap.size + 1, 1, none⟩ = some (.int .i64 0) := h2.at (by go_simp)
  have a2 : w2.cell? ⟨w1.heap.size + 1, 2, none⟩ = some (.string ByteArray.empty) := h2.at (by go_simp; rfl)
  have a3 : w2.cell? ⟨w1.heap.size + 1, 3, none⟩ = some (.slice (some ⟨w1.heap.size, 0, none⟩) 2 2) := h2.at (by go_simp)
  have hw2 : Ext w1 w2 := (((Ext.refl _).alloc _).alloc _).trans h2
  clear h2
  go_wp2_with fail
  refine (num_any _ _).mono ?_
  rintro r w3 ⟨rfl, h3⟩
  go_wp2_with fail
  refine (op_any _ _ _ _ _).mono ?_
  rintro r w4 ⟨rfl, h4⟩
  have htwo : Rd w4 Any twoE.d [.int .i64 11, .int .i64 0, .string ByteArray.empty, .slice (some ⟨w3.heap.size, 0, none⟩) 2 2] := Rd.ext (rd_node (l := [colE 0, numE 0]) (rd_new rfl rfl (rdS_two (rd_leaf _ _ _ _ _) (rd_leaf _ _ _ _ _)) trivial (by simp) (by omega))) h4
  have hw4 : Ext w2 w4 := (h3.alloc _).trans h4
  clear h3 h4
  go_wp2_with fail
  refine (col_any _ _).mono ?_
  rintro r w5 ⟨rfl, h5⟩
  have b0 : w5.cell? ⟨w4.heap.size, 0, none⟩ = some (.int .i64 11) := h5.at (by go_simp)
  have b1 : w5.cell? ⟨w4.heap.size, 1, none⟩ = some (.int .i64 0) := h5.at (by go_simp)
  have b2 : w5.cell? ⟨w4.heap.size, 2, none⟩ = some (.string ByteArray.empty) := h5.at (by go_simp)
  have b3 : w5.cell? ⟨w4.heap.size, 3, none⟩ = some (.slice (some ⟨w3.heap.size, 0, none⟩) 2 2) := h5.at (by go_simp)
  have hw5 : Ext w4 w5 := ((Ext.refl _).alloc _).trans h5
  clear h5
  go_wp2_with fail
  refine (op_any _ _ _ _ _).mono ?_
  rintro r w6 ⟨rfl, h6⟩
  have hcat : Rd w6 Any (Ex.mk 19 0 ByteArray.empty [colE 1, .mk 1 0 ⟨#[121, 122]⟩ []]).d [.int .i64 19, .int .i64 0, .string ByteArray.empty, .slice (some ⟨w5.heap.size, 0, none⟩) 2 2] := Rd.ext (rd_node (l := [colE 1, .mk 1 0 ⟨#[121, 122]⟩ []]) (rd_new rfl rfl (rdS_two (rd_leaf _ _ _ _ _) (rd_leaf _ _ _ _ _)) trivial (by simp) (by omega))) h6
  have hw6 : Ext w5 w6 := ((Ext.refl _).alloc _).trans h6
  clear h6
  go_wp2_with fail
  refine (op_any _ _ _ _ _).mono ?_
  rintro r w7 ⟨rfl, h7⟩
  have hthree : Rd w7 Any threeE.d [.int .i64 20, .int .i64 0, .string ByteArray.empty, .slice (some ⟨w6.heap.size, 0, none⟩) 1 1] := Rd.ext (rd_node (l := [.mk 19 0 ByteArray.empty [colE 1, .mk 1 0 ⟨#[121, 122]⟩ []]]) (rd_new rfl rfl (rdS_one (Rd.ext hcat ((Ext.refl _).alloc _))) trivial (by simp) (by omega))) h7
  have hw7 : Ext w6 w7 := ((Ext.refl _).alloc _).trans h7
  clear h7 hcat
  go_wp2_with fail
  generalize hWe : World.alloc w7 _ = W
  have c0 : W.cell? ⟨w7.heap.size, 0, none⟩ = some (.int .i64 20) := by rw [← hWe]; clear hWe; go_simp
  have c1 : W.cell? ⟨w7.heap.size, 1, none⟩ = some (.int .i64 0) := by rw [← hWe]; clear hWe; go_simp
  have c2 : W.cell? ⟨w7.heap.size, 2, none⟩ = some (.string ByteArray.empty) := by rw [← hWe]; clear hWe; go_simp
  have c3 : W.cell? ⟨w7.heap.size, 3, none⟩ = some (.slice (some ⟨w6.heap.size, 0, none⟩) 1 1) := by rw [← hWe]; clear hWe; go_simp
  have hW7 : Ext w7 W := by rw [← hWe]; exact (by repeat' first | exact Ext.refl _ | assumption | apply Ext.alloc | apply Ext.drew | apply Ext.drewN | (refine Ext.trans ?_ (by assumption)))
  clear hWe
  have hW5 : Ext w5 W := hw6.trans (hw7.trans hW7)
  have hW4 : Ext w4 W := hw5.trans hW5
  have hW2 : Ext w2 W := hw4.trans hW4
  have hW1 : Ext w1 W := hw2.trans hW2
  have hW : Ext w W := hw1.trans hW1
  replace a0 := hW2.at a0
  replace a1 := hW2.at a1
  replace a2 := hW2.at a2
  replace a3 := hW2.at a3
  replace b0 := hW5.at b0
  replace b1 := hW5.at b1
  replace b2 := hW5.at b2
  replace b3 := hW5.at b3
  have hrow' := Lib.hid (hrow.ext hW1)
  have hcols' := Lib.hid (hcols.ext hW1)
  have hone' := Lib.hid (hone.ext hW2)
  have htwo' := Lib.hid (htwo.ext hW4)
  have hthree' := Lib.hid (hthree.ext hW7)
  clear hrow hcols hone htwo hthree hw1 hw2 hw4 hw5 hw6 hw7 hW1 hW2 hW4 hW5 hW7
  go_region_held3 (fun w' => w'.cell? ⟨w1.heap.size + 1, 0, none⟩ = some (.int .i64 22) ∧ w'.cell? ⟨w1.heap.size + 1, 1, none⟩ = some (.int .i64 0) ∧ w'.cell? ⟨w1.heap.size + 1, 2, none⟩ = some (.string ByteArray.empty) ∧ w'.cell? ⟨w1.heap.size + 1, 3, none⟩ = some (.slice (some ⟨w1.heap.size, 0, none⟩) 2 2))
    ((refine (fun (hx : Ext W _) => ⟨hx.at a0, hx.at a1, hx.at a2, hx.at a3⟩) ?_; repeat' first | exact Ext.refl _ | assumption | apply Ext.alloc | apply Ext.drew | apply Ext.drewN | (refine Ext.trans ?_ (by assumption))))
    ((first
      | (go_at_call 40; refine (least_any _).mono ?_; rintro r w8 ⟨vL, rfl, hL, h8⟩)
      | (go_at_call 11; refine (type_any [leastF] [0, 1] [] oneE Any Any Any Any _ _ _ _ _ (Rd.ext hL (Ext.refl _)) (Rd.ext hcols'.out ((Ext.refl W).drew.trans h8)) (Rd.nil none (by omega)) (Rd.ext hone'.out ((Ext.refl W).drew.trans h8)) (by decide) (by decide)).mono ?_; rintro r w9 ⟨rfl, h9⟩)))
  have hW9 : Ext W w9 := ((Ext.refl W).drew.trans h8).trans h9
  clear hL h8 h9
  have ht1 : (typeP [leastF] [0, 1] [] oneE).getD 0 = 0 := by rw [ty_one]; rfl
  have ht2 : (typeP [leastF] [0, 1] [] oneE).isSome = true := by rw [ty_one]; rfl
  rw [ht1, ht2]
  go_wp2_with fail
  refine (least_any _).mono ?_
  rintro r w10 ⟨vL2, rfl, hL2, h10⟩
  go_wp2_with fail
  refine (col_any _ _).mono ?_
  rintro r w11 ⟨rfl, h11⟩
  go_wp2_with fail
  refine (op_any _ _ _ _ _).mono ?_
  rintro r w12 ⟨rfl, h12⟩
  go_wp2_with fail
  have hW12 : Ext W w12 := ((hW9.trans h10).trans h11).trans (((Ext.refl _).alloc _).trans h12)
  have hL12 : Rd w12 Any (.sl ([leastF].map Fn.d)) [vL2] := hL2.ext (h11.trans (((Ext.refl _).alloc _).trans h12))
  have hnot : Rd w12 Any notE.d [.int .i64 6, .int .i64 0, .string ByteArray.empty, .slice (some ⟨w11.heap.size, 0, none⟩) 1 1] := Rd.ext (rd_node (l := [colE 0]) (rd_new rfl rfl (rdS_one (rd_leaf _ _ _ _ _)) trivial (by simp) (by omega))) h12
  refine (type_any [leastF] [0, 1] [] notE Any Any Any Any _ _ _ _ _ hL12 (hcols'.out.ext hW12) (Rd.nil none (by omega)) hnot (by decide) (by decide)).mono ?_
  rintro r w13 ⟨rfl, h13⟩
  have hW13 : Ext W w13 := hW12.trans h13
  have ht3 : (typeP [leastF] [0, 1] [] notE).getD 0 = 0 := by rw [ty_not]; rfl
  have ht4 : (typeP [leastF] [0, 1] [] notE).isSome = false := by rw [ty_not]; rfl
  rw [ht3, ht4]
  clear ht1 ht2 ht3 ht4 hnot hL12 hL2 h10 h11 h12 h13 hW12 hW9
  replace a0 := hW13.at a0
  replace a1 := hW13.at a1
  replace a2 := hW13.at a2
  replace a3 := hW13.at a3
  replace b0 := hW13.at b0
  replace b1 := hW13.at b1
  replace b2 := hW13.at b2
  replace b3 := hW13.at b3
  replace c0 := hW13.at c0
  replace c1 := hW13.at c1
  replace c2 := hW13.at c2
  replace c3 := hW13.at c3
  have hrow2 := Lib.hid (hrow'.out.ext hW13)
  have hone2 := Lib.hid (hone'.out.ext hW13)
  have htwo2 := Lib.hid (htwo'.out.ext hW13)
  have hthree2 := Lib.hid (hthree'.out.ext hW13)
  have hfd1 : ∀ X : World, (Instr.field 34 (.agg #[.int .i64 0, .int .i64 7, .string ByteArray.empty]) 1).run Try.prog X = .ok (.int .i64 7) X := fun _ => by kernel_rfl
  have hfd2 : ∀ X : World, (Instr.field 34 (.agg #[.int .i64 0, .int .i64 0, .string ByteArray.empty]) 1).run Try.prog X = .ok (.int .i64 0) X := fun _ => by kernel_rfl
  have hfd3 : ∀ X : World, (Instr.field 34 (.agg #[.int .i64 0, .int .i64 3, .string ByteArray.empty]) 1).run Try.prog X = .ok (.int .i64 3) X := fun _ => by kernel_rfl
  have hS : ∀ X : World, Ext w13 X → (X.cell? ⟨w1.heap.size + 1, 0, none⟩ = some (.int .i64 22) ∧ X.cell? ⟨w1.heap.size + 1, 1, none⟩ = some (.int .i64 0) ∧ X.cell? ⟨w1.heap.size + 1, 2, none⟩ = some (.string ByteArray.empty) ∧ X.cell? ⟨w1.heap.size + 1, 3, none⟩ = some (.slice (some ⟨w1.heap.size, 0, none⟩) 2 2)
      ∧ X.cell? ⟨w4.heap.size, 0, none⟩ = some (.int .i64 11) ∧ X.cell? ⟨w4.heap.size, 1, none⟩ = some (.int .i64 0) ∧ X.cell? ⟨w4.heap.size, 2, none⟩ = some (.string ByteArray.empty) ∧ X.cell? ⟨w4.heap.size, 3, none⟩ = some (.slice (some ⟨w3.heap.size, 0, none⟩) 2 2)
      ∧ X.cell? ⟨w7.heap.size, 0, none⟩ = some (.int .i64 20) ∧ X.cell? ⟨w7.heap.size, 1, none⟩ = some (.int .i64 0) ∧ X.cell? ⟨w7.heap.size, 2, none⟩ = some (.string ByteArray.empty) ∧ X.cell? ⟨w7.heap.size, 3, none⟩ = some (.slice (some ⟨w6.heap.size, 0, none⟩) 1 1)) :=
    fun _ hx => ⟨hx.at a0, hx.at a1, hx.at a2, hx.at a3, hx.at b0, hx.at b1, hx.at b2, hx.at b3, hx.at c0, hx.at c1, hx.at c2, hx.at c3⟩
  have hS' := Lib.hid hS
  have hone3 : ∀ (X : World) (vL : Value), Ext w13 X → Rd X Any (.sl ([leastF].map Fn.d)) [vL] → Calls Try.prog 13 #[vL, .agg #[.int .i64 22, .int .i64 0, .string ByteArray.empty, .slice (some ⟨w1.heap.size, 0, none⟩) 2 2], .int .i64 7, .slice (some ⟨w.heap.size, 0, none⟩) 2 2] X fun r w' => r = .returned (.agg #[.int .i64 0, .int .i64 7, .string ByteArray.empty]) ∧ Ext X w' := by
    intro X vL hx hL
    have := Eval_any [leastF] 7 rowV oneE 0 okF_least parts_least (by decide) (by decide) rowV_sound vL _ _ X hL (Rd.ext hrow2.out hx) (Rd.ext hone2.out hx)
    rw [evv_one] at this
    exact this
  have htwo3 : ∀ X : World, Ext w13 X → Calls Try.prog 13 #[.slice none 0 0, .agg #[.int .i64 11, .int .i64 0, .string ByteArray.empty, .slice (some ⟨w3.heap.size, 0, none⟩) 2 2], .int .i64 7, .slice (some ⟨w.heap.size, 0, none⟩) 2 2] X fun r w' => r = .returned (.agg #[.int .i64 0, .int .i64 0, .string ByteArray.empty]) ∧ Ext X w' := by
    intro X hx
    have := Eval_any [] 7 rowV twoE 0 (by simp) (by simp) (by decide) (by decide) rowV_sound (.slice none 0 0) _ _ X (Rd.nil none (by omega)) (Rd.ext hrow2.out hx) (Rd.ext htwo2.out hx)
    rw [evv_two] at this
    exact this
  have hthree3 : ∀ X : World, Ext w13 X → Calls Try.prog 13 #[.slice none 0 0, .agg #[.int .i64 20, .int .i64 0, .string ByteArray.empty, .slice (some ⟨w6.heap.size, 0, none⟩) 1 1], .int .i64 7, .slice (some ⟨w.heap.size, 0, none⟩) 2 2] X fun r w' => r = .returned (.agg #[.int .i64 0, .int .i64 3, .string ByteArray.empty]) ∧ Ext X w' := by
    intro X hx
    have := Eval_any [] 7 rowV threeE 0 (by simp) (by simp) (by decide) (by decide) rowV_sound (.slice none 0 0) _ _ X (Rd.nil none (by omega)) (Rd.ext hrow2.out hx) (Rd.ext hthree2.out hx)
    rw [evv_three] at this
    exact this
  have hone4 := Lib.hid hone3
  have htwo4 := Lib.hid htwo3
  have hthree4 := Lib.hid hthree3
  clear hS hone3 htwo3 hthree3 hrow2 hone2 htwo2 hthree2 hrow' hone' htwo' hthree' hcols'
  go_wp2_with fail
  go_region_held3 (fun w' => w'.cell? ⟨w1.heap.size + 1, 0, none⟩ = some (.int .i64 22) ∧ w'.cell? ⟨w1.heap.size + 1, 1, none⟩ = some (.int .i64 0) ∧ w'.cell? ⟨w1.heap.size + 1, 2, none⟩ = some (.string ByteArray.empty) ∧ w'.cell? ⟨w1.heap.size + 1, 3, none⟩ = some (.slice (some ⟨w1.heap.size, 0, none⟩) 2 2)
      ∧ w'.cell? ⟨w4.heap.size, 0, none⟩ = some (.int .i64 11) ∧ w'.cell? ⟨w4.heap.size, 1, none⟩ = some (.int .i64 0) ∧ w'.cell? ⟨w4.heap.size, 2, none⟩ = some (.string ByteArray.empty) ∧ w'.cell? ⟨w4.heap.size, 3, none⟩ = some (.slice (some ⟨w3.heap.size, 0, none⟩) 2 2)
      ∧ w'.cell? ⟨w7.heap.size, 0, none⟩ = some (.int .i64 20) ∧ w'.cell? ⟨w7.heap.size, 1, none⟩ = some (.int .i64 0) ∧ w'.cell? ⟨w7.heap.size, 2, none⟩ = some (.string ByteArray.empty) ∧ w'.cell? ⟨w7.heap.size, 3, none⟩ = some (.slice (some ⟨w6.heap.size, 0, none⟩) 1 1))
    ((refine hS'.out _ ?_; repeat' first | exact Ext.refl _ | assumption | apply Ext.alloc | apply Ext.drew | apply Ext.drewN | (refine Ext.trans ?_ (by assumption))))
    ((first
      | (go_at_call 40; refine (least_any _).mono ?_; rintro r w14 ⟨vL, rfl, hL, h14⟩)
      | (go_at_call 13; refine (hthree4.out _ ((((Ext.refl w13).drew.trans h14).trans h15).trans h16)).mono ?_; rintro r w17 ⟨rfl, h17⟩)
      | (go_at_call 13; refine (htwo4.out _ (((Ext.refl w13).drew.trans h14).trans h15)).mono ?_; rintro r w16 ⟨rfl, h16⟩)
      | (go_at_call 13; refine (hone4.out _ _ ((Ext.refl w13).drew.trans h14) hL).mono ?_; rintro r w15 ⟨rfl, h15⟩)))
  have hfin : Ext w w17 := hW.trans (hW13.trans (((((Ext.refl w13).drew.trans h14).trans h15).trans h16).trans h17))
  go_wp2_with fail
  go_ret
  exact ⟨rfl, hfin⟩
end Go.Proofs.Ytmhelkhmgbbfhaa

/- Walks: the reference's count of steps. -/
namespace Go.Proofs.Ytmhelkhmgbbfhaa
open Go.RowKit Go.Lib

theorem sumS_take (n : Int) (ks : List Int) (k : Nat) (h : k < ks.length) : sumS n (ks.take (k + 1)) = capS (sumS n (ks.take k) + ks[k]) := by
  induction ks generalizing n k with
  | nil => simp at h
  | cons x l ih =>
    cases k with
    | zero => simp [sumS]
    | succ k =>
      rw [List.take_succ_cons, List.take_succ_cons, sumS, sumS, ih _ k (by simpa using h)]; rfl
theorem goodS_take {ks : List Int} (h : GoodS ks) (k : Nat) : GoodS (ks.take k) := fun x hx => h x (List.mem_of_mem_take hx)

theorem stepsOf_if (B ks : List Int) (n : Int) {a b c : Int} (h : ks = [a, b, c]) : stepsOf B 21 n ks = capS (1 + a + max b c) := by
  subst h; simp [stepsOf]
theorem stepsOf_sum (B ks : List Int) (op n : Int) (h : op ≠ 21 ∨ ks.length ≠ 3) : stepsOf B op n ks = if op = 22 ∧ 0 ≤ n ∧ n < B.length then capS (sumS 1 ks + B.getD n.toNat 0) else sumS 1 ks := by
  unfold stepsOf
  split
  · rename_i a b c hx
    exfalso
    by_cases ho : op = 21
    · simp [ho] at hx; subst hx; simp [ho] at h
    · simp [ho] at hx
  · rfl
theorem len_3s {l : List Int} (h : l.length = 3) : ∃ a b c, l = [a, b, c] := by
  match l, h with | [a, b, c], _ => exact ⟨a, b, c, rfl⟩

set_option maxRecDepth 100000 in
set_option maxHeartbeats 4000000 in
theorem rcount_any (B : List Int) (hB : GoodS B) (e : Ex) : ∀ (S S1 : Nat → Prop) (vB : Value) (cs : List Value) (w : World), Rd w S1 (.sl (B.map D.int)) [vB] → Rd w S e.d cs → parts e ≤ 1000000 →
    Calls Try.prog 50 #[vB, .agg cs.toArray] w fun r w' => r = .returned (.int .i64 (countE B e)) ∧ Ext w w' := by
  induction e using Ex.ind with | h o m s l ih => ?_
  intro S S1 vB cs w hvB hr hbd
  obtain ⟨A, cap, b, off, rfl, hl1, hl2, hl3, hm⟩ := Ex.open hr
  obtain ⟨AB, capB, bB, offB, rfl, B1, B2, B3, B4⟩ := Rd.sl_open hvB
  simp only [Ex.args, Ex.op, Ex.n, Ex.s, List.length_map] at *
  have hll : l.length ≤ 1000000 := by rw [parts] at hbd; have := partsL_len l; omega
  have hvB' := Lib.hid hvB; have hl3' := Lib.hid hl3; have hm' := Lib.hid hm; have B3' := Lib.hid B3; have B4' := Lib.hid B4
  have hB' := Lib.hid hB
  have H := Lib.hid (show countE B (.mk o m s l) = stepsOf B o m (l.map (countE B)) by rw [countE, countL_map])
  have hks : GoodS (l.map (countE B)) := by rw [← countL_map]; exact countL_good B hB l
  have hks' := Lib.hid hks
  clear hvB hr hl3 hm B3 B4 hB hks
  go_enter Try.func50, Try.ntmps50
  go_wp2_with fail
  go_loopw [6, 7] (fun x i wr => ∃ (k : Nat), k ≤ l.length ∧ i = .int .i64 k ∧ wr.ownsRow (w.heap.size + 1) 3 1 x k (((l.map (countE B)).take k).map (Value.int .i64)) ∧ Ext (w.alloc (.cells #[.int .i64 o, .int .i64 m, .string s, .slice A l.length cap] 25)) wr) (fun _ i _ => l.length - (intOf i).toNat)
  case atStart => exact ⟨0, by omega, rfl, World.ownsRow_nil _ _ _ _, Ext.refl _⟩
  case round =>
    obtain ⟨k, hk, rfl, hown, hb⟩ := hrel
    have e0 : wr.cell? ⟨w.heap.size, 0, none⟩ = some (.int .i64 o) := hb.at (by go_simp)
    have e1 : wr.cell? ⟨w.heap.size, 1, none⟩ = some (.int .i64 m) := hb.at (by go_simp)
    have e3 : wr.cell? ⟨w.heap.size, 3, none⟩ = some (.slice A l.length cap) := hb.at (by go_simp)
    have hw : Ext w wr := ((Ext.refl _).alloc _).trans hb
    by_cases hlt : k < l.length
    · obtain ⟨rfl, hSb⟩ := hl3'.out (by omega)
      obtain ⟨A1, cap1, b1, off1, c0, c1, c2, c3, hr', -⟩ := Ex.at (hm'.out.ext (fun _ => hSb) hw) hlt
      have hr2 := Lib.hid hr'
      have hSb' := Lib.hid hSb
      clear hr' hSb
      have hpb : parts l[k] ≤ 1000000 := by rw [parts] at hbd; have := partsL_mem l l[k] (List.getElem_mem hlt); omega
      go_wp2_with fail
      refine (ih l[k] (List.getElem_mem hlt) S S1 _ _ wr (hvB'.out.ext hw) hr2.out hpb).mono ?_
      rintro r w1 ⟨rfl, he⟩
      have hown1 : w1.ownsRow (w.heap.size + 1) 3 1 _ k (((l.map (countE B)).take k).map (Value.int .i64)) := own_ext hown he
      have hsz := (hb.trans he).size
      have hd := Lib.hid (show (((l.map (countE B)).take (k + 1)).map (Value.int .i64)) = (((l.map (countE B)).take k).map (Value.int .i64)) ++ [Value.int .i64 (countE B l[k])] by rw [List.take_succ_eq_append_getElem (by simpa using hlt)]; simp)
      go_wp2_with (at_builtin; refine wp_append1 _ _ _ rfl _ _ _ rfl (w.heap.size + 1) 3 1 8 _ Try.underlying31 Try.info3 rfl (by decide) (by decide) _ _ _ rfl hown1 rfl rfl (by intro u hu; simp at hu; subst hu; rfl) (by omega) (by simpa using hsz) ?_; intro v' w2 hown2 hg2 hn2)
      go_roundw
      case rel => exact ⟨k + 1, by omega, by go_num, by rw [hd.out]; exact hown2, (hb.trans he).grown hown1 (by simp) hg2⟩
      case measure => simp [intOf]; omega
    · have hkl : k = l.length := by omega
      subst hkl
      obtain ⟨ks, hks2⟩ : ∃ ks, ks = l.map (countE B) := ⟨_, rfl⟩
      rw [← hks2] at hown H hks'
      have hlen : ks.length = l.length := by rw [hks2]; simp
      rw [← hlen] at hown
      rw [List.take_length] at hown
      have hR := own_ints (S := Any) hown (fun _ _ => trivial)
      obtain ⟨A9, cap9, b9, off9, rfl, z1, z2, z3, z4⟩ := Rd.sl_open hR
      simp only [List.length_map] at *
      have z3' := Lib.hid z3; have z4' := Lib.hid z4
      have hlen' := Lib.hid hlen
      have hkl2 : ks.length ≤ 1000000 := by omega
      clear hR z3 z4 hown hlt hks2 hlen
      by_cases h3 : o = 21 ∧ ks.length = 3
      · obtain ⟨rfl, hl⟩ := h3
        obtain ⟨x0, x1, x2, rfl⟩ := len_3s hl
        obtain ⟨rfl, -⟩ := z3'.out (by simp)
        have y0 := ints_at z4'.out (k := 0) (by simp)
        have y1 := ints_at z4'.out (k := 1) (by simp)
        have y2 := ints_at z4'.out (k := 2) (by simp)
        simp only [List.getElem_cons_zero, List.getElem_cons_succ, Nat.add_zero, List.length_cons, List.length_nil, Nat.zero_add, Nat.reduceAdd] at *
        have k0 := hks'.out x0 (by simp)
        have k1 := hks'.out x1 (by simp)
        have k2 := hks'.out x2 (by simp)
        have H2 := Lib.hid (H.out.trans (stepsOf_if B _ m rfl))
        clear H
        have gy0 := ExtW.at y0
        have gy1 := ExtW.at y1
        have gy2 := ExtW.at y2
        go_wp2_with fail
        refine wp_region_ext (by kernel_rfl) (by kernel_rfl) ?_
        repeat (go_big_quiet_step ((fail)))
        refine wpQuiet_nil ?_
        intro w1 he
        go_wp2_with fail
        all_goals
          go_ret
          exact ⟨ret_int (by rw [H2.out]; unfold capS; omega), hw.trans he⟩
      · have h3' : o ≠ 21 ∨ ks.length ≠ 3 := by
          by_cases ho : o = 21
          · right; exact fun h => h3 ⟨ho, h⟩
          · left; exact ho
        have H2 := Lib.hid (H.out.trans (stepsOf_sum B ks o m h3'))
        clear H h3
        obtain ⟨wo, rfl⟩ : ∃ wo : World, wo = wr := ⟨_, rfl⟩
        have h3c := Lib.hid h3'
        clear h3'
        have hcond : (o = 21 ∧ ¬ ks.length = 3) ∨ (o == 21) = false := by
          by_cases ho : o = 21
          · left; exact ⟨ho, h3c.out.resolve_left (fun h => h ho)⟩
          · right; simp [ho]
        rcases hcond with ⟨rfl, hq⟩ | hq
        all_goals
          go_wp2_with fail
          go_loopw [5, 8] (fun x i wr => ∃ (j : Nat) (q : Int), j ≤ ks.length ∧ i = .int .i64 j ∧ x = .int .i64 q ∧ 0 ≤ q ∧ q ≤ 1099511627776 ∧ Hid (q = sumS 1 (ks.take j)) ∧ Ext wo wr) (fun _ i _ => ks.length - (intOf i).toNat)
          case atStart => exact ⟨0, 1, by omega, rfl, rfl, by omega, by omega, Lib.hid rfl, Ext.refl _⟩
          case round =>
            obtain ⟨j, q, hj, rfl, rfl, hq1, hq2, HH, hx⟩ := hrel
            have e0 := hx.at e0
            have e1 := hx.at e1
            by_cases hjl : j < ks.length
            · obtain ⟨rfl, -⟩ := z3'.out (by omega)
              have y0 := hx.at (ints_at z4'.out hjl)
              have hkb := hks'.out ks[j] (List.getElem_mem hjl)
              have HH2 := Lib.hid (show capS (q + ks[j]) = sumS 1 (ks.take (j + 1)) by rw [sumS_take 1 ks j hjl, ← HH.out])
              have hcb := capS_bd (n := q + ks[j]) (by omega)
              clear HH
              go_wp2_with fail
              all_goals
                go_roundw
                case rel => exact ⟨j + 1, capS (q + ks[j]), by omega, by go_num, by first | rfl | (simp [capS, Int.min_def]; done) | (simp only [capS]; congr 1; omega), by omega, by omega, HH2, hx⟩
                case measure => simp [intOf]; omega
            · have hjk : j = ks.length := by omega
              subst hjk
              have HH2 := Lib.hid (show q = sumS 1 ks by rw [HH.out, List.take_length])
              clear HH
              first
                | (have h22 : (21 : Int) ≠ 22 := by decide
                   have H3 := Lib.hid (H2.out.trans (if_neg (fun h => absurd h.1 (by decide))))
                   clear H2 h22
                   go_wp2_with fail
                   go_ret
                   exact ⟨ret_int (by rw [H3.out, HH2.out]), hw.trans hx⟩)
                | (by_cases hc : o = 22 ∧ 0 ≤ m ∧ m < B.length
                   · obtain ⟨rfl, hm1, hm2⟩ := hc
                     obtain ⟨j, rfl⟩ := Int.eq_ofNat_of_zero_le hm1
                     have hjB : j < B.length := by omega
                     obtain ⟨rfl, hSB⟩ := B3'.out (by omega)
                     have y0 := (ints_at (B4'.out.ext (fun _ => hSB) (hw.trans hx)) hjB)
                     have hSB' := Lib.hid hSB
                     clear hSB
                     have H3 := Lib.hid (H2.out.trans (if_pos ⟨rfl, hm1, hm2⟩))
                     have hgB := hB'.out B[j] (List.getElem_mem hjB)
                     have H4 := Lib.hid (show B.getD (j : Int).toNat 0 = B[j] by simp [List.getD_eq_getElem?_getD, List.getElem?_eq_getElem hjB])
                     clear H2
                     go_wp2_with fail
                     all_goals
                       go_ret
                       exact ⟨ret_int (by rw [H3.out, H4.out, ← HH2.out]; unfold capS; omega), hw.trans hx⟩
                   · have H3 := Lib.hid (H2.out.trans (if_neg hc))
                     clear H2
                     by_cases h22 : o = 22
                     · subst h22
                       have hc2 : m < 0 ∨ (B.length : Int) ≤ m := by omega
                       clear hc
                       rcases hc2 with hc | hc
                       · have hm1 : ¬ 0 ≤ m := by omega
                         go_wp2_with fail
                         all_goals
                           go_ret
                           exact ⟨ret_int (by rw [H3.out, HH2.out]), hw.trans hx⟩
                       · have hm1 : ¬ m < (B.length : Int) := by omega
                         have hm0 : 0 ≤ m := by omega
                         all_goals
                           go_wp2_with fail
                           go_ret
                           exact ⟨ret_int (by rw [H3.out, HH2.out]), hw.trans hx⟩
                     · have h22b : (o == 22) = false := by simp [h22]
                       clear hc
                       go_wp2_with fail
                       go_ret
                       exact ⟨ret_int (by rw [H3.out, HH2.out]), hw.trans hx⟩)

set_option maxRecDepth 10000 in
set_option maxHeartbeats 2000000 in
theorem rsteps_any (F : List Fn) (e : Ex) (S S1 : Nat → Prop) (vF : Value) (cs : List Value) (w : World) (hF : Rd w S1 (.sl (F.map Fn.d)) [vF]) (hr : Rd w S e.d cs) (hbd : parts e ≤ 1000000) (hp : ∀ f ∈ F, parts f.body ≤ 1000000) (hlen : F.length ≤ 1000000) :
    Calls Try.prog 25 #[vF, .agg cs.toArray] w fun r w' => r = .returned (.int .i64 (stepsP F e)) ∧ Ext w w' := by
  obtain ⟨A, cap, b, off, rfl, hl1, hl2, hl3, hm⟩ := Ex.open hr
  obtain ⟨AF, capF, bF, offF, rfl, F1, F2, F3, F4⟩ := Rd.sl_open hF
  simp only [List.length_map] at *
  have hr' := Lib.hid hr; have F3' := Lib.hid F3; have F4' := Lib.hid F4; have hp' := Lib.hid hp
  clear hF hr hm hl3 F3 F4 hp
  go_enter Try.func25, Try.ntmps25
  go_wp2_with fail
  go_loopw [5, 6] (fun x i wr => ∃ (k : Nat) (B : List Int), k ≤ F.length ∧ i = .int .i64 k ∧ B.length = k ∧ wr.ownsRow (w.heap.size + 1) 3 1 x k (B.map (Value.int .i64)) ∧ Hid (GoodS B ∧ bodiesS [] F = bodiesS B (F.drop k)) ∧ Ext (w.alloc (.cells #[.int .i64 e.op, .int .i64 e.n, .string e.s, .slice A e.args.length cap] 25)) wr) (fun _ i _ => F.length - (intOf i).toNat)
  case atStart => exact ⟨0, [], by omega, rfl, rfl, World.ownsRow_nil _ _ _ _, Lib.hid ⟨fun k hk => by simp at hk, rfl⟩, Ext.refl _⟩
  case round =>
    obtain ⟨k, B, hk, rfl, hBk, hown, HH, hb⟩ := hrel
    have hBk' := Lib.hid hBk
    have e0 : wr.cell? ⟨w.heap.size, 0, none⟩ = some (.int .i64 e.op) := hb.at (by go_simp)
    have e1 : wr.cell? ⟨w.heap.size, 1, none⟩ = some (.int .i64 e.n) := hb.at (by go_simp)
    have e2 : wr.cell? ⟨w.heap.size, 2, none⟩ = some (.string e.s) := hb.at (by go_simp)
    have e3 : wr.cell? ⟨w.heap.size, 3, none⟩ = some (.slice A e.args.length cap) := hb.at (by go_simp)
    have hw : Ext w wr := ((Ext.refl _).alloc _).trans hb
    subst hBk
    have hR := own_ints (S := Any) hown (fun _ _ => trivial)
    have hR' := Lib.hid hR
    clear hR
    by_cases hlt : B.length < F.length
    · obtain ⟨rfl, hSb⟩ := F3'.out (by omega)
      obtain ⟨A1, cap1, b1, off1, A2, cap2, b2, off2, c0, c1, c2, c3, c4, c5, c6, hr0, q1, q2, q3, q4, q5, q6, q7, q8⟩ := Fn.at (F4'.out.ext (fun _ => hSb) hw) hlt
      have hbod := Lib.hid (Ex.mk_rd q5 q6 q7 q8)
      have hpb := hp'.out F[B.length] (List.getElem_mem hlt)
      have hSb' := Lib.hid hSb
      clear hr0 q3 q4 q5 q7 q8 hSb
      go_wp2_with fail
      refine (rcount_any B HH.out.1 F[B.length].body _ Any _ _ wr hR'.out hbod.out hpb).mono ?_
      rintro r w1 ⟨rfl, he⟩
      have hown1 := own_ext hown he
      have hsz := (hb.trans he).size
      go_wp2_with (at_builtin; refine wp_append1 _ _ _ rfl _ _ _ rfl (w.heap.size + 1) 3 1 8 _ Try.underlying31 Try.info3 rfl (by decide) (by decide) _ _ _ rfl hown1 rfl rfl (by intro u hu; simp at hu; subst hu; rfl) (by omega) (by simpa using hsz) ?_; intro v' w2 hown2 hg2 hn2)
      have HH2 := Lib.hid (show GoodS (B ++ [countE B F[B.length].body]) ∧ bodiesS [] F = bodiesS (B ++ [countE B F[B.length].body]) (F.drop (B.length + 1)) from ⟨fun x hx => by
        rcases List.mem_append.1 hx with hx | hx
        · exact HH.out.1 x hx
        · simp at hx; subst hx; exact countE_bd B HH.out.1 _, by rw [HH.out.2, List.drop_eq_getElem_cons hlt, bodiesS]⟩)
      go_roundw
      case rel => exact ⟨B.length + 1, B ++ [countE B F[B.length].body], by omega, by go_num, by simp, by simpa using hown2, HH2, (hb.trans he).grown hown1 (by simp) hg2⟩
      case measure => simp [intOf]; omega
    · have hkl : F.drop B.length = [] := List.drop_eq_nil_of_le (by omega)
      have H := Lib.hid (show stepsP F e = countE B e by unfold stepsP; rw [HH.out.2, hkl, bodiesS])
      clear hkl
      go_wp2_with fail
      refine (rcount_any B HH.out.1 e S Any _ _ wr hR'.out (hr'.out.ext hw) hbd).mono ?_
      rintro r w1 ⟨rfl, he⟩
      go_wp2_with fail
      go_ret
      exact ⟨ret_int (by rw [H.out]), hw.trans he⟩

end Go.Proofs.Ytmhelkhmgbbfhaa

/- From the statement's readings (DataW.trod) to trees of plain data (Rd): ints, bools, strings, structs, slices. -/
namespace Go.Proofs.Ytmhelkhmgbbfhaa
open Go.RowKit Go.Lib

theorem CellsAt.of_get {w : World} {b : Nat} : ∀ (cs : List Value) (off : Nat), (∀ i v, cs[i]? = some v → w.cell? ⟨b, off + i, none⟩ = some v) → CellsAt w b off cs
  | [], _, _ => trivial
  | v :: cs, off, h => ⟨h 0 v rfl, CellsAt.of_get cs (off + 1) fun i u hi => by rw [Nat.add_assoc, Nat.add_comm 1 i]; exact h (i + 1) u (by simpa using hi)⟩
theorem mapM_get {α β : Type} {f : α → Option β} : ∀ (l : List α) (ys : List β), l.mapM f = some ys → ∀ i : Nat, (l[i]?).bind f = ys[i]?
  | [], ys, h, i => by simp at h; subst h; simp
  | a :: l, ys, h, i => by
    rw [List.mapM_cons] at h
    cases hf : f a with
    | none => rw [hf] at h; simp at h
    | some b =>
      rw [hf] at h
      cases hl : l.mapM f with
      | none => rw [hl] at h; simp at h
      | some zs =>
        rw [hl] at h
        simp at h
        subst h
        cases i with
        | zero => simpa using hf
        | succ i => simpa using mapM_get l zs hl i
theorem mapM_len {α β : Type} {f : α → Option β} : ∀ (l : List α) (ys : List β), l.mapM f = some ys → ys.length = l.length
  | [], ys, h => by simp at h; subst h; rfl
  | a :: l, ys, h => by
    rw [List.mapM_cons] at h
    cases hf : f a with
    | none => rw [hf] at h; simp at h
    | some b =>
      rw [hf] at h
      cases hl : l.mapM f with
      | none => rw [hl] at h; simp at h
      | some zs =>
        rw [hl] at h
        simp at h
        subst h
        simp [mapM_len l zs hl]
theorem cells_open {w : World} {base : Nat} {a : Addr} {n : Nat} {cs : List Value} (h : w.cells? base a n = some cs) (hn : 0 < n) : a.spot = none ∧ CellsAt w a.block a.off cs := by
  unfold World.cells? at h
  split at h
  · have hg := mapM_get _ _ h
    obtain ⟨b, o, sp⟩ := a
    have h0 := hg 0
    rw [List.getElem?_range (by omega)] at h0
    have hlen : cs.length = n := by
      have := mapM_len _ _ h
      simpa using this
    have h0' : cs[0]? = some (cs[0]'(by omega)) := List.getElem?_eq_getElem (by omega)
    rw [h0'] at h0
    have hs : sp = none := cell_spot (w := w) (b := b) (o := o) (v := cs[0]'(by omega)) (by simpa [Addr.add] using h0)
    subst hs
    refine ⟨rfl, CellsAt.of_get _ _ fun i v hi => ?_⟩
    have hi' : i < n := by
      have := (List.getElem?_eq_some_iff.1 hi).1; omega
    have := hg i
    rw [List.getElem?_range hi', hi] at this
    cases i with
    | zero => simpa [Addr.add] using this
    | succ i => simpa [Addr.add] using this
  · cases h

theorem RdM.of_get {w : World} {S : Nat → Prop} {sz : Nat} : ∀ (l : List D) (b off : Nat), (∀ d ∈ l, d.width = sz) → (∀ i (h : i < l.length), ∃ cs, CellsAt w b (off + i * sz) cs ∧ Rd w S l[i] cs) → RdM w S l b off
  | [], _, _, _, _ => by rw [RdM]; trivial
  | d :: l, b, off, hw, h => by
    rw [RdM]
    refine ⟨?_, RdM.of_get l b _ (fun x hx => hw x (by simp [hx])) fun i hi => ?_⟩
    · obtain ⟨cs, h1, h2⟩ := h 0 (by simp)
      exact ⟨cs, by simpa using h1, by simpa using h2⟩
    have := h (i + 1) (by simpa using hi)
    rw [hw d (by simp)]
    rw [Nat.succ_mul] at this
    rw [show off + sz + i * sz = off + (i * sz + sz) by omega]
    simpa using this

section
variable {H : Type} {enc : TypeId × Value → H} {P : Program} {w : World} {sp : Nat → Bool} {hd : Bool}
/-- all that is read at type t, by less than N fuel, are readings of an α -/
def Trods (enc : TypeId × Value → H) (P : Program) (w : World) (sp : Nat → Bool) (hd : Bool) (t : TypeId) {α : Type} (f : α → D) (N : Nat) : Prop :=
  ∀ n cs x, n < N → DataW.trod enc P w 0 sp hd n t cs = some x → ∃ a, Rd w Any (f a) cs

theorem trods_int {t : TypeId} (ht : P.underlying t = some (.int .i64)) (N : Nat) : Trods enc P w sp hd t D.int N := by
  intro n cs x _ h
  obtain ⟨m, rfl, -, -⟩ := DataW.trod_int ht h
  exact ⟨m, by rw [Rd]⟩
theorem trods_bool {t : TypeId} (ht : P.underlying t = some .bool) (N : Nat) : Trods enc P w sp hd t D.bool N := by
  intro n cs x _ h
  obtain ⟨m, rfl, -⟩ := DataW.trod_bool ht h
  exact ⟨m, by rw [Rd]⟩
theorem trods_str {t : TypeId} (ht : P.underlying t = some .string) (N : Nat) : Trods enc P w sp hd t D.str N := by
  intro n cs x _ h
  obtain ⟨m, rfl, -, -⟩ := DataW.trod_string ht h
  exact ⟨m, by rw [Rd]⟩
theorem trods_sl {t e : TypeId} {α : Type} {f : α → D} {sz N : Nat} (ht : P.underlying t = some (.slice e)) (hc : P.cellsOf e = sz) (hsz : 0 < sz) (hw : ∀ x, (f x).width = sz) (h : Trods enc P w sp hd e f N) :
    Trods enc P w sp hd t (fun l : List α => .sl (l.map f)) (N + 1) := by
  intro n cs x hn hx
  rcases DataW.trod_slice ht hx with ⟨rfl, -⟩ | ⟨a, len, cap, elems, rest, m, rfl, rfl, -, hb, hl, hm, hlen, hel, -, -⟩
  · exact ⟨[], Rd.nil none (by omega)⟩
  · have hmax : cap ≤ 9223372036854775807 := by unfold maxLen at hm; omega
    have hget : ∀ i, i < len → ∃ cs' y, w.cells? 0 (a.add (i * sz)) sz = some cs' ∧ DataW.trod enc P w 0 sp hd m e cs' = some y := by
      intro i hi
      have := hel i hi
      rw [hc, List.getElem?_eq_getElem (by omega)] at this
      obtain ⟨cs', h1, h2⟩ := Option.bind_eq_some_iff.1 this
      exact ⟨cs', _, h1, h2⟩
    have hget2 : ∀ i, i < len → ∃ (z : α) (cs' : List Value), w.cells? 0 (a.add (i * sz)) sz = some cs' ∧ Rd w Any (f z) cs' := by
      intro i hi
      obtain ⟨cs', y, h1, h2⟩ := hget i hi
      obtain ⟨z, hz⟩ := h m cs' y (by omega) h2
      exact ⟨z, cs', h1, hz⟩
    by_cases h0 : len = 0
    · subst h0; exact ⟨[], Rd.nil _ hmax⟩
    have hsp : a.spot = none := by
      obtain ⟨z, cs', h1, -⟩ := hget2 0 (by omega)
      have := (cells_open h1 hsz).1
      simpa [Addr.add] using this
    obtain ⟨b, off, spt⟩ := a
    subst hsp
    have hg3 : ∀ i, ∃ (z : α), i < len → ∃ cs', CellsAt w b (off + i * sz) cs' ∧ Rd w Any (f z) cs' := by
      obtain ⟨z0, -⟩ := hget2 0 (by omega)
      intro i
      by_cases hi : i < len
      · obtain ⟨z, cs', h1, h2⟩ := hget2 i hi
        refine ⟨z, fun _ => ⟨cs', ?_, h2⟩⟩
        have := (cells_open h1 hsz).2
        by_cases hz : i * sz = 0
        · rw [hz] at this ⊢; simpa [Addr.add] using this
        · simpa [Addr.add, hz] using this
      · exact ⟨z0, fun h => absurd h hi⟩
    let g : Nat → α := fun i => Classical.choose (hg3 i)
    have hgs : ∀ i, i < len → ∃ cs', CellsAt w b (off + i * sz) cs' ∧ Rd w Any (f (g i)) cs' := fun i => Classical.choose_spec (hg3 i)
    refine ⟨(List.range len).map g, Rd.sl_mk (b := b) (off := off) (by simp) (by simpa using hl) hmax (fun _ => ⟨rfl, trivial⟩) (RdM.of_get _ _ _ (sz := sz) ?_ ?_)⟩
    · intro d hd
      obtain ⟨x, -, rfl⟩ := List.mem_map.1 hd
      exact hw x
    · intro i hi
      have hi' : i < len := by simpa using hi
      have := hgs i hi'
      simpa using this

theorem rdS_cut {S : Nat → Prop} {d : D} {l : List D} {cs : List Value} {o k : Nat} (h1 : Rd w S d ((cs.drop o).take k)) (h2 : RdS w S l (cs.drop (o + k))) : RdS w S (d :: l) (cs.drop o) := by
  rw [RdS]
  exact ⟨_, _, by rw [← List.drop_drop]; exact (List.take_append_drop k _).symm, h1, h2⟩
theorem rdS_end {S : Nat → Prop} {cs : List Value} {o : Nat} (h : cs.length ≤ o) : RdS w S [] (cs.drop o) := by
  rw [RdS]; exact List.drop_eq_nil_of_le h
theorem rd_st {S : Nat → Prop} {l : List D} {cs : List Value} (h : RdS w S l (cs.drop 0)) : Rd w S (.st l) cs := by
  rw [Rd]; simpa using h
theorem trod_field {fs : Array Field} {n : Nat} {cs : List Value} {xs : List (DataW H × List MemPlace)} (i : Nat) (T : TypeId) (o k : Nat) (hlen : xs.length = fs.size)
    (hf : ∀ (i : Nat) (f : Field), fs[i]? = some f → DataW.trod enc P w 0 sp hd n f.type ((cs.drop f.offset).take (P.cellsOf f.type)) = xs[i]?)
    (hi : ∃ f : Field, fs[i]? = some f ∧ f.type = T ∧ f.offset = o) (hk : P.cellsOf T = k) :
    ∃ y, DataW.trod enc P w 0 sp hd n T ((cs.drop o).take k) = some y := by
  obtain ⟨f, hi, rfl, rfl⟩ := hi
  subst hk
  have hlt : i < fs.size := (Array.getElem?_eq_some_iff.1 hi).1
  have := hf i f hi
  rw [List.getElem?_eq_getElem (by omega)] at this
  exact ⟨_, this⟩
end
end Go.Proofs.Ytmhelkhmgbbfhaa

/- A law's entry: the arguments' readings as trees; and its end: true, and nothing that was there has changed. -/
namespace Go.Proofs.Ytmhelkhmgbbfhaa
open Go.ChangeShapes Go.WideShapes Go.ChangeAt Go.RowKit Go.Lib

theorem Try.own : ownKnob Try.prog.godebug = none := by kernel_rfl
theorem Try.laidOut : laidOutB Try.prog = true := by kernel_rfl

section
variable {H : Type} {enc : TypeId × Value → H} {P : Program}
theorem post_of_below {f : Func} {s : ChangeSpec} {apart fresh handsOn again : Bool} {W W' : World} {args : Array Value} {v : Value} {ds gs : List (DataW H)} {before pa pv : List MemPlace}
    (hW : DataW.Whole enc P f.params.toList s.vars apart W args.toList ds gs before)
    (hres : ∀ (b : Nat) (sp : Nat → Bool) (hd : Bool), DataW.TrodAll enc P W' b sp hd f.resultTypes.toList (v.resultList f.resultTypes.size) (s.fn H (ds ++ gs)).results [])
    (hargs : ∀ sp : Nat → Bool, (∀ p ∈ before, sp p.block = true) → DataW.TrodAll enc P W' 0 sp true f.params.toList args.toList (s.fn H (ds ++ gs)).args pa)
    (hvars : ∀ sp : Nat → Bool, (∀ p ∈ before, sp p.block = true) → DataW.TrodVars enc P W' sp s.vars (s.fn H (ds ++ gs)).vars pv)
    (hps : before = pa ++ pv) (hb : Below W.heap.size W W')
    (hok : ∀ (j : Nat) (t : TypeId) (r : Value), f.resultTypes[j]? = some t → (v.resultList f.resultTypes.size)[j]? = some r → Value.okWide P W' .any 0 t r) :
    s.post enc P f apart fresh handsOn again W args v W' := by
  have hlt : ∀ p ∈ before, p.block < W.heap.size := fun p hp => hW.lt p hp
  have hold : ∀ p ∈ before, (fun b => decide (b < W.heap.size)) p.block = true := fun p hp => by simpa using hlt p hp
  refine ⟨ds, gs, before, [], pa, pv, hW, hres _ _ _, hargs _ hold, hvars _ hold, World.keptBut_mono (fun p hp => ⟨hp, ?_⟩) (hb.frame (· ∈ before)), fun _ => ?_⟩
  · rw [hps, List.mem_append] at hp
    exact Or.inr hp
  · obtain ⟨_, _, _, _, _, hz, hn⟩ := hW
    refine ⟨hok, _, _, ([] ++ pa) ++ pv, ⟨[] ++ pa, pv, trodAll_append (hargs _ (fun _ _ => rfl)) (hres _ _ _), hvars _ (fun _ _ => rfl), rfl, ?_, ?_⟩, ?_⟩
    · intro b off hp
      have hin : MemPlace.cell b off ∈ before := by rw [hps]; simpa using hp
      rw [hb.frozen (hlt _ hin)]
      exact hz b off hin
    · intro ha
      have := hn ha
      rw [hps] at this
      simpa using this
    · intro p hp _
      rw [hps]
      simpa using hp

theorem args_stay (hl : laidOutB P = true) {W W' : World} {sp : Nat → Bool} (hb : Below W.heap.size W W') : ∀ {ts : List TypeId} {vs : List Value} {ds : List (DataW H)} {ps : List MemPlace},
    (∀ t ∈ ts, P.readableRec t = true ∧ t < P.types.size) → DataW.TrodAll enc P W 0 (fun _ => true) true ts vs ds ps → (∀ p ∈ ps, p.block < W.heap.size) → (∀ p ∈ ps, sp p.block = true) →
    DataW.TrodAll enc P W' 0 sp true ts vs ds ps
  | [], [], [], _, _, h, _, _ => h
  | [], _ :: _, _, _, _, h, _, _ => h.elim
  | [], [], _ :: _, _, _, h, _, _ => h.elim
  | _ :: _, [], _, _, _, h, _, _ => h.elim
  | _ :: _, _ :: _, [], _, _, h, _, _ => h.elim
  | t :: ts, v :: vs, d :: ds, ps, ht, h, hlt, hsp => by
    obtain ⟨p, q, h1, h2, rfl⟩ := h
    refine ⟨p, q, WideElems.Trod_stays hl (ht t (by simp)).1 (ht t (by simp)).2 h1 (fun x hx => hb.same (hlt x (by simp [hx]))) (fun x hx => hsp x (by simp [hx])), ?_, rfl⟩
    exact args_stay hl hb (fun t h => ht t (by simp [h])) h2 (fun x hx => hlt x (by simp [hx])) (fun x hx => hsp x (by simp [hx]))

/-- A law's end: it has returned true, and what was there is as it was. -/
theorem law_post (hl : laidOutB P = true) {f : Func} {s : ChangeSpec} {apart fresh handsOn again : Bool} {W W' : World} {args : Array Value} {ds gs : List (DataW H)} {before : List MemPlace} {tb : TypeId}
    (hW : DataW.Whole enc P f.params.toList s.vars apart W args.toList ds gs before) (hv : s.vars = []) (hs : s.fn H (ds ++ gs) = { results := [.lit (.bool true)], args := ds })
    (hrt : f.resultTypes = #[tb]) (htb : P.underlying tb = some .bool) (hts0 : (f.params.toList.all fun t => P.readableRec t && decide (t < P.types.size)) = true) (hb : Below W.heap.size W W') :
    s.post enc P f apart fresh handsOn again W args (.bool true) W' := by
  have hts : ∀ t ∈ f.params.toList, P.readableRec t = true ∧ t < P.types.size := by
    intro t ht
    have := List.all_eq_true.1 hts0 t ht
    simpa using this
  have hlt : ∀ p ∈ before, p.block < W.heap.size := fun p hp => hW.lt p hp
  have hW2 := hW
  obtain ⟨p, q, hA, hV, rfl, -, -⟩ := hW
  rw [hv] at hV
  obtain ⟨rfl, rfl⟩ := trodVars_none hV
  refine post_of_below (pa := p) (pv := []) hW2 ?_ ?_ ?_ (by simp) hb ?_
  · intro b sp hd
    rw [hs, hrt]
    exact trodAll_mk1 ⟨1, by simp [DataW.trod, Value.cells, htb]⟩
  · intro sp hsp
    rw [hs]
    exact args_stay hl hb hts hA (fun x hx => hlt x (by simp [hx])) (fun x hx => hsp x (by simp [hx]))
  · intro sp hsp
    rw [hs, hv]
    exact rfl
  · intro j t r hj hr
    rw [hrt] at hj hr
    obtain rfl : j = 0 := by
      have := (Array.getElem?_eq_some_iff.1 hj).1
      simpa using this
    simp at hj
    subst hj
    have : r = .bool true := by simpa [Value.resultList] using hr.symm
    subst this
    simp [Value.okWide, htb, Cell.okWide, Cell.ok]

variable {w w0 : World} {sp : Nat → Bool} {hd : Bool} {b0 : Nat} {t : TypeId} {v : Value} {d : DataW H} {ps : List MemPlace}
theorem par_int (ht : P.underlying t = some (.int .i64)) (hval : Value.okWide P w0 .any b0 t v) : ∃ n, v = .int .i64 n := okWide_int ht hval
theorem par_sl {e : TypeId} (ht : P.underlying t = some (.slice e)) (hval : Value.okWide P w0 .any b0 t v) (h : DataW.Trod enc P w 0 sp hd t v d ps) {α : Type} {f : α → D} (hf : ∀ N, Trods enc P w sp hd t f N) : ∃ x, Rd w Any (f x) [v] := by
  obtain ⟨a, len, cap, rfl⟩ := okWide_slice ht hval
  obtain ⟨fuel, h⟩ := h
  exact hf (fuel + 1) fuel _ _ (by omega) h
theorem par_st {fs : Array Field} (ht : P.underlying t = some (.struct fs)) (hval : Value.okWide P w0 .any b0 t v) (h : DataW.Trod enc P w 0 sp hd t v d ps) {α : Type} {f : α → D} (hf : ∀ N, Trods enc P w sp hd t f N) : ∃ x cs, v = .agg cs.toArray ∧ Rd w Any (f x) cs := by
  obtain ⟨cs, rfl, -⟩ := okWide_struct ht hval
  obtain ⟨fuel, h⟩ := h
  obtain ⟨x, hx⟩ := hf (fuel + 1) fuel _ _ (by omega) h
  exact ⟨x, cs.toList, rfl, hx⟩
theorem par_str (ht : P.underlying t = some .string) (hval : Value.okWide P w0 .any b0 t v) : ∃ s, v = .string s := okWide_string ht hval
end
end Go.Proofs.Ytmhelkhmgbbfhaa
