/- Walk: small: the law's examples have the documented results. -/
import Derived.Test.YtmhelkhmgbbfhaaSmallP16
namespace Go.Proofs.Ytmhelkhmgbbfhaa
open Go.RowKit Go.Lib

theorem rdS_two {w : World} {a b : Ex} {a0 a1 a2 a3 b0 b1 b2 b3 : Value} (h1 : Rd w Any a.d [a0, a1, a2, a3]) (h2 : Rd w Any b.d [b0, b1, b2, b3]) : RdS w Any ([a, b].map Ex.d) [a0, a1, a2, a3, b0, b1, b2, b3] :=
  rdS_cons (c1 := [a0, a1, a2, a3]) (c2 := [b0, b1, b2, b3]) rfl h1 (rdS_cons (c1 := [b0, b1, b2, b3]) (c2 := []) rfl h2 (rdS_nil _ _))
theorem rdS_one {w : World} {a : Ex} {a0 a1 a2 a3 : Value} (h1 : Rd w Any a.d [a0, a1, a2, a3]) : RdS w Any ([a].map Ex.d) [a0, a1, a2, a3] :=
  rdS_cons (c1 := [a0, a1, a2, a3]) (c2 := []) rfl h1 (rdS_nil _ _)

set_option maxRecDepth 10000 in
set_option maxHeartbeats 4000000 in
theorem small_any (w : World) : Calls Try.prog 9 #[] w fun r w' => r = .returned (.bool true) ∧ Ext w w' := by
  go_enter Try.func9, Try.ntmps9
  go_wp2_with fail
  refine (col_any _ _).mono ?_
  rintro r w1 ⟨rfl, h1⟩
  have hrow : Rd w1 Any (.sl (rowV.map Val.d)) [.slice (some ⟨w.heap.size, 0, none⟩) 2 2] := Rd.ext (Rd.ext (rd_new rfl rfl (rdS_vals _ Any rowV) trivial (by simp [rowV]) (by omega)) ((Ext.refl _).alloc _)) h1
  have hcols : Rd w1 Any (.sl (([0, 1] : List Int).map D.int)) [.slice (some ⟨w.heap.size + 1, 0, none⟩) 2 2] := Rd.ext (rd_new_ints (l := [0, 1]) (by simp) rfl rfl (by simp)) h1
  have hw1 : Ext w w1 := (((Ext.refl _).alloc _).alloc _).trans h1
  clear h1
  go_wp2_with fail
  refine (col_any _ _).mono ?_
  rintro r w2 ⟨rfl, h2⟩
  have hone : Rd w2 Any oneE.d [.int .i64 22, .int .i64 0, .string ByteArray.empty, .slice (some ⟨w1.heap.size, 0, none⟩) 2 2] := Rd.ext (Rd.ext (rd_node (l := [colE 0, timeE]) (rd_new rfl rfl (rdS_two (rd_leaf _ _ _ _ _) (rd_leaf _ _ _ _ _)) trivial (by simp) (by omega))) ((Ext.refl _).alloc _)) h2
  have a0 : w2.cell? ⟨w1.heap.size + 1, 0, none⟩ = some (.int .i64 22) := h2.at (by go_simp)
  have a1 : w2.cell? ⟨w1.heap.size + 1, 1, none⟩ = some (.int .i64 0) := h2.at (by go_simp)
  have a2 : w2.cell? ⟨w1.heap.size + 1, 2, none⟩ = some (.string ByteArray.empty) := h2.at (by go_simp; rfl)
  have a3 : w2.cell? ⟨w1.heap.size + 1, 3, none⟩ = some (.slice (some ⟨w1.heap.size, 0, none⟩) 2 2) := h2.at (by go_simp)
  have hw2 : Ext w1 w2 := (((Ext.refl _).alloc _).alloc _).trans h2
  clear h2
  go_wp2_with fail
  refine (num_any _ _).mono ?_
  rintro r w3 ⟨rfl, h3⟩
  go_wp2_with fail
  refine (op_any _ _ _ _ _).mono ?_
  rintro r w4 ⟨rfl, h4⟩
  have htwo : Rd w4 Any twoE.d [.int .i64 11, .int .i64 0, .string ByteArray.empty, .slice (some ⟨w3.heap.size, 0, none⟩) 2 2] := Rd.ext (rd_node (l := [colE 0, numE 0]) (rd_new rfl rfl (rdS_two (rd_leaf _ _ _ _ _) (rd_leaf _ _ _ _ _)) trivial (by simp) (by omega))) h4
  have hw4 : Ext w2 w4 := (h3.alloc _).trans h4
  clear h3 h4
  go_wp2_with fail
  refine (col_any _ _).mono ?_
  rintro r w5 ⟨rfl, h5⟩
  have b0 : w5.cell? ⟨w4.heap.size, 0, none⟩ = some (.int .i64 11) := h5.at (by go_simp)
  have b1 : w5.cell? ⟨w4.heap.size, 1, none⟩ = some (.int .i64 0) := h5.at (by go_simp)
  have b2 : w5.cell? ⟨w4.heap.size, 2, none⟩ = some (.string ByteArray.empty) := h5.at (by go_simp)
  have b3 : w5.cell? ⟨w4.heap.size, 3, none⟩ = some (.slice (some ⟨w3.heap.size, 0, none⟩) 2 2) := h5.at (by go_simp)
  have hw5 : Ext w4 w5 := ((Ext.refl _).alloc _).trans h5
  clear h5
  go_wp2_with fail
  refine (op_any _ _ _ _ _).mono ?_
  rintro r w6 ⟨rfl, h6⟩
  have hcat : Rd w6 Any (Ex.mk 19 0 ByteArray.empty [colE 1, .mk 1 0 ⟨#[121, 122]⟩ []]).d [.int .i64 19, .int .i64 0, .string ByteArray.empty, .slice (some ⟨w5.heap.size, 0, none⟩) 2 2] := Rd.ext (rd_node (l := [colE 1, .mk 1 0 ⟨#[121, 122]⟩ []]) (rd_new rfl rfl (rdS_two (rd_leaf _ _ _ _ _) (rd_leaf _ _ _ _ _)) trivial (by simp) (by omega))) h6
  have hw6 : Ext w5 w6 := ((Ext.refl _).alloc _).trans h6
  clear h6
  go_wp2_with fail
  refine (op_any _ _ _ _ _).mono ?_
  rintro r w7 ⟨rfl, h7⟩
  have hthree : Rd w7 Any threeE.d [.int .i64 20, .int .i64 0, .string ByteArray.empty, .slice (some ⟨w6.heap.size, 0, none⟩) 1 1] := Rd.ext (rd_node (l := [.mk 19 0 ByteArray.empty [colE 1, .mk 1 0 ⟨#[121, 122]⟩ []]]) (rd_new rfl rfl (rdS_one (Rd.ext hcat ((Ext.refl _).alloc _))) trivial (by simp) (by omega))) h7
  have hw7 : Ext w6 w7 := ((Ext.refl _).alloc _).trans h7
  clear h7 hcat
  go_wp2_with fail
  generalize hWe : World.alloc w7 _ = W
  have c0 : W.cell? ⟨w7.heap.size, 0, none⟩ = some (.int .i64 20) := by rw [← hWe]; clear hWe; go_simp
  have c1 : W.cell? ⟨w7.heap.size, 1, none⟩ = some (.int .i64 0) := by rw [← hWe]; clear hWe; go_simp
  have c2 : W.cell? ⟨w7.heap.size, 2, none⟩ = some (.string ByteArray.empty) := by rw [← hWe]; clear hWe; go_simp
  have c3 : W.cell? ⟨w7.heap.size, 3, none⟩ = some (.slice (some ⟨w6.heap.size, 0, none⟩) 1 1) := by rw [← hWe]; clear hWe; go_simp
  have hW7 : Ext w7 W := by rw [← hWe]; exact (by repeat' first | exact Ext.refl _ | assumption | apply Ext.alloc | apply Ext.drew | apply Ext.drewN | (refine Ext.trans ?_ (by assumption)))
  clear hWe
  have hW5 : Ext w5 W := hw6.trans (hw7.trans hW7)
  have hW4 : Ext w4 W := hw5.trans hW5
  have hW2 : Ext w2 W := hw4.trans hW4
  have hW1 : Ext w1 W := hw2.trans hW2
  have hW : Ext w W := hw1.trans hW1
  replace a0 := hW2.at a0
  replace a1 := hW2.at a1
  replace a2 := hW2.at a2
  replace a3 := hW2.at a3
  replace b0 := hW5.at b0
  replace b1 := hW5.at b1
  replace b2 := hW5.at b2
  replace b3 := hW5.at b3
  have hrow' := Lib.hid (hrow.ext hW1)
  have hcols' := Lib.hid (hcols.ext hW1)
  have hone' := Lib.hid (hone.ext hW2)
  have htwo' := Lib.hid (htwo.ext hW4)
  have hthree' := Lib.hid (hthree.ext hW7)
  clear hrow hcols hone htwo hthree hw1 hw2 hw4 hw5 hw6 hw7 hW1 hW2 hW4 hW5 hW7
  go_region_held3 (fun w' => w'.cell? ⟨w1.heap.size + 1, 0, none⟩ = some (.int .i64 22) ∧ w'.cell? ⟨w1.heap.size + 1, 1, none⟩ = some (.int .i64 0) ∧ w'.cell? ⟨w1.heap.size + 1, 2, none⟩ = some (.string ByteArray.empty) ∧ w'.cell? ⟨w1.heap.size + 1, 3, none⟩ = some (.slice (some ⟨w1.heap.size, 0, none⟩) 2 2))
    ((refine (fun (hx : Ext W _) => ⟨hx.at a0, hx.at a1, hx.at a2, hx.at a3⟩) ?_; repeat' first | exact Ext.refl _ | assumption | apply Ext.alloc | apply Ext.drew | apply Ext.drewN | (refine Ext.trans ?_ (by assumption))))
    ((first
      | (go_at_call 40; refine (least_any _).mono ?_; rintro r w8 ⟨vL, rfl, hL, h8⟩)
      | (go_at_call 11; refine (type_any [leastF] [0, 1] [] oneE Any Any Any Any _ _ _ _ _ (Rd.ext hL (Ext.refl _)) (Rd.ext hcols'.out ((Ext.refl W).drew.trans h8)) (Rd.nil none (by omega)) (Rd.ext hone'.out ((Ext.refl W).drew.trans h8)) (by decide) (by decide)).mono ?_; rintro r w9 ⟨rfl, h9⟩)))
  have hW9 : Ext W w9 := ((Ext.refl W).drew.trans h8).trans h9
  clear hL h8 h9
  have ht1 : (typeP [leastF] [0, 1] [] oneE).getD 0 = 0 := by rw [ty_one]; rfl
  have ht2 : (typeP [leastF] [0, 1] [] oneE).isSome = true := by rw [ty_one]; rfl
  rw [ht1, ht2]
  go_wp2_with fail
  refine (least_any _).mono ?_
  rintro r w10 ⟨vL2, rfl, hL2, h10⟩
  go_wp2_with fail
  refine (col_any _ _).mono ?_
  rintro r w11 ⟨rfl, h11⟩
  go_wp2_with fail
  refine (op_any _ _ _ _ _).mono ?_
  rintro r w12 ⟨rfl, h12⟩
  go_wp2_with fail
  have hW12 : Ext W w12 := ((hW9.trans h10).trans h11).trans (((Ext.refl _).alloc _).trans h12)
  have hL12 : Rd w12 Any (.sl ([leastF].map Fn.d)) [vL2] := hL2.ext (h11.trans (((Ext.refl _).alloc _).trans h12))
  have hnot : Rd w12 Any notE.d [.int .i64 6, .int .i64 0, .string ByteArray.empty, .slice (some ⟨w11.heap.size, 0, none⟩) 1 1] := Rd.ext (rd_node (l := [colE 0]) (rd_new rfl rfl (rdS_one (rd_leaf _ _ _ _ _)) trivial (by simp) (by omega))) h12
  refine (type_any [leastF] [0, 1] [] notE Any Any Any Any _ _ _ _ _ hL12 (hcols'.out.ext hW12) (Rd.nil none (by omega)) hnot (by decide) (by decide)).mono ?_
  rintro r w13 ⟨rfl, h13⟩
  have hW13 : Ext W w13 := hW12.trans h13
  have ht3 : (typeP [leastF] [0, 1] [] notE).getD 0 = 0 := by rw [ty_not]; rfl
  have ht4 : (typeP [leastF] [0, 1] [] notE).isSome = false := by rw [ty_not]; rfl
  rw [ht3, ht4]
  clear ht1 ht2 ht3 ht4 hnot hL12 hL2 h10 h11 h12 h13 hW12 hW9
  replace a0 := hW13.at a0
  replace a1 := hW13.at a1
  replace a2 := hW13.at a2
  replace a3 := hW13.at a3
  replace b0 := hW13.at b0
  replace b1 := hW13.at b1
  replace b2 := hW13.at b2
  replace b3 := hW13.at b3
  replace c0 := hW13.at c0
  replace c1 := hW13.at c1
  replace c2 := hW13.at c2
  replace c3 := hW13.at c3
  have hrow2 := Lib.hid (hrow'.out.ext hW13)
  have hone2 := Lib.hid (hone'.out.ext hW13)
  have htwo2 := Lib.hid (htwo'.out.ext hW13)
  have hthree2 := Lib.hid (hthree'.out.ext hW13)
  have hfd1 : ∀ X : World, (Instr.field 34 (.agg #[.int .i64 0, .int .i64 7, .string ByteArray.empty]) 1).run Try.prog X = .ok (.int .i64 7) X := fun _ => by kernel_rfl
  have hfd2 : ∀ X : World, (Instr.field 34 (.agg #[.int .i64 0, .int .i64 0, .string ByteArray.empty]) 1).run Try.prog X = .ok (.int .i64 0) X := fun _ => by kernel_rfl
  have hfd3 : ∀ X : World, (Instr.field 34 (.agg #[.int .i64 0, .int .i64 3, .string ByteArray.empty]) 1).run Try.prog X = .ok (.int .i64 3) X := fun _ => by kernel_rfl
  have hS : ∀ X : World, Ext w13 X → (X.cell? ⟨w1.heap.size + 1, 0, none⟩ = some (.int .i64 22) ∧ X.cell? ⟨w1.heap.size + 1, 1, none⟩ = some (.int .i64 0) ∧ X.cell? ⟨w1.heap.size + 1, 2, none⟩ = some (.string ByteArray.empty) ∧ X.cell? ⟨w1.heap.size + 1, 3, none⟩ = some (.slice (some ⟨w1.heap.size, 0, none⟩) 2 2)
      ∧ X.cell? ⟨w4.heap.size, 0, none⟩ = some (.int .i64 11) ∧ X.cell? ⟨w4.heap.size, 1, none⟩ = some (.int .i64 0) ∧ X.cell? ⟨w4.heap.size, 2, none⟩ = some (.string ByteArray.empty) ∧ X.cell? ⟨w4.heap.size, 3, none⟩ = some (.slice (some ⟨w3.heap.size, 0, none⟩) 2 2)
      ∧ X.cell? ⟨w7.heap.size, 0, none⟩ = some (.int .i64 20) ∧ X.cell? ⟨w7.heap.size, 1, none⟩ = some (.int .i64 0) ∧ X.cell? ⟨w7.heap.size, 2, none⟩ = some (.string ByteArray.empty) ∧ X.cell? ⟨w7.heap.size, 3, none⟩ = some (.slice (some ⟨w6.heap.size, 0, none⟩) 1 1)) :=
    fun _ hx => ⟨hx.at a0, hx.at a1, hx.at a2, hx.at a3, hx.at b0, hx.at b1, hx.at b2, hx.at b3, hx.at c0, hx.at c1, hx.at c2, hx.at c3⟩
  have hS' := Lib.hid hS
  have hone3 : ∀ (X : World) (vL : Value), Ext w13 X → Rd X Any (.sl ([leastF].map Fn.d)) [vL] → Calls Try.prog 13 #[vL, .agg #[.int .i64 22, .int .i64 0, .string ByteArray.empty, .slice (some ⟨w1.heap.size, 0, none⟩) 2 2], .int .i64 7, .slice (some ⟨w.heap.size, 0, none⟩) 2 2] X fun r w' => r = .returned (.agg #[.int .i64 0, .int .i64 7, .string ByteArray.empty]) ∧ Ext X w' := by
    intro X vL hx hL
    have := Eval_any [leastF] 7 rowV oneE 0 okF_least parts_least (by decide) (by decide) rowV_sound vL _ _ X hL (Rd.ext hrow2.out hx) (Rd.ext hone2.out hx)
    rw [evv_one] at this
    exact this
  have htwo3 : ∀ X : World, Ext w13 X → Calls Try.prog 13 #[.slice none 0 0, .agg #[.int .i64 11, .int .i64 0, .string ByteArray.empty, .slice (some ⟨w3.heap.size, 0, none⟩) 2 2], .int .i64 7, .slice (some ⟨w.heap.size, 0, none⟩) 2 2] X fun r w' => r = .returned (.agg #[.int .i64 0, .int .i64 0, .string ByteArray.empty]) ∧ Ext X w' := by
    intro X hx
    have := Eval_any [] 7 rowV twoE 0 (by simp) (by simp) (by decide) (by decide) rowV_sound (.slice none 0 0) _ _ X (Rd.nil none (by omega)) (Rd.ext hrow2.out hx) (Rd.ext htwo2.out hx)
    rw [evv_two] at this
    exact this
  have hthree3 : ∀ X : World, Ext w13 X → Calls Try.prog 13 #[.slice none 0 0, .agg #[.int .i64 20, .int .i64 0, .string ByteArray.empty, .slice (some ⟨w6.heap.size, 0, none⟩) 1 1], .int .i64 7, .slice (some ⟨w.heap.size, 0, none⟩) 2 2] X fun r w' => r = .returned (.agg #[.int .i64 0, .int .i64 3, .string ByteArray.empty]) ∧ Ext X w' := by
    intro X hx
    have := Eval_any [] 7 rowV threeE 0 (by simp) (by simp) (by decide) (by decide) rowV_sound (.slice none 0 0) _ _ X (Rd.nil none (by omega)) (Rd.ext hrow2.out hx) (Rd.ext hthree2.out hx)
    rw [evv_three] at this
    exact this
  have hone4 := Lib.hid hone3
  have htwo4 := Lib.hid htwo3
  have hthree4 := Lib.hid hthree3
  clear hS hone3 htwo3 hthree3 hrow2 hone2 htwo2 hthree2 hrow' hone' htwo' hthree' hcols'
  go_wp2_with fail
  go_region_held3 (fun w' => w'.cell? ⟨w1.heap.size + 1, 0, none⟩ = some (.int .i64 22) ∧ w'.cell? ⟨w1.heap.size + 1, 1, none⟩ = some (.int .i64 0) ∧ w'.cell? ⟨w1.heap.size + 1, 2, none⟩ = some (.string ByteArray.empty) ∧ w'.cell? ⟨w1.heap.size + 1, 3, none⟩ = some (.slice (some ⟨w1.heap.size, 0, none⟩) 2 2)
      ∧ w'.cell? ⟨w4.heap.size, 0, none⟩ = some (.int .i64 11) ∧ w'.cell? ⟨w4.heap.size, 1, none⟩ = some (.int .i64 0) ∧ w'.cell? ⟨w4.heap.size, 2, none⟩ = some (.string ByteArray.empty) ∧ w'.cell? ⟨w4.heap.size, 3, none⟩ = some (.slice (some ⟨w3.heap.size, 0, none⟩) 2 2)
      ∧ w'.cell? ⟨w7.heap.size, 0, none⟩ = some (.int .i64 20) ∧ w'.cell? ⟨w7.heap.size, 1, none⟩ = some (.int .i64 0) ∧ w'.cell? ⟨w7.heap.size, 2, none⟩ = some (.string ByteArray.empty) ∧ w'.cell? ⟨w7.heap.size, 3, none⟩ = some (.slice (some ⟨w6.heap.size, 0, none⟩) 1 1))
    ((refine hS'.out _ ?_; repeat' first | exact Ext.refl _ | assumption | apply Ext.alloc | apply Ext.drew | apply Ext.drewN | (refine Ext.trans ?_ (by assumption))))
    ((first
      | (go_at_call 40; refine (least_any _).mono ?_; rintro r w14 ⟨vL, rfl, hL, h14⟩)
      | (go_at_call 13; refine (hthree4.out _ ((((Ext.refl w13).drew.trans h14).trans h15).trans h16)).mono ?_; rintro r w17 ⟨rfl, h17⟩)
      | (go_at_call 13; refine (htwo4.out _ (((Ext.refl w13).drew.trans h14).trans h15)).mono ?_; rintro r w16 ⟨rfl, h16⟩)
      | (go_at_call 13; refine (hone4.out _ _ ((Ext.refl w13).drew.trans h14) hL).mono ?_; rintro r w15 ⟨rfl, h15⟩)))
  have hfin : Ext w w17 := hW.trans (hW13.trans (((((Ext.refl w13).drew.trans h14).trans h15).trans h16).trans h17))
  go_wp2_with fail
  go_ret
  exact ⟨rfl, hfin⟩
end Go.Proofs.Ytmhelkhmgbbfhaa
