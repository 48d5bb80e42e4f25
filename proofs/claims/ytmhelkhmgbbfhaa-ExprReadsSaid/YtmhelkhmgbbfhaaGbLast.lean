/- The law ExprReads: for every input it returns true, and each argument reads afterwards as it read before. (written by gen_lift16.py) -/
import Derived.Test.YtmhelkhmgbbfhaaGa26
set_option linter.unusedSimpArgs false
set_option linter.unusedVariables false
namespace Go.Proofs.Ytmhelkhmgbbfhaa
open Go.ChangeShapes Go.WideShapes Go.ChangeAt Go.RowKit Go.Lib

set_option maxRecDepth 100000 in
theorem exprReads_lifted (os : Os) (started : os.Started) (H : Type) (enc : TypeId × Value → H) :
    ReturnsInHanded {} Try.checked os 6 .any (Rows.exprReadsSpec.pre6 enc Try.prog Try.f6 Rows.exprReadsRow.domain false) (Rows.exprReadsSpec.post enc Try.prog Try.f6 false true false false) := by
  refine returnsInHanded_of_change (C := Try.checked) Try.own started (by kernel_rfl) Try.func6
    (ChangeSpec.witness6 (enc := enc) (C := Try.checked) false ⟨#[], #[.slice .none 0 0, .agg #[.int .i64 0, .int .i64 0, .string ByteArray.empty, .slice .none 0 0], .int .i64 0, .slice .none 0 0, .int .i64 0, .int .i64 0, .agg #[.int .i64 0, .int .i64 0, .string ByteArray.empty]], []⟩ 8 (by kernel_rfl) (by kernel_rfl) (by kernel_rfl) (by kernel_rfl)) ?_
  intro W base args ds gs before hval0 hW hcnd _
  have hval : ∀ (j : Nat) t v, Try.f6.params[j]? = some t → args[j]? = some v → Value.okWide Try.prog W .any base t v := hval0
  have hW' := hW
  obtain ⟨p, q, hA0, hV, rfl, hfz, hnd⟩ := hW
  have hA : DataW.TrodAll enc Try.prog W 0 (fun _ => true) true Try.f6.params.toList args.toList ds p := hA0
  rw [Try.params6] at hA hval
  obtain ⟨v0, v1, v2, v3, v4, v5, v6, d0, d1, d2, d3, d4, d5, d6, p0, p1, p2, p3, p4, p5, p6, rfl, rfl, rfl, h0, h1, h2, h3, h4, h5, h6⟩ := trodAll_seven hA
  obtain ⟨rfl, rfl⟩ := trodVars_none hV
  obtain ⟨x0, r0⟩ := par_sl Try.underlying22 (hval 0 _ v0 rfl rfl) h0 trods_fns
  obtain ⟨x1, cs1, rfl, r1⟩ := par_st Try.underlying25 (hval 1 _ v1 rfl rfl) h1 trods_ex
  obtain ⟨x2, rfl⟩ := par_int Try.underlying3 (hval 2 _ v2 rfl rfl)
  obtain ⟨x3, r3⟩ := par_sl Try.underlying26 (hval 3 _ v3 rfl rfl) h3 trods_vals
  obtain ⟨x4, rfl⟩ := par_int Try.underlying3 (hval 4 _ v4 rfl rfl)
  obtain ⟨x5, rfl⟩ := par_int Try.underlying3 (hval 5 _ v5 rfl rfl)
  obtain ⟨x6, cs6, rfl, r6⟩ := par_st Try.underlying34 (hval 6 _ v6 rfl rfl) h6 trods_val
  refine (calls_of_gives (vals := [v0, .agg cs1.toArray, .int .i64 x2, v3, .int .i64 x4, .int .i64 x5, .agg cs6.toArray]) (exprReads_g x0 x1 x2 x3 x4 x5 x6) ⟨_, _, rfl, flat_fns r0, _, _, rfl, flat_ex r1, _, _, rfl, flat_int, _, _, rfl, flat_vals r3, _, _, rfl, flat_int, _, _, rfl, flat_int, _, _, rfl, flat_val r6, rfl⟩).mono ?_
  rintro r W' ⟨rfl, hb⟩
  exact ⟨_, rfl, law_post (P := Try.prog) Try.laidOut hW' rfl rfl (by kernel_rfl) Try.underlying4 (by kernel_rfl) hb⟩

theorem exprReads_holds : Rows.ExprReadsSaid :=
  OpenClaim.holds_of_wide 6 Try.f6 rfl rfl rfl rfl rfl rfl rfl ⟨rfl, rfl, rfl, rfl, rfl⟩ rfl rfl rfl rfl rfl (by kernel_rfl) Try.func6 (by kernel_rfl)
    (of_decide_eq_true (by kernel_rfl)) (by unfold Func.isWrapper; rw [if_neg (by decide +kernel)]; exact ⟨rfl, rfl⟩)
    (fun os started H enc _ => exprReads_lifted os started H enc)
end Go.Proofs.Ytmhelkhmgbbfhaa
