/- The law VmNodes where what it reads is of bulk at most 1048576, lifted: the row and the tied card. (Printed by gen_lift26.py.) -/
import Derived.Test.YtkedbjjfmejbhaaGreatDoorGe16
import Derived.Test.YtkedbjjfmejbhaaGreatDoorGe30
set_option linter.unusedSimpArgs false
set_option linter.unusedVariables false
namespace Go.Proofs.YtkedbjjfmejbhaaGreatDoor
open Go.ChangeShapes Go.WideShapes Go.ChangeAt Go.RowKit Go.Lib
noncomputable def vmNodesW (os : Os) : World := World.laidAll Tryz.prog os Rows.vmNodesUptoRow.laid
def qkw : Array Value := #[.slice .none 0 0, .agg #[.int .i64 0, .slice .none 0 0, .string ByteArray.empty, .int .i64 0, .slice .none 0 0, .int .i64 0, .int .i64 0, .int .i64 0, .slice .none 0 0, .slice .none 0 0, .int .i64 0, .int .i64 0, .int .i64 0, .slice .none 0 0, .slice .none 0 0, .slice .none 0 0], .slice .none 0 0, .slice .none 0 0]
theorem qrh (os : Os) {H : Type} (enc : TypeId × Value -> H) : ∃ places, DataW.whole enc Tryz.prog ((vmNodesW os).forCall (fun _ _ => 0) ⟨#[], qkw, []⟩).memory Tryz.f3.params.toList Rows.vmNodesSpec.vars false qkw.toList 8 = some ([.nil, .agg [.lit (.int .i64 0), .nil, .lit (.string []), .lit (.int .i64 0), .nil, .lit (.int .i64 0), .lit (.int .i64 0), .lit (.int .i64 0), .nil, .nil, .lit (.int .i64 0), .lit (.int .i64 0), .lit (.int .i64 0), .nil, .nil, .nil], .nil, .nil], [], places) :=
 ⟨[], by kernel_rfl⟩
theorem quo (os : Os) : laidMet Tryz.prog Rows.vmNodesUptoRow.laid ((vmNodesW os).forCall (fun _ _ => 0) ⟨#[], qkw, []⟩).memory :=
 laidMet_of_run' 8 (by kernel_rfl) (by kernel_rfl)
set_option maxRecDepth 100000 in
theorem qnf (os : Os) (started : os.Started) (H : Type) (enc : TypeId × Value -> H) (F : Stop.Interp) :
  ReturnsInHanded {} Tryz.checked os 3 .any ((Rows.OpenSpec.upto Rows.vmNodesSpec).preRow enc Tryz.prog Tryz.f3 Rows.vmNodesUptoRow.domain false Rows.vmNodesUptoRow.laid) (((Rows.OpenSpec.upto Rows.vmNodesSpec).at F).post enc Tryz.prog Tryz.f3 false true false false) := by
 obtain ⟨places, hx⟩ := qrh os enc
 refine returnsInHanded_of_row (C := Tryz.checked) (s := Rows.OpenSpec.upto Rows.vmNodesSpec) Tryz.own started (by kernel_rfl) Tryz.func3
  (witness_row_at (enc := enc) (C := Tryz.checked) false (vmNodesW os) qkw (World.laidAll_os _ _ _) (by kernel_rfl) (by kernel_rfl) (by kernel_rfl)
   (OpenSpec.preRow_of_cond 8 hx (by kernel_rfl) (fun k hk => by cases hk; kernel_rfl) (by kernel_rfl) (quo os))) ?_
 intro W base args ds gs before hval0 hW _ hcond _ hlaid _ _
 rw [MakeChecks.laidMetH_plain _ _ _ (by kernel_rfl)] at hlaid
 have hglob := globN hlaid (by simp [Rows.vmNodesUptoRow]) (by simp [Rows.vmNodesUptoRow])
 have hval : ∀ (j : Nat) t v, Tryz.f3.params[j]? = some t -> args[j]? = some v -> Value.okWide Tryz.prog W .any base t v := hval0
 have hW' := hW
 obtain ⟨p, q, hA0, hV, rfl, hfz, hnd⟩ := hW
 have hA : DataW.TrodAll enc Tryz.prog W 0 (fun _ => true) true Tryz.f3.params.toList args.toList ds p := hA0
 rw [Tryz.params3] at hA hval
 obtain ⟨v0, v1, v2, v3, d0, d1, d2, d3, p0, p1, p2, p3, rfl, rfl, rfl, h0, h1, h2, h3⟩ := quk hA
 obtain ⟨rfl, rfl⟩ := trodVars_none hV
 have hb0 : Rows.uptoSmall H ([d0, d1, d2, d3] ++ []) = true := hcond _ rfl
 have hb : Rows.uptoBulkAll ([d0, d1, d2, d3] ++ []) <= 1048576 := of_decide_eq_true hb0
 simp only [List.append_nil, Rows.uptoBulkAll] at hb
 obtain ⟨x0, r0⟩ := qez1 Tryz.underlying22 (hval 0 _ v0 rfl rfl) h0 qgu1
 obtain ⟨x1, cs1, rfl, r1⟩ := qry1 Tryz.underlying29 (hval 1 _ v1 rfl rfl) h1 qbk1
 obtain ⟨x2, r2⟩ := qez1 Tryz.underlying23 (hval 2 _ v2 rfl rfl) h2 qum
 obtain ⟨x3, r3⟩ := qez1 Tryz.underlying30 (hval 3 _ v3 rfl rfl) h3 qul
 have s0 : (∀ f ∈ x0, n64 f.body) /\ (x0.map fun f => 5 * parts f.body).sum + 1 <= Rows.uptoBulk d0 /\ x0.length + 1 <= Rows.uptoBulk d0 := by
  obtain ⟨A, n, c, rfl⟩ := okWide_slice Tryz.underlying22 (hval 0 _ v0 rfl rfl)
  obtain ⟨k, t⟩ := h0
  exact qjs (Q := fun f => n64 f.body) (g := fun f => 5 * parts f.body) Tryz.underlying22 (by kernel_rfl) (by omega) Fn.width r0 t fun f _ n c y hr hy => qmv1 f n c y hr hy
 have s1 : (∀ e ∈ x1.exprs, n64 e) /\ (x1.exprs.map fun e => 5 * parts e).sum <= Rows.uptoBulk d1 /\ x1.exprs.length <= Rows.uptoBulk d1 /\ (x1.seq.map fun p => 5 * parts p.pred).sum <= Rows.uptoBulk d1 /\ x1.seq.length <= Rows.uptoBulk d1 := by
  obtain ⟨k, t⟩ := h1
  exact qeq1 x1 k cs1 _ r1 t
 have s3 : (∀ d ∈ x3, True) /\ (x3.map fun d => 4 * d.row.length).sum + 1 <= Rows.uptoBulk d3 /\ x3.length + 1 <= Rows.uptoBulk d3 := by
  obtain ⟨A, n, c, rfl⟩ := okWide_slice Tryz.underlying30 (hval 3 _ v3 rfl rfl)
  obtain ⟨k, t⟩ := h3
  exact qjs (Q := fun _ => True) (g := fun d => 4 * d.row.length) Tryz.underlying30 (by kernel_rfl) (by omega) Delta.width r3 t fun f _ n c y hr hy => qab1 f n c y hr hy
 refine (qnd (vals := [v0, .agg cs1.toArray, v2, v3]) (qhk1 x0 x1 x2 x3 (by have := qgm1 x0; omega) (fun f hf => by have := qgh (g := fun f : Fn => 5 * parts f.body) hf; omega) (fun e he => by have := qgh (g := fun e : Ex => 5 * parts e) he; omega) (fun p hp => by have := qgh (g := fun p : Pat => 5 * parts p.pred) hp; omega) (by have := quf x1.exprs; omega) (by have := qpc x1.seq; omega) (fun d hd => by have := qgh (g := fun d : Delta => 4 * d.row.length) hd; omega) s1.1 s0.1) ⟨_, _, rfl, qac1 r0, _, _, rfl, Node.flat r1, _, _, rfl, qwc r2, _, _, rfl, Delta.flats r3, rfl⟩ hglob).mono ?_
 rintro r W' ⟨rfl, hb⟩
 exact ⟨_, rfl, qjj1 (P := Tryz.prog) Tryz.laidOut hW' rfl rfl (by kernel_rfl) Tryz.underlying4 (by kernel_rfl) hb⟩
theorem vmNodesUpto_row : Rows.VmNodesUptoSaid :=
 OpenClaim.holds_of_cond 3 Tryz.f3 rfl rfl rfl rfl rfl rfl rfl ⟨rfl, rfl, rfl, rfl, rfl⟩ rfl rfl rfl rfl rfl (by kernel_rfl) Tryz.func3 (by kernel_rfl)
  (of_decide_eq_true (by kernel_rfl)) (by unfold Func.isWrapper; first | (rw [if_pos (by decide +kernel)]; kernel_rfl) | (rw [if_neg (by decide +kernel)]; exact ⟨rfl, rfl⟩))
  (fun os started H enc _ F => by rw [OpenClaim.pre_eq_preRow]; exact qnf os started H enc F)
theorem vmNodesUpto_holds : Rows.VmNodesUptoCardSaid :=
 Claim7.holds_tied_plain_at .later [] _ _ _ _ vmNodesUpto_row (fun _ h => by cases h) (by kernel_rfl) (fun _ h => by cases h) vmNodesUpto_row_tie rfl ⟨rfl, rfl⟩ (by kernel_rfl) rfl
  (fun f fn hf hfn => by
   obtain rfl : f = 3 := Option.some.inj ((show Tryz.prog.funcNamed "errata/erratalaw27.VmNodes" = some 3 by kernel_rfl).symm.trans hf) |>.symm
   obtain rfl : fn = Tryz.f3 := (Option.some.inj (Tryz.func3.symm.trans hfn)).symm
   exact ⟨by kernel_rfl, fun j t ht => by
    rw [Tryz.params3] at ht
    have hm : t ∈ [22, 29, 23, 30] := by simpa using Array.mem_of_getElem? ht
    have hall : ([22, 29, 23, 30].all fun u => !Tryz.prog.wantsStandIn u) = true := by kernel_rfl
    exact (show Tryz.prog.wantsStandIn t = false by simpa using List.all_eq_true.1 hall t hm)⟩)
  (by kernel_rfl)
end Go.Proofs.YtkedbjjfmejbhaaGreatDoor
