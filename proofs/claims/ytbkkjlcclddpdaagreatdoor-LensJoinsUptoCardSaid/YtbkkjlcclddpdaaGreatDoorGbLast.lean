/- Walk of the law LensJoins, for lists that are not too long to be joined. -/
import Derived.Test.YtbkkjlcclddpdaaGreatDoorGb31
import Derived.Test.YtbkkjlcclddpdaaGreatDoorGb32
set_option linter.unusedSimpArgs false
set_option linter.unusedVariables false
namespace Go.Proofs.YtbkkjlcclddpdaaGreatDoor
open Go.RowKit Go.Lib
theorem sameC_refl (L : List Col) : sameC L L = true := (sameC_iff L L).2 rfl
set_option maxRecDepth 4000 in
set_option maxHeartbeats 8000000 in
theorem lensJoins_g (a b : List Lens) (cols : List Col) (row : List Val) (ha0 : a.length ≤ 1048576) (hb0 : b.length ≤ 1048576) (hav : ∀ x ∈ a, i64 x.value.n) (hbv : ∀ x ∈ b, i64 x.value.n) (hrv : ∀ v ∈ row, i64 v.n) : Gives Tryz.prog 7 [.sl (a.map Lens.av), .sl (b.map Lens.av), .sl (cols.map Col.av), .sl (row.map Val.av)] (.bool true) := by
  have c0 := small14_g
  have c1 := suits_g14 (a ++ b) cols row
  simp only [List.map_append] at c1
  by_cases ha : a.length ≤ 10
  · have ha' : ¬ (10 : Int) < a.length := by omega
    by_cases hb : b.length ≤ 10
    · have hb' : ¬ (10 : Int) < b.length := by omega
      cases hs : suitsL (a ++ b) cols row with
      | false =>
        rw [hs] at c1
        refine qm Tryz.func7 Tryz.ntmps7 rfl rfl (by decide) rfl (by intro n; simp) fun σ n0 hcl hft => ?_
        repeat' (first | ((first | ((with_reducible refine qp (fun hg => ?_) (fun hg => ?_)) <;> (try simp only [hg]) <;> (try simp only [gS] at hg) <;> (try (first | simp only [eq_false hg, gI] | simp only [eq_true hg, gI]))) | (with_reducible first | refine qc ?_ | refine qb ?_ | refine qj ?_ | refine qi ?_) | refine acall (c0) ?_ | refine qn (c0) ?_ | refine acall (c1) ?_ | refine qn (c1) ?_ | refine qe ?_ | refine qk ?_ | refine qh ?_ | refine qo ?_) <;> (try simp (disch := first | omega | simp) [qg, -qq, -qu, ha', hb'])) | ((with_reducible refine sideT ?_ ?_); first | omega | assumption | (simp; done)) | (refine qf fun K hK => ?_) | (refine qa ?_) | refine ql ?_ | ((first | refine hK _ ?_ | (clear hK K; refine hK _ ?_) | (clear hK K; clear hK K; refine hK _ ?_)); clear hK K) | refine qd ?_)
      | true =>
        rw [hs] at c1
        obtain ⟨ss, H⟩ := suits_of hs
        obtain ⟨hc, hc0⟩ := H.chain
        have hsx : ∀ x ∈ a ++ b, qea x := fun x hx => ⟨(H.small x hx).1, (List.mem_append.1 hx).elim (hav x) (hbv x), by have := (H.small x hx).2; omega⟩
        have hsa : ∀ x ∈ a, qea x := fun x hx => hsx x (List.mem_append.2 (.inl hx))
        have hsb : ∀ x ∈ b, qea x := fun x hx => hsx x (List.mem_append.2 (.inr hx))
        have h0 := H.shape.l0
        have h1 := H.shape.l1
        have hlen := H.fit.len
        have hsr := smallR_fit H.fit hrv
        obtain ⟨s1, s2, q1, q2, q3, q4⟩ := shapes_app a b H.pure
        obtain ⟨ca, ca0⟩ := chain_of q1 h0 h1
        obtain ⟨m0, m1⟩ := ca.sz a.length (Nat.le_refl _)
        obtain ⟨cb, cb0⟩ := chain_of q2 m0 m1
        obtain ⟨M, hM⟩ : ∃ M, shAt s1 a.length = M := ⟨_, rfl⟩
        rw [hM] at q2 m0 m1 cb0
        obtain ⟨T, hT⟩ : ∃ T, shAt s2 b.length = T := ⟨_, rfl⟩
        have hTs : shAt ss (a ++ b).length = T := by rw [List.length_append, q4 _ (Nat.le_refl _), hT]
        have hTl := hc.sz (a ++ b).length (Nat.le_refl _)
        rw [hTs] at hTl
        have c2 := to_g a cols (fun x hx => (hsa x hx).l) (by omega) h0 h1
        rw [toP_of q1 (by omega), hM] at c2
        have c3 := to_g b M (fun x hx => (hsb x hx).l) (by omega) m0 m1
        rw [toP_of q2 (by omega), hT] at c3
        have c4 := to_g (a ++ b) cols (fun x hx => (hsx x hx).l) (by simp; omega) h0 h1
        rw [H.tgt, hTs] at c4
        have c5 := rsame_g13 T T (by omega)
        rw [sameC_refl] at c5
        obtain ⟨A, hA⟩ : ∃ A, qcr a s1 row = A := ⟨_, rfl⟩
        have hAs : A.length = M.length ∧ qbu A := by
          have := fwdK_ok ca hsa hsr (by rw [ca0]; exact hlen) _ (Nat.le_refl _)
          rwa [fwdK_all, hA, hM] at this
        obtain ⟨X, hX⟩ : ∃ X, qcr b s2 A = X := ⟨_, rfl⟩
        have hXs : X.length = T.length ∧ qbu X := by
          have := fwdK_ok cb hsb hAs.2 (by rw [cb0]; exact hAs.1) _ (Nat.le_refl _)
          rwa [fwdK_all, hX, hT] at this
        have eX : qcr (a ++ b) ss row = X := by
          rw [fwdAll_app, fwdAll_congr (ss := ss) (tt := s1) fun k hk => q3 k (by omega), hA, fwdAll_congr (tt := s2) fun k hk => by rw [shAt_drop]; exact q4 k (by omega), hX]
        obtain ⟨B, hB⟩ : ∃ B, qem b s2 X = B := ⟨_, rfl⟩
        have hBs : B.length = M.length ∧ qbu B := by
          have := bckK_ok cb hsb hXs.2 (by rw [hT]; exact hXs.1) b.length 0 (by omega)
          rw [cb0] at this
          rw [← hB]; exact this
        obtain ⟨Y, hY⟩ : ∃ Y, qem a s1 B = Y := ⟨_, rfl⟩
        have hYs : Y.length = cols.length ∧ qbu Y := by
          have := bckK_ok ca hsa hBs.2 (by rw [hM]; exact hBs.1) a.length 0 (by omega)
          rw [ca0] at this
          rw [← hY]; exact this
        have eY : qem (a ++ b) ss X = Y := by
          rw [bckAll_app, bckAll_congr (l := b) (tt := s2) fun k hk => by rw [shAt_drop]; exact q4 k (by omega), hB, bckAll_congr (tt := s1) fun k hk => q3 k (by omega), hY]
        have c6 := qeo H.ss hsx h0 h1 hsr hlen X eX
        have c7 := qeo (shapes2_of q1 (by omega)) hsa h0 h1 hsr hlen A hA
        have c8 := qeo (shapes2_of q2 (by omega)) hsb m0 m1 hAs.2 hAs.1 X hX
        have c9 := rsame03_g X (by omega)
        have c10 := back_g H.ss hsx h0 h1 hXs.2 (by rw [hTs]; exact hXs.1) Y eY
        have c11 := back_g (shapes2_of q2 (by omega)) hsb m0 m1 hXs.2 (by rw [hT]; exact hXs.1) B hB
        have c12 := back_g (shapes2_of q1 (by omega)) hsa h0 h1 hBs.2 (by rw [hM]; exact hBs.1) Y hY
        have c13 := rsame03_g Y (by omega)
        simp only [List.map_append] at c4 c6 c10
        refine qm Tryz.func7 Tryz.ntmps7 rfl rfl (by decide) rfl (by intro n; simp) fun σ n0 hcl hft => ?_
        repeat' (first | ((first | ((with_reducible refine qp (fun hg => ?_) (fun hg => ?_)) <;> (try simp only [hg]) <;> (try simp only [gS] at hg) <;> (try (first | simp only [eq_false hg, gI] | simp only [eq_true hg, gI]))) | (with_reducible first | refine qc ?_ | refine qb ?_ | refine qj ?_ | refine qi ?_) | refine acall (c0) ?_ | refine qn (c0) ?_ | refine acall (c1) ?_ | refine qn (c1) ?_ | refine acall (c2) ?_ | refine qn (c2) ?_ | refine acall (c3) ?_ | refine qn (c3) ?_ | refine acall (c4) ?_ | refine qn (c4) ?_ | refine acall (c5) ?_ | refine qn (c5) ?_ | refine acall (c6) ?_ | refine qn (c6) ?_ | refine acall (c7) ?_ | refine qn (c7) ?_ | refine acall (c8) ?_ | refine qn (c8) ?_ | refine acall (c9) ?_ | refine qn (c9) ?_ | refine acall (c10) ?_ | refine qn (c10) ?_ | refine acall (c11) ?_ | refine qn (c11) ?_ | refine acall (c12) ?_ | refine qn (c12) ?_ | refine acall (c13) ?_ | refine qn (c13) ?_ | refine qe ?_ | refine qk ?_ | refine qh ?_ | refine qo ?_) <;> (try simp (disch := first | omega | simp) [qg, -qq, -qu, ha', hb'])) | ((with_reducible refine sideT ?_ ?_); first | omega | assumption | (simp; done)) | (refine qf fun K hK => ?_) | (refine qa ?_) | refine ql ?_ | ((first | refine hK _ ?_ | (clear hK K; refine hK _ ?_) | (clear hK K; clear hK K; refine hK _ ?_)); clear hK K) | refine qd ?_)
    · have hb' : (10 : Int) < b.length := by omega
      refine qm Tryz.func7 Tryz.ntmps7 rfl rfl (by decide) rfl (by intro n; simp) fun σ n0 hcl hft => ?_
      repeat' (first | ((first | ((with_reducible refine qp (fun hg => ?_) (fun hg => ?_)) <;> (try simp only [hg]) <;> (try simp only [gS] at hg) <;> (try (first | simp only [eq_false hg, gI] | simp only [eq_true hg, gI]))) | (with_reducible first | refine qc ?_ | refine qb ?_ | refine qj ?_ | refine qi ?_) | refine acall (c0) ?_ | refine qn (c0) ?_ | refine qe ?_ | refine qk ?_ | refine qh ?_ | refine qo ?_) <;> (try simp (disch := first | omega | simp) [qg, -qq, -qu, ha', hb'])) | ((with_reducible refine sideT ?_ ?_); first | omega | assumption | (simp; done)) | (refine qf fun K hK => ?_) | (refine qa ?_) | refine ql ?_ | ((first | refine hK _ ?_ | (clear hK K; refine hK _ ?_) | (clear hK K; clear hK K; refine hK _ ?_)); clear hK K) | refine qd ?_)
  · have ha' : (10 : Int) < a.length := by omega
    refine qm Tryz.func7 Tryz.ntmps7 rfl rfl (by decide) rfl (by intro n; simp) fun σ n0 hcl hft => ?_
    repeat' (first | ((first | ((with_reducible refine qp (fun hg => ?_) (fun hg => ?_)) <;> (try simp only [hg]) <;> (try simp only [gS] at hg) <;> (try (first | simp only [eq_false hg, gI] | simp only [eq_true hg, gI]))) | (with_reducible first | refine qc ?_ | refine qb ?_ | refine qj ?_ | refine qi ?_) | refine acall (c0) ?_ | refine qn (c0) ?_ | refine qe ?_ | refine qk ?_ | refine qh ?_ | refine qo ?_) <;> (try simp (disch := first | omega | simp) [qg, -qq, -qu, ha'])) | ((with_reducible refine sideT ?_ ?_); first | omega | assumption | (simp; done)) | (refine qf fun K hK => ?_) | (refine qa ?_) | refine ql ?_ | ((first | refine hK _ ?_ | (clear hK K; refine hK _ ?_) | (clear hK K; clear hK K; refine hK _ ?_)); clear hK K) | refine qd ?_)
end Go.Proofs.YtbkkjlcclddpdaaGreatDoor

/- The law LensJoins where what it reads is of bulk at most 1048576, lifted: the row and the tied card. (Printed by gen_lift14u.py.) -/
namespace Go.Proofs.YtbkkjlcclddpdaaGreatDoor
open Go.ChangeShapes Go.WideShapes Go.ChangeAt Go.RowKit Go.Lib
noncomputable def lensJoinsW (os : Os) : World := World.laidAll Tryz.prog os Rows.lensJoinsUptoRow.laid
def lensJoinsA : Array Value := #[.slice .none 0 0, .slice .none 0 0, .slice .none 0 0, .slice .none 0 0]
theorem lensJoins_reads (os : Os) {H : Type} (enc : TypeId × Value → H) : ∃ places, DataW.whole enc Tryz.prog ((lensJoinsW os).forCall (fun _ _ => 0) ⟨#[], lensJoinsA, []⟩).memory Tryz.f7.params.toList Rows.lensJoinsSpec.vars false lensJoinsA.toList 8 = some ([.nil, .nil, .nil, .nil], [], places) :=
  ⟨[], by kernel_rfl⟩
theorem lensJoins_laid (os : Os) : laidMet Tryz.prog Rows.lensJoinsUptoRow.laid ((lensJoinsW os).forCall (fun _ _ => 0) ⟨#[], lensJoinsA, []⟩).memory :=
  laidMet_of_run' 8 (by kernel_rfl) (by kernel_rfl)
set_option maxRecDepth 100000 in
theorem lensJoins_lifted (os : Os) (started : os.Started) (H : Type) (enc : TypeId × Value → H) (F : Stop.Interp) :
    ReturnsInHanded {} Tryz.checked os 7 .any ((Rows.OpenSpec.upto Rows.lensJoinsSpec).preRow enc Tryz.prog Tryz.f7 Rows.lensJoinsUptoRow.domain false Rows.lensJoinsUptoRow.laid) (((Rows.OpenSpec.upto Rows.lensJoinsSpec).at F).post enc Tryz.prog Tryz.f7 false true false false) := by
  obtain ⟨places, hx⟩ := lensJoins_reads os enc
  refine returnsInHanded_of_row (C := Tryz.checked) (s := Rows.OpenSpec.upto Rows.lensJoinsSpec) Tryz.own started (by kernel_rfl) Tryz.func7
    (witness_row_at (enc := enc) (C := Tryz.checked) false (lensJoinsW os) lensJoinsA (World.laidAll_os _ _ _) (by kernel_rfl) (by kernel_rfl) (by kernel_rfl)
      (OpenSpec.preRow_of_cond 8 hx (by kernel_rfl) (fun k hk => by cases hk; kernel_rfl) (by kernel_rfl) (lensJoins_laid os))) ?_
  intro W base args ds gs before hval0 hW _ hcond _ hlaid hsh _
  rw [MakeChecks.laidMetH_plain _ _ _ (by kernel_rfl)] at hlaid
  have hglob := glob14 hsh hlaid (by simp [Rows.lensJoinsUptoRow]) (by simp [Rows.lensJoinsUptoRow]) (by simp [Rows.lensJoinsUptoRow])
  have hval : ∀ (j : Nat) t v, Tryz.f7.params[j]? = some t → args[j]? = some v → Value.okWide Tryz.prog W .any base t v := hval0
  have hW' := hW
  obtain ⟨p, q, hA0, hV, rfl, hfz, hnd⟩ := hW
  have hA : DataW.TrodAll enc Tryz.prog W 0 (fun _ => true) true Tryz.f7.params.toList args.toList ds p := hA0
  rw [Tryz.params7] at hA hval
  obtain ⟨v0, v1, v2, v3, d0, d1, d2, d3, p0, p1, p2, p3, rfl, rfl, rfl, h0, h1, h2, h3⟩ := trodAll_4_02 hA
  obtain ⟨rfl, rfl⟩ := trodVars_none hV
  have hb0 : Rows.uptoSmall H ([d0, d1, d2, d3] ++ []) = true := hcond _ rfl
  have hb : Rows.uptoBulkAll ([d0, d1, d2, d3] ++ []) ≤ 1048576 := of_decide_eq_true hb0
  simp only [List.append_nil, Rows.uptoBulkAll] at hb
  obtain ⟨x0, n0, r0⟩ := par_lens (hval 0 _ v0 rfl rfl) h0
  obtain ⟨x1, n1, r1⟩ := par_lens (hval 1 _ v1 rfl rfl) h1
  obtain ⟨x2, r2⟩ := par_sl Tryz.underlying35 (hval 2 _ v2 rfl rfl) h2 trods_cols
  obtain ⟨x3, n3, r3⟩ := par_vals (hval 3 _ v3 rfl rfl) h3
  have s0 : x0.length + 1 ≤ Rows.uptoBulk d0 := by
    obtain ⟨A, n, c, rfl⟩ := okWide_slice Tryz.underlying22 (hval 0 _ v0 rfl rfl)
    obtain ⟨k, t⟩ := h0
    exact sl_len14 Tryz.underlying22 r0 t
  have s1 : x1.length + 1 ≤ Rows.uptoBulk d1 := by
    obtain ⟨A, n, c, rfl⟩ := okWide_slice Tryz.underlying22 (hval 1 _ v1 rfl rfl)
    obtain ⟨k, t⟩ := h1
    exact sl_len14 Tryz.underlying22 r1 t
  have s3 : x3.length + 1 ≤ Rows.uptoBulk d3 := by
    obtain ⟨A, n, c, rfl⟩ := okWide_slice Tryz.underlying36 (hval 3 _ v3 rfl rfl)
    obtain ⟨k, t⟩ := h3
    exact sl_len14 Tryz.underlying36 r3 t
  refine (calls_of_gives (vals := [v0, v1, v2, v3]) (lensJoins_g x0 x1 x2 x3 (by omega) (by omega) (fun y hy => (n0 y hy).2) (fun y hy => (n1 y hy).2) n3) ⟨_, _, rfl, Lens.flats r0, _, _, rfl, Lens.flats r1, _, _, rfl, Col.flats r2, _, _, rfl, Val.flats r3, rfl⟩ hglob).mono ?_
  rintro r W' ⟨rfl, hb⟩
  exact ⟨_, rfl, law_post (P := Tryz.prog) Tryz.laidOut hW' rfl rfl (by kernel_rfl) Tryz.underlying4 (by kernel_rfl) hb⟩
theorem lensJoinsUpto_row : Rows.LensJoinsUptoSaid :=
  OpenClaim.holds_of_cond 7 Tryz.f7 rfl rfl rfl rfl rfl rfl rfl ⟨rfl, rfl, rfl, rfl, rfl⟩ rfl rfl rfl rfl rfl (by kernel_rfl) Tryz.func7 (by kernel_rfl)
    (of_decide_eq_true (by kernel_rfl)) (by unfold Func.isWrapper; first | (rw [if_pos (by decide +kernel)]; kernel_rfl) | (rw [if_neg (by decide +kernel)]; exact ⟨rfl, rfl⟩))
    (fun os started H enc _ F => by rw [OpenClaim.pre_eq_preRow]; exact lensJoins_lifted os started H enc F)
theorem lensJoinsUpto_holds : Rows.LensJoinsUptoCardSaid :=
  Claim7.holds_tied_plain_at .later [] _ _ _ _ lensJoinsUpto_row (fun _ h => by cases h) (by kernel_rfl) (fun _ h => by cases h) lensJoinsUpto_row_tie rfl ⟨rfl, rfl⟩ (by kernel_rfl) rfl
    (fun f fn hf hfn => by
      obtain rfl : f = 7 := Option.some.inj ((show Tryz.prog.funcNamed "errata/erratalaw14.LensJoins" = some 7 by kernel_rfl).symm.trans hf) |>.symm
      obtain rfl : fn = Tryz.f7 := (Option.some.inj (Tryz.func7.symm.trans hfn)).symm
      exact ⟨by kernel_rfl, fun j t ht => by
        rw [Tryz.params7] at ht
        have hm : t ∈ [22, 22, 35, 36] := by simpa using Array.mem_of_getElem? ht
        have hall : ([22, 22, 35, 36].all fun u => !Tryz.prog.wantsStandIn u) = true := by kernel_rfl
        exact (show Tryz.prog.wantsStandIn t = false by simpa using List.all_eq_true.1 hall t hm)⟩)
    (by kernel_rfl)
end Go.Proofs.YtbkkjlcclddpdaaGreatDoor

/- Two laws of layer 14 that need no reference of it. -/
