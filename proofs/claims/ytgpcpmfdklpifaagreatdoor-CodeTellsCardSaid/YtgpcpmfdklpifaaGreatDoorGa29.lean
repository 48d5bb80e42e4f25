/- Readings of arguments: api.Value. -/
import Derived.Test.YtgpcpmfdklpifaaGreatDoorProg
import Derived.KernelRfl
import Derived.Test.YtgpcpmfdklpifaaGreatDoorGa1
import Derived.Test.YtgpcpmfdklpifaaGreatDoorGa3
import Derived.Test.YtgpcpmfdklpifaaGreatDoorGa13
import Derived.Test.YtgpcpmfdklpifaaGreatDoorGa14
import Derived.Test.YtgpcpmfdklpifaaGreatDoorGa16
import Derived.Test.YtgpcpmfdklpifaaGreatDoorGa18
import Derived.Test.YtgpcpmfdklpifaaGreatDoorGa21
import Derived.Test.YtgpcpmfdklpifaaGreatDoorGa25
import Derived.Test.YtgpcpmfdklpifaaGreatDoorGa28
set_option linter.unusedSimpArgs false
set_option linter.unusedVariables false
namespace Go.Proofs.YtgpcpmfdklpifaaGreatDoor
open Go.RowKit Go.Lib
section
variable {H : Type} {enc : TypeId × Value → H} {w : World} {sp : Nat → Bool} {hd : Bool}
theorem trods_val (N : Nat) : Trods enc Tryz.prog w sp hd 40 Val.d N := by
  intro n cs x hn h
  obtain ⟨xs, m, rfl, -, hlen, hl2, hf⟩ := DataW.trod_struct Tryz.underlying40 h
  have hc : Tryz.prog.cellsOf 40 = 3 := by kernel_rfl
  rw [hc] at hlen
  obtain ⟨y0, h0⟩ := qbg 0 3 0 1 hl2 hf ⟨_, rfl, rfl, rfl⟩ (by kernel_rfl)
  obtain ⟨y1, h1⟩ := qbg 1 3 1 1 hl2 hf ⟨_, rfl, rfl, rfl⟩ (by kernel_rfl)
  obtain ⟨y2, h2⟩ := qbg 2 9 2 1 hl2 hf ⟨_, rfl, rfl, rfl⟩ (by kernel_rfl)
  obtain ⟨a0, r0⟩ := qbx Tryz.underlying3 (m + 1) m _ _ (by omega) h0
  obtain ⟨a1, r1⟩ := qbx Tryz.underlying3 (m + 1) m _ _ (by omega) h1
  obtain ⟨a2, r2⟩ := trods_str Tryz.underlying9 (m + 1) m _ _ (by omega) h2
  exact ⟨⟨a0, a1, a2⟩, rd_st (qcn (k := 1) r0 (qcn (k := 1) r1 (qcn (k := 1) r2 (rdS_end (by omega)))))⟩
theorem trods_vals (N : Nat) : Trods enc Tryz.prog w sp hd 26 (fun l : List Val => D.sl (l.map Val.d)) N := fun n cs x hn h =>
  trods_sl Tryz.underlying26 (sz := 3) (by kernel_rfl) (by omega) Val.width (trods_val N) n cs x (by omega) h
end
end Go.Proofs.YtgpcpmfdklpifaaGreatDoor

/- Readings of arguments: api.Ins. -/
namespace Go.Proofs.YtgpcpmfdklpifaaGreatDoor
open Go.RowKit Go.Lib
section
variable {H : Type} {enc : TypeId × Value → H} {w : World} {sp : Nat → Bool} {hd : Bool}
theorem trods_ins (N : Nat) : Trods enc Tryz.prog w sp hd 32 Ins.d N := by
  intro n cs x hn h
  obtain ⟨xs, m, rfl, -, hlen, hl2, hf⟩ := DataW.trod_struct Tryz.underlying32 h
  have hc : Tryz.prog.cellsOf 32 = 7 := by kernel_rfl
  rw [hc] at hlen
  obtain ⟨y0, h0⟩ := qbg 0 3 0 1 hl2 hf ⟨_, rfl, rfl, rfl⟩ (by kernel_rfl)
  obtain ⟨y1, h1⟩ := qbg 1 3 1 1 hl2 hf ⟨_, rfl, rfl, rfl⟩ (by kernel_rfl)
  obtain ⟨y2, h2⟩ := qbg 2 3 2 1 hl2 hf ⟨_, rfl, rfl, rfl⟩ (by kernel_rfl)
  obtain ⟨y3, h3⟩ := qbg 3 3 3 1 hl2 hf ⟨_, rfl, rfl, rfl⟩ (by kernel_rfl)
  obtain ⟨y4, h4⟩ := qbg 4 3 4 1 hl2 hf ⟨_, rfl, rfl, rfl⟩ (by kernel_rfl)
  obtain ⟨y5, h5⟩ := qbg 5 3 5 1 hl2 hf ⟨_, rfl, rfl, rfl⟩ (by kernel_rfl)
  obtain ⟨y6, h6⟩ := qbg 6 9 6 1 hl2 hf ⟨_, rfl, rfl, rfl⟩ (by kernel_rfl)
  obtain ⟨a0, r0⟩ := qbx Tryz.underlying3 (m + 1) m _ _ (by omega) h0
  obtain ⟨a1, r1⟩ := qbx Tryz.underlying3 (m + 1) m _ _ (by omega) h1
  obtain ⟨a2, r2⟩ := qbx Tryz.underlying3 (m + 1) m _ _ (by omega) h2
  obtain ⟨a3, r3⟩ := qbx Tryz.underlying3 (m + 1) m _ _ (by omega) h3
  obtain ⟨a4, r4⟩ := qbx Tryz.underlying3 (m + 1) m _ _ (by omega) h4
  obtain ⟨a5, r5⟩ := qbx Tryz.underlying3 (m + 1) m _ _ (by omega) h5
  obtain ⟨a6, r6⟩ := trods_str Tryz.underlying9 (m + 1) m _ _ (by omega) h6
  exact ⟨⟨a0, a1, a2, a3, a4, a5, a6⟩, rd_st (qcn (k := 1) r0 (qcn (k := 1) r1 (qcn (k := 1) r2 (qcn (k := 1) r3 (qcn (k := 1) r4 (qcn (k := 1) r5 (qcn (k := 1) r6 (rdS_end (by omega)))))))))⟩
end
end Go.Proofs.YtgpcpmfdklpifaaGreatDoor

/- Readings of arguments: api.Code. -/
namespace Go.Proofs.YtgpcpmfdklpifaaGreatDoor
open Go.RowKit Go.Lib
section
variable {H : Type} {enc : TypeId × Value → H} {w : World} {sp : Nat → Bool} {hd : Bool}
theorem trods_cod (N : Nat) : Trods enc Tryz.prog w sp hd 25 Cod.d N := by
  intro n cs x hn h
  obtain ⟨xs, m, rfl, -, hlen, hl2, hf⟩ := DataW.trod_struct Tryz.underlying25 h
  have hc : Tryz.prog.cellsOf 25 = 3 := by kernel_rfl
  rw [hc] at hlen
  obtain ⟨y0, h0⟩ := qbg 0 22 0 1 hl2 hf ⟨_, rfl, rfl, rfl⟩ (by kernel_rfl)
  obtain ⟨y1, h1⟩ := qbg 1 23 1 1 hl2 hf ⟨_, rfl, rfl, rfl⟩ (by kernel_rfl)
  obtain ⟨y2, h2⟩ := qbg 2 3 2 1 hl2 hf ⟨_, rfl, rfl, rfl⟩ (by kernel_rfl)
  obtain ⟨a0, r0⟩ := trods_sl Tryz.underlying22 (sz := 7) (by kernel_rfl) (by omega) Ins.width (trods_ins (m + 1)) m _ _ (by omega) h0
  obtain ⟨a1, r1⟩ := trods_sl Tryz.underlying23 (sz := 1) (by kernel_rfl) (by omega) (fun _ => rfl) (qbx Tryz.underlying3 (m + 1)) m _ _ (by omega) h1
  obtain ⟨a2, r2⟩ := qbx Tryz.underlying3 (m + 1) m _ _ (by omega) h2
  exact ⟨⟨a0, a1, a2⟩, rd_st (qcn (k := 1) r0 (qcn (k := 1) r1 (qcn (k := 1) r2 (rdS_end (by omega)))))⟩
end
end Go.Proofs.YtgpcpmfdklpifaaGreatDoor

/- What the variables of a row of layer 25 hold at a law's entry. -/
namespace Go.Proofs.YtgpcpmfdklpifaaGreatDoor
open Go.ChangeShapes Go.WideShapes Go.ChangeAt Go.RowKit Go.Lib
def namesZ : List ByteArray := qv.map fun v => match v with | .string s => s | _ => ByteArray.empty
theorem glob25 {W : World} {laid : List (String × DataW Unit)} (h : W.ShapedOpen Tryz.prog) (hl : laidMet Tryz.prog laid W)
    (h1 : ("strconv.ErrSyntax", Rows.laid_strconv_ErrSyntax) ∈ laid) (h2 : ("strconv.ErrRange", Rows.laid_strconv_ErrRange) ∈ laid) (h3 : ("internal/strconv.uint64pow10", Rows.laid_internal_strconv_uint64pow10) ∈ laid) (h4 : ("errata/code.names", Rows.laid_errata_code_names) ∈ laid) : globsOk (GlobS (St.flat W)) := by
  obtain ⟨cs, hh, hs, hr⟩ := h.1 1 #[.int .i64 0] 3 (of_decide_eq_true (by kernel_rfl)) (by kernel_rfl)
  obtain ⟨m, hm⟩ := cell_of_shapedOpen_int (P := Tryz.prog) (g := 1) (zero := #[.int .i64 0]) (t := 3) h (of_decide_eq_true (by kernel_rfl)) (by kernel_rfl) rfl (by kernel_rfl) (by kernel_rfl) Tryz.underlying3
  have hc0 : cs = #[.int .i64 m] := by
    simp only [World.cell?, hh] at hm
    refine Array.ext (by simpa using hs) fun i h1 h2 => ?_
    have : i = 0 := by simp at h2; omega
    subst this
    simpa [Array.getElem?_eq_getElem h1] using hm
  subst hc0
  obtain ⟨g1, t1, c1, f1, p1, a1, b1, d1, e1⟩ := laidMet.reads hl h1
  obtain ⟨g2, t2, c2, f2, p2, a2, b2, d2, e2⟩ := laidMet.reads hl h2
  obtain ⟨g3, t3, c3, f3, p3, a3, b3, d3, e3⟩ := laidMet.reads hl h3
  obtain ⟨g4, t4, c4, f4, p4, a4, b4, d4, e4⟩ := laidMet.reads hl h4
  obtain rfl : g1 = 4 := Option.some.inj (a1.symm.trans (by kernel_rfl))
  obtain rfl : g2 = 5 := Option.some.inj (a2.symm.trans (by kernel_rfl))
  obtain rfl : g3 = 6 := Option.some.inj (a3.symm.trans (by kernel_rfl))
  obtain rfl : g4 = 0 := Option.some.inj (a4.symm.trans (by kernel_rfl))
  obtain rfl : t1 = 136 := Option.some.inj (b1.symm.trans (by kernel_rfl))
  obtain rfl : t2 = 136 := Option.some.inj (b2.symm.trans (by kernel_rfl))
  obtain rfl : t3 = 186 := Option.some.inj (b3.symm.trans (by kernel_rfl))
  obtain rfl : t4 = 86 := Option.some.inj (b4.symm.trans (by kernel_rfl))
  obtain ⟨x1, y1, z1⟩ := iface_of_trod (by kernel_rfl) e1
  obtain ⟨x2, y2, z2⟩ := iface_of_trod (by kernel_rfl) e2
  have y3 := cells_of_tab (zs := Lib.pow10Tab) (k := .u64) (n := 20) (e := 120) Tryz.underlying186 Tryz.underlying120 (by kernel_rfl) (by kernel_rfl) e3
  have e5 : (Rows.laid_errata_code_names : DataW Unit) = tabS namesZ := by kernel_rfl
  rw [e5] at e4
  have y4 := cells_of_tabS (n := 23) (e := 9) Tryz.underlying86 Tryz.underlying9 (by kernel_rfl) (by kernel_rfl) e4
  have e6 : (namesZ.map fun z => Value.string z) = qv := by kernel_rfl
  rw [e6] at y4
  refine ⟨⟨m, qdy ⟨_, _, hh⟩ (by simp)⟩, ⟨(), qdy ?_ (by simp [Lib.pow10Tab])⟩, ⟨⟨x1, z1⟩, qdy ?_ (by simp)⟩, ⟨⟨x2, z2⟩, qdy ?_ (by simp)⟩, ⟨(), qdy ?_ (by simp [qv])⟩, trivial⟩
  · obtain ⟨t, fz, hb⟩ := var_block a3 d3
    exact ⟨t, fz, by rw [hb, ← y3]⟩
  · obtain ⟨t, fz, hb⟩ := var_block a1 d1
    exact ⟨t, fz, by rw [hb, ← y1]⟩
  · obtain ⟨t, fz, hb⟩ := var_block a2 d2
    exact ⟨t, fz, by rw [hb, ← y2]⟩
  · obtain ⟨t, fz, hb⟩ := var_block a4 d4
    exact ⟨t, fz, by rw [hb, ← y4]⟩
end Go.Proofs.YtgpcpmfdklpifaaGreatDoor

/- The law CodeSafe, lifted: the row and the tied card. (Printed by gen_lift27.py.) -/
namespace Go.Proofs.YtgpcpmfdklpifaaGreatDoor
open Go.ChangeShapes Go.WideShapes Go.ChangeAt Go.RowKit Go.Lib
set_option maxRecDepth 100000 in
theorem codeSafe_lifted (os : Os) (started : os.Started) (H : Type) (enc : TypeId × Value → H) :
    ReturnsInHanded {} Tryz.checked os 3 .any (fun w args => (Rows.codeSafeSpec.pre enc Tryz.prog Tryz.f3 Rows.codeSafeRow.domain false w args ∧ laidMetH Tryz.prog Rows.codeSafeRow.laid w) ∧ sizedMet enc Tryz.prog Tryz.f3 (OpenSpec.ofChange Rows.codeSafeSpec) false w args)
      (Rows.codeSafeSpec.post enc Tryz.prog Tryz.f3 false true false false) := by
  refine qbk (C := Tryz.checked) (X := fun w _ => laidMetH Tryz.prog Rows.codeSafeRow.laid w) Tryz.own started (by kernel_rfl) Tryz.func3
    (ChangeSpec.witness_shaped (enc := enc) (C := Tryz.checked) (os := os) (X := fun w _ => laidMetH Tryz.prog Rows.codeSafeRow.laid w) false (World.laidAll Tryz.prog os Rows.codeSafeRow.laid) #[.agg #[.slice .none 0 0, .slice .none 0 0, .int .i64 0], .slice .none 0 0, .int .i64 0, .slice .none 0 0] 8 (World.laidAll_os _ _ _)
      (World.shaped_of_ZipB (by kernel_rfl) (by kernel_rfl)) (by kernel_rfl) (by kernel_rfl) (by kernel_rfl)
      (by rw [MakeChecks.laidMetH_plain _ _ _ (by kernel_rfl)]; exact laidMet_laidAll _ (by kernel_rfl) (by kernel_rfl)))
    (fun w w' us hh hX => by rw [MakeChecks.laidMetH_plain _ _ _ (by kernel_rfl)] at hX ⊢; exact laidMet.of_heap hh hX) ?_
  intro W base args ds gs before hval0 hW _ hsh hlaid
  rw [MakeChecks.laidMetH_plain _ _ _ (by kernel_rfl)] at hlaid
  have hglob := glob25 hsh hlaid (by simp [Rows.codeSafeRow]) (by simp [Rows.codeSafeRow]) (by simp [Rows.codeSafeRow]) (by simp [Rows.codeSafeRow])
  have hval : ∀ (j : Nat) t v, Tryz.f3.params[j]? = some t → args[j]? = some v → Value.okWide Tryz.prog W .any base t v := hval0
  have hW' := hW
  obtain ⟨p, q, hA0, hV, rfl, hfz, hnd⟩ := hW
  have hA : DataW.TrodAll enc Tryz.prog W 0 (fun _ => true) true Tryz.f3.params.toList args.toList ds p := hA0
  rw [Tryz.params3] at hA hval
  obtain ⟨v0, v1, v2, v3, d0, d1, d2, d3, p0, p1, p2, p3, rfl, rfl, rfl, h0, h1, h2, h3⟩ := trodAll_4_02 hA
  obtain ⟨rfl, rfl⟩ := trodVars_none hV
  obtain ⟨x0, cs0, rfl, r0⟩ := par_st Tryz.underlying25 (hval 0 _ v0 rfl rfl) h0 trods_cod
  obtain ⟨x1, r1⟩ := par_sl Tryz.underlying23 (hval 1 _ v1 rfl rfl) h1 qdr
  obtain ⟨x2, rfl, r2⟩ := par_intR Tryz.underlying3 (hval 2 _ v2 rfl rfl)
  obtain ⟨x3, r3⟩ := par_sl Tryz.underlying26 (hval 3 _ v3 rfl rfl) h3 trods_vals
  refine (qcq (vals := [.agg cs0.toArray, v1, .int .i64 x2, v3]) (codeSafe_g small25_g x0 x1 x2 x3) ⟨_, _, rfl, Cod.flat r0, _, _, rfl, qei r1, _, _, rfl, flat_int02, _, _, rfl, Val.flats r3, rfl⟩ hglob).mono ?_
  rintro r W' ⟨rfl, hb⟩
  exact ⟨_, rfl, law_post (P := Tryz.prog) Tryz.laidOut hW' rfl rfl (by kernel_rfl) Tryz.underlying4 (by kernel_rfl) hb⟩
theorem codeSafe_row : Rows.CodeSafeSaid :=
  OpenClaim.holds_of_wide 3 Tryz.f3 rfl rfl rfl rfl rfl rfl rfl ⟨rfl, rfl, rfl, rfl, rfl⟩ rfl rfl rfl rfl rfl (by kernel_rfl) Tryz.func3 (by kernel_rfl)
    (of_decide_eq_true (by kernel_rfl)) (by unfold Func.isWrapper; first | (rw [if_pos (by decide +kernel)]; kernel_rfl) | (rw [if_neg (by decide +kernel)]; exact ⟨rfl, rfl⟩))
    (fun os started H enc _ => codeSafe_lifted os started H enc)
theorem codeSafe_holds : Rows.CodeSafeCardSaid :=
  Claim7.holds_tied_plain_at .later [] [.data, .data, .data, .data, .sentinel, .sentinel, .widerDeep, .pinned] true (true, "7776cb1f6840e9bfb354eae669bdb86c799a109bda5ce1626de28e4158a0f8da") true codeSafe_row (fun _ h => by cases h) (by kernel_rfl) (fun _ h => by cases h) codeSafe_row_tie rfl ⟨rfl, rfl⟩ (by kernel_rfl) rfl
    (fun f fn hf hfn => by
      obtain rfl : f = 3 := Option.some.inj ((show Tryz.prog.funcNamed "errata/erratalaw25.CodeSafe" = some 3 by kernel_rfl).symm.trans hf) |>.symm
      obtain rfl : fn = Tryz.f3 := (Option.some.inj (Tryz.func3.symm.trans hfn)).symm
      exact ⟨by kernel_rfl, fun j t ht => by
        rw [Tryz.params3] at ht
        have hm : t ∈ [25, 23, 3, 26] := by simpa using Array.mem_of_getElem? ht
        have hall : ([25, 23, 3, 26].all fun u => !Tryz.prog.wantsStandIn u) = true := by kernel_rfl
        exact (show Tryz.prog.wantsStandIn t = false by simpa using List.all_eq_true.1 hall t hm)⟩)
    (by kernel_rfl)
end Go.Proofs.YtgpcpmfdklpifaaGreatDoor

/- Walk: code.Same, of a program and itself; lists of ints. -/
namespace Go.Proofs.YtgpcpmfdklpifaaGreatDoor
open Go.RowKit Go.Lib
theorem equalI_g (L : List Int) (hL : L.length ≤ 1000000) : Gives Tryz.prog 46 [.sl (L.map AV.int), .sl (L.map AV.int)] (.bool true) := by
  refine qn Tryz.func46 Tryz.ntmps46 rfl rfl (by decide) rfl (by intro n; simp) fun σ n0 hcl hft => ?_
  repeat' (first | ((first | ((with_reducible refine qo (fun hg => ?_) (fun hg => ?_)) <;> (try simp only [hg]) <;> (try simp only [gS] at hg) <;> (try (first | simp only [eq_false hg, gI] | simp only [eq_true hg, gI]))) | (with_reducible first | refine qc ?_ | refine qb ?_ | refine qi ?_ | refine qh ?_) | refine qe ?_ | refine qj ?_ | refine qk ?_ | refine qm ?_) <;> (try simp (disch := first | omega | simp) [qg, -qq, -qs])) | ((with_reducible refine sideT ?_ ?_); first | omega | assumption | (simp; done)) | (refine qf fun K hK => ?_) | (refine qa ?_) | refine ql ?_ | ((first | refine hK _ ?_ | (clear hK K; refine hK _ ?_) | (clear hK K; clear hK K; refine hK _ ?_)); clear hK K) | refine qd ?_)
  refine qr hcl (fun k : Nat => [(0, .sl (L.map AV.int)), (1, .sl (L.map AV.int)), (12, .int L.length), (13, .int k)]) (fun _ => []) (fun k => k ≤ L.length) (fun k => L.length - k) 0 (by omega) (by simp) fun k hk => ?_
  by_cases hlt : k < L.length
  · have hq : (L[k] != L[k]) = false := by simp
    repeat' (first | ((first | ((with_reducible refine qo (fun hg => ?_) (fun hg => ?_)) <;> (try simp only [hg]) <;> (try simp only [gS] at hg) <;> (try (first | simp only [eq_false hg, gI] | simp only [eq_true hg, gI]))) | (with_reducible first | refine qc ?_ | refine qb ?_ | refine qi ?_ | refine qh ?_) | refine qe ?_ | refine qj ?_ | refine qk ?_ | refine qm ?_) <;> (try simp (disch := first | omega | simp) [qg, -qq, -qs, hlt, hq])) | ((with_reducible refine sideT ?_ ?_); first | omega | assumption | (simp; done)) | (refine qf fun K hK => ?_) | (refine qa ?_) | refine ql ?_ | ((first | refine hK _ ?_ | (clear hK K; refine hK _ ?_) | (clear hK K; clear hK K; refine hK _ ?_)); clear hK K) | refine qd ?_)
    exact ⟨k + 1, by omega, by omega, by simp⟩
  · repeat' (first | ((first | ((with_reducible refine qo (fun hg => ?_) (fun hg => ?_)) <;> (try simp only [hg]) <;> (try simp only [gS] at hg) <;> (try (first | simp only [eq_false hg, gI] | simp only [eq_true hg, gI]))) | (with_reducible first | refine qc ?_ | refine qb ?_ | refine qi ?_ | refine qh ?_) | refine qe ?_ | refine qj ?_ | refine qk ?_ | refine qm ?_) <;> (try simp (disch := first | omega | simp) [qg, -qq, -qs, hlt])) | ((with_reducible refine sideT ?_ ?_); first | omega | assumption | (simp; done)) | (refine qf fun K hK => ?_) | (refine qa ?_) | refine ql ?_ | ((first | refine hK _ ?_ | (clear hK K; refine hK _ ?_) | (clear hK K; clear hK K; refine hK _ ?_)); clear hK K) | refine qd ?_)
theorem equalN_g (L : List Ins) (hL : L.length ≤ 1000000) : Gives Tryz.prog 45 [.sl (L.map Ins.av), .sl (L.map Ins.av)] (.bool true) := by
  refine qn Tryz.func45 Tryz.ntmps45 rfl rfl (by decide) rfl (by intro n; simp) fun σ n0 hcl hft => ?_
  repeat' (first | ((first | ((with_reducible refine qo (fun hg => ?_) (fun hg => ?_)) <;> (try simp only [hg]) <;> (try simp only [gS] at hg) <;> (try (first | simp only [eq_false hg, gI] | simp only [eq_true hg, gI]))) | (with_reducible first | refine qc ?_ | refine qb ?_ | refine qi ?_ | refine qh ?_) | refine qe ?_ | refine qj ?_ | refine qk ?_ | refine qm ?_) <;> (try simp (disch := first | omega | simp) [qg, -qq, -qs])) | ((with_reducible refine sideT ?_ ?_); first | omega | assumption | (simp; done)) | (refine qf fun K hK => ?_) | (refine qa ?_) | refine ql ?_ | ((first | refine hK _ ?_ | (clear hK K; refine hK _ ?_) | (clear hK K; clear hK K; refine hK _ ?_)); clear hK K) | refine qd ?_)
  refine qr hcl (fun k : Nat => [(0, .sl (L.map Ins.av)), (1, .sl (L.map Ins.av)), (12, .int L.length), (13, .int k)]) (fun _ => []) (fun k => k ≤ L.length) (fun k => L.length - k) 0 (by omega) (by simp) fun k hk => ?_
  by_cases hlt : k < L.length
  · have hq : Ins.eqB L[k] L[k] = true := by simp [Ins.eqB]
    repeat' (first | ((first | ((with_reducible refine qo (fun hg => ?_) (fun hg => ?_)) <;> (try simp only [hg]) <;> (try simp only [gS] at hg) <;> (try (first | simp only [eq_false hg, gI] | simp only [eq_true hg, gI]))) | (with_reducible first | refine qc ?_ | refine qb ?_ | refine qi ?_ | refine qh ?_) | refine qe ?_ | refine qj ?_ | refine qk ?_ | refine qm ?_) <;> (try simp (disch := first | omega | simp) [qg, -qq, -qs, hlt, hq])) | ((with_reducible refine sideT ?_ ?_); first | omega | assumption | (simp; done)) | (refine qf fun K hK => ?_) | (refine qa ?_) | refine ql ?_ | ((first | refine hK _ ?_ | (clear hK K; refine hK _ ?_) | (clear hK K; clear hK K; refine hK _ ?_)); clear hK K) | refine qd ?_)
    exact ⟨k + 1, by omega, by omega, by simp⟩
  · repeat' (first | ((first | ((with_reducible refine qo (fun hg => ?_) (fun hg => ?_)) <;> (try simp only [hg]) <;> (try simp only [gS] at hg) <;> (try (first | simp only [eq_false hg, gI] | simp only [eq_true hg, gI]))) | (with_reducible first | refine qc ?_ | refine qb ?_ | refine qi ?_ | refine qh ?_) | refine qe ?_ | refine qj ?_ | refine qk ?_ | refine qm ?_) <;> (try simp (disch := first | omega | simp) [qg, -qq, -qs, hlt])) | ((with_reducible refine sideT ?_ ?_); first | omega | assumption | (simp; done)) | (refine qf fun K hK => ?_) | (refine qa ?_) | refine ql ?_ | ((first | refine hK _ ?_ | (clear hK K; refine hK _ ?_) | (clear hK K; clear hK K; refine hK _ ?_)); clear hK K) | refine qd ?_)
theorem psame25_g (c : Cod) (h1 : c.ins.length ≤ 1000000) (h2 : c.types.length ≤ 1000000) : Gives Tryz.prog 18 [c.av, c.av] (.bool true) := by
  obtain ⟨ins, types, out⟩ := c
  simp only at *
  refine qn Tryz.func18 Tryz.ntmps18 rfl rfl (by decide) rfl (by intro n; simp) fun σ n0 hcl hft => ?_
  repeat' (first | ((first | ((with_reducible refine qo (fun hg => ?_) (fun hg => ?_)) <;> (try simp only [hg]) <;> (try simp only [gS] at hg) <;> (try (first | simp only [eq_false hg, gI] | simp only [eq_true hg, gI]))) | (with_reducible first | refine qc ?_ | refine qb ?_ | refine qi ?_ | refine qh ?_) | refine acall (equalN_g ins h1) ?_ | refine qp (equalN_g ins h1) ?_ | refine acall (equalI_g types h2) ?_ | refine qp (equalI_g types h2) ?_ | refine qe ?_ | refine qj ?_ | refine qk ?_ | refine qm ?_) <;> (try simp (disch := first | omega | simp) [qg, -qq, -qs])) | ((with_reducible refine sideT ?_ ?_); first | omega | assumption | (simp; done)) | (refine qf fun K hK => ?_) | (refine qa ?_) | refine ql ?_ | ((first | refine hK _ ?_ | (clear hK K; refine hK _ ?_) | (clear hK K; clear hK K; refine hK _ ?_)); clear hK K) | refine qd ?_)
theorem ints25_g (L : List Int) (hL : L.length ≤ 1000000) : Gives Tryz.prog 22 [.sl (L.map AV.int), .sl (L.map AV.int)] (.bool true) := by
  refine qn Tryz.func22 Tryz.ntmps22 rfl rfl (by decide) rfl (by intro n; simp) fun σ n0 hcl hft => ?_
  repeat' (first | ((first | ((with_reducible refine qo (fun hg => ?_) (fun hg => ?_)) <;> (try simp only [hg]) <;> (try simp only [gS] at hg) <;> (try (first | simp only [eq_false hg, gI] | simp only [eq_true hg, gI]))) | (with_reducible first | refine qc ?_ | refine qb ?_ | refine qi ?_ | refine qh ?_) | refine qe ?_ | refine qj ?_ | refine qk ?_ | refine qm ?_) <;> (try simp (disch := first | omega | simp) [qg, -qq, -qs])) | ((with_reducible refine sideT ?_ ?_); first | omega | assumption | (simp; done)) | (refine qf fun K hK => ?_) | (refine qa ?_) | refine ql ?_ | ((first | refine hK _ ?_ | (clear hK K; refine hK _ ?_) | (clear hK K; clear hK K; refine hK _ ?_)); clear hK K) | refine qd ?_)
  refine qr hcl (fun k : Nat => [(0, .sl (L.map AV.int)), (1, .sl (L.map AV.int)), (5, .int k)]) (fun _ => []) (fun k => k ≤ L.length) (fun k => L.length - k) 0 (by omega) (by simp) fun k hk => ?_
  by_cases hlt : k < L.length
  · have hq : (L[k] != L[k]) = false := by simp
    repeat' (first | ((first | ((with_reducible refine qo (fun hg => ?_) (fun hg => ?_)) <;> (try simp only [hg]) <;> (try simp only [gS] at hg) <;> (try (first | simp only [eq_false hg, gI] | simp only [eq_true hg, gI]))) | (with_reducible first | refine qc ?_ | refine qb ?_ | refine qi ?_ | refine qh ?_) | refine qe ?_ | refine qj ?_ | refine qk ?_ | refine qm ?_) <;> (try simp (disch := first | omega | simp) [qg, -qq, -qs, hlt, hq])) | ((with_reducible refine sideT ?_ ?_); first | omega | assumption | (simp; done)) | (refine qf fun K hK => ?_) | (refine qa ?_) | refine ql ?_ | ((first | refine hK _ ?_ | (clear hK K; refine hK _ ?_) | (clear hK K; clear hK K; refine hK _ ?_)); clear hK K) | refine qd ?_)
    exact ⟨k + 1, by omega, by omega, by simp⟩
  · repeat' (first | ((first | ((with_reducible refine qo (fun hg => ?_) (fun hg => ?_)) <;> (try simp only [hg]) <;> (try simp only [gS] at hg) <;> (try (first | simp only [eq_false hg, gI] | simp only [eq_true hg, gI]))) | (with_reducible first | refine qc ?_ | refine qb ?_ | refine qi ?_ | refine qh ?_) | refine qe ?_ | refine qj ?_ | refine qk ?_ | refine qm ?_) <;> (try simp (disch := first | omega | simp) [qg, -qq, -qs, hlt])) | ((with_reducible refine sideT ?_ ?_); first | omega | assumption | (simp; done)) | (refine qf fun K hK => ?_) | (refine qa ?_) | refine ql ?_ | ((first | refine hK _ ?_ | (clear hK K; refine hK _ ?_) | (clear hK K; clear hK K; refine hK _ ?_)); clear hK K) | refine qd ?_)
end Go.Proofs.YtgpcpmfdklpifaaGreatDoor

/- Walk of layer 25: sources. -/
namespace Go.Proofs.YtgpcpmfdklpifaaGreatDoor
open Go.RowKit Go.Lib
def natAv (l : List Nat) : List AV := l.map fun k : Nat => AV.int (k : Int)
def srcAv (ds : List Nd) : List AV := ds.map fun d => AV.sl (natAv d.src)
@[simp] theorem natAv_len (l : List Nat) : (natAv l).length = l.length := by simp [natAv]
@[simp] theorem srcAv_len (l : List Nd) : (srcAv l).length = l.length := by simp [srcAv]
@[simp] theorem natAv_get (l : List Nat) (i : Nat) (h : i < (natAv l).length) : (natAv l)[i] = AV.int (l[i]'(by simpa using h)) := by simp [natAv]
@[simp] theorem srcAv_get (l : List Nd) (i : Nat) (h : i < (srcAv l).length) : (srcAv l)[i] = AV.sl (natAv (l[i]'(by simpa using h)).src) := by simp [srcAv]
@[simp] theorem natAv_get? (l : List Nat) (i : Nat) : (natAv l)[i]? = (l[i]?).map fun k : Nat => AV.int (k : Int) := by simp [natAv]
@[simp] theorem srcAv_get? (l : List Nd) (i : Nat) : (srcAv l)[i]? = (l[i]?).map fun d : Nd => AV.sl (natAv d.src) := by simp [srcAv]
@[simp] theorem natAv_cl (l : List Nat) (m : Nat) : AV.cls m (natAv l) := AV.cls_map (f := fun k : Nat => AV.int (k : Int)) (fun _ => by simp) l
@[simp] theorem natAv_wid (l : List Nat) : AV.wid (natAv l) 1 := AV.wid_map (f := fun k : Nat => AV.int (k : Int)) (fun _ => rfl) l
@[simp] theorem natAv_elms (l : List Nat) : AV.elms (natAv l) := AV.elms_map (f := fun k : Nat => AV.int (k : Int)) (fun _ => rfl) l
@[simp] theorem srcAv_cl (l : List Nd) (m : Nat) : AV.cls m (srcAv l) := AV.cls_map (f := fun d : Nd => AV.sl (natAv d.src)) (fun d => by simp) l
@[simp] theorem srcAv_wid (l : List Nd) : AV.wid (srcAv l) 1 := AV.wid_map (f := fun d : Nd => AV.sl (natAv d.src)) (fun _ => rfl) l
@[simp] theorem srcAv_elms (l : List Nd) : AV.elms (srcAv l) := AV.elms_map (f := fun d : Nd => AV.sl (natAv d.src)) (fun _ => rfl) l
set_option maxHeartbeats 4000000 in
theorem sources_g {c : Cod} {cols : List Int} (h : CodOk c cols) : Gives Tryz.prog 40 [c.av] (.tup [.sl (srcAv (qt c)), .int (rootC c)]) := by
  unfold qt rootC
  obtain ⟨ins, types, out⟩ := c
  have hni := h.ni
  have hnt := h.nt
  simp only at hni hnt
  have hsz : 8 * types.length ≤ 281474976710656 := by omega
  have hsz1 : 1 * types.length ≤ 281474976710656 := by omega
  have hal := h.all
  have o0 : 0 ≤ out := h.out0
  have o1 : out < types.length := h.out1
  have o2 := h.out2
  simp only at hal o2
  simp only
  refine qn Tryz.func40 Tryz.ntmps40 rfl rfl (by decide) rfl (by intro n; simp) fun σ n0 hcl hft => ?_
  repeat' (first | ((first | ((with_reducible refine qo (fun hg => ?_) (fun hg => ?_)) <;> (try simp only [hg]) <;> (try simp only [gS] at hg) <;> (try (first | simp only [eq_false hg, gI] | simp only [eq_true hg, gI]))) | (with_reducible first | refine qc ?_ | refine qb ?_ | refine qi ?_ | refine qh ?_) | refine qe ?_ | refine qj ?_ | refine qk ?_ | refine qm ?_) <;> (try simp (disch := first | omega | simp) [qg, -qq, -qs, hsz, hsz1])) | ((with_reducible refine sideT ?_ ?_); first | omega | assumption | (simp; done)) | (refine qf fun K hK => ?_) | (refine qa ?_) | refine ql ?_ | ((first | refine hK _ ?_ | (clear hK K; refine hK _ ?_) | (clear hK K; clear hK K; refine hK _ ?_)); clear hK K) | refine qd ?_)
  refine qr hcl (fun b : Nat × List Int => [(1, .ptr n0 0), (4, .own (n0 + 1) types.length), (16, .own (n0 + 1) types.length), (17, .int types.length), (18, .int b.1)])
    (fun b => [.cells [.sl (ins.map Ins.av), .sl (types.map AV.int), .int out] 25, .vec (b.2.map AV.int) 3 1])
    (fun b => b.1 ≤ types.length ∧ b.2.length = types.length) (fun b => types.length - b.1) (0, List.replicate types.length 0) ⟨by omega, by simp⟩ (by simp) fun ⟨k, G⟩ ⟨hk, hG⟩ => ?_
  simp only at hk hG
  by_cases hlt : k < types.length
  · repeat' (first | ((first | ((with_reducible refine qo (fun hg => ?_) (fun hg => ?_)) <;> (try simp only [hg]) <;> (try simp only [gS] at hg) <;> (try (first | simp only [eq_false hg, gI] | simp only [eq_true hg, gI]))) | (with_reducible first | refine qc ?_ | refine qb ?_ | refine qi ?_ | refine qh ?_) | refine qe ?_ | refine qj ?_ | refine qk ?_ | refine qm ?_) <;> (try simp (disch := first | omega | simp) [qg, -qq, -qs, hlt, hG])) | ((with_reducible refine sideT ?_ ?_); first | omega | assumption | (simp; done)) | (refine qf fun K hK => ?_) | (refine qa ?_) | refine ql ?_ | ((first | refine hK _ ?_ | (clear hK K; refine hK _ ?_) | (clear hK K; clear hK K; refine hK _ ?_)); clear hK K) | refine qd ?_)
    exact ⟨k + 1, G.set k (-1), ⟨by omega, by rw [List.length_set]; exact hG⟩, by omega, by rw [List.map_set], by omega⟩
  · repeat' (first | ((first | ((with_reducible refine qo (fun hg => ?_) (fun hg => ?_)) <;> (try simp only [hg]) <;> (try simp only [gS] at hg) <;> (try (first | simp only [eq_false hg, gI] | simp only [eq_true hg, gI]))) | (with_reducible first | refine qc ?_ | refine qb ?_ | refine qi ?_ | refine qh ?_) | refine qe ?_ | refine qj ?_ | refine qk ?_ | refine qm ?_) <;> (try simp (disch := first | omega | simp) [qg, -qq, -qs, hlt, hG])) | ((with_reducible refine sideT ?_ ?_); first | omega | assumption | (simp; done)) | (refine qf fun K hK => ?_) | (refine qa ?_) | refine ql ?_ | ((first | refine hK _ ?_ | (clear hK K; refine hK _ ?_) | (clear hK K; clear hK K; refine hK _ ?_)); clear hK K) | refine qd ?_)
    refine qby 6 23 1 (by simp) ?_
    refine qr hcl (fun b : Nat × List Int => [(1, .ptr n0 0), (4, .own (n0 + 1) types.length), (6, .gs (n0 + 2) (srcAv (nodes (ins.take b.1) 0 (List.replicate types.length 0)))), (26, .sl (ins.map Ins.av)), (27, .int ins.length), (28, .int b.1)])
      (fun b => [.cells [.sl (ins.map Ins.av), .sl (types.map AV.int), .int out] 25, .vec (b.2.map AV.int) 3 1, .tail b.1 23 1])
      (fun b => b.1 ≤ ins.length ∧ b.2.length = types.length ∧ ∀ r : Nat, (doneL (ins.take b.1) (List.replicate types.length false)).getD r false = true → b.2[r]? = some ((lastL (ins.take b.1) 0 (List.replicate types.length 0)).getD r 0 : Int))
      (fun b => ins.length - b.1) (0, G) ⟨by omega, hG, fun r hr => (no_done hr).elim⟩ (by simp [nodes, srcAv]) fun ⟨k, G⟩ ⟨hk, hG, hR⟩ => ?_
    simp only at hk hG hR
    by_cases hlt2 : k < ins.length
    · have hx := AllOk.at ins k _ hlt2 hal
      have c2 := ops_g ins[k]
      have t0 := hx.to0
      have t1 : ins[k].tgt < types.length := hx.to1
      repeat' (first | ((first | ((with_reducible refine qo (fun hg => ?_) (fun hg => ?_)) <;> (try simp only [hg]) <;> (try simp only [gS] at hg) <;> (try (first | simp only [eq_false hg, gI] | simp only [eq_true hg, gI]))) | (with_reducible first | refine qc ?_ | refine qb ?_ | refine qi ?_ | refine qh ?_) | refine acall (c2) ?_ | refine qp (c2) ?_ | refine qe ?_ | refine qj ?_ | refine qk ?_ | refine qm ?_) <;> (try simp (disch := first | omega | simp) [qg, -qq, -qs, hlt2, hG])) | ((with_reducible refine sideT ?_ ?_); first | omega | assumption | (simp; done)) | (refine qf fun K hK => ?_) | (refine qa ?_) | refine ql ?_ | ((first | refine hK _ ?_ | (clear hK K; refine hK _ ?_) | (clear hK K; clear hK K; refine hK _ ?_)); clear hK K) | refine qd ?_)
      refine qby 9 3 1 (by simp) ?_
      have htk : ins.take (k + 1) = ins.take k ++ [ins[k]] := List.take_succ_eq_append_getElem hlt2
      have hxa := hx.args
      have hol : (opsP ins[k]).length ≤ 3 := by rw [qci]; split <;> first | exact qdd _ | omega
      generalize hops : opsP ins[k] = ops at *
      have hnew : nodes (ins.take (k + 1)) 0 (List.replicate types.length 0) = nodes (ins.take k) 0 (List.replicate types.length 0) ++ [⟨ins[k], ops.map fun r => (lastL (ins.take k) 0 (List.replicate types.length 0)).getD r.toNat 0⟩] := by rw [htk, nodes_snoc, hops]
      have hstep : ∀ r : Nat, (doneL (ins.take (k + 1)) (List.replicate types.length false)).getD r false = true → (G.set ins[k].tgt.toNat k)[r]? = some ((lastL (ins.take (k + 1)) 0 (List.replicate types.length 0)).getD r 0 : Int) := fun r hr => by
        rw [htk, doneL_snoc, qu] at hr
        rw [htk, lastL_snoc, qu, List.length_take, lastL_len, List.length_replicate]
        by_cases he : ins[k].tgt.toNat = r
        · subst he
          rw [List.getElem?_set_self (by omega), if_pos ⟨rfl, by omega⟩]
          congr 1; omega
        · rw [if_neg (fun h => he h.1)] at hr ⊢
          rw [List.getElem?_set_ne he]
          exact hR r hr
      generalize hLN : lastL (ins.take k) 0 (List.replicate types.length 0) = LN at *
      generalize hND : nodes (ins.take k) 0 (List.replicate types.length 0) = ND at *
      have hNl : ND.length = k := by rw [← hND, qx, List.length_take]; omega
      obtain ⟨S, hS⟩ : ∃ S, S = ops.map fun r => LN.getD r.toNat 0 := ⟨_, rfl⟩
      have hSl : S.length = ops.length := by rw [hS, List.length_map]
      have hSj : ∀ j (h : j < ops.length), S[j]'(by omega) = LN.getD ops[j].toNat 0 := fun j h => by simp [hS]
      rw [← hS] at hnew
      clear hS
      refine qr hcl (fun j : Nat => [(1, .ptr n0 0), (4, .own (n0 + 1) types.length), (6, .gs (n0 + 2) (srcAv ND)), (7, .int k), (8, .ptr (n0 + 3) 0), (9, .gs (n0 + 4) (natAv (S.take j))), (26, .sl (ins.map Ins.av)), (27, .int ins.length), (28, .int k), (34, .sl (ops.map AV.int)), (35, .int ops.length), (36, .int j)])
        (fun j => [.cells [.sl (ins.map Ins.av), .sl (types.map AV.int), .int out] 25, .vec (G.map AV.int) 3 1, .tail k 23 1, .cells [.int ins[k].op, .int ins[k].tgt, .int ins[k].a, .int ins[k].b, .int ins[k].c, .int ins[k].n, .str ins[k].s] 32, .tail j 3 1])
        (fun j => j ≤ ops.length) (fun j => ops.length - j) 0 (by omega) (by simp [natAv]) fun j hj => ?_
      by_cases hlt3 : j < ops.length
      · obtain ⟨r0, r1, r2⟩ := hxa ops[j] (List.getElem_mem _)
        have hg0 := hR _ r2
        have hg : G[ops[j].toNat]'(by omega) = ((S[j]'(by omega) : Nat) : Int) := by rw [hSj j hlt3]; exact (List.getElem?_eq_some_iff.1 hg0).2
        have hsn : natAv (S.take (j + 1)) = natAv (S.take j) ++ [.int (S[j]'(by omega) : Nat)] := by
          unfold natAv; rw [List.take_succ_eq_append_getElem (by omega), List.map_append]; rfl
        repeat' (first | ((first | ((with_reducible refine qo (fun hg => ?_) (fun hg => ?_)) <;> (try simp only [hg]) <;> (try simp only [gS] at hg) <;> (try (first | simp only [eq_false hg, gI] | simp only [eq_true hg, gI]))) | (with_reducible first | refine qc ?_ | refine qb ?_ | refine qi ?_ | refine qh ?_) | refine qe ?_ | refine qj ?_ | refine qk ?_ | refine qm ?_) <;> (try simp (disch := first | omega | simp) [qg, -qq, -qs, hlt3, hG, r0, r1, hg])) | ((with_reducible refine sideT ?_ ?_); first | omega | assumption | (simp; done)) | (refine qf fun K hK => ?_) | (refine qa ?_) | refine ql ?_ | ((first | refine hK _ ?_ | (clear hK K; refine hK _ ?_) | (clear hK K; clear hK K; refine hK _ ?_)); clear hK K) | refine qd ?_)
        refine ⟨j + 1, by omega, by omega, ?_⟩
        rw [hsn]; simp
      · obtain rfl : j = ops.length := by omega
        rw [List.take_of_length_le (by omega)]
        repeat' (first | ((first | ((with_reducible refine qo (fun hg => ?_) (fun hg => ?_)) <;> (try simp only [hg]) <;> (try simp only [gS] at hg) <;> (try (first | simp only [eq_false hg, gI] | simp only [eq_true hg, gI]))) | (with_reducible first | refine qc ?_ | refine qb ?_ | refine qi ?_ | refine qh ?_) | refine qe ?_ | refine qj ?_ | refine qk ?_ | refine qm ?_) <;> (try simp (disch := first | omega | simp) [qg, -qq, -qs, hlt3, hG, t0, t1])) | ((with_reducible refine sideT ?_ ?_); first | omega | assumption | (simp; done)) | (refine qf fun K hK => ?_) | (refine qa ?_) | refine ql ?_ | ((first | refine hK _ ?_ | (clear hK K; refine hK _ ?_) | (clear hK K; clear hK K; refine hK _ ?_)); clear hK K) | refine qd ?_)
        refine ⟨k + 1, G.set ins[k].tgt.toNat k, ⟨by omega, by rw [List.length_set]; exact hG, hstep⟩, by omega, ?_⟩
        rw [hnew]; simp [srcAv, List.map_set, hNl]
    · obtain rfl : k = ins.length := by omega
      rw [List.take_length] at hR
      have hg0 := hR _ o2
      have hg : G[out.toNat]'(by omega) = ((lastL ins 0 (List.replicate types.length 0)).getD out.toNat 0 : Int) := (List.getElem?_eq_some_iff.1 hg0).2
      rw [List.take_length]
      repeat' (first | ((first | ((with_reducible refine qo (fun hg => ?_) (fun hg => ?_)) <;> (try simp only [hg]) <;> (try simp only [gS] at hg) <;> (try (first | simp only [eq_false hg, gI] | simp only [eq_true hg, gI]))) | (with_reducible first | refine qc ?_ | refine qb ?_ | refine qi ?_ | refine qh ?_) | refine qe ?_ | refine qj ?_ | refine qk ?_ | refine qm ?_) <;> (try simp (disch := first | omega | simp) [qg, -qq, -qs, hlt2, hG, o0, o1, hg])) | ((with_reducible refine sideT ?_ ?_); first | omega | assumption | (simp; done)) | (refine qf fun K hK => ?_) | (refine qa ?_) | refine ql ?_ | ((first | refine hK _ ?_ | (clear hK K; refine hK _ ?_) | (clear hK K; clear hK K; refine hK _ ?_)); clear hK K) | refine qd ?_)
end Go.Proofs.YtgpcpmfdklpifaaGreatDoor

/- A slice beside nil: what is not empty is not nil; what is empty may be. -/
namespace Go.Proofs.YtgpcpmfdklpifaaGreatDoor
open Go.RowKit Go.Lib
theorem eop_nil {P : Program} {s : AS} {op : BinOp} {t u : TypeId} {x y : Operand} {l : List AV} {K : AV → AS → Prop} (hop : op = .eql ∨ op = .neq) (ht : (einfo P t).isSome = true) (hx : (s.eval x).list = some l) (hy : s.eval y = .v (.slice none 0 0)) (hK : ∀ b : Bool, (b = true → l = []) → K (.v (.bool (if op = .eql then b else !b))) s) :
    EOp P s (.binOp op t x y u) K := by
  intro X0 a w X oper ho hc Q
  have hw := hc.w
  subst hw
  have h1 := hc.eval x
  have h2 := hc.eval y
  rw [hy, RR.v] at h2
  obtain ⟨e, he⟩ : ∃ e, P.underlying t = some (.slice e) := by
    unfold einfo at ht
    split at ht
    · exact ⟨_, ‹_›⟩
    · cases ht
  have key : ∃ A n cap, a.eval x = .slice A n cap ∧ (0 < l.length → A.isNone = false) := by
    cases hev : s.eval x <;> rw [hev] at hx <;> try (cases hx; done)
    · cases hx
      rw [hev] at h1
      have h3 : RC X (.sl l) [a.eval x] := h1
      rw [RC] at h3
      obtain ⟨A, cap, b, off, e1, -, -, h4, -⟩ := h3
      simp at e1
      exact ⟨A, _, cap, e1, fun h => by rw [h4 h]; rfl⟩
    · rename_i r _
      cases hx
      rw [hev] at h1
      have h3 : RC X (.gs r l) [a.eval x] := h1
      rw [RC] at h3
      obtain ⟨A, cap, b, off, e1, -, -, h4, -⟩ := h3
      simp at e1
      exact ⟨A, _, cap, e1, fun h => by rw [h4 h]; rfl⟩
  obtain ⟨A, n, cap, hA, hn⟩ := key
  have hrun : (execOp a.eval oper).run P X.w = .ok (.value (.bool (if op = .eql then A.isNone else !A.isNone))) X.w := by
    have hq : ∀ w, (Op.equal t (.slice A n cap) (.slice none 0 0)).run P w = .ok A.isNone w := fun w => by
      unfold Op.equal
      rw [show Op.maxDepth = 9999 + 1 from rfl, Op.equalIn]
      cases A <;> simp [underlying, he]
    rcases hop with rfl | rfl
    · simp [execOp, ho, hA, h2, eqGuard, binOp, hq]
    · simp [execOp, ho, hA, h2, eqGuard, binOp, hq]
  refine qbd hrun ⟨_, _, s, X, rfl, hK A.isNone fun h => ?_, hc, RR.v.2 rfl⟩
  cases l with
  | nil => rfl
  | cons z zs => rw [hn (by simp)] at h; cases h
def aevN (P : Program) (s : AS) (o : Op) (K : AV → AS → Prop) : Prop :=
  match o with
  | .binOp op t x y u => match (s.eval x).list, s.eval y with
    | some l, .v (.slice none 0 0) => (op = .eql ∨ op = .neq) ∧ (einfo P t).isSome = true ∧ ∀ b : Bool, (b = true → l = []) → K (.v (.bool (if op = .eql then b else !b))) s
    | _, _ => aev P s (.binOp op t x y u) K
  | o => aev P s o K
theorem aevN_sound {P : Program} {s : AS} {o : Op} {K : AV → AS → Prop} (h : aevN P s o K) : EOp P s o K := by
  unfold aevN at h
  split at h
  · split at h
    · exact eop_nil h.1 h.2.1 ‹_› ‹_› h.2.2
    · exact qcc h
  · exact qcc h
def aseqN (P : Program) (ops : Array Oper) (K : AS → Prop) : List Oper → AS → Prop
  | [], s => K s
  | o :: l, s => match awant ops o s.t with
    | some b => qbq b (aevN P s o.op (fun x s1 => dstOk o.dst s1.n ∧ aseqN P ops K l (s1.put o.dst x))) (dstOk o.dst s.n ∧ aseqN P ops K l (s.put o.dst (.v undef)))
    | none => False
theorem aseqN_sound {P : Program} {ops : Array Oper} {K : AS → Prop} : ∀ {l : List Oper} {s : AS}, aseqN P ops K l s → aseq P ops K l s
  | [], _, h => h
  | o :: l, s, h => by
    rw [aseqN] at h
    rw [aseq]
    split at h
    · rename_i b hb
      cases b with
      | true => exact ⟨true, hb, (aevN_sound (h.1 rfl)).mono fun x s1 ⟨h1, h2⟩ => ⟨h1, aseqN_sound h2⟩⟩
      | false => exact ⟨false, hb, (h.2 rfl).1, aseqN_sound (h.2 rfl).2⟩
    · exact h.elim
theorem awp_regionN {P : Program} {s : AS} {id : Nat} {l : List Oper} {Q : Exit → AS → Prop} (h : aseqN P l.toArray (Q .normal) l s) : awp P (.region id l.toArray false) Q s := qck (aseqN_sound h)
theorem aseqN_step {P : Program} {ops : Array Oper} {K : AS → Prop} {o : Oper} {l : List Oper} {s : AS} (h : match awant ops o s.t with
    | some b => qbq b (aevN P s o.op (fun x s1 => dstOk o.dst s1.n ∧ aseqN P ops K l (s1.put o.dst x))) (dstOk o.dst s.n ∧ aseqN P ops K l (s.put o.dst (.v undef)))
    | none => False) : aseqN P ops K (o :: l) s := h
theorem aseqN_end {P : Program} {ops : Array Oper} {K : AS → Prop} {s : AS} (h : K s) : aseqN P ops K [] s := h
theorem nil_split {P : Program} {ops : Array Oper} {K : AS → Prop} {l : List Oper} {s s' : AS} {C : Prop} (h1 : aseqN P ops K l s) (h2 : C → aseqN P ops K l s') : aseqN P ops K l s ∧ (C → aseqN P ops K l s') := ⟨h1, h2⟩
attribute [simp] aevN
end Go.Proofs.YtgpcpmfdklpifaaGreatDoor

/- Walks of layer 25: Needed, Trim. -/
namespace Go.Proofs.YtgpcpmfdklpifaaGreatDoor
open Go.RowKit Go.Lib
theorem cls_set {m : Nat} {l : List AV} {x : AV} {i : Nat} (h : AV.cls m l) (hx : x.cl m) : AV.cls m (l.set i x) := AV.cls_iff.2 fun y hy => by
  rcases List.mem_or_eq_of_mem_set hy with hy | rfl
  · exact AV.cls_iff.1 h y hy
  · exact hx
theorem setAll_snoc (need : List Bool) (l : List Nat) (k : Nat) : qbi need (l ++ [k]) = (qbi need l).set k true := by unfold qbi; rw [List.foldl_append]; rfl
theorem trimI_snoc (need : List Bool) : ∀ (l : List Ins) (x : Ins) (i : Nat), trimI need (l ++ [x]) i = trimI need l i ++ if need.getD (i + l.length) false then [x] else []
  | [], x, i => by rw [List.nil_append, trimI, trimI]; simp [trimI]
  | y :: l, x, i => by
    rw [List.cons_append, trimI, trimI, trimI_snoc need l, List.length_cons, show i + 1 + l.length = i + (l.length + 1) by omega]
    cases need.getD i false <;> simp
theorem trimI_le (need : List Bool) : ∀ (l : List Ins) (i : Nat), (trimI need l i).length ≤ l.length
  | [], _ => by simp [trimI]
  | y :: l, i => by have := trimI_le need l (i + 1); rw [trimI]; split <;> simp <;> omega
theorem nodes_src : ∀ (l : List Ins) (i : Nat) (last : List Nat), ∀ d ∈ nodes l i last, d.src.length ≤ 3
  | [], _, _, d, hd => by cases hd
  | x :: l, i, last, d, hd => by
    rw [nodes] at hd
    rcases List.mem_cons.1 hd with rfl | hd
    · rw [List.length_map, qci]; split <;> first | exact qdd _ | omega
    · exact nodes_src l _ _ d hd
set_option maxRecDepth 10000 in
set_option maxHeartbeats 4000000 in
theorem needed_g {c : Cod} {cols : List Int} (h : CodOk c cols) : Gives Tryz.prog 17 [c.av] (.sl ((needP (qt c) (rootC c)).map AV.bool)) := by
  have c1 := sources_g h
  have hro := (h.val_res 0 []).1
  have hdl : (qt c).length = c.ins.length := by unfold qt; exact qx _ _ _
  have hea := h.early
  have hs3 : ∀ d ∈ qt c, d.src.length ≤ 3 := nodes_src _ _ _
  have hni := h.ni
  obtain ⟨R, hR⟩ : ∃ R, R = needP (qt c) (rootC c) := ⟨_, rfl⟩
  rw [← hR]
  unfold needP at hR
  generalize qt c = ds at *
  generalize rootC c = root at *
  obtain ⟨ins, types, out⟩ := c
  simp only at hro hdl hni
  have hsz1 : 1 * ins.length ≤ 281474976710656 := by omega
  refine qn Tryz.func17 Tryz.ntmps17 rfl rfl (by decide) rfl (by intro n; simp) fun σ n0 hcl hft => ?_
  repeat' (first | ((first | ((with_reducible refine qo (fun hg => ?_) (fun hg => ?_)) <;> (try simp only [hg]) <;> (try simp only [gS] at hg) <;> (try (first | simp only [eq_false hg, gI] | simp only [eq_true hg, gI]))) | (with_reducible first | refine qc ?_ | refine qb ?_ | refine qi ?_ | refine qh ?_) | refine acall (c1) ?_ | refine qp (c1) ?_ | refine qe ?_ | refine qj ?_ | refine qk ?_ | refine qm ?_) <;> (try simp (disch := first | omega | simp) [qg, -qq, -qs, hsz1, hro])) | ((with_reducible refine sideT ?_ ?_); first | omega | assumption | (simp; done)) | (refine qf fun K hK => ?_) | (refine qa ?_) | refine ql ?_ | ((first | refine hK _ ?_ | (clear hK K; refine hK _ ?_) | (clear hK K; clear hK K; refine hK _ ?_)); clear hK K) | refine qd ?_)
  refine qr hcl (fun b : Nat × Int × List Bool => [(3, .sl (srcAv ds)), (5, .own (n0 + 1) ins.length), (6, .int b.2.1)])
    (fun b => [.cells [.sl (ins.map Ins.av), .sl (types.map AV.int), .int out] 25, .vec (b.2.2.map AV.bool) 4 1])
    (fun b => b.1 ≤ ins.length ∧ b.2.1 = (b.1 : Int) - 1 ∧ b.2.2.length = ins.length ∧ R = needI ds b.1 b.2.2) (fun b => b.1) (ins.length, (ins.length : Int) - 1, (List.replicate ins.length false).set root true)
    ⟨by omega, rfl, by simp, by rw [hR, hdl]⟩ (by simp [AV.cls_map]; exact cls_set (AV.cls_replicate (by simp)) (by simp)) fun ⟨k, i, G⟩ ⟨hk, hi, hG, hRk⟩ => ?_
  simp only at hk hi hG hRk
  by_cases hi0 : 0 ≤ i
  · obtain ⟨m, rfl⟩ : ∃ m : Nat, i = m := ⟨i.toNat, by omega⟩
    obtain rfl : k = m + 1 := by omega
    have hm : m < ins.length := by omega
    have hmd : m < ds.length := by omega
    have hGm : G.getD m false = G[m]'(by omega) := by rw [List.getD_eq_getElem?_getD, List.getElem?_eq_getElem (by omega)]; rfl
    rw [needI, hGm] at hRk
    cases hg : G[m]'(by omega)
    · rw [hg, if_neg (by simp)] at hRk
      repeat' (first | ((first | ((with_reducible refine qo (fun hg => ?_) (fun hg => ?_)) <;> (try simp only [hg]) <;> (try simp only [gS] at hg) <;> (try (first | simp only [eq_false hg, gI] | simp only [eq_true hg, gI]))) | (with_reducible first | refine qc ?_ | refine qb ?_ | refine qi ?_ | refine qh ?_) | refine qe ?_ | refine qj ?_ | refine qk ?_ | refine qm ?_) <;> (try simp (disch := first | omega | simp) [qg, -qq, -qs, hG, hm, hg])) | ((with_reducible refine sideT ?_ ?_); first | omega | assumption | (simp; done)) | (refine qf fun K hK => ?_) | (refine qa ?_) | refine ql ?_ | ((first | refine hK _ ?_ | (clear hK K; refine hK _ ?_) | (clear hK K; clear hK K; refine hK _ ?_)); clear hK K) | refine qd ?_)
      exact ⟨m, (m : Int) - 1, G, ⟨by omega, rfl, hG, hRk⟩, by omega, rfl, rfl⟩
    · rw [hg, if_pos rfl] at hRk
      have hsd : (ds.getD m ⟨⟨0, 0, 0, 0, 0, 0, ByteArray.empty⟩, []⟩).src = ds[m].src := by rw [List.getD_eq_getElem?_getD, List.getElem?_eq_getElem hmd]; rfl
      have hse : ∀ k ∈ ds[m].src, k < m := fun k hk => hea m hmd k (by unfold srcOf; rw [hsd]; exact hk)
      rw [hsd] at hRk
      have hsl3 := hs3 ds[m] (List.getElem_mem _)
      generalize hsrc : ds[m].src = src at *
      repeat' (first | ((first | ((with_reducible refine qo (fun hg => ?_) (fun hg => ?_)) <;> (try simp only [hg]) <;> (try simp only [gS] at hg) <;> (try (first | simp only [eq_false hg, gI] | simp only [eq_true hg, gI]))) | (with_reducible first | refine qc ?_ | refine qb ?_ | refine qi ?_ | refine qh ?_) | refine qe ?_ | refine qj ?_ | refine qk ?_ | refine qm ?_) <;> (try simp (disch := first | omega | simp) [qg, -qq, -qs, hG, hm, hg, hmd, hsrc])) | ((with_reducible refine sideT ?_ ?_); first | omega | assumption | (simp; done)) | (refine qf fun K hK => ?_) | (refine qa ?_) | refine ql ?_ | ((first | refine hK _ ?_ | (clear hK K; refine hK _ ?_) | (clear hK K; clear hK K; refine hK _ ?_)); clear hK K) | refine qd ?_)
      refine qr hcl (fun j : Nat => [(3, .sl (srcAv ds)), (5, .own (n0 + 1) ins.length), (6, .int m), (37, .sl (natAv src)), (38, .int src.length), (39, .int j)])
        (fun j => [.cells [.sl (ins.map Ins.av), .sl (types.map AV.int), .int out] 25, .vec ((qbi G (src.take j)).map AV.bool) 4 1])
        (fun j => j ≤ src.length) (fun j => src.length - j) 0 (by omega) (by simp [qbi]) fun j hj => ?_
      have hsl : (qbi G (src.take j)).length = ins.length := by rw [qbs]; exact hG
      by_cases hlt : j < src.length
      · have hs1 := hse src[j] (List.getElem_mem _)
        have hs2 : src[j] < ins.length := by omega
        have hsn : qbi G (src.take (j + 1)) = (qbi G (src.take j)).set src[j] true := by rw [List.take_succ_eq_append_getElem hlt, setAll_snoc]
        repeat' (first | ((first | ((with_reducible refine qo (fun hg => ?_) (fun hg => ?_)) <;> (try simp only [hg]) <;> (try simp only [gS] at hg) <;> (try (first | simp only [eq_false hg, gI] | simp only [eq_true hg, gI]))) | (with_reducible first | refine qc ?_ | refine qb ?_ | refine qi ?_ | refine qh ?_) | refine qe ?_ | refine qj ?_ | refine qk ?_ | refine qm ?_) <;> (try simp (disch := first | omega | simp) [qg, -qq, -qs, hlt, hsl, hs2])) | ((with_reducible refine sideT ?_ ?_); first | omega | assumption | (simp; done)) | (refine qf fun K hK => ?_) | (refine qa ?_) | refine ql ?_ | ((first | refine hK _ ?_ | (clear hK K; refine hK _ ?_) | (clear hK K; clear hK K; refine hK _ ?_)); clear hK K) | refine qd ?_)
        refine ⟨j + 1, by omega, by omega, ?_⟩
        rw [hsn]; simp [List.map_set]
      · obtain rfl : j = src.length := by omega
        rw [List.take_length] at hsl ⊢
        repeat' (first | ((first | ((with_reducible refine qo (fun hg => ?_) (fun hg => ?_)) <;> (try simp only [hg]) <;> (try simp only [gS] at hg) <;> (try (first | simp only [eq_false hg, gI] | simp only [eq_true hg, gI]))) | (with_reducible first | refine qc ?_ | refine qb ?_ | refine qi ?_ | refine qh ?_) | refine qe ?_ | refine qj ?_ | refine qk ?_ | refine qm ?_) <;> (try simp (disch := first | omega | simp) [qg, -qq, -qs, hlt])) | ((with_reducible refine sideT ?_ ?_); first | omega | assumption | (simp; done)) | (refine qf fun K hK => ?_) | (refine qa ?_) | refine ql ?_ | ((first | refine hK _ ?_ | (clear hK K; refine hK _ ?_) | (clear hK K; clear hK K; refine hK _ ?_)); clear hK K) | refine qd ?_)
        exact ⟨m, (m : Int) - 1, qbi G src, ⟨by omega, rfl, hsl, hRk⟩, by omega, rfl, rfl⟩
  · obtain rfl : k = 0 := by omega
    rw [needI] at hRk
    subst hRk
    refine awp_freezeR 5 1 (k := ins.length) (by simp) (by rfl) (by simp [hG]) ?_
    repeat' (first | ((first | ((with_reducible refine qo (fun hg => ?_) (fun hg => ?_)) <;> (try simp only [hg]) <;> (try simp only [gS] at hg) <;> (try (first | simp only [eq_false hg, gI] | simp only [eq_true hg, gI]))) | (with_reducible first | refine qc ?_ | refine qb ?_ | refine qi ?_ | refine qh ?_) | refine qe ?_ | refine qj ?_ | refine qk ?_ | refine qm ?_) <;> (try simp (disch := first | omega | simp) [qg, -qq, -qs, hi0])) | ((with_reducible refine sideT ?_ ?_); first | omega | assumption | (simp; done)) | (refine qf fun K hK => ?_) | (refine qa ?_) | refine ql ?_ | ((first | refine hK _ ?_ | (clear hK K; refine hK _ ?_) | (clear hK K; clear hK K; refine hK _ ?_)); clear hK K) | refine qd ?_)
set_option maxRecDepth 100000 in
theorem cloneI_g (l : List Int) (hl : l.length ≤ 1000000) : Gives Tryz.prog 39 [.sl (l.map AV.int)] (.sl (l.map AV.int)) := by
  have hsz : l.length * 8 ≤ 140737488355328 := by omega
  refine qn Tryz.func39 Tryz.ntmps39 rfl rfl (by decide) rfl (by intro n; simp) fun σ n0 hcl hft => ?_
  repeat' (first | ((first | ((with_reducible refine qo (fun hg => ?_) (fun hg => ?_)) <;> (try simp only [hg]) <;> (try simp only [gS] at hg) <;> (try (first | simp only [eq_false hg, gI] | simp only [eq_true hg, gI]))) | (with_reducible first | refine qc ?_ | refine qb ?_ | refine qi ?_ | refine qh ?_ | refine aseqN_step ?_ | refine aseqN_end ?_) | refine qe ?_ | refine qj ?_ | refine qk ?_ | refine qm ?_) <;> (try simp (disch := first | omega | simp) [qg, -qq, -qs, hsz])) | (with_reducible refine awp_regionN (id := 1) ?_) | ((with_reducible refine sideT ?_ ?_); first | omega | assumption | (simp; done)) | (with_reducible refine nil_split ?_ (fun hnil => ?_); try simp only [hnil]) | (refine qf fun K hK => ?_) | (refine qa ?_) | refine ql ?_ | ((first | refine hK _ ?_ | (clear hK K; refine hK _ ?_) | (clear hK K; clear hK K; refine hK _ ?_)); clear hK K) | refine qd ?_)
  all_goals simp_all
set_option maxHeartbeats 4000000 in
theorem trim_g {c : Cod} {cols : List Int} (h : CodOk c cols) : Gives Tryz.prog 13 [c.av] (trimP c).av := by
  have c1 := needed_g h
  have hnt := h.nt
  have c2 := cloneI_g c.types (by omega)
  have hni := h.ni
  have hnl : (needP (qt c) (rootC c)).length = c.ins.length := by rw [needP_len]; unfold qt; exact qx _ _ _
  unfold trimP
  generalize needP (qt c) (rootC c) = need at *
  obtain ⟨ins, types, out⟩ := c
  simp only at hnt hni hnl c2
  refine qn Tryz.func13 Tryz.ntmps13 rfl rfl (by decide) rfl (by intro n; simp) fun σ n0 hcl hft => ?_
  repeat' (first | ((first | ((with_reducible refine qo (fun hg => ?_) (fun hg => ?_)) <;> (try simp only [hg]) <;> (try simp only [gS] at hg) <;> (try (first | simp only [eq_false hg, gI] | simp only [eq_true hg, gI]))) | (with_reducible first | refine qc ?_ | refine qb ?_ | refine qi ?_ | refine qh ?_) | refine acall (c2) ?_ | refine qp (c2) ?_ | refine acall (c1) ?_ | refine qp (c1) ?_ | refine qe ?_ | refine qj ?_ | refine qk ?_ | refine qm ?_) <;> (try simp (disch := first | omega | simp) [qg, -qq, -qs])) | ((with_reducible refine sideT ?_ ?_); first | omega | assumption | (simp; done)) | (refine qf fun K hK => ?_) | (refine qa ?_) | refine ql ?_ | ((first | refine hK _ ?_ | (clear hK K; refine hK _ ?_) | (clear hK K; clear hK K; refine hK _ ?_)); clear hK K) | refine qd ?_)
  refine qw 2 0 32 7 (by rfl) (by rfl) ?_
  obtain ⟨F, hF⟩ : ∃ F : Nat → List Ins, F = fun k => trimI need (ins.take k) 0 := ⟨_, rfl⟩
  have F0 : F 0 = [] := by rw [hF]; rfl
  have F1 : ∀ k (h : k < ins.length), F (k + 1) = F k ++ if need[k]'(by omega) then [ins[k]] else [] := fun k h => by
    have hg : need.getD k false = need[k]'(by omega) := by rw [List.getD_eq_getElem?_getD, List.getElem?_eq_getElem (by omega)]; rfl
    rw [hF]; dsimp only
    rw [List.take_succ_eq_append_getElem h, trimI_snoc, Nat.zero_add, List.length_take, Nat.min_eq_left (by omega), hg]
  have F2 : F ins.length = trimI need ins 0 := by rw [hF]; dsimp only; rw [List.take_length]
  have FL : ∀ k, (F k).length ≤ ins.length := fun k => by
    rw [hF]; have := trimI_le need (ins.take k) 0; rw [List.length_take] at this; dsimp only; omega
  clear hF
  refine qr hcl (fun k : Nat => [(1, .ptr n0 0), (2, .ptr (n0 + 1) 0), (3, .ptr (n0 + 2) 0), (13, .sl (need.map AV.bool)), (14, .int need.length), (15, .int k)])
    (fun k => [.cells [.sl (ins.map Ins.av), .sl (types.map AV.int), .int out] 25, .cells [.v (.slice none 0 0), .v (.slice none 0 0), .int 0] 25, .cells [.gs (n0 + 3) ((F k).map Ins.av), .sl (types.map AV.int), .int out] 25, .tail (F k).length 32 7])
    (fun k => k ≤ ins.length) (fun k => ins.length - k) 0 (by omega) (by simp [F0]) fun k hk => ?_
  by_cases hlt : k < ins.length
  · have hlt2 : k < need.length := by omega
    have f1 := F1 k hlt
    have fl := FL k
    have hz : ((F k).length + 1) * 56 ≤ 140737488355328 := by omega
    cases hnk : need[k]'(by omega)
    · rw [hnk] at f1
      repeat' (first | ((first | ((with_reducible refine qo (fun hg => ?_) (fun hg => ?_)) <;> (try simp only [hg]) <;> (try simp only [gS] at hg) <;> (try (first | simp only [eq_false hg, gI] | simp only [eq_true hg, gI]))) | (with_reducible first | refine qc ?_ | refine qb ?_ | refine qi ?_ | refine qh ?_) | refine qe ?_ | refine qj ?_ | refine qk ?_ | refine qm ?_) <;> (try simp (disch := first | omega | simp) [qg, -qq, -qs, hlt, hlt2, hnk, hz])) | (with_reducible refine qed (id := 6) false (by kernel_rfl) (by kernel_rfl) ?_) | ((with_reducible refine sideT ?_ ?_); first | omega | assumption | (simp; done)) | (refine qf fun K hK => ?_) | (refine qa ?_) | refine ql ?_ | ((first | refine hK _ ?_ | (clear hK K; refine hK _ ?_) | (clear hK K; clear hK K; refine hK _ ?_)); clear hK K) | refine qd ?_)
      all_goals first | (refine ⟨k + 1, by omega, by omega, ?_⟩; rw [f1]; simp; done) | (exfalso; simp_all; done)
    · rw [hnk] at f1
      repeat' (first | ((first | ((with_reducible refine qo (fun hg => ?_) (fun hg => ?_)) <;> (try simp only [hg]) <;> (try simp only [gS] at hg) <;> (try (first | simp only [eq_false hg, gI] | simp only [eq_true hg, gI]))) | (with_reducible first | refine qc ?_ | refine qb ?_ | refine qi ?_ | refine qh ?_) | refine qe ?_ | refine qj ?_ | refine qk ?_ | refine qm ?_) <;> (try simp (disch := first | omega | simp) [qg, -qq, -qs, hlt, hlt2, hnk, hz])) | (with_reducible refine qed (id := 6) false (by kernel_rfl) (by kernel_rfl) ?_) | ((with_reducible refine sideT ?_ ?_); first | omega | assumption | (simp; done)) | (refine qf fun K hK => ?_) | (refine qa ?_) | refine ql ?_ | ((first | refine hK _ ?_ | (clear hK K; refine hK _ ?_) | (clear hK K; clear hK K; refine hK _ ?_)); clear hK K) | refine qd ?_)
      all_goals first | (refine ⟨k + 1, by omega, by omega, ?_⟩; rw [f1]; simp; done) | (exfalso; simp_all; done)
  · have hlt2 : ¬ k < need.length := by omega
    obtain rfl : k = ins.length := by omega
    repeat' (first | ((first | ((with_reducible refine qo (fun hg => ?_) (fun hg => ?_)) <;> (try simp only [hg]) <;> (try simp only [gS] at hg) <;> (try (first | simp only [eq_false hg, gI] | simp only [eq_true hg, gI]))) | (with_reducible first | refine qc ?_ | refine qb ?_ | refine qi ?_ | refine qh ?_) | refine qe ?_ | refine qj ?_ | refine qk ?_ | refine qm ?_) <;> (try simp (disch := first | omega | simp) [qg, -qq, -qs, hlt2])) | ((with_reducible refine sideT ?_ ?_); first | omega | assumption | (simp; done)) | (refine qf fun K hK => ?_) | (refine qa ?_) | refine ql ?_ | ((first | refine hK _ ?_ | (clear hK K; refine hK _ ?_) | (clear hK K; clear hK K; refine hK _ ?_)); clear hK K) | refine qd ?_)
    rw [F2]; rfl
end Go.Proofs.YtgpcpmfdklpifaaGreatDoor
