/- What the variables of a row of layer 14 hold at a law's entry. -/
import Derived.Test.YtbkkjlcclddpdaaGreatDoorGa10
import Derived.Test.YtbkkjlcclddpdaaGreatDoorGa18
import Derived.Test.YtbkkjlcclddpdaaGreatDoorGa19
import Derived.Test.YtbkkjlcclddpdaaGreatDoorGa28
import Derived.Test.YtbkkjlcclddpdaaGreatDoorGa32
set_option linter.unusedSimpArgs false
set_option linter.unusedVariables false
namespace Go.Proofs.YtbkkjlcclddpdaaGreatDoor
open Go.ChangeShapes Go.WideShapes Go.ChangeAt Go.RowKit Go.Lib
theorem glob14 {W : World} {laid : List (String × DataW Unit)} (h : W.ShapedOpen Tryz.prog) (hl : laidMet Tryz.prog laid W)
    (h1 : ("strconv.ErrSyntax", Rows.laid_strconv_ErrSyntax) ∈ laid) (h2 : ("strconv.ErrRange", Rows.laid_strconv_ErrRange) ∈ laid) (h3 : ("internal/strconv.uint64pow10", Rows.laid_internal_strconv_uint64pow10) ∈ laid) : globsOk (GlobS (St.flat W)) := by
  obtain ⟨cs, hh, hs, hr⟩ := h.1 0 #[.int .i64 0] 3 (of_decide_eq_true (by kernel_rfl)) (by kernel_rfl)
  obtain ⟨m, hm⟩ := cell_of_shapedOpen_int (P := Tryz.prog) (g := 0) (zero := #[.int .i64 0]) (t := 3) h (of_decide_eq_true (by kernel_rfl)) (by kernel_rfl) rfl (by kernel_rfl) (by kernel_rfl) Tryz.underlying3
  have hc0 : cs = #[.int .i64 m] := by
    simp only [World.cell?, hh] at hm
    refine Array.ext (by simpa using hs) fun i h1 h2 => ?_
    have : i = 0 := by simp at h2; omega
    subst this
    simpa [Array.getElem?_eq_getElem h1] using hm
  subst hc0
  obtain ⟨g1, t1, c1, f1, p1, a1, b1, d1, e1⟩ := laidMet.reads hl h1
  obtain ⟨g2, t2, c2, f2, p2, a2, b2, d2, e2⟩ := laidMet.reads hl h2
  obtain ⟨g3, t3, c3, f3, p3, a3, b3, d3, e3⟩ := laidMet.reads hl h3
  obtain rfl : g1 = 1 := Option.some.inj (a1.symm.trans (by kernel_rfl))
  obtain rfl : g2 = 2 := Option.some.inj (a2.symm.trans (by kernel_rfl))
  obtain rfl : g3 = 3 := Option.some.inj (a3.symm.trans (by kernel_rfl))
  obtain rfl : t1 = 63 := Option.some.inj (b1.symm.trans (by kernel_rfl))
  obtain rfl : t2 = 63 := Option.some.inj (b2.symm.trans (by kernel_rfl))
  obtain rfl : t3 = 176 := Option.some.inj (b3.symm.trans (by kernel_rfl))
  obtain ⟨x1, y1, z1⟩ := iface_of_trod (by kernel_rfl) e1
  obtain ⟨x2, y2, z2⟩ := iface_of_trod (by kernel_rfl) e2
  have y3 := cells_of_tab (zs := Lib.pow10Tab) (k := .u64) (n := 20) (e := 158) Tryz.underlying176 Tryz.underlying158 (by kernel_rfl) (by kernel_rfl) e3
  refine ⟨⟨m, globS_flat ⟨_, _, hh⟩ (by simp)⟩, ⟨(), globS_flat ?_ (by simp [Lib.pow10Tab])⟩, ⟨⟨x1, z1⟩, globS_flat ?_ (by simp)⟩, ⟨⟨x2, z2⟩, globS_flat ?_ (by simp)⟩, trivial⟩
  · obtain ⟨t, fz, hb⟩ := var_block a3 d3
    exact ⟨t, fz, by rw [hb, ← y3]⟩
  · obtain ⟨t, fz, hb⟩ := var_block a1 d1
    exact ⟨t, fz, by rw [hb, ← y1]⟩
  · obtain ⟨t, fz, hb⟩ := var_block a2 d2
    exact ⟨t, fz, by rw [hb, ← y2]⟩
section
variable {H : Type} {enc : TypeId × Value → H} {w w0 : World} {sp : Nat → Bool} {hd : Bool} {b0 : Nat} {t : TypeId} {v : Value} {d : DataW H} {ps : List MemPlace}
theorem trods_intI {t : TypeId} (ht : Tryz.prog.underlying t = some (.int .i64)) {n : Nat} {cs : List Value} {x : DataW H × List MemPlace} (h : DataW.trod enc Tryz.prog w 0 sp hd n t cs = some x) : ∃ a, i64 a ∧ Rd w Any (D.int a) cs := by
  obtain ⟨a, rfl, -, hwf⟩ := DataW.trod_int ht h
  refine ⟨a, ?_, by rw [Rd]⟩
  simp only [Lit.wf, Bool.and_eq_true, decide_eq_true_eq] at hwf
  have e1 : IntKind.i64.min = -9223372036854775808 := by decide
  have e2 : IntKind.i64.max = 9223372036854775807 := by decide
  exact ⟨by omega, by omega⟩
theorem trods_valI (N : Nat) : Trods enc Tryz.prog w sp hd 27 (fun y : {y : Val // i64 y.n} => y.1.d) N := by
  intro n cs x hn h
  obtain ⟨xs, m, rfl, -, hlen, hl2, hf⟩ := DataW.trod_struct Tryz.underlying27 h
  have hc : Tryz.prog.cellsOf 27 = 3 := by kernel_rfl
  rw [hc] at hlen
  obtain ⟨y0, h0⟩ := qch 0 3 0 1 hl2 hf ⟨_, rfl, rfl, rfl⟩ (by kernel_rfl)
  obtain ⟨y1, h1⟩ := qch 1 3 1 1 hl2 hf ⟨_, rfl, rfl, rfl⟩ (by kernel_rfl)
  obtain ⟨y2, h2⟩ := qch 2 9 2 1 hl2 hf ⟨_, rfl, rfl, rfl⟩ (by kernel_rfl)
  obtain ⟨a0, r0⟩ := trods_int Tryz.underlying3 (m + 1) m _ _ (by omega) h0
  obtain ⟨a1, i1, r1⟩ := trods_intI Tryz.underlying3 h1
  obtain ⟨a2, r2⟩ := qfk Tryz.underlying9 (m + 1) m _ _ (by omega) h2
  exact ⟨⟨⟨a0, a1, a2⟩, i1⟩, rd_st (qem (k := 1) r0 (qem (k := 1) r1 (qem (k := 1) r2 (rdS_end (by omega)))))⟩
theorem trods_lensI (N : Nat) : Trods enc Tryz.prog w sp hd 29 (fun y : {y : Lens // i64 y.n ∧ i64 y.value.n} => y.1.d) N := by
  intro n cs x hn h
  obtain ⟨xs, m, rfl, -, hlen, hl2, hf⟩ := DataW.trod_struct Tryz.underlying29 h
  have hc : Tryz.prog.cellsOf 29 = 9 := by kernel_rfl
  rw [hc] at hlen
  obtain ⟨y0, h0⟩ := qch 0 3 0 1 hl2 hf ⟨_, rfl, rfl, rfl⟩ (by kernel_rfl)
  obtain ⟨y1, h1⟩ := qch 1 9 1 1 hl2 hf ⟨_, rfl, rfl, rfl⟩ (by kernel_rfl)
  obtain ⟨y2, h2⟩ := qch 2 9 2 1 hl2 hf ⟨_, rfl, rfl, rfl⟩ (by kernel_rfl)
  obtain ⟨y3, h3⟩ := qch 3 9 3 1 hl2 hf ⟨_, rfl, rfl, rfl⟩ (by kernel_rfl)
  obtain ⟨y4, h4⟩ := qch 4 9 4 1 hl2 hf ⟨_, rfl, rfl, rfl⟩ (by kernel_rfl)
  obtain ⟨y5, h5⟩ := qch 5 3 5 1 hl2 hf ⟨_, rfl, rfl, rfl⟩ (by kernel_rfl)
  obtain ⟨y6, h6⟩ := qch 6 27 6 3 hl2 hf ⟨_, rfl, rfl, rfl⟩ (by kernel_rfl)
  obtain ⟨a0, r0⟩ := trods_int Tryz.underlying3 (m + 1) m _ _ (by omega) h0
  obtain ⟨a1, r1⟩ := qfk Tryz.underlying9 (m + 1) m _ _ (by omega) h1
  obtain ⟨a2, r2⟩ := qfk Tryz.underlying9 (m + 1) m _ _ (by omega) h2
  obtain ⟨a3, r3⟩ := qfk Tryz.underlying9 (m + 1) m _ _ (by omega) h3
  obtain ⟨a4, r4⟩ := qfk Tryz.underlying9 (m + 1) m _ _ (by omega) h4
  obtain ⟨a5, i5, r5⟩ := trods_intI Tryz.underlying3 h5
  obtain ⟨a6, r6⟩ := trods_valI (m + 1) m _ _ (by omega) h6
  exact ⟨⟨⟨a0, a1, a2, a3, a4, a5, a6.1⟩, i5, a6.2⟩, rd_st (qem (k := 1) r0 (qem (k := 1) r1 (qem (k := 1) r2 (qem (k := 1) r3 (qem (k := 1) r4 (qem (k := 1) r5 (qem (k := 3) r6 (rdS_end (by omega)))))))))⟩
theorem trods_lenssI (N : Nat) : Trods enc Tryz.prog w sp hd 22 (fun l : List {y : Lens // i64 y.n ∧ i64 y.value.n} => D.sl (l.map fun y => y.1.d)) N := fun n cs x hn h =>
  trods_sl Tryz.underlying22 (sz := 9) (by kernel_rfl) (by omega) (f := fun y : {y : Lens // i64 y.n ∧ i64 y.value.n} => y.1.d) (fun y => Lens.width y.1) (trods_lensI N) n cs x (by omega) h
theorem trods_valsI (N : Nat) : Trods enc Tryz.prog w sp hd 36 (fun l : List {y : Val // i64 y.n} => D.sl (l.map fun y => y.1.d)) N := fun n cs x hn h =>
  trods_sl Tryz.underlying36 (sz := 3) (by kernel_rfl) (by omega) (f := fun y : {y : Val // i64 y.n} => y.1.d) (fun y => Val.width y.1) (trods_valI N) n cs x (by omega) h
set_option maxRecDepth 100000 in
theorem par_lens (hval : Value.okWide Tryz.prog w0 .any b0 22 v) (h : DataW.Trod enc Tryz.prog w 0 sp hd 22 v d ps) : ∃ x : List Lens, (∀ y ∈ x, i64 y.n ∧ i64 y.value.n) ∧ Rd w Any (.sl (x.map Lens.d)) [v] := by
  obtain ⟨x, hx⟩ := par_sl Tryz.underlying22 hval h trods_lenssI
  refine ⟨x.map (·.1), fun y hy => ?_, by rw [List.map_map]; exact hx⟩
  obtain ⟨z, -, rfl⟩ := List.mem_map.1 hy
  exact z.2
set_option maxRecDepth 100000 in
theorem par_vals (hval : Value.okWide Tryz.prog w0 .any b0 36 v) (h : DataW.Trod enc Tryz.prog w 0 sp hd 36 v d ps) : ∃ x : List Val, (∀ y ∈ x, i64 y.n) ∧ Rd w Any (.sl (x.map Val.d)) [v] := by
  obtain ⟨x, hx⟩ := par_sl Tryz.underlying36 hval h trods_valsI
  refine ⟨x.map (·.1), fun y hy => ?_, by rw [List.map_map]; exact hx⟩
  obtain ⟨z, -, rfl⟩ := List.mem_map.1 hy
  exact z.2
end
end Go.Proofs.YtbkkjlcclddpdaaGreatDoor

/- The law LensFits, lifted: the row and the tied card. (Printed by gen_lift14.py.) -/
namespace Go.Proofs.YtbkkjlcclddpdaaGreatDoor
open Go.ChangeShapes Go.WideShapes Go.ChangeAt Go.RowKit Go.Lib
set_option maxRecDepth 100000 in
theorem lensFits_lifted (os : Os) (started : os.Started) (H : Type) (enc : TypeId × Value → H) :
    ReturnsInHanded {} Tryz.checked os 5 .any (fun w args => (Rows.lensFitsSpec.pre enc Tryz.prog Tryz.f5 Rows.lensFitsRow.domain false w args ∧ laidMetH Tryz.prog Rows.lensFitsRow.laid w) ∧ sizedMet enc Tryz.prog Tryz.f5 (OpenSpec.ofChange Rows.lensFitsSpec) false w args)
      (Rows.lensFitsSpec.post enc Tryz.prog Tryz.f5 false true false false) := by
  refine qdh (C := Tryz.checked) (X := fun w _ => laidMetH Tryz.prog Rows.lensFitsRow.laid w) Tryz.own started (by kernel_rfl) Tryz.func5
    (ChangeSpec.witness_shaped (enc := enc) (C := Tryz.checked) (os := os) (X := fun w _ => laidMetH Tryz.prog Rows.lensFitsRow.laid w) false (World.laidAll Tryz.prog os Rows.lensFitsRow.laid) #[.slice .none 0 0, .slice .none 0 0, .slice .none 0 0, .slice .none 0 0] 8 (World.laidAll_os _ _ _)
      (World.shaped_of_ZipB (by kernel_rfl) (by kernel_rfl)) (by kernel_rfl) (by kernel_rfl) (by kernel_rfl)
      (by rw [MakeChecks.laidMetH_plain _ _ _ (by kernel_rfl)]; exact laidMet_laidAll _ (by kernel_rfl) (by kernel_rfl)))
    (fun w w' us hh hX => by rw [MakeChecks.laidMetH_plain _ _ _ (by kernel_rfl)] at hX ⊢; exact laidMet.of_heap hh hX) ?_
  intro W base args ds gs before hval0 hW _ hsh hlaid
  rw [MakeChecks.laidMetH_plain _ _ _ (by kernel_rfl)] at hlaid
  have hglob := glob14 hsh hlaid (by simp [Rows.lensFitsRow]) (by simp [Rows.lensFitsRow]) (by simp [Rows.lensFitsRow])
  have hval : ∀ (j : Nat) t v, Tryz.f5.params[j]? = some t → args[j]? = some v → Value.okWide Tryz.prog W .any base t v := hval0
  have hW' := hW
  obtain ⟨p, q, hA0, hV, rfl, hfz, hnd⟩ := hW
  have hA : DataW.TrodAll enc Tryz.prog W 0 (fun _ => true) true Tryz.f5.params.toList args.toList ds p := hA0
  rw [Tryz.params5] at hA hval
  obtain ⟨v0, v1, v2, v3, d0, d1, d2, d3, p0, p1, p2, p3, rfl, rfl, rfl, h0, h1, h2, h3⟩ := trodAll_4_02 hA
  obtain ⟨rfl, rfl⟩ := trodVars_none hV
  obtain ⟨x0, n0, r0⟩ := par_lens (hval 0 _ v0 rfl rfl) h0
  obtain ⟨x1, r1⟩ := par_sl Tryz.underlying35 (hval 1 _ v1 rfl rfl) h1 trods_cols
  obtain ⟨x2, n2, r2⟩ := par_vals (hval 2 _ v2 rfl rfl) h2
  obtain ⟨x3, n3, r3⟩ := par_vals (hval 3 _ v3 rfl rfl) h3
  refine (qfw (vals := [v0, v1, v2, v3]) (lensFits_g x0 x1 x2 x3 (fun y hy => (n0 y hy).2) n2 n3) ⟨_, _, rfl, Lens.flats r0, _, _, rfl, Col.flats r1, _, _, rfl, Val.flats r2, _, _, rfl, Val.flats r3, rfl⟩ hglob).mono ?_
  rintro r W' ⟨rfl, hb⟩
  exact ⟨_, rfl, law_post (P := Tryz.prog) Tryz.laidOut hW' rfl rfl (by kernel_rfl) Tryz.underlying4 (by kernel_rfl) hb⟩
theorem lensFits_row : Rows.LensFitsSaid :=
  OpenClaim.holds_of_wide 5 Tryz.f5 rfl rfl rfl rfl rfl rfl rfl ⟨rfl, rfl, rfl, rfl, rfl⟩ rfl rfl rfl rfl rfl (by kernel_rfl) Tryz.func5 (by kernel_rfl)
    (of_decide_eq_true (by kernel_rfl)) (by unfold Func.isWrapper; first | (rw [if_pos (by decide +kernel)]; kernel_rfl) | (rw [if_neg (by decide +kernel)]; exact ⟨rfl, rfl⟩))
    (fun os started H enc _ => lensFits_lifted os started H enc)
theorem lensFits_holds : Rows.LensFitsCardSaid :=
  Claim7.holds_tied_plain_at .later [] [.data, .data, .data, .sentinel, .sentinel] true (true, "37ee94979087aae3786833705abdfdda4f29bf2bd51485dabcfa75dee9ddd430") true lensFits_row (fun _ h => by cases h) (by kernel_rfl) (fun _ h => by cases h) lensFits_row_tie rfl ⟨rfl, rfl⟩ (by kernel_rfl) rfl
    (fun f fn hf hfn => by
      obtain rfl : f = 5 := Option.some.inj ((show Tryz.prog.funcNamed "errata/erratalaw14.LensFits" = some 5 by kernel_rfl).symm.trans hf) |>.symm
      obtain rfl : fn = Tryz.f5 := (Option.some.inj (Tryz.func5.symm.trans hfn)).symm
      exact ⟨by kernel_rfl, fun j t ht => by
        rw [Tryz.params5] at ht
        have hm : t ∈ [22, 35, 36, 36] := by simpa using Array.mem_of_getElem? ht
        have hall : ([22, 35, 36, 36].all fun u => !Tryz.prog.wantsStandIn u) = true := by kernel_rfl
        exact (show Tryz.prog.wantsStandIn t = false by simpa using List.all_eq_true.1 hall t hm)⟩)
    (by kernel_rfl)
end Go.Proofs.YtbkkjlcclddpdaaGreatDoor

/- Layer 14 on plain data: what is kept, and what is lost. -/
namespace Go.Proofs.YtbkkjlcclddpdaaGreatDoor
open Go.RowKit Go.Lib
theorem qcc {r : List Val} {i : Nat} (hi : i < r.length) (v : Val) : valAt (r.set i v) i = v := by
  rw [qz (by rw [List.length_set]; exact hi), List.getElem_set_self]
theorem set_back {r : List Val} {i : Nat} (hi : i < r.length) {v w : Val} (h : w = r[i]) : (r.set i v).set i w = r := by
  rw [List.set_set, h, List.set_getElem_self]
theorem valAt_mid (A B : List Val) (v : Val) : valAt (A ++ [v] ++ B) A.length = v := by
  rw [qz (by simp)]
  simp
theorem kind_int {v : Val} (h : qbl v = true) (hk : v.k = 0) : v = ⟨0, v.n, ⟨#[]⟩⟩ := by
  rcases rightV_cases h with e | ⟨e, -⟩ | e | e
  · exact e
  all_goals (rw [e] at hk; exact absurd hk (by first | (show ¬ (1 : Int) = 0; decide) | (show ¬ (2 : Int) = 0; decide)))
theorem kind_bool {v : Val} (h : qbl v = true) (hk : v.k = 2) : v = bitV false ∨ v = bitV true := by
  rcases rightV_cases h with e | ⟨e, -⟩ | e | e
  · rw [e] at hk; exact absurd hk (by show ¬ (0 : Int) = 2; decide)
  · rw [e] at hk; exact absurd hk (by show ¬ (1 : Int) = 2; decide)
  · exact .inl e
  · exact .inr e
theorem itoa_cut {m : Int} (h : i64 m) : (itoa m).take 200 = itoa m := List.take_of_length_le (by have := itoa_length_le m h.1 h.2; omega)
theorem conv_itoa {m : Int} (h : i64 m) (z : Val) : convP (cutV (itoa m)) 0 z = ⟨0, m, ⟨#[]⟩⟩ := by
  have hk : (cutV (itoa m)).k = 1 := rfl
  have hs : intP (cutV (itoa m)).s.data.toList = some m := intP_iff.2 ⟨h, (itoa_cut h).symm⟩
  unfold convP
  rw [hk, if_neg (by decide), if_neg (by decide), if_neg (by decide), if_pos rfl, hs]
theorem conv_kept {v o : Val} {n t : Int} (hv : qbl v = true) (hi : i64 v.n) (hk : v.k = t) (h : t = 2 ∧ (n = 0 ∨ n = 1) ∨ t = 0 ∧ n = 1) : convP (convP v n o) t ⟨t, 0, ⟨#[]⟩⟩ = v := by
  rcases h with ⟨rfl, hn⟩ | ⟨rfl, rfl⟩
  · rcases kind_bool hv hk with rfl | rfl <;> rcases hn with rfl | rfl <;> kernel_rfl
  · have e := kind_int hv hk
    obtain ⟨k, m, s⟩ := v
    have e2 : convP ⟨0, m, ⟨#[]⟩⟩ 1 o = cutV (itoa m) := rfl
    rw [e]
    show convP (convP ⟨0, m, ⟨#[]⟩⟩ 1 o) 0 _ = ⟨0, m, ⟨#[]⟩⟩
    rw [e2, conv_itoa hi]
theorem wrap_in {n : Int} (h : i64 n) : IntKind.i64.wrap n = n := qg h.1 h.2
theorem scale_kept {m n : Int} (h : i64 m) (hn : n = 1 ∨ n = -1) : IntKind.i64.wrap ((IntKind.i64.wrap (m * n)).tdiv n) = m := by
  rcases hn with rfl | rfl
  · rw [Int.mul_one, wrap_in h, Int.tdiv_one, wrap_in h]
  · by_cases hm : m = -9223372036854775808
    · subst hm; decide
    · have h2 : i64 (-m) := ⟨by have := h.2; omega, by have := h.1; omega⟩
      have e : m * -1 = -m := by omega
      rw [e, wrap_in h2]
      have e2 : (-m).tdiv (-1) = m := by rw [Int.tdiv_neg, Int.tdiv_one]; omega
      rw [e2, wrap_in h]
theorem keep_step {x : Lens} {L : List Col} {row : List Val} (h : qef x L) (hf : FitOk row L) (hv : ∀ v ∈ row, i64 v.n) (hk : qx x L = none) : bckP x L (fwdP x L row) = row := by
  have hlen := hf.len
  cases h
  case add ho ha hn hl hR hu hv =>
    have e : fwdP x L row = row ++ [x.value] := by simp only [fwdP, ho]; rfl
    rw [e]
    simp only [bckP, ho]
    simp
  case drop i hi ho h hk2 hl hR hv => unfold qx at hk; simp [ho] at hk
  case rename i hi ho h hb hb2 hR =>
    have e : fwdP x L row = row := by simp only [fwdP, ho]; rfl
    rw [e]
    simp only [bckP, ho]; rfl
  case split i hi ho h hk2 hb hc hs hbc hb2 hc2 hl hR => unfold qx at hk; simp [ho] at hk
  case join i k hi hk3 ho h hkf hkn hik ti tk hc hs hc2 hR => unfold qx at hk; simp [ho] at hk
  case retype i hi ho h hn0 hn3 hv2 hk2 ht hR =>
    have hir : i < row.length := by omega
    have e : fwdP x L row = row.set i (convP row[i] x.n x.value) := by simp only [fwdP, ho, h.find, Int.toNat_natCast, qz hir]; rfl
    have e2 : ∀ r, bckP x L r = r.set i (convP (valAt r i) L[i].type ⟨L[i].type, 0, ⟨#[]⟩⟩) := fun r => by simp only [bckP, ho, h.find, Int.toNat_natCast, qbz hi]; rfl
    have hc : L[i].type = 2 ∨ L[i].type = 0 ∧ x.n = 1 := by
      refine Classical.byContradiction fun hc => ?_
      unfold qx at hk
      simp only [ho, h.find, Int.toNat_natCast, qbz hi, reduceIte, Int.reduceEq, false_or, or_self, if_neg hc] at hk
      cases hk
    have hm : row[i] ∈ row := List.getElem_mem hir
    rw [e, e2, qcc hir]
    refine set_back hir (conv_kept (hf.vals _ hm) (hv _ hm) (hf.kind hir hi) ?_)
    rcases hc with hc | hc
    · exact .inl ⟨hc, by omega⟩
    · exact .inr hc
  case scale i hi ho h ht hn hu hR =>
    have hir : i < row.length := by omega
    have e : fwdP x L row = row.set i ⟨0, IntKind.i64.wrap (row[i].n * x.n), ⟨#[]⟩⟩ := by simp only [fwdP, ho, h.find, Int.toNat_natCast, qz hir]; rfl
    have e2 : ∀ r, bckP x L r = r.set i ⟨0, IntKind.i64.wrap ((valAt r i).n.tdiv x.n), ⟨#[]⟩⟩ := fun r => by simp only [bckP, ho, h.find, Int.toNat_natCast]; rfl
    have hc : x.n = 1 ∨ x.n = -1 := by
      refine Classical.byContradiction fun hc => ?_
      unfold qx at hk
      simp only [ho, reduceIte, Int.reduceEq, false_or, or_self, if_neg hc] at hk
      cases hk
    have hm : row[i] ∈ row := List.getElem_mem hir
    rw [e, e2, qcc hir]
    refine set_back hir ?_
    show (⟨0, IntKind.i64.wrap ((IntKind.i64.wrap (row[i].n * x.n)).tdiv x.n), ⟨#[]⟩⟩ : Val) = row[i]
    rw [scale_kept (hv _ hm) hc]
    exact (kind_int (hf.vals _ hm) (by rw [hf.kind hir hi]; exact ht)).symm
theorem keepL_all : ∀ {l : List Lens} {ss : List (List Col)} {row : List Val}, (∀ k (h : k < l.length), qef l[k] (shAt ss k) ∧ (oneP l[k] (shAt ss k)).1 = shAt ss (k + 1)) → qdc (shAt ss 0) → FitOk row (shAt ss 0) → qbw row → (∀ x ∈ l, qdv x) →
    (∀ k (h : k < l.length), qx l[k] (shAt ss k) = none) → qfo l ss (qeg l ss row) = row
  | [], ss, row, _, _, _, _, _, _ => rfl
  | x :: l, ss, row, hc, h0, hf, hv, hx, hk => by
    obtain ⟨h1, h2⟩ := hc 0 (by simp)
    have hk0 := hk 0 (by simp)
    simp only [List.getElem_cons_zero] at h1 h2 hk0
    have hsm : qbw (fwdP x (shAt ss 0) row) := fwd_small (hx x (by simp)) h1 hf.len hv
    have ih := keepL_all (l := l) (ss := ss.tail) (row := fwdP x (shAt ss 0) row) (fun k h => by rw [qed, qed]; exact hc (k + 1) (by simpa using h)) (by rw [qed, ← h2]; exact step_right h0 h1) (by rw [qed, ← h2]; exact fwd_fits h0 h1 hf) hsm (fun y hy => hx y (by simp [hy])) (fun k h => by rw [qed]; exact hk (k + 1) (by simpa using h))
    show bckP x (ss.headD []) (qfo l ss.tail (qeg l ss.tail (fwdP x (ss.headD []) row))) = row
    rw [shAt_0, ih]
    exact keep_step h1 hf (fun v h => (hv v h).n) hk0
theorem default_at {L : List Col} {i : Nat} (hi : i < L.length) (h : i < (qw L).length) : (qw L)[i] = ⟨L[i].type, 0, ⟨#[]⟩⟩ := by simp only [qw, List.getElem_map]; rfl
theorem default_fit {L : List Col} (hL : qdc L) : FitOk (qw L) L ∧ ∀ v ∈ qw L, i64 v.n := by
  refine ⟨⟨by unfold qw; rw [List.map_map]; rfl, fun v hv => ?_⟩, fun v hv => ?_⟩
  · unfold qw at hv
    obtain ⟨c, hc, rfl⟩ := List.mem_map.1 hv
    exact right_zero (hL.cols c hc).k0 (hL.cols c hc).k1
  · unfold qw at hv
    obtain ⟨c, hc, rfl⟩ := List.mem_map.1 hv
    exact i64_0
theorem fit_set {L : List Col} {r : List Val} (hf : FitOk r L) {i : Nat} (hi : i < L.length) {v : Val} (hk : v.k = L[i].type) (hr : qbl v = true) : FitOk (r.set i v) L := by
  have := hf.set i (c := L[i]) hk hr
  rwa [List.set_getElem_self] at this
theorem i64_set {r : List Val} (h : ∀ v ∈ r, i64 v.n) {v : Val} (hv : i64 v.n) (i : Nat) : ∀ u ∈ r.set i v, i64 u.n := fun u hu => by
  rcases List.mem_or_eq_of_mem_set hu with h1 | rfl
  · exact h u h1
  · exact hv
theorem index_pre (s t : List UInt8) (hs : s ≠ []) : Lib.index (s ++ t) s = 0 := by
  cases s with
  | nil => exact absurd rfl hs
  | cons b s =>
    rw [List.cons_append, Lib.index, if_pos]
    rw [List.isPrefixOf_iff_prefix]
    exact ⟨t, rfl⟩
theorem cut_pre (s t : List UInt8) (hs : s ≠ []) : (Lib.cut (s ++ t) s).1 = [] ∧ (Lib.cut (s ++ t) s).2.1 = t := by
  unfold Lib.cut
  rw [index_pre s t hs, if_pos (by decide)]
  refine ⟨rfl, ?_⟩
  show (s ++ t).drop (0 + s.length) = t
  rw [Nat.zero_add, List.drop_left]
theorem sep_ne {s : ByteArray} (h : 1 ≤ s.size) : s.data.toList ≠ [] := fun e => by
  have := qdn s
  rw [e] at this; simp at this; omega
theorem cut0_ne {s : ByteArray} (h : 1 ≤ s.size) : cutV [] ≠ ⟨1, 0, s⟩ := fun e => by
  have : qs ([].take 200) = s := congrArg Val.s e
  have h2 := congrArg ByteArray.size this
  rw [qt] at h2; simp at h2; omega
theorem scale_lost {n : Int} (h0 : n ≠ 0) (h1 : ¬ (n = 1 ∨ n = -1)) : IntKind.i64.wrap ((IntKind.i64.wrap (9223372036854775807 * n)).tdiv n) ≠ 9223372036854775807 := by
  have hw := wrap_i64' (9223372036854775807 * n)
  obtain ⟨w, hww⟩ : ∃ w, IntKind.i64.wrap (9223372036854775807 * n) = w := ⟨_, rfl⟩
  rw [hww] at hw ⊢
  have hn2 : 2 ≤ n.natAbs := by omega
  have habs : (w.tdiv n).natAbs ≤ 4611686018427387904 := by
    rw [Int.natAbs_tdiv]
    refine Nat.le_trans (Nat.div_le_div_left hn2 (by decide)) ?_
    have := hw.1
    have := hw.2
    omega
  rw [wrap_in ⟨by omega, by omega⟩]
  omega
theorem itoa_ne (m : Int) (h : i64 m) : itoa m ≠ [] := fun e => by
  have h1 : intP (itoa m) = some m := intP_iff.2 ⟨h, rfl⟩
  rw [e] at h1
  have h2 : intP [] = none := by kernel_rfl
  rw [h2] at h1; cases h1
theorem lostS_step {x : Lens} {L : List Col} (hL : qdc L) (h : qef x L) (hx : i64 x.value.n) {R : List Val} (hk : qx x L = some R) : FitOk R L ∧ (∀ v ∈ R, i64 v.n) ∧ bckP x L (fwdP x L R) ≠ R := by
  obtain ⟨d1, d2⟩ := default_fit hL
  have hdl := qdg L
  cases h
  case add ho ha hn hl hR hu hv => unfold qx at hk; simp [ho] at hk
  case drop i hi ho h hk2 hl hR hv =>
    have hid : i < (qw L).length := by omega
    have hda := default_at hi hid
    have hci := hL.cols _ (List.getElem_mem hi)
    have e : qx x L = some (if Val.eqB (qw L)[i] x.value then (qw L).set i (if L[i].type = 0 then ⟨0, 1, ⟨#[]⟩⟩ else if L[i].type = 1 then ⟨1, 0, ⟨#[97]⟩⟩ else ⟨2, 1, ⟨#[]⟩⟩) else qw L) := by
      unfold qx
      simp only [ho, if_pos, h.find, Int.toNat_natCast, qz hid, qbz hi]
    rw [e] at hk
    have hR2 := Option.some.inj hk
    obtain ⟨w, hw⟩ : ∃ w : Val, (if L[i].type = 0 then (⟨0, 1, ⟨#[]⟩⟩ : Val) else if L[i].type = 1 then ⟨1, 0, ⟨#[97]⟩⟩ else ⟨2, 1, ⟨#[]⟩⟩) = w := ⟨_, rfl⟩
    rw [hw] at hR2
    have hwk : w.k = L[i].type ∧ qbl w = true ∧ i64 w.n ∧ w ≠ ⟨L[i].type, 0, ⟨#[]⟩⟩ := by
      have ht : L[i].type = 0 ∨ L[i].type = 1 ∨ L[i].type = 2 := by have := hci.k0; have := hci.k1; omega
      rcases ht with ht | ht | ht
      · rw [if_pos ht] at hw; subst hw; rw [ht]; exact ⟨rfl, qdx 1, ⟨by decide, by decide⟩, by decide⟩
      · rw [if_neg (by omega), if_pos ht] at hw; subst hw; rw [ht]; exact ⟨rfl, qfh (by decide), ⟨by decide, by decide⟩, by decide⟩
      · rw [if_neg (by omega), if_neg (by omega)] at hw; subst hw; rw [ht]; exact ⟨rfl, rightV_bit true, ⟨by decide, by decide⟩, by decide⟩
    have hRl : R.length = L.length := by rw [← hR2]; split <;> simp [hdl]
    have hRi : valAt R i ≠ x.value := by
      rw [← hR2]
      by_cases he : Val.eqB (qw L)[i] x.value = true
      · rw [if_pos he, qcc hid]
        have := (Val.eqB_iff _ _).1 he
        rw [← this, hda]; exact hwk.2.2.2
      · rw [if_neg he, qz hid]
        exact fun e => he ((Val.eqB_iff _ _).2 e)
    refine ⟨?_, ?_, fun eq => hRi ?_⟩
    · rw [← hR2]; split
      · exact fit_set d1 hi hwk.1 hwk.2.1
      · exact d1
    · rw [← hR2]; split
      · exact i64_set d2 hwk.2.2.1 i
      · exact d2
    · have e1 : fwdP x L R = R.eraseIdx i := by simp only [fwdP, ho, h.find, Int.toNat_natCast]; rfl
      have e2 : ∀ r, bckP x L r = r.take i ++ [x.value] ++ r.drop i := fun r => by simp only [bckP, ho, h.find, Int.toNat_natCast]; rfl
      have hl2 : (R.eraseIdx i).length = R.length - 1 := List.length_eraseIdx_of_lt (by omega)
      have h3 : ((R.eraseIdx i).take i).length = i := by rw [List.length_take, hl2]; omega
      have h4 := valAt_mid ((R.eraseIdx i).take i) ((R.eraseIdx i).drop i) x.value
      rw [h3] at h4
      rw [e1, e2] at eq
      rw [eq] at h4
      exact h4
  case rename i hi ho h hb hb2 hR => unfold qx at hk; simp [ho] at hk
  case split i hi ho h hk2 hb hc hs hbc hb2 hc2 hl hR =>
    have hid : i < (qw L).length := by omega
    have e : qx x L = some ((qw L).set i ⟨1, 0, x.sep⟩) := by unfold qx; simp only [ho, h.find, Int.toNat_natCast]; rfl
    rw [e] at hk
    have hR2 := Option.some.inj hk
    have hRi : valAt R i = ⟨1, 0, x.sep⟩ := by rw [← hR2, qcc hid]
    have hRl : R.length = L.length := by rw [← hR2]; simp [hdl]
    refine ⟨by rw [← hR2]; exact fit_set d1 hi hk2.symm (qfh hs.2), by rw [← hR2]; exact i64_set d2 i64_0 i, fun eq => ?_⟩
    have e1 : fwdP x L R = R.take i ++ [(qbf (valAt R i).s.data.toList x.sep.data.toList).1, (qbf (valAt R i).s.data.toList x.sep.data.toList).2] ++ R.drop (i + 1) := by simp only [fwdP, ho, h.find, Int.toNat_natCast]; rfl
    have e2 : ∀ r, bckP x L r = r.take i ++ [cutV ((valAt r i).s.data.toList ++ if (valAt r (i + 1)).s.toList = [] then [] else x.sep.data.toList ++ (valAt r (i + 1)).s.data.toList)] ++ r.drop (i + 2) := fun r => by simp only [bckP, ho, h.find, Int.toNat_natCast]; rfl
    obtain ⟨p1, p2⟩ := cut_pre x.sep.data.toList [] (sep_ne hs.1)
    rw [List.append_nil] at p1 p2
    have hsp : qbf (valAt R i).s.data.toList x.sep.data.toList = (cutV [], cutV []) := by rw [hRi]; unfold qbf; rw [p1, p2]
    rw [hsp] at e1
    obtain ⟨A, hA⟩ : ∃ A, R.take i = A := ⟨_, rfl⟩
    have hAl : A.length = i := by rw [← hA, List.length_take]; omega
    rw [hA] at e1
    have v1 : valAt (A ++ [cutV [], cutV []] ++ R.drop (i + 1)) i = cutV [] := by
      rw [qz (by simp; omega)]
      simp [List.getElem_append, hAl]
    have v2 : valAt (A ++ [cutV [], cutV []] ++ R.drop (i + 1)) (i + 1) = cutV [] := by
      rw [qz (by simp; omega)]
      simp [List.getElem_append, hAl]
    have s0 : (cutV []).s.data.toList = [] := rfl
    have s1 : (cutV []).s.toList = [] := by rw [ByteArray.toList_eq]; rfl
    rw [e1, e2, v1, v2, s0, if_pos s1] at eq
    have h3 : ((A ++ [cutV [], cutV []] ++ R.drop (i + 1)).take i).length = i := by rw [List.length_take]; simp; omega
    have h4 := valAt_mid ((A ++ [cutV [], cutV []] ++ R.drop (i + 1)).take i) ((A ++ [cutV [], cutV []] ++ R.drop (i + 1)).drop (i + 2)) (cutV [])
    rw [h3] at h4
    rw [List.append_nil] at eq
    rw [eq, hRi] at h4
    exact cut0_ne hs.1 h4.symm
  case join i k hi hk3 ho h hkf hkn hik ti tk hc hs hc2 hR =>
    have hid : i < (qw L).length := by omega
    have hkd : k < (qw L).length := by omega
    have e : qx x L = some ((qw L).set i ⟨1, 0, x.sep⟩) := by unfold qx; simp only [ho, h.find, Int.toNat_natCast]; rfl
    rw [e] at hk
    have hR2 := Option.some.inj hk
    have hRi : valAt R i = ⟨1, 0, x.sep⟩ := by rw [← hR2, qcc hid]
    have hRl : R.length = L.length := by rw [← hR2]; simp [hdl]
    have hRk : valAt R k = ⟨1, 0, ⟨#[]⟩⟩ := by
      rw [← hR2, qz (by rw [List.length_set]; omega), List.getElem_set_ne hik, default_at hk3, tk]
    refine ⟨by rw [← hR2]; exact fit_set d1 hi ti.symm (qfh hs.2), by rw [← hR2]; exact i64_set d2 i64_0 i, fun eq => ?_⟩
    obtain ⟨a, ha⟩ : ∃ a, a = if k < i then i - 1 else i := ⟨_, rfl⟩
    have e1 : fwdP x L R = (R.set i (cutV ((valAt R i).s.data.toList ++ x.sep.data.toList ++ (valAt R k).s.data.toList))).eraseIdx k := by simp only [fwdP, ho, h.find, hkf, Int.toNat_natCast]; rfl
    have e2 : ∀ r, bckP x L r = (r.set a (qbf (valAt r a).s.data.toList x.sep.data.toList).1).take k ++ [(qbf (valAt r a).s.data.toList x.sep.data.toList).2] ++ (r.set a (qbf (valAt r a).s.data.toList x.sep.data.toList).1).drop k := fun r => by
      simp only [bckP, ho, h.find, hkf, Int.toNat_natCast, ← ha]; rfl
    have hcat : (valAt R i).s.data.toList ++ x.sep.data.toList ++ (valAt R k).s.data.toList = x.sep.data.toList ++ x.sep.data.toList := by rw [hRi, hRk]; exact List.append_nil _
    rw [hcat] at e1
    obtain ⟨F, hF⟩ : ∃ F, (R.set i (cutV (x.sep.data.toList ++ x.sep.data.toList))).eraseIdx k = F := ⟨_, rfl⟩
    rw [hF] at e1
    have hFl : F.length = L.length - 1 := by rw [← hF, List.length_eraseIdx_of_lt (by rw [List.length_set]; omega), List.length_set, hRl]
    have hal : a < F.length := by rw [hFl, ha]; split <;> omega
    have hFa : valAt F a = cutV (x.sep.data.toList ++ x.sep.data.toList) := by
      rw [qz hal]
      simp only [← hF]
      rw [List.getElem_eraseIdx]
      split
      · have hai : a = i := by
          by_cases hki : k < i
          · rw [if_pos hki] at ha; omega
          · rw [if_neg hki] at ha; exact ha
        rw [List.getElem_set, if_pos hai.symm]
      · have hai : a + 1 = i := by
          by_cases hki : k < i
          · rw [if_pos hki] at ha; omega
          · rw [if_neg hki] at ha; omega
        rw [List.getElem_set, if_pos hai.symm]
    have hsl := qdn x.sep
    have htk : (cutV (x.sep.data.toList ++ x.sep.data.toList)).s.data.toList = x.sep.data.toList ++ x.sep.data.toList.take (200 - x.sep.size) := by
      show (x.sep.data.toList ++ x.sep.data.toList).take 200 = _
      rw [List.take_append, hsl, List.take_of_length_le (by omega)]
    obtain ⟨p1, p2⟩ := cut_pre x.sep.data.toList (x.sep.data.toList.take (200 - x.sep.size)) (sep_ne hs.1)
    have hsp : (qbf (valAt F a).s.data.toList x.sep.data.toList).1 = cutV [] := by rw [hFa, htk]; unfold qbf; rw [p1]
    rw [e1, e2, hsp] at eq
    have h4 : valAt R i = cutV [] := by
      rw [← eq]
      obtain ⟨z, hz⟩ : ∃ z, (qbf (valAt F a).s.data.toList x.sep.data.toList).2 = z := ⟨_, rfl⟩
      rw [hz]
      have hsl2 : (F.set a (cutV [])).length = L.length - 1 := by rw [List.length_set, hFl]
      have hset : (F.set a (cutV []))[a]'(by omega) = cutV [] := List.getElem_set_self _
      rw [qz (by simp; omega)]
      by_cases hki : k < i
      · rw [if_pos hki] at ha
        rw [List.getElem_append_right (by simp; omega)]
        rw [List.getElem_drop]
        have : k + (i - (((F.set a (cutV [])).take k) ++ [z]).length) = a := by simp; omega
        simp only [this]; exact hset
      · rw [if_neg hki] at ha
        rw [List.getElem_append_left (by simp; omega), List.getElem_append_left (by simp; omega), List.getElem_take]
        simp only [← ha]; exact hset
    rw [hRi] at h4
    exact cut0_ne hs.1 h4.symm
  case retype i hi ho h hn0 hn3 hv hk2 ht hR =>
    have hid : i < (qw L).length := by omega
    have hda := default_at hi hid
    have hci := hL.cols _ (List.getElem_mem hi)
    have e : qx x L = (if L[i].type = 2 ∨ L[i].type = 0 ∧ x.n = 1 then none else some (if L[i].type = 0 then (qw L).set i ⟨0, 2, ⟨#[]⟩⟩ else qw L)) := by
      unfold qx
      simp only [ho, h.find, Int.toNat_natCast, qbz hi]; rfl
    have hc : ¬ (L[i].type = 2 ∨ L[i].type = 0 ∧ x.n = 1) := fun hc => by rw [e, if_pos hc] at hk; cases hk
    rw [e, if_neg hc] at hk
    have hR2 := Option.some.inj hk
    have hRl : R.length = L.length := by rw [← hR2]; split <;> simp [hdl]
    have hiR : i < R.length := by omega
    have e1 : fwdP x L R = R.set i (convP (valAt R i) x.n x.value) := by simp only [fwdP, ho, h.find, Int.toNat_natCast]; rfl
    have e2 : ∀ r, bckP x L r = r.set i (convP (valAt r i) L[i].type ⟨L[i].type, 0, ⟨#[]⟩⟩) := fun r => by simp only [bckP, ho, h.find, Int.toNat_natCast, qbz hi]; rfl
    have hne : convP (convP (valAt R i) x.n x.value) L[i].type ⟨L[i].type, 0, ⟨#[]⟩⟩ ≠ valAt R i := by
      by_cases h0 : L[i].type = 0
      · have hn2 : x.n = 2 := by omega
        have hRi : valAt R i = ⟨0, 2, ⟨#[]⟩⟩ := by rw [← hR2, if_pos h0, qcc hid]
        rw [hRi, hn2, h0]
        have : convP (convP ⟨0, 2, ⟨#[]⟩⟩ 2 x.value) 0 ⟨0, 0, ⟨#[]⟩⟩ = ⟨0, 1, ⟨#[]⟩⟩ := by kernel_rfl
        rw [this]; decide
      · have h1 : L[i].type = 1 := by have := hci.k0; have := hci.k1; omega
        have hRi : valAt R i = ⟨1, 0, ⟨#[]⟩⟩ := by rw [← hR2, if_neg h0, qz hid, hda, h1]
        rw [hRi, h1]
        have hn : x.n = 0 ∨ x.n = 2 := by omega
        rcases hn with hn | hn
        · have hk0 := kind_int hv (by omega)
          have c1 : convP ⟨1, 0, ⟨#[]⟩⟩ 0 x.value = x.value := by kernel_rfl
          rw [hn, c1]
          obtain ⟨m, hm⟩ : ∃ m, x.value.n = m := ⟨_, rfl⟩
          rw [hm] at hk0 hx
          rw [hk0]
          have c2 : convP ⟨0, m, ⟨#[]⟩⟩ 1 ⟨1, 0, ⟨#[]⟩⟩ = cutV (itoa m) := rfl
          rw [c2]
          intro e
          have h5 : qs ((itoa m).take 200) = ⟨#[]⟩ := congrArg Val.s e
          rw [itoa_cut hx] at h5
          have h6 := congrArg (fun b : ByteArray => b.data.toList) h5
          exact itoa_ne m hx h6
        · have c1 : convP ⟨1, 0, ⟨#[]⟩⟩ 2 x.value = x.value := by kernel_rfl
          rw [hn, c1]
          rcases kind_bool hv (by omega) with hb | hb
          · rw [hb]
            have c2 : convP (bitV false) 1 ⟨1, 0, ⟨#[]⟩⟩ = ⟨1, 0, qs qft⟩ := by kernel_rfl
            rw [c2]; decide
          · rw [hb]
            have c2 : convP (bitV true) 1 ⟨1, 0, ⟨#[]⟩⟩ = ⟨1, 0, qs wTrue⟩ := by kernel_rfl
            rw [c2]; decide
    refine ⟨?_, ?_, fun eq => hne ?_⟩
    · rw [← hR2]; split
      · rename_i h0; exact fit_set d1 hi h0.symm (qdx 2)
      · exact d1
    · rw [← hR2]; split
      · exact i64_set d2 ⟨by decide, by decide⟩ i
      · exact d2
    · rw [e1, e2, qcc hiR, List.set_set] at eq
      have := qcc hiR (convP (convP (valAt R i) x.n x.value) L[i].type ⟨L[i].type, 0, ⟨#[]⟩⟩)
      rw [eq] at this
      exact this.symm
  case scale i hi ho h ht hn hu hR =>
    have hid : i < (qw L).length := by omega
    have e : qx x L = (if x.n = 1 ∨ x.n = -1 then none else some ((qw L).set i ⟨0, 9223372036854775807, ⟨#[]⟩⟩)) := by
      unfold qx
      simp only [ho, h.find, Int.toNat_natCast]; rfl
    have hc : ¬ (x.n = 1 ∨ x.n = -1) := fun hc => by rw [e, if_pos hc] at hk; cases hk
    rw [e, if_neg hc] at hk
    have hR2 := Option.some.inj hk
    have hRl : R.length = L.length := by rw [← hR2]; simp [hdl]
    have hiR : i < R.length := by omega
    have hRi : valAt R i = ⟨0, 9223372036854775807, ⟨#[]⟩⟩ := by rw [← hR2, qcc hid]
    refine ⟨by rw [← hR2]; exact fit_set d1 hi ht.symm (qdx _), by rw [← hR2]; exact i64_set d2 ⟨by decide, by decide⟩ i, fun eq => ?_⟩
    have e1 : fwdP x L R = R.set i ⟨0, IntKind.i64.wrap ((valAt R i).n * x.n), ⟨#[]⟩⟩ := by simp only [fwdP, ho, h.find, Int.toNat_natCast]; rfl
    have e2 : ∀ r, bckP x L r = r.set i ⟨0, IntKind.i64.wrap ((valAt r i).n.tdiv x.n), ⟨#[]⟩⟩ := fun r => by simp only [bckP, ho, h.find, Int.toNat_natCast]; rfl
    rw [e1, e2, qcc hiR, List.set_set, hRi] at eq
    have := qcc hiR (⟨0, IntKind.i64.wrap ((IntKind.i64.wrap (9223372036854775807 * x.n)).tdiv x.n), ⟨#[]⟩⟩)
    rw [eq, hRi] at this
    exact scale_lost hn hc (congrArg Val.n this).symm
end Go.Proofs.YtbkkjlcclddpdaaGreatDoor

/- Lists of steps, one after the other; equal rows, as the reference tells. -/
namespace Go.Proofs.YtbkkjlcclddpdaaGreatDoor
open Go.RowKit Go.Lib
theorem shapes_app : ∀ (a b : List Lens) {cols : List Col} {ss : List (List Col)}, qv (a ++ b) cols = (ss, 0) → ∃ s1 s2, qv a cols = (s1, 0) ∧ qv b (shAt s1 a.length) = (s2, 0) ∧ (∀ k, k ≤ a.length → shAt ss k = shAt s1 k) ∧ (∀ k, k ≤ b.length → shAt ss (a.length + k) = shAt s2 k)
  | [], b, cols, ss, h => ⟨[cols], ss, rfl, h, fun k hk => by
      obtain rfl : k = 0 := by simpa using hk
      exact (shapes_at (l := b) h).1, fun k _ => by simp⟩
  | y :: a, b, cols, ss, h => by
    rw [List.cons_append, qv] at h
    split at h
    · exact absurd (Prod.mk.inj h).2 (by assumption)
    · split at h
      · exact absurd (Prod.mk.inj h).2 (by assumption)
      · rename_i h1 h2
        have h2' : (qv (a ++ b) (oneP y cols).1).2 = 0 := Classical.byContradiction h2
        cases h
        obtain ⟨s1, s2, e1, e2, e3, e4⟩ := shapes_app a b (cols := (oneP y cols).1) (ss := (qv (a ++ b) (oneP y cols).1).1) (by rw [← h2'])
        refine ⟨cols :: s1, s2, ?_, e2, fun k hk => ?_, fun k hk => ?_⟩
        · rw [qv, if_neg h1, e1]; rfl
        · cases k with
          | zero => rfl
          | succ k => exact e3 k (by simpa using hk)
        · have : (y :: a).length + k = (a.length + k) + 1 := by simp; omega
          rw [this]
          exact e4 k hk
theorem shapes_one {x : Lens} {l : List Lens} {cols : List Col} {ss : List (List Col)} (h : qv (x :: l) cols = (ss, 0)) : qbj [x] cols = ([cols, (oneP x cols).1], 0) := by
  rw [qv] at h
  split at h
  · exact absurd (Prod.mk.inj h).2 (by assumption)
  · rename_i h1
    rw [qbj, if_neg (by simp), qv, if_neg h1]
    rfl
theorem toP_of {l : List Lens} {cols : List Col} {ss : List (List Col)} (h : qv l cols = (ss, 0)) (hl : l.length ≤ 60) : toP l cols = (shAt ss l.length, 0) := by
  unfold toP
  rw [if_neg (by omega), h, if_neg (by simp)]
  rfl
theorem shapes2_of {l : List Lens} {cols : List Col} {ss : List (List Col)} (h : qv l cols = (ss, 0)) (hl : l.length ≤ 60) : qbj l cols = (ss, 0) := by
  unfold qbj; rw [if_neg (by omega), h]
theorem lost_cases : ∀ (l : List Lens) (ss : List (List Col)) (j : Nat), (lostP l ss j = (true, 0, []) ∧ ∀ k (h : k < l.length), qx l[k] (shAt ss k) = none) ∨
    ∃ k, ∃ h : k < l.length, ∃ row, lostP l ss j = (false, ((j + k : Nat) : Int), row) ∧ qx l[k] (shAt ss k) = some row ∧ ∀ m (hm : m < k), qx (l[m]'(by omega)) (shAt ss m) = none
  | [], ss, j => .inl ⟨rfl, fun k h => absurd h (Nat.not_lt_zero _)⟩
  | x :: l, ss, j => by
    cases hc : qx x (shAt ss 0) with
    | some row =>
      refine .inr ⟨0, by simp, row, ?_, hc, fun m hm => absurd hm (Nat.not_lt_zero _)⟩
      rw [lostP, shAt_0, hc]; rfl
    | none =>
      have e : lostP (x :: l) ss j = lostP l ss.tail (j + 1) := by rw [lostP, shAt_0, hc]
      rw [e]
      rcases lost_cases l ss.tail (j + 1) with ⟨h1, h2⟩ | ⟨k, hk, row, h1, h2, h3⟩
      · refine .inl ⟨h1, fun k h => ?_⟩
        cases k with
        | zero => exact hc
        | succ k => have := h2 k (by simpa using h); rwa [qed] at this
      · refine .inr ⟨k + 1, by simpa using hk, row, ?_, ?_, fun m hm => ?_⟩
        · rw [h1]
          have : j + 1 + k = j + (k + 1) := by omega
          rw [this]
        · rw [qed] at h2; exact h2
        · cases m with
          | zero => exact hc
          | succ m => have := h3 m (by omega); rwa [qed] at this
theorem less_tot : ∀ (a b : List UInt8), Op.bytesLess a b = false → Op.bytesLess b a = false → a = b
  | [], [], _, _ => rfl
  | [], _ :: _, h, _ => by simp [Op.bytesLess] at h
  | _ :: _, [], _, h => by simp [Op.bytesLess] at h
  | x :: a, y :: b, h1, h2 => by
    simp only [Op.bytesLess, Bool.or_eq_false_iff, decide_eq_false_iff_not, Bool.and_eq_false_iff] at h1 h2
    have hxy : x = y := by
      apply UInt8.toNat_inj.1
      have e1 : ¬ x.toNat < y.toNat := h1.1
      have e2 : ¬ y.toNat < x.toNat := h2.1
      omega
    subst hxy
    rw [less_tot a b (by simpa using h1.2) (by simpa using h2.2)]
def cmpV (u v : Val) : Int :=
  if u.k < v.k then -1 else if v.k < u.k then 1 else if u.n < v.n then -1 else if v.n < u.n then 1
  else if Op.bytesLess u.s.toList v.s.toList = true then -1 else if Op.bytesLess v.s.toList u.s.toList = true then 1 else 0
theorem cmpV_self (u : Val) : cmpV u u = 0 := by unfold cmpV; simp [less_self]
theorem cmpV_zero {u v : Val} (h : cmpV u v = 0) : u = v := by
  unfold cmpV at h
  repeat' split at h
  all_goals first | omega | skip
  rename_i h1 h2 h3 h4 h5 h6
  have e : u.s.toList = v.s.toList := less_tot _ _ (by simpa using h5) (by simpa using h6)
  have e2 : u.s = v.s := by
    apply ByteArray.ext
    apply Array.ext'
    rw [← ByteArray.toList_eq, ← ByteArray.toList_eq, e]
  obtain ⟨uk, un, us⟩ := u
  obtain ⟨vk, vn, vs⟩ := v
  simp only at h1 h2 h3 h4 e2
  obtain rfl : uk = vk := by omega
  obtain rfl : un = vn := by omega
  rw [e2]
theorem rcmpU_g (u v : Val) : Gives Tryz.prog 119 [u.av, v.av] (.int (cmpV u v)) := by
  obtain ⟨R, hR⟩ : ∃ R, cmpV u v = R := ⟨_, rfl⟩
  rw [hR]
  unfold cmpV at hR
  refine qm Tryz.func119 Tryz.ntmps119 rfl rfl (by decide) rfl (by intro n; simp) fun σ n0 hcl hft => ?_
  repeat' (first | ((first | ((with_reducible refine qp (fun hg => ?_) (fun hg => ?_)) <;> (try simp only [hg]) <;> (try simp only [gS] at hg) <;> (try (first | simp only [eq_false hg, gI] | simp only [eq_true hg, gI]))) | (with_reducible first | refine qc ?_ | refine qb ?_ | refine qj ?_ | refine qi ?_) | refine qe ?_ | refine qk ?_ | refine qh ?_ | refine qo ?_) <;> (try simp (disch := first | omega | simp) [qg, -qq, -qu])) | ((with_reducible refine sideT ?_ ?_); first | omega | assumption | (simp; done)) | (refine qf fun K hK => ?_) | (refine qa ?_) | refine ql ?_ | ((first | refine hK _ ?_ | (clear hK K; refine hK _ ?_) | (clear hK K; clear hK K; refine hK _ ?_)); clear hK K) | refine qd ?_)
  all_goals (clear hcl hft; first
    | (simp_all; done)
    | (rename_i hl
       have h6 : Op.bytesLess v.s.toList u.s.toList = true := by
         cases hh : Op.bytesLess v.s.toList u.s.toList with
         | true => rfl
         | false => rw [less_tot _ _ hl hh, less_self] at hg; simp at hg
       rw [← hR, if_neg (by assumption), if_neg (by assumption), if_neg (by assumption), if_neg (by assumption), if_neg (by simp [hl]), if_pos h6]))
theorem first_ne : ∀ {a b : List Val}, a.length = b.length → a ≠ b → ∃ i, ∃ ha : i < a.length, ∃ hb : i < b.length, a[i] ≠ b[i] ∧ ∀ j (hj : j < i), a[j]'(by omega) = b[j]'(by omega)
  | [], [], _, h => absurd rfl h
  | [], _ :: _, h, _ => by simp at h
  | _ :: _, [], h, _ => by simp at h
  | x :: a, y :: b, hl, hn => by
    by_cases h : x = y
    · subst h
      obtain ⟨i, h1, h2, h3, h4⟩ := first_ne (a := a) (b := b) (by simpa using hl) (fun e => hn (by rw [e]))
      exact ⟨i + 1, by simpa using h1, by simpa using h2, by simpa using h3, fun j hj => by
        cases j with
        | zero => rfl
        | succ j => simpa using h4 j (by omega)⟩
    · exact ⟨0, by simp, by simp, h, fun j hj => absurd hj (Nat.not_lt_zero _)⟩
theorem rsame_ne (a b : List Val) (hL : a.length ≤ 1000000) (hl : a.length = b.length) (hne : a ≠ b) : Gives Tryz.prog 29 [.sl (a.map Val.av), .sl (b.map Val.av)] (.bool false) := by
  obtain ⟨i, ha, hb, h1, h2⟩ := first_ne hl hne
  have hc0 : cmpV a[i] b[i] ≠ 0 := fun e => h1 (cmpV_zero e)
  have key : Gives Tryz.prog 63 [.sl (a.map Val.av), .sl (b.map Val.av)] (.int (cmpV a[i] b[i])) := by
    refine qm Tryz.func63 Tryz.ntmps63 rfl rfl (by decide) rfl (by intro n; simp) fun σ n0 hcl hft => ?_
    repeat' (first | ((first | ((with_reducible refine qp (fun hg => ?_) (fun hg => ?_)) <;> (try simp only [hg]) <;> (try simp only [gS] at hg) <;> (try (first | simp only [eq_false hg, gI] | simp only [eq_true hg, gI]))) | (with_reducible first | refine qc ?_ | refine qb ?_ | refine qj ?_ | refine qi ?_) | refine qe ?_ | refine qk ?_ | refine qh ?_ | refine qo ?_) <;> (try simp (disch := first | omega | simp) [qg, -qq, -qu])) | ((with_reducible refine sideT ?_ ?_); first | omega | assumption | (simp; done)) | (refine qf fun K hK => ?_) | (refine qa ?_) | refine ql ?_ | ((first | refine hK _ ?_ | (clear hK K; refine hK _ ?_) | (clear hK K; clear hK K; refine hK _ ?_)); clear hK K) | refine qd ?_)
    refine qbr hcl (fun k : Nat => [(0, .sl (a.map Val.av)), (1, .sl (b.map Val.av)), (5, .int k)]) (fun _ => [])
      (fun k => k ≤ i) (fun k => a.length - k) 0 (by simp) (by simp) fun k hk => ?_
    have hka : k < a.length := by omega
    have hkb : k < b.length := by omega
    by_cases hki : k < i
    · have c1 := rcmpU_g a[k] b[k]
      rw [h2 k hki, cmpV_self] at c1
      have e := h2 k hki
      repeat' (first | ((first | ((with_reducible refine qp (fun hg => ?_) (fun hg => ?_)) <;> (try simp only [hg]) <;> (try simp only [gS] at hg) <;> (try (first | simp only [eq_false hg, gI] | simp only [eq_true hg, gI]))) | (with_reducible first | refine qc ?_ | refine qb ?_ | refine qj ?_ | refine qi ?_) | refine acall (c1) ?_ | refine qn (c1) ?_ | refine qe ?_ | refine qk ?_ | refine qh ?_ | refine qo ?_) <;> (try simp (disch := first | omega | simp) [qg, -qq, -qu, hka, hkb, e])) | ((with_reducible refine sideT ?_ ?_); first | omega | assumption | (simp; done)) | (refine qf fun K hK => ?_) | (refine qa ?_) | refine ql ?_ | ((first | refine hK _ ?_ | (clear hK K; refine hK _ ?_) | (clear hK K; clear hK K; refine hK _ ?_)); clear hK K) | refine qd ?_)
      exact ⟨k + 1, by omega, by omega, by simp⟩
    · obtain rfl : k = i := by omega
      have c1 := rcmpU_g a[k] b[k]
      have hc1 : (cmpV a[k] b[k] != 0) = true := by simpa using hc0
      repeat' (first | ((first | ((with_reducible refine qp (fun hg => ?_) (fun hg => ?_)) <;> (try simp only [hg]) <;> (try simp only [gS] at hg) <;> (try (first | simp only [eq_false hg, gI] | simp only [eq_true hg, gI]))) | (with_reducible first | refine qc ?_ | refine qb ?_ | refine qj ?_ | refine qi ?_) | refine acall (c1) ?_ | refine qn (c1) ?_ | refine qe ?_ | refine qk ?_ | refine qh ?_ | refine qo ?_) <;> (try simp (disch := first | omega | simp) [qg, -qq, -qu, hka, hkb, hc1])) | ((with_reducible refine sideT ?_ ?_); first | omega | assumption | (simp; done)) | (refine qf fun K hK => ?_) | (refine qa ?_) | refine ql ?_ | ((first | refine hK _ ?_ | (clear hK K; refine hK _ ?_) | (clear hK K; clear hK K; refine hK _ ?_)); clear hK K) | refine qd ?_)
  have hc2 : (cmpV a[i] b[i] == 0) = false := by simpa using hc0
  refine qm Tryz.func29 Tryz.ntmps29 rfl rfl (by decide) rfl (by intro n; simp) fun σ n0 hcl hft => ?_
  repeat' (first | ((first | ((with_reducible refine qp (fun hg => ?_) (fun hg => ?_)) <;> (try simp only [hg]) <;> (try simp only [gS] at hg) <;> (try (first | simp only [eq_false hg, gI] | simp only [eq_true hg, gI]))) | (with_reducible first | refine qc ?_ | refine qb ?_ | refine qj ?_ | refine qi ?_) | refine acall (key) ?_ | refine qn (key) ?_ | refine qe ?_ | refine qk ?_ | refine qh ?_ | refine qo ?_) <;> (try simp (disch := first | omega | simp) [qg, -qq, -qu, hc2])) | ((with_reducible refine sideT ?_ ?_); first | omega | assumption | (simp; done)) | (refine qf fun K hK => ?_) | (refine qa ?_) | refine ql ?_ | ((first | refine hK _ ?_ | (clear hK K; refine hK _ ?_) | (clear hK K; clear hK K; refine hK _ ?_)); clear hK K) | refine qd ?_)
end Go.Proofs.YtbkkjlcclddpdaaGreatDoor

/- Walk of the law LensLossless. -/
namespace Go.Proofs.YtbkkjlcclddpdaaGreatDoor
open Go.RowKit Go.Lib
theorem smallX_all {l : List Lens} (h : ∀ x ∈ l, qcb x ∧ x.value.s.size ≤ 210) (hi : ∀ x ∈ l, i64 x.value.n) : ∀ x ∈ l, qdv x := fun x hx => ⟨(h x hx).1, hi x hx, by have := (h x hx).2; omega⟩
set_option maxRecDepth 4000 in
set_option maxHeartbeats 8000000 in
theorem lensLossless_g (l : List Lens) (cols : List Col) (row : List Val) (hlv : ∀ x ∈ l, i64 x.value.n) (hrv : ∀ v ∈ row, i64 v.n) : Gives Tryz.prog 6 [.sl (l.map Lens.av), .sl (cols.map Col.av), .sl (row.map Val.av)] (.bool true) := by
  have c0 := small14_g
  have c1 := suits_g14 l cols row
  cases hs : suitsL l cols row with
  | false =>
    rw [hs] at c1
    refine qm Tryz.func6 Tryz.ntmps6 rfl rfl (by decide) rfl (by intro n; simp) fun σ n0 hcl hft => ?_
    repeat' (first | ((first | ((with_reducible refine qp (fun hg => ?_) (fun hg => ?_)) <;> (try simp only [hg]) <;> (try simp only [gS] at hg) <;> (try (first | simp only [eq_false hg, gI] | simp only [eq_true hg, gI]))) | (with_reducible first | refine qc ?_ | refine qb ?_ | refine qj ?_ | refine qi ?_) | refine acall (c0) ?_ | refine qn (c0) ?_ | refine acall (c1) ?_ | refine qn (c1) ?_ | refine qe ?_ | refine qk ?_ | refine qh ?_ | refine qo ?_) <;> (try simp (disch := first | omega | simp) [qg, -qq, -qu])) | ((with_reducible refine sideT ?_ ?_); first | omega | assumption | (simp; done)) | (refine qf fun K hK => ?_) | (refine qa ?_) | refine ql ?_ | ((first | refine hK _ ?_ | (clear hK K; refine hK _ ?_) | (clear hK K; clear hK K; refine hK _ ?_)); clear hK K) | refine qd ?_)
  | true =>
    rw [hs] at c1
    obtain ⟨ss, H⟩ := suits_of hs
    obtain ⟨hc, hc0⟩ := H.chain
    have hsx := smallX_all H.small hlv
    have hl20 := H.l20
    have h0 := H.shape.l0
    have h1 := H.shape.l1
    have hS0 : qdc (shAt ss 0) := by rw [hc0]; exact H.shape
    have hF0 : FitOk row (shAt ss 0) := by rw [hc0]; exact H.fit
    have hlen := H.fit.len
    have hsr := qgf H.fit hrv
    have hrl1 : row.length ≤ 12 := by omega
    rcases lost_cases l ss 0 with ⟨e1, e2⟩ | ⟨k, hk, R, e1, e2, e3⟩
    · have c2 := lossless_g H.ss hsx h0 h1 _ e1
      obtain ⟨F, hF⟩ : ∃ F, qeg l ss row = F := ⟨_, rfl⟩
      have hFs : qbw F ∧ F.length = (shAt ss l.length).length := by
        have := fwdK_ok hc hsx hsr (by rw [hc0]; exact hlen) _ (Nat.le_refl _)
        rw [fwdK_all, hF] at this
        exact ⟨this.2, this.1⟩
      have hB : qfo l ss F = row := by rw [← hF]; exact keepL_all hc.ok hS0 hF0 hsr hsx e2
      have c3 := qes H.ss hsx h0 h1 hsr hlen F hF
      have c4 := back_g H.ss hsx h0 h1 hFs.1 hFs.2 row hB
      have c5 := rsame03_g row (by omega)
      refine qm Tryz.func6 Tryz.ntmps6 rfl rfl (by decide) rfl (by intro n; simp) fun σ n0 hcl hft => ?_
      repeat' (first | ((first | ((with_reducible refine qp (fun hg => ?_) (fun hg => ?_)) <;> (try simp only [hg]) <;> (try simp only [gS] at hg) <;> (try (first | simp only [eq_false hg, gI] | simp only [eq_true hg, gI]))) | (with_reducible first | refine qc ?_ | refine qb ?_ | refine qj ?_ | refine qi ?_) | refine acall (c0) ?_ | refine qn (c0) ?_ | refine acall (c1) ?_ | refine qn (c1) ?_ | refine acall (c2) ?_ | refine qn (c2) ?_ | refine acall (c3) ?_ | refine qn (c3) ?_ | refine acall (c4) ?_ | refine qn (c4) ?_ | refine acall (c5) ?_ | refine qn (c5) ?_ | refine qe ?_ | refine qk ?_ | refine qh ?_ | refine qo ?_) <;> (try simp (disch := first | omega | simp) [qg, -qq, -qu])) | ((with_reducible refine sideT ?_ ?_); first | omega | assumption | (simp; done)) | (refine qf fun K hK => ?_) | (refine qa ?_) | refine ql ?_ | ((first | refine hK _ ?_ | (clear hK K; refine hK _ ?_) | (clear hK K; clear hK K; refine hK _ ?_)); clear hK K) | refine qd ?_)
    · rw [Nat.zero_add] at e1
      have c2 := lossless_g H.ss hsx h0 h1 _ e1
      have happ : qv (l.take k ++ l.drop k) cols = (ss, 0) := by rw [List.take_append_drop]; exact H.pure
      obtain ⟨s1, s2, q1, q2, q3, q4⟩ := shapes_app _ _ happ
      have htl : (l.take k).length = k := by rw [List.length_take]; omega
      rw [htl] at q2 q3
      have hx : l[k] ∈ l := List.getElem_mem hk
      obtain ⟨B, hB⟩ : ∃ B, shAt ss k = B := ⟨_, rfl⟩
      have hBs : shAt s1 k = B := by rw [← q3 k (Nat.le_refl _), hB]
      have hBr : qdc B := by rw [← hB]; exact qff hc hS0 k (by omega)
      obtain ⟨g1, g2⟩ := hc.ok k hk
      rw [hB] at g1 g2 e2
      rw [hBs, List.drop_eq_getElem_cons hk] at q2
      have hone := shapes_one q2
      obtain ⟨r1, r2, r3⟩ := lostS_step hBr g1 (hlv _ hx) e2
      have hrs := qgf r1 r2
      have htx : ∀ x ∈ l.take k, qdv x := fun x hx => hsx x (List.mem_of_mem_take hx)
      have c3 := to_g (l.take k) cols (fun x hx => (htx x hx).l) (by omega) h0 h1
      rw [toP_of q1 (by omega), htl, hBs] at c3
      have hlt : lostP (l.take k) s1 0 = (true, 0, []) := by
        rcases lost_cases (l.take k) s1 0 with ⟨w1, -⟩ | ⟨m, hm, R2, -, w2, -⟩
        · exact w1
        · exfalso
          rw [htl] at hm
          rw [List.getElem_take, ← q3 m (by omega), e3 m hm] at w2
          cases w2
      have c4 := lossless_g (shapes2_of q1 (by omega)) htx h0 h1 _ hlt
      have c5 := fits_gU R B (by have := hBr.l1; omega)
      rw [fits_iff.2 ⟨r1, hBr.l1⟩] at c5
      have hxa : ∀ y ∈ [l[k]], qdv y := fun y hy => by rw [List.mem_singleton] at hy; subst hy; exact hsx _ hx
      obtain ⟨F, hF⟩ : ∃ F, fwdP l[k] B R = F := ⟨_, rfl⟩
      have hFl : F.length = (oneP l[k] B).1.length := by rw [← hF]; exact fwd_len g1 r1.len
      have hFs : qbw F := by rw [← hF]; exact fwd_small (hsx _ hx) g1 r1.len hrs
      obtain ⟨Z, hZ⟩ : ∃ Z, bckP l[k] B F = Z := ⟨_, rfl⟩
      have hZl : Z.length = R.length := by rw [← hZ, bck_len g1 hFl, r1.len]
      have hZn : Z ≠ R := by rw [← hZ, ← hF]; exact r3
      have c6 := qes hone hxa hBr.l0 hBr.l1 hrs r1.len F hF
      have c7 := back_g hone hxa hBr.l0 hBr.l1 hFs hFl Z hZ
      have hRl : R.length ≤ 12 := by have := r1.len; have := hBr.l1; omega
      have c8 := rsame_ne Z R (by omega) hZl hZn
      have n1 : ¬ (k : Int) < 0 := by omega
      have n2 : ¬ (l.length : Int) ≤ k := by omega
      have n3 : ((k : Int)).toNat = k := by omega
      have n4 : k ≤ l.length := by omega
      simp only [List.map_cons, List.map_nil, List.map_take] at c3 c4 c6 c7
      refine qm Tryz.func6 Tryz.ntmps6 rfl rfl (by decide) rfl (by intro n; simp) fun σ n0 hcl hft => ?_
      repeat' (first | ((first | ((with_reducible refine qp (fun hg => ?_) (fun hg => ?_)) <;> (try simp only [hg]) <;> (try simp only [gS] at hg) <;> (try (first | simp only [eq_false hg, gI] | simp only [eq_true hg, gI]))) | (with_reducible first | refine qc ?_ | refine qb ?_ | refine qj ?_ | refine qi ?_) | refine acall (c0) ?_ | refine qn (c0) ?_ | refine acall (c1) ?_ | refine qn (c1) ?_ | refine acall (c2) ?_ | refine qn (c2) ?_ | refine acall (c3) ?_ | refine qn (c3) ?_ | refine acall (c4) ?_ | refine qn (c4) ?_ | refine acall (c5) ?_ | refine qn (c5) ?_ | refine acall (c6) ?_ | refine qn (c6) ?_ | refine acall (c7) ?_ | refine qn (c7) ?_ | refine acall (c8) ?_ | refine qn (c8) ?_ | refine qe ?_ | refine qk ?_ | refine qh ?_ | refine qo ?_) <;> (try simp (disch := first | omega | simp) [qg, -qq, -qu, n1, n2, n3, n4, hk])) | ((with_reducible refine sideT ?_ ?_); first | omega | assumption | (simp; done)) | (refine qf fun K hK => ?_) | (refine qa ?_) | refine ql ?_ | ((first | refine hK _ ?_ | (clear hK K; refine hK _ ?_) | (clear hK K; clear hK K; refine hK _ ?_)); clear hK K) | refine qd ?_)
end Go.Proofs.YtbkkjlcclddpdaaGreatDoor

/- The law LensLossless, lifted: the row and the tied card. (Printed by gen_lift14.py.) -/
namespace Go.Proofs.YtbkkjlcclddpdaaGreatDoor
open Go.ChangeShapes Go.WideShapes Go.ChangeAt Go.RowKit Go.Lib
set_option maxRecDepth 100000 in
theorem lensLossless_lifted (os : Os) (started : os.Started) (H : Type) (enc : TypeId × Value → H) :
    ReturnsInHanded {} Tryz.checked os 6 .any (fun w args => (Rows.lensLosslessSpec.pre enc Tryz.prog Tryz.f6 Rows.lensLosslessRow.domain false w args ∧ laidMetH Tryz.prog Rows.lensLosslessRow.laid w) ∧ sizedMet enc Tryz.prog Tryz.f6 (OpenSpec.ofChange Rows.lensLosslessSpec) false w args)
      (Rows.lensLosslessSpec.post enc Tryz.prog Tryz.f6 false true false false) := by
  refine qdh (C := Tryz.checked) (X := fun w _ => laidMetH Tryz.prog Rows.lensLosslessRow.laid w) Tryz.own started (by kernel_rfl) Tryz.func6
    (ChangeSpec.witness_shaped (enc := enc) (C := Tryz.checked) (os := os) (X := fun w _ => laidMetH Tryz.prog Rows.lensLosslessRow.laid w) false (World.laidAll Tryz.prog os Rows.lensLosslessRow.laid) #[.slice .none 0 0, .slice .none 0 0, .slice .none 0 0] 8 (World.laidAll_os _ _ _)
      (World.shaped_of_ZipB (by kernel_rfl) (by kernel_rfl)) (by kernel_rfl) (by kernel_rfl) (by kernel_rfl)
      (by rw [MakeChecks.laidMetH_plain _ _ _ (by kernel_rfl)]; exact laidMet_laidAll _ (by kernel_rfl) (by kernel_rfl)))
    (fun w w' us hh hX => by rw [MakeChecks.laidMetH_plain _ _ _ (by kernel_rfl)] at hX ⊢; exact laidMet.of_heap hh hX) ?_
  intro W base args ds gs before hval0 hW _ hsh hlaid
  rw [MakeChecks.laidMetH_plain _ _ _ (by kernel_rfl)] at hlaid
  have hglob := glob14 hsh hlaid (by simp [Rows.lensLosslessRow]) (by simp [Rows.lensLosslessRow]) (by simp [Rows.lensLosslessRow])
  have hval : ∀ (j : Nat) t v, Tryz.f6.params[j]? = some t → args[j]? = some v → Value.okWide Tryz.prog W .any base t v := hval0
  have hW' := hW
  obtain ⟨p, q, hA0, hV, rfl, hfz, hnd⟩ := hW
  have hA : DataW.TrodAll enc Tryz.prog W 0 (fun _ => true) true Tryz.f6.params.toList args.toList ds p := hA0
  rw [Tryz.params6] at hA hval
  obtain ⟨v0, v1, v2, d0, d1, d2, p0, p1, p2, rfl, rfl, rfl, h0, h1, h2⟩ := trodAll_3_02 hA
  obtain ⟨rfl, rfl⟩ := trodVars_none hV
  obtain ⟨x0, n0, r0⟩ := par_lens (hval 0 _ v0 rfl rfl) h0
  obtain ⟨x1, r1⟩ := par_sl Tryz.underlying35 (hval 1 _ v1 rfl rfl) h1 trods_cols
  obtain ⟨x2, n2, r2⟩ := par_vals (hval 2 _ v2 rfl rfl) h2
  refine (qfw (vals := [v0, v1, v2]) (lensLossless_g x0 x1 x2 (fun y hy => (n0 y hy).2) n2) ⟨_, _, rfl, Lens.flats r0, _, _, rfl, Col.flats r1, _, _, rfl, Val.flats r2, rfl⟩ hglob).mono ?_
  rintro r W' ⟨rfl, hb⟩
  exact ⟨_, rfl, law_post (P := Tryz.prog) Tryz.laidOut hW' rfl rfl (by kernel_rfl) Tryz.underlying4 (by kernel_rfl) hb⟩
theorem lensLossless_row : Rows.LensLosslessSaid :=
  OpenClaim.holds_of_wide 6 Tryz.f6 rfl rfl rfl rfl rfl rfl rfl ⟨rfl, rfl, rfl, rfl, rfl⟩ rfl rfl rfl rfl rfl (by kernel_rfl) Tryz.func6 (by kernel_rfl)
    (of_decide_eq_true (by kernel_rfl)) (by unfold Func.isWrapper; first | (rw [if_pos (by decide +kernel)]; kernel_rfl) | (rw [if_neg (by decide +kernel)]; exact ⟨rfl, rfl⟩))
    (fun os started H enc _ => lensLossless_lifted os started H enc)
theorem lensLossless_holds : Rows.LensLosslessCardSaid :=
  Claim7.holds_tied_plain_at .later [] [.data, .data, .data, .sentinel, .sentinel] true (true, "37ee94979087aae3786833705abdfdda4f29bf2bd51485dabcfa75dee9ddd430") true lensLossless_row (fun _ h => by cases h) (by kernel_rfl) (fun _ h => by cases h) lensLossless_row_tie rfl ⟨rfl, rfl⟩ (by kernel_rfl) rfl
    (fun f fn hf hfn => by
      obtain rfl : f = 6 := Option.some.inj ((show Tryz.prog.funcNamed "errata/erratalaw14.LensLossless" = some 6 by kernel_rfl).symm.trans hf) |>.symm
      obtain rfl : fn = Tryz.f6 := (Option.some.inj (Tryz.func6.symm.trans hfn)).symm
      exact ⟨by kernel_rfl, fun j t ht => by
        rw [Tryz.params6] at ht
        have hm : t ∈ [22, 35, 36] := by simpa using Array.mem_of_getElem? ht
        have hall : ([22, 35, 36].all fun u => !Tryz.prog.wantsStandIn u) = true := by kernel_rfl
        exact (show Tryz.prog.wantsStandIn t = false by simpa using List.all_eq_true.1 hall t hm)⟩)
    (by kernel_rfl)
end Go.Proofs.YtbkkjlcclddpdaaGreatDoor
