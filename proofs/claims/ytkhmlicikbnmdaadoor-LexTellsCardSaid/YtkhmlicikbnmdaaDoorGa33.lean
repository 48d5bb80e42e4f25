/- What the row's variables hold at a law's entry: MaxLen, ErrSyntax, ErrRange, the table of powers of ten. -/
import Derived.Test.YtkhmlicikbnmdaaDoorCards
import Derived.Test.YtkhmlicikbnmdaaDoorTie
import Derived.SevenTiedAt
import Derived.Stop.Joined
import Derived.Lib.LaidU8
import Derived.HandedShaped
import Derived.Lay
import Derived.LaidMore
import Derived.Test.YtkhmlicikbnmdaaDoorGa2
import Derived.Test.YtkhmlicikbnmdaaDoorGa10
import Derived.Test.YtkhmlicikbnmdaaDoorGa16
set_option linter.unusedSimpArgs false
set_option linter.unusedVariables false
namespace Go.Proofs.YtkhmlicikbnmdaaDoor
open Go.ChangeShapes Go.WideShapes Go.ChangeAt Go.RowKit Go.Lib

theorem iface_of_trod {H : Type} {enc : TypeId × Value → H} {P : Program} {w : World} {base : Nat} {sp : Nat → Bool} {held : Bool} {fuel : Nat} {t : TypeId} {cs : List Value} {d : DataW H} {p : List MemPlace} (hu : (match P.underlying t with | some (.interface _) => true | _ => false) = true)
    (h : DataW.trod enc P w base sp held fuel t cs = some (d, p)) : ∃ x, cs = [x] ∧ (x = .nilIface ∨ ∃ te pe, x = .iface te pe) := by
  cases fuel with
  | zero => simp [DataW.trod] at h
  | succ fuel =>
    cases hu' : P.underlying t with
    | none => rw [hu'] at hu; cases hu
    | some u =>
      rw [hu'] at hu
      cases u <;> first | (cases hu; done) | skip
      simp only [DataW.trod, hu'] at h
      match cs, h with
      | [], h => simp at h
      | [x], h => cases x <;> first | exact ⟨_, rfl, .inl rfl⟩ | exact ⟨_, rfl, .inr ⟨_, _, rfl⟩⟩ | (simp at h; done)
      | _ :: _ :: _, h => simp at h
theorem var_block {P : Program} {w : World} {n : String} {g : Nat} {cs : Array Value} (hg : P.globalNamed n = some g) (h : w.var? P n = some cs) : ∃ t fz, w.heap[g]? = some (.cells cs t fz) := by
  unfold World.var? at h
  rw [hg] at h
  dsimp only [Option.bind] at h
  split at h
  · rename_i cs' t fz he
    cases h
    exact ⟨t, fz, he⟩
  · cases h
theorem globS_flat {w : World} {b : Nat} {cs : List Value} (h : ∃ t fz, w.heap[b]? = some (.cells cs.toArray t fz)) (hne : cs ≠ []) : GlobS (St.flat w) b 0 cs := by
  obtain ⟨t, fz, hb⟩ := h
  refine ⟨cellsS_of _ 0 fun j u hj => ⟨?_, ?_⟩, ⟨t, fz, hb⟩, (fun r hr => by cases hr), hne⟩
  · show World.cell? w _ = _
    simp [World.cell?, hb, hj]
  · exact (Array.getElem?_eq_some_iff.1 hb).1
theorem glob02 {W : World} {laid : List (String × DataW Unit)} (h : W.ShapedOpen Tryd.prog) (hl : laidMet Tryd.prog laid W)
    (h1 : ("strconv.ErrSyntax", Rows.laid_strconv_ErrSyntax) ∈ laid) (h2 : ("strconv.ErrRange", Rows.laid_strconv_ErrRange) ∈ laid) (h3 : ("internal/strconv.uint64pow10", Rows.laid_internal_strconv_uint64pow10) ∈ laid) : globsOk (GlobS (St.flat W)) := by
  obtain ⟨cs, hh, hs, hr⟩ := h.1 0 #[.int .i64 0] 3 (of_decide_eq_true (by kernel_rfl)) (by kernel_rfl)
  obtain ⟨m, hm⟩ := cell_of_shapedOpen_int (P := Tryd.prog) (g := 0) (zero := #[.int .i64 0]) (t := 3) h (of_decide_eq_true (by kernel_rfl)) (by kernel_rfl) rfl (by kernel_rfl) (by kernel_rfl) Tryd.underlying3
  have hc0 : cs = #[.int .i64 m] := by
    simp only [World.cell?, hh] at hm
    refine Array.ext (by simpa using hs) fun i h1 h2 => ?_
    have : i = 0 := by simp at h2; omega
    subst this
    simpa [Array.getElem?_eq_getElem h1] using hm
  subst hc0
  obtain ⟨g1, t1, c1, f1, p1, a1, b1, d1, e1⟩ := laidMet.reads hl h1
  obtain ⟨g2, t2, c2, f2, p2, a2, b2, d2, e2⟩ := laidMet.reads hl h2
  obtain ⟨g3, t3, c3, f3, p3, a3, b3, d3, e3⟩ := laidMet.reads hl h3
  obtain rfl : g1 = 1 := Option.some.inj (a1.symm.trans (by kernel_rfl))
  obtain rfl : g2 = 2 := Option.some.inj (a2.symm.trans (by kernel_rfl))
  obtain rfl : g3 = 3 := Option.some.inj (a3.symm.trans (by kernel_rfl))
  obtain rfl : t1 = 56 := Option.some.inj (b1.symm.trans (by kernel_rfl))
  obtain rfl : t2 = 56 := Option.some.inj (b2.symm.trans (by kernel_rfl))
  obtain rfl : t3 = 120 := Option.some.inj (b3.symm.trans (by kernel_rfl))
  obtain ⟨x1, y1, z1⟩ := iface_of_trod (by kernel_rfl) e1
  obtain ⟨x2, y2, z2⟩ := iface_of_trod (by kernel_rfl) e2
  have y3 := cells_of_tab (zs := Lib.pow10Tab) (k := .u64) (n := 20) (e := 101) Tryd.underlying120 Tryd.underlying101 (by kernel_rfl) (by kernel_rfl) e3
  refine ⟨⟨m, globS_flat ⟨_, _, hh⟩ (by simp)⟩, ⟨(), globS_flat ?_ (by simp [Lib.pow10Tab])⟩, ⟨⟨x1, z1⟩, globS_flat ?_ (by simp)⟩, ⟨⟨x2, z2⟩, globS_flat ?_ (by simp)⟩, trivial⟩
  · obtain ⟨t, fz, hb⟩ := var_block a3 d3
    refine ⟨t, fz, ?_⟩
    rw [hb, ← y3]
  · obtain ⟨t, fz, hb⟩ := var_block a1 d1
    refine ⟨t, fz, ?_⟩
    rw [hb, ← y1]
  · obtain ⟨t, fz, hb⟩ := var_block a2 d2
    refine ⟨t, fz, ?_⟩
    rw [hb, ← y2]
end Go.Proofs.YtkhmlicikbnmdaaDoor

/- The arguments' readings at a law's entry. -/
namespace Go.Proofs.YtkhmlicikbnmdaaDoor
open Go.ChangeShapes Go.WideShapes Go.ChangeAt Go.RowKit Go.Lib

section
variable {H : Type} {enc : TypeId × Value → H}
theorem returnsInHanded_three {a : Assume} {C : Checked} {os : Os} {f : FuncId} {fn : Func} {s : ChangeSpec} {conds : List PathCond} {apart fresh handsOn again : Bool} {X : World → Array Value → Prop}
    (own : ownKnob C.prog.godebug = none) (started : os.Started) (noInit : C.prog.inits.idxOf? f = none) (hfn : C.prog.funcs[f]? = some fn)
    (witness : ∃ (w : World) (tape : Tape) (i : Input), w.os = os ∧ (w.forCall tape i).Shaped C.prog ∧ i.vars = [] ∧ Input.okWide C.prog (w.forCall tape i) .any w.heap.size f i ∧
      ((s.pre enc C.prog fn conds apart (w.forCall tape i).memory i.args ∧ X (w.forCall tape i).memory i.args) ∧ sizedMet enc C.prog fn (OpenSpec.ofChange s) apart (w.forCall tape i).memory i.args) ∧ a.holds C.prog (lone (Frame.enter C.prog f i.args .normal) [] (w.forCall tape i)))
    (hXh : ∀ (w w' : World) (us : Array Value), w.heap = w'.heap → X w us → X w' us)
    (contract : ∀ (W : World) (base : Nat) (args : Array Value) (ds gs : List (DataW H)) (before : List MemPlace),
      (∀ (j : Nat) t v, fn.params[j]? = some t → args[j]? = some v → Value.okWide C.prog W .any base t v) →
      DataW.Whole enc C.prog fn.params.toList s.vars apart W args.toList ds gs before →
      conds.all (PathCond.test C.prog ⟨fn.params.toList, ds, s.plain.varTypes C.prog, gs⟩) = true →
      W.ShapedOpen C.prog → X W args →
      Calls C.prog f args W fun e W' => ∃ v, e = .returned v ∧ s.post enc C.prog fn apart fresh handsOn again W args v W') :
    ReturnsInHanded a C os f .any (fun w args => (s.pre enc C.prog fn conds apart w args ∧ X w args) ∧ sizedMet enc C.prog fn (OpenSpec.ofChange s) apart w args) (s.post enc C.prog fn apart fresh handsOn again) := by
  refine returnsInHanded_of_calls own started noInit witness ?_
  intro w tape i _ hsh _ hok hpre hholds
  obtain ⟨_, _, _, fn', hfn', _, _, _, _, hval⟩ := hok
  have e : fn' = fn := Option.some.inj (hfn'.symm.trans hfn)
  subst e
  obtain ⟨⟨⟨ds, gs, before, hw, hc⟩, hX⟩, -⟩ := hpre
  have hw' := DataW.Whole.of_heap (w' := w.forCall tape i) (by rfl) hw
  refine (contract (w.forCall tape i) w.heap.size i.args ds gs before hval hw' hc hsh (hXh _ _ _ (by rfl) hX)).mono fun e W' ⟨v, he, hp⟩ => ?_
  subst he
  exact ChangeSpec.post_blind hp
end

theorem flat_int02 {w : World} {n : Int} : RR1 (St.flat w) (.int n) (.int .i64 n) := by
  show RC _ _ _
  rw [RC]
theorem flat_str02 {w : World} {s : ByteArray} : RR1 (St.flat w) (.str s) (.string s) := by
  show RC _ _ _
  rw [RC]
theorem strs_av (l : List ByteArray) : (D.sl (l.map D.str)).av = .sl (l.map AV.str) := by
  rw [D.av, D.avs_map, List.map_map]; rfl
theorem strs_flat {w : World} {l : List ByteArray} {v : Value} (h : Rd w Any (.sl (l.map D.str)) [v]) : RR1 (St.flat w) (.sl (l.map AV.str)) v := by
  have := flat_rc h
  rw [strs_av] at this
  exact this
section
variable {H : Type} {enc : TypeId × Value → H} {w w0 : World} {sp : Nat → Bool} {hd : Bool} {b0 : Nat} {t : TypeId} {v : Value}
theorem trods_strs (N : Nat) : Trods enc Tryd.prog w sp hd 22 (fun l : List ByteArray => D.sl (l.map D.str)) N := fun n cs x hn h =>
  trods_sl Tryd.underlying22 (sz := 1) (by kernel_rfl) (by omega) (fun _ => rfl) (trods_str Tryd.underlying9 N) n cs x (by omega) h
theorem par_intR {P : Program} (ht : P.underlying t = some (.int .i64)) (hval : Value.okWide P w0 .any b0 t v) : ∃ n, v = .int .i64 n ∧ i64 n := by
  obtain ⟨n, rfl⟩ := okWide_int ht hval
  refine ⟨n, rfl, ?_⟩
  unfold Value.okWide at hval
  rw [ht] at hval
  dsimp only at hval
  unfold Cell.okWide at hval
  rw [ht] at hval
  dsimp only at hval
  unfold Cell.ok at hval
  rw [ht] at hval
  exact ⟨hval.2.1, hval.2.2⟩
end
section
variable {H : Type} {enc : TypeId × Value → H} {P : Program} {w : World} {base : Nat} {spare : Nat → Bool} {held : Bool} {t0 t1 t2 t3 : TypeId} {args : Array Value} {ds : List (DataW H)} {ps : List MemPlace}
theorem trodAll_1_02 (h : DataW.TrodAll enc P w base spare held [t0] args.toList ds ps) :
    ∃ v0 d0 p0, args = #[v0] ∧ ds = [d0] ∧ ps = p0 ∧ DataW.Trod enc P w base spare held t0 v0 d0 p0 := by
  obtain ⟨v0, vs0, d0, ds0, p0, q0, hargs, rfl, rfl, h0, r0⟩ := trodAll_cons h
  obtain ⟨rfl, rfl, rfl⟩ := trodAll_nil r0
  exact ⟨v0, d0, p0, by cases args; simp_all, rfl, by simp, h0⟩
theorem trodAll_2_02 (h : DataW.TrodAll enc P w base spare held [t0, t1] args.toList ds ps) :
    ∃ v0 v1 d0 d1 p0 p1, args = #[v0, v1] ∧ ds = [d0, d1] ∧ ps = p0 ++ p1 ∧ DataW.Trod enc P w base spare held t0 v0 d0 p0 ∧ DataW.Trod enc P w base spare held t1 v1 d1 p1 := by
  obtain ⟨v0, vs0, d0, ds0, p0, q0, hargs, rfl, rfl, h0, r0⟩ := trodAll_cons h
  obtain ⟨v1, vs1, d1, ds1, p1, q1, rfl, rfl, rfl, h1, r1⟩ := trodAll_cons r0
  obtain ⟨rfl, rfl, rfl⟩ := trodAll_nil r1
  exact ⟨v0, v1, d0, d1, p0, p1, by cases args; simp_all, rfl, by simp, h0, h1⟩
theorem trodAll_3_02 (h : DataW.TrodAll enc P w base spare held [t0, t1, t2] args.toList ds ps) :
    ∃ v0 v1 v2 d0 d1 d2 p0 p1 p2, args = #[v0, v1, v2] ∧ ds = [d0, d1, d2] ∧ ps = p0 ++ p1 ++ p2 ∧ DataW.Trod enc P w base spare held t0 v0 d0 p0 ∧ DataW.Trod enc P w base spare held t1 v1 d1 p1 ∧ DataW.Trod enc P w base spare held t2 v2 d2 p2 := by
  obtain ⟨v0, vs0, d0, ds0, p0, q0, hargs, rfl, rfl, h0, r0⟩ := trodAll_cons h
  obtain ⟨v1, vs1, d1, ds1, p1, q1, rfl, rfl, rfl, h1, r1⟩ := trodAll_cons r0
  obtain ⟨v2, vs2, d2, ds2, p2, q2, rfl, rfl, rfl, h2, r2⟩ := trodAll_cons r1
  obtain ⟨rfl, rfl, rfl⟩ := trodAll_nil r2
  exact ⟨v0, v1, v2, d0, d1, d2, p0, p1, p2, by cases args; simp_all, rfl, by simp, h0, h1, h2⟩
theorem trodAll_4_02 (h : DataW.TrodAll enc P w base spare held [t0, t1, t2, t3] args.toList ds ps) :
    ∃ v0 v1 v2 v3 d0 d1 d2 d3 p0 p1 p2 p3, args = #[v0, v1, v2, v3] ∧ ds = [d0, d1, d2, d3] ∧ ps = p0 ++ p1 ++ p2 ++ p3 ∧ DataW.Trod enc P w base spare held t0 v0 d0 p0 ∧ DataW.Trod enc P w base spare held t1 v1 d1 p1 ∧ DataW.Trod enc P w base spare held t2 v2 d2 p2 ∧ DataW.Trod enc P w base spare held t3 v3 d3 p3 := by
  obtain ⟨v0, vs0, d0, ds0, p0, q0, hargs, rfl, rfl, h0, r0⟩ := trodAll_cons h
  obtain ⟨v1, vs1, d1, ds1, p1, q1, rfl, rfl, rfl, h1, r1⟩ := trodAll_cons r0
  obtain ⟨v2, vs2, d2, ds2, p2, q2, rfl, rfl, rfl, h2, r2⟩ := trodAll_cons r1
  obtain ⟨v3, vs3, d3, ds3, p3, q3, rfl, rfl, rfl, h3, r3⟩ := trodAll_cons r2
  obtain ⟨rfl, rfl, rfl⟩ := trodAll_nil r3
  exact ⟨v0, v1, v2, v3, d0, d1, d2, d3, p0, p1, p2, p3, by cases args; simp_all, rfl, by simp, h0, h1, h2, h3⟩
end
end Go.Proofs.YtkhmlicikbnmdaaDoor
