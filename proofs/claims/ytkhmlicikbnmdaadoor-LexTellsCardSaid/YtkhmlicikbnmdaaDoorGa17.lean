/- Contracts of the library: strconv, strings. -/
import Derived.Scope
import Derived.Test.YtkhmlicikbnmdaaDoorGa10
import Derived.Test.YtkhmlicikbnmdaaDoorGa12
import Derived.Test.YtkhmlicikbnmdaaDoorGa15
import Derived.Test.YtkhmlicikbnmdaaDoorGa16
set_option linter.unusedSimpArgs false
set_option linter.unusedVariables false
namespace Go.Proofs.YtkhmlicikbnmdaaDoor
open Go.RowKit Go.Lib

theorem ba_eq {s : ByteArray} {l : List UInt8} (h : s.data.toList = l) : s = bytesA l := by rw [← h, bytesA_eq]
theorem gives_ofS {P : Program} {f : FuncId} {args : List AV} {x : AV} (h : ∀ X vals, SR X → RRl X args vals → Calls P f vals.toArray X.w fun r w' => Ext X.w w' ∧ ∃ v, r = .returned v ∧ RR (X.later w') x v) : Gives P f args x := by
  intro σ X vals nx hS hσ hfin ha
  refine (h X vals hS ha).mono ?_
  rintro r w' ⟨hE, v, rfl, hR⟩
  exact ⟨X.later w', v, x, rfl, rfl, ⟨rfl, hσ⟩, later_sr hS hE, later_fr hS hE, hR⟩
theorem arg_vv {X : St} {x v : Value} (h : RR1 X (.v x) v) : v = x := by
  change RC X (.v x) [v] at h
  rw [RC] at h
  simpa using h
theorem tab10 {X : St} (hS : SR X) : Lib.TabIs Tryd.prog X.w "internal/strconv.uint64pow10" .u64 Lib.pow10Tab := by
  obtain ⟨-, ⟨-, -, ⟨t, fz, h⟩, -⟩, -⟩ := hS.glob
  unfold Lib.TabIs World.var?
  rw [show Tryd.prog.globalNamed "internal/strconv.uint64pow10" = some 3 by kernel_rfl]
  show (match X.w.heap[3]? with | some (.cells cs _ _) => some cs | _ => none) = _
  rw [h]
theorem tab10E {X : St} (hS : SR X) {w' : World} (hE : Ext X.w w') : Lib.TabIs Tryd.prog w' "internal/strconv.uint64pow10" .u64 Lib.pow10Tab := by
  obtain ⟨-, ⟨-, -, ⟨t, fz, h⟩, -⟩, -⟩ := hS.glob
  unfold Lib.TabIs World.var?
  rw [show Tryd.prog.globalNamed "internal/strconv.uint64pow10" = some 3 by kernel_rfl]
  show (match w'.heap[3]? with | some (.cells cs _ _) => some cs | _ => none) = _
  rw [hE.block 3 (Array.getElem?_eq_some_iff.1 h).1, h]
theorem itoa_g (n : Int) (h : i64 n) : Gives Tryd.prog 55 [.int n] (.str (bytesA (itoa n))) :=
  gives_ofS fun X vals hS ha => by
    obtain ⟨v0, _, rfl, h2, h4⟩ := ha
    cases h4
    cases arg_vv h2
    refine (Tryd.strconv_Itoa n h.1 h.2 X.w (tab10 hS)).mono ?_
    rintro e w' ⟨rfl, k, os, rfl⟩
    refine ⟨?_, _, rfl, RR.v.2 rfl⟩
    exact ⟨rfl, rfl, rfl, by show X.w.heap.size ≤ (X.w.heap ++ os).size; simp, fun b hb => by
      show (X.w.heap ++ os)[b]? = _
      rw [Array.getElem?_append_left hb]⟩
theorem grow_ext {w : World} (k : Nat) (os : Array Obj) : Ext w (Go.Sort.grow (w.drewN k) os) := ⟨rfl, rfl, rfl, by show w.heap.size ≤ (w.heap ++ os).size; simp, fun b hb => by
  show (w.heap ++ os)[b]? = _
  rw [Array.getElem?_append_left hb]⟩
theorem format_g (n : Int) (h : i64 n) : Gives Tryd.prog 54 [.int n, .int 10] (.str (bytesA (itoa n))) :=
  gives_ofS fun X vals hS ha => by
    obtain ⟨v0, _, rfl, h2, v1, _, rfl, h3, h4⟩ := ha
    cases h4
    cases arg_vv h2; cases arg_vv h3
    refine (Tryd.strconv_FormatInt_10 n h.1 h.2 X.w (tab10 hS)).mono ?_
    rintro e w' ⟨rfl, k, os, rfl⟩
    exact ⟨grow_ext k os, _, rfl, RR.v.2 rfl⟩
theorem indexByte_g (s : ByteArray) (c : Int) : Gives Tryd.prog 52 [.str s, .v (.int .u8 c)] (.int (Lib.indexByte s.data.toList c.toNat.toUInt8)) :=
  gives_ofS fun X vals hS ha => by
    obtain ⟨v0, _, rfl, h2, v1, _, rfl, h3, h4⟩ := ha
    cases h4
    cases arg_vv h2; cases arg_vv h3
    refine (Tryd.strings_IndexByte s c X.w).mono ?_
    rintro e w' ⟨rfl, rfl⟩
    exact ⟨Ext.refl _, _, rfl, RR.v.2 rfl⟩
theorem trimSuffix_g (s p : ByteArray) (hs : s.size ≤ 9223372036854775807) : Gives Tryd.prog 45 [.str s, .str p] (.str (bytesA (Lib.trimSuffix s.data.toList p.data.toList))) :=
  gives_ofS fun X vals hS ha => by
    obtain ⟨v0, _, rfl, h2, v1, _, rfl, h3, h4⟩ := ha
    cases h4
    cases arg_vv h2; cases arg_vv h3
    refine (Tryd.strings_TrimSuffix s p X.w hs).mono ?_
    rintro e w' ⟨rfl, rfl⟩
    exact ⟨Ext.refl _, _, rfl, RR.v.2 rfl⟩
theorem decimal_g (n : Int) (h : i64 n) : Gives Tryd.prog 21 [.int n] (.str (bytesA (itoa n))) := by
  refine gives_of_awp Tryd.func21 Tryd.ntmps21 rfl rfl (by decide) rfl (by intro n; simp) fun σ n0 hcl hft => ?_
  repeat' (first | ((with_reducible refine aguard (fun hg => ?_) (fun hg => ?_)) <;> (try simp only [hg]) <;> (try simp only [beq_iff_eq, beq_eq_false_iff_ne, ne_eq, decide_eq_true_eq, decide_eq_false_iff_not, bne_iff_ne, bne_eq_false_iff_eq] at hg) <;> (try (first | simp only [eq_false hg, if_true, if_false] | simp only [eq_true hg, if_true, if_false])) <;> (try simp (disch := first | omega | simp) [wrap_i64, -aseqC, -anyC])) | (with_reducible refine aseq_step ?_; try simp (disch := first | omega | simp) [wrap_i64, -aseqC, -anyC]) | (with_reducible refine any_step' ?_; try simp (disch := first | omega | simp) [wrap_i64, -aseqC, -anyC]) | (with_reducible refine aseq_end ?_; try simp (disch := first | omega | simp) [wrap_i64, -aseqC, -anyC]) | (with_reducible refine any_end' ?_; try simp (disch := first | omega | simp) [wrap_i64, -aseqC, -anyC]) | ((first | with_reducible refine sideG ?_ ?_ | with_reducible refine sideG2 ?_ ?_ | with_reducible refine sideS ?_ ?_ | with_reducible refine sideS2 ?_ ?_ | with_reducible refine sideS3 ?_ ?_ | with_reducible refine sideA ?_ ?_ | with_reducible refine sideA2 ?_ ?_ | with_reducible refine sideA3 ?_ ?_); (first | omega | assumption | (simp; done))) | (refine acall (itoa_g n h) ?_; try simp (disch := first | omega | simp) [wrap_i64, -aseqC, -anyC]) | (refine agives (itoa_g n h) ?_; try simp (disch := first | omega | simp) [wrap_i64, -aseqC, -anyC]) | (refine acallAt (itoa_g n h) ?_; try simp (disch := first | omega | simp) [wrap_i64, -aseqC, -anyC]) | (refine awp_seq_k fun K hK => ?_) | (refine awp_regionC ?_) | (refine awp_anyA true (by kernel_rfl) (by kernel_rfl) ?_) | (refine awp_anyA false (by kernel_rfl) (by kernel_rfl) ?_) | (refine hK _ ?_; clear hK; clear K) | (clear hK; clear K; refine hK _ ?_; clear hK; clear K) | (clear hK; clear K; clear hK; clear K; refine hK _ ?_; clear hK; clear K) | refine awp_block ?_ | (refine awp_condC ?_; simp (disch := first | omega | simp) [wrap_i64, -aseqC, -anyC]) | (refine awp_exit ?_; try simp (disch := first | omega | simp) [wrap_i64, -aseqC, -anyC]) | (refine awp_skip ?_; try simp (disch := first | omega | simp) [wrap_i64, -aseqC, -anyC]) | (refine awp_ret ?_; try simp (disch := first | omega | simp) [wrap_i64, -aseqC, -anyC]))
/- text.Int, at the world as it is -/
theorem err_cell {X : St} (hS : SR X) : (∃ ev, X.w.cell? ⟨1, 0, none⟩ = some ev ∧ (ev = .nilIface ∨ ∃ te pe, ev = .iface te pe)) ∧ ∃ ev, X.w.cell? ⟨2, 0, none⟩ = some ev ∧ (ev = .nilIface ∨ ∃ te pe, ev = .iface te pe) := by
  obtain ⟨-, -, ⟨m1, h1, -⟩, ⟨m2, h2, -⟩, -⟩ := hS.glob
  exact ⟨⟨m1.1, h1.1, m1.2⟩, ⟨m2.1, h2.1, m2.2⟩⟩
theorem bytesWorld_ext (w : World) (e : TypeId) (t : ByteArray) : Ext w (Lib.bytesWorld w e t) := by
  unfold Lib.bytesWorld
  exact Lib.below_freeze ((Ext.refl w).drew.alloc _) (p := ⟨w.heap.size, _, none⟩) (Nat.le_refl _) _
set_option maxHeartbeats 1000000 in
theorem int_g (s : ByteArray) (hs : s.size ≤ 1000000) : Gives Tryd.prog 20 [.str s] (.tup [.int ((intP s.data.toList).getD 0), .bool (intP s.data.toList).isSome]) :=
  gives_ofS fun X vals hS ha => by
    obtain ⟨v0, _, rfl, h2, h4⟩ := ha
    cases h4
    cases arg_vv h2
    obtain ⟨⟨e1, hc1, he1⟩, e2, hc2, he2⟩ := err_cell hS
    have ht := tab10 hS
    have fin : ∀ (r : Option Int) (w' : World), Ext X.w w' → Ext X.w w' ∧ ∃ v, Ending.returned (.tuple #[.int .i64 (r.getD 0), .bool r.isSome]) = .returned v ∧ RR (X.later w') (.tup [.int (r.getD 0), .bool r.isSome]) v := fun r w' hE =>
      ⟨hE, _, rfl, [_, _], rfl, _, _, rfl, RR1.of_one rfl (by rw [RC]), _, _, rfl, RR1.of_one rfl (by rw [RC]), rfl⟩
    have hE0 := Ext.refl X.w
    cases hp : Lib.parseIntB 64 s.data.toList
    · rename_i v
      have hv := parse_i64 hp
      have hr : intP s.data.toList = if itoa v = s.data.toList then some v else none := by unfold intP; rw [hp]
      by_cases hi : itoa v = s.data.toList
      · rw [if_pos hi] at hr
        rw [hr]
        have hi2 : (⟨(itoa v).toArray⟩ : ByteArray).toList = s.toList := by rw [ByteArray.toList_eq, ByteArray.toList_eq]; exact hi
        go_enter Tryd.func20, Tryd.ntmps20
        go_wp2_with (go_at_call 53; refine (Tryd.strconv_ParseInt_10_at64_ok s (by omega) v hp _).mono ?_)
        rintro e w1 ⟨rfl, hw1⟩
        have hE1 : Ext X.w w1 := by
          rcases hw1 with rfl | ⟨t, rfl⟩
          · exact Ext.refl _
          · exact bytesWorld_ext _ _ _
        go_wp2_with (go_at_call 54; refine (Tryd.strconv_FormatInt_10 v hv.1 hv.2 _ (tab10E hS hE1)).mono ?_)
        rintro e w2 ⟨rfl, k, os, rfl⟩
        have hE2 : Ext X.w (Go.Sort.grow (w1.drewN k) os) := hE1.trans (grow_ext k os)
        go_wp2
        go_ret2
        exact fin (some v) _ hE2
      · rw [if_neg hi] at hr
        rw [hr]
        have hi2 : (itoa v == s.toList) = false := by rw [ByteArray.toList_eq, beq_eq_false_iff_ne]; exact hi
        have hi3 : ¬ itoa v = s.toList := by rw [ByteArray.toList_eq]; exact hi
        go_enter Tryd.func20, Tryd.ntmps20
        go_wp2_with (go_at_call 53; refine (Tryd.strconv_ParseInt_10_at64_ok s (by omega) v hp _).mono ?_)
        rintro e w1 ⟨rfl, hw1⟩
        have hE1 : Ext X.w w1 := by
          rcases hw1 with rfl | ⟨t, rfl⟩
          · exact Ext.refl _
          · exact bytesWorld_ext _ _ _
        go_wp2_with (go_at_call 54; refine (Tryd.strconv_FormatInt_10 v hv.1 hv.2 _ (tab10E hS hE1)).mono ?_)
        rintro e w2 ⟨rfl, k, os, rfl⟩
        have hE2 : Ext X.w (Go.Sort.grow (w1.drewN k) os) := hE1.trans (grow_ext k os)
        go_wp2
        go_ret2
        exact fin none _ hE2
    · have hr : intP s.data.toList = none := by unfold intP; rw [hp]
      rw [hr]
      go_enter Tryd.func20, Tryd.ntmps20
      go_wp2_with (go_at_call 53; refine (Tryd.strconv_ParseInt_10_at64_syntax s (by omega) hp e1 _ hc1 he1).mono ?_)
      rintro e w1 ⟨N, rfl, -, -, hE1⟩
      go_wp2
      go_ret2
      exact fin none _ hE1
    · have hr : intP s.data.toList = none := by unfold intP; rw [hp]
      rw [hr]
      go_enter Tryd.func20, Tryd.ntmps20
      go_wp2_with (go_at_call 53; refine (Tryd.strconv_ParseInt_10_at64_range s (by omega) hp e2 _ hc2 he2).mono ?_)
      rintro e w1 ⟨N, rfl, -, -, hE1⟩
      go_wp2
      go_ret2
      exact fin none _ hE1
end Go.Proofs.YtkhmlicikbnmdaaDoor

/- Labels; a slice literal that the call may write (and then freeze, and let grow): regions in text order in which each literal is one. -/
namespace Go.Proofs.YtkhmlicikbnmdaaDoor
open Go.RowKit Go.Lib

theorem awp_label {P : Program} {id : Nat} {Q : Exit → AS → Prop} {s : AS} (h : Q .normal s) : awp P (.label id) Q s := fun _ _ _ hc => wp_label ⟨s, h, hc⟩
def ANoGoto (Q : Exit → AS → Prop) : Exit → AS → Prop
  | .goto _, _ => False
  | e, s => Q e s
theorem awp_scope {P : Program} {c : Code} {Q : Exit → AS → Prop} {s : AS} (h : awp P c (ANoGoto Q) s) : awp P (.scope c) Q s := fun X0 a w hc =>
  wp_scope_straight (wp_mono (h X0 a w hc) fun e a' w' ⟨s', q, hc'⟩ => by
    cases e with
    | normal => exact ⟨s', q, hc'⟩
    | exit id => exact ⟨s', q, hc'⟩
    | goto l => exact q.elim
    | ret => exact ⟨s', q, hc'⟩
    | panic c => exact ⟨s', q, hc'⟩
    | outgrown => exact ⟨s', q, hc'⟩)
attribute [simp] ANoGoto
section
variable {P : Program} {ev : Operand → AV} {σ : Nat → AB}
theorem fop_litVec {t e : TypeId} {ps : List (Nat × Operand)} {n sz by_ r : Nat} (ht : vinfo P t = some (e, sz, by_)) (hn : n = ps.length) (hsm : n * sz ≤ 16777216) (hb : bldS sz 0 (ps.map fun p => (p.1, ev p.2))) (hw : AV.wid (ps.map fun p => (ev p.2).pub) sz) :
    FOp P ev σ (.buildSlice t n ps.toArray) (.own r n) (some (r, .vec (ps.map fun p => (ev p.2).pub) e sz)) := by
  intro X a oper hop hS hsub hev hnb Q
  have hu0 := hnb r _ rfl
  obtain ⟨hu, i, z, hi, hz, rfl, rfl, hzs, hsz0, hby0, hz1⟩ := vinfo_spec ht
  subst hn
  obtain ⟨c, h2, h3⟩ := bldS_run (X := X) (sz := i.size) (k := 0) (l := []) (xs := []) (vs := ps.map fun p => (p.1, a.eval p.2)) (cells := (Array.range (ps.length * i.size)).map ((if ps.length * i.size = 0 then #[] else z.cells)[· % (if ps.length * i.size = 0 then #[] else z.cells).size]!)) (by simp) (fun j p q hj hq => by
    rw [List.getElem?_map] at hj hq
    cases hp : ps[j]? with
    | none => rw [hp] at hj; cases hj
    | some p0 =>
      rw [hp] at hj hq
      cases hj; cases hq
      exact hev _ (by simp [Op.operands]; exact ⟨_, List.mem_of_getElem? hp⟩)) hb (by simp) rfl (by simp) (by simp)
  have hrun : (execOp a.eval oper).run P X.w = .ok (.value (.slice (some ⟨X.w.heap.size, 0, none⟩) ps.length ps.length)) (X.w.alloc (.cells c e)) := by
    have hbig : ¬ (2 ^ 24 < ps.length * i.size) := by omega
    have hul : (underlying t).run P X.w = .ok (.slice e) X.w := run_underlying hu X.w
    have hsz : (sizeOf e).run P X.w = .ok i.size X.w := by simp [sizeOf, typeInfo, hi]
    have hzv : (zeroValue e).run P X.w = .ok z X.w := by simp [zeroValue, typeInfo, hi, hz]
    have hps : (ps.toArray.map fun (p : Nat × Operand) => (p.1, a.eval p.2)).toList = ps.map fun p => (p.1, a.eval p.2) := by simp
    have key : (Instr.buildSlice t ps.length (ps.toArray.map fun (p : Nat × Operand) => (p.1, a.eval p.2))).run P X.w = .ok (.slice (some ⟨X.w.heap.size, 0, none⟩) ps.length ps.length) (X.w.alloc (.cells c e)) := by
      unfold Instr.buildSlice
      rw [Sem.run_bind, hul, Result.andThen_ok, Sem.run_bind, hsz, Result.andThen_ok]
      dsimp only
      rw [if_neg (by simpa using hbig)]
      by_cases h0 : ps.length * i.size = 0
      · rw [if_pos h0] at h2
        rw [if_pos h0, hps]
        simp only [Sem.run_bind, Sem.run_pure, Result.andThen_ok]
        rw [h2]
        simp [newRow]
      · rw [if_neg h0] at h2
        rw [if_neg h0, hps]
        simp only [Sem.run_bind, Sem.run_pure, Result.andThen_ok, hzv]
        rw [h2]
        simp [newRow]
    simp only [execOp, hop]
    rw [Sem.run_bind, key]; rfl
  have hlen : (ps.map fun p => (ev p.2).pub).length = ps.length := by simp
  have hv : (AB.vec (ps.map fun p => (ev p.2).pub) e i.size).blk (.slice (some ⟨X.w.heap.size, 0, none⟩) ps.length ps.length) = some X.w.heap.size := rfl
  have hF := born_fr hS (cs := c) (t := e) hu0 hv
  rw [List.nil_append, List.map_map] at h3
  have h3' : RCs X (ps.map fun p => (ev p.2).pub) c.toList := h3
  have hcl := RCs.len h3' hw
  rw [hlen] at hcl
  have hnl := Nat.le_mul_of_pos_right ps.length hsz0
  refine wp_value hrun ⟨_, X.born r _ c e (.slice (some ⟨X.w.heap.size, 0, none⟩) ps.length ps.length), rfl, rfl, born_sr hS hu0 hv ?_, hF, ?_, rfl⟩
  · refine ⟨hw, c.toList, ⟨by rw [hlen]; exact hcl, .inr ⟨X.w.heap.size, ps.length, c, by rw [hlen], Nat.zero_le _, heap_alloc_new X.w _, by rw [hlen]; exact Nat.le_refl _, by unfold maxLen; omega, by rw [← hcl]; simp, by rw [hlen, ← hcl, List.take_length]⟩⟩, h3'.fr hF⟩
  · show RC _ (.own r _) [_]
    rw [RC]
    refine ⟨by simp [St.born, upd], _, rfl, rfl, fun l e2 s2 hl => ?_⟩
    simp [St.born, upd] at hl
    obtain ⟨rfl, rfl, rfl⟩ := hl
    exact ⟨by simp, fun _ => by simp [St.born, upd]⟩
end
def aevL (P : Program) (s : AS) (o : Op) (K : AV → AS → Prop) : Prop :=
  match o with
  | .buildSlice t n ⟨p :: ps⟩ => match vinfo P t with
    | some (e, sz, _) => n = (p :: ps).length ∧ n * sz ≤ 16777216 ∧ bldS sz 0 ((p :: ps).map fun p => (p.1, s.eval p.2)) ∧ AV.wid ((p :: ps).map fun p => (s.eval p.2).pub) sz ∧ K (.own s.nx n) (s.ext (some (.vec ((p :: ps).map fun p => (s.eval p.2).pub) e sz)))
    | none => False
  | o => aev P s o K
theorem aevL_sound {P : Program} {s : AS} {o : Op} {K : AV → AS → Prop} (h : aevL P s o K) : EOp P s o K := by
  unfold aevL at h
  split at h
  · split at h
    · exact eop_fun (nb := some _) (fop_litVec ‹_› h.1 h.2.1 h.2.2.1 h.2.2.2.1) h.2.2.2.2
    · exact h.elim
  · exact aev_sound h
def aseqL (P : Program) (ops : Array Oper) (K : AS → Prop) : List Oper → AS → Prop
  | [], s => K s
  | o :: l, s => match awant ops o s.t with
    | some b => AGuard b (aevL P s o.op (fun x s1 => dstOk o.dst s1.n ∧ aseqL P ops K l (s1.put o.dst x))) (dstOk o.dst s.n ∧ aseqL P ops K l (s.put o.dst (.v undef)))
    | none => False
theorem aseqL_sound {P : Program} {ops : Array Oper} {K : AS → Prop} : ∀ {l : List Oper} {s : AS}, aseqL P ops K l s → aseq P ops K l s
  | [], _, h => h
  | o :: l, s, h => by
    rw [aseqL] at h
    rw [aseq]
    split at h
    · rename_i b hb
      cases b with
      | true => exact ⟨true, hb, (aevL_sound (h.1 rfl)).mono fun x s1 ⟨h1, h2⟩ => ⟨h1, aseqL_sound h2⟩⟩
      | false => exact ⟨false, hb, (h.2 rfl).1, aseqL_sound (h.2 rfl).2⟩
    · exact h.elim
theorem awp_regionL {P : Program} {s : AS} {id : Nat} {l : List Oper} {Q : Exit → AS → Prop} (h : aseqL P l.toArray (Q .normal) l s) : awp P (.region id l.toArray false) Q s := awp_region (aseqL_sound h)
theorem aseqL_step {P : Program} {ops : Array Oper} {K : AS → Prop} {o : Oper} {l : List Oper} {s : AS} (h : match awant ops o s.t with
    | some b => AGuard b (aevL P s o.op (fun x s1 => dstOk o.dst s1.n ∧ aseqL P ops K l (s1.put o.dst x))) (dstOk o.dst s.n ∧ aseqL P ops K l (s.put o.dst (.v undef)))
    | none => False) : aseqL P ops K (o :: l) s := h
theorem aseqL_end {P : Program} {ops : Array Oper} {K : AS → Prop} {s : AS} (h : K s) : aseqL P ops K [] s := h
attribute [simp] aevL aseqL
end Go.Proofs.YtkhmlicikbnmdaaDoor
