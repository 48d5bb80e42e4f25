/- Labels; a slice literal that the call may write (and then freeze, and let grow): regions in text order in which each literal is one. -/
import Derived.Scope
import Derived.Test.YtkhmlicikbnmdaaDoorGa10
set_option linter.unusedSimpArgs false
set_option linter.unusedVariables false
namespace Go.Proofs.YtkhmlicikbnmdaaDoor
open Go.RowKit Go.Lib

theorem awp_label {P : Program} {id : Nat} {Q : Exit → AS → Prop} {s : AS} (h : Q .normal s) : awp P (.label id) Q s := fun _ _ _ hc => wp_label ⟨s, h, hc⟩
def ANoGoto (Q : Exit → AS → Prop) : Exit → AS → Prop
  | .goto _, _ => False
  | e, s => Q e s
theorem awp_scope {P : Program} {c : Code} {Q : Exit → AS → Prop} {s : AS} (h : awp P c (ANoGoto Q) s) : awp P (.scope c) Q s := fun X0 a w hc =>
  wp_scope_straight (wp_mono (h X0 a w hc) fun e a' w' ⟨s', q, hc'⟩ => by
    cases e with
    | normal => exact ⟨s', q, hc'⟩
    | exit id => exact ⟨s', q, hc'⟩
    | goto l => exact q.elim
    | ret => exact ⟨s', q, hc'⟩
    | panic c => exact ⟨s', q, hc'⟩
    | outgrown => exact ⟨s', q, hc'⟩)
attribute [simp] ANoGoto
section
variable {P : Program} {ev : Operand → AV} {σ : Nat → AB}
theorem fop_litVec {t e : TypeId} {ps : List (Nat × Operand)} {n sz by_ r : Nat} (ht : vinfo P t = some (e, sz, by_)) (hn : n = ps.length) (hsm : n * sz ≤ 16777216) (hb : bldS sz 0 (ps.map fun p => (p.1, ev p.2))) (hw : AV.wid (ps.map fun p => (ev p.2).pub) sz) :
    FOp P ev σ (.buildSlice t n ps.toArray) (.own r n) (some (r, .vec (ps.map fun p => (ev p.2).pub) e sz)) := by
  intro X a oper hop hS hsub hev hnb Q
  have hu0 := hnb r _ rfl
  obtain ⟨hu, i, z, hi, hz, rfl, rfl, hzs, hsz0, hby0, hz1⟩ := vinfo_spec ht
  subst hn
  obtain ⟨c, h2, h3⟩ := bldS_run (X := X) (sz := i.size) (k := 0) (l := []) (xs := []) (vs := ps.map fun p => (p.1, a.eval p.2)) (cells := (Array.range (ps.length * i.size)).map ((if ps.length * i.size = 0 then #[] else z.cells)[· % (if ps.length * i.size = 0 then #[] else z.cells).size]!)) (by simp) (fun j p q hj hq => by
    rw [List.getElem?_map] at hj hq
    cases hp : ps[j]? with
    | none => rw [hp] at hj; cases hj
    | some p0 =>
      rw [hp] at hj hq
      cases hj; cases hq
      exact hev _ (by simp [Op.operands]; exact ⟨_, List.mem_of_getElem? hp⟩)) hb (by simp) rfl (by simp) (by simp)
  have hrun : (execOp a.eval oper).run P X.w = .ok (.value (.slice (some ⟨X.w.heap.size, 0, none⟩) ps.length ps.length)) (X.w.alloc (.cells c e)) := by
    have hbig : ¬ (2 ^ 24 < ps.length * i.size) := by omega
    have hul : (underlying t).run P X.w = .ok (.slice e) X.w := run_underlying hu X.w
    have hsz : (sizeOf e).run P X.w = .ok i.size X.w := by simp [sizeOf, typeInfo, hi]
    have hzv : (zeroValue e).run P X.w = .ok z X.w := by simp [zeroValue, typeInfo, hi, hz]
    have hps : (ps.toArray.map fun (p : Nat × Operand) => (p.1, a.eval p.2)).toList = ps.map fun p => (p.1, a.eval p.2) := by simp
    have key : (Instr.buildSlice t ps.length (ps.toArray.map fun (p : Nat × Operand) => (p.1, a.eval p.2))).run P X.w = .ok (.slice (some ⟨X.w.heap.size, 0, none⟩) ps.length ps.length) (X.w.alloc (.cells c e)) := by
      unfold Instr.buildSlice
      rw [Sem.run_bind, hul, Result.andThen_ok, Sem.run_bind, hsz, Result.andThen_ok]
      dsimp only
      rw [if_neg (by simpa using hbig)]
      by_cases h0 : ps.length * i.size = 0
      · rw [if_pos h0] at h2
        rw [if_pos h0, hps]
        simp only [Sem.run_bind, Sem.run_pure, Result.andThen_ok]
        rw [h2]
        simp [newRow]
      · rw [if_neg h0] at h2
        rw [if_neg h0, hps]
        simp only [Sem.run_bind, Sem.run_pure, Result.andThen_ok, hzv]
        rw [h2]
        simp [newRow]
    simp only [execOp, hop]
    rw [Sem.run_bind, key]; rfl
  have hlen : (ps.map fun p => (ev p.2).pub).length = ps.length := by simp
  have hv : (AB.vec (ps.map fun p => (ev p.2).pub) e i.size).blk (.slice (some ⟨X.w.heap.size, 0, none⟩) ps.length ps.length) = some X.w.heap.size := rfl
  have hF := born_fr hS (cs := c) (t := e) hu0 hv
  rw [List.nil_append, List.map_map] at h3
  have h3' : RCs X (ps.map fun p => (ev p.2).pub) c.toList := h3
  have hcl := RCs.len h3' hw
  rw [hlen] at hcl
  have hnl := Nat.le_mul_of_pos_right ps.length hsz0
  refine wp_value hrun ⟨_, X.born r _ c e (.slice (some ⟨X.w.heap.size, 0, none⟩) ps.length ps.length), rfl, rfl, born_sr hS hu0 hv ?_, hF, ?_, rfl⟩
  · refine ⟨hw, c.toList, ⟨by rw [hlen]; exact hcl, .inr ⟨X.w.heap.size, ps.length, c, by rw [hlen], Nat.zero_le _, heap_alloc_new X.w _, by rw [hlen]; exact Nat.le_refl _, by unfold maxLen; omega, by rw [← hcl]; simp, by rw [hlen, ← hcl, List.take_length]⟩⟩, h3'.fr hF⟩
  · show RC _ (.own r _) [_]
    rw [RC]
    refine ⟨by simp [St.born, upd], _, rfl, rfl, fun l e2 s2 hl => ?_⟩
    simp [St.born, upd] at hl
    obtain ⟨rfl, rfl, rfl⟩ := hl
    exact ⟨by simp, fun _ => by simp [St.born, upd]⟩
end
def aevL (P : Program) (s : AS) (o : Op) (K : AV → AS → Prop) : Prop :=
  match o with
  | .buildSlice t n ⟨p :: ps⟩ => match vinfo P t with
    | some (e, sz, _) => n = (p :: ps).length ∧ n * sz ≤ 16777216 ∧ bldS sz 0 ((p :: ps).map fun p => (p.1, s.eval p.2)) ∧ AV.wid ((p :: ps).map fun p => (s.eval p.2).pub) sz ∧ K (.own s.nx n) (s.ext (some (.vec ((p :: ps).map fun p => (s.eval p.2).pub) e sz)))
    | none => False
  | o => aev P s o K
theorem aevL_sound {P : Program} {s : AS} {o : Op} {K : AV → AS → Prop} (h : aevL P s o K) : EOp P s o K := by
  unfold aevL at h
  split at h
  · split at h
    · exact eop_fun (nb := some _) (fop_litVec ‹_› h.1 h.2.1 h.2.2.1 h.2.2.2.1) h.2.2.2.2
    · exact h.elim
  · exact aev_sound h
def aseqL (P : Program) (ops : Array Oper) (K : AS → Prop) : List Oper → AS → Prop
  | [], s => K s
  | o :: l, s => match awant ops o s.t with
    | some b => AGuard b (aevL P s o.op (fun x s1 => dstOk o.dst s1.n ∧ aseqL P ops K l (s1.put o.dst x))) (dstOk o.dst s.n ∧ aseqL P ops K l (s.put o.dst (.v undef)))
    | none => False
theorem aseqL_sound {P : Program} {ops : Array Oper} {K : AS → Prop} : ∀ {l : List Oper} {s : AS}, aseqL P ops K l s → aseq P ops K l s
  | [], _, h => h
  | o :: l, s, h => by
    rw [aseqL] at h
    rw [aseq]
    split at h
    · rename_i b hb
      cases b with
      | true => exact ⟨true, hb, (aevL_sound (h.1 rfl)).mono fun x s1 ⟨h1, h2⟩ => ⟨h1, aseqL_sound h2⟩⟩
      | false => exact ⟨false, hb, (h.2 rfl).1, aseqL_sound (h.2 rfl).2⟩
    · exact h.elim
theorem awp_regionL {P : Program} {s : AS} {id : Nat} {l : List Oper} {Q : Exit → AS → Prop} (h : aseqL P l.toArray (Q .normal) l s) : awp P (.region id l.toArray false) Q s := awp_region (aseqL_sound h)
theorem aseqL_step {P : Program} {ops : Array Oper} {K : AS → Prop} {o : Oper} {l : List Oper} {s : AS} (h : match awant ops o s.t with
    | some b => AGuard b (aevL P s o.op (fun x s1 => dstOk o.dst s1.n ∧ aseqL P ops K l (s1.put o.dst x))) (dstOk o.dst s.n ∧ aseqL P ops K l (s.put o.dst (.v undef)))
    | none => False) : aseqL P ops K (o :: l) s := h
theorem aseqL_end {P : Program} {ops : Array Oper} {K : AS → Prop} {s : AS} (h : K s) : aseqL P ops K [] s := h
attribute [simp] aevL aseqL
end Go.Proofs.YtkhmlicikbnmdaaDoor
