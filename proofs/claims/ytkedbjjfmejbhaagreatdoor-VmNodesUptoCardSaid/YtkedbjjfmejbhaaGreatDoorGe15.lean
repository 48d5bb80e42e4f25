/- Labels; a slice literal that the call may write (and then freeze, and let grow): regions in text order in which each literal is one. -/
import Derived.Scope
import Derived.Test.YtkedbjjfmejbhaaGreatDoorProg
import Derived.KernelRfl
import Derived.Maps.Own
import Derived.DeepKeys4
import Derived.Test.YtkedbjjfmejbhaaGreatDoorRows
import Derived.Test.YtkedbjjfmejbhaaGreatDoorCards
import Derived.Test.YtkedbjjfmejbhaaGreatDoorTie
import Derived.SevenTiedAt
import Derived.Stop.Joined
import Derived.Lib.LaidU8
import Derived.HandedShaped
import Derived.Lay
import Derived.LaidMore
import Derived.OpenShut
import Derived.WideShapes
import Derived.Laws.Strings
import Derived.Test.YtkedbjjfmejbhaaGreatDoorGe1
import Derived.Test.YtkedbjjfmejbhaaGreatDoorGe3
import Derived.Test.YtkedbjjfmejbhaaGreatDoorGe10
import Derived.Test.YtkedbjjfmejbhaaGreatDoorGe12
import Derived.Test.YtkedbjjfmejbhaaGreatDoorGe14
set_option linter.unusedSimpArgs false
set_option linter.unusedVariables false
namespace Go.Proofs.YtkedbjjfmejbhaaGreatDoor
open Go.RowKit Go.Lib
def qmc1 (Q : Exit -> AS -> Prop) : Exit -> AS -> Prop
 | .goto _, _ => False
 | e, s => Q e s
attribute [simp] qmc1
section
variable {P : Program} {ev : Operand -> AV} {σ : Nat -> AB}
theorem qob {t e : TypeId} {ps : List (Nat × Operand)} {n sz by_ r : Nat} (ht : vinfo P t = some (e, sz, by_)) (hn : n = ps.length) (hsm : n * sz <= 16777216) (hb : bldS sz 0 (ps.map fun p => (p.1, ev p.2))) (hw : AV.wid (ps.map fun p => (ev p.2).pub) sz) :
  FOp P ev σ (.buildSlice t n ps.toArray) (.own r n) (some (r, .vec (ps.map fun p => (ev p.2).pub) e sz)) := by
 intro X a oper hop hS hsub hev hnb Q
 have hu0 := hnb r _ rfl
 obtain ⟨hu, i, z, hi, hz, rfl, rfl, hzs, hsz0, hby0, hz1⟩ := qbr ht
 subst hn
 obtain ⟨c, h2, h3⟩ := qpn (X := X) (sz := i.size) (k := 0) (l := []) (xs := []) (vs := ps.map fun p => (p.1, a.eval p.2)) (cells := (Array.range (ps.length * i.size)).map ((if ps.length * i.size = 0 then #[] else z.cells)[· % (if ps.length * i.size = 0 then #[] else z.cells).size]!)) (by simp) (fun j p q hj hq => by
  rw [List.getElem?_map] at hj hq
  cases hp : ps[j]? with
  | none => rw [hp] at hj; cases hj
  | some p0 =>
   rw [hp] at hj hq
   cases hj; cases hq
   exact hev _ (by simp [Op.operands]; exact ⟨_, List.mem_of_getElem? hp⟩)) hb (by simp) rfl (by simp) (by simp)
 have hrun : (execOp a.eval oper).run P X.w = .ok (.value (.slice (some ⟨X.w.heap.size, 0, none⟩) ps.length ps.length)) (X.w.alloc (.cells c e)) := by
  have hbig : ¬ (2 ^ 24 < ps.length * i.size) := by omega
  have hul : (underlying t).run P X.w = .ok (.slice e) X.w := run_underlying hu X.w
  have hsz : (sizeOf e).run P X.w = .ok i.size X.w := by simp [sizeOf, typeInfo, hi]
  have hzv : (zeroValue e).run P X.w = .ok z X.w := by simp [zeroValue, typeInfo, hi, hz]
  have hps : (ps.toArray.map fun (p : Nat × Operand) => (p.1, a.eval p.2)).toList = ps.map fun p => (p.1, a.eval p.2) := by simp
  have key : (Instr.buildSlice t ps.length (ps.toArray.map fun (p : Nat × Operand) => (p.1, a.eval p.2))).run P X.w = .ok (.slice (some ⟨X.w.heap.size, 0, none⟩) ps.length ps.length) (X.w.alloc (.cells c e)) := by
   unfold Instr.buildSlice
   rw [Sem.run_bind, hul, Result.andThen_ok, Sem.run_bind, hsz, Result.andThen_ok]
   dsimp only
   rw [if_neg (by simpa using hbig)]
   by_cases h0 : ps.length * i.size = 0
   .rw [if_pos h0] at h2
    rw [if_pos h0, hps]
    simp only [Sem.run_bind, Sem.run_pure, Result.andThen_ok]
    rw [h2]
    simp [newRow]
   .rw [if_neg h0] at h2
    rw [if_neg h0, hps]
    simp only [Sem.run_bind, Sem.run_pure, Result.andThen_ok, hzv]
    rw [h2]
    simp [newRow]
  simp only [execOp, hop]
  rw [Sem.run_bind, key]; rfl
 have hlen : (ps.map fun p => (ev p.2).pub).length = ps.length := by simp
 have hv : (AB.vec (ps.map fun p => (ev p.2).pub) e i.size).blk (.slice (some ⟨X.w.heap.size, 0, none⟩) ps.length ps.length) = some X.w.heap.size := rfl
 have hF := qfz hS (cs := c) (t := e) hu0 hv
 rw [List.nil_append, List.map_map] at h3
 have h3' : RCs X (ps.map fun p => (ev p.2).pub) c.toList := h3
 have hcl := RCs.len h3' hw
 rw [hlen] at hcl
 have hnl := Nat.le_mul_of_pos_right ps.length hsz0
 refine qbi hrun ⟨_, X.born r _ c e (.slice (some ⟨X.w.heap.size, 0, none⟩) ps.length ps.length), rfl, rfl, qje hS hu0 hv ?_, hF, ?_, rfl⟩
 .refine ⟨hw, c.toList, ⟨by rw [hlen]; exact hcl, .inr ⟨X.w.heap.size, ps.length, c, by rw [hlen], Nat.zero_le _, heap_alloc_new X.w _, by rw [hlen]; exact Nat.le_refl _, by unfold maxLen; omega, by rw [<- hcl]; simp, by rw [hlen, <- hcl, List.take_length]⟩⟩, h3'.fr hF⟩
 .show RC _ (.own r _) [_]
  rw [RC]
  refine ⟨by simp [St.born, upd], _, rfl, ⟨rfl, fun I h => by simp [St.born, upd] at h⟩, fun l e2 s2 hl => ?_⟩
  simp [St.born, upd] at hl
  obtain ⟨rfl, rfl, rfl⟩ := hl
  exact ⟨by simp, fun _ => by simp [St.born, upd]⟩
end
def aevL (P : Program) (s : AS) (o : Op) (K : AV -> AS -> Prop) : Prop :=
 match o with
 | .buildSlice t n ⟨p :: ps⟩ => match vinfo P t with
  | some (e, sz, _) => n = (p :: ps).length /\ n * sz <= 16777216 /\ bldS sz 0 ((p :: ps).map fun p => (p.1, s.eval p.2)) /\ AV.wid ((p :: ps).map fun p => (s.eval p.2).pub) sz /\ K (.own s.nx n) (s.ext (some (.vec ((p :: ps).map fun p => (s.eval p.2).pub) e sz)))
  | none => False
 | o => aev P s o K
def aseqL (P : Program) (ops : Array Oper) (K : AS -> Prop) : List Oper -> AS -> Prop
 | [], s => K s
 | o :: l, s => match awant ops o s.t with
  | some b => qbm b (aevL P s o.op (fun x s1 => dstOk o.dst s1.n /\ aseqL P ops K l (s1.put o.dst x))) (dstOk o.dst s.n /\ aseqL P ops K l (s.put o.dst (.v undef)))
  | none => False
instance {P : Program} {ops : Array Oper} {K : AS -> Prop} {o : Oper} {l : List Oper} {s : AS} : Stp (aseqL P ops K (o :: l) s) (match awant ops o s.t with
  | some b => qbm b (aevL P s o.op (fun x s1 => dstOk o.dst s1.n /\ aseqL P ops K l (s1.put o.dst x))) (dstOk o.dst s.n /\ aseqL P ops K l (s.put o.dst (.v undef)))
  | none => False) := ⟨fun h => h⟩
instance {P : Program} {ops : Array Oper} {K : AS -> Prop} {s : AS} : Stp (aseqL P ops K [] s) (K s) := ⟨fun h => h⟩
attribute [simp] aevL aseqL
set_option maxHeartbeats 4000000 in
theorem qjp (e : Ex) : levels e <= 1000000 -> Gives Tryz.prog 20 [e.av] (.int (levels e)) := by
 induction e using Ex.ind with | h o m s l ih => ?_
 intro hl
 rw [levels] at hl ⊢
 refine qg Tryz.func20 Tryz.ntmps20 fun σ n0 hcl hft => ?_
 have hfl : l.length <= 9223372036854775807 := by
  simp [AV.fitss, AV.fits] at hft
  exact hft.1
 repeat' (first | (refine Stp.m ?_ <;> try simp (disch := first | omega | simp) [qc, -qe, -qi]) | refine qb fun K hK => ?_ | refine qa ?_ | refine qd ?_ | (refine hK _ ?_; clear hK K))
 refine qk hcl (fun k : Nat => [(1, .ptr n0 0), (3, .int (qp (l.take k) 0)), (4, .int k)]) (fun _ => [.cells [.int o, .int m, .str s, .sl (l.map Ex.av)] 44]) (fun k => k <= l.length) (fun k => l.length - k) 0 (Nat.zero_le _) (by simp [qp]) fun k hk => ?_
 by_cases hlt : k < l.length
 .have c := ih l[k] (List.getElem_mem hlt) (by have := qeh l 0 l[k] (List.getElem_mem hlt); omega)
  have e1 : qp (l.take (k + 1)) 0 = max (qp (l.take k) 0) (levels l[k]) := by rw [List.take_succ_eq_append_getElem hlt, qgg]
  repeat' (first | ((first | refine Stp.m ?_ | refine qh ?_) <;> (try simp (disch := first | omega | simp) [qc, -qe, -qi, hlt])) | refine qb fun K hK => ?_ | refine qa ?_ | refine qd ?_ | (refine hK _ ?_; clear hK K) | clear hK K)
  all_goals refine ⟨k + 1, by omega, by omega, ?_⟩
  all_goals simp only [e1]
  all_goals simp
  all_goals split <;> omega
 .obtain rfl : k = l.length := by omega
  rw [List.take_length]
  have hpos := (qha l 0 0 (by omega) (by omega)).1
  generalize qp l 0 = V at *
  repeat' (first | (refine Stp.m ?_ <;> try simp (disch := first | omega | simp) [qc, -qe, -qi, hlt]) | refine qb fun K hK => ?_ | refine qa ?_ | (refine hK _ ?_; clear hK K) | clear hK K)
theorem qxv (e : Ex) : levels e <= 1000000 -> Gives Tryz.prog 62 [e.av] (.int (levels e)) := by
 induction e using Ex.ind with | h o m s l ih => ?_
 intro hl
 rw [levels] at hl ⊢
 refine qg Tryz.func62 Tryz.ntmps62 fun σ n0 hcl hft => ?_
 have hfl : l.length <= 9223372036854775807 := by
  simp [AV.fitss, AV.fits] at hft
  exact hft.1
 repeat' (first | (refine Stp.m ?_ <;> try simp (disch := first | omega | simp) [qc, -qe, -qi]) | refine qb fun K hK => ?_ | refine qa ?_ | refine qd ?_ | (refine hK _ ?_; clear hK K))
 refine qk hcl (fun k : Nat => [(1, .ptr n0 0), (3, .int (qp (l.take k) 0)), (7, .sl (l.map Ex.av)), (8, .int l.length), (9, .int k)]) (fun _ => [.cells [.int o, .int m, .str s, .sl (l.map Ex.av)] 44]) (fun k => k <= l.length) (fun k => l.length - k) 0 (Nat.zero_le _) (by simp [qp]) fun k hk => ?_
 by_cases hlt : k < l.length
 .have c := ih l[k] (List.getElem_mem hlt) (by have := qeh l 0 l[k] (List.getElem_mem hlt); omega)
  have e1 : qp (l.take (k + 1)) 0 = max (qp (l.take k) 0) (levels l[k]) := by rw [List.take_succ_eq_append_getElem hlt, qgg]
  repeat' (first | ((first | refine Stp.m ?_ | refine qh ?_) <;> (try simp (disch := first | omega | simp) [qc, -qe, -qi, hlt])) | refine qb fun K hK => ?_ | refine qa ?_ | refine qd ?_ | (refine hK _ ?_; clear hK K) | clear hK K)
  all_goals refine ⟨k + 1, by omega, by omega, ?_⟩
  all_goals simp only [e1]
  all_goals simp
  all_goals split <;> omega
 .obtain rfl : k = l.length := by omega
  rw [List.take_length]
  have hpos := (qha l 0 0 (by omega) (by omega)).1
  generalize qp l 0 = V at *
  repeat' (first | (refine Stp.m ?_ <;> try simp (disch := first | omega | simp) [qc, -qe, -qi, hlt]) | refine qb fun K hK => ?_ | refine qa ?_ | (refine hK _ ?_; clear hK K) | clear hK K)
theorem qqx (e : Ex) : parts e <= 1000000 -> Gives Tryz.prog 19 [e.av] (.int (parts e)) := by
 induction e using Ex.ind with | h o m s l ih => ?_
 intro hp
 rw [parts] at hp ⊢
 have hll : l.length <= 1000000 := by have := qbq l; omega
 refine qg Tryz.func19 Tryz.ntmps19 fun σ n0 hcl hft => ?_
 repeat' (first | (refine Stp.m ?_ <;> try simp (disch := first | omega | simp) [qc, -qe, -qi]) | refine qb fun K hK => ?_ | refine qa ?_ | refine qd ?_ | (refine hK _ ?_; clear hK K))
 refine qk hcl (fun k : Nat => [(1, .ptr n0 0), (3, .int (qm (l.take k) + 1 : Nat)), (4, .int k)]) (fun _ => [.cells [.int o, .int m, .str s, .sl (l.map Ex.av)] 44]) (fun k => k <= l.length) (fun k => l.length - k) 0 (Nat.zero_le _) (by simp [qm]) fun k hk => ?_
 have hle := qcw l k
 by_cases hlt : k < l.length
 .have c := ih l[k] (List.getElem_mem hlt) (by have := qbh l l[k] (List.getElem_mem hlt); omega)
  have e1 := qhu l k hlt
  have hle2 := qcw l (k + 1)
  generalize qm (l.take k) = Q at *
  have hb : (Q : Int) + 1 + parts l[k] <= 9223372036854775807 := by omega
  generalize parts l[k] = R at *
  repeat' (first | ((first | refine Stp.m ?_ | refine qh ?_) <;> (try simp (disch := first | omega | simp) [qc, -qe, -qi, hlt])) | refine qb fun K hK => ?_ | refine qa ?_ | refine qd ?_ | (refine hK _ ?_; clear hK K) | clear hK K)
  all_goals exact ⟨k + 1, by omega, by omega, by omega, by omega⟩
 .obtain rfl : k = l.length := by omega
  rw [List.take_length]
  repeat' (first | (refine Stp.m ?_ <;> try simp (disch := first | omega | simp) [qc, -qe, -qi, hlt]) | refine qb fun K hK => ?_ | refine qa ?_ | (refine hK _ ?_; clear hK K) | clear hK K)
theorem qea1 (L : List Int) : (D.sl (L.map D.int)).av = .sl (L.map AV.int) := by
 rw [D.av, D.avs_map, List.map_map]; rfl
theorem Ex.d_av (e : Ex) : e.d.av = e.av := by
 induction e using Ex.ind with | h o n s l ih => ?_
 rw [Ex.d, Ex.ds_map, D.av, Ex.av_mk]
 simp only [D.cs, D.avs_map, List.map_map]
 congr 4
 simp only [List.cons.injEq, AV.sl.injEq, and_true, true_and]
 exact List.map_congr_left fun x hx => ih x hx
theorem Fn.d_av (f : Fn) : f.d.av = f.av := by
 obtain ⟨nm, ps, rs, b⟩ := f
 have h1 := qea1 ps
 have h2 := Ex.d_av b
 cases b with | mk o n s l => ?_
 rw [D.av] at h1
 injection h1 with h1
 have h5 := Ex.av_eq (.mk o n s l)
 rw [Fn.d, D.av]
 rw [Ex.d, D.av, h5] at h2
 injection h2 with h2
 simp only [Ex.d, D.cs, List.append_nil] at h2 ⊢
 rw [h2, h1]
 rfl
theorem arg_v {X : St} {x v : Value} (h : RR1 X (.v x) v) : v = x := by
 have h' : RC X (.v x) [v] := h
 rw [RC] at h'; simpa using h'
theorem qqo1 {X : St} {e : Ex} {v : Value} (h : RR1 X e.av v) : ∃ cs : List Value, v = .agg cs.toArray /\ Rd X.w Any e.d cs := by
 rw [Ex.av_eq] at h
 obtain ⟨cs, rfl, h2⟩ := h
 refine ⟨cs, rfl, qqu e.d cs ?_⟩
 rw [Ex.d_av, Ex.av_eq, RC]; exact h2
theorem qlg1 (L : List Fn) : (D.sl (L.map Fn.d)).av = .sl (L.map Fn.av) := by
 rw [D.av, D.avs_map, List.map_map, List.map_congr_left (f := D.av ∘ Fn.d) (g := Fn.av) fun x _ => x.d_av]
theorem qmf1 {X : St} {L : List Fn} {v : Value} (h : RR1 X (.sl (L.map Fn.av)) v) : Rd X.w Any (.sl (L.map Fn.d)) [v] :=
 qqu _ _ (by rw [qlg1]; exact h)
section
variable {H : Type} {enc : TypeId × Value -> H} {w : World} {sp : Nat -> Bool} {hd : Bool}
theorem qgw1 (N : Nat) : Trods enc Tryz.prog w sp hd 63 Val.d N := by
 intro n cs x hn h
 obtain ⟨xs, m, rfl, -, hlen, hl2, hf⟩ := DataW.trod_struct Tryz.underlying63 h
 have hc : Tryz.prog.cellsOf 63 = 3 := by kernel_rfl
 rw [hc] at hlen
 obtain ⟨y0, h0⟩ := ql 0 3 0 1 hl2 hf ⟨_, rfl, rfl, rfl⟩ (by kernel_rfl)
 obtain ⟨y1, h1⟩ := ql 1 3 1 1 hl2 hf ⟨_, rfl, rfl, rfl⟩ (by kernel_rfl)
 obtain ⟨y2, h2⟩ := ql 2 9 2 1 hl2 hf ⟨_, rfl, rfl, rfl⟩ (by kernel_rfl)
 obtain ⟨a0, r0⟩ := qv Tryz.underlying3 (m + 1) m _ _ (by omega) h0
 obtain ⟨a1, r1⟩ := qv Tryz.underlying3 (m + 1) m _ _ (by omega) h1
 obtain ⟨a2, r2⟩ := qeo Tryz.underlying9 (m + 1) m _ _ (by omega) h2
 exact ⟨⟨a0, a1, a2⟩, rd_st (qs (k := 1) r0 (qs (k := 1) r1 (qs (k := 1) r2 (qgk (by omega)))))⟩
end
end Go.Proofs.YtkedbjjfmejbhaaGreatDoor
namespace Go.Proofs.YtkedbjjfmejbhaaGreatDoor
open Go.RowKit Go.Lib
section
variable {H : Type} {enc : TypeId × Value -> H} {w : World} {sp : Nat -> Bool} {hd : Bool}
theorem qrc : ∀ N : Nat, Trods enc Tryz.prog w sp hd 44 Ex.d N := by
 intro N
 induction N with
 | zero => intro n cs x hn; omega
 | succ N ih =>
  intro n cs x hn h
  obtain ⟨xs, m, rfl, -, hlen, hl2, hf⟩ := DataW.trod_struct Tryz.underlying44 h
  have hc3 : Tryz.prog.cellsOf 3 = 1 := by kernel_rfl
  have hc9 : Tryz.prog.cellsOf 9 = 1 := by kernel_rfl
  have hcl : Tryz.prog.cellsOf 24 = 1 := by kernel_rfl
  have hc : Tryz.prog.cellsOf 44 = 4 := by kernel_rfl
  rw [hc] at hlen
  obtain ⟨y0, h0⟩ := ql 0 3 0 1 hl2 hf ⟨_, rfl, rfl, rfl⟩ hc3
  obtain ⟨y1, h1⟩ := ql 1 3 1 1 hl2 hf ⟨_, rfl, rfl, rfl⟩ hc3
  obtain ⟨y2, h2⟩ := ql 2 9 2 1 hl2 hf ⟨_, rfl, rfl, rfl⟩ hc9
  obtain ⟨y3, h3⟩ := ql 3 24 3 1 hl2 hf ⟨_, rfl, rfl, rfl⟩ hcl
  obtain ⟨a0, r0⟩ := qv Tryz.underlying3 (m + 1) m _ _ (by omega) h0
  obtain ⟨a1, r1⟩ := qv Tryz.underlying3 (m + 1) m _ _ (by omega) h1
  obtain ⟨a2, r2⟩ := qeo Tryz.underlying9 (m + 1) m _ _ (by omega) h2
  obtain ⟨a3, r3⟩ := qcr Tryz.underlying24 hc (by omega) Ex.width ih m _ _ (by omega) h3
  refine ⟨.mk a0 a1 a2 a3, ?_⟩
  rw [Ex.d, Ex.ds_map]
  exact rd_st (qs (k := 1) r0 (qs (k := 1) r1 (qs (k := 1) r2 (qs (k := 1) r3 (qgk (by omega))))))
theorem qbj1 (N : Nat) : Trods enc Tryz.prog w sp hd 23 (fun l : List Int => D.sl (l.map D.int)) N := fun n cs x hn h =>
 qcr Tryz.underlying23 (sz := 1) (by kernel_rfl) (by omega) (fun _ => rfl) (qv Tryz.underlying3 N) n cs x (by omega) h
theorem qku1 (N : Nat) : Trods enc Tryz.prog w sp hd 67 Fn.d N := by
 intro n cs x hn h
 obtain ⟨xs, m, rfl, -, hlen, hl2, hf⟩ := DataW.trod_struct Tryz.underlying67 h
 have hc3 : Tryz.prog.cellsOf 3 = 1 := by kernel_rfl
 have hc9 : Tryz.prog.cellsOf 9 = 1 := by kernel_rfl
 have hcl : Tryz.prog.cellsOf 23 = 1 := by kernel_rfl
 have hce : Tryz.prog.cellsOf 44 = 4 := by kernel_rfl
 have hc : Tryz.prog.cellsOf 67 = 7 := by kernel_rfl
 rw [hc] at hlen
 obtain ⟨y0, h0⟩ := ql 0 9 0 1 hl2 hf ⟨_, rfl, rfl, rfl⟩ hc9
 obtain ⟨y1, h1⟩ := ql 1 23 1 1 hl2 hf ⟨_, rfl, rfl, rfl⟩ hcl
 obtain ⟨y2, h2⟩ := ql 2 3 2 1 hl2 hf ⟨_, rfl, rfl, rfl⟩ hc3
 obtain ⟨y3, h3⟩ := ql 3 44 3 4 hl2 hf ⟨_, rfl, rfl, rfl⟩ hce
 obtain ⟨a0, r0⟩ := qeo Tryz.underlying9 (m + 1) m _ _ (by omega) h0
 obtain ⟨a1, r1⟩ := qbj1 (m + 1) m _ _ (by omega) h1
 obtain ⟨a2, r2⟩ := qv Tryz.underlying3 (m + 1) m _ _ (by omega) h2
 obtain ⟨a3, r3⟩ := qrc (m + 1) m _ _ (by omega) h3
 exact ⟨⟨a0, a1, a2, a3⟩, rd_st (qs (k := 1) r0 (qs (k := 1) r1 (qs (k := 1) r2 (qs (k := 4) r3 (qgk (by omega))))))⟩
theorem qgu1 (N : Nat) : Trods enc Tryz.prog w sp hd 22 (fun l : List Fn => D.sl (l.map Fn.d)) N := fun n cs x hn h =>
 qcr Tryz.underlying22 (sz := 7) (by kernel_rfl) (by omega) Fn.width (qku1 N) n cs x (by omega) h
end
end Go.Proofs.YtkedbjjfmejbhaaGreatDoor
namespace Go.Proofs.YtkedbjjfmejbhaaGreatDoor
open Go.RowKit Go.Lib Go.ChangeMaps
open Go.WideElems (Fit rd rg pl rd_key)
open Go.Maps (Keyed)
theorem qrj1 : laidOutB Tryz.prog = true := by kernel_rfl
theorem qfa : Keyed Tryz.prog 118 := Keyed.of_law (deep_law_laid qrj1 (m := 3) (by omega) (of_decide_eq_true (by kernel_rfl)) (by kernel_rfl) (by kernel_rfl))
def partV (o n : Int) (s : ByteArray) (a b c : Int) : Value := .agg #[.int .i64 o, .int .i64 n, .string s, .int .i64 a, .int .i64 b, .int .i64 c]
theorem qfa1 {o n a b c o' n' a' b' c' : Int} {s s' : ByteArray} (h : partV o n s a b c = partV o' n' s' a' b' c') : o = o' /\ n = n' /\ s = s' /\ a = a' /\ b = b' /\ c = c' := by
 unfold partV at h
 simpa using h
def I64 (n : Int) : Prop := -9223372036854775808 <= n /\ n <= 9223372036854775807
theorem qhh {n : Int} (h : I64 n) : (Lit.int .i64 n).wf = true := by
 obtain ⟨h1, h2⟩ := h
 have e1 : IntKind.i64.min = -9223372036854775808 := by decide
 have e2 : IntKind.i64.max = 9223372036854775807 := by decide
 simp [Lit.wf, e1, e2, h1, h2]
theorem qfb1 {o n a b c : Int} {s : ByteArray} (ho : I64 o) (hn : I64 n) (ha : I64 a) (hb : I64 b) (hc : I64 c) (hs : s.size <= maxLen) : ∃ l, keyOf Tryz.prog 118 (partV o n s a b c) = some l := by
 have h0 : (match Tryz.prog.underlying 118 with | some (.array _ _) | some (.struct _) => true | _ => false) = true := by kernel_rfl
 have hk : Tryz.prog.keyType 118 = true := by kernel_rfl
 have hc6 : Tryz.prog.cellsOf 118 = 6 := by kernel_rfl
 have hc3 : Tryz.prog.cellsOf 116 = 3 := by kernel_rfl
 have hc1 : Tryz.prog.cellsOf 3 = 1 := by kernel_rfl
 have hcs : Tryz.prog.cellsOf 9 = 1 := by kernel_rfl
 obtain ⟨m, hm⟩ : ∃ m, Tryz.prog.types.size + 1 = m + 3 := ⟨Tryz.prog.types.size - 2, by kernel_rfl⟩
 have e1 : ∀ d x, I64 x -> Tryz.prog.keyLits (d + 1) 3 [.int .i64 x] = some [.int .i64 x] := fun d x hx => by
  simp [Program.keyLits, Tryz.underlying3, qhh hx]
 have e2 : ∀ d, Tryz.prog.keyLits (d + 1) 9 [.string s] = some [.string s.data.toList] := fun d => by
  simp [Program.keyLits, Tryz.underlying9, hs]
 have e4 : ∀ d, Tryz.prog.keyLits (d + 2) 116 [.int .i64 a, .int .i64 b, .int .i64 c] = some [.int .i64 a, .int .i64 b, .int .i64 c] := fun d => by
  simp [Program.keyLits, Tryz.underlying116, Tryz.underlying3, hc3, hc1, List.range, List.range.loop, qhh ha, qhh hb, qhh hc]
 have h1 : Tryz.prog.keyLits (m + 3) 118 [.int .i64 o, .int .i64 n, .string s, .int .i64 a, .int .i64 b, .int .i64 c] = some [.int .i64 o, .int .i64 n, .string s.data.toList, .int .i64 a, .int .i64 b, .int .i64 c] := by
  simp [Program.keyLits, Tryz.underlying118, Tryz.underlying3, Tryz.underlying9, Tryz.underlying116, hc6, hc3, hc1, hcs, List.range, List.range.loop, qhh ha, qhh hb, qhh hc, qhh hn, qhh ho, hs]
 unfold keyOf
 simp only [Tryz.underlying118]
 rw [hk, hm]
 simp [partV, Value.formed, Tryz.underlying118, hc6, Value.cells, h1]
def mapI (l : List (Value × Int)) (o : Obj) : Prop :=
 ∃ es clock, o = .map es clock /\ Fit Tryz.prog 118 (plainElem (H := Unit) Tryz.prog 3) es clock /\ es.toList.map (fun e => (e.key, e.val)) = l.map fun p => (p.1, Value.int .i64 p.2)
theorem qnm1 (l : List (Value × Int)) : IsMap (mapI l) := fun o ⟨es, clock, h, _⟩ => ⟨es, clock, h⟩
theorem qjo1 : mapI [] (.map #[] 0) := ⟨#[], 0, rfl, ⟨by simp, Go.MapKept.stamped_empty 0, by simp⟩, rfl⟩
theorem qtq (w : World) : (zeroValue 3).run Tryz.prog w = .ok (.int .i64 0) w := by kernel_rfl
theorem qqo {l : List (Value × Int)} {es : Array MapEntry} (h : es.toList.map (fun e => (e.key, e.val)) = l.map fun p => (p.1, Value.int .i64 p.2)) :
  (∀ e ∈ es.toList, ∃ p ∈ l, p.1 = e.key /\ Value.int .i64 p.2 = e.val) /\ ∀ p ∈ l, ∃ e ∈ es.toList, p.1 = e.key /\ Value.int .i64 p.2 = e.val := by
 constructor
 .intro e he
  have : (e.key, e.val) ∈ l.map fun p => (p.1, Value.int .i64 p.2) := h ▸ List.mem_map.2 ⟨e, he, rfl⟩
  obtain ⟨p, hp, hq⟩ := List.mem_map.1 this
  simp only [Prod.mk.injEq] at hq
  exact ⟨p, hp, hq.1, hq.2⟩
 .intro p hp
  have : (p.1, Value.int .i64 p.2) ∈ es.toList.map fun e => (e.key, e.val) := h ▸ List.mem_map.2 ⟨p, hp, rfl⟩
  obtain ⟨e, he, hq⟩ := List.mem_map.1 this
  simp only [Prod.mk.injEq] at hq
  exact ⟨e, he, hq.1.symm, hq.2.symm⟩
theorem qjm1 {l : List (Value × Int)} (hN : ∀ p ∈ l, ∀ q ∈ l, p.1 = q.1 -> p = q) {key : AV} {kv : Value} (hw : key.whole = some kv) {kl : Lit} (hk : keyOf Tryz.prog 118 kv = some kl) {v : Int} (hm : (kv, v) ∈ l) :
  qjw Tryz.prog 84 (mapI l) true key (.tup [.v (.int .i64 v), .v (.bool true)]) := by
 refine ⟨kv, .tuple #[.int .i64 v, .bool true], hw, fun X => ⟨[.int .i64 v, .bool true], rfl, _, _, rfl, ?_, _, _, rfl, ?_, rfl⟩, ?_⟩
 .exact RR1.of_one rfl (by rw [RC])
 .exact RR1.of_one rfl (by rw [RC])
 rintro w b o hb ⟨es, clock, rfl, F, hes⟩
 obtain ⟨h1, h2⟩ := qqo hes
 rcases Maps.fit_look true qfa Tryz.underlying84 (qtq w) hb F hk with ⟨-, hno, -⟩ | ⟨e0, y, he0, hk0, hrun, -⟩
 .obtain ⟨e, he, h3, -⟩ := h2 _ hm
  exact absurd h3.symm (hno e he)
 .obtain ⟨p, hp, h3, h4⟩ := h1 e0 he0
  have := hN p hp _ hm (h3.trans hk0)
  subst this
  rw [hrun, <- h4]; rfl
theorem qeg1 {l : List (Value × Int)} {key : AV} {kv : Value} (hw : key.whole = some kv) {kl : Lit} (hk : keyOf Tryz.prog 118 kv = some kl) (hm : ∀ p ∈ l, p.1 ≠ kv) :
  qjw Tryz.prog 84 (mapI l) true key (.tup [.v (.int .i64 0), .v (.bool false)]) := by
 refine ⟨kv, .tuple #[.int .i64 0, .bool false], hw, fun X => ⟨[.int .i64 0, .bool false], rfl, _, _, rfl, ?_, _, _, rfl, ?_, rfl⟩, ?_⟩
 .exact RR1.of_one rfl (by rw [RC])
 .exact RR1.of_one rfl (by rw [RC])
 rintro w b o hb ⟨es, clock, rfl, F, hes⟩
 obtain ⟨h1, h2⟩ := qqo hes
 rcases Maps.fit_look true qfa Tryz.underlying84 (qtq w) hb F hk with ⟨hrun, -⟩ | ⟨e0, y, he0, hk0, -⟩
 .rw [hrun]; rfl
 .obtain ⟨p, hp, h3, h4⟩ := h1 e0 he0
  exact absurd (h3.trans hk0) (hm p hp)
theorem qnn1 {l : List (Value × Int)} {key : AV} {kv : Value} (hw : key.whole = some kv) {kl : Lit} (hk : keyOf Tryz.prog 118 kv = some kl) (hm : ∀ p ∈ l, p.1 ≠ kv) (hl : l.length < maxLen) {v : Int} (hv : I64 v) :
  IsMap (mapI l) /\ UpdOk Tryz.prog 84 (mapI l) key (.v (.int .i64 v)) (mapI (l ++ [(kv, v)])) := by
 refine ⟨qnm1 l, kv, .int .i64 v, hw, rfl, ?_⟩
 rintro w b es clock hb ⟨es1, clock1, he, F, hes⟩
 cases he
 obtain ⟨h1, h2⟩ := qqo hes
 have hsz : es.size = l.length := by have := congrArg List.length hes; simpa using this
 rcases qfa.find w hk es.toList F.keys with ⟨g1, g2⟩ | ⟨j, e0, g1, g2, g3⟩
 .obtain ⟨es', clock', hrun, F', -⟩ := Maps.fit_store (R' := plainElem (H := Unit) Tryz.prog 3) qfa Tryz.underlying84 hb F (by omega) (fun _ _ _ _ hz => hz) hk (plainElem_int Tryz.underlying3 (qhh hv))
  have hrun2 : (Instr.mapUpdate 84 (.map (some b)) kv (.int .i64 v)).run Tryz.prog w = .ok () (setBlock w b (.map (es.push ⟨kv, .int .i64 v, clock⟩) (clock + 1))) := by
   simp [Instr.mapUpdate, run_underlying Tryz.underlying84, MapKept.run_getObj_map hb, qfa.check w false hk, g1, MapKept.run_setObj_map _ hb, Result.andThen, setBlock]
  rw [hrun] at hrun2
  have hw2 : setBlock w b (.map es' clock') = setBlock w b (.map (es.push ⟨kv, .int .i64 v, clock⟩) (clock + 1)) := by injection hrun2
  have h3 := heap_setBlock_same hb (.map es' clock')
  rw [hw2, heap_setBlock_same hb] at h3
  have h4 : Obj.map (es.push ⟨kv, .int .i64 v, clock⟩) (clock + 1) = .map es' clock' := Option.some.inj h3
  injection h4 with h5 h6
  refine ⟨_, hrun, es', clock', rfl, F', ?_⟩
  rw [<- h5]; simp [hes]
 .obtain ⟨p, hp, h3, -⟩ := h1 e0 (List.mem_of_getElem? g2)
  exact absurd (h3.trans g3) (hm p hp)
end Go.Proofs.YtkedbjjfmejbhaaGreatDoor
namespace Go.Proofs.YtkedbjjfmejbhaaGreatDoor
open Go.RowKit Go.Lib
def NS (n : Int) (s : ByteArray) : Prop := I64 n /\ s.size <= 9223372036854775807
mutual
def n64 : Ex -> Prop
 | .mk _ n s l => NS n s /\ n64s l
def n64s : List Ex -> Prop
 | [] => True
 | e :: l => n64 e /\ n64s l
end
theorem qyd : ∀ {l : List Ex}, n64s l ↔ ∀ x ∈ l, n64 x
 | [] => by rw [n64s]; simp
 | e :: l => by rw [n64s, qyd]; simp
theorem qdc {o n : Int} {s : ByteArray} {l : List Ex} : n64 (.mk o n s l) ↔ NS n s /\ ∀ x ∈ l, n64 x := by rw [n64, qyd]
theorem i64_0 : I64 0 := ⟨by decide, by decide⟩
theorem qfe (n : Int) : I64 (wrap64 n) := by
 unfold wrap64 I64; omega
theorem qje1 (b : Bool) : I64 (boolV b).n := by cases b <;> exact ⟨by decide, by decide⟩
theorem ns_0 : NS 0 ByteArray.empty := ⟨i64_0, by decide⟩
theorem qwf (b : Bool) : NS (boolV b).n (boolV b).s := ⟨qje1 b, by show (ByteArray.empty).size <= _; decide⟩
theorem qin {n : Int} (h : I64 n) : NS (numV n).n (numV n).s := ⟨h, by show (ByteArray.empty).size <= _; decide⟩
theorem qtn {l : List Val} (h : ∀ v ∈ l, NS v.n v.s) (k : Nat) : NS (l.getD k zeroV).n (l.getD k zeroV).s := by
 rw [List.getD_eq_getElem?_getD]
 cases hk : l[k]? with
 | none => exact ns_0
 | some v => exact h v (List.mem_of_getElem? hk)
theorem qnc1 {a b : Int} (ha : I64 a) : I64 (modI a b) := by
 unfold modI
 split
 .exact i64_0
 .obtain ⟨h1, h2⟩ := ha
  have h3 := Int.natAbs_tmod a b
  have h4 : (a.tmod b).natAbs <= a.natAbs := by rw [h3]; exact Nat.mod_le _ _
  unfold I64
  rcases Int.le_total 0 a with h5 | h5
  .have := Int.tmod_nonneg b h5
   omega
  .have : a.tmod b <= 0 := by
    have := Int.tmod_nonneg b (show 0 <= -a by omega)
    rw [Int.neg_tmod] at this; omega
   omega
theorem qnb1 (a b : Int) : I64 (divI a b) := by
 unfold divI
 split
 .exact i64_0
 .exact qfe _
theorem qrq1 {o : Int} {a b : Val} (ha : I64 a.n) : NS (binV o a b).n (binV o a b).s := by
 unfold binV
 split
 .exact qin (qfe _)
 split
 .exact qin (qfe _)
 split
 .exact qin (qfe _)
 split
 .exact qin (qnb1 _ _)
 split
 .exact qin (qnc1 ha)
 repeat' (split; exact qwf _)
 refine ⟨i64_0, ?_⟩
 have := qoi a.s b.s
 show (joinS a.s b.s).size <= _
 omega
theorem ev_ns {call : Int -> List Val -> Val} {time : Int} {row params : List Val} (hc : ∀ i vs, NS (call i vs).n (call i vs).s) (ht : I64 time) (hr : ∀ v ∈ row, NS v.n v.s) (hp : ∀ v ∈ params, NS v.n v.s) (e : Ex) : n64 e -> NS (ev call time row params e).n (ev call time row params e).s := by
 induction e using Ex.ind with
 | h o n s l ih =>
  intro h
  obtain ⟨hn, hl⟩ := qdc.1 h
  have hvs : ∀ v ∈ evs call time row params l, NS v.n v.s := fun v hv => by
   rw [qfk] at hv
   obtain ⟨x, hx, rfl⟩ := List.mem_map.1 hv
   exact ih x hx (hl x hx)
  rw [ev]
  generalize evs call time row params l = vs at hvs
  split
  .unfold ifV
   split <;> exact qtn hvs _
  .unfold opV
   split
   .exact qin hn.1
   split
   .exact ⟨i64_0, hn.2⟩
   split
   .exact qwf _
   split
   .exact qtn hr _
   split
   .exact qtn hp _
   split
   .exact qin ht
   split
   .exact qwf _
   split
   .exact qin (qfe _)
   split
   .exact qin (by have := (qtn hvs 0).2; unfold I64; omega)
   split
   .exact hc _ _
   .exact qrq1 (qtn hvs _).1
theorem qzy {v : Val} (h : NS v.n v.s) : n64 (qca v) := by
 unfold qca zeroE
 split
 .rw [qdc]; exact ⟨⟨h.1, by decide⟩, by simp⟩
 split
 .rw [qdc]; exact ⟨⟨i64_0, h.2⟩, by simp⟩
 split
 .rw [qdc]; exact ⟨⟨h.1, by decide⟩, by simp⟩
 .rw [qdc]; exact ⟨ns_0, by simp⟩
theorem qrx (time : Int) (m : Nat) (i : Int) (vs : List Val) : callN [] time m i vs = zeroV := by
 cases m with
 | zero => rfl
 | succ m => simp [callN]
theorem qpi1 {o n : Int} {s : ByteArray} {l : List Ex} (h : n64 (.mk o n s l)) : n64 (topF o n s l) := by
 obtain ⟨hn, hl⟩ := qdc.1 h
 unfold topF
 split
 .exact qdc.2 ⟨hn, by simp⟩
 split
 .exact qzy (ev_ns (fun i vs => by rw [qrx]; exact ns_0) i64_0 (by simp) (by simp) _ h)
 split
 .unfold qhq
  split
  .split
   .exact hl _ (by simp)
   .split
    .exact hl _ (by simp)
    .exact h
  .exact h
 split
 .unfold qma
  split
  .split
   .split <;> exact hl _ (by simp)
   .split
    .split <;> exact hl _ (by simp)
    .exact h
  .exact h
 split
 .unfold notP
  split
  .split
   .split
    .have h2 := hl _ (List.mem_cons_self ..)
     exact (qdc.1 h2).2 _ (by simp)
    .exact h
   .exact h
  .exact h
 .exact h
theorem qit1 (e : Ex) : n64 e -> n64 (foldE e) := by
 induction e using Ex.ind with
 | h o n s l ih =>
  intro h
  obtain ⟨hn, hl⟩ := qdc.1 h
  rw [foldE, qgb]
  refine qpi1 (qdc.2 ⟨hn, fun x hx => ?_⟩)
  obtain ⟨y, hy, rfl⟩ := List.mem_map.1 hx
  exact ih y hy (hl y hy)
theorem qoq1 {op : Int} {L : List Ex} (hL : ∀ x ∈ L, n64 x) (e : Ex) : ∀ {y : Ex}, n64 e -> putP op L e = some y -> n64 y := by
 induction e using Ex.ind with
 | h o n s l ih =>
  intro y h hy
  obtain ⟨hn, hl⟩ := qdc.1 h
  rw [putP] at hy
  split at hy
  .split at hy
   .cases hy
   .exact hL _ (List.mem_of_getElem? hy)
  .cases hp : putPs op L l with
   | none => rw [hp] at hy; cases hy
   | some l' =>
    rw [hp] at hy; cases hy
    refine qdc.2 ⟨hn, fun x hx => ?_⟩
    obtain ⟨z, hz, h2⟩ := qmm l hp x hx
    exact ih z hz (hl z hz) h2
theorem qjj {bs : List (Option Ex)} : ∀ (l : List Ex) {ys : List Ex}, inlL bs l = some ys -> ∀ y ∈ ys, ∃ e ∈ l, inlE bs e = some y
 | [], ys, h, y, hy => by rw [inlL] at h; cases h; cases hy
 | e :: l, ys, h, y, hy => by
  rw [inlL] at h
  cases he : inlE bs e with
  | none => rw [he] at h; cases h
  | some x =>
   rw [he] at h
   cases hl : inlL bs l with
   | none => rw [hl] at h; cases h
   | some xs =>
    rw [hl] at h; cases h
    rcases List.mem_cons.1 hy with rfl | hy
    .exact ⟨e, by simp, he⟩
    .obtain ⟨e', h1, h2⟩ := qjj l hl y hy
     exact ⟨e', by simp [h1], h2⟩
theorem qih {x y : Ex} (h : fitX x = some y) : x = y := by
 unfold fitX at h
 split at h
 .cases h
 .exact Option.some.inj h
theorem qdu1 {bs : List (Option Ex)} (hbs : ∀ b ∈ bs, ∀ y, b = some y -> n64 y) (e : Ex) : ∀ {y : Ex}, n64 e -> inlE bs e = some y -> n64 y := by
 induction e using Ex.ind with
 | h o n s l ih =>
  intro y h hy
  obtain ⟨hn, hl⟩ := qdc.1 h
  rw [inlE] at hy
  cases hp : inlL bs l with
  | none => rw [hp] at hy; cases hy
  | some ys =>
   rw [hp] at hy
   have hys : ∀ x ∈ ys, n64 x := fun x hx => by
    obtain ⟨z, hz, h2⟩ := qjj l hp x hx
    exact ih z hz (hl z hz) h2
   dsimp only at hy
   split at hy
   .cases hb : bs.getD n.toNat none with
    | none => rw [hb] at hy; cases hy
    | some b =>
     rw [hb] at hy
     have hbm : some b ∈ bs := by
      rw [List.getD_eq_getElem?_getD] at hb
      cases hg : bs[n.toNat]? with
      | none => rw [hg] at hb; cases hb
      | some z => rw [hg] at hb; cases hb; exact List.mem_of_getElem? hg
     have hb64 := hbs _ hbm b rfl
     rw [<- qih hy]
     cases hq : putP 4 ys b with
     | none => exact qdc.2 ⟨ns_0, by simp⟩
     | some z => exact qoq1 hys b hb64 hq
   .rw [<- qih hy]
    exact qdc.2 ⟨hn, hys⟩
theorem qxn : ∀ (F : List Fn) (bs : List (Option Ex)), (∀ b ∈ bs, ∀ y, b = some y -> n64 y) -> (∀ f ∈ F, n64 f.body) -> ∀ b ∈ inlB bs F, ∀ y, b = some y -> n64 y
 | [], bs, h, _ => by rw [inlB]; exact h
 | f :: F, bs, h, hF => by
  rw [inlB]
  refine qxn F _ (fun b hb y hy => ?_) fun g hg => hF g (by simp [hg])
  rcases List.mem_append.1 hb with hb | hb
  .exact h b hb y hy
  .rw [List.mem_singleton] at hb
   rw [hb] at hy
   exact qdu1 h f.body (hF f (by simp)) hy
theorem qaq1 {F : List Fn} (hF : ∀ f ∈ F, n64 f.body) {e y : Ex} (he : n64 e) (h : qbj F e = some y) : n64 y := by
 unfold qbj at h
 split at h
 .rename_i x hx
  split at h
  .cases h
  .cases h
   exact qdu1 (qxn F [] (by simp) hF) e he hx
 .cases h
theorem qkm {H : Type} (d : DataW H) : 1 <= Rows.uptoBulk d := by
 cases d with
 | lit l => cases l <;> simp [Rows.uptoBulk]
 | nil => simp [Rows.uptoBulk]
 | ptr d => simp [Rows.uptoBulk]
 | slice elems spare => simp [Rows.uptoBulk]
 | agg parts => simp [Rows.uptoBulk]
 | iface t d => simp [Rows.uptoBulk]
 | map entries => simp [Rows.uptoBulk]
 | held h => simp [Rows.uptoBulk]
theorem qwz {H : Type} (l : List (DataW H)) : l.length <= Rows.uptoBulkAll l := by
 induction l with
 | nil => simp [Rows.uptoBulkAll]
 | cons x r ih => have := qkm x; simp only [Rows.uptoBulkAll, List.length_cons]; omega
theorem qxa {α : Type} {H : Type} {g : α -> Nat} : ∀ {l : List α} {E : List (DataW H)}, l.length = E.length -> (∀ i (h : i < l.length) (h2 : i < E.length), g l[i] <= Rows.uptoBulk E[i]) -> (l.map g).sum <= Rows.uptoBulkAll E
 | [], _, _, _ => by simp
 | a :: l, [], h, _ => by simp at h
 | a :: l, d :: E, h, hg => by
  have h1 := hg 0 (by simp) (by simp)
  have h2 := qxa (l := l) (E := E) (by simpa using h) fun i hi hi2 => hg (i + 1) (by simpa using hi) (by simpa using hi2)
  simp only [List.getElem_cons_zero] at h1
  simp only [List.map_cons, List.sum_cons, Rows.uptoBulkAll]
  omega
theorem qno {w : World} {b : Nat} : ∀ {cs cs' : List Value} {off : Nat}, qw w b off cs -> qw w b off cs' -> cs.length = cs'.length -> cs = cs'
 | [], [], _, _, _, _ => rfl
 | [], _ :: _, _, _, _, h => by simp at h
 | _ :: _, [], _, _, _, h => by simp at h
 | v :: cs, v' :: cs', off, h1, h2, h => by
  have e1 : v = v' := by have := h1.1.symm.trans h2.1; exact Option.some.inj this
  rw [e1, qno h1.2 h2.2 (by simpa using h)]
theorem qcg1 {w : World} {base : Nat} {a : Addr} {n : Nat} {cs : List Value} (h : w.cells? base a n = some cs) : cs.length = n := by
 unfold World.cells? at h
 split at h
 .have := mapM_some_length h
  simpa using this
 .cases h
section
variable {H : Type} {enc : TypeId × Value -> H} {P : Program} {w : World} {sp : Nat -> Bool} {hd : Bool}
theorem qjs {t e : TypeId} {α : Type} {f : α -> D} {sz n : Nat} {Q : α -> Prop} {g : α -> Nat} {l : List α} {cs : List Value} {x : DataW H × List MemPlace} (ht : P.underlying t = some (.slice e)) (hc : P.cellsOf e = sz) (hsz : 0 < sz) (hw : ∀ x, (f x).width = sz)
  (hr : Rd w Any (.sl (l.map f)) cs) (h : DataW.trod enc P w 0 sp hd n t cs = some x)
  (hel : ∀ a ∈ l, ∀ n c y, Rd w Any (f a) c -> DataW.trod enc P w 0 sp hd n e c = some y -> Q a /\ g a <= Rows.uptoBulk y.1) :
  (∀ a ∈ l, Q a) /\ (l.map g).sum + 1 <= Rows.uptoBulk x.1 /\ l.length + 1 <= Rows.uptoBulk x.1 := by
 rw [Rd] at hr
 obtain ⟨A, cap', b, off, rfl, -, -, hA, hm⟩ := hr
 rw [List.length_map] at hA h
 rcases DataW.trod_slice ht h with ⟨h1, rfl⟩ | ⟨a, len, cap, elems, rest, m, rfl, h1, rfl, -, -, -, hlen, hel2, -, -⟩
 .have : l.length = 0 := by
   injection h1 with h2 _
   injection h2
  obtain rfl := List.eq_nil_of_length_eq_zero this
  simp [Rows.uptoBulk]
 .have h2 : Value.slice A l.length cap' = Value.slice (some a) len cap := by simpa using h1
  injection h2 with h3 h4 h5
  have hlen2 : l.length = elems.length := by rw [hlen]; omega
  have key : ∀ i (hi : i < l.length) (hi2 : i < elems.length), Q l[i] /\ g l[i] <= Rows.uptoBulk elems[i].1 := fun i hi hi2 => by
   have h6 := hel2 i (by omega)
   rw [hc, List.getElem?_eq_getElem hi2] at h6
   obtain ⟨cs', h7, h8⟩ := Option.bind_eq_some_iff.1 h6
   obtain ⟨h9, h10⟩ := qjf h7 hsz
   obtain ⟨c2, h11, h12⟩ := RdM.get (sz := sz) _ b off hm (fun d hd => by obtain ⟨a, -, rfl⟩ := List.mem_map.1 hd; exact hw a) i (by simpa using hi)
   rw [List.getElem_map] at h12
   obtain ⟨hAe, -⟩ := hA (by omega)
   rw [h3] at hAe
   obtain rfl : a = ⟨b, off, none⟩ := Option.some.inj hAe
   have e1 : c2 = cs' := qno h11 (by rw [qbd] at h10; exact h10) (by
    rw [Rd.length _ _ h12, hw]
    exact (qcg1 h7).symm)
   subst e1
   exact hel _ (List.getElem_mem hi) _ _ _ h12 h8
  refine ⟨fun a ha => ?_, ?_, ?_⟩
  .obtain ⟨i, hi, rfl⟩ := List.mem_iff_getElem.1 ha
   exact (key i hi (by omega)).1
  .have := qxa (g := g) (l := l) (E := elems.map (·.1)) (by simpa using hlen2) fun i hi hi2 => by
    rw [List.getElem_map]; exact (key i hi (by simpa using hi2)).2
   simp only [Rows.uptoBulk]; omega
  .have := qwz (elems.map (·.1))
   rw [List.length_map] at this
   simp only [Rows.uptoBulk]; omega
theorem qcn {fs : Array Field} {n : Nat} {cs : List Value} {xs : List (DataW H × List MemPlace)} (i : Nat) (T : TypeId) (o k : Nat)
  (hf : ∀ (i : Nat) (f : Field), fs[i]? = some f -> DataW.trod enc P w 0 sp hd n f.type ((cs.drop f.offset).take (P.cellsOf f.type)) = xs[i]?)
  (hi : ∃ f : Field, fs[i]? = some f /\ f.type = T /\ f.offset = o) (hk : P.cellsOf T = k) : DataW.trod enc P w 0 sp hd n T ((cs.drop o).take k) = xs[i]? := by
 obtain ⟨f, hi, rfl, rfl⟩ := hi
 subst hk
 exact hf i f hi
theorem qvp : ∀ (e : Ex) (n : Nat) (cs : List Value) (x : DataW H × List MemPlace), Rd w Any e.d cs -> DataW.trod enc Tryz.prog w 0 sp hd n 44 cs = some x -> n64 e /\ 5 * parts e <= Rows.uptoBulk x.1 := fun e => by
 induction e using Ex.ind with
 | h o nn s l ih =>
  intro n cs x hr h
  obtain ⟨A, cap, b, off, rfl, hl1, hl2, hl3, hm⟩ := Ex.open hr
  simp only [Ex.args, Ex.op, Ex.n, Ex.s] at hl1 hl2 hl3 hm h
  have hsl : Rd w Any (.sl (l.map Ex.d)) [.slice A l.length cap] := by
   rw [Rd]; exact ⟨A, cap, b, off, by rw [List.length_map], by rw [List.length_map]; exact hl1, hl2, by rw [List.length_map]; exact hl3, hm⟩
  obtain ⟨xs, m, rfl, rfl, hlen, hx4, hf⟩ := DataW.trod_struct Tryz.underlying44 h
  have hc3 : Tryz.prog.cellsOf 3 = 1 := by kernel_rfl
  have hc9 : Tryz.prog.cellsOf 9 = 1 := by kernel_rfl
  have hcl : Tryz.prog.cellsOf 24 = 1 := by kernel_rfl
  have hc : Tryz.prog.cellsOf 44 = 4 := by kernel_rfl
  have hx4' : xs.length = 4 := hx4
  match xs, hx4' with
  | [y0, y1, y2, y3], _ =>
   have h1 : DataW.trod enc Tryz.prog w 0 sp hd m 3 [.int .i64 nn] = some y1 := qcn 1 3 1 1 hf ⟨_, rfl, rfl, rfl⟩ hc3
   have h2 : DataW.trod enc Tryz.prog w 0 sp hd m 9 [.string s] = some y2 := qcn 2 9 2 1 hf ⟨_, rfl, rfl, rfl⟩ hc9
   have h3 : DataW.trod enc Tryz.prog w 0 sp hd m 24 [.slice A l.length cap] = some y3 := qcn 3 24 3 1 hf ⟨_, rfl, rfl, rfl⟩ hcl
   obtain ⟨k, hk1, -, hk2⟩ := DataW.trod_int Tryz.underlying3 h1
   obtain ⟨s2, hs1, -, hs2⟩ := DataW.trod_string Tryz.underlying9 h2
   obtain rfl : nn = k := by simpa using hk1
   obtain rfl : s = s2 := by simpa using hs1
   obtain ⟨g1, g2, -⟩ := qjs (Q := n64) (g := fun e => 5 * parts e) Tryz.underlying24 hc (by omega) Ex.width hsl h3 fun a ha n c y hr hy => ih a ha n c y hr hy
   have hi : I64 nn := by
    have e1 : IntKind.i64.min = -9223372036854775808 := by decide
    have e2 : IntKind.i64.max = 9223372036854775807 := by decide
    simpa [Lit.wf, e1, e2, I64] using hk2
   refine ⟨qdc.2 ⟨⟨hi, by unfold maxLen at hs2; omega⟩, g1⟩, ?_⟩
   have hp : ∀ l : List Ex, (l.map fun e => 5 * parts e).sum = 5 * qm l := fun l => by
    induction l with
    | nil => rw [qm]; rfl
    | cons a l ih => rw [List.map_cons, List.sum_cons, qm, ih]; omega
   rw [hp] at g2
   have b0 := qkm y0.1
   have b1 := qkm y1.1
   have b2 := qkm y2.1
   rw [parts]
   simp only [List.map_cons, List.map_nil, Rows.uptoBulk, Rows.uptoBulkAll]
   omega
theorem qmv1 (f : Fn) (n : Nat) (cs : List Value) (x : DataW H × List MemPlace) (hr : Rd w Any f.d cs) (h : DataW.trod enc Tryz.prog w 0 sp hd n 67 cs = some x) : n64 f.body /\ 5 * parts f.body <= Rows.uptoBulk x.1 := by
 have hb : Rd w Any f.body.d ((cs.drop 3).take 4) := by
  obtain ⟨A1, cap1, b1, off1, A2, cap2, b2, off2, rfl, -, -, -, -, g1, g2, g3, g4⟩ := Fn.open hr
  exact Ex.mk_rd g1 g2 g3 g4
 obtain ⟨xs, m, rfl, rfl, hlen, hx4, hf⟩ := DataW.trod_struct Tryz.underlying67 h
 have hce : Tryz.prog.cellsOf 44 = 4 := by kernel_rfl
 have hx4' : xs.length = 4 := hx4
 match xs, hx4' with
 | [y0, y1, y2, y3], _ =>
  have h3 : DataW.trod enc Tryz.prog w 0 sp hd m 44 ((cs.drop 3).take 4) = some y3 := qcn 3 44 3 4 hf ⟨_, rfl, rfl, rfl⟩ hce
  obtain ⟨g1, g2⟩ := qvp f.body m _ y3 hb h3
  refine ⟨g1, ?_⟩
  simp only [List.map_cons, List.map_nil, Rows.uptoBulk, Rows.uptoBulkAll]
  omega
theorem qkw1 (v : Val) (n : Nat) (cs : List Value) (x : DataW H × List MemPlace) (_hr : Rd w Any v.d cs) (h : DataW.trod enc Tryz.prog w 0 sp hd n 63 cs = some x) : True /\ 4 <= Rows.uptoBulk x.1 := by
 obtain ⟨xs, m, rfl, rfl, hlen, hx3, hf⟩ := DataW.trod_struct Tryz.underlying63 h
 have hx3' : xs.length = 3 := hx3
 have := qwz (xs.map (·.1))
 rw [List.length_map] at this
 refine ⟨trivial, ?_⟩
 simp only [Rows.uptoBulk]; omega
end
end Go.Proofs.YtkedbjjfmejbhaaGreatDoor
namespace Go.Proofs.YtkedbjjfmejbhaaGreatDoor
open Go.ChangeShapes Go.WideShapes Go.ChangeAt Go.RowKit Go.Lib
section
variable {H : Type} {enc : TypeId × Value -> H}
end
section
variable {H : Type} {enc : TypeId × Value -> H} {w w0 : World} {sp : Nat -> Bool} {hd : Bool} {b0 : Nat} {t : TypeId} {v : Value}
end
section
variable {H : Type} {enc : TypeId × Value -> H} {P : Program} {w : World} {base : Nat} {spare : Nat -> Bool} {held : Bool} {t0 t1 t2 t3 : TypeId} {args : Array Value} {ds : List (DataW H)} {ps : List MemPlace}
theorem quk (h : DataW.TrodAll enc P w base spare held [t0, t1, t2, t3] args.toList ds ps) :
  ∃ v0 v1 v2 v3 d0 d1 d2 d3 p0 p1 p2 p3, args = #[v0, v1, v2, v3] /\ ds = [d0, d1, d2, d3] /\ ps = p0 ++ p1 ++ p2 ++ p3 /\ DataW.Trod enc P w base spare held t0 v0 d0 p0 /\ DataW.Trod enc P w base spare held t1 v1 d1 p1 /\ DataW.Trod enc P w base spare held t2 v2 d2 p2 /\ DataW.Trod enc P w base spare held t3 v3 d3 p3 := by
 obtain ⟨v0, vs0, d0, ds0, p0, q0, hargs, rfl, rfl, h0, r0⟩ := trodAll_cons h
 obtain ⟨v1, vs1, d1, ds1, p1, q1, rfl, rfl, rfl, h1, r1⟩ := trodAll_cons r0
 obtain ⟨v2, vs2, d2, ds2, p2, q2, rfl, rfl, rfl, h2, r2⟩ := trodAll_cons r1
 obtain ⟨v3, vs3, d3, ds3, p3, q3, rfl, rfl, rfl, h3, r3⟩ := trodAll_cons r2
 obtain ⟨rfl, rfl, rfl⟩ := trodAll_nil r3
 exact ⟨v0, v1, v2, v3, d0, d1, d2, d3, p0, p1, p2, p3, by cases args; simp_all, rfl, by simp, h0, h1, h2, h3⟩
end
theorem qun {P : Program} {w : World} {n : String} {g : Nat} {cs : Array Value} (hg : P.globalNamed n = some g) (h : w.var? P n = some cs) : ∃ t fz, w.heap[g]? = some (.cells cs t fz) := by
 unfold World.var? at h
 rw [hg] at h
 dsimp only [Option.bind] at h
 split at h
 .rename_i cs' t fz he
  cases h
  exact ⟨t, fz, he⟩
 .cases h
theorem qoe {w : World} {b : Nat} {cs : List Value} (h : ∃ t fz, w.heap[b]? = some (.cells cs.toArray t fz)) (hne : cs ≠ []) : GlobS (St.flat w) b 0 cs := by
 obtain ⟨t, fz, hb⟩ := h
 refine ⟨qeg _ 0 fun j u hj => ⟨?_, ?_⟩, ⟨t, fz, hb⟩, (fun r hr => by cases hr), hne⟩
 .show World.cell? w _ = _
  simp [World.cell?, hb, hj]
 .exact (Array.getElem?_eq_some_iff.1 hb).1
def tabS {H : Type} (zs : List ByteArray) : DataW H := .agg (zs.map fun z => .lit (.string z.data.toList))
theorem qps {H : Type} {enc : TypeId × Value -> H} {P : Program} {w : World} {base : Nat} {sp : Nat -> Bool} {held : Bool} {fuel : Nat} {t e : TypeId} {n : Nat} {cs : List Value} {zs : List ByteArray} {p : List MemPlace}
  (ht : P.underlying t = some (.array n e)) (he : P.underlying e = some .string) (hce : P.cellsOf e = 1) (hct : P.cellsOf t = n)
  (h : DataW.trod enc P w base sp held fuel t cs = some (tabS zs, p)) : cs = zs.map fun z => Value.string z := by
 obtain ⟨xs, m, rfl, hx, hl, hxl, hf⟩ := DataW.trod_array ht h
 rw [hct] at hl
 have hxs : xs.map (·.1) = zs.map fun z => (DataW.lit (.string z.data.toList) : DataW H) := by
  have := congrArg Prod.fst hx
  simpa [tabS] using this.symm
 have hzl : zs.length = n := by
  have := congrArg List.length hxs
  simp at this
  omega
 apply List.ext_getElem?
 intro i
 by_cases hi : i < n
 .have hi2 := hf i hi
  rw [List.getElem?_eq_getElem (by omega)] at hi2
  obtain ⟨s, hc, hxi, -⟩ := DataW.trod_string he hi2
  rw [hce, Nat.mul_one] at hc
  have h1 : cs[i]? = some (.string s) := by
   have := congrArg (·[0]?) hc
   simpa [List.getElem?_take, List.getElem?_drop] using this
  have h2 : (xs.map (·.1))[i]? = some (DataW.lit (.string s.data.toList) : DataW H) := by
   rw [List.getElem?_map, List.getElem?_eq_getElem (by omega), hxi]; rfl
  rw [hxs] at h2
  simp only [List.getElem?_map, Option.map_eq_some_iff, DataW.lit.injEq, Lit.string.injEq] at h2
  obtain ⟨z', hz', hzz⟩ := h2
  have hz3 : z' = s := by
   cases z'; cases s; simp at hzz; rw [hzz]
  subst hz3
  simp [h1, hz']
 .rw [List.getElem?_eq_none (by omega), List.getElem?_eq_none (by simp; omega)]
section
variable {H : Type} {enc : TypeId × Value -> H} {w : World} {sp : Nat -> Bool} {hd : Bool}
theorem qum (N : Nat) : Trods enc Tryz.prog w sp hd 23 (fun l : List Int => D.sl (l.map D.int)) N := fun n cs x hn h =>
 qcr Tryz.underlying23 (sz := 1) (by kernel_rfl) (by omega) (fun _ => rfl) (qv Tryz.underlying3 N) n cs x (by omega) h
end
theorem qdz1 (l : List Int) : (D.sl (l.map D.int)).av = .sl (l.map AV.int) := by
 rw [D.av, D.avs_map, List.map_map]; rfl
theorem qwc {w : World} {l : List Int} {v : Value} (h : Rd w Any (.sl (l.map D.int)) [v]) : RR1 (St.flat w) (.sl (l.map AV.int)) v := by
 have := qci h
 rw [qdz1] at this
 exact this
end Go.Proofs.YtkedbjjfmejbhaaGreatDoor
namespace Go.Proofs.YtkedbjjfmejbhaaGreatDoor
open Go.RowKit Go.Lib
def Delta.av (x : Delta) : AV := .agg [.int x.time, .sl (x.row.map Val.av), .int x.n]
@[simp] theorem Delta.av_nt (x : Delta) : x.av.nt = true := rfl
@[simp] theorem Delta.av_sure (x : Delta) : x.av.sure = true := rfl
@[simp] theorem Delta.av_elem (x : Delta) : x.av.elem = true := rfl
@[simp] theorem Delta.av_width (x : Delta) : x.av.width = 3 := rfl
@[simp] theorem Delta.av_pub (x : Delta) : x.av.pub = x.av := by unfold Delta.av; rw [AV.pub]; simp only [AV.pubs_cons, AV.pubs_nil, AV.pub_v, pubV, AV.pub_sl]
@[simp] theorem Delta.av_cells (x : Delta) : x.av.cells = [.int x.time, .sl (x.row.map Val.av), .int x.n] := rfl
@[simp] theorem Delta.av_fold (x : Delta) : AV.agg [.int x.time, .sl (x.row.map Val.av), .int x.n] = x.av := rfl
@[simp] theorem Delta.av_val? (x : Delta) : x.av.val? = none := rfl
@[simp] theorem Delta.rd_all (x : Delta) (σ : Nat -> AB) : rdAt σ true 3 (.ep x.av 0) = some x.av := rfl
@[simp] theorem Delta.rd_0 (x : Delta) (σ : Nat -> AB) (n : Nat) : rdAt σ false n (.ep x.av 0) = some (.int x.time) := rfl
@[simp] theorem Delta.rd_1 (x : Delta) (σ : Nat -> AB) (n : Nat) : rdAt σ false n (.ep x.av 1) = some (.sl (x.row.map Val.av)) := rfl
@[simp] theorem Delta.rd_2 (x : Delta) (σ : Nat -> AB) (n : Nat) : rdAt σ false n (.ep x.av 2) = some (.int x.n) := rfl
@[simp] theorem Delta.av_cl (x : Delta) (m : Nat) : x.av.cl m := by unfold Delta.av; simp [-Delta.av_fold]
@[simp] theorem Delta.avs_cl (l : List Delta) (m : Nat) : AV.cls m (l.map Delta.av) := AV.cls_map (fun f => f.av_cl m) l
@[simp] theorem Delta.avs_wid (l : List Delta) : AV.wid (l.map Delta.av) 3 := AV.wid_map (f := Delta.av) (fun a => a.av_width) l
@[simp] theorem Delta.avs_elms (l : List Delta) : AV.elms (l.map Delta.av) := AV.elms_map (f := Delta.av) (fun a => a.av_elem) l
theorem Delta.d_av (x : Delta) : x.d.av = x.av := by
 simp only [Delta.d, Delta.av, D.av, D.cs, D.avs_map, List.map_map, List.nil_append, List.cons_append, List.append_nil]
 rw [show D.av ∘ Val.d = Val.av from funext Val.d_av]
 try rfl
theorem Delta.ds_av (l : List Delta) : (D.sl (l.map Delta.d)).av = .sl (l.map Delta.av) := by
 rw [D.av, D.avs_map, List.map_map]
 first
 | rfl
 | (congr 1; exact List.map_congr_left fun x _ => x.d_av)
theorem Delta.flat {w : World} {x : Delta} {cs : List Value} (h : Rd w Any x.d cs) : RR1 (St.flat w) x.av (.agg cs.toArray) := by
 have := qci h
 rw [Delta.d_av, Delta.av, RC] at this
 exact ⟨cs, rfl, this⟩
theorem Delta.flats {w : World} {l : List Delta} {v : Value} (h : Rd w Any (.sl (l.map Delta.d)) [v]) : RR1 (St.flat w) (.sl (l.map Delta.av)) v := by
 have := qci h
 rw [Delta.ds_av] at this
 exact this
def Ins.av (x : Ins) : AV := .agg [.int x.op, .int x.tgt, .int x.a, .int x.b, .int x.c, .int x.n, .str x.s]
@[simp] theorem Ins.av_nt (x : Ins) : x.av.nt = true := rfl
@[simp] theorem Ins.av_sure (x : Ins) : x.av.sure = true := rfl
@[simp] theorem Ins.av_elem (x : Ins) : x.av.elem = true := rfl
@[simp] theorem Ins.av_width (x : Ins) : x.av.width = 7 := rfl
@[simp] theorem Ins.av_pub (x : Ins) : x.av.pub = x.av := by unfold Ins.av; rw [AV.pub]; simp only [AV.pubs_cons, AV.pubs_nil, AV.pub_v, pubV, AV.pub_sl]
@[simp] theorem Ins.av_cells (x : Ins) : x.av.cells = [.int x.op, .int x.tgt, .int x.a, .int x.b, .int x.c, .int x.n, .str x.s] := rfl
@[simp] theorem Ins.av_fold (x : Ins) : AV.agg [.int x.op, .int x.tgt, .int x.a, .int x.b, .int x.c, .int x.n, .str x.s] = x.av := rfl
@[simp] theorem Ins.av_val? (x : Ins) : x.av.val? = none := rfl
@[simp] theorem Ins.rd_all (x : Ins) (σ : Nat -> AB) : rdAt σ true 7 (.ep x.av 0) = some x.av := rfl
@[simp] theorem Ins.rd_0 (x : Ins) (σ : Nat -> AB) (n : Nat) : rdAt σ false n (.ep x.av 0) = some (.int x.op) := rfl
@[simp] theorem Ins.rd_1 (x : Ins) (σ : Nat -> AB) (n : Nat) : rdAt σ false n (.ep x.av 1) = some (.int x.tgt) := rfl
@[simp] theorem Ins.rd_2 (x : Ins) (σ : Nat -> AB) (n : Nat) : rdAt σ false n (.ep x.av 2) = some (.int x.a) := rfl
@[simp] theorem Ins.rd_3 (x : Ins) (σ : Nat -> AB) (n : Nat) : rdAt σ false n (.ep x.av 3) = some (.int x.b) := rfl
@[simp] theorem Ins.rd_4 (x : Ins) (σ : Nat -> AB) (n : Nat) : rdAt σ false n (.ep x.av 4) = some (.int x.c) := rfl
@[simp] theorem Ins.rd_5 (x : Ins) (σ : Nat -> AB) (n : Nat) : rdAt σ false n (.ep x.av 5) = some (.int x.n) := rfl
@[simp] theorem Ins.rd_6 (x : Ins) (σ : Nat -> AB) (n : Nat) : rdAt σ false n (.ep x.av 6) = some (.str x.s) := rfl
@[simp] theorem Ins.av_cl (x : Ins) (m : Nat) : x.av.cl m := by unfold Ins.av; simp [-Ins.av_fold]
@[simp] theorem Ins.avs_cl (l : List Ins) (m : Nat) : AV.cls m (l.map Ins.av) := AV.cls_map (fun f => f.av_cl m) l
@[simp] theorem Ins.avs_wid (l : List Ins) : AV.wid (l.map Ins.av) 7 := AV.wid_map (f := Ins.av) (fun a => a.av_width) l
@[simp] theorem Ins.avs_elms (l : List Ins) : AV.elms (l.map Ins.av) := AV.elms_map (f := Ins.av) (fun a => a.av_elem) l
theorem Ins.q : qinfo Tryz.prog 58 = some [(0, 0), (1, 0), (2, 0), (3, 0), (4, 0), (5, 0), (6, 2)] := by kernel_rfl
def Ins.eqB (x y : Ins) : Bool := ((x.op == y.op) && ((x.tgt == y.tgt) && ((x.a == y.a) && ((x.b == y.b) && ((x.c == y.c) && ((x.n == y.n) && (x.s.toList == y.s.toList)))))))
@[simp] theorem Ins.aeq (x y : Ins) : Proofs.YtkedbjjfmejbhaaGreatDoor.aeq Tryz.prog .eql 58 x.av y.av = some (Ins.eqB x y) := by
 simp only [Proofs.YtkedbjjfmejbhaaGreatDoor.aeq, aeqS, Ins.q, Ins.av, feq, feq1, Ins.eqB]
 simp
@[simp] theorem Ins.aneq (x y : Ins) : Proofs.YtkedbjjfmejbhaaGreatDoor.aeq Tryz.prog .neq 58 x.av y.av = some (!Ins.eqB x y) := by
 simp only [Proofs.YtkedbjjfmejbhaaGreatDoor.aeq, aeqS, Ins.q, Ins.av, feq, feq1, Ins.eqB]
 simp
theorem Ins.eqB_iff (x y : Ins) : Ins.eqB x y = true ↔ x = y := by
 obtain ⟨a0, a1, a2, a3, a4, a5, a6⟩ := x
 obtain ⟨b0, b1, b2, b3, b4, b5, b6⟩ := y
 simp only [Ins.eqB, Bool.and_eq_true, beq_iff_eq, Ins.mk.injEq, ByteArray.toList_eq]
 have e6 : a6.data.toList = b6.data.toList ↔ a6 = b6 := ⟨fun h => WideShapes.bytes_inj h, fun h => by rw [h]⟩
 rw [e6]
theorem Ins.d_av (x : Ins) : x.d.av = x.av := rfl
theorem Ins.ds_av (l : List Ins) : (D.sl (l.map Ins.d)).av = .sl (l.map Ins.av) := by
 rw [D.av, D.avs_map, List.map_map]
 first
 | rfl
 | (congr 1; exact List.map_congr_left fun x _ => x.d_av)
theorem Ins.flat {w : World} {x : Ins} {cs : List Value} (h : Rd w Any x.d cs) : RR1 (St.flat w) x.av (.agg cs.toArray) := by
 have := qci h
 rw [Ins.d_av, Ins.av, RC] at this
 exact ⟨cs, rfl, this⟩
theorem Ins.flats {w : World} {l : List Ins} {v : Value} (h : Rd w Any (.sl (l.map Ins.d)) [v]) : RR1 (St.flat w) (.sl (l.map Ins.av)) v := by
 have := qci h
 rw [Ins.ds_av] at this
 exact this
end Go.Proofs.YtkedbjjfmejbhaaGreatDoor
