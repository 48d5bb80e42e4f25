/- api.Delta as an abstract value. -/
import Derived.WideShapes
import Derived.Laws.Strings
import Derived.Test.YtnkakofcejkhiaaDoorGa1
import Derived.Test.YtnkakofcejkhiaaDoorGa2
import Derived.Test.YtnkakofcejkhiaaDoorGa6
import Derived.Test.YtnkakofcejkhiaaDoorGa7
import Derived.Test.YtnkakofcejkhiaaDoorGa13
import Derived.Test.YtnkakofcejkhiaaDoorGa15
import Derived.Test.YtnkakofcejkhiaaDoorGa17
set_option linter.unusedSimpArgs false
set_option linter.unusedVariables false
namespace Go.Proofs.YtnkakofcejkhiaaDoor
open Go.RowKit Go.Lib

def Delta.av (x : Delta) : AV := .agg [.int x.time, .sl (x.row.map Val.av), .int x.n]
@[simp] theorem Delta.av_nt (x : Delta) : x.av.nt = true := rfl
@[simp] theorem Delta.av_sure (x : Delta) : x.av.sure = true := rfl
@[simp] theorem Delta.av_elem (x : Delta) : x.av.elem = true := rfl
@[simp] theorem Delta.av_width (x : Delta) : x.av.width = 3 := rfl
@[simp] theorem Delta.av_pub (x : Delta) : x.av.pub = x.av := by unfold Delta.av; rw [AV.pub]; simp only [AV.pubs_cons, AV.pubs_nil, AV.pub_v, pubV, AV.pub_sl]
@[simp] theorem Delta.av_cells (x : Delta) : x.av.cells = [.int x.time, .sl (x.row.map Val.av), .int x.n] := rfl
@[simp] theorem Delta.av_fold (x : Delta) : AV.agg [.int x.time, .sl (x.row.map Val.av), .int x.n] = x.av := rfl
@[simp] theorem Delta.av_val? (x : Delta) : x.av.val? = none := rfl
@[simp] theorem Delta.rd_all (x : Delta) (σ : Nat → AB) : rdAt σ true 3 (.ep x.av 0) = some x.av := rfl
@[simp] theorem Delta.rd_0 (x : Delta) (σ : Nat → AB) (n : Nat) : rdAt σ false n (.ep x.av 0) = some (.int x.time) := rfl
@[simp] theorem Delta.rd_1 (x : Delta) (σ : Nat → AB) (n : Nat) : rdAt σ false n (.ep x.av 1) = some (.sl (x.row.map Val.av)) := rfl
@[simp] theorem Delta.rd_2 (x : Delta) (σ : Nat → AB) (n : Nat) : rdAt σ false n (.ep x.av 2) = some (.int x.n) := rfl
@[simp] theorem Delta.av_cl (x : Delta) (m : Nat) : x.av.cl m := by unfold Delta.av; simp [-Delta.av_fold]
@[simp] theorem Delta.avs_cl (l : List Delta) (m : Nat) : AV.cls m (l.map Delta.av) := AV.cls_map (fun f => f.av_cl m) l
@[simp] theorem Delta.avs_wid (l : List Delta) : AV.wid (l.map Delta.av) 3 := AV.wid_map (f := Delta.av) (fun a => a.av_width) l
@[simp] theorem Delta.avs_elms (l : List Delta) : AV.elms (l.map Delta.av) := AV.elms_map (f := Delta.av) (fun a => a.av_elem) l
theorem Delta.d_av (x : Delta) : x.d.av = x.av := by
  simp only [Delta.d, Delta.av, D.av, D.cs, D.avs_map, List.map_map, List.nil_append, List.cons_append, List.append_nil]
  rw [show D.av ∘ Val.d = Val.av from funext Val.d_av]
  try rfl
theorem Delta.ds_av (l : List Delta) : (D.sl (l.map Delta.d)).av = .sl (l.map Delta.av) := by
  rw [D.av, D.avs_map, List.map_map]
  first
  | rfl
  | (congr 1; exact List.map_congr_left fun x _ => x.d_av)
theorem Delta.flat {w : World} {x : Delta} {cs : List Value} (h : Rd w Any x.d cs) : RR1 (St.flat w) x.av (.agg cs.toArray) := by
  have := flat_rc h
  rw [Delta.d_av, Delta.av, RC] at this
  exact ⟨cs, rfl, this⟩
theorem Delta.flats {w : World} {l : List Delta} {v : Value} (h : Rd w Any (.sl (l.map Delta.d)) [v]) : RR1 (St.flat w) (.sl (l.map Delta.av)) v := by
  have := flat_rc h
  rw [Delta.ds_av] at this
  exact this
end Go.Proofs.YtnkakofcejkhiaaDoor

/- api.Ins as an abstract value. -/
namespace Go.Proofs.YtnkakofcejkhiaaDoor
open Go.RowKit Go.Lib

def Ins.av (x : Ins) : AV := .agg [.int x.op, .int x.to, .int x.a, .int x.b, .int x.c, .int x.n, .str x.s]
@[simp] theorem Ins.av_nt (x : Ins) : x.av.nt = true := rfl
@[simp] theorem Ins.av_sure (x : Ins) : x.av.sure = true := rfl
@[simp] theorem Ins.av_elem (x : Ins) : x.av.elem = true := rfl
@[simp] theorem Ins.av_width (x : Ins) : x.av.width = 7 := rfl
@[simp] theorem Ins.av_pub (x : Ins) : x.av.pub = x.av := by unfold Ins.av; rw [AV.pub]; simp only [AV.pubs_cons, AV.pubs_nil, AV.pub_v, pubV, AV.pub_sl]
@[simp] theorem Ins.av_cells (x : Ins) : x.av.cells = [.int x.op, .int x.to, .int x.a, .int x.b, .int x.c, .int x.n, .str x.s] := rfl
@[simp] theorem Ins.av_fold (x : Ins) : AV.agg [.int x.op, .int x.to, .int x.a, .int x.b, .int x.c, .int x.n, .str x.s] = x.av := rfl
@[simp] theorem Ins.av_val? (x : Ins) : x.av.val? = none := rfl
@[simp] theorem Ins.rd_all (x : Ins) (σ : Nat → AB) : rdAt σ true 7 (.ep x.av 0) = some x.av := rfl
@[simp] theorem Ins.rd_0 (x : Ins) (σ : Nat → AB) (n : Nat) : rdAt σ false n (.ep x.av 0) = some (.int x.op) := rfl
@[simp] theorem Ins.rd_1 (x : Ins) (σ : Nat → AB) (n : Nat) : rdAt σ false n (.ep x.av 1) = some (.int x.to) := rfl
@[simp] theorem Ins.rd_2 (x : Ins) (σ : Nat → AB) (n : Nat) : rdAt σ false n (.ep x.av 2) = some (.int x.a) := rfl
@[simp] theorem Ins.rd_3 (x : Ins) (σ : Nat → AB) (n : Nat) : rdAt σ false n (.ep x.av 3) = some (.int x.b) := rfl
@[simp] theorem Ins.rd_4 (x : Ins) (σ : Nat → AB) (n : Nat) : rdAt σ false n (.ep x.av 4) = some (.int x.c) := rfl
@[simp] theorem Ins.rd_5 (x : Ins) (σ : Nat → AB) (n : Nat) : rdAt σ false n (.ep x.av 5) = some (.int x.n) := rfl
@[simp] theorem Ins.rd_6 (x : Ins) (σ : Nat → AB) (n : Nat) : rdAt σ false n (.ep x.av 6) = some (.str x.s) := rfl
@[simp] theorem Ins.av_cl (x : Ins) (m : Nat) : x.av.cl m := by unfold Ins.av; simp [-Ins.av_fold]
@[simp] theorem Ins.avs_cl (l : List Ins) (m : Nat) : AV.cls m (l.map Ins.av) := AV.cls_map (fun f => f.av_cl m) l
@[simp] theorem Ins.avs_wid (l : List Ins) : AV.wid (l.map Ins.av) 7 := AV.wid_map (f := Ins.av) (fun a => a.av_width) l
@[simp] theorem Ins.avs_elms (l : List Ins) : AV.elms (l.map Ins.av) := AV.elms_map (f := Ins.av) (fun a => a.av_elem) l
theorem Ins.q : qinfo Tryd.prog 68 = some [(0, 0), (1, 0), (2, 0), (3, 0), (4, 0), (5, 0), (6, 2)] := by kernel_rfl
def Ins.eqB (x y : Ins) : Bool := ((x.op == y.op) && ((x.to == y.to) && ((x.a == y.a) && ((x.b == y.b) && ((x.c == y.c) && ((x.n == y.n) && (x.s.toList == y.s.toList)))))))
@[simp] theorem Ins.aeq (x y : Ins) : Proofs.YtnkakofcejkhiaaDoor.aeq Tryd.prog .eql 68 x.av y.av = some (Ins.eqB x y) := by
  simp only [Proofs.YtnkakofcejkhiaaDoor.aeq, aeqS, Ins.q, Ins.av, feq, feq1, Ins.eqB]
  simp
@[simp] theorem Ins.aneq (x y : Ins) : Proofs.YtnkakofcejkhiaaDoor.aeq Tryd.prog .neq 68 x.av y.av = some (!Ins.eqB x y) := by
  simp only [Proofs.YtnkakofcejkhiaaDoor.aeq, aeqS, Ins.q, Ins.av, feq, feq1, Ins.eqB]
  simp
theorem Ins.eqB_iff (x y : Ins) : Ins.eqB x y = true ↔ x = y := by
  obtain ⟨a0, a1, a2, a3, a4, a5, a6⟩ := x
  obtain ⟨b0, b1, b2, b3, b4, b5, b6⟩ := y
  simp only [Ins.eqB, Bool.and_eq_true, beq_iff_eq, Ins.mk.injEq, ByteArray.toList_eq]
  have e6 : a6.data.toList = b6.data.toList ↔ a6 = b6 := ⟨fun h => WideShapes.bytes_inj h, fun h => by rw [h]⟩
  rw [e6]
theorem Ins.d_av (x : Ins) : x.d.av = x.av := rfl
theorem Ins.ds_av (l : List Ins) : (D.sl (l.map Ins.d)).av = .sl (l.map Ins.av) := by
  rw [D.av, D.avs_map, List.map_map]
  first
  | rfl
  | (congr 1; exact List.map_congr_left fun x _ => x.d_av)
theorem Ins.flat {w : World} {x : Ins} {cs : List Value} (h : Rd w Any x.d cs) : RR1 (St.flat w) x.av (.agg cs.toArray) := by
  have := flat_rc h
  rw [Ins.d_av, Ins.av, RC] at this
  exact ⟨cs, rfl, this⟩
theorem Ins.flats {w : World} {l : List Ins} {v : Value} (h : Rd w Any (.sl (l.map Ins.d)) [v]) : RR1 (St.flat w) (.sl (l.map Ins.av)) v := by
  have := flat_rc h
  rw [Ins.ds_av] at this
  exact this
end Go.Proofs.YtnkakofcejkhiaaDoor

/- Slices that a call does not make: parts of them. -/
namespace Go.Proofs.YtnkakofcejkhiaaDoor
@[simp] theorem AV.cls_take {m : Nat} {l : List AV} (h : AV.cls m l) (k : Nat) : AV.cls m (l.take k) := AV.cls_iff.2 fun x hx => AV.cls_iff.1 h x (List.mem_of_mem_take hx)
@[simp] theorem AV.cls_drop {m : Nat} {l : List AV} (h : AV.cls m l) (k : Nat) : AV.cls m (l.drop k) := AV.cls_iff.2 fun x hx => AV.cls_iff.1 h x (List.mem_of_mem_drop hx)
@[simp] theorem AV.cls_replicate {m n : Nat} {x : AV} (h : x.cl m) : AV.cls m (List.replicate n x) := AV.cls_iff.2 fun y hy => by rw [(List.mem_replicate.1 hy).2]; exact h
theorem loc_nil {σ : Nat → AB} {n0 : Nat} (h : Fin σ n0) : loc σ n0 [] = σ := by
  funext r
  unfold loc
  split
  · rfl
  · rename_i hr; rw [h r (by omega)]; rfl
end Go.Proofs.YtnkakofcejkhiaaDoor

/- Expressions and their like as abstract values. -/
namespace Go.Proofs.YtnkakofcejkhiaaDoor
open Go.RowKit Go.Lib

mutual
def Ex.av : Ex → AV
  | .mk o n s l => .agg [.int o, .int n, .str s, .sl (Ex.avs l)]
def Ex.avs : List Ex → List AV
  | [] => []
  | e :: l => e.av :: Ex.avs l
end
theorem Ex.avs_map : ∀ l : List Ex, Ex.avs l = l.map Ex.av
  | [] => by rw [Ex.avs]; rfl
  | e :: l => by rw [Ex.avs, Ex.avs_map l]; rfl
@[simp] theorem Ex.av_mk (o n : Int) (s : ByteArray) (l : List Ex) : (Ex.mk o n s l).av = .agg [.int o, .int n, .str s, .sl (l.map Ex.av)] := by
  rw [Ex.av, Ex.avs_map]
theorem Ex.av_eq (e : Ex) : e.av = .agg [.int e.op, .int e.n, .str e.s, .sl (e.args.map Ex.av)] := by
  cases e; rw [Ex.av_mk]; rfl
@[simp] theorem Ex.av_fold (e : Ex) : AV.agg [.int e.op, .int e.n, .str e.s, .sl (e.args.map Ex.av)] = e.av := e.av_eq.symm
@[simp] theorem Ex.av_nt (e : Ex) : e.av.nt = true := by rw [Ex.av_eq]; rfl
@[simp] theorem Ex.av_pub (e : Ex) : e.av.pub = e.av := by rw [Ex.av_eq, AV.pub]; simp only [AV.pubs_cons, AV.pubs_nil, AV.pub_v, pubV, AV.pub_sl]
@[simp] theorem Ex.av_sure (e : Ex) : e.av.sure = true := by rw [Ex.av_eq]; rfl
@[simp] theorem Ex.av_cells (e : Ex) : e.av.cells = [.int e.op, .int e.n, .str e.s, .sl (e.args.map Ex.av)] := by rw [Ex.av_eq]; rfl
@[simp] theorem Ex.rd_all (e : Ex) (σ : Nat → AB) : rdAt σ true 4 (.ep e.av 0) = some e.av := by rw [Ex.av_eq]; rfl
@[simp] theorem Ex.rd_0 (e : Ex) (σ : Nat → AB) (n : Nat) : rdAt σ false n (.ep e.av 0) = some (.int e.op) := by rw [Ex.av_eq]; rfl
@[simp] theorem Ex.rd_1 (e : Ex) (σ : Nat → AB) (n : Nat) : rdAt σ false n (.ep e.av 1) = some (.int e.n) := by rw [Ex.av_eq]; rfl
@[simp] theorem Ex.rd_2 (e : Ex) (σ : Nat → AB) (n : Nat) : rdAt σ false n (.ep e.av 2) = some (.str e.s) := by rw [Ex.av_eq]; rfl
@[simp] theorem Ex.rd_3 (e : Ex) (σ : Nat → AB) (n : Nat) : rdAt σ false n (.ep e.av 3) = some (.sl (e.args.map Ex.av)) := by rw [Ex.av_eq]; rfl
@[simp] theorem Ex.av_width (e : Ex) : e.av.width = 4 := by rw [Ex.av_eq]; rfl
@[simp] theorem Ex.av_elem (e : Ex) : e.av.elem = true := by rw [Ex.av_eq]; rfl
@[simp] theorem Ex.av_cl (e : Ex) (m : Nat) : e.av.cl m := by
  induction e using Ex.ind with | h o n s l ih => ?_
  rw [Ex.av_mk, AV.cl]
  simp only [AV.cls, AV.cl, true_and, and_true]
  rw [AV.cls_iff]
  intro x hx
  obtain ⟨e, he, rfl⟩ := List.mem_map.1 hx
  exact ih e he
@[simp] theorem Ex.avs_cl (l : List Ex) (m : Nat) : AV.cls m (l.map Ex.av) := by
  rw [AV.cls_iff]
  intro x hx
  obtain ⟨e, -, rfl⟩ := List.mem_map.1 hx
  exact e.av_cl m

/- functions -/
def Ex.cells (e : Ex) : List AV := [.int e.op, .int e.n, .str e.s, .sl (e.args.map Ex.av)]
def Fn.av (f : Fn) : AV := .agg [.str f.name, .sl (f.params.map AV.int), .int f.res, .int f.body.op, .int f.body.n, .str f.body.s, .sl (f.body.args.map Ex.av)]
@[simp] theorem Fn.av_nt (f : Fn) : f.av.nt = true := rfl
@[simp] theorem Fn.av_sure (f : Fn) : f.av.sure = true := rfl
@[simp] theorem Fn.av_elem (f : Fn) : f.av.elem = true := rfl
@[simp] theorem Fn.av_width (f : Fn) : f.av.width = 7 := rfl
@[simp] theorem Fn.av_pub (f : Fn) : f.av.pub = f.av := by unfold Fn.av; rw [AV.pub]; simp only [AV.pubs_cons, AV.pubs_nil, AV.pub_v, pubV, AV.pub_sl]
@[simp] theorem Fn.av_cells (f : Fn) : f.av.cells = [.str f.name, .sl (f.params.map AV.int), .int f.res, .int f.body.op, .int f.body.n, .str f.body.s, .sl (f.body.args.map Ex.av)] := rfl
@[simp] theorem Fn.av_fold (f : Fn) : AV.agg [.str f.name, .sl (f.params.map AV.int), .int f.res, .int f.body.op, .int f.body.n, .str f.body.s, .sl (f.body.args.map Ex.av)] = f.av := rfl
@[simp] theorem Fn.av_cl (f : Fn) (m : Nat) : f.av.cl m := by unfold Fn.av; simp [-Fn.av_fold]
@[simp] theorem Fn.rd_all (f : Fn) (σ : Nat → AB) : rdAt σ true 7 (.ep f.av 0) = some f.av := rfl
@[simp] theorem Fn.rd_0 (f : Fn) (σ : Nat → AB) (n : Nat) : rdAt σ false n (.ep f.av 0) = some (.str f.name) := rfl
@[simp] theorem Fn.rd_1 (f : Fn) (σ : Nat → AB) (n : Nat) : rdAt σ false n (.ep f.av 1) = some (.sl (f.params.map AV.int)) := rfl
@[simp] theorem Fn.rd_2 (f : Fn) (σ : Nat → AB) (n : Nat) : rdAt σ false n (.ep f.av 2) = some (.int f.res) := rfl
@[simp] theorem Fn.rd_3 (f : Fn) (σ : Nat → AB) : rdAt σ true 4 (.ep f.av 3) = some f.body.av := by rw [Ex.av_eq]; rfl
@[simp] theorem Fn.rd_30 (f : Fn) (σ : Nat → AB) (n : Nat) : rdAt σ false n (.ep f.av 3) = some (.int f.body.op) := rfl
@[simp] theorem Fn.rd_31 (f : Fn) (σ : Nat → AB) (n : Nat) : rdAt σ false n (.ep f.av 4) = some (.int f.body.n) := rfl
@[simp] theorem Fn.rd_32 (f : Fn) (σ : Nat → AB) (n : Nat) : rdAt σ false n (.ep f.av 5) = some (.str f.body.s) := rfl
@[simp] theorem Fn.rd_33 (f : Fn) (σ : Nat → AB) (n : Nat) : rdAt σ false n (.ep f.av 6) = some (.sl (f.body.args.map Ex.av)) := rfl
@[simp] theorem Fn.avs_cl (l : List Fn) (m : Nat) : AV.cls m (l.map Fn.av) := AV.cls_map (fun f => f.av_cl m) l
@[simp] theorem Ex.avs_wid (l : List Ex) : AV.wid (l.map Ex.av) 4 := AV.wid_map (f := Ex.av) (fun a => a.av_width) l
@[simp] theorem Ex.avs_elms (l : List Ex) : AV.elms (l.map Ex.av) := AV.elms_map (f := Ex.av) (fun a => a.av_elem) l
@[simp] theorem Fn.avs_wid (l : List Fn) : AV.wid (l.map Fn.av) 7 := AV.wid_map (f := Fn.av) (fun a => a.av_width) l
@[simp] theorem Fn.avs_elms (l : List Fn) : AV.elms (l.map Fn.av) := AV.elms_map (f := Fn.av) (fun a => a.av_elem) l
end Go.Proofs.YtnkakofcejkhiaaDoor

/- A slice that could grow, from now on only read. -/
namespace Go.Proofs.YtnkakofcejkhiaaDoor
open Go.RowKit Go.Lib
theorem awp_pubR {P : Program} {c : Code} {Q : Exit → AS → Prop} {n n0 : Nat} {t : Nat → AV} {σ : Nat → AB} {L : List AB} (d : Nat) {r : Nat} {l : List AV} (hd : t d = .gs r l)
    (h : awp P c Q ⟨n, upd t d (.sl l), σ, n0, L⟩) : awp P c Q ⟨n, t, σ, n0, L⟩ := by
  intro X0 a w ⟨X, hc⟩
  refine h X0 a w ⟨X, ⟨hc.w, hc.σ, hc.sr, hc.fr, hc.size, fun k => ?_, hc.defers, hc.fin⟩⟩
  show RR X (upd t d _ k) _
  unfold upd
  by_cases hk : k = d
  · subst hk
    rw [if_pos rfl]
    have h1 := hc.regs k
    change RR X (t k) _ at h1
    rw [hd] at h1
    have h2 : RC X (.gs r l) [_] := h1
    have h3 := RC.pub1 (x := .gs r l) rfl h2
    rw [AV.pub] at h3
    exact h3
  · rw [if_neg hk]; exact hc.regs k
end Go.Proofs.YtnkakofcejkhiaaDoor

/- Walks: the type of an expression, and whether functions are right, as the reference finds them. -/
namespace Go.Proofs.YtnkakofcejkhiaaDoor
open Go.RowKit Go.Lib

theorem rkind_g (n : Int) : Gives Tryd.prog 148 [.int n] (.bool (kindB n)) := by
  have e : kindB n = (decide (0 ≤ n) && decide (n < 3)) := rfl
  rw [e]
  by_cases h : 0 ≤ n
  · refine gives_of_awp Tryd.func148 Tryd.ntmps148 rfl rfl (by decide) rfl (by intro n; simp) fun σ n0 hcl hft => ?_
    repeat' (first | ((first | ((with_reducible refine aguard (fun hg => ?_) (fun hg => ?_)) <;> (try simp only [hg]) <;> (try simp only [beq_iff_eq, beq_eq_false_iff_ne, ne_eq, decide_eq_true_eq, decide_eq_false_iff_not, bne_iff_ne, bne_eq_false_iff_eq] at hg) <;> (try (first | simp only [eq_false hg, if_true, if_false] | simp only [eq_true hg, if_true, if_false]))) | with_reducible refine aseq_step ?_ | with_reducible refine any_step' ?_ | with_reducible refine aseq_end ?_ | with_reducible refine any_end' ?_ | refine awp_condC ?_ | refine awp_exit ?_ | refine awp_skip ?_ | refine awp_ret ?_) <;> (try simp (disch := first | omega | simp) [wrap_i64, -aseqC, -anyC, h])) | ((first | with_reducible refine sideG ?_ ?_ | with_reducible refine sideG2 ?_ ?_ | with_reducible refine sideS ?_ ?_ | with_reducible refine sideS2 ?_ ?_ | with_reducible refine sideS3 ?_ ?_ | with_reducible refine sideA ?_ ?_ | with_reducible refine sideA2 ?_ ?_ | with_reducible refine sideA3 ?_ ?_); (first | omega | assumption | (simp; done))) | (refine awp_seq_k fun K hK => ?_) | (refine awp_regionC ?_) | (refine awp_anyA true (by kernel_rfl) (by kernel_rfl) ?_) | (refine hK _ ?_; clear hK; clear K) | (clear hK; clear K; refine hK _ ?_; clear hK; clear K) | (clear hK; clear K; clear hK; clear K; refine hK _ ?_; clear hK; clear K) | refine awp_block ?_)
  · refine gives_of_awp Tryd.func148 Tryd.ntmps148 rfl rfl (by decide) rfl (by intro n; simp) fun σ n0 hcl hft => ?_
    repeat' (first | ((first | ((with_reducible refine aguard (fun hg => ?_) (fun hg => ?_)) <;> (try simp only [hg]) <;> (try simp only [beq_iff_eq, beq_eq_false_iff_ne, ne_eq, decide_eq_true_eq, decide_eq_false_iff_not, bne_iff_ne, bne_eq_false_iff_eq] at hg) <;> (try (first | simp only [eq_false hg, if_true, if_false] | simp only [eq_true hg, if_true, if_false]))) | with_reducible refine aseq_step ?_ | with_reducible refine any_step' ?_ | with_reducible refine aseq_end ?_ | with_reducible refine any_end' ?_ | refine awp_condC ?_ | refine awp_exit ?_ | refine awp_skip ?_ | refine awp_ret ?_) <;> (try simp (disch := first | omega | simp) [wrap_i64, -aseqC, -anyC, h])) | ((first | with_reducible refine sideG ?_ ?_ | with_reducible refine sideG2 ?_ ?_ | with_reducible refine sideS ?_ ?_ | with_reducible refine sideS2 ?_ ?_ | with_reducible refine sideS3 ?_ ?_ | with_reducible refine sideA ?_ ?_ | with_reducible refine sideA2 ?_ ?_ | with_reducible refine sideA3 ?_ ?_); (first | omega | assumption | (simp; done))) | (refine awp_seq_k fun K hK => ?_) | (refine awp_regionC ?_) | (refine awp_anyA true (by kernel_rfl) (by kernel_rfl) ?_) | (refine hK _ ?_; clear hK; clear K) | (clear hK; clear K; refine hK _ ?_; clear hK; clear K) | (clear hK; clear K; clear hK; clear K; refine hK _ ?_; clear hK; clear K) | refine awp_block ?_)
def atX (l : List Int) (n : Int) : Int := if 0 ≤ n ∧ n < l.length then l.getD n.toNat 0 else 0
theorem rat_g (l : List Int) (n : Int) : Gives Tryd.prog 154 [.sl (l.map AV.int), .int n] (.tup [.int (atX l n), .bool (pickT l n).isSome]) := by
  by_cases h0 : n < 0
  · have e1 : atX l n = 0 := by unfold atX; rw [if_neg (by omega)]
    have e2 : (pickT l n).isSome = false := by unfold pickT; rw [if_pos h0]; rfl
    rw [e1, e2]
    refine gives_of_awp Tryd.func154 Tryd.ntmps154 rfl rfl (by decide) rfl (by intro n; simp) fun σ n0 hcl hft => ?_
    repeat' (first | ((first | ((with_reducible refine aguard (fun hg => ?_) (fun hg => ?_)) <;> (try simp only [hg]) <;> (try simp only [beq_iff_eq, beq_eq_false_iff_ne, ne_eq, decide_eq_true_eq, decide_eq_false_iff_not, bne_iff_ne, bne_eq_false_iff_eq] at hg) <;> (try (first | simp only [eq_false hg, if_true, if_false] | simp only [eq_true hg, if_true, if_false]))) | with_reducible refine aseq_step ?_ | with_reducible refine any_step' ?_ | with_reducible refine aseq_end ?_ | with_reducible refine any_end' ?_ | refine awp_condC ?_ | refine awp_exit ?_ | refine awp_skip ?_ | refine awp_ret ?_) <;> (try simp (disch := first | omega | simp) [wrap_i64, -aseqC, -anyC, h0])) | ((first | with_reducible refine sideG ?_ ?_ | with_reducible refine sideG2 ?_ ?_ | with_reducible refine sideS ?_ ?_ | with_reducible refine sideS2 ?_ ?_ | with_reducible refine sideS3 ?_ ?_ | with_reducible refine sideA ?_ ?_ | with_reducible refine sideA2 ?_ ?_ | with_reducible refine sideA3 ?_ ?_); (first | omega | assumption | (simp; done))) | (refine awp_seq_k fun K hK => ?_) | (refine awp_regionC ?_) | (refine awp_anyA true (by kernel_rfl) (by kernel_rfl) ?_) | (refine hK _ ?_; clear hK; clear K) | (clear hK; clear K; refine hK _ ?_; clear hK; clear K) | (clear hK; clear K; clear hK; clear K; refine hK _ ?_; clear hK; clear K) | refine awp_block ?_)
  obtain ⟨k, rfl⟩ : ∃ k : Nat, n = k := ⟨n.toNat, by omega⟩
  by_cases h1 : k < l.length
  · have e1 : atX l k = l[k] := by unfold atX; rw [if_pos (by omega), List.getD_eq_getElem?_getD]; simp [h1]
    have e2 : (pickT l k).isSome = kindB l[k] := by
      unfold pickT
      rw [if_neg h0, Int.toNat_natCast, List.getElem?_eq_getElem h1]
      simp only
      cases kindB l[k] <;> rfl
    rw [e1, e2]
    have c := rkind_g l[k]
    have h3 : ¬ l.length ≤ k := by omega
    refine gives_of_awp Tryd.func154 Tryd.ntmps154 rfl rfl (by decide) rfl (by intro n; simp) fun σ n0 hcl hft => ?_
    repeat' (first | ((first | ((with_reducible refine aguard (fun hg => ?_) (fun hg => ?_)) <;> (try simp only [hg]) <;> (try simp only [beq_iff_eq, beq_eq_false_iff_ne, ne_eq, decide_eq_true_eq, decide_eq_false_iff_not, bne_iff_ne, bne_eq_false_iff_eq] at hg) <;> (try (first | simp only [eq_false hg, if_true, if_false] | simp only [eq_true hg, if_true, if_false]))) | with_reducible refine aseq_step ?_ | with_reducible refine any_step' ?_ | with_reducible refine aseq_end ?_ | with_reducible refine any_end' ?_ | refine acall (c) ?_ | refine agives (c) ?_ | refine awp_condC ?_ | refine awp_exit ?_ | refine awp_skip ?_ | refine awp_ret ?_) <;> (try simp (disch := first | omega | simp) [wrap_i64, -aseqC, -anyC, h0, h1, h3])) | ((first | with_reducible refine sideG ?_ ?_ | with_reducible refine sideG2 ?_ ?_ | with_reducible refine sideS ?_ ?_ | with_reducible refine sideS2 ?_ ?_ | with_reducible refine sideS3 ?_ ?_ | with_reducible refine sideA ?_ ?_ | with_reducible refine sideA2 ?_ ?_ | with_reducible refine sideA3 ?_ ?_); (first | omega | assumption | (simp; done))) | (refine awp_seq_k fun K hK => ?_) | (refine awp_regionC ?_) | (refine awp_anyA true (by kernel_rfl) (by kernel_rfl) ?_) | (refine hK _ ?_; clear hK; clear K) | (clear hK; clear K; refine hK _ ?_; clear hK; clear K) | (clear hK; clear K; clear hK; clear K; refine hK _ ?_; clear hK; clear K) | refine awp_block ?_)
  · have e1 : atX l k = 0 := by unfold atX; rw [if_neg (by omega)]
    have e2 : (pickT l k).isSome = false := by
      unfold pickT
      rw [if_neg h0, Int.toNat_natCast, List.getElem?_eq_none (by omega)]; rfl
    rw [e1, e2]
    have h2 : (l.length : Int) ≤ k := by omega
    refine gives_of_awp Tryd.func154 Tryd.ntmps154 rfl rfl (by decide) rfl (by intro n; simp) fun σ n0 hcl hft => ?_
    repeat' (first | ((first | ((with_reducible refine aguard (fun hg => ?_) (fun hg => ?_)) <;> (try simp only [hg]) <;> (try simp only [beq_iff_eq, beq_eq_false_iff_ne, ne_eq, decide_eq_true_eq, decide_eq_false_iff_not, bne_iff_ne, bne_eq_false_iff_eq] at hg) <;> (try (first | simp only [eq_false hg, if_true, if_false] | simp only [eq_true hg, if_true, if_false]))) | with_reducible refine aseq_step ?_ | with_reducible refine any_step' ?_ | with_reducible refine aseq_end ?_ | with_reducible refine any_end' ?_ | refine awp_condC ?_ | refine awp_exit ?_ | refine awp_skip ?_ | refine awp_ret ?_) <;> (try simp (disch := first | omega | simp) [wrap_i64, -aseqC, -anyC, h0, h1, h2])) | ((first | with_reducible refine sideG ?_ ?_ | with_reducible refine sideG2 ?_ ?_ | with_reducible refine sideS ?_ ?_ | with_reducible refine sideS2 ?_ ?_ | with_reducible refine sideS3 ?_ ?_ | with_reducible refine sideA ?_ ?_ | with_reducible refine sideA2 ?_ ?_ | with_reducible refine sideA3 ?_ ?_); (first | omega | assumption | (simp; done))) | (refine awp_seq_k fun K hK => ?_) | (refine awp_regionC ?_) | (refine awp_anyA true (by kernel_rfl) (by kernel_rfl) ?_) | (refine hK _ ?_; clear hK; clear K) | (clear hK; clear K; refine hK _ ?_; clear hK; clear K) | (clear hK; clear K; clear hK; clear K; refine hK _ ?_; clear hK; clear K) | refine awp_block ?_)
def numP (op : Int) : Int := if 0 ≤ op ∧ op ≤ 5 then 0 else if op = 6 ∨ op = 7 ∨ op = 20 then 1 else if op = 21 then 3 else if 5 < op ∧ op < 21 then 2 else -1
theorem op_cases (o : Int) : o = 0 ∨ o = 1 ∨ o = 2 ∨ o = 3 ∨ o = 4 ∨ o = 5 ∨ o = 6 ∨ o = 7 ∨ o = 8 ∨ o = 9 ∨ o = 10 ∨ o = 11 ∨ o = 12 ∨ o = 13 ∨ o = 14 ∨ o = 15 ∨ o = 16 ∨ o = 17 ∨ o = 18 ∨ o = 19 ∨ o = 20 ∨ o = 21 ∨ o = 22 ∨ (o < 0 ∨ 22 < o) := by omega
set_option maxHeartbeats 4000000 in
theorem rnumber_g (op : Int) : Gives Tryd.prog 153 [.int op] (.int (numP op)) := by
  obtain ⟨N, hN⟩ : ∃ N, N = numP op := ⟨_, rfl⟩
  rw [← hN]
  refine gives_of_awp Tryd.func153 Tryd.ntmps153 rfl rfl (by decide) rfl (by intro n; simp) fun σ n0 hcl hft => ?_
  repeat' (first | ((first | ((with_reducible refine aguard (fun hg => ?_) (fun hg => ?_)) <;> (try simp only [hg]) <;> (try simp only [beq_iff_eq, beq_eq_false_iff_ne, ne_eq, decide_eq_true_eq, decide_eq_false_iff_not, bne_iff_ne, bne_eq_false_iff_eq] at hg) <;> (try (first | simp only [eq_false hg, if_true, if_false] | simp only [eq_true hg, if_true, if_false]))) | with_reducible refine aseq_step ?_ | with_reducible refine any_step' ?_ | with_reducible refine aseq_end ?_ | with_reducible refine any_end' ?_ | refine awp_condC ?_ | refine awp_exit ?_ | refine awp_skip ?_ | refine awp_ret ?_) <;> (try simp (disch := first | omega | simp) [wrap_i64, -aseqC, -anyC])) | ((first | with_reducible refine sideG ?_ ?_ | with_reducible refine sideG2 ?_ ?_ | with_reducible refine sideS ?_ ?_ | with_reducible refine sideS2 ?_ ?_ | with_reducible refine sideS3 ?_ ?_ | with_reducible refine sideA ?_ ?_ | with_reducible refine sideA2 ?_ ?_ | with_reducible refine sideA3 ?_ ?_); (first | omega | assumption | (simp; done))) | (refine awp_seq_k fun K hK => ?_) | (refine awp_regionC ?_) | (refine awp_anyA true (by kernel_rfl) (by kernel_rfl) ?_) | (refine hK _ ?_; clear hK; clear K) | (clear hK; clear K; refine hK _ ?_; clear hK; clear K) | (clear hK; clear K; clear hK; clear K; refine hK _ ?_; clear hK; clear K) | refine awp_block ?_)
  all_goals (rw [hN]; unfold numP; (repeat' split) <;> omega)
set_option maxHeartbeats 4000000 in
theorem rlevels_g' (e : Ex) : levels e ≤ 1000000 → Gives Tryd.prog 76 [e.av] (.int (levels e)) := by
  induction e using Ex.ind with | h o m s l ih => ?_
  intro hl
  rw [levels] at hl ⊢
  refine gives_of_awp Tryd.func76 Tryd.ntmps76 rfl rfl (by decide) rfl (by intro n; simp) fun σ n0 hcl hft => ?_
  have hfl : l.length ≤ 9223372036854775807 := by
    simp [AV.fitss, AV.fits] at hft
    exact hft.1
  repeat' (first | ((first | ((with_reducible refine aguard (fun hg => ?_) (fun hg => ?_)) <;> (try simp only [hg]) <;> (try simp only [beq_iff_eq, beq_eq_false_iff_ne, ne_eq, decide_eq_true_eq, decide_eq_false_iff_not, bne_iff_ne, bne_eq_false_iff_eq] at hg) <;> (try (first | simp only [eq_false hg, if_true, if_false] | simp only [eq_true hg, if_true, if_false]))) | with_reducible refine aseq_step ?_ | with_reducible refine any_step' ?_ | with_reducible refine aseq_end ?_ | with_reducible refine any_end' ?_ | refine awp_condC ?_ | refine awp_exit ?_ | refine awp_skip ?_ | refine awp_ret ?_) <;> (try simp (disch := first | omega | simp) [wrap_i64, -aseqC, -anyC])) | ((first | with_reducible refine sideG ?_ ?_ | with_reducible refine sideG2 ?_ ?_ | with_reducible refine sideS ?_ ?_ | with_reducible refine sideS2 ?_ ?_ | with_reducible refine sideS3 ?_ ?_ | with_reducible refine sideA ?_ ?_ | with_reducible refine sideA2 ?_ ?_ | with_reducible refine sideA3 ?_ ?_); (first | omega | assumption | (simp; done))) | (refine awp_seq_k fun K hK => ?_) | (refine awp_regionC ?_) | (refine awp_anyA true (by kernel_rfl) (by kernel_rfl) ?_) | (refine hK _ ?_; clear hK; clear K) | (clear hK; clear K; refine hK _ ?_; clear hK; clear K) | (clear hK; clear K; clear hK; clear K; refine hK _ ?_; clear hK; clear K) | refine awp_block ?_)
  refine awp_loopC hcl (fun k : Nat => [(1, .ptr n0 0), (3, .int (levelsL (l.take k) 0)), (4, .int k)]) (fun _ => [.cells [.int o, .int m, .str s, .sl (l.map Ex.av)] 52]) (fun k => k ≤ l.length) (fun k => l.length - k) 0 (Nat.zero_le _) (by simp [levelsL]) fun k hk => ?_
  by_cases hlt : k < l.length
  · have c := ih l[k] (List.getElem_mem hlt) (by have := levelsL_mem l 0 l[k] (List.getElem_mem hlt); omega)
    have e1 : levelsL (l.take (k + 1)) 0 = max (levelsL (l.take k) 0) (levels l[k]) := by rw [List.take_succ_eq_append_getElem hlt, levelsL_snoc]
    repeat' (first | ((first | ((with_reducible refine aguard (fun hg => ?_) (fun hg => ?_)) <;> (try simp only [hg]) <;> (try simp only [beq_iff_eq, beq_eq_false_iff_ne, ne_eq, decide_eq_true_eq, decide_eq_false_iff_not, bne_iff_ne, bne_eq_false_iff_eq] at hg) <;> (try (first | simp only [eq_false hg, if_true, if_false] | simp only [eq_true hg, if_true, if_false]))) | with_reducible refine aseq_step ?_ | with_reducible refine any_step' ?_ | with_reducible refine aseq_end ?_ | with_reducible refine any_end' ?_ | refine acall (c) ?_ | refine agives (c) ?_ | refine awp_condC ?_ | refine awp_exit ?_ | refine awp_skip ?_ | refine awp_ret ?_) <;> (try simp (disch := first | omega | simp) [wrap_i64, -aseqC, -anyC, hlt])) | ((first | with_reducible refine sideG ?_ ?_ | with_reducible refine sideG2 ?_ ?_ | with_reducible refine sideS ?_ ?_ | with_reducible refine sideS2 ?_ ?_ | with_reducible refine sideS3 ?_ ?_ | with_reducible refine sideA ?_ ?_ | with_reducible refine sideA2 ?_ ?_ | with_reducible refine sideA3 ?_ ?_); (first | omega | assumption | (simp; done))) | (refine awp_seq_k fun K hK => ?_) | (refine awp_regionC ?_) | (refine awp_anyA true (by kernel_rfl) (by kernel_rfl) ?_) | (refine hK _ ?_; clear hK; clear K) | (clear hK; clear K; refine hK _ ?_; clear hK; clear K) | (clear hK; clear K; clear hK; clear K; refine hK _ ?_; clear hK; clear K) | refine awp_block ?_)
    all_goals refine ⟨k + 1, by omega, by omega, ?_⟩
    all_goals simp only [e1]
    all_goals simp
    all_goals split <;> omega
  · obtain rfl : k = l.length := by omega
    rw [List.take_length]
    have hpos := (levelsL_le l 0 0 (by omega) (by omega)).1
    generalize levelsL l 0 = V at *
    repeat' (first | ((first | ((with_reducible refine aguard (fun hg => ?_) (fun hg => ?_)) <;> (try simp only [hg]) <;> (try simp only [beq_iff_eq, beq_eq_false_iff_ne, ne_eq, decide_eq_true_eq, decide_eq_false_iff_not, bne_iff_ne, bne_eq_false_iff_eq] at hg) <;> (try (first | simp only [eq_false hg, if_true, if_false] | simp only [eq_true hg, if_true, if_false]))) | with_reducible refine aseq_step ?_ | with_reducible refine any_step' ?_ | with_reducible refine aseq_end ?_ | with_reducible refine any_end' ?_ | refine awp_condC ?_ | refine awp_exit ?_ | refine awp_skip ?_ | refine awp_ret ?_) <;> (try simp (disch := first | omega | simp) [wrap_i64, -aseqC, -anyC, hlt])) | ((first | with_reducible refine sideG ?_ ?_ | with_reducible refine sideG2 ?_ ?_ | with_reducible refine sideS ?_ ?_ | with_reducible refine sideS2 ?_ ?_ | with_reducible refine sideS3 ?_ ?_ | with_reducible refine sideA ?_ ?_ | with_reducible refine sideA2 ?_ ?_ | with_reducible refine sideA3 ?_ ?_); (first | omega | assumption | (simp; done))) | (refine awp_seq_k fun K hK => ?_) | (refine awp_regionC ?_) | (refine awp_anyA true (by kernel_rfl) (by kernel_rfl) ?_) | (refine hK _ ?_; clear hK; clear K) | (clear hK; clear K; refine hK _ ?_; clear hK; clear K) | (clear hK; clear K; clear hK; clear K; refine hK _ ?_; clear hK; clear K) | refine awp_block ?_)
theorem rcall_g (F : List Fn) (n : Int) (ts : List Int) : Gives Tryd.prog 152 [.sl (F.map Fn.av), .int n, .sl (ts.map AV.int)] (.tup [.int ((callT F n ts).getD 0), .bool (callT F n ts).isSome]) := by
  obtain ⟨C, hC⟩ : ∃ C, C = callT F n ts := ⟨_, rfl⟩
  rw [← hC]
  unfold callT at hC
  by_cases h0 : n < 0
  · rw [if_pos h0] at hC
    subst hC
    refine gives_of_awp Tryd.func152 Tryd.ntmps152 rfl rfl (by decide) rfl (by intro n; simp) fun σ n0 hcl hft => ?_
    repeat' (first | ((first | ((with_reducible refine aguard (fun hg => ?_) (fun hg => ?_)) <;> (try simp only [hg]) <;> (try simp only [beq_iff_eq, beq_eq_false_iff_ne, ne_eq, decide_eq_true_eq, decide_eq_false_iff_not, bne_iff_ne, bne_eq_false_iff_eq] at hg) <;> (try (first | simp only [eq_false hg, if_true, if_false] | simp only [eq_true hg, if_true, if_false]))) | with_reducible refine aseq_step ?_ | with_reducible refine any_step' ?_ | with_reducible refine aseq_end ?_ | with_reducible refine any_end' ?_ | refine awp_condC ?_ | refine awp_exit ?_ | refine awp_skip ?_ | refine awp_ret ?_) <;> (try simp (disch := first | omega | simp) [wrap_i64, -aseqC, -anyC, h0])) | ((first | with_reducible refine sideG ?_ ?_ | with_reducible refine sideG2 ?_ ?_ | with_reducible refine sideS ?_ ?_ | with_reducible refine sideS2 ?_ ?_ | with_reducible refine sideS3 ?_ ?_ | with_reducible refine sideA ?_ ?_ | with_reducible refine sideA2 ?_ ?_ | with_reducible refine sideA3 ?_ ?_); (first | omega | assumption | (simp; done))) | (refine awp_seq_k fun K hK => ?_) | (refine awp_regionC ?_) | (refine awp_anyA true (by kernel_rfl) (by kernel_rfl) ?_) | (refine hK _ ?_; clear hK; clear K) | (clear hK; clear K; refine hK _ ?_; clear hK; clear K) | (clear hK; clear K; clear hK; clear K; refine hK _ ?_; clear hK; clear K) | refine awp_block ?_)
  obtain ⟨k, rfl⟩ : ∃ k : Nat, n = k := ⟨n.toNat, by omega⟩
  rw [if_neg h0, Int.toNat_natCast] at hC
  by_cases h1 : k < F.length
  · rw [List.getElem?_eq_getElem h1] at hC
    dsimp only at hC
    have h1' : ¬ F.length ≤ k := by omega
    obtain ⟨f, hf⟩ : ∃ f, f = F[k] := ⟨_, rfl⟩
    rw [← hf] at hC
    by_cases h2 : f.params.length = ts.length
    · refine gives_of_awp Tryd.func152 Tryd.ntmps152 rfl rfl (by decide) rfl (by intro n; simp) fun σ n0 hcl hft => ?_
      repeat' (first | ((first | ((with_reducible refine aguard (fun hg => ?_) (fun hg => ?_)) <;> (try simp only [hg]) <;> (try simp only [beq_iff_eq, beq_eq_false_iff_ne, ne_eq, decide_eq_true_eq, decide_eq_false_iff_not, bne_iff_ne, bne_eq_false_iff_eq] at hg) <;> (try (first | simp only [eq_false hg, if_true, if_false] | simp only [eq_true hg, if_true, if_false]))) | with_reducible refine aseq_step ?_ | with_reducible refine any_step' ?_ | with_reducible refine aseq_end ?_ | with_reducible refine any_end' ?_ | refine awp_condC ?_ | refine awp_exit ?_ | refine awp_skip ?_ | refine awp_ret ?_) <;> (try simp (disch := first | omega | simp) [wrap_i64, -aseqC, -anyC, h0, h1, h1', ← hf, h2])) | ((first | with_reducible refine sideG ?_ ?_ | with_reducible refine sideG2 ?_ ?_ | with_reducible refine sideS ?_ ?_ | with_reducible refine sideS2 ?_ ?_ | with_reducible refine sideS3 ?_ ?_ | with_reducible refine sideA ?_ ?_ | with_reducible refine sideA2 ?_ ?_ | with_reducible refine sideA3 ?_ ?_); (first | omega | assumption | (simp; done))) | (refine awp_seq_k fun K hK => ?_) | (refine awp_regionC ?_) | (refine awp_anyA true (by kernel_rfl) (by kernel_rfl) ?_) | (refine hK _ ?_; clear hK; clear K) | (clear hK; clear K; refine hK _ ?_; clear hK; clear K) | (clear hK; clear K; clear hK; clear K; refine hK _ ?_; clear hK; clear K) | refine awp_block ?_)
      have hts : ts.length ≤ 9223372036854775807 := by
        have := (AV.fitss_iff.1 hft) (.sl (ts.map AV.int)) (by simp)
        simp [AV.fits] at this
        exact this.1
      refine awp_loopC hcl (fun i : Nat => [(2, .sl (ts.map AV.int)), (6, .int 0), (7, .bool false), (8, .ptr n0 0), (9, .int i)]) (fun _ => [.cells f.av.cells 90]) (fun i => i ≤ ts.length ∧ ∀ j (h : j < ts.length) (h' : j < f.params.length), j < i → ts[j] = f.params[j]) (fun i => ts.length - i) 0 ⟨by omega, fun j h h' hj => by omega⟩ (by simp) fun i ⟨hi, he⟩ => ?_
      by_cases hlt : i < ts.length
      · have hlt2 : i < f.params.length := by omega
        by_cases hx : ts[i] = f.params[i]
        · repeat' (first | ((first | ((with_reducible refine aguard (fun hg => ?_) (fun hg => ?_)) <;> (try simp only [hg]) <;> (try simp only [beq_iff_eq, beq_eq_false_iff_ne, ne_eq, decide_eq_true_eq, decide_eq_false_iff_not, bne_iff_ne, bne_eq_false_iff_eq] at hg) <;> (try (first | simp only [eq_false hg, if_true, if_false] | simp only [eq_true hg, if_true, if_false]))) | with_reducible refine aseq_step ?_ | with_reducible refine any_step' ?_ | with_reducible refine aseq_end ?_ | with_reducible refine any_end' ?_ | refine awp_condC ?_ | refine awp_exit ?_ | refine awp_skip ?_ | refine awp_ret ?_) <;> (try simp (disch := first | omega | simp) [wrap_i64, -aseqC, -anyC, hlt, hlt2, hx])) | ((first | with_reducible refine sideG ?_ ?_ | with_reducible refine sideG2 ?_ ?_ | with_reducible refine sideS ?_ ?_ | with_reducible refine sideS2 ?_ ?_ | with_reducible refine sideS3 ?_ ?_ | with_reducible refine sideA ?_ ?_ | with_reducible refine sideA2 ?_ ?_ | with_reducible refine sideA3 ?_ ?_); (first | omega | assumption | (simp; done))) | (refine awp_seq_k fun K hK => ?_) | (refine awp_regionC ?_) | (refine awp_anyA true (by kernel_rfl) (by kernel_rfl) ?_) | (refine hK _ ?_; clear hK; clear K) | (clear hK; clear K; refine hK _ ?_; clear hK; clear K) | (clear hK; clear K; clear hK; clear K; refine hK _ ?_; clear hK; clear K) | refine awp_block ?_)
          all_goals
            refine ⟨i + 1, ⟨by omega, fun j h h' hj => ?_⟩, by omega, by simp⟩
            by_cases hji : j < i
            · exact he j h h' hji
            · obtain rfl : j = i := by omega
              exact hx
        · have : C = none := by rw [hC, if_neg]; intro h; exact hx (by simp only [h])
          subst this
          repeat' (first | ((first | ((with_reducible refine aguard (fun hg => ?_) (fun hg => ?_)) <;> (try simp only [hg]) <;> (try simp only [beq_iff_eq, beq_eq_false_iff_ne, ne_eq, decide_eq_true_eq, decide_eq_false_iff_not, bne_iff_ne, bne_eq_false_iff_eq] at hg) <;> (try (first | simp only [eq_false hg, if_true, if_false] | simp only [eq_true hg, if_true, if_false]))) | with_reducible refine aseq_step ?_ | with_reducible refine any_step' ?_ | with_reducible refine aseq_end ?_ | with_reducible refine any_end' ?_ | refine awp_condC ?_ | refine awp_exit ?_ | refine awp_skip ?_ | refine awp_ret ?_) <;> (try simp (disch := first | omega | simp) [wrap_i64, -aseqC, -anyC, hlt, hlt2, hx])) | ((first | with_reducible refine sideG ?_ ?_ | with_reducible refine sideG2 ?_ ?_ | with_reducible refine sideS ?_ ?_ | with_reducible refine sideS2 ?_ ?_ | with_reducible refine sideS3 ?_ ?_ | with_reducible refine sideA ?_ ?_ | with_reducible refine sideA2 ?_ ?_ | with_reducible refine sideA3 ?_ ?_); (first | omega | assumption | (simp; done))) | (refine awp_seq_k fun K hK => ?_) | (refine awp_regionC ?_) | (refine awp_anyA true (by kernel_rfl) (by kernel_rfl) ?_) | (refine hK _ ?_; clear hK; clear K) | (clear hK; clear K; refine hK _ ?_; clear hK; clear K) | (clear hK; clear K; clear hK; clear K; refine hK _ ?_; clear hK; clear K) | refine awp_block ?_)
          all_goals (exfalso; exact hx (by assumption))
      · have : C = some f.res := by
          rw [hC, if_pos]
          exact List.ext_getElem (by omega) fun j h1 h2 => (he j h2 h1 (by omega)).symm
        subst this
        repeat' (first | ((first | ((with_reducible refine aguard (fun hg => ?_) (fun hg => ?_)) <;> (try simp only [hg]) <;> (try simp only [beq_iff_eq, beq_eq_false_iff_ne, ne_eq, decide_eq_true_eq, decide_eq_false_iff_not, bne_iff_ne, bne_eq_false_iff_eq] at hg) <;> (try (first | simp only [eq_false hg, if_true, if_false] | simp only [eq_true hg, if_true, if_false]))) | with_reducible refine aseq_step ?_ | with_reducible refine any_step' ?_ | with_reducible refine aseq_end ?_ | with_reducible refine any_end' ?_ | refine awp_condC ?_ | refine awp_exit ?_ | refine awp_skip ?_ | refine awp_ret ?_) <;> (try simp (disch := first | omega | simp) [wrap_i64, -aseqC, -anyC, hlt])) | ((first | with_reducible refine sideG ?_ ?_ | with_reducible refine sideG2 ?_ ?_ | with_reducible refine sideS ?_ ?_ | with_reducible refine sideS2 ?_ ?_ | with_reducible refine sideS3 ?_ ?_ | with_reducible refine sideA ?_ ?_ | with_reducible refine sideA2 ?_ ?_ | with_reducible refine sideA3 ?_ ?_); (first | omega | assumption | (simp; done))) | (refine awp_seq_k fun K hK => ?_) | (refine awp_regionC ?_) | (refine awp_anyA true (by kernel_rfl) (by kernel_rfl) ?_) | (refine hK _ ?_; clear hK; clear K) | (clear hK; clear K; refine hK _ ?_; clear hK; clear K) | (clear hK; clear K; clear hK; clear K; refine hK _ ?_; clear hK; clear K) | refine awp_block ?_)
    · have : C = none := by rw [hC, if_neg]; intro h; rw [h] at h2; exact h2 rfl
      subst this
      refine gives_of_awp Tryd.func152 Tryd.ntmps152 rfl rfl (by decide) rfl (by intro n; simp) fun σ n0 hcl hft => ?_
      repeat' (first | ((first | ((with_reducible refine aguard (fun hg => ?_) (fun hg => ?_)) <;> (try simp only [hg]) <;> (try simp only [beq_iff_eq, beq_eq_false_iff_ne, ne_eq, decide_eq_true_eq, decide_eq_false_iff_not, bne_iff_ne, bne_eq_false_iff_eq] at hg) <;> (try (first | simp only [eq_false hg, if_true, if_false] | simp only [eq_true hg, if_true, if_false]))) | with_reducible refine aseq_step ?_ | with_reducible refine any_step' ?_ | with_reducible refine aseq_end ?_ | with_reducible refine any_end' ?_ | refine awp_condC ?_ | refine awp_exit ?_ | refine awp_skip ?_ | refine awp_ret ?_) <;> (try simp (disch := first | omega | simp) [wrap_i64, -aseqC, -anyC, h0, h1, h1', ← hf, h2])) | ((first | with_reducible refine sideG ?_ ?_ | with_reducible refine sideG2 ?_ ?_ | with_reducible refine sideS ?_ ?_ | with_reducible refine sideS2 ?_ ?_ | with_reducible refine sideS3 ?_ ?_ | with_reducible refine sideA ?_ ?_ | with_reducible refine sideA2 ?_ ?_ | with_reducible refine sideA3 ?_ ?_); (first | omega | assumption | (simp; done))) | (refine awp_seq_k fun K hK => ?_) | (refine awp_regionC ?_) | (refine awp_anyA true (by kernel_rfl) (by kernel_rfl) ?_) | (refine hK _ ?_; clear hK; clear K) | (clear hK; clear K; refine hK _ ?_; clear hK; clear K) | (clear hK; clear K; clear hK; clear K; refine hK _ ?_; clear hK; clear K) | refine awp_block ?_)
      all_goals (exfalso; omega)
  · rw [List.getElem?_eq_none (by omega)] at hC
    subst hC
    have h2 : (F.length : Int) ≤ k := by omega
    refine gives_of_awp Tryd.func152 Tryd.ntmps152 rfl rfl (by decide) rfl (by intro n; simp) fun σ n0 hcl hft => ?_
    repeat' (first | ((first | ((with_reducible refine aguard (fun hg => ?_) (fun hg => ?_)) <;> (try simp only [hg]) <;> (try simp only [beq_iff_eq, beq_eq_false_iff_ne, ne_eq, decide_eq_true_eq, decide_eq_false_iff_not, bne_iff_ne, bne_eq_false_iff_eq] at hg) <;> (try (first | simp only [eq_false hg, if_true, if_false] | simp only [eq_true hg, if_true, if_false]))) | with_reducible refine aseq_step ?_ | with_reducible refine any_step' ?_ | with_reducible refine aseq_end ?_ | with_reducible refine any_end' ?_ | refine awp_condC ?_ | refine awp_exit ?_ | refine awp_skip ?_ | refine awp_ret ?_) <;> (try simp (disch := first | omega | simp) [wrap_i64, -aseqC, -anyC, h0, h1, h2])) | ((first | with_reducible refine sideG ?_ ?_ | with_reducible refine sideG2 ?_ ?_ | with_reducible refine sideS ?_ ?_ | with_reducible refine sideS2 ?_ ?_ | with_reducible refine sideS3 ?_ ?_ | with_reducible refine sideA ?_ ?_ | with_reducible refine sideA2 ?_ ?_ | with_reducible refine sideA3 ?_ ?_); (first | omega | assumption | (simp; done))) | (refine awp_seq_k fun K hK => ?_) | (refine awp_regionC ?_) | (refine awp_anyA true (by kernel_rfl) (by kernel_rfl) ?_) | (refine hK _ ?_; clear hK; clear K) | (clear hK; clear K; refine hK _ ?_; clear hK; clear K) | (clear hK; clear K; clear hK; clear K; refine hK _ ?_; clear hK; clear K) | refine awp_block ?_)
/-- what the tail of inner returns as a type, whether it is one or not -/
def tailX (F : List Fn) (c p : List Int) (o n : Int) (s : ByteArray) (ts : List Int) : Int :=
  if s.size ≠ 0 ∧ o ≠ 1 then 0 else if o = 22 then (callT F n ts).getD 0 else if numP o ≠ ts.length then 0
  else if o = 0 then 0 else if o = 2 then 2 else if o = 3 then atX c n else if o = 4 then atX p n else if n ≠ 0 then 0
  else if o = 1 then 1 else if o = 5 then 0 else if o = 6 then 2 else if o = 7 ∨ o = 20 then 0 else if o ≤ 12 then 0 else if o ≤ 18 then 2 else if o = 19 then 1 else ts.getD 1 0
def innerX (F : List Fn) (c p : List Int) : Ex → Int
  | .mk o n s l => match tys F c p l with
    | some ts => tailX F c p o n s ts
    | none => 0
theorem at_pick {l : List Int} {n t : Int} (h : pickT l n = some t) : atX l n = t := by
  unfold pickT at h
  split at h
  · cases h
  · cases hv : l[n.toNat]? with
    | none => rw [hv] at h; cases h
    | some v =>
      rw [hv] at h
      dsimp only at h
      split at h
      · cases h
        have := (List.getElem?_eq_some_iff.1 hv).1
        unfold atX
        rw [if_pos (by omega), List.getD_eq_getElem?_getD, hv]; rfl
      · cases h
theorem tailT_num {F : List Fn} {c p : List Int} {o n t : Int} {s : ByteArray} {ts : List Int} (h : tailT F c p o n s ts = some t) (h22 : o ≠ 22) : numP o = ts.length := by
  unfold tailT at h
  split at h
  · cases h
  unfold numP
  split at h
  · rename_i hn
    subst hn
    unfold leafT at h
    split at h
    · subst o; rfl
    split at h
    · subst o; rfl
    split at h
    · subst o; rfl
    split at h
    · subst o; rfl
    split at h
    · subst o; rfl
    split at h
    · subst o; rfl
    · cases h
  · unfold operT at h
    split at h
    · cases h
    split at h
    · subst o; split at h
      · rename_i e; rw [e]; rfl
      · cases h
    split at h
    · subst o; split at h
      · rename_i e; rw [e]; rfl
      · cases h
    split at h
    · subst o; split at h
      · rename_i e; rw [e]; rfl
      · cases h
    split at h
    · split at h
      · rename_i ho e; rw [e, if_neg (by omega), if_neg (by omega), if_neg (by omega), if_pos (by omega)]; rfl
      · cases h
    split at h
    · split at h
      · rename_i ho _ _ _ ; rw [if_neg (by omega), if_neg (by omega), if_neg (by omega), if_pos (by omega)]; rfl
      · cases h
    split at h
    · split at h
      · rename_i ho e; rw [e, if_neg (by omega), if_neg (by omega), if_neg (by omega), if_pos (by omega)]; rfl
      · cases h
    split at h
    · split at h
      · rename_i ho e; rw [e, if_neg (by omega), if_neg (by omega), if_neg (by omega), if_pos (by omega)]; rfl
      · cases h
    split at h
    · subst o
      split at h
      · rfl
      · cases h
    · cases h
theorem tys_all {F : List Fn} {c p : List Int} : ∀ (l : List Ex), (∀ i (h : i < l.length), (ty F c p l[i]).isSome = true) → tys F c p l = some (l.map fun e => (ty F c p e).getD 0)
  | [], _ => by rw [tys]; rfl
  | e :: l, h => by
    have h0 := h 0 (by simp)
    simp only [List.getElem_cons_zero] at h0
    obtain ⟨t, ht⟩ := Option.isSome_iff_exists.1 h0
    rw [tys, ht, tys_all l (fun i hi => by have := h (i + 1) (by simpa using hi); simpa only [List.getElem_cons_succ] using this)]
    simp [ht]
theorem tys_stop {F : List Fn} {c p : List Int} : ∀ (l : List Ex) (k : Nat) (h : k < l.length), ty F c p l[k] = none → tys F c p l = none
  | [], k, h, _ => by simp at h
  | e :: l, 0, h, he => by
    simp only [List.getElem_cons_zero] at he
    rw [tys, he]
  | e :: l, k + 1, h, he => by
    rw [tys, tys_stop l k (by simpa using h) (by simpa only [List.getElem_cons_succ] using he)]
    cases ty F c p e <;> rfl
theorem tail_eq {F : List Fn} {c p : List Int} {o n t : Int} {s : ByteArray} {ts : List Int} (h : tailT F c p o n s ts = some t) : tailX F c p o n s ts = t := by
  have hnum := fun h22 => tailT_num h h22
  unfold tailT at h
  unfold tailX
  split at h
  · cases h
  rename_i hs
  rw [if_neg hs]
  split at h
  · rename_i h22
    rw [if_pos h22, h]; rfl
  rename_i h22
  rw [if_neg h22, if_neg (by rw [hnum h22]; simp)]
  split at h
  · unfold leafT at h
    split at h
    · rename_i h0; rw [if_pos h0]; cases h; rfl
    rename_i h0; rw [if_neg h0]
    split at h
    · rename_i h2; rw [if_pos h2]; split at h <;> cases h; rfl
    rename_i h2; rw [if_neg h2]
    split at h
    · rename_i h3; rw [if_pos h3]; exact at_pick h
    rename_i h3; rw [if_neg h3]
    split at h
    · rename_i h4; rw [if_pos h4]; exact at_pick h
    rename_i h4; rw [if_neg h4]
    split at h
    · rename_i h1
      split at h
      · rename_i hn; cases h; rw [if_neg (by omega), if_pos h1]
      · cases h
    rename_i h1
    split at h
    · rename_i h5
      split at h
      · rename_i hn; cases h; rw [if_neg (by omega), if_neg h1, if_pos h5]
      · cases h
    · cases h
  · unfold operT at h
    split at h
    · cases h
    rename_i hn
    split at h
    · subst o; split at h <;> cases h; simp [hn]
    split at h
    · subst o; split at h <;> cases h; simp [hn]
    split at h
    · subst o; split at h <;> cases h; simp [hn]
    split at h
    · rename_i ho; split at h <;> cases h
      rw [if_neg (by omega), if_neg (by omega), if_neg (by omega), if_neg (by omega), if_neg hn, if_neg (by omega), if_neg (by omega), if_neg (by omega), if_neg (by omega), if_pos (by omega)]
    split at h
    · rename_i ho
      rw [if_neg (by omega), if_neg (by omega), if_neg (by omega), if_neg (by omega), if_neg hn, if_neg (by omega), if_neg (by omega), if_neg (by omega), if_neg (by omega), if_neg (by omega), if_pos (by omega)]
      split at h
      · split at h <;> cases h; rfl
      · cases h
    split at h
    · rename_i ho; split at h <;> cases h
      rw [if_neg (by omega), if_neg (by omega), if_neg (by omega), if_neg (by omega), if_neg hn, if_neg (by omega), if_neg (by omega), if_neg (by omega), if_neg (by omega), if_neg (by omega), if_pos (by omega)]
    split at h
    · subst o; split at h <;> cases h; simp [hn]
    split at h
    · subst o
      split at h
      · split at h
        · rename_i hb; cases h; simp [hn]; exact hb.2
        · cases h
      · cases h
    · cases h
theorem inner_eq (F : List Fn) (c p : List Int) : ∀ (e : Ex) (t : Int), ty F c p e = some t → innerX F c p e = t
  | .mk o n s l, t, h => by
    rw [ty] at h
    rw [innerX]
    cases hl : tys F c p l with
    | none => rw [hl] at h; cases h
    | some ts => rw [hl] at h; exact tail_eq h
theorem numP_len {o : Int} {ts : List Int} (h : numP o = ts.length) (h22 : o ≠ 22) :
    ((o = 0 ∨ o = 1 ∨ o = 2 ∨ o = 3 ∨ o = 4 ∨ o = 5) ∧ ts = []) ∨ ((o = 6 ∨ o = 7 ∨ o = 20) ∧ ∃ a, ts = [a]) ∨ (o = 21 ∧ ∃ a b d, ts = [a, b, d]) ∨
    ((o = 8 ∨ o = 9 ∨ o = 10 ∨ o = 11 ∨ o = 12 ∨ o = 13 ∨ o = 14 ∨ o = 15 ∨ o = 16 ∨ o = 17 ∨ o = 18 ∨ o = 19) ∧ ∃ a b, ts = [a, b]) := by
  unfold numP at h
  split at h
  · exact .inl ⟨by omega, List.eq_nil_of_length_eq_zero (by omega)⟩
  split at h
  · refine .inr (.inl ⟨by omega, ?_⟩)
    match ts, h with
    | [a], _ => exact ⟨a, rfl⟩
  split at h
  · refine .inr (.inr (.inl ⟨by omega, ?_⟩))
    match ts, h with
    | [a, b, d], _ => exact ⟨a, b, d, rfl⟩
  split at h
  · refine .inr (.inr (.inr ⟨by omega, ?_⟩))
    match ts, h with
    | [a, b], _ => exact ⟨a, b, rfl⟩
  · omega
end Go.Proofs.YtnkakofcejkhiaaDoor

/- Data of layer 16 as abstract values. -/
namespace Go.Proofs.YtnkakofcejkhiaaDoor
open Go.RowKit Go.Lib

theorem ints_d_av (L : List Int) : (D.sl (L.map D.int)).av = .sl (L.map AV.int) := by
  rw [D.av, D.avs_map, List.map_map]; rfl
theorem Ex.d_av (e : Ex) : e.d.av = e.av := by
  induction e using Ex.ind with | h o n s l ih => ?_
  rw [Ex.d, Ex.ds_map, D.av, Ex.av_mk]
  simp only [D.cs, D.avs_map, List.map_map]
  congr 4
  simp only [List.cons.injEq, AV.sl.injEq, and_true, true_and]
  exact List.map_congr_left fun x hx => ih x hx
theorem Fn.d_av (f : Fn) : f.d.av = f.av := by
  obtain ⟨nm, ps, rs, b⟩ := f
  have h1 := ints_d_av ps
  have h2 := Ex.d_av b
  cases b with | mk o n s l => ?_
  rw [D.av] at h1
  injection h1 with h1
  have h5 := Ex.av_eq (.mk o n s l)
  rw [Fn.d, D.av]
  rw [Ex.d, D.av, h5] at h2
  injection h2 with h2
  simp only [Ex.d, D.cs, List.append_nil] at h2 ⊢
  rw [h2, h1]
  rfl
theorem rr_fns {w : World} {S : Nat → Prop} {L : List Fn} {v : Value} (h : Rd w S (.sl (L.map Fn.d)) [v]) : RR1 (St.flat w) (.sl (L.map Fn.av)) v := by
  have := flat_rc h
  rw [D.av, D.avs_map, List.map_map, List.map_congr_left (f := D.av ∘ Fn.d) (g := Fn.av) fun x _ => x.d_av] at this
  exact this
theorem rr_ints {w : World} {S : Nat → Prop} {L : List Int} {v : Value} (h : Rd w S (.sl (L.map D.int)) [v]) : RR1 (St.flat w) (.sl (L.map AV.int)) v := by
  have := flat_rc h
  rw [ints_d_av] at this
  exact this
theorem rr_ex {w : World} {S : Nat → Prop} {e : Ex} {cs : List Value} (h : Rd w S e.d cs) : RR1 (St.flat w) e.av (.agg cs.toArray) := by
  have := flat_rc h
  rw [Ex.d_av, Ex.av_eq, RC] at this
  rw [Ex.av_eq]
  exact ⟨cs, rfl, this⟩
end Go.Proofs.YtnkakofcejkhiaaDoor

/- Contracts of layer 16, as abstract ones. -/
namespace Go.Proofs.YtnkakofcejkhiaaDoor
open Go.RowKit Go.Lib

theorem exs_av (L : List Ex) : (D.sl (L.map Ex.d)).av = .sl (L.map Ex.av) := by
  rw [D.av, D.avs_map, List.map_map]
  congr 1
  exact List.map_congr_left fun x _ => x.d_av
theorem bools_av (L : List Bool) : (D.sl (L.map D.bool)).av = .sl (L.map AV.bool) := by
  rw [D.av, D.avs_map, List.map_map]
  rfl
theorem arg_ex {X : St} {e : Ex} {v : Value} (h : RR1 X e.av v) : ∃ cs : List Value, v = .agg cs.toArray ∧ Rd X.w Any e.d cs := by
  rw [Ex.av_eq] at h
  obtain ⟨cs, rfl, h2⟩ := h
  refine ⟨cs, rfl, rd_of_rc e.d cs ?_⟩
  rw [Ex.d_av, Ex.av_eq, RC]; exact h2
theorem arg_exs {X : St} {L : List Ex} {v : Value} (h : RR1 X (.sl (L.map Ex.av)) v) : Rd X.w Any (.sl (L.map Ex.d)) [v] :=
  rd_of_rc _ _ (by rw [exs_av]; exact h)
theorem arg_v {X : St} {x v : Value} (h : RR1 X (.v x) v) : v = x := by
  have h' : RC X (.v x) [v] := h
  rw [RC] at h'; simpa using h'

theorem rparts_g (e : Ex) (he : parts e ≤ 1000000) : Gives Tryd.prog 77 [e.av] (.int (parts e)) :=
  gives_v fun X vals ha => by
    obtain ⟨v0, _, rfl, h0, h3⟩ := ha
    cases h3
    obtain ⟨cs, rfl, hr⟩ := arg_ex h0
    exact rparts_any e Any cs X.w hr he
theorem rlevels_g (e : Ex) (he : levels e ≤ 1000000) : Gives Tryd.prog 76 [e.av] (.int (levels e)) := rlevels_g' e he
theorem levels_g (e : Ex) (he : levels e ≤ 1000000) : Gives Tryd.prog 79 [e.av] (.int (levels e)) :=
  gives_v fun X vals ha => by
    obtain ⟨v0, _, rfl, h0, h3⟩ := ha
    cases h3
    obtain ⟨cs, rfl, hr⟩ := arg_ex h0
    exact levels_any e Any cs X.w hr he
end Go.Proofs.YtnkakofcejkhiaaDoor
