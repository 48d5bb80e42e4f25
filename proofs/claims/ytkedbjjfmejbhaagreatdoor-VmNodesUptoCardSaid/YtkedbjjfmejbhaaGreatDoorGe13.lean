/- Regions that draw their order: operations that only compute, read, or make memory, in any order; then writes, in one order. -/
import Derived.Test.YtkedbjjfmejbhaaGreatDoorGe1
import Derived.Test.YtkedbjjfmejbhaaGreatDoorGe11
set_option linter.unusedSimpArgs false
set_option linter.unusedVariables false
namespace Go.Proofs.YtkedbjjfmejbhaaGreatDoor
open Go.RowKit Go.Lib
def FOp2 (P : Program) (ev : Operand -> AV) (σ : Nat -> AB) (o : Op) (x : AV) (nb : Option (Nat × AB)) : Prop :=
 ∀ (X : St) (a : Act) (oper : Oper), oper.op = o -> SR X -> (∃ nx, Fin X.σ nx) -> Sub σ X.σ -> (∀ y ∈ o.operands, RR X (ev y) (a.eval y)) -> (∀ r ab, nb = some (r, ab) -> X.σ r = .unborn) ->
  ∀ Q, OwpA P oper a X.w (fun a' w' => ∃ v Y, a' = a.put oper.dst v /\ Y.w = w' /\ SR Y /\ Fr X Y /\ RR Y x v /\ Y.σ = (match nb with | none => X.σ | some (r, ab) => upd X.σ r ab)) Q
theorem FOp.two {P : Program} {ev : Operand -> AV} {σ : Nat -> AB} {o : Op} {x : AV} {nb : Option (Nat × AB)} (h : FOp P ev σ o x nb) : FOp2 P ev σ o x nb := fun X a oper ho hS _ => h X a oper ho hS
def qrn (P : Program) (f : FuncId) (args : List AV) (σ : Nat -> AB) (x : AV) : Prop := ∀ σ', Sub σ σ' -> AC P f args σ' fun y τ => y = x /\ τ = σ'
theorem Gives.s {P : Program} {f : FuncId} {args : List AV} {x : AV} (h : Gives P f args x) (σ : Nat -> AB) : qrn P f args σ x := fun σ' _ => h σ'
theorem qdi1 {P : Program} {ev : Operand -> AV} {σ : Nat -> AB} {f : FuncId} {args : List Operand} {tys : Array TypeId} {x : AV} (hf : enters P f = true) (hn : ∀ y ∈ args, ∀ l, ev y ≠ .tup l) (h : qrn P f ((args.map ev).map AV.pub) σ x) : FOp2 P ev σ (.call { callee := .value (.func f), args := args.toArray, argTypes := tys }) x none := by
 intro X a oper ho hS ⟨nx, hfin⟩ hsub hev _ Q
 have hrun : (execOp a.eval oper).run P X.w = .ok (.enter f (args.map a.eval).toArray) X.w := by
  have he : a.eval (.func f) = .func (.func f) #[] #[] := rfl
  simp [execOp, ho, resolve, he, Deferred.ofValue, invoke, qcq hf]
 have hargs : RRl X (args.map ev) (args.map a.eval) := by
  have : ∀ l : List Operand, (∀ y ∈ l, RR X (ev y) (a.eval y)) -> (∀ y ∈ l, ∀ z, ev y ≠ .tup z) -> RRl X (l.map ev) (l.map a.eval) := fun l => by
   induction l with
   | nil => intro _ _; rfl
   | cons y l ih =>
    intro h1 h2
    refine ⟨_, _, rfl, ?_, ih (fun z hz => h1 z (by simp [hz])) fun z hz => h2 z (by simp [hz])⟩
    have := h1 y (by simp)
    unfold RR at this
    split at this
    .rename_i l' he; exact absurd he (h2 y (by simp) l')
    .exact this
  exact this args (fun y hy => hev y (by simp [Op.operands, Call.operands, hy])) hn
 refine OwpA.of (fun c h => by rw [ho] at h; cases h) ?_
 unfold Oper.wp
 rw [hrun]
 refine (h X.σ hsub X (args.map a.eval) nx hS rfl hfin hargs.pub).mono ?_
 rintro e w' ⟨Y, v, y, rfl, rfl, ⟨rfl, hσ⟩, hS', hF, hR⟩
 exact ⟨v, Y, rfl, rfl, hS', hF, hR, hσ⟩
theorem qoy {X : St} {ev : Operand -> AV} {a : Act} : ∀ l : List Operand, (∀ y ∈ l, RR X (ev y) (a.eval y)) -> (∀ y ∈ l, ∀ z, ev y ≠ .tup z) -> RRl X (l.map ev) (l.map a.eval)
 | [], _, _ => rfl
 | y :: l, h1, h2 => by
  refine ⟨_, _, rfl, ?_, qoy l (fun z hz => h1 z (by simp [hz])) fun z hz => h2 z (by simp [hz])⟩
  have := h1 y (by simp)
  unfold RR at this
  split at this
  .rename_i l' he; exact absurd he (h2 y (by simp) l')
  .exact this
theorem qad1 {P : Program} {ev : Operand -> AV} {σ : Nat -> AB} {f : FuncId} {d : Tmp} {caps : List AV} {args : List Operand} {tys : Array TypeId} {x : AV} (hd : ev (.tmp d) = .fn f caps) (hf : enters P f = true) (hn : ∀ y ∈ args, ∀ l, ev y ≠ .tup l) (h : qrn P f ((args.map ev).map AV.pub ++ caps) σ x) : FOp2 P ev σ (.call { callee := .value (.tmp d), args := args.toArray, argTypes := tys }) x none := by
 intro X a oper ho hS ⟨nx, hfin⟩ hsub hev _ Q
 have hfn := hev (.tmp d) (by simp [Op.operands, Call.operands])
 rw [hd] at hfn
 change RC X (.fn f caps) [a.eval (.tmp d)] at hfn
 rw [RC] at hfn
 obtain ⟨vs, hv, hcaps⟩ := hfn
 have he : a.eval (.tmp d) = .func (.func f) #[] vs.toArray := by simpa using hv
 have hrun : (execOp a.eval oper).run P X.w = .ok (.enter f (args.map a.eval ++ vs).toArray) X.w := by
  simp [execOp, ho, resolve, he, Deferred.ofValue, invoke, qcq hf]
 have hargs := qoy (a := a) args (fun y hy => hev y (by simp [Op.operands, Call.operands, hy])) hn
 refine OwpA.of (fun c h => by rw [ho] at h; cases h) ?_
 unfold Oper.wp
 rw [hrun]
 refine (h X.σ hsub X _ nx hS rfl hfin (hargs.pub.append hcaps.rrl)).mono ?_
 rintro e w' ⟨Y, v, y, rfl, rfl, ⟨rfl, hσ⟩, hS', hF, hR⟩
 exact ⟨v, Y, rfl, rfl, hS', hF, hR, hσ⟩
def WOp (P : Program) (ev : Operand -> AV) (σ : Nat -> AB) (o : Op) (x : AV) (τ : Nat -> AB) : Prop :=
 ∀ (X : St) (a : Act) (oper : Oper), oper.op = o -> SR X -> a.defers = a.defers -> X.σ = σ -> (∀ y ∈ o.operands, RR X (ev y) (a.eval y)) ->
  ∀ Q, OwpA P oper a X.w (fun a' w' => ∃ v Y, a' = a.put oper.dst v /\ Y.w = w' /\ SR Y /\ Fr X Y /\ RR Y x v /\ Y.σ = τ) Q
theorem qky1 {P : Program} {s : AS} {f : FuncId} {args : List Operand} {tys : Array TypeId} {x : AV} {τ : Nat -> AB} (hf : enters P f = true) (hn : ∀ y ∈ args, ∀ l, s.eval y ≠ .tup l) (h : AC P f ((args.map s.eval).map AV.pub) s.st fun y τ' => y = x /\ τ' = τ) : WOp P s.eval s.st (.call { callee := .value (.func f), args := args.toArray, argTypes := tys }) x τ := by
 intro X a oper ho hS _ hσ hev Q
 have hrun : (execOp a.eval oper).run P X.w = .ok (.enter f (args.map a.eval).toArray) X.w := by
  have he : a.eval (.func f) = .func (.func f) #[] #[] := rfl
  simp [execOp, ho, resolve, he, Deferred.ofValue, invoke, qcq hf]
 have hargs := qoy (a := a) args (fun y hy => hev y (by simp [Op.operands, Call.operands, hy])) hn
 refine OwpA.of (fun c h => by rw [ho] at h; cases h) ?_
 unfold Oper.wp
 rw [hrun]
 refine (h X _ s.nx hS hσ s.fin hargs.pub).mono ?_
 rintro e w' ⟨Y, v, y, rfl, rfl, ⟨rfl, hσ'⟩, hS', hF, hR⟩
 exact ⟨v, Y, rfl, rfl, hS', hF, hR, hσ'⟩
theorem qhr1 {P : Program} {s : AS} {f : FuncId} {d : Tmp} {caps : List AV} {args : List Operand} {tys : Array TypeId} {x : AV} {τ : Nat -> AB} (hd : s.t d = .fn f caps) (hf : enters P f = true) (hn : ∀ y ∈ args, ∀ l, s.eval y ≠ .tup l) (h : AC P f ((args.map s.eval).map AV.pub ++ caps) s.st fun y τ' => y = x /\ τ' = τ) : WOp P s.eval s.st (.call { callee := .value (.tmp d), args := args.toArray, argTypes := tys }) x τ := by
 intro X a oper ho hS _ hσ hev Q
 have hfn := hev (.tmp d) (by simp [Op.operands, Call.operands])
 change RR X (s.t d) _ at hfn
 rw [hd] at hfn
 change RC X (.fn f caps) [a.eval (.tmp d)] at hfn
 rw [RC] at hfn
 obtain ⟨vs, hv, hcaps⟩ := hfn
 have he : a.eval (.tmp d) = .func (.func f) #[] vs.toArray := by simpa using hv
 have hrun : (execOp a.eval oper).run P X.w = .ok (.enter f (args.map a.eval ++ vs).toArray) X.w := by
  simp [execOp, ho, resolve, he, Deferred.ofValue, invoke, qcq hf]
 have hargs := qoy (a := a) args (fun y hy => hev y (by simp [Op.operands, Call.operands, hy])) hn
 refine OwpA.of (fun c h => by rw [ho] at h; cases h) ?_
 unfold Oper.wp
 rw [hrun]
 refine (h X _ s.nx hS hσ s.fin (hargs.pub.append hcaps.rrl)).mono ?_
 rintro e w' ⟨Y, v, y, rfl, rfl, ⟨rfl, hσ'⟩, hS', hF, hR⟩
 exact ⟨v, Y, rfl, rfl, hS', hF, hR, hσ'⟩
def ancs (ops : List Oper) : List (List Nat) := ops.foldl (fun acc o => acc ++ [(o.after.toList.filter (Region.binds .any)).flatMap fun e => e.on :: acc.getD e.on []]) []
def looks (ops : List Oper) (o : Oper) : List Nat :=
 (o.op.operands.toList.filterMap fun | .tmp t => some t | _ => none) ++ (match o.guard with
  | some (g, _) => match (ops[g]?).bind (·.dst) with | some d => [d] | none => []
  | none => [])
inductive RK where | R | M | W | N | A
 deriving DecidableEq
def RK.base : RK -> RK
 | .N => .R
 | .A => .W
 | k => k
theorem qcc (ks : List RK) (i : Nat) : (ks.map RK.base).getD i .R = (ks.getD i .R).base := by
 rw [List.getD_eq_getElem?_getD, List.getD_eq_getElem?_getD, List.getElem?_map]
 cases ks[i]? <;> rfl
def anyB (ops : List Oper) (ks : List RK) : Bool :=
 let an := ancs ops
 let n := ops.length
 ks.length == n &&
 ((List.range n).all fun j => match ops[j]? with
  | none => false
  | some o => o.after.all (fun e => !Region.binds .any e || e.on < j) &&
   (match o.op with | .select _ _ => false | _ => true) &&
   ((List.range n).all fun i => i == j || match ops[i]? with
    | none => false
    | some p => (match o.dst, p.dst with | some d, some d' => d != d' | _, _ => true) &&
     (match p.dst with
      | some d => !(looks ops o).contains d || (i < j && (an.getD j []).contains i) || (j < i && (an.getD i []).contains j)
      | none => true) &&
     (match (ks.getD i .R).base, (ks.getD j .R).base with
      | .M, .W => i < j && (an.getD j []).contains i
      | .W, .W => (i < j && (an.getD j []).contains i) || (j < i && (an.getD i []).contains j)
      | _, _ => true) &&
     (match ks.getD i .R, ks.getD j .R with
      | .N, .W => i < j && (an.getD j []).contains i
      | .A, .W => decide (i < j)
      | _, _ => true)) &&
   (match o.dst with | some d => !(looks ops o).contains d | none => true))
structure qbn1 (P : Program) (ops : Array Oper) (l : List Oper) (ks : List RK) (st s1 : Nat -> AS) (xs : Nat -> AV) (bs : Nat -> Bool) (nbs : Nat -> Option AB) (κ : Nat -> Nat -> AB) : Prop where
 base : ∀ i, ks.getD i .R ≠ .N /\ ks.getD i .R ≠ .A
 kept : ∀ i, i < l.length -> ks.getD i .R = .R -> ∀ r, κ i r ≠ .unborn -> (st 0).st r = κ i r /\ ∀ p, p < l.length -> ks.getD p .R = .W -> i ∉ (ancs l).getD p [] -> (st (p + 1)).st r = κ i r
 want : ∀ i o, l[i]? = some o -> awant ops o (st i).t = some (bs i)
 dst : ∀ i o, l[i]? = some o -> dstOk o.dst (st i).n
 next : ∀ i o, l[i]? = some o -> st (i + 1) = (s1 i).put o.dst (xs i)
 same : ∀ i o, l[i]? = some o -> (s1 i).t = (st i).t /\ (s1 i).n = (st i).n /\ (s1 i).n0 = (st i).n0
 skip : ∀ i o, l[i]? = some o -> bs i = false -> xs i = .v undef /\ s1 i = st i /\ nbs i = none
 opR : ∀ i o, l[i]? = some o -> bs i = true -> ks.getD i .R = .R -> FOp2 P (st i).eval (κ i) o.op (xs i) none /\ s1 i = st i /\ nbs i = none
 opM : ∀ i o, l[i]? = some o -> bs i = true -> ks.getD i .R = .M -> FOp2 P (st i).eval (st i).st o.op (xs i) ((nbs i).map ((st i).nx, ·)) /\ s1 i = (st i).ext (nbs i)
 opW : ∀ i o, l[i]? = some o -> bs i = true -> ks.getD i .R = .W -> WOp P (st i).eval (st i).st o.op (xs i) (s1 i).st /\ nbs i = none
abbrev qbw (P : Program) (l : List Oper) (ks : List RK) (st s1 : Nat -> AS) (xs : Nat -> AV) (bs : Nat -> Bool) (nbs : Nat -> Option AB) (κ : Nat -> Nat -> AB) : Prop := qbn1 P l.toArray l ks st s1 xs bs nbs κ
theorem qei (s : AS) (d : Option Tmp) (x : AV) : (s.put d x).st = s.st /\ (s.put d x).nx = s.nx /\ (s.put d x).n = s.n /\ (s.put d x).n0 = s.n0 := by
 cases d <;> exact ⟨rfl, rfl, rfl, rfl⟩
section
variable {P : Program} {l : List Oper} {ks : List RK} {st s1 : Nat -> AS} {xs : Nat -> AV} {bs : Nat -> Bool} {nbs : Nat -> Option AB} {κ : Nat -> Nat -> AB}
structure AnyOk (l : List Oper) (ks : List RK) : Prop where
 edge : ∀ (j : Nat) (o : Oper), l[j]? = some o -> ∀ e ∈ o.after, Region.binds .any e = true -> e.on < j
 dsts : ∀ (i j : Nat) (o p : Oper) (d : Tmp), l[j]? = some o -> l[i]? = some p -> i ≠ j -> o.dst = some d -> p.dst ≠ some d
 look : ∀ (i j : Nat) (o p : Oper) (d : Tmp), l[j]? = some o -> l[i]? = some p -> p.dst = some d -> d ∈ looks l o -> (i < j /\ i ∈ (ancs l).getD j []) \/ (j < i /\ j ∈ (ancs l).getD i [])
 mw : ∀ i j, i < l.length -> j < l.length -> ks.getD i .R = .M -> ks.getD j .R = .W -> i < j /\ i ∈ (ancs l).getD j []
 ww : ∀ i j, i < l.length -> j < l.length -> i ≠ j -> ks.getD i .R = .W -> ks.getD j .R = .W -> (i < j /\ i ∈ (ancs l).getD j []) \/ (j < i /\ j ∈ (ancs l).getD i [])
theorem qva {ks : List RK} (h : anyB l ks = true) : AnyOk l (ks.map RK.base) := by
 unfold anyB at h
 simp only [Bool.and_eq_true, List.all_eq_true, List.mem_range] at h
 obtain ⟨h0, h⟩ := h
 have hj : ∀ j o, l[j]? = some o -> j < l.length := fun j o ho => (List.getElem?_eq_some_iff.1 ho).1
 constructor
 .intro j o ho e he hb
  have := h j (hj j o ho)
  rw [ho] at this
  simp only [Bool.and_eq_true] at this
  have h2 := this.1.1.1
  rw [Array.all_eq_true_iff_forall_mem] at h2
  have h3 := h2 e he
  simpa [hb] using h3
 .intro i j o p d ho hp hij hd hpd
  have := h j (hj j o ho)
  rw [ho] at this
  simp only [Bool.and_eq_true, List.all_eq_true, List.mem_range] at this
  have h2 := this.1.2 i (hj i p hp)
  rw [hp, hd] at h2
  dsimp only at h2
  rw [hpd] at h2
  simp [hij] at h2
 .intro i j o p d ho hp hpd hl
  have := h j (hj j o ho)
  rw [ho] at this
  simp only [Bool.and_eq_true, List.all_eq_true, List.mem_range] at this
  by_cases hij : i = j
  .subst hij
   rw [ho] at hp; cases hp
   have h3 := this.2
   rw [hpd] at h3
   simp [hl] at h3
  .have h2 := this.1.2 i (hj i p hp)
   rw [hp] at h2
   dsimp only at h2
   rw [hpd] at h2
   simp only [Bool.or_eq_true, Bool.and_eq_true, beq_iff_eq, hij, false_or] at h2
   have h3 := h2.1.1.2
   simpa [hl] using h3
 .intro i j hi hjl hM hW
  rw [qcc] at hM hW
  obtain ⟨o, ho⟩ : ∃ o, l[j]? = some o := ⟨_, List.getElem?_eq_getElem hjl⟩
  obtain ⟨p, hp⟩ : ∃ p, l[i]? = some p := ⟨_, List.getElem?_eq_getElem hi⟩
  have := h j hjl
  rw [ho] at this
  simp only [Bool.and_eq_true, List.all_eq_true, List.mem_range] at this
  have hij : i ≠ j := fun e => by subst e; rw [hM] at hW; cases hW
  have h2 := this.1.2 i hi
  rw [hp] at h2
  dsimp only at h2
  rw [hM, hW] at h2
  simp only [Bool.or_eq_true, Bool.and_eq_true, beq_iff_eq, hij, false_or] at h2
  simpa using h2.1.2
 .intro i j hi hjl hij hM hW
  rw [qcc] at hM hW
  obtain ⟨o, ho⟩ : ∃ o, l[j]? = some o := ⟨_, List.getElem?_eq_getElem hjl⟩
  obtain ⟨p, hp⟩ : ∃ p, l[i]? = some p := ⟨_, List.getElem?_eq_getElem hi⟩
  have := h j hjl
  rw [ho] at this
  simp only [Bool.and_eq_true, List.all_eq_true, List.mem_range] at this
  have h2 := this.1.2 i hi
  rw [hp] at h2
  dsimp only at h2
  rw [hM, hW] at h2
  simp only [Bool.or_eq_true, Bool.and_eq_true, beq_iff_eq, hij, false_or] at h2
  simpa using h2.1.2
theorem qnh {ks : List RK} (h : anyB l ks = true) {i j : Nat} (hi : i < l.length) (hjl : j < l.length) : (ks.getD i .R = .N -> ks.getD j .R = .W -> i < j /\ i ∈ (ancs l).getD j []) /\ (ks.getD i .R = .A -> ks.getD j .R = .W -> i < j) := by
 unfold anyB at h
 simp only [Bool.and_eq_true, List.all_eq_true, List.mem_range] at h
 obtain ⟨h0, h⟩ := h
 obtain ⟨o, ho⟩ : ∃ o, l[j]? = some o := ⟨_, List.getElem?_eq_getElem hjl⟩
 obtain ⟨p, hp⟩ : ∃ p, l[i]? = some p := ⟨_, List.getElem?_eq_getElem hi⟩
 have := h j hjl
 rw [ho] at this
 simp only [Bool.and_eq_true, List.all_eq_true, List.mem_range] at this
 have h2 := this.1.2 i hi
 rw [hp] at h2
 dsimp only at h2
 by_cases hij : i = j
 .subst hij
  constructor
  .intro h1 h3; rw [h1] at h3; cases h3
  .intro h1 h3; rw [h1] at h3; cases h3
 .simp only [Bool.or_eq_true, Bool.and_eq_true, beq_iff_eq, hij, false_or] at h2
  have h3 := h2.2
  refine ⟨fun h4 h5 => ?_, fun h4 h5 => ?_⟩
  .rw [h4, h5] at h3; simpa using h3
  .rw [h4, h5] at h3; simpa using h3
theorem qge1 {α : Type} {C : List α -> Prop} (h0 : C []) (h1 : ∀ l x, C l -> C (l ++ [x])) (l : List α) : C l := by
 have : ∀ r : List α, C r.reverse := fun r => by
  induction r with
  | nil => exact h0
  | cons x r ih => rw [List.reverse_cons]; exact h1 _ x ih
 have h := this l.reverse
 rwa [List.reverse_reverse] at h
theorem qrq (l : List Oper) (o : Oper) : ancs (l ++ [o]) = ancs l ++ [(o.after.toList.filter (Region.binds .any)).flatMap fun e => e.on :: (ancs l).getD e.on []] := by
 unfold ancs; rw [List.foldl_append]; rfl
theorem quz (l : List Oper) : (ancs l).length = l.length := by
 induction l using qge1 with
 | h0 => rfl
 | h1 l o ih => rw [qrq, List.length_append, ih]; simp
theorem qld {D : Nat -> Bool} : ∀ (l : List Oper), (∀ j o, l[j]? = some o -> D j = true -> ∀ e ∈ o.after, Region.binds .any e = true -> D e.on = true) -> (∀ j o, l[j]? = some o -> ∀ e ∈ o.after, Region.binds .any e = true -> e.on < j) ->
  ∀ i j, D j = true -> i ∈ (ancs l).getD j [] -> D i = true := fun l => by
 induction l using qge1 with
 | h0 => intro _ _ i j _ h; simp [ancs] at h
 | h1 l o ih =>
  intro hc he i j hj hi
  have ih' := ih (fun j o' ho' => hc j o' (by rw [List.getElem?_append_left (List.getElem?_eq_some_iff.1 ho').1]; exact ho')) (fun j o' ho' => he j o' (by rw [List.getElem?_append_left (List.getElem?_eq_some_iff.1 ho').1]; exact ho'))
  rw [qrq] at hi
  by_cases hjl : j < (ancs l).length
  .rw [List.getD_eq_getElem?_getD, List.getElem?_append_left hjl, <- List.getD_eq_getElem?_getD] at hi
   exact ih' i j hj hi
  .by_cases hje : j = (ancs l).length
   .subst hje
    rw [List.getD_eq_getElem?_getD, List.getElem?_append_right (Nat.le_refl _)] at hi
    simp only [Nat.sub_self, List.getElem?_cons_zero, Option.getD_some, List.mem_flatMap, List.mem_filter, Array.mem_toList_iff] at hi
    obtain ⟨e, ⟨he1, he2⟩, hi⟩ := hi
    have ho : (l ++ [o])[(ancs l).length]? = some o := by rw [quz]; simp
    have hon := hc _ o ho hj e he1 he2
    rcases List.mem_cons.1 hi with rfl | hi
    .exact hon
    .exact ih' i e.on hon hi
   .rw [List.getD_eq_getElem?_getD, List.getElem?_eq_none (by simp; omega)] at hi
    simp at hi
def wrOf (l : List Oper) (d : Nat) : Option Nat := (List.range l.length).find? fun i => ((l[i]?).bind (·.dst)) == some d
theorem qjv {d i : Nat} (h : wrOf l d = some i) : ∃ o, l[i]? = some o /\ o.dst = some d := by
 have h1 := List.find?_some h
 cases ho : l[i]? with
 | none => rw [ho] at h1; simp at h1
 | some o => rw [ho] at h1; exact ⟨o, rfl, by simpa using h1⟩
theorem qpl1 {d : Nat} (h : wrOf l d = none) {i : Nat} {o : Oper} (ho : l[i]? = some o) : o.dst ≠ some d := by
 intro hd
 have := List.find?_eq_none.1 h i (List.mem_range.2 (List.getElem?_eq_some_iff.1 ho).1)
 rw [ho] at this
 simp [hd] at this
theorem wr_eq (hok : AnyOk l ks) {d i : Nat} {o : Oper} (ho : l[i]? = some o) (hd : o.dst = some d) : wrOf l d = some i := by
 cases h : wrOf l d with
 | none => exact absurd hd (qpl1 h ho)
 | some j =>
  obtain ⟨p, hp, hpd⟩ := qjv h
  by_cases hij : i = j
  .rw [hij]
  .exact absurd hd (hok.dsts i j p o d hp ho hij hpd)
def tOf (l : List Oper) (t0 : Nat -> AV) (xs : Nat -> AV) (D : Nat -> Bool) (d : Nat) : AV :=
 match wrOf l d with
 | some i => if D i then xs i else t0 d
 | none => t0 d
theorem qgn1 (h : qbw P l ks st s1 xs bs nbs κ) (hok : AnyOk l ks) : ∀ j, j <= l.length -> ∀ d, (st j).t d = tOf l (st 0).t xs (fun i => decide (i < j)) d
 | 0, _, d => by unfold tOf; split <;> simp
 | j + 1, hj, d => by
  obtain ⟨o, ho⟩ : ∃ o, l[j]? = some o := ⟨_, List.getElem?_eq_getElem (by omega)⟩
  have ih := qgn1 h hok j (by omega) d
  rw [h.next j o ho]
  have hs := (h.same j o ho).1
  cases hd : o.dst with
  | none =>
   show (s1 j).t d = _
   rw [hs, ih]
   unfold tOf
   cases hw : wrOf l d with
   | none => rfl
   | some i =>
    obtain ⟨p, hp, hpd⟩ := qjv hw
    have hij : i ≠ j := fun e => by subst e; rw [ho] at hp; cases hp; rw [hd] at hpd; cases hpd
    have : (decide (i < j)) = decide (i < j + 1) := by simp; omega
    simp only [this]
  | some d' =>
   show upd (s1 j).t d' (xs j) d = _
   unfold upd
   by_cases hdd : d = d'
   .subst hdd
    rw [if_pos rfl]
    unfold tOf
    rw [wr_eq hok ho hd]; simp
   .rw [if_neg hdd, hs, ih]
    unfold tOf
    cases hw : wrOf l d with
    | none => rfl
    | some i =>
     obtain ⟨p, hp, hpd⟩ := qjv hw
     have hij : i ≠ j := fun e => by subst e; rw [ho] at hp; cases hp; rw [hd] at hpd; cases hpd; exact hdd rfl
     have : (decide (i < j)) = decide (i < j + 1) := by simp; omega
     simp only [this]
theorem qem1 (h : qbw P l ks st s1 xs bs nbs κ) : ∀ j, j <= l.length -> (st j).n = (st 0).n /\ (st j).n0 = (st 0).n0
 | 0, _ => ⟨rfl, rfl⟩
 | j + 1, hj => by
  obtain ⟨o, ho⟩ : ∃ o, l[j]? = some o := ⟨_, List.getElem?_eq_getElem (by omega)⟩
  obtain ⟨h1, h2⟩ := qem1 h j (by omega)
  obtain ⟨-, -, h3, h4⟩ := qei (s1 j) o.dst (xs j)
  rw [h.next j o ho, h3, h4, (h.same j o ho).2.1, (h.same j o ho).2.2]
  exact ⟨h1, h2⟩
theorem qfv1 (h : qbw P l ks st s1 xs bs nbs κ) {i : Nat} {o : Oper} (ho : l[i]? = some o) (hk : ks.getD i .R ≠ .W) : s1 i = (st i).ext (nbs i) := by
 cases hb : bs i with
 | false => obtain ⟨-, h1, h2⟩ := h.skip i o ho hb; rw [h1, h2]; rfl
 | true =>
  cases hkk : ks.getD i .R with
  | R => obtain ⟨-, h1, h2⟩ := h.opR i o ho hb hkk; rw [h1, h2]; rfl
  | M => exact (h.opM i o ho hb hkk).2
  | W => exact absurd hkk hk
  | N => exact absurd hkk (h.base i).1
  | A => exact absurd hkk (h.base i).2
structure MText (st : Nat -> AS) (nbs : Nat -> Option AB) (j : Nat) : Prop where
 old : ∀ r, r < (st 0).nx -> (st j).st r = (st 0).st r
 nx : (st 0).nx <= (st j).nx
 born : ∀ i, i < j -> ∀ ab, nbs i = some ab -> (st 0).nx <= (st i).nx /\ (st i).nx < (st j).nx /\ (st j).st (st i).nx = ab
 all : ∀ r, (st 0).nx <= r -> r < (st j).nx -> ∃ i, i < j /\ (nbs i).isSome = true /\ (st i).nx = r
theorem qxw (h : qbw P l ks st s1 xs bs nbs κ) : ∀ j, j <= l.length -> (∀ i, i < j -> ks.getD i .R ≠ .W) -> MText st nbs j
 | 0, _, _ => ⟨fun _ _ => rfl, Nat.le_refl _, fun i hi => by omega, fun r h1 h2 => by omega⟩
 | j + 1, hj, hk => by
  obtain ⟨o, ho⟩ : ∃ o, l[j]? = some o := ⟨_, List.getElem?_eq_getElem (by omega)⟩
  have ih := qxw h j (by omega) fun i hi => hk i (by omega)
  have hs1 := qfv1 h ho (hk j (by omega))
  obtain ⟨e1, e2, -, -⟩ := qei (s1 j) o.dst (xs j)
  rw [<- h.next j o ho, hs1] at e1 e2
  cases hn : nbs j with
  | none =>
   rw [hn] at e1 e2
   change (st (j + 1)).st = (st j).st at e1
   change (st (j + 1)).nx = (st j).nx at e2
   refine ⟨fun r hr => by rw [e1]; exact ih.old r hr, by rw [e2]; exact ih.nx, fun i hi ab hab => ?_, fun r h1 h2 => ?_⟩
   .have : i ≠ j := fun e => by rw [e, hn] at hab; cases hab
    rw [e1, e2]; exact ih.born i (by omega) ab hab
   .rw [e2] at h2
    obtain ⟨i, hi, h3⟩ := ih.all r h1 h2
    exact ⟨i, by omega, h3⟩
  | some ab0 =>
   rw [hn] at e1 e2
   obtain ⟨x1, x2⟩ := qes (st j) ab0
   rw [x1] at e1; rw [x2] at e2
   have hnx := ih.nx
   refine ⟨fun r hr => ?_, by rw [e2]; omega, fun i hi ab hab => ?_, fun r h1 h2 => ?_⟩
   .rw [e1]; unfold upd; rw [if_neg (by omega)]; exact ih.old r hr
   .by_cases hij : i = j
    .subst hij
     rw [hn] at hab; cases hab
     refine ⟨hnx, by rw [e2]; omega, ?_⟩
     rw [e1]; unfold upd; rw [if_pos rfl]
    .obtain ⟨h3, h4, h5⟩ := ih.born i (by omega) ab hab
     refine ⟨h3, by rw [e2]; omega, ?_⟩
     rw [e1]; unfold upd; rw [if_neg (by omega)]; exact h5
   .rw [e2] at h2
    by_cases hr : r = (st j).nx
    .exact ⟨j, by omega, by rw [hn]; rfl, hr.symm⟩
    .obtain ⟨i, hi, h3⟩ := ih.all r h1 (by omega)
     exact ⟨i, by omega, h3⟩
theorem qho1 (h : qbw P l ks st s1 xs bs nbs κ) {a : Nat} : ∀ b, a <= b -> b <= l.length -> (∀ i, a <= i -> i < b -> ks.getD i .R ≠ .W /\ nbs i = none) -> (st b).st = (st a).st
 | 0, ha, _, _ => by
  have : a = 0 := by omega
  rw [this]
 | b + 1, ha, hb, hk => by
  by_cases hab : a = b + 1
  .rw [hab]
  .obtain ⟨o, ho⟩ : ∃ o, l[b]? = some o := ⟨_, List.getElem?_eq_getElem (by omega)⟩
   have ih := qho1 h b (by omega) (by omega) fun i h1 h2 => hk i h1 (by omega)
   obtain ⟨e1, -, -, -⟩ := qei (s1 b) o.dst (xs b)
   rw [<- h.next b o ho, qfv1 h ho (hk b (by omega) (by omega)).1, (hk b (by omega) (by omega)).2] at e1
   rw [e1]; exact ih
structure SigOk (l : List Oper) (ks : List RK) (st : Nat -> AS) (nbs : Nat -> Option AB) (D : Nat -> Bool) (τ : Nat -> AB) : Prop where
 early : (∀ p, p < l.length -> ks.getD p .R = .W -> D p = false) -> (∀ r, r < (st 0).nx -> τ r = (st 0).st r) /\ (∀ i ab, i < l.length -> D i = true -> nbs i = some ab -> τ (st i).nx = ab) /\
  (∀ r, (st 0).nx <= r -> (∀ i, i < l.length -> D i = true -> (nbs i).isSome = true -> (st i).nx ≠ r) -> τ r = .unborn)
 late : ∀ p, p < l.length -> ks.getD p .R = .W -> D p = true -> (∀ q, q < l.length -> ks.getD q .R = .W -> D q = true -> q <= p) -> τ = (st (p + 1)).st
structure AInv (l : List Oper) (ks : List RK) (st : Nat -> AS) (xs : Nat -> AV) (nbs : Nat -> Option AB) (X0 : St) (ds : List Deferred) (D : Nat -> Bool) (a : Act) (w : World) (X : St) : Prop where
 w : X.w = w
 sr : SR X
 fr : Fr X0 X
 fin : Fin X0.σ (st 0).n0
 size : a.tmps.size = (st 0).n
 defers : a.defers = ds
 regs : ∀ d, RR X (tOf l (st 0).t xs D d) (a.tmps.getD d undef)
 sig : SigOk l ks st nbs D X.σ
theorem qvc {X : St} {a : Act} {t : Nat -> AV} {ops : Array Oper} {o : Oper} {b : Bool} (h : ∀ g w d, o.guard = some (g, w) -> (ops[g]?).bind (·.dst) = some d -> RR X (t d) (a.tmps.getD d undef)) (hb : awant ops o t = some b) : Region.wanted o (yielded ops a.tmps) = b := by
 unfold awant at hb
 unfold Region.wanted
 cases hg : o.guard with
 | none => rw [hg] at hb; simpa using hb
 | some jb =>
  obtain ⟨j, b'⟩ := jb
  rw [hg] at hb
  dsimp only at hb ⊢
  cases hd : (ops[j]?).bind (·.dst) with
  | none => rw [hd] at hb; cases hb
  | some d =>
   rw [hd] at hb
   dsimp only at hb
   have hr := h j b' d hg hd
   have hy : yielded ops a.tmps j = match a.tmps[d]? with | some (.bool b) => some b | _ => none := by
    unfold yielded; rw [hd]; rfl
   rw [hy]
   split at hb
   .rename_i c hc
    rw [hc, RR.v] at hr
    cases hb
    rw [Array.getD_eq_getD_getElem?] at hr
    have : a.tmps[d]? = some (.bool c) := by
     cases hx : a.tmps[d]? with
     | none => rw [hx] at hr; cases hr
     | some y => rw [hx] at hr; exact congrArg some hr
    rw [this]
    cases c <;> cases b' <;> rfl
   .rename_i c hc
    rw [hc, RR.v, Array.getD_eq_getD_getElem?] at hr
    cases hb
    cases hx : a.tmps[d]? with
    | none => cases b' <;> rfl
    | some y =>
     rw [hx] at hr
     have : y = .tuple c := hr
     subst this
     cases b' <;> rfl
   .cases hb
theorem qkp1 (h : qbw P l ks st s1 xs bs nbs κ) (hok : AnyOk l ks) {D : Nat -> Bool} {j : Nat} {o : Oper} (ho : l[j]? = some o) (hun : D j = false) (hanc : ∀ i, i ∈ (ancs l).getD j [] -> i < j -> D i = true)
  (hdown : ∀ i, D i = true -> j ∈ (ancs l).getD i [] -> D j = true) {d : Nat} (hl : d ∈ looks l o) : (st j).t d = tOf l (st 0).t xs D d := by
 have hj := (List.getElem?_eq_some_iff.1 ho).1
 rw [qgn1 h hok j (by omega) d]
 unfold tOf
 cases hw : wrOf l d with
 | none => rfl
 | some i =>
  obtain ⟨p, hp, hpd⟩ := qjv hw
  dsimp only
  rcases hok.look i j o p d ho hp hpd hl with ⟨h1, h2⟩ | ⟨h1, h2⟩
  .rw [if_pos (by simpa using h1), if_pos (hanc i h2 h1)]
  .have hDi : D i = false := by
    cases hD : D i with
    | false => rfl
    | true => rw [hdown i hD h2] at hun; cases hun
   rw [if_neg (by simp; omega), if_neg (by simp [hDi])]
theorem qej1 {o : Oper} {d : Nat} (h : Operand.tmp d ∈ o.op.operands) : d ∈ looks l o := by
 unfold looks
 refine List.mem_append_left _ ?_
 rw [List.mem_filterMap]
 exact ⟨.tmp d, by simpa using h, rfl⟩
theorem qvz {o : Oper} {g d : Nat} {w : Bool} (hg : o.guard = some (g, w)) (hd : (l[g]?).bind (·.dst) = some d) : d ∈ looks l o := by
 unfold looks
 refine List.mem_append_right _ ?_
 rw [hg]; dsimp only; rw [hd]; simp
theorem qij {C : Nat -> Prop} : ∀ n, (∃ p, p < n /\ C p) -> ∃ p, p < n /\ C p /\ ∀ q, q < n -> C q -> q <= p
 | 0, ⟨p, hp, _⟩ => by omega
 | n + 1, ⟨p, hp, hC⟩ => by
  by_cases hn : C n
  .exact ⟨n, by omega, hn, fun q hq _ => by omega⟩
  .have hpn : p ≠ n := fun e => hn (e ▸ hC)
   obtain ⟨g, h1, h2, h3⟩ := qij n ⟨p, by omega, hC⟩
   refine ⟨g, by omega, h2, fun q hq hCq => ?_⟩
   have : q ≠ n := fun e => hn (e ▸ hCq)
   exact h3 q (by omega) hCq
theorem nbs_M (h : qbw P l ks st s1 xs bs nbs κ) {i : Nat} (hi : i < l.length) {ab : AB} (hn : nbs i = some ab) : bs i = true /\ ks.getD i .R = .M := by
 obtain ⟨o, ho⟩ : ∃ o, l[i]? = some o := ⟨_, List.getElem?_eq_getElem hi⟩
 cases hb : bs i with
 | false => rw [(h.skip i o ho hb).2.2] at hn; cases hn
 | true =>
  refine ⟨rfl, ?_⟩
  cases hk : ks.getD i .R with
  | M => rfl
  | R => rw [(h.opR i o ho hb hk).2.2] at hn; cases hn
  | W => rw [(h.opW i o ho hb hk).2] at hn; cases hn
  | N => exact absurd hk (h.base i).1
  | A => exact absurd hk (h.base i).2
theorem m_at (h : qbw P l ks st s1 xs bs nbs κ) (hok : AnyOk l ks) {j : Nat} (hj : j < l.length) (hM : ks.getD j .R = .M) : MText st nbs j :=
 qxw h j (by omega) fun i hi hW => by
  have := (hok.mw j i hj (by omega) hM hW).1
  omega
theorem w_pre (h : qbw P l ks st s1 xs bs nbs κ) (hok : AnyOk l ks) {D : Nat -> Bool} {τ : Nat -> AB} (hs : SigOk l ks st nbs D τ) {j : Nat} (hj : j < l.length) (hW : ks.getD j .R = .W) (hun : D j = false) (hanc : ∀ i, i ∈ (ancs l).getD j [] -> i < j -> D i = true)
  (hdown : ∀ i, D i = true -> j ∈ (ancs l).getD i [] -> D j = true) : τ = (st j).st := by
 by_cases hw : ∃ p, p < l.length /\ (ks.getD p .R = .W /\ D p = true)
 .obtain ⟨p, hp, ⟨hpW, hpD⟩, hg⟩ := qij l.length hw
  rw [hs.late p hp hpW hpD fun q hq h1 h2 => hg q hq ⟨h1, h2⟩]
  have hne : p ≠ j := fun e => by rw [e, hun] at hpD; cases hpD
  have hpj : p < j := by
   rcases hok.ww p j hp hj hne hpW hW with h1 | h1
   .exact h1.1
   .rw [hdown p hpD h1.2] at hun; cases hun
  refine (qho1 h j (by omega) (by omega) fun i h1 h2 => ⟨fun hiW => ?_, ?_⟩).symm
  .rcases hok.ww i j (by omega) hj (by omega) hiW hW with h3 | h3
   .have := hg i (by omega) ⟨hiW, hanc i h3.2 h3.1⟩
    omega
   .omega
  .cases hn : nbs i with
   | none => rfl
   | some ab =>
    have := (hok.mw i p (by omega) hp (nbs_M h (by omega) hn).2 hpW).1
    omega
 .have hnoW : ∀ p, p < l.length -> ks.getD p .R = .W -> D p = false := fun p hp hpW => by
   cases hD : D p with
   | false => rfl
   | true => exact absurd ⟨p, hp, hpW, hD⟩ hw
  obtain ⟨e1, e2, e3⟩ := hs.early hnoW
  have hm : MText st nbs j := qxw h j (by omega) fun i hi hiW => by
   rcases hok.ww i j (by omega) hj (by omega) hiW hW with h3 | h3
   .have := hnoW i (by omega) hiW
    rw [hanc i h3.2 h3.1] at this; cases this
   .omega
  funext r
  by_cases h0 : r < (st 0).nx
  .rw [e1 r h0, hm.old r h0]
  .by_cases h1 : r < (st j).nx
   .obtain ⟨i, hi, hn, rfl⟩ := hm.all r (by omega) h1
    obtain ⟨ab, hab⟩ := Option.isSome_iff_exists.1 hn
    have hM := (nbs_M h (by omega) hab).2
    rw [e2 i ab (by omega) (hanc i (hok.mw i j (by omega) hj hM hW).2 hi) hab, (hm.born i hi ab hab).2.2]
   .rw [(st j).fin r (by omega)]
    refine e3 r (by omega) fun i hi hD hn he => ?_
    obtain ⟨ab, hab⟩ := Option.isSome_iff_exists.1 hn
    have hij := (hok.mw i j hi hj (nbs_M h hi hab).2 hW).1
    have := (hm.born i hij ab hab).2.1
    omega
theorem qga1 {D : Nat -> Bool} {τ : Nat -> AB} (hs : SigOk l ks st nbs D τ) : ∃ nx, Fin τ nx := by
 by_cases hw : ∃ p, p < l.length /\ (ks.getD p .R = .W /\ D p = true)
 .obtain ⟨p, hp, ⟨hpW, hpD⟩, hg⟩ := qij l.length hw
  rw [hs.late p hp hpW hpD fun q hq h1 h2 => hg q hq ⟨h1, h2⟩]
  exact ⟨_, (st (p + 1)).fin⟩
 .obtain ⟨e1, e2, e3⟩ := hs.early fun p hp hpW => by
   cases hD : D p with
   | false => rfl
   | true => exact absurd ⟨p, hp, hpW, hD⟩ hw
  have hN : ∀ n, ∃ N, ∀ i, i < n -> (st i).nx < N := fun n => by
   induction n with
   | zero => exact ⟨0, fun i hi => by omega⟩
   | succ n ih =>
    obtain ⟨N, hN⟩ := ih
    refine ⟨N + (st n).nx + 1, fun i hi => ?_⟩
    by_cases hin : i = n
    .subst hin; omega
    .have := hN i (by omega); omega
  obtain ⟨N, hN⟩ := hN l.length
  refine ⟨N + (st 0).nx, fun r hr => e3 r (by omega) fun i hi _ _ he => ?_⟩
  have := hN i hi
  omega
theorem qoz1 (h : qbw P l ks st s1 xs bs nbs κ) {D : Nat -> Bool} {τ : Nat -> AB} (hs : SigOk l ks st nbs D τ) {j : Nat} (hj : j < l.length) (hR : ks.getD j .R = .R) (hun : D j = false) (hdown : ∀ i, D i = true -> j ∈ (ancs l).getD i [] -> D j = true) : Sub (κ j) τ := by
 intro r hr
 obtain ⟨k1, k2⟩ := h.kept j hj hR r hr
 by_cases hw : ∃ p, p < l.length /\ (ks.getD p .R = .W /\ D p = true)
 .obtain ⟨p, hp, ⟨hpW, hpD⟩, hg⟩ := qij l.length hw
  rw [hs.late p hp hpW hpD fun q hq h1 h2 => hg q hq ⟨h1, h2⟩]
  exact .inl (k2 p hp hpW fun hm => by rw [hdown p hpD hm] at hun; cases hun)
 .obtain ⟨e1, -, -⟩ := hs.early fun p hp hpW => by
   cases hD : D p with
   | false => rfl
   | true => exact absurd ⟨p, hp, hpW, hD⟩ hw
  have h0 := k1
  rw [e1 r (Nat.lt_of_not_le fun hle => hr (h0.symm.trans ((st 0).fin r hle)))]
  exact .inl h0
theorem qhx1 (ro : Option Nat) (h : qbw P l ks st s1 xs bs nbs κ) (hok : AnyOk l ks) {X0 X : St} {ds : List Deferred} {D D' : Nat -> Bool} {a : Act} {w : World} (inv : AInv l ks st xs nbs X0 ds D a w X) {j : Nat} {o : Oper} (ho : l[j]? = some o) (hun : D j = false)
  (hD' : ∀ i, D' i = (D i || decide (i = j))) (hanc : ∀ i, i ∈ (ancs l).getD j [] -> i < j -> D i = true) (hdown : ∀ i, D i = true -> j ∈ (ancs l).getD i [] -> D j = true) {Q : Exit -> Act -> World -> Prop} {K : Act -> World -> Prop}
  (hK : ∀ a' w' X', AInv l ks st xs nbs X0 ds D' a' w' X' -> K a' w') : wpOpIn (FW ro) 0 P l.toArray Q j K a w := by
 have hj := (List.getElem?_eq_some_iff.1 ho).1
 have hlook := fun d hd => qkp1 (d := d) h hok ho hun hanc hdown hd
 have hoA : l.toArray[j]? = some o := by simpa using ho
 have hwant : Region.wanted o (yielded l.toArray a.tmps) = bs j := qvc (X := X) (fun g w d hg hd => by
  rw [hlook d (qvz hg (by simpa using hd))]; exact inv.regs d) (h.want j o ho)
 have hops : ∀ y ∈ o.op.operands, RR X ((st j).eval y) (a.eval y) := fun y hy => by
  cases y with
  | tmp d => show RR X ((st j).t d) _; rw [hlook d (qej1 hy)]; exact inv.regs d
  | const v => exact RR.v.2 rfl
  | global g => exact RR.v.2 rfl
  | func f => show RC X (.fn f []) [_]; rw [RC]; exact ⟨[], rfl, by rw [R1s]⟩
 have hn : (st j).n = (st 0).n := (qem1 h j (by omega)).1
 have fin : ∀ (Y : St) (v : Value), SR Y -> Fr X Y -> RR Y (xs j) v -> SigOk l ks st nbs D' Y.σ -> K (a.put o.dst v) Y.w := fun Y v hS hF hR hsig => by
  refine hK _ _ Y ⟨rfl, hS, inv.fr.trans hF, inv.fin, ?_, ?_, fun d => ?_, hsig⟩
  .cases o.dst <;> simp [Act.put, inv.size]
  .cases o.dst <;> simp [Act.put, inv.defers]
  .have keep : (o.dst ≠ some d) -> RR Y (tOf l (st 0).t xs D' d) ((a.put o.dst v).tmps.getD d undef) := fun hd => by
    have h1 : (a.put o.dst v).tmps.getD d undef = a.tmps.getD d undef := by
     cases ho' : o.dst with
     | none => rfl
     | some k =>
      have hne : k ≠ d := fun e => hd (by rw [ho', e])
      show (a.tmps.setIfInBounds k v).getD d undef = _
      rw [Array.getD_eq_getD_getElem?, Array.getD_eq_getD_getElem?, Array.getElem?_setIfInBounds_ne hne]
    have h2 : tOf l (st 0).t xs D' d = tOf l (st 0).t xs D d := by
     unfold tOf
     cases hw : wrOf l d with
     | none => rfl
     | some i =>
      obtain ⟨p, hp, hpd⟩ := qjv hw
      have hij : i ≠ j := fun e => by subst e; rw [ho] at hp; cases hp; exact hd hpd
      simp [hD' i, hij]
    rw [h1, h2]; exact (inv.regs d).fr hF
   by_cases hd : o.dst = some d
   .have h1 : (a.put o.dst v).tmps.getD d undef = v := by
     rw [hd]
     have := h.dst j o ho d hd
     show (a.tmps.setIfInBounds d v).getD d undef = v
     simp [Array.getD, inv.size, <- hn, this]
    have h2 : tOf l (st 0).t xs D' d = xs j := by
     unfold tOf
     rw [wr_eq hok ho hd]; simp [hD' j]
    rw [h1, h2]; exact hR
   .exact keep hd
 have sigSame : (ks.getD j .R ≠ .W \/ s1 j = st j) -> nbs j = none -> SigOk l ks st nbs D' X.σ := fun hk hnb => by
  refine ⟨fun hno => ?_, fun p hp hpW hpD hg => ?_⟩
  .obtain ⟨e1, e2, e3⟩ := inv.sig.early fun p hp hpW => by have := hno p hp hpW; rw [hD'] at this; simp at this; exact this.1
   refine ⟨e1, fun i ab hi hDi hab => e2 i ab hi ?_ hab, fun r hr hall => e3 r hr fun i hi hDi hs => hall i hi (by rw [hD', hDi]; rfl) hs⟩
   rw [hD'] at hDi
   have : i ≠ j := fun e => by rw [e, hnb] at hab; cases hab
   simpa [this] using hDi
  .by_cases hpj : p = j
   .subst hpj
    have hs1 : s1 p = st p := hk.resolve_left fun hne => hne hpW
    rw [w_pre h hok inv.sig hp hpW hun hanc hdown, h.next p o ho, (qei _ _ _).1, hs1]
   .have hpD2 : D p = true := by rw [hD'] at hpD; simpa [hpj] using hpD
    exact inv.sig.late p hp hpW hpD2 fun q hq h1 h2 => hg q hq h1 (by rw [hD', h2]; rfl)
 unfold wpOpIn
 rw [hoA]
 dsimp only
 rw [hwant]
 have hwX := inv.w
 subst hwX
 cases hb : bs j with
 | false =>
  rw [if_neg (by simp)]
  obtain ⟨h1, h2, h3⟩ := h.skip j o ho hb
  exact ⟨fun _ _ => trivial, fin X undef inv.sr (Fr.refl X) (by rw [h1]; exact RR.v.2 rfl) (sigSame (.inr h2) h3)⟩
 | true =>
  rw [if_pos rfl]
  cases hk : ks.getD j .R with
  | R =>
   obtain ⟨h1, h2, h3⟩ := h.opR j o ho hb hk
   refine Oper.wpIn_mono ?_ (h1 X a o rfl inv.sr (qga1 inv.sig) (qoz1 h inv.sig hj hk hun hdown) hops (fun r ab hr => by cases hr) Q ro)
   rintro a' w' ⟨v, Y, rfl, rfl, hS, hF, hR, hσ⟩
   exact fin Y v hS hF hR (by rw [hσ]; exact sigSame (.inr h2) h3)
  | M =>
   obtain ⟨h1, h2⟩ := h.opM j o ho hb hk
   have hm := m_at h hok hj hk
   have hnoW : ∀ p, p < l.length -> ks.getD p .R = .W -> D p = false := fun p hp hpW => by
    cases hD : D p with
    | false => rfl
    | true => rw [hdown p hD (hok.mw j p hj hp hk hpW).2] at hun; cases hun
   obtain ⟨e1, e2, e3⟩ := inv.sig.early hnoW
   have hne : ∀ i, i < l.length -> i ≠ j -> (nbs i).isSome = true -> nbs j ≠ none -> (st i).nx ≠ (st j).nx := fun i hi hij hs hjn he => by
    obtain ⟨ab, hab⟩ := Option.isSome_iff_exists.1 hs
    rcases Nat.lt_or_gt_of_ne hij with h3 | h3
    .have := (hm.born i h3 ab hab).2.1; omega
    .obtain ⟨abj, habj⟩ : ∃ x, nbs j = some x := by cases hx : nbs j with
      | none => exact absurd hx hjn
      | some x => exact ⟨x, rfl⟩
     have := ((m_at h hok hi (nbs_M h hi hab).2).born j h3 abj habj).2.1
     omega
   have hsub : Sub (st j).st X.σ := fun r hr => by
    by_cases h0 : r < (st 0).nx
    .left; rw [e1 r h0, hm.old r h0]
    .have hlt : r < (st j).nx := Nat.lt_of_not_le fun hle => hr ((st j).fin r hle)
     obtain ⟨i, hi, hn2, rfl⟩ := hm.all r (by omega) hlt
     obtain ⟨ab, hab⟩ := Option.isSome_iff_exists.1 hn2
     cases hDi : D i with
     | true => left; rw [e2 i ab (by omega) hDi hab, (hm.born i hi ab hab).2.2]
     | false =>
      right
      refine e3 _ (by omega) fun k hk2 hDk hsk he => ?_
      obtain ⟨abk, habk⟩ := Option.isSome_iff_exists.1 hsk
      have hki : k ≠ i := fun e => by rw [e, hDi] at hDk; cases hDk
      rcases Nat.lt_or_gt_of_ne hki with h3 | h3
      .have := ((m_at h hok (by omega) (nbs_M h (by omega) hab).2).born k h3 abk habk).2.1; omega
      .have := ((m_at h hok hk2 (nbs_M h hk2 habk).2).born i h3 ab hab).2.1; omega
   refine Oper.wpIn_mono ?_ (h1 X a o rfl inv.sr (qga1 inv.sig) hsub hops (fun r ab hr => ?_) Q ro)
   .rintro a' w' ⟨v, Y, rfl, rfl, hS, hF, hR, hσ⟩
    refine fin Y v hS hF hR ?_
    cases hn2 : nbs j with
    | none =>
     rw [hn2] at hσ
     change Y.σ = X.σ at hσ
     rw [hσ]; exact sigSame (.inl (by rw [hk]; simp)) hn2
    | some ab =>
     rw [hn2] at hσ
     change Y.σ = upd X.σ (st j).nx ab at hσ
     rw [hσ]
     refine ⟨fun _ => ⟨fun r hr => ?_, fun i ab' hi hDi hab => ?_, fun r hr hall => ?_⟩, fun p hp hpW hpD _ => ?_⟩
     .have := hm.nx
      unfold upd; rw [if_neg (by omega)]; exact e1 r hr
     .unfold upd
      by_cases hij : i = j
      .subst hij; rw [if_pos rfl]; rw [hn2] at hab; cases hab; rfl
      .rw [if_neg (hne i hi hij (by rw [hab]; rfl) (by rw [hn2]; simp))]
       exact e2 i ab' hi (by rw [hD'] at hDi; simpa [hij] using hDi) hab
     .unfold upd
      rw [if_neg fun e => hall j hj (by rw [hD']; simp) (by rw [hn2]; rfl) e.symm]
      exact e3 r hr fun i hi hDi hs => hall i hi (by rw [hD', hDi]; rfl) hs
     .rw [hD'] at hpD
      have hpj : p ≠ j := fun e => by rw [e, hk] at hpW; cases hpW
      rw [hnoW p hp hpW] at hpD
      simp [hpj] at hpD
   .cases hn2 : nbs j with
    | none => rw [hn2] at hr; cases hr
    | some ab' =>
     rw [hn2] at hr
     cases hr
     refine e3 _ hm.nx fun i hi hDi hs he => ?_
     have hij : i ≠ j := fun e => by rw [e, hun] at hDi; cases hDi
     exact hne i hi hij hs (by rw [hn2]; simp) he
  | W =>
   obtain ⟨h1, h2⟩ := h.opW j o ho hb hk
   refine Oper.wpIn_mono ?_ (h1 X a o rfl inv.sr rfl (w_pre h hok inv.sig hj hk hun hanc hdown) hops Q ro)
   rintro a' w' ⟨v, Y, rfl, rfl, hS, hF, hR, hσ⟩
   refine fin Y v hS hF hR ?_
   rw [hσ]
   refine ⟨fun hno => ?_, fun p hp hpW hpD hg => ?_⟩
   .have := hno j hj hk
    rw [hD'] at this; simp at this
   .have hjp := hg j hj hk (by rw [hD']; simp)
    by_cases hpj : p = j
    .subst hpj; rw [h.next p o ho, (qei _ _ _).1]
    .have hpD2 : D p = true := by rw [hD'] at hpD; simpa [hpj] using hpD
     rcases hok.ww p j hp hj hpj hpW hk with h3 | h3
     .omega
     .rw [hdown p hpD2 h3.2] at hun; cases hun
  | N => exact absurd hk (h.base j).1
  | A => exact absurd hk (h.base j).2
def cntF (D : Nat -> Bool) : Nat -> Nat
 | 0 => 0
 | n + 1 => cntF D n + (if D n then 0 else 1)
theorem qxd {D D' : Nat -> Bool} {j : Nat} (hD' : ∀ i, D' i = (D i || decide (i = j))) (hun : D j = false) : ∀ n, (j < n -> cntF D' n + 1 = cntF D n) /\ (n <= j -> cntF D' n = cntF D n)
 | 0 => ⟨fun h => by omega, fun _ => rfl⟩
 | n + 1 => by
  obtain ⟨h1, h2⟩ := qxd hD' hun n
  refine ⟨fun h => ?_, fun h => ?_⟩
  .unfold cntF
   by_cases hn : n = j
   .subst hn
    rw [h2 (Nat.le_refl _), hD', hun]; simp
   .have := h1 (by omega)
    rw [hD' n]; simp only [hn, decide_false, Bool.or_false]; omega
  .unfold cntF
   have hn : n ≠ j := by omega
   rw [h2 (by omega), hD' n]; simp [hn]
theorem qli {D : Nat -> Bool} : ∀ n, cntF D n = 0 -> ∀ i, i < n -> D i = true
 | 0, _, i, hi => by omega
 | n + 1, h, i, hi => by
  unfold cntF at h
  cases hD : D n with
  | false => rw [hD] at h; simp at h
  | true =>
   rw [hD] at h
   by_cases hin : i = n
   .rw [hin, hD]
   .exact qli n (by simpa using h) i (by omega)
theorem qxc {D : Nat -> Bool} (h : ∀ i, D i = false) : ∀ n, cntF D n = n
 | 0 => rfl
 | n + 1 => by unfold cntF; rw [qxc h n, h]; rfl
theorem qwx (h : qbw P l ks st s1 xs bs nbs κ) (hok : AnyOk l ks) {X0 X : St} {ds : List Deferred} {D : Nat -> Bool} {a : Act} {w : World} (inv : AInv l ks st xs nbs X0 ds D a w X) (hall : ∀ i, i < l.length -> D i = true) : Con X0 (st l.length) a w X := by
 obtain ⟨hn, hn0⟩ := qem1 h l.length (Nat.le_refl _)
 refine ⟨inv.w, ?_, inv.sr, inv.fr, by rw [hn]; exact inv.size, fun d => ?_, rfl, by rw [hn0]; exact inv.fin⟩
 .by_cases hw : ∃ p, p < l.length /\ ks.getD p .R = .W
  .obtain ⟨p, hp, hpW, hg⟩ := qij l.length hw
   rw [inv.sig.late p hp hpW (hall p hp) fun q hq h1 _ => hg q hq h1]
   refine (qho1 h l.length (by omega) (Nat.le_refl _) fun i h1 h2 => ⟨fun hiW => ?_, ?_⟩).symm
   .have := hg i h2 hiW; omega
   .cases hn : nbs i with
    | none => rfl
    | some ab => have := (hok.mw i p h2 hp (nbs_M h h2 hn).2 hpW).1; omega
  .have hno : ∀ p, p < l.length -> ks.getD p .R ≠ .W := fun p hp e => hw ⟨p, hp, e⟩
   have hm := qxw h l.length (Nat.le_refl _) fun i hi => hno i hi
   obtain ⟨e1, e2, e3⟩ := inv.sig.early fun p hp e => absurd e (hno p hp)
   funext r
   by_cases h0 : r < (st 0).nx
   .rw [e1 r h0, hm.old r h0]
   .by_cases h1 : r < (st l.length).nx
    .obtain ⟨i, hi, hn2, rfl⟩ := hm.all r (by omega) h1
     obtain ⟨ab, hab⟩ := Option.isSome_iff_exists.1 hn2
     rw [e2 i ab hi (hall i hi) hab, (hm.born i hi ab hab).2.2]
    .rw [(st l.length).fin r (by omega)]
     refine e3 r (by omega) fun i hi _ hs he => ?_
     obtain ⟨ab, hab⟩ := Option.isSome_iff_exists.1 hs
     have := (hm.born i hi ab hab).2.1
     omega
 .rw [qgn1 h hok l.length (Nat.le_refl _) d]
  have : tOf l (st 0).t xs (fun i => decide (i < l.length)) d = tOf l (st 0).t xs D d := by
   unfold tOf
   cases hw : wrOf l d with
   | none => rfl
   | some i =>
    obtain ⟨p, hp, -⟩ := qjv hw
    have hi := (List.getElem?_eq_some_iff.1 hp).1
    simp [hi, hall i hi]
  rw [this]; exact inv.regs d
theorem qle1 (ro : Option Nat) (h : qbw P l ks st s1 xs bs nbs κ) (hok : AnyOk l ks) {X0 : St} {ds : List Deferred} {Q : Exit -> Act -> World -> Prop} (hQ : ∀ a w X, Con X0 (st l.length) a w X -> a.defers = ds -> Q .normal a w) : ∀ (f : Nat) (listed : Array Bool) (a : Act) (w : World), HeadInv .any l.toArray l.length listed ->
  (∃ X, AInv l ks st xs nbs X0 ds (fun i => listed.getD i false) a w X) -> cntF (fun i => listed.getD i false) l.length = f -> wpAnyIn (FW ro) 0 P .any l.toArray Q f listed a w
 | f, listed, a, w, hh, ⟨X, inv⟩, hf => by
  have hsz : listed.size = l.length := by simpa using hh.size
  have hclosed : ∀ j o, l[j]? = some o -> listed.getD j false = true -> ∀ e ∈ o.after, Region.binds .any e = true -> listed.getD e.on false = true := fun j o ho => hh.closed j o (by simpa using ho)
  have done : Region.ready .any l.toArray listed = [] -> Q .normal a w := fun hr => by
   refine hQ a w X (qwx h hok inv fun i hi => ?_) inv.defers
   have key : ∀ i, i < l.length -> listed.getD i false = true := fun i => by
    induction i using Nat.strongRecOn with
    | _ i ih =>
     intro hi
     cases hD : listed.getD i false with
     | true => rfl
     | false =>
      exfalso
      obtain ⟨o, ho⟩ : ∃ o, l[i]? = some o := ⟨_, List.getElem?_eq_getElem hi⟩
      have : i ∈ Region.ready .any l.toArray listed := mem_ready.2 ⟨getD_in (by omega) hD, o, by simpa using ho, fun e he hb => by
       have := hok.edge i o ho e he hb
       exact ih e.on this (by omega)⟩
      rw [hr] at this; cases this
   exact key i hi
  have step : ∀ j, j ∈ Region.ready .any l.toArray listed -> ∀ K : Act -> World -> Prop, (∀ a' w', (∃ X', AInv l ks st xs nbs X0 ds (fun i => (listed.setIfInBounds j true).getD i false) a' w' X') -> K a' w') -> wpOpIn (FW ro) 0 P l.toArray Q j K a w := fun j hj K hK => by
   obtain ⟨h1, o, ho, h2⟩ := mem_ready.1 hj
   have ho' : l[j]? = some o := by simpa using ho
   have hjl := (List.getElem?_eq_some_iff.1 ho').1
   have hun : listed.getD j false = false := getD_both h1
   have hD' : ∀ i, (listed.setIfInBounds j true).getD i false = (listed.getD i false || decide (i = j)) := fun i => by
    by_cases hij : i = j
    .subst hij; simp [Array.getD, hsz, hjl]
    .rw [getD_set_ne false (fun e => hij e.symm)]; simp [hij]
   have hh' := hh.set hj hjl
   have hclosed' : ∀ k o, l[k]? = some o -> (listed.setIfInBounds j true).getD k false = true -> ∀ e ∈ o.after, Region.binds .any e = true -> (listed.setIfInBounds j true).getD e.on false = true := fun k o ho => hh'.closed k o (by simpa using ho)
   refine qhx1 ro (D := fun i => listed.getD i false) (D' := fun i => (listed.setIfInBounds j true).getD i false) h hok inv ho' hun hD' (fun i hi hij => ?_) (fun i hi hji => ?_) fun a' w' X' hI => hK a' w' ⟨X', hI⟩
   .have := qld l hclosed' hok.edge i j (by rw [hD']; simp) hi
    rw [hD'] at this
    have hne : i ≠ j := by omega
    simpa [hne] using this
   .exact qld l hclosed hok.edge j i hi hji
  cases f with
  | zero =>
   refine ⟨?_, ?_⟩ 
   .cases hr : Region.ready .any l.toArray listed with
    | nil => rfl
    | cons j rest =>
     exfalso
     obtain ⟨h1, o, ho, h2⟩ := mem_ready.1 (show j ∈ Region.ready .any l.toArray listed by rw [hr]; simp)
     have hjl := (Array.getElem?_eq_some_iff.1 ho).1
     have := qli l.length hf j (by simpa using hjl)
     have h3 := getD_both h1
     rw [h3] at this; cases this
   .refine hQ a w X (qwx h hok inv fun i hi => qli l.length hf i hi) inv.defers
  | succ f =>
   refine ⟨done, fun j hj => step j hj _ fun a' w' hI => ?_⟩
   obtain ⟨h1, o, ho, h2⟩ := mem_ready.1 hj
   have hjl : j < l.length := by have := (Array.getElem?_eq_some_iff.1 ho).1; simpa using this
   refine qle1 ro h hok hQ f _ a' w' (hh.set hj hjl) hI ?_
   have := (qxd (D := fun i => listed.getD i false) (D' := fun i => (listed.setIfInBounds j true).getD i false) (j := j) (fun i => by
    by_cases hij : i = j
    .subst hij; simp [Array.getD, hsz, hjl]
    .rw [getD_set_ne false (fun e => hij e.symm)]; simp [hij]) (getD_both h1) l.length).1 hjl
   omega
theorem qin1 {X0 X : St} {s : AS} {a : Act} {w : World} (hc : Con X0 s a w X) : Con X0 s a w.drew { X with w := X.w.drew } := by
 have hF : Fr X { X with w := X.w.drew } := ⟨rfl, rfl, rfl, Nat.le_refl _, fun _ _ _ => rfl, fun _ _ _ => rfl, fun _ _ h => h, fun _ _ h => .inl h, (Fr.refl X).ver, fun r b h => .inr ⟨r, h⟩⟩
 refine ⟨by rw [<- hc.w], hc.σ, ⟨fun r => BR.fr hc.sr hF rfl rfl fun _ _ => rfl, hc.sr.alone, hc.sr.apart, hc.sr.old, hc.sr.glob.mono fun _ _ _ h => h.fr hF⟩, hc.fr.trans hF, hc.size, fun d => (hc.regs d).fr hF, hc.defers, hc.fin⟩
theorem qve {id : Nat} {Q : Exit -> AS -> Prop} (hm : P.follows .mixedOrders = true) (hok : AnyOk l ks) (h : qbw P l ks st s1 xs bs nbs κ) (hQ : Q .normal (st l.length)) : awp P (.region id l.toArray true) Q (st 0) := by
 intro X0 a w ⟨X, hc⟩ ro
 have hc' := qin1 hc
 refine wpIn_region_any hm (qle1 ro h hok (X0 := X0) (ds := a.defers) (fun a' w' X' hC hd => ⟨_, hQ, ⟨X', hC⟩, hd⟩) _ _ a _ ⟨by simp, fun j oj _ hl => (by rw [getD_replicate_false] at hl; cases hl), fun t h1 h2 => (by simp at h2; omega)⟩ ⟨_, hc'.w, hc'.sr, hc'.fr, hc'.fin, hc'.size, rfl, fun d => ?_, ?_⟩ ?_)
 .have : tOf l (st 0).t xs (fun i => (Array.replicate l.toArray.size false).getD i false) d = (st 0).t d := by
   unfold tOf
   split
   .exact if_neg (by dsimp only; rw [getD_replicate_false]; simp)
   .rfl
  rw [this]; exact hc'.regs d
 .rw [hc'.σ]
  refine ⟨fun _ => ⟨fun r _ => rfl, fun i ab hi hD => ?_, fun r hr _ => (st 0).fin r hr⟩, fun p hp hpW hD => ?_⟩
  .rw [getD_replicate_false] at hD; cases hD
  .rw [getD_replicate_false] at hD; cases hD
 .rw [qxc (fun i => getD_replicate_false _ _)]; simp
end
end Go.Proofs.YtkedbjjfmejbhaaGreatDoor
