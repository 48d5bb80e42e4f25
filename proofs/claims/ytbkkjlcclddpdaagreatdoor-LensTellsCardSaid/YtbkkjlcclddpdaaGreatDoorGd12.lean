/- Labels; a slice literal that the call may write (and then freeze, and let grow): regions in text order in which each literal is one. -/
import Derived.Scope
import Derived.Shelf.Strings.BuilderK
import Derived.Test.YtbkkjlcclddpdaaGreatDoorGd8
import Derived.Test.YtbkkjlcclddpdaaGreatDoorGd10
import Derived.Test.YtbkkjlcclddpdaaGreatDoorGd11
set_option linter.unusedSimpArgs false
set_option linter.unusedVariables false
namespace Go.Proofs.YtbkkjlcclddpdaaGreatDoor
open Go.RowKit Go.Lib
def ANoGoto (Q : Exit → AS → Prop) : Exit → AS → Prop
  | .goto _, _ => False
  | e, s => Q e s
attribute [simp] ANoGoto
section
variable {P : Program} {ev : Operand → AV} {σ : Nat → AB}
theorem fop_litVec {t e : TypeId} {ps : List (Nat × Operand)} {n sz by_ r : Nat} (ht : vinfo P t = some (e, sz, by_)) (hn : n = ps.length) (hsm : n * sz ≤ 16777216) (hb : bldS sz 0 (ps.map fun p => (p.1, ev p.2))) (hw : AV.wid (ps.map fun p => (ev p.2).pub) sz) :
    FOp P ev σ (.buildSlice t n ps.toArray) (.own r n) (some (r, .vec (ps.map fun p => (ev p.2).pub) e sz)) := by
  intro X a oper hop hS hsub hev hnb Q
  have hu0 := hnb r _ rfl
  obtain ⟨hu, i, z, hi, hz, rfl, rfl, hzs, hsz0, hby0, hz1⟩ := qbm ht
  subst hn
  obtain ⟨c, h2, h3⟩ := bldS_run (X := X) (sz := i.size) (k := 0) (l := []) (xs := []) (vs := ps.map fun p => (p.1, a.eval p.2)) (cells := (Array.range (ps.length * i.size)).map ((if ps.length * i.size = 0 then #[] else z.cells)[· % (if ps.length * i.size = 0 then #[] else z.cells).size]!)) (by simp) (fun j p q hj hq => by
    rw [List.getElem?_map] at hj hq
    cases hp : ps[j]? with
    | none => rw [hp] at hj; cases hj
    | some p0 =>
      rw [hp] at hj hq
      cases hj; cases hq
      exact hev _ (by simp [Op.operands]; exact ⟨_, List.mem_of_getElem? hp⟩)) hb (by simp) rfl (by simp) (by simp)
  have hrun : (execOp a.eval oper).run P X.w = .ok (.value (.slice (some ⟨X.w.heap.size, 0, none⟩) ps.length ps.length)) (X.w.alloc (.cells c e)) := by
    have hbig : ¬ (2 ^ 24 < ps.length * i.size) := by omega
    have hul : (underlying t).run P X.w = .ok (.slice e) X.w := run_underlying hu X.w
    have hsz : (sizeOf e).run P X.w = .ok i.size X.w := by simp [sizeOf, typeInfo, hi]
    have hzv : (zeroValue e).run P X.w = .ok z X.w := by simp [zeroValue, typeInfo, hi, hz]
    have hps : (ps.toArray.map fun (p : Nat × Operand) => (p.1, a.eval p.2)).toList = ps.map fun p => (p.1, a.eval p.2) := by simp
    have key : (Instr.buildSlice t ps.length (ps.toArray.map fun (p : Nat × Operand) => (p.1, a.eval p.2))).run P X.w = .ok (.slice (some ⟨X.w.heap.size, 0, none⟩) ps.length ps.length) (X.w.alloc (.cells c e)) := by
      unfold Instr.buildSlice
      rw [Sem.run_bind, hul, Result.andThen_ok, Sem.run_bind, hsz, Result.andThen_ok]
      dsimp only
      rw [if_neg (by simpa using hbig)]
      by_cases h0 : ps.length * i.size = 0
      · rw [if_pos h0] at h2
        rw [if_pos h0, hps]
        simp only [Sem.run_bind, Sem.run_pure, Result.andThen_ok]
        rw [h2]
        simp [newRow]
      · rw [if_neg h0] at h2
        rw [if_neg h0, hps]
        simp only [Sem.run_bind, Sem.run_pure, Result.andThen_ok, hzv]
        rw [h2]
        simp [newRow]
    simp only [execOp, hop]
    rw [Sem.run_bind, key]; rfl
  have hlen : (ps.map fun p => (ev p.2).pub).length = ps.length := by simp
  have hv : (AB.vec (ps.map fun p => (ev p.2).pub) e i.size).blk (.slice (some ⟨X.w.heap.size, 0, none⟩) ps.length ps.length) = some X.w.heap.size := rfl
  have hF := qfl hS (cs := c) (t := e) hu0 hv
  rw [List.nil_append, List.map_map] at h3
  have h3' : RCs X (ps.map fun p => (ev p.2).pub) c.toList := h3
  have hcl := RCs.len h3' hw
  rw [hlen] at hcl
  have hnl := Nat.le_mul_of_pos_right ps.length hsz0
  refine qbb hrun ⟨_, X.born r _ c e (.slice (some ⟨X.w.heap.size, 0, none⟩) ps.length ps.length), rfl, rfl, born_sr hS hu0 hv ?_, hF, ?_, rfl⟩
  · refine ⟨hw, c.toList, ⟨by rw [hlen]; exact hcl, .inr ⟨X.w.heap.size, ps.length, c, by rw [hlen], Nat.zero_le _, heap_alloc_new X.w _, by rw [hlen]; exact Nat.le_refl _, by unfold maxLen; omega, by rw [← hcl]; simp, by rw [hlen, ← hcl, List.take_length]⟩⟩, h3'.fr hF⟩
  · show RC _ (.own r _) [_]
    rw [RC]
    refine ⟨by simp [St.born, upd], _, rfl, ⟨rfl, fun I h => by simp [St.born, upd] at h⟩, fun l e2 s2 hl => ?_⟩
    simp [St.born, upd] at hl
    obtain ⟨rfl, rfl, rfl⟩ := hl
    exact ⟨by simp, fun _ => by simp [St.born, upd]⟩
end
def aevL (P : Program) (s : AS) (o : Op) (K : AV → AS → Prop) : Prop :=
  match o with
  | .buildSlice t n ⟨p :: ps⟩ => match vinfo P t with
    | some (e, sz, _) => n = (p :: ps).length ∧ n * sz ≤ 16777216 ∧ bldS sz 0 ((p :: ps).map fun p => (p.1, s.eval p.2)) ∧ AV.wid ((p :: ps).map fun p => (s.eval p.2).pub) sz ∧ K (.own s.nx n) (s.ext (some (.vec ((p :: ps).map fun p => (s.eval p.2).pub) e sz)))
    | none => False
  | o => aev P s o K
def aseqL (P : Program) (ops : Array Oper) (K : AS → Prop) : List Oper → AS → Prop
  | [], s => K s
  | o :: l, s => match awant ops o s.t with
    | some b => qcb b (aevL P s o.op (fun x s1 => dstOk o.dst s1.n ∧ aseqL P ops K l (s1.put o.dst x))) (dstOk o.dst s.n ∧ aseqL P ops K l (s.put o.dst (.v undef)))
    | none => False
instance {P : Program} {ops : Array Oper} {K : AS → Prop} {o : Oper} {l : List Oper} {s : AS} : Stp (aseqL P ops K (o :: l) s) (match awant ops o s.t with
    | some b => qcb b (aevL P s o.op (fun x s1 => dstOk o.dst s1.n ∧ aseqL P ops K l (s1.put o.dst x))) (dstOk o.dst s.n ∧ aseqL P ops K l (s.put o.dst (.v undef)))
    | none => False) := ⟨fun h => h⟩
instance {P : Program} {ops : Array Oper} {K : AS → Prop} {s : AS} : Stp (aseqL P ops K [] s) (K s) := ⟨fun h => h⟩
attribute [simp] aevL aseqL
end Go.Proofs.YtbkkjlcclddpdaaGreatDoor

/- Regions that draw their order, and write own blocks alone; one own block is read ahead of the last writes. -/
namespace Go.Proofs.YtbkkjlcclddpdaaGreatDoor
open Go.RowKit Go.Lib
section
variable {P : Program}
theorem eop_appendO {s : AS} {t : TypeId} {x y : Operand} {r n : Nat} {l ys : List AV} {e : TypeId} {sz by_ : Nat} {K : AV → AS → Prop} (ht : vinfo P t = some (e, sz, by_)) (hx : s.eval x = .own r n) (hσ : s.st r = .vec l e sz) (hn : n = l.length) (hyl : (s.eval y).list = some ys) (hne : 0 < ys.length)
    (hw : ∀ z ∈ ys, z.width = sz) (h1 : ∀ z ∈ ys, z.elem = true) (hb : (l.length + ys.length) * by_ ≤ 140737488355328) (hK : K (.own r (l.length + ys.length)) (s.set r (.vec (l ++ ys) e sz))) :
    EOp P s (.call { callee := .builtin .append, args := #[x, y], argTypes := #[t, t] }) K := by
  intro X0 a w X oper ho hc Q
  have hw0 := hc.w
  subst hw0
  have hx2 := hc.eval x
  rw [hx] at hx2
  exact own_core ho hc ht hx2 hn hσ (hc.eval y) hyl hne hw h1 hb hK Q
theorem eop_appendO0 {s : AS} {t : TypeId} {x y : Operand} {r n : Nat} {l ys : List AV} {e : TypeId} {sz by_ : Nat} {K : AV → AS → Prop} (ht : vinfo P t = some (e, sz, by_)) (hx : s.eval x = .own r n) (hσ : s.st r = .vec l e sz) (hn : n = l.length) (hyl : (s.eval y).list = some ys)
    (hw : ∀ z ∈ ys, z.width = sz) (h1 : ∀ z ∈ ys, z.elem = true) (hb : (l.length + ys.length) * by_ ≤ 140737488355328) (hK : K (.own r (l.length + ys.length)) (s.set r (.vec (l ++ ys) e sz))) :
    EOp P s (.call { callee := .builtin .append, args := #[x, y], argTypes := #[t, t] }) K := by
  cases ys with
  | cons z ys => exact eop_appendO ht hx hσ hn hyl (by simp) hw h1 hb hK
  | nil =>
    intro X0 a w X oper ho hc Q
    have hw0 := hc.w
    subst hw0
    have hx2 := hc.eval x
    rw [hx] at hx2
    have hx3 : RC X (.own r n) [a.eval x] := hx2
    rw [RC] at hx3
    obtain ⟨-, v0, hv0, -, hall⟩ := hx3
    have hX : X.σ r = .vec l e sz := by rw [hc.σ, hσ]
    have hvm : a.eval x = X.μ r := by
      have := (hall _ _ _ hX).2 hn
      rw [← this]; simpa using hv0
    have hB := hc.sr.block r
    rw [hX] at hB
    obtain ⟨hwd, xs, hown, hrs⟩ := hB
    have hsh : ∃ A cap, X.μ r = .slice A l.length cap ∧ l.length ≤ cap := by
      rcases (World.ownsRowF_of hown).2 with ⟨h5, h6⟩ | ⟨g, cap2, cur, fz, h5, -, -, -, h6, -⟩
      · exact ⟨none, 0, by rw [h5, h6], by omega⟩
      · exact ⟨_, cap2, h5, h6⟩
    obtain ⟨A0, cap0, hv, hl0⟩ := hsh
    obtain ⟨A, cap, b, off, hyv', -⟩ := RR.list hyl (hc.eval y)
    obtain ⟨hu1, i, z, hi, -⟩ := qbm ht
    rw [List.append_nil, List.length_nil, Nat.add_zero, AS.set_same hσ] at hK
    refine qbb (w' := X.w) (v := a.eval x) (by rw [List.length_nil] at hyv'; simp [execOp, ho, resolve, invoke, builtin, hvm, hv, hyv', qdt hu1 hi A0 A l.length cap0 cap hl0])
      ⟨a.eval x, .own r l.length, _, _, rfl, hK, hc, by rw [← hn]; exact hx2⟩
theorem fop2_callN {ev : Operand → AV} {σ : Nat → AB} {f : FuncId} {args : List Operand} {tys : Array TypeId} {x : AV} (hf : enters P f = true) (hn : ∀ y ∈ args, ∀ l, ev y ≠ .tup l) (h : GivesS P f (.v (.slice none 0 0) :: (args.map ev).map AV.pub) σ x) :
    FOp2 P ev σ (.call { callee := .value (.func f), args := (.const (.slice none 0 0) :: args).toArray, argTypes := tys }) x none := by
  intro X a oper ho hS ⟨nx, hfin⟩ hsub hev _ Q
  have hrun : (execOp a.eval oper).run P X.w = .ok (.enter f (.slice none 0 0 :: args.map a.eval).toArray) X.w := by
    have he : a.eval (.func f) = .func (.func f) #[] #[] := rfl
    have hc : a.eval (.const (.slice none 0 0)) = .slice none 0 0 := rfl
    simp [execOp, ho, resolve, he, hc, Deferred.ofValue, invoke, qcr hf]
  have hargs : RRl X (.v (.slice none 0 0) :: (args.map ev).map AV.pub) (.slice none 0 0 :: args.map a.eval) := by
    refine ⟨_, _, rfl, ?_, (rrl_ev (a := a) args (fun y hy => hev y (by simp [Op.operands, Call.operands, hy])) hn).pub⟩
    show RC X (.v _) [_]
    rw [RC]
  refine OwpA.of (fun c h => by rw [ho] at h; cases h) ?_
  unfold Oper.wp
  rw [hrun]
  refine (h X.σ hsub X _ nx hS rfl hfin hargs).mono ?_
  rintro e w' ⟨Y, v, y, rfl, rfl, ⟨rfl, hσ⟩, hS', hF, hR⟩
  exact ⟨v, Y, rfl, rfl, hS', hF, hR, hσ⟩
def aevM4 (P : Program) (s : AS) (o : Op) (K : AV → Option AB → Prop) : Prop :=
  match o with
  | .buildSlice t n ⟨p :: ps⟩ => match vinfo P t with
    | some (e, sz, _) => n = (p :: ps).length ∧ n * sz ≤ 16777216 ∧ bldS sz 0 ((p :: ps).map fun p => (p.1, s.eval p.2)) ∧ AV.wid ((p :: ps).map fun p => (s.eval p.2).pub) sz ∧ K (.own s.nx n) (some (.vec ((p :: ps).map fun p => (s.eval p.2).pub) e sz))
    | none => False
  | .call { callee := .value (.func f), args := ⟨.const (.slice none 0 0) :: args⟩, .. } => nts (args.map s.eval) = true ∧ enters P f = true ∧ AGives P f (.v (.slice none 0 0) :: (args.map s.eval).map AV.pub) s.st (fun x => K x none)
  | o => aevM P s o K
theorem aevM4_sound {s : AS} {o : Op} {K : AV → Option AB → Prop} (h : aevM4 P s o K) : ∃ x nb, FOp2 P s.eval s.st o x (nb.map (s.nx, ·)) ∧ K x nb := by
  unfold aevM4 at h
  split at h
  · split at h
    · obtain ⟨h1, h2, h3, h4, h5⟩ := h
      exact ⟨_, _, (fop_litVec ‹_› h1 h2 h3 h4).two, h5⟩
    · exact h.elim
  · obtain ⟨h1, h2, x, h3, h4⟩ := h
    exact ⟨x, none, fop2_callN h2 (qdr h1) h3, h4⟩
  · exact qet h
attribute [simp] aevM4
def aevW4 (P : Program) (s : AS) (o : Op) (K : AV → AS → Prop) : Prop :=
  match o with
  | .call { callee := .builtin .append, args := ⟨[x, y]⟩, argTypes := ⟨[t, t']⟩ } => match s.eval x with
    | .own r n => t' = t ∧ (match vinfo P t with
      | some (e, sz, by_) => match s.st r, (s.eval y).list with
        | .vec l e' sz', some ys => e' = e ∧ sz' = sz ∧ n = l.length ∧ AV.wid ys sz ∧ AV.elms ys ∧ (l.length + ys.length) * by_ ≤ 140737488355328 ∧ K (.own r (l.length + ys.length)) (s.set r (.vec (l ++ ys) e sz))
        | _, _ => False
      | none => False)
    | _ => aevW2 P s (.call { callee := .builtin .append, args := ⟨[x, y]⟩, argTypes := ⟨[t, t']⟩ }) K
  | o => aevW2 P s o K
theorem qga {s : AS} {o : Op} {K : AV → AS → Prop} (h : aevW4 P s o K) : ∃ x s1, WOp P s.eval s.st o x s1.st ∧ (s1.t = s.t ∧ s1.n = s.n ∧ s1.n0 = s.n0) ∧ K x s1 := by
  unfold aevW4 at h
  split at h
  · rename_i x y t t'
    split at h
    · rename_i r n hx
      obtain ⟨rfl, h⟩ := h
      split at h
      · rename_i e sz by_ ht
        split at h
        · rename_i l e' sz' ys hσ hy
          obtain ⟨rfl, rfl, hn, h3, h4, h5, h6⟩ := h
          have hr := set_lt hσ (by simp)
          refine ⟨_, _, qdo fun s' he hst hnx => ?_, ⟨(s.set_nx r _).2.2, (s.set_nx r _).1, (s.set_nx r _).2.1⟩, h6⟩
          have ex := he x (by simp [Op.operands, Call.operands])
          have ey := he y (by simp [Op.operands, Call.operands])
          refine eop_appendO0 ht (by rw [ex]; exact hx) (by rw [hst]; exact hσ) hn (by rw [ey]; exact hy) h3 h4 h5 ⟨rfl, ?_⟩
          rw [AS.set_st _ _ _ (by rw [hnx]; exact hr), AS.set_st _ _ _ hr, hst]
        · exact h.elim
      · exact h.elim
    · exact aevW2_sound h
  · exact aevW2_sound h
attribute [simp] aevW4
theorem awp_thawR {c : Code} {Q : Exit → AS → Prop} {n n0 : Nat} {t : Nat → AV} {σ : Nat → AB} {L : List AB} (d i : Nat) {et : TypeId} {sz : Nat} (hd : t d = .gs (n0 + i) []) (hL : L[i]? = some (.tail 0 et sz))
    (h : awp P c Q ⟨n, upd t d (.own (n0 + L.length) 0), σ, n0, L.set i .dead ++ [AB.vec [] et sz]⟩) : awp P c Q ⟨n, t, σ, n0, L⟩ := by
  intro X0 a w ⟨X, hc⟩
  have hst : (AS.mk n t σ n0 L).st (n0 + i) = .tail 0 et sz := by
    show loc σ n0 L (n0 + i) = _
    unfold loc
    rw [if_neg (by omega), Nat.add_sub_cancel_left, List.getD_eq_getElem?_getD, hL]; rfl
  obtain ⟨X', hXw, hc', hF, hR⟩ := con_thaw hc hst
  have hset : (AS.mk n t σ n0 L).set (n0 + i) .dead = ⟨n, t, σ, n0, L.set i .dead⟩ := by
    unfold AS.set; dsimp only; rw [if_neg (by omega), Nat.add_sub_cancel_left]
  rw [hset] at hc'
  refine h X0 a w ⟨X', ⟨hc'.w, hc'.σ, hc'.sr, hc'.fr, hc'.size, fun j => ?_, hc'.defers, hc'.fin⟩⟩
  show RR X' (upd t d _ j) _
  unfold upd
  by_cases hj : j = d
  · subst hj
    rw [if_pos rfl]
    have := hc.regs j
    change RR X (t j) _ at this
    rw [hd] at this
    exact hR _ this
  · rw [if_neg hj]; exact hc'.regs j
end
section
variable {P : Program}
structure AnyRaw4 (P : Program) (ops : Array Oper) (l : List Oper) (ks : List RK) (st s1 : Nat → AS) (xs : Nat → AV) (bs : Nat → Bool) (nbs : Nat → Option AB) (κ : Nat → AB) (q : Nat) : Prop where
  kept : ∀ r, κ r ≠ .unborn → ∀ j, j ≤ l.length → (st j).st r = κ r
  eye : ∀ i, i < l.length → ks.getD i .R ≠ .W → (st (i + 1)).st q = (st i).st q
  want : ∀ i o, l[i]? = some o → awant ops o (st i).t = some (bs i)
  dst : ∀ i o, l[i]? = some o → dstOk o.dst (st i).n
  next : ∀ i o, l[i]? = some o → st (i + 1) = (s1 i).put o.dst (xs i)
  same : ∀ i o, l[i]? = some o → (s1 i).t = (st i).t ∧ (s1 i).n = (st i).n ∧ (s1 i).n0 = (st i).n0
  skip : ∀ i o, l[i]? = some o → bs i = false → xs i = .v undef ∧ s1 i = st i ∧ nbs i = none
  opR : ∀ i o, l[i]? = some o → bs i = true → ks.getD i .R = .R → FOp2 P (st i).eval κ o.op (xs i) none ∧ s1 i = st i ∧ nbs i = none
  opN : ∀ i o, l[i]? = some o → bs i = true → ks.getD i .R = .N → FOp2 P (st i).eval (only q (st i).st) o.op (xs i) none ∧ s1 i = st i ∧ nbs i = none
  opM : ∀ i o, l[i]? = some o → bs i = true → ks.getD i .R = .M → FOp2 P (st i).eval (st i).st o.op (xs i) ((nbs i).map ((st i).nx, ·)) ∧ s1 i = (st i).ext (nbs i)
  opW : ∀ i o, l[i]? = some o → bs i = true → (ks.getD i .R).base = .W → WOp P (st i).eval (st i).st o.op (xs i) (s1 i).st ∧ nbs i = none
section
variable {l : List Oper}
theorem raw_steps4 {l : List Oper} {ks : List RK} {st s1 : Nat → AS} {xs : Nat → AV} {bs : Nat → Bool} {nbs : Nat → Option AB} {κ : Nat → AB} {q : Nat} (hB : anyB l ks = true) (h : AnyRaw4 P l.toArray l ks st s1 xs bs nbs κ q) : qck P l (ks.map RK.base) st s1 xs bs nbs (fun i => if ks.getD i .R = .N then (if bs i = true then only q (st i).st else fun _ => .unborn) else κ) := by
  have pre : ∀ j, j ≤ l.length → (∀ i, i < j → ks.getD i .R ≠ .W) → (st j).st q = (st 0).st q := fun j => by
    induction j with
    | zero => intro _ _; rfl
    | succ j ih =>
      intro hj hk
      rw [h.eye j (by omega) (hk j (by omega)), ih (by omega) fun i hi => hk i (by omega)]
  refine ⟨fun i => ?_, fun i hi hk r hr => ?_, h.want, h.dst, h.next, h.same, h.skip, fun i o ho hb hk => ?_, fun i o ho hb hk => ?_, fun i o ho hb hk => ?_⟩
  · rw [qcp]
    cases ks.getD i .R <;> simp [RK.base]
  · split at hr
    · rename_i hN
      rw [if_pos hN]
      split at hr
      · rename_i hb
        rw [if_pos hb]
        by_cases hrq : r = q
        · subst hrq
          have ei : only r (st i).st r = (st 0).st r := by
            unfold only; rw [if_pos rfl]
            exact pre i (by omega) fun p hp hW => by
              have := ((anyB_n hB hi (j := p) (by omega)).1 hN hW).1; omega
          rw [ei]
          refine ⟨rfl, fun p hp hpW hpi => ?_⟩
          rw [qcp] at hpW
          have hpA : ks.getD p .R = .A := by
            cases hk2 : ks.getD p .R with
            | A => rfl
            | W => exact absurd ((anyB_n hB hi hp).1 hN hk2).2 hpi
            | R => rw [hk2] at hpW; cases hpW
            | M => rw [hk2] at hpW; cases hpW
            | N => rw [hk2] at hpW; cases hpW
          refine pre (p + 1) (by omega) fun p' hp' hW => ?_
          by_cases hpp : p' = p
          · rw [hpp, hpA] at hW; cases hW
          · have := (anyB_n hB hp (j := p') (by omega)).2 hpA hW; omega
        · exact absurd (if_neg hrq) hr
      · exact absurd rfl hr
    · rename_i hN
      rw [if_neg hN]
      exact ⟨h.kept r hr 0 (Nat.zero_le _), fun p hp _ _ => h.kept r hr (p + 1) (by omega)⟩
  · rw [qcp] at hk
    by_cases hN : ks.getD i .R = .N
    · rw [if_pos hN, if_pos hb]
      exact h.opN i o ho hb hN
    · rw [if_neg hN]
      refine h.opR i o ho hb ?_
      cases hk2 : ks.getD i .R with
      | R => rfl
      | M => rw [hk2] at hk; cases hk
      | W => rw [hk2] at hk; cases hk
      | N => exact absurd hk2 hN
      | A => rw [hk2] at hk; cases hk
  · rw [qcp] at hk
    refine h.opM i o ho hb ?_
    cases hk2 : ks.getD i .R with
    | M => rfl
    | R => rw [hk2] at hk; cases hk
    | W => rw [hk2] at hk; cases hk
    | N => rw [hk2] at hk; cases hk
    | A => rw [hk2] at hk; cases hk
  · rw [qcp] at hk
    exact h.opW i o ho hb hk
end
def AS.eyeO (j : Nat) (s : AS) : AS := { s with σ := fun _ => .unborn, L := List.replicate j .unborn ++ [s.L.getD j .unborn] }
theorem eyeO_st {s : AS} {j : Nat} : (s.eyeO j).st = only (s.n0 + j) s.st := by
  funext k
  show loc (fun _ => .unborn) s.n0 (List.replicate j .unborn ++ [s.L.getD j .unborn]) k = _
  unfold loc only
  by_cases hk : k < s.n0
  · rw [if_pos hk, if_neg (by omega)]
  · rw [if_neg hk]
    by_cases hj : k = s.n0 + j
    · rw [if_pos hj]
      subst hj
      show _ = loc s.σ s.n0 s.L (s.n0 + j)
      unfold loc
      rw [if_neg (by omega), Nat.add_sub_cancel_left, List.getD_eq_getElem?_getD, List.getElem?_append_right (by simp)]
      simp
    · rw [if_neg hj]
      by_cases h2 : k - s.n0 < j
      · rw [List.getD_eq_getElem?_getD, List.getElem?_append_left (by simpa using h2), List.getElem?_replicate, if_pos h2]; rfl
      · rw [List.getD_eq_getElem?_getD, List.getElem?_eq_none (by simp; omega)]; rfl
theorem st_own {s : AS} {n0 j : Nat} (h : s.n0 = n0) : s.st (n0 + j) = s.L.getD j .unborn := by
  subst h
  show loc s.σ s.n0 s.L (s.n0 + j) = _
  unfold loc
  rw [if_neg (by omega), Nat.add_sub_cancel_left]
def anyF (P : Program) (ops : Array Oper) (m : List AB) (j : Nat) (K : AS → Prop) : List Oper → List RK → AS → Prop
  | [], _, s => K s
  | o :: l, ks, s => match awant ops o s.t with
    | some b => qcb b (match ks.headD .R with
      | .R => aevF P (s.seen m) o.op (fun x nb => nb = none ∧ dstOk o.dst s.n ∧ anyF P ops m j K l ks.tail (s.put o.dst x))
      | .N => aevF P (s.eyeO j) o.op (fun x nb => nb = none ∧ dstOk o.dst s.n ∧ anyF P ops m j K l ks.tail (s.put o.dst x))
      | .M => aevM4 P s o.op (fun x nb => j < s.L.length ∧ dstOk o.dst s.n ∧ anyF P ops m j K l ks.tail ((s.ext nb).put o.dst x))
      | .A => aevW4 P s o.op (fun x s1 => s1.L.getD j .unborn = s.L.getD j .unborn ∧ dstOk o.dst s.n ∧ qco m s1.L ∧ s1.σ = s.σ ∧ anyF P ops m j K l ks.tail (s1.put o.dst x))
      | .W => aevW4 P s o.op (fun x s1 => dstOk o.dst s.n ∧ qco m s1.L ∧ s1.σ = s.σ ∧ anyF P ops m j K l ks.tail (s1.put o.dst x))) (dstOk o.dst s.n ∧ anyF P ops m j K l ks.tail (s.put o.dst (.v undef)))
    | none => False
theorem anyF_steps {ops : Array Oper} {m : List AB} {j : Nat} {σ0 : Nat → AB} {n0 : Nat} {K : AS → Prop} : ∀ (l : List Oper) (ks : List RK) (s : AS), s.n0 = n0 → s.σ = σ0 → (∀ r, loc σ0 n0 m r ≠ .unborn → s.st r = loc σ0 n0 m r) → anyF P ops m j K l ks s →
    ∃ st s1 xs bs nbs, AnyRaw4 P ops l ks st s1 xs bs nbs (loc σ0 n0 m) (n0 + j) ∧ st 0 = s ∧ K (st l.length)
  | [], ks, s, hn0, hs0, hke, h => by
    refine ⟨fun _ => s, fun _ => s, fun _ => .any, fun _ => true, fun _ => none, ⟨fun r hr j _ => hke r hr, fun _ hi => absurd hi (Nat.not_lt_zero _), ?_, ?_, ?_, ?_, ?_, ?_, ?_, ?_, ?_⟩, rfl, h⟩ <;> (intro i o ho; simp at ho)
  | o :: l, ks, s, hn0, hs0, hke, h => by
    have key : ∀ (x : AV) (b : Bool) (nb : Option AB) (s1 : AS), awant ops o s.t = some b → dstOk o.dst s.n → (s1.t = s.t ∧ s1.n = s.n ∧ s1.n0 = s.n0) → s1.σ = s.σ → (ks.headD .R ≠ .W → s1.st (n0 + j) = s.st (n0 + j)) → (b = false → x = .v undef ∧ s1 = s ∧ nb = none) →
        (b = true → ks.headD .R = .R → FOp2 P s.eval (loc σ0 n0 m) o.op x none ∧ s1 = s ∧ nb = none) → (b = true → ks.headD .R = .N → FOp2 P s.eval (only (n0 + j) s.st) o.op x none ∧ s1 = s ∧ nb = none) → (b = true → ks.headD .R = .M → FOp2 P s.eval s.st o.op x (nb.map (s.nx, ·)) ∧ s1 = s.ext nb) →
        (b = true → (ks.headD .R).base = .W → WOp P s.eval s.st o.op x s1.st ∧ nb = none) → (∀ r, loc σ0 n0 m r ≠ .unborn → s1.st r = loc σ0 n0 m r) → anyF P ops m j K l ks.tail (s1.put o.dst x) →
        ∃ st s1 xs bs nbs, AnyRaw4 P ops (o :: l) ks st s1 xs bs nbs (loc σ0 n0 m) (n0 + j) ∧ st 0 = s ∧ K (st (o :: l).length) := by
      intro x b nb s1 hw hd hsame hss heye hskip hR hN hM hW hke1 hrest
      have hput : (s1.put o.dst x).σ = s1.σ := by cases o.dst <;> rfl
      obtain ⟨st, s1', xs, bs, nbs, hs, h0, hK⟩ := anyF_steps (n0 := n0) (σ0 := σ0) l ks.tail _ (by rw [(qds s1 o.dst x).2.2.2, hsame.2.2]; exact hn0) (by rw [hput, hss]; exact hs0) (fun r hr => by rw [(qds s1 o.dst x).1]; exact hke1 r hr) hrest
      have hks : ∀ i, ks.getD (i + 1) .R = ks.tail.getD i .R := fun i => by cases ks <;> simp
      have hk0 : ks.getD 0 .R = ks.headD .R := by cases ks <;> simp
      refine ⟨fun i => match i with | 0 => s | i + 1 => st i, fun i => match i with | 0 => s1 | i + 1 => s1' i, fun i => match i with | 0 => x | i + 1 => xs i, fun i => match i with | 0 => b | i + 1 => bs i, fun i => match i with | 0 => nb | i + 1 => nbs i, ⟨fun r hr j hj => (match j with | 0 => hke r hr | j + 1 => hs.kept r hr j (by simpa using hj)), fun i hi hk => ?_, ?_, ?_, ?_, ?_, ?_, ?_, ?_, ?_, ?_⟩, rfl, hK⟩
      · cases i with
        | zero => rw [hk0] at hk; show (st 0).st _ = s.st _; rw [h0, (qds s1 o.dst x).1]; exact heye hk
        | succ i => rw [hks] at hk; exact hs.eye i (by simpa using hi) hk
      all_goals (intro i o' ho; cases i)
      · simp at ho; subst ho; exact hw
      · exact hs.want _ o' (by simpa using ho)
      · simp at ho; subst ho; exact hd
      · exact hs.dst _ o' (by simpa using ho)
      · simp at ho; subst ho; exact h0
      · exact hs.next _ o' (by simpa using ho)
      · simp at ho; subst ho; exact hsame
      · exact hs.same _ o' (by simpa using ho)
      · simp at ho; subst ho; exact hskip
      · exact hs.skip _ o' (by simpa using ho)
      · simp at ho; subst ho; rw [hk0]; exact hR
      · rw [hks]; exact hs.opR _ o' (by simpa using ho)
      · simp at ho; subst ho; rw [hk0]; exact hN
      · rw [hks]; exact hs.opN _ o' (by simpa using ho)
      · simp at ho; subst ho; rw [hk0]; exact hM
      · rw [hks]; exact hs.opM _ o' (by simpa using ho)
      · simp at ho; subst ho; rw [hk0]; exact hW
      · rw [hks]; exact hs.opW _ o' (by simpa using ho)
    rw [anyF] at h
    split at h
    · rename_i bb hw
      cases bb with
      | true =>
        replace h := h.1 rfl
        split at h
        · rename_i hk
          obtain ⟨x, nb, h1, rfl, h2, h3⟩ := qcd h
          have e : (s.seen m).st = loc σ0 n0 m := by show loc s.σ s.n0 m = _; rw [hs0, hn0]
          rw [e] at h1
          exact key x true none s hw h2 ⟨rfl, rfl, rfl⟩ rfl (fun _ => rfl) (fun e => by cases e) (fun _ _ => ⟨h1.two, rfl, rfl⟩) (fun _ e => by rw [hk] at e; cases e) (fun _ e => by rw [hk] at e; cases e) (fun _ e => by rw [hk] at e; cases e) hke h3
        · rename_i hk
          obtain ⟨x, nb, h1, rfl, h2, h3⟩ := qcd h
          rw [eyeO_st, hn0] at h1
          exact key x true none s hw h2 ⟨rfl, rfl, rfl⟩ rfl (fun _ => rfl) (fun e => by cases e) (fun _ e => by rw [hk] at e; cases e) (fun _ _ => ⟨h1.two, rfl, rfl⟩) (fun _ e => by rw [hk] at e; cases e) (fun _ e => by rw [hk] at e; cases e) hke h3
        · rename_i hk
          obtain ⟨x, nb, h1, hj, h2, h3⟩ := aevM4_sound h
          refine key x true nb (s.ext nb) hw h2 (by cases nb <;> exact ⟨rfl, rfl, rfl⟩) (by cases nb <;> rfl) (fun _ => ?_) (fun e => by cases e) (fun _ e => by rw [hk] at e; cases e) (fun _ e => by rw [hk] at e; cases e) (fun _ _ => ⟨h1, rfl⟩) (fun _ e => by rw [hk] at e; cases e) (ext_keeps hke nb) h3
          cases nb with
          | none => rfl
          | some ab =>
            rw [(qeo s ab).1]
            have : n0 + j ≠ s.nx := by unfold AS.nx; omega
            unfold upd; rw [if_neg this]
        · rename_i hk
          obtain ⟨x, s1, h1, h2, h7, h3, h5, h6, h4⟩ := qga h
          exact key x true none s1 hw h3 h2 h6 (fun _ => by rw [st_own (h2.2.2.trans hn0), st_own hn0]; exact h7) (fun e => by cases e) (fun _ e => by rw [hk] at e; cases e) (fun _ e => by rw [hk] at e; cases e) (fun _ e => by rw [hk] at e; cases e) (fun _ _ => ⟨h1, rfl⟩) (kept_e (h6.trans hs0) (h2.2.2.trans hn0) h5) h4
        · rename_i hk
          obtain ⟨x, s1, h1, h2, h3, h5, h6, h4⟩ := qga h
          exact key x true none s1 hw h3 h2 h6 (fun e => absurd hk e) (fun e => by cases e) (fun _ e => by rw [hk] at e; cases e) (fun _ e => by rw [hk] at e; cases e) (fun _ e => by rw [hk] at e; cases e) (fun _ _ => ⟨h1, rfl⟩) (kept_e (h6.trans hs0) (h2.2.2.trans hn0) h5) h4
      | false =>
        replace h := h.2 rfl
        exact key (.v undef) false none s hw h.1 ⟨rfl, rfl, rfl⟩ rfl (fun _ => rfl) (fun _ => ⟨rfl, rfl, rfl⟩) (fun e => by cases e) (fun e => by cases e) (fun e => by cases e) (fun e => by cases e) hke h.2
    · exact h.elim
theorem awp_anyF {s : AS} {id : Nat} {l : List Oper} {Q : Exit → AS → Prop} (m : List AB) (j : Nat) (ks : List RK) (hm : P.follows .mixedOrders = true) (hB : anyB l ks = true) (h0 : qco m s.L) (h : anyF P l.toArray m j (Q .normal) l ks s) : awp P (.region id l.toArray true) Q s := by
  obtain ⟨st, s1, xs, bs, nbs, hs, rfl, hK⟩ := anyF_steps l ks s rfl rfl (kept_e rfl rfl h0) h
  exact awp_any hm (anyB_ok hB) (raw_steps4 hB hs) hK
end
instance {P : Program} {ops : Array Oper} {m : List AB} {j : Nat} {K : AS → Prop} {o : Oper} {l : List Oper} {ks : List RK} {s : AS} : Stp (anyF P ops m j K (o :: l) ks s) (match awant ops o s.t with
    | some b => qcb b (match ks.headD .R with
      | .R => aevF P (s.seen m) o.op (fun x nb => nb = none ∧ dstOk o.dst s.n ∧ anyF P ops m j K l ks.tail (s.put o.dst x))
      | .N => aevF P (s.eyeO j) o.op (fun x nb => nb = none ∧ dstOk o.dst s.n ∧ anyF P ops m j K l ks.tail (s.put o.dst x))
      | .M => aevM4 P s o.op (fun x nb => j < s.L.length ∧ dstOk o.dst s.n ∧ anyF P ops m j K l ks.tail ((s.ext nb).put o.dst x))
      | .A => aevW4 P s o.op (fun x s1 => s1.L.getD j .unborn = s.L.getD j .unborn ∧ dstOk o.dst s.n ∧ qco m s1.L ∧ s1.σ = s.σ ∧ anyF P ops m j K l ks.tail (s1.put o.dst x))
      | .W => aevW4 P s o.op (fun x s1 => dstOk o.dst s.n ∧ qco m s1.L ∧ s1.σ = s.σ ∧ anyF P ops m j K l ks.tail (s1.put o.dst x))) (dstOk o.dst s.n ∧ anyF P ops m j K l ks.tail (s.put o.dst (.v undef)))
    | none => False) := ⟨fun h => h⟩
instance {P : Program} {ops : Array Oper} {m : List AB} {j : Nat} {K : AS → Prop} {ks : List RK} {s : AS} : Stp (anyF P ops m j K [] ks s) (K s) := ⟨fun h => h⟩
@[simp] theorem eyeO_mk (j : Nat) (n : Nat) (t : Nat → AV) (σ : Nat → AB) (n0 : Nat) (L : List AB) : (AS.mk n t σ n0 L).eyeO j = ⟨n, t, fun _ => .unborn, n0, List.replicate j .unborn ++ [L.getD j .unborn]⟩ := rfl
instance {P : Program} {ops : Array Oper} {m : List AB} {j : Nat} {K : AS → Prop} {l : List Oper} {ks : List RK} {s : AS} : Inhabited (Tag (anyF P ops m j K l ks s)) := ⟨⟨⟩⟩
end Go.Proofs.YtbkkjlcclddpdaaGreatDoor

/- An append to a slice of the call's own that is written too, in a region in text order. -/
namespace Go.Proofs.YtbkkjlcclddpdaaGreatDoor
open Go.RowKit Go.Lib
section
variable {P : Program} {s : AS}
def ownApp2 (P : Program) (ops : Array Oper) (s : AS) (o : Oper) (K : AS → Prop) : Prop :=
  match o.op with
  | .call { callee := .builtin .append, args := ⟨[x, y]⟩, argTypes := ⟨[t, t']⟩ } => t' = t ∧ awant ops o s.t = some true ∧ (match vinfo P t with
    | some (e, sz, by_) => match s.eval x, (s.eval y).list with
      | .own r n, some ys => (match s.st r with
        | .vec l e' sz' => e' = e ∧ sz' = sz ∧ n = l.length ∧ AV.wid ys sz ∧ AV.elms ys ∧ (l.length + ys.length) * by_ ≤ 140737488355328 ∧ dstOk o.dst (s.set r (.vec (l ++ ys) e sz)).n ∧ K ((s.set r (.vec (l ++ ys) e sz)).put o.dst (.own r (l.length + ys.length)))
        | _ => False)
      | _, _ => False
    | none => False)
  | _ => False
theorem ownApp2_sound {ops : Array Oper} {K K' : AS → Prop} {o : Oper} {l : List Oper} (hk : ∀ s, K' s → aseq P ops K l s) (h : ownApp2 P ops s o K') : aseq P ops K (o :: l) s := by
  unfold ownApp2 at h
  rw [aseq]
  split at h
  · rename_i x y t t' hop
    obtain ⟨rfl, hwt, h⟩ := h
    refine ⟨true, hwt, ?_⟩
    show EOp P s o.op _
    rw [hop]
    split at h
    · split at h
      · split at h
        · obtain ⟨rfl, rfl, h1, h2, h3, h4, h6, h7⟩ := h
          exact eop_appendO0 ‹_› ‹_› ‹_› h1 ‹_› h2 h3 h4 ⟨h6, hk _ h7⟩
        · exact h.elim
      · exact h.elim
    · exact h.elim
  · exact h.elim
theorem awp_regionW {id : Nat} {l : List Oper} {Q : Exit → AS → Prop} (k : Nat) {o : Oper} (ho : l[k]? = some o) (h : qg P l.toArray (fun s => ownApp2 P l.toArray s o fun s => qg P l.toArray (Q .normal) (l.drop (k + 1)) s) (l.take k) s) : awp P (.region id l.toArray false) Q s := by
  refine qea ?_
  have h1 : l = l.take k ++ o :: l.drop (k + 1) := by
    have hk := (List.getElem?_eq_some_iff.1 ho)
    obtain ⟨hk, he⟩ := hk
    rw [← he, ← List.drop_eq_getElem_cons hk, List.take_append_drop]
  have h2 : aseq P l.toArray (Q .normal) (l.take k ++ o :: l.drop (k + 1)) s := aseqC_cut (fun s' hs => ownApp2_sound (fun s'' h => qdz h) hs) h
  rw [← h1] at h2; exact h2
attribute [simp] ownApp2
def nilCall (P : Program) (ops : Array Oper) (s : AS) (o : Oper) (K : AS → Prop) : Prop :=
  match o.op with
  | .call { callee := .value (.func f), args := ⟨.const (.slice none 0 0) :: args⟩, .. } => awant ops o s.t = some true ∧ nts (args.map s.eval) = true ∧ enters P f = true ∧ dstOk o.dst s.n ∧ AGives P f (.v (.slice none 0 0) :: (args.map s.eval).map AV.pub) s.st (fun x => K (s.put o.dst x))
  | _ => False
attribute [simp] nilCall
end
end Go.Proofs.YtbkkjlcclddpdaaGreatDoor

/- Calls that hand on growing slices, and give one back: a slice that the caller had begun is made longer. -/
namespace Go.Proofs.YtbkkjlcclddpdaaGreatDoor
open Go.RowKit Go.Lib
section
variable {P : Program} {s : AS}
def rawCall (P : Program) (ops : Array Oper) (s : AS) (o : Oper) (K : AS → Prop) : Prop :=
  match o.op with
  | .call { callee := .value (.func f), args := ⟨args⟩, .. } => awant ops o s.t = some true ∧ nts (args.map s.eval) = true ∧ enters P f = true ∧ ACall P f (args.map s.eval) s fun x s1 => dstOk o.dst s1.n ∧ K (s1.put o.dst x)
  | _ => False
attribute [simp] rawCall
end
end Go.Proofs.YtbkkjlcclddpdaaGreatDoor

/- Appends of strings to growing slices of bytes; calls that change two blocks. -/
namespace Go.Proofs.YtbkkjlcclddpdaaGreatDoor
open Go.RowKit Go.Lib
section
variable {P : Program} {s : AS}
theorem acallS2 {f : FuncId} {args : List AV} {K : AV → AS → Prop} {x : AV} (r r' : Nat) (ab ab' : AB) (h : AC P f args s.st fun y τ => y = x ∧ τ = upd (upd s.st r ab) r' ab') (hr : s.st r ≠ .unborn) (hr' : s.st r' ≠ .unborn) (hK : K x ((s.set r ab).set r' ab')) : ACall P f args s K := by
  have h1 : r < s.nx := Nat.lt_of_not_le fun hle => hr (s.fin r hle)
  have h2 : r' < s.nx := Nat.lt_of_not_le fun hle => hr' (s.fin r' hle)
  have hn : (s.set r ab).nx = s.nx := by unfold AS.set AS.nx; split <;> simp
  obtain ⟨e1, e2, e3⟩ := s.set_nx r ab
  obtain ⟨g1, g2, g3⟩ := (s.set r ab).set_nx r' ab'
  exact ⟨x, (s.set r ab).set r' ab', by rw [AS.set_st _ _ _ (by rw [hn]; exact h2), AS.set_st _ _ _ h1]; exact h, ⟨g3.trans e3, g1.trans e1, g2.trans e2⟩, hK⟩
theorem acT_of_awp {f : FuncId} {fn : Func} {c : Code} {rs : List ResultVar} {args : List AV} {x : AV} {N : Nat} {σ τ : Nat → AB} (hf : P.funcs[f]? = some fn) (hN : fn.ntmps = N) (hb : fn.body = some c) (hr : fn.results = rs.toArray) (hlen : rs.length ≤ 4) (ha : Nat.ble args.length N = true) (hx : ∀ n, x.cl n) (hτ : ∀ n, Fin σ n → (∀ r, (σ r).cl n) → Fin τ n ∧ ∀ r, (τ r).cl n)
    (h : ∀ n0, Fin σ n0 → (∀ r, (σ r).cl n0) → AV.fitss args → awp P c (fun e s' => (e = .normal ∨ e = .ret) ∧ s'.n0 = n0 ∧ s'.σ = τ ∧ ares P s' rs x) { n := N, t := qdq args 0, σ := σ, n0 := n0, L := [] }) : AC P f args σ fun y τ' => y = x ∧ τ' = τ := by
  subst hN
  refine ac_of_awp hf hb hr hlen (Nat.le_of_ble_eq_true ha) fun n0 hfin hcl hft => ?_
  obtain ⟨h5, h6⟩ := hτ n0 hfin hcl
  refine qgb (h n0 hfin hcl hft) fun e s' ⟨h1, h2, h3, h4⟩ => ⟨h1, h2, x, h4, hx n0, fun k _ => by rw [h3]; exact h6 k, rfl, ?_⟩
  funext k
  unfold Proofs.YtbkkjlcclddpdaaGreatDoor.cut
  rw [h3]
  split
  · rfl
  · exact (h5 k (by omega)).symm
end
end Go.Proofs.YtbkkjlcclddpdaaGreatDoor
