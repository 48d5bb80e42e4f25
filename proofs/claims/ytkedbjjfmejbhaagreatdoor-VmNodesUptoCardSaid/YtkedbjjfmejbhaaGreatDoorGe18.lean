/- Regions that draw their order, and write own qdv alone; one own block is read ahead of the last writes. -/
import Derived.Test.YtkedbjjfmejbhaaGreatDoorGe15
import Derived.Test.YtkedbjjfmejbhaaGreatDoorGe16
import Derived.Test.YtkedbjjfmejbhaaGreatDoorGe17
set_option linter.unusedSimpArgs false
set_option linter.unusedVariables false
namespace Go.Proofs.YtkedbjjfmejbhaaGreatDoor
open Go.RowKit Go.Lib
section
variable {P : Program}
theorem qvn {s : AS} {t : TypeId} {x y : Operand} {r n : Nat} {l ys : List AV} {e : TypeId} {sz by_ : Nat} {K : AV -> AS -> Prop} (ht : vinfo P t = some (e, sz, by_)) (hx : s.eval x = .own r n) (hσ : s.st r = .vec l e sz) (hn : n = l.length) (hyl : (s.eval y).list = some ys) (hne : 0 < ys.length)
  (hw : ∀ z ∈ ys, z.width = sz) (h1 : ∀ z ∈ ys, z.elem = true) (hb : (l.length + ys.length) * by_ <= 140737488355328) (hK : K (.own r (l.length + ys.length)) (s.set r (.vec (l ++ ys) e sz))) :
  EOp P s (.call { callee := .builtin .append, args := #[x, y], argTypes := #[t, t] }) K := by
 intro X0 a w X oper ho hc Q
 have hw0 := hc.w
 subst hw0
 have hx2 := hc.eval x
 rw [hx] at hx2
 exact qyi ho hc ht hx2 hn hσ (hc.eval y) hyl hne hw h1 hb hK Q
theorem qka {s : AS} {t : TypeId} {x y : Operand} {r n : Nat} {l ys : List AV} {e : TypeId} {sz by_ : Nat} {K : AV -> AS -> Prop} (ht : vinfo P t = some (e, sz, by_)) (hx : s.eval x = .own r n) (hσ : s.st r = .vec l e sz) (hn : n = l.length) (hyl : (s.eval y).list = some ys)
  (hw : ∀ z ∈ ys, z.width = sz) (h1 : ∀ z ∈ ys, z.elem = true) (hb : (l.length + ys.length) * by_ <= 140737488355328) (hK : K (.own r (l.length + ys.length)) (s.set r (.vec (l ++ ys) e sz))) :
  EOp P s (.call { callee := .builtin .append, args := #[x, y], argTypes := #[t, t] }) K := by
 cases ys with
 | cons z ys => exact qvn ht hx hσ hn hyl (by simp) hw h1 hb hK
 | nil =>
  intro X0 a w X oper ho hc Q
  have hw0 := hc.w
  subst hw0
  have hx2 := hc.eval x
  rw [hx] at hx2
  have hx3 : RC X (.own r n) [a.eval x] := hx2
  rw [RC] at hx3
  obtain ⟨-, v0, hv0, -, hall⟩ := hx3
  have hX : X.σ r = .vec l e sz := by rw [hc.σ, hσ]
  have hvm : a.eval x = X.μ r := by
   have := (hall _ _ _ hX).2 hn
   rw [<- this]; simpa using hv0
  have hB := hc.sr.block r
  rw [hX] at hB
  obtain ⟨hwd, xs, hown, hrs⟩ := hB
  have hsh : ∃ A cap, X.μ r = .slice A l.length cap /\ l.length <= cap := by
   rcases (World.ownsRowF_of hown).2 with ⟨h5, h6⟩ | ⟨g, cap2, cur, fz, h5, -, -, -, h6, -⟩
   .exact ⟨none, 0, by rw [h5, h6], by omega⟩
   .exact ⟨_, cap2, h5, h6⟩
  obtain ⟨A0, cap0, hv, hl0⟩ := hsh
  obtain ⟨A, cap, b, off, hyv', -⟩ := RR.list hyl (hc.eval y)
  obtain ⟨hu1, i, z, hi, -⟩ := qbr ht
  rw [List.append_nil, List.length_nil, Nat.add_zero, AS.set_same hσ] at hK
  refine qbi (w' := X.w) (v := a.eval x) (by rw [List.length_nil] at hyv'; simp [execOp, ho, resolve, invoke, builtin, hvm, hv, hyv', qej hu1 hi A0 A l.length cap0 cap hl0])
   ⟨a.eval x, .own r l.length, _, _, rfl, hK, hc, by rw [<- hn]; exact hx2⟩
theorem qae1 {ev : Operand -> AV} {σ : Nat -> AB} {f : FuncId} {args : List Operand} {tys : Array TypeId} {x : AV} (hf : enters P f = true) (hn : ∀ y ∈ args, ∀ l, ev y ≠ .tup l) (h : qrn P f (.v (.slice none 0 0) :: (args.map ev).map AV.pub) σ x) :
  FOp2 P ev σ (.call { callee := .value (.func f), args := (.const (.slice none 0 0) :: args).toArray, argTypes := tys }) x none := by
 intro X a oper ho hS ⟨nx, hfin⟩ hsub hev _ Q
 have hrun : (execOp a.eval oper).run P X.w = .ok (.enter f (.slice none 0 0 :: args.map a.eval).toArray) X.w := by
  have he : a.eval (.func f) = .func (.func f) #[] #[] := rfl
  have hc : a.eval (.const (.slice none 0 0)) = .slice none 0 0 := rfl
  simp [execOp, ho, resolve, he, hc, Deferred.ofValue, invoke, qcq hf]
 have hargs : RRl X (.v (.slice none 0 0) :: (args.map ev).map AV.pub) (.slice none 0 0 :: args.map a.eval) := by
  refine ⟨_, _, rfl, ?_, (qoy (a := a) args (fun y hy => hev y (by simp [Op.operands, Call.operands, hy])) hn).pub⟩
  show RC X (.v _) [_]
  rw [RC]
 refine OwpA.of (fun c h => by rw [ho] at h; cases h) ?_
 unfold Oper.wp
 rw [hrun]
 refine (h X.σ hsub X _ nx hS rfl hfin hargs).mono ?_
 rintro e w' ⟨Y, v, y, rfl, rfl, ⟨rfl, hσ⟩, hS', hF, hR⟩
 exact ⟨v, Y, rfl, rfl, hS', hF, hR, hσ⟩
def aevM4 (P : Program) (s : AS) (o : Op) (K : AV -> Option AB -> Prop) : Prop :=
 match o with
 | .buildSlice t n ⟨p :: ps⟩ => match vinfo P t with
  | some (e, sz, _) => n = (p :: ps).length /\ n * sz <= 16777216 /\ bldS sz 0 ((p :: ps).map fun p => (p.1, s.eval p.2)) /\ AV.wid ((p :: ps).map fun p => (s.eval p.2).pub) sz /\ K (.own s.nx n) (some (.vec ((p :: ps).map fun p => (s.eval p.2).pub) e sz))
  | none => False
 | .call { callee := .value (.func f), args := ⟨.const (.slice none 0 0) :: args⟩, .. } => nts (args.map s.eval) = true /\ enters P f = true /\ qng P f (.v (.slice none 0 0) :: (args.map s.eval).map AV.pub) s.st (fun x => K x none)
 | o => aevM P s o K
theorem qut {s : AS} {o : Op} {K : AV -> Option AB -> Prop} (h : aevM4 P s o K) : ∃ x nb, FOp2 P s.eval s.st o x (nb.map (s.nx, ·)) /\ K x nb := by
 unfold aevM4 at h
 split at h
 .split at h
  .obtain ⟨h1, h2, h3, h4, h5⟩ := h
   exact ⟨_, _, (qob ‹_› h1 h2 h3 h4).two, h5⟩
  .exact h.elim
 .obtain ⟨h1, h2, x, h3, h4⟩ := h
  exact ⟨x, none, qae1 h2 (qdm h1) h3, h4⟩
 .exact qjc h
attribute [simp] aevM4
def aevW4 (P : Program) (s : AS) (o : Op) (K : AV -> AS -> Prop) : Prop :=
 match o with
 | .call { callee := .builtin .append, args := ⟨[x, y]⟩, argTypes := ⟨[t, t']⟩ } => match s.eval x with
  | .own r n => t' = t /\ (match vinfo P t with
   | some (e, sz, by_) => match s.st r, (s.eval y).list with
    | .vec l e' sz', some ys => e' = e /\ sz' = sz /\ n = l.length /\ AV.wid ys sz /\ AV.elms ys /\ (l.length + ys.length) * by_ <= 140737488355328 /\ K (.own r (l.length + ys.length)) (s.set r (.vec (l ++ ys) e sz))
    | _, _ => False
   | none => False)
  | _ => aevW2 P s (.call { callee := .builtin .append, args := ⟨[x, y]⟩, argTypes := ⟨[t, t']⟩ }) K
 | o => aevW2 P s o K
theorem qla {s : AS} {o : Op} {K : AV -> AS -> Prop} (h : aevW4 P s o K) : ∃ x s1, WOp P s.eval s.st o x s1.st /\ (s1.t = s.t /\ s1.n = s.n /\ s1.n0 = s.n0) /\ K x s1 := by
 unfold aevW4 at h
 split at h
 .rename_i x y t t'
  split at h
  .rename_i r n hx
   obtain ⟨rfl, h⟩ := h
   split at h
   .rename_i e sz by_ ht
    split at h
    .rename_i l e' sz' ys hσ hy
     obtain ⟨rfl, rfl, hn, h3, h4, h5, h6⟩ := h
     have hr := qfx1 hσ (by simp)
     refine ⟨_, _, qec fun s' he hst hnx => ?_, ⟨(s.set_nx r _).2.2, (s.set_nx r _).1, (s.set_nx r _).2.1⟩, h6⟩
     have ex := he x (by simp [Op.operands, Call.operands])
     have ey := he y (by simp [Op.operands, Call.operands])
     refine qka ht (by rw [ex]; exact hx) (by rw [hst]; exact hσ) hn (by rw [ey]; exact hy) h3 h4 h5 ⟨rfl, ?_⟩
     rw [AS.set_st _ _ _ (by rw [hnx]; exact hr), AS.set_st _ _ _ hr, hst]
    .exact h.elim
   .exact h.elim
  .exact qhi h
 .exact qhi h
attribute [simp] aevW4
theorem qrt {c : Code} {Q : Exit -> AS -> Prop} {n n0 : Nat} {t : Nat -> AV} {σ : Nat -> AB} {L : List AB} (d i : Nat) {et : TypeId} {sz : Nat} (hd : t d = .gs (n0 + i) []) (hL : L[i]? = some (.tail 0 et sz))
  (h : awp P c Q ⟨n, upd t d (.own (n0 + L.length) 0), σ, n0, L.set i .dead ++ [AB.vec [] et sz]⟩) : awp P c Q ⟨n, t, σ, n0, L⟩ := by
 intro X0 a w ⟨X, hc⟩
 have hst : (AS.mk n t σ n0 L).st (n0 + i) = .tail 0 et sz := by
  show loc σ n0 L (n0 + i) = _
  unfold loc
  rw [if_neg (by omega), Nat.add_sub_cancel_left, List.getD_eq_getElem?_getD, hL]; rfl
 obtain ⟨X', hXw, hc', hF, hR⟩ := qxf hc hst
 have hset : (AS.mk n t σ n0 L).set (n0 + i) .dead = ⟨n, t, σ, n0, L.set i .dead⟩ := by
  unfold AS.set; dsimp only; rw [if_neg (by omega), Nat.add_sub_cancel_left]
 rw [hset] at hc'
 refine h X0 a w ⟨X', ⟨hc'.w, hc'.σ, hc'.sr, hc'.fr, hc'.size, fun j => ?_, hc'.defers, hc'.fin⟩⟩
 show RR X' (upd t d _ j) _
 unfold upd
 by_cases hj : j = d
 .subst hj
  rw [if_pos rfl]
  have := hc.regs j
  change RR X (t j) _ at this
  rw [hd] at this
  exact hR _ this
 .rw [if_neg hj]; exact hc'.regs j
end
section
variable {P : Program}
structure qur (P : Program) (ops : Array Oper) (l : List Oper) (ks : List RK) (st s1 : Nat -> AS) (xs : Nat -> AV) (bs : Nat -> Bool) (nbs : Nat -> Option AB) (κ : Nat -> AB) (q : Nat) : Prop where
 kept : ∀ r, κ r ≠ .unborn -> ∀ j, j <= l.length -> (st j).st r = κ r
 eye : ∀ i, i < l.length -> ks.getD i .R ≠ .W -> (st (i + 1)).st q = (st i).st q
 want : ∀ i o, l[i]? = some o -> awant ops o (st i).t = some (bs i)
 dst : ∀ i o, l[i]? = some o -> dstOk o.dst (st i).n
 next : ∀ i o, l[i]? = some o -> st (i + 1) = (s1 i).put o.dst (xs i)
 same : ∀ i o, l[i]? = some o -> (s1 i).t = (st i).t /\ (s1 i).n = (st i).n /\ (s1 i).n0 = (st i).n0
 skip : ∀ i o, l[i]? = some o -> bs i = false -> xs i = .v undef /\ s1 i = st i /\ nbs i = none
 opR : ∀ i o, l[i]? = some o -> bs i = true -> ks.getD i .R = .R -> FOp2 P (st i).eval κ o.op (xs i) none /\ s1 i = st i /\ nbs i = none
 opN : ∀ i o, l[i]? = some o -> bs i = true -> ks.getD i .R = .N -> FOp2 P (st i).eval (only q (st i).st) o.op (xs i) none /\ s1 i = st i /\ nbs i = none
 opM : ∀ i o, l[i]? = some o -> bs i = true -> ks.getD i .R = .M -> FOp2 P (st i).eval (st i).st o.op (xs i) ((nbs i).map ((st i).nx, ·)) /\ s1 i = (st i).ext (nbs i)
 opW : ∀ i o, l[i]? = some o -> bs i = true -> (ks.getD i .R).base = .W -> WOp P (st i).eval (st i).st o.op (xs i) (s1 i).st /\ nbs i = none
section
variable {l : List Oper}
theorem qay1 {l : List Oper} {ks : List RK} {st s1 : Nat -> AS} {xs : Nat -> AV} {bs : Nat -> Bool} {nbs : Nat -> Option AB} {κ : Nat -> AB} {q : Nat} (hB : anyB l ks = true) (h : qur P l.toArray l ks st s1 xs bs nbs κ q) : qbw P l (ks.map RK.base) st s1 xs bs nbs (fun i => if ks.getD i .R = .N then (if bs i = true then only q (st i).st else fun _ => .unborn) else κ) := by
 have pre : ∀ j, j <= l.length -> (∀ i, i < j -> ks.getD i .R ≠ .W) -> (st j).st q = (st 0).st q := fun j => by
  induction j with
  | zero => intro _ _; rfl
  | succ j ih =>
   intro hj hk
   rw [h.eye j (by omega) (hk j (by omega)), ih (by omega) fun i hi => hk i (by omega)]
 refine ⟨fun i => ?_, fun i hi hk r hr => ?_, h.want, h.dst, h.next, h.same, h.skip, fun i o ho hb hk => ?_, fun i o ho hb hk => ?_, fun i o ho hb hk => ?_⟩
 .rw [qcc]
  cases ks.getD i .R <;> simp [RK.base]
 .split at hr
  .rename_i hN
   rw [if_pos hN]
   split at hr
   .rename_i hb
    rw [if_pos hb]
    by_cases hrq : r = q
    .subst hrq
     have ei : only r (st i).st r = (st 0).st r := by
      unfold only; rw [if_pos rfl]
      exact pre i (by omega) fun p hp hW => by
       have := ((qnh hB hi (j := p) (by omega)).1 hN hW).1; omega
     rw [ei]
     refine ⟨rfl, fun p hp hpW hpi => ?_⟩
     rw [qcc] at hpW
     have hpA : ks.getD p .R = .A := by
      cases hk2 : ks.getD p .R with
      | A => rfl
      | W => exact absurd ((qnh hB hi hp).1 hN hk2).2 hpi
      | R => rw [hk2] at hpW; cases hpW
      | M => rw [hk2] at hpW; cases hpW
      | N => rw [hk2] at hpW; cases hpW
     refine pre (p + 1) (by omega) fun p' hp' hW => ?_
     by_cases hpp : p' = p
     .rw [hpp, hpA] at hW; cases hW
     .have := (qnh hB hp (j := p') (by omega)).2 hpA hW; omega
    .exact absurd (if_neg hrq) hr
   .exact absurd rfl hr
  .rename_i hN
   rw [if_neg hN]
   exact ⟨h.kept r hr 0 (Nat.zero_le _), fun p hp _ _ => h.kept r hr (p + 1) (by omega)⟩
 .rw [qcc] at hk
  by_cases hN : ks.getD i .R = .N
  .rw [if_pos hN, if_pos hb]
   exact h.opN i o ho hb hN
  .rw [if_neg hN]
   refine h.opR i o ho hb ?_
   cases hk2 : ks.getD i .R with
   | R => rfl
   | M => rw [hk2] at hk; cases hk
   | W => rw [hk2] at hk; cases hk
   | N => exact absurd hk2 hN
   | A => rw [hk2] at hk; cases hk
 .rw [qcc] at hk
  refine h.opM i o ho hb ?_
  cases hk2 : ks.getD i .R with
  | M => rfl
  | R => rw [hk2] at hk; cases hk
  | W => rw [hk2] at hk; cases hk
  | N => rw [hk2] at hk; cases hk
  | A => rw [hk2] at hk; cases hk
 .rw [qcc] at hk
  exact h.opW i o ho hb hk
end
def AS.eyeO (j : Nat) (s : AS) : AS := { s with σ := fun _ => .unborn, L := List.replicate j .unborn ++ [s.L.getD j .unborn] }
theorem qmq1 {s : AS} {j : Nat} : (s.eyeO j).st = only (s.n0 + j) s.st := by
 funext k
 show loc (fun _ => .unborn) s.n0 (List.replicate j .unborn ++ [s.L.getD j .unborn]) k = _
 unfold loc only
 by_cases hk : k < s.n0
 .rw [if_pos hk, if_neg (by omega)]
 .rw [if_neg hk]
  by_cases hj : k = s.n0 + j
  .rw [if_pos hj]
   subst hj
   show _ = loc s.σ s.n0 s.L (s.n0 + j)
   unfold loc
   rw [if_neg (by omega), Nat.add_sub_cancel_left, List.getD_eq_getElem?_getD, List.getElem?_append_right (by simp)]
   simp
  .rw [if_neg hj]
   by_cases h2 : k - s.n0 < j
   .rw [List.getD_eq_getElem?_getD, List.getElem?_append_left (by simpa using h2), List.getElem?_replicate, if_pos h2]; rfl
   .rw [List.getD_eq_getElem?_getD, List.getElem?_eq_none (by simp; omega)]; rfl
theorem qlu1 {s : AS} {n0 j : Nat} (h : s.n0 = n0) : s.st (n0 + j) = s.L.getD j .unborn := by
 subst h
 show loc s.σ s.n0 s.L (s.n0 + j) = _
 unfold loc
 rw [if_neg (by omega), Nat.add_sub_cancel_left]
def anyF (P : Program) (ops : Array Oper) (m : List AB) (j : Nat) (K : AS -> Prop) : List Oper -> List RK -> AS -> Prop
 | [], _, s => K s
 | o :: l, ks, s => match awant ops o s.t with
  | some b => qbm b (match ks.headD .R with
   | .R => aevF P (s.seen m) o.op (fun x nb => nb = none /\ dstOk o.dst s.n /\ anyF P ops m j K l ks.tail (s.put o.dst x))
   | .N => aevF P (s.eyeO j) o.op (fun x nb => nb = none /\ dstOk o.dst s.n /\ anyF P ops m j K l ks.tail (s.put o.dst x))
   | .M => aevM4 P s o.op (fun x nb => j < s.L.length /\ dstOk o.dst s.n /\ anyF P ops m j K l ks.tail ((s.ext nb).put o.dst x))
   | .A => aevW4 P s o.op (fun x s1 => s1.L.getD j .unborn = s.L.getD j .unborn /\ dstOk o.dst s.n /\ qct m s1.L /\ s1.σ = s.σ /\ anyF P ops m j K l ks.tail (s1.put o.dst x))
   | .W => aevW4 P s o.op (fun x s1 => dstOk o.dst s.n /\ qct m s1.L /\ s1.σ = s.σ /\ anyF P ops m j K l ks.tail (s1.put o.dst x))) (dstOk o.dst s.n /\ anyF P ops m j K l ks.tail (s.put o.dst (.v undef)))
  | none => False
theorem qnk {ops : Array Oper} {m : List AB} {j : Nat} {σ0 : Nat -> AB} {n0 : Nat} {K : AS -> Prop} : ∀ (l : List Oper) (ks : List RK) (s : AS), s.n0 = n0 -> s.σ = σ0 -> (∀ r, loc σ0 n0 m r ≠ .unborn -> s.st r = loc σ0 n0 m r) -> anyF P ops m j K l ks s ->
  ∃ st s1 xs bs nbs, qur P ops l ks st s1 xs bs nbs (loc σ0 n0 m) (n0 + j) /\ st 0 = s /\ K (st l.length)
 | [], ks, s, hn0, hs0, hke, h => by
  refine ⟨fun _ => s, fun _ => s, fun _ => .any, fun _ => true, fun _ => none, ⟨fun r hr j _ => hke r hr, fun _ hi => absurd hi (Nat.not_lt_zero _), ?_, ?_, ?_, ?_, ?_, ?_, ?_, ?_, ?_⟩, rfl, h⟩ <;> (intro i o ho; simp at ho)
 | o :: l, ks, s, hn0, hs0, hke, h => by
  have key : ∀ (x : AV) (b : Bool) (nb : Option AB) (s1 : AS), awant ops o s.t = some b -> dstOk o.dst s.n -> (s1.t = s.t /\ s1.n = s.n /\ s1.n0 = s.n0) -> s1.σ = s.σ -> (ks.headD .R ≠ .W -> s1.st (n0 + j) = s.st (n0 + j)) -> (b = false -> x = .v undef /\ s1 = s /\ nb = none) ->
    (b = true -> ks.headD .R = .R -> FOp2 P s.eval (loc σ0 n0 m) o.op x none /\ s1 = s /\ nb = none) -> (b = true -> ks.headD .R = .N -> FOp2 P s.eval (only (n0 + j) s.st) o.op x none /\ s1 = s /\ nb = none) -> (b = true -> ks.headD .R = .M -> FOp2 P s.eval s.st o.op x (nb.map (s.nx, ·)) /\ s1 = s.ext nb) ->
    (b = true -> (ks.headD .R).base = .W -> WOp P s.eval s.st o.op x s1.st /\ nb = none) -> (∀ r, loc σ0 n0 m r ≠ .unborn -> s1.st r = loc σ0 n0 m r) -> anyF P ops m j K l ks.tail (s1.put o.dst x) ->
    ∃ st s1 xs bs nbs, qur P ops (o :: l) ks st s1 xs bs nbs (loc σ0 n0 m) (n0 + j) /\ st 0 = s /\ K (st (o :: l).length) := by
   intro x b nb s1 hw hd hsame hss heye hskip hR hN hM hW hke1 hrest
   have hput : (s1.put o.dst x).σ = s1.σ := by cases o.dst <;> rfl
   obtain ⟨st, s1', xs, bs, nbs, hs, h0, hK⟩ := qnk (n0 := n0) (σ0 := σ0) l ks.tail _ (by rw [(qei s1 o.dst x).2.2.2, hsame.2.2]; exact hn0) (by rw [hput, hss]; exact hs0) (fun r hr => by rw [(qei s1 o.dst x).1]; exact hke1 r hr) hrest
   have hks : ∀ i, ks.getD (i + 1) .R = ks.tail.getD i .R := fun i => by cases ks <;> simp
   have hk0 : ks.getD 0 .R = ks.headD .R := by cases ks <;> simp
   refine ⟨fun i => match i with | 0 => s | i + 1 => st i, fun i => match i with | 0 => s1 | i + 1 => s1' i, fun i => match i with | 0 => x | i + 1 => xs i, fun i => match i with | 0 => b | i + 1 => bs i, fun i => match i with | 0 => nb | i + 1 => nbs i, ⟨fun r hr j hj => (match j with | 0 => hke r hr | j + 1 => hs.kept r hr j (by simpa using hj)), fun i hi hk => ?_, ?_, ?_, ?_, ?_, ?_, ?_, ?_, ?_, ?_⟩, rfl, hK⟩
   .cases i with
    | zero => rw [hk0] at hk; show (st 0).st _ = s.st _; rw [h0, (qei s1 o.dst x).1]; exact heye hk
    | succ i => rw [hks] at hk; exact hs.eye i (by simpa using hi) hk
   all_goals (intro i o' ho; cases i)
   .simp at ho; subst ho; exact hw
   .exact hs.want _ o' (by simpa using ho)
   .simp at ho; subst ho; exact hd
   .exact hs.dst _ o' (by simpa using ho)
   .simp at ho; subst ho; exact h0
   .exact hs.next _ o' (by simpa using ho)
   .simp at ho; subst ho; exact hsame
   .exact hs.same _ o' (by simpa using ho)
   .simp at ho; subst ho; exact hskip
   .exact hs.skip _ o' (by simpa using ho)
   .simp at ho; subst ho; rw [hk0]; exact hR
   .rw [hks]; exact hs.opR _ o' (by simpa using ho)
   .simp at ho; subst ho; rw [hk0]; exact hN
   .rw [hks]; exact hs.opN _ o' (by simpa using ho)
   .simp at ho; subst ho; rw [hk0]; exact hM
   .rw [hks]; exact hs.opM _ o' (by simpa using ho)
   .simp at ho; subst ho; rw [hk0]; exact hW
   .rw [hks]; exact hs.opW _ o' (by simpa using ho)
  rw [anyF] at h
  split at h
  .rename_i bb hw
   cases bb with
   | true =>
    replace h := h.1 rfl
    split at h
    .rename_i hk
     obtain ⟨x, nb, h1, rfl, h2, h3⟩ := qch h
     have e : (s.seen m).st = loc σ0 n0 m := by show loc s.σ s.n0 m = _; rw [hs0, hn0]
     rw [e] at h1
     exact key x true none s hw h2 ⟨rfl, rfl, rfl⟩ rfl (fun _ => rfl) (fun e => by cases e) (fun _ _ => ⟨h1.two, rfl, rfl⟩) (fun _ e => by rw [hk] at e; cases e) (fun _ e => by rw [hk] at e; cases e) (fun _ e => by rw [hk] at e; cases e) hke h3
    .rename_i hk
     obtain ⟨x, nb, h1, rfl, h2, h3⟩ := qch h
     rw [qmq1, hn0] at h1
     exact key x true none s hw h2 ⟨rfl, rfl, rfl⟩ rfl (fun _ => rfl) (fun e => by cases e) (fun _ e => by rw [hk] at e; cases e) (fun _ _ => ⟨h1.two, rfl, rfl⟩) (fun _ e => by rw [hk] at e; cases e) (fun _ e => by rw [hk] at e; cases e) hke h3
    .rename_i hk
     obtain ⟨x, nb, h1, hj, h2, h3⟩ := qut h
     refine key x true nb (s.ext nb) hw h2 (by cases nb <;> exact ⟨rfl, rfl, rfl⟩) (by cases nb <;> rfl) (fun _ => ?_) (fun e => by cases e) (fun _ e => by rw [hk] at e; cases e) (fun _ e => by rw [hk] at e; cases e) (fun _ _ => ⟨h1, rfl⟩) (fun _ e => by rw [hk] at e; cases e) (qsi hke nb) h3
     cases nb with
     | none => rfl
     | some ab =>
      rw [(qes s ab).1]
      have : n0 + j ≠ s.nx := by unfold AS.nx; omega
      unfold upd; rw [if_neg this]
    .rename_i hk
     obtain ⟨x, s1, h1, h2, h7, h3, h5, h6, h4⟩ := qla h
     exact key x true none s1 hw h3 h2 h6 (fun _ => by rw [qlu1 (h2.2.2.trans hn0), qlu1 hn0]; exact h7) (fun e => by cases e) (fun _ e => by rw [hk] at e; cases e) (fun _ e => by rw [hk] at e; cases e) (fun _ e => by rw [hk] at e; cases e) (fun _ _ => ⟨h1, rfl⟩) (qtd (h6.trans hs0) (h2.2.2.trans hn0) h5) h4
    .rename_i hk
     obtain ⟨x, s1, h1, h2, h3, h5, h6, h4⟩ := qla h
     exact key x true none s1 hw h3 h2 h6 (fun e => absurd hk e) (fun e => by cases e) (fun _ e => by rw [hk] at e; cases e) (fun _ e => by rw [hk] at e; cases e) (fun _ e => by rw [hk] at e; cases e) (fun _ _ => ⟨h1, rfl⟩) (qtd (h6.trans hs0) (h2.2.2.trans hn0) h5) h4
   | false =>
    replace h := h.2 rfl
    exact key (.v undef) false none s hw h.1 ⟨rfl, rfl, rfl⟩ rfl (fun _ => rfl) (fun _ => ⟨rfl, rfl, rfl⟩) (fun e => by cases e) (fun e => by cases e) (fun e => by cases e) (fun e => by cases e) hke h.2
  .exact h.elim
theorem qkk {s : AS} {id : Nat} {l : List Oper} {Q : Exit -> AS -> Prop} (m : List AB) (j : Nat) (ks : List RK) (hm : P.follows .mixedOrders = true) (hB : anyB l ks = true) (h0 : qct m s.L) (h : anyF P l.toArray m j (Q .normal) l ks s) : awp P (.region id l.toArray true) Q s := by
 obtain ⟨st, s1, xs, bs, nbs, hs, rfl, hK⟩ := qnk l ks s rfl rfl (qtd rfl rfl h0) h
 exact qve hm (qva hB) (qay1 hB hs) hK
end
instance {P : Program} {ops : Array Oper} {m : List AB} {j : Nat} {K : AS -> Prop} {o : Oper} {l : List Oper} {ks : List RK} {s : AS} : Stp (anyF P ops m j K (o :: l) ks s) (match awant ops o s.t with
  | some b => qbm b (match ks.headD .R with
   | .R => aevF P (s.seen m) o.op (fun x nb => nb = none /\ dstOk o.dst s.n /\ anyF P ops m j K l ks.tail (s.put o.dst x))
   | .N => aevF P (s.eyeO j) o.op (fun x nb => nb = none /\ dstOk o.dst s.n /\ anyF P ops m j K l ks.tail (s.put o.dst x))
   | .M => aevM4 P s o.op (fun x nb => j < s.L.length /\ dstOk o.dst s.n /\ anyF P ops m j K l ks.tail ((s.ext nb).put o.dst x))
   | .A => aevW4 P s o.op (fun x s1 => s1.L.getD j .unborn = s.L.getD j .unborn /\ dstOk o.dst s.n /\ qct m s1.L /\ s1.σ = s.σ /\ anyF P ops m j K l ks.tail (s1.put o.dst x))
   | .W => aevW4 P s o.op (fun x s1 => dstOk o.dst s.n /\ qct m s1.L /\ s1.σ = s.σ /\ anyF P ops m j K l ks.tail (s1.put o.dst x))) (dstOk o.dst s.n /\ anyF P ops m j K l ks.tail (s.put o.dst (.v undef)))
  | none => False) := ⟨fun h => h⟩
instance {P : Program} {ops : Array Oper} {m : List AB} {j : Nat} {K : AS -> Prop} {ks : List RK} {s : AS} : Stp (anyF P ops m j K [] ks s) (K s) := ⟨fun h => h⟩
@[simp] theorem qto1 (j : Nat) (n : Nat) (t : Nat -> AV) (σ : Nat -> AB) (n0 : Nat) (L : List AB) : (AS.mk n t σ n0 L).eyeO j = ⟨n, t, fun _ => .unborn, n0, List.replicate j .unborn ++ [L.getD j .unborn]⟩ := rfl
instance {P : Program} {ops : Array Oper} {m : List AB} {j : Nat} {K : AS -> Prop} {l : List Oper} {ks : List RK} {s : AS} : Inhabited (Tag (anyF P ops m j K l ks s)) := ⟨⟨⟩⟩
section
variable {P : Program} {s : AS}
def qqq (P : Program) (ops : Array Oper) (s : AS) (o : Oper) (K : AS -> Prop) : Prop :=
 match o.op with
 | .call { callee := .builtin .append, args := ⟨[x, y]⟩, argTypes := ⟨[t, t']⟩ } => t' = t /\ awant ops o s.t = some true /\ (match vinfo P t with
  | some (e, sz, by_) => match s.eval x, (s.eval y).list with
   | .own r n, some ys => (match s.st r with
    | .vec l e' sz' => e' = e /\ sz' = sz /\ n = l.length /\ AV.wid ys sz /\ AV.elms ys /\ (l.length + ys.length) * by_ <= 140737488355328 /\ dstOk o.dst (s.set r (.vec (l ++ ys) e sz)).n /\ K ((s.set r (.vec (l ++ ys) e sz)).put o.dst (.own r (l.length + ys.length)))
    | _ => False)
   | _, _ => False
  | none => False)
 | _ => False
theorem qqr {ops : Array Oper} {K K' : AS -> Prop} {o : Oper} {l : List Oper} (hk : ∀ s, K' s -> aseq P ops K l s) (h : qqq P ops s o K') : aseq P ops K (o :: l) s := by
 unfold qqq at h
 rw [aseq]
 split at h
 .rename_i x y t t' hop
  obtain ⟨rfl, hwt, h⟩ := h
  refine ⟨true, hwt, ?_⟩
  show EOp P s o.op _
  rw [hop]
  split at h
  .split at h
   .split at h
    .obtain ⟨rfl, rfl, h1, h2, h3, h4, h6, h7⟩ := h
     exact qka ‹_› ‹_› ‹_› h1 ‹_› h2 h3 h4 ⟨h6, hk _ h7⟩
    .exact h.elim
   .exact h.elim
  .exact h.elim
 .exact h.elim
theorem qlf {id : Nat} {l : List Oper} {Q : Exit -> AS -> Prop} (k : Nat) {o : Oper} (ho : l[k]? = some o) (h : qe P l.toArray (fun s => qqq P l.toArray s o fun s => qe P l.toArray (Q .normal) (l.drop (k + 1)) s) (l.take k) s) : awp P (.region id l.toArray false) Q s := by
 refine qdh ?_
 have h1 : l = l.take k ++ o :: l.drop (k + 1) := by
  have hk := (List.getElem?_eq_some_iff.1 ho)
  obtain ⟨hk, he⟩ := hk
  rw [<- he, <- List.drop_eq_getElem_cons hk, List.take_append_drop]
 have h2 : aseq P l.toArray (Q .normal) (l.take k ++ o :: l.drop (k + 1)) s := qic (fun s' hs => qqr (fun s'' h => qee h) hs) h
 rw [<- h1] at h2; exact h2
attribute [simp] qqq
def qoe1 (P : Program) (ops : Array Oper) (s : AS) (o : Oper) (K : AS -> Prop) : Prop :=
 match o.op with
 | .call { callee := .value (.func f), args := ⟨.const (.slice none 0 0) :: args⟩, .. } => awant ops o s.t = some true /\ nts (args.map s.eval) = true /\ enters P f = true /\ dstOk o.dst s.n /\ qng P f (.v (.slice none 0 0) :: (args.map s.eval).map AV.pub) s.st (fun x => K (s.put o.dst x))
 | _ => False
attribute [simp] qoe1
end
end Go.Proofs.YtkedbjjfmejbhaaGreatDoor
namespace Go.Proofs.YtkedbjjfmejbhaaGreatDoor
open Go.RowKit Go.Lib
theorem qhp1 (n a b : Int) : Gives Tryz.prog 57 [.int n, .int a, .int b] (.bool (decide (a <= n) && decide (n <= b))) := by
 by_cases h : a <= n
 .refine qg Tryz.func57 Tryz.ntmps57 fun σ n0 hcl hft => ?_
  repeat' (first | (refine Stp.m ?_ <;> try simp (disch := first | omega | simp) [qc, -qe, -qi, h]) | refine qb fun K hK => ?_ | refine qa ?_ | (refine hK _ ?_; clear hK K))
 .refine qg Tryz.func57 Tryz.ntmps57 fun σ n0 hcl hft => ?_
  repeat' (first | (refine Stp.m ?_ <;> try simp (disch := first | omega | simp) [qc, -qe, -qi, h]) | refine qb fun K hK => ?_ | refine qa ?_ | (refine hK _ ?_; clear hK K))
theorem qzu (n : Node) (ho : n.op = 1 \/ n.op = 2) : Gives Tryz.prog 23 [n.av] (.bool true) := by
 have c := qhp1 n.op 0 8
 rcases ho with ho | ho
 all_goals (
  have o3 : (n.op == 3) = false := by rw [ho]; rfl
  have o4 : (n.op == 4) = false := by rw [ho]; rfl
  have o5 : (n.op == 5) = false := by rw [ho]; rfl
  have o6 : (n.op == 6) = false := by rw [ho]; rfl
  have o7 : (n.op == 7) = false := by rw [ho]; rfl
  have o8 : (n.op == 8) = false := by rw [ho]; rfl
  rw [show (decide (0 <= n.op) && decide (n.op <= 8)) = true by rw [ho]; rfl] at c
  refine qg Tryz.func23 Tryz.ntmps23 fun σ n0 hcl hft => ?_
  repeat' (first | ((first | refine Stp.m ?_ | refine qh ?_) <;> (try simp (disch := first | omega | simp) [qc, -qe, -qi, o3, o4, o5, o6, o7, o8])) | refine qb fun K hK => ?_ | refine qa ?_ | refine qd ?_ | (refine hK _ ?_; clear hK K))
  all_goals done)
theorem qdw1 (n : Node) (ho : n.op = 1 \/ n.op = 2) : Gives Tryz.prog 24 [n.av] (.int 1) := by
 rcases ho with ho | ho
 all_goals (
  have o0 : (n.op == 0) = false := by rw [ho]; rfl
  have o3 : (n.op == 3) = false := by rw [ho]; rfl
  have o6 : (n.op == 6) = false := by rw [ho]; rfl
  have o7 : (n.op == 7) = false := by rw [ho]; rfl
  refine qg Tryz.func24 Tryz.ntmps24 fun σ n0 hcl hft => ?_
  repeat' (first | (refine Stp.m ?_ <;> try simp (disch := first | omega | simp) [qc, -qe, -qi, o0, o3, o6, o7]) | refine qb fun K hK => ?_ | refine qa ?_ | refine qd ?_ | (refine hK _ ?_; clear hK K))
  all_goals done)
def boolP (F : List Fn) (cols : List Int) (e : Ex) : Bool := match typeP F cols [] e with | some t => t == 2 | none => false
def qza (F : List Fn) (cols : List Int) (l : List Ex) : Bool := l.all fun e => (typeP F cols [] e).isSome
def qox (F : List Fn) (n : Node) (cols : List Int) : Bool :=
 qde F && (decide (0 < cols.length) && decide (cols.length <= 12)) && (if n.op = 1 then decide (n.exprs.length = 1) && n.exprs.all (boolP F cols) else qza F cols n.exprs && (decide (1 <= n.exprs.length) && decide (n.exprs.length <= 12)))
theorem qce1 (F : List Fn) (cols : List Int) (e : Ex) (he : parts e <= 1000000) (hF : ∀ f ∈ F, parts f.body <= 1000000) : Gives Tryz.prog 25 [.sl (F.map Fn.av), e.av, .sl (cols.map AV.int)] (.bool (boolP F cols e)) := by
 have c4 := qft1 F cols [] e he hF
 rw [List.map_nil] at c4
 unfold boolP
 cases hT : typeP F cols [] e with
 | none =>
  rw [hT] at c4
  simp only [Option.isSome_none, Option.getD_none] at c4
  dsimp only
  refine qg Tryz.func25 Tryz.ntmps25 fun σ n0 hcl hft => ?_
  repeat' (first | ((first | refine Stp.m ?_ | refine qh ?_) <;> (try simp (disch := first | omega | simp) [qc, -qe, -qi])) | refine qb fun K hK => ?_ | refine qa ?_ | (refine hK _ ?_; clear hK K))
 | some t =>
  rw [hT] at c4
  simp only [Option.isSome_some, Option.getD_some] at c4
  dsimp only
  refine qg Tryz.func25 Tryz.ntmps25 fun σ n0 hcl hft => ?_
  repeat' (first | ((first | refine Stp.m ?_ | refine qh ?_) <;> (try simp (disch := first | omega | simp) [qc, -qe, -qi])) | refine qb fun K hK => ?_ | refine qa ?_ | (refine hK _ ?_; clear hK K))
set_option maxHeartbeats 8000000 in
theorem qkg1 (F : List Fn) (n : Node) (cols : List Int) (ho : n.op = 1 \/ n.op = 2) (he : ∀ e ∈ n.exprs, parts e <= 1000000) (hF : ∀ f ∈ F, parts f.body <= 1000000) (hle : n.exprs.length <= 1000000) :
  Gives Tryz.prog 6 [.sl (F.map Fn.av), n.av, .sl [.sl (cols.map AV.int)]] (.bool (qox F n cols)) := by
 have c1 := qyu F hF
 have c2 := qzu n ho
 have c3 := qdw1 n ho
 unfold qox
 cases h1 : qde F with
 | false =>
  rw [h1] at c1
  simp only [Bool.false_and]
  refine qg Tryz.func6 Tryz.ntmps6 fun σ n0 hcl hft => ?_
  repeat' (first | ((first | refine Stp.m ?_ | refine qh ?_) <;> (try simp (disch := first | omega | simp) [qc, -qe, -qi])) | refine qb fun K hK => ?_ | refine qa ?_ | (refine hK _ ?_; clear hK K))
 | true =>
  rw [h1] at c1
  by_cases h2 : cols.length = 0
  .have : cols = [] := List.eq_nil_of_length_eq_zero h2
   subst this
   simp only [List.map_nil, List.length_nil, Nat.lt_irrefl, decide_false, Bool.false_and, Bool.and_false]
   refine qg Tryz.func6 Tryz.ntmps6 fun σ n0 hcl hft => ?_
   repeat' (first | ((first | refine Stp.m ?_ | refine qh ?_) <;> (try simp (disch := first | omega | simp) [qc, -qe, -qi])) | refine qb fun K hK => ?_ | refine qa ?_ | (refine hK _ ?_; clear hK K))
  .have h2b : ((cols.length : Int) == 0) = false := by rw [beq_eq_false_iff_ne]; omega
   by_cases h3 : cols.length <= 12
   rotate_left
   .have h3b : (12 : Int) < cols.length := by omega
    rw [decide_eq_false h3]
    simp only [Bool.and_false, Bool.false_and]
    refine qg Tryz.func6 Tryz.ntmps6 fun σ n0 hcl hft => ?_
    repeat' (first | ((first | refine Stp.m ?_ | refine qh ?_) <;> (try simp (disch := first | omega | simp) [qc, -qe, -qi, h2b, h3b])) | refine qb fun K hK => ?_ | refine qa ?_ | (refine hK _ ?_; clear hK K))
   have h3b : ¬ (12 : Int) < cols.length := by omega
   rw [decide_eq_true h3, decide_eq_true (show 0 < cols.length by omega)]
   simp only [Bool.true_and]
   rcases ho with ho | ho
   .have o1 : (n.op == 1) = true := by rw [ho]; rfl
    rw [if_pos ho]
    by_cases h4 : n.exprs.length = 1
    .obtain ⟨e, hee⟩ := List.length_eq_one_iff.1 h4
     have c4 := qce1 F cols e (he e (by rw [hee]; simp)) hF
     have hB : (decide (n.exprs.length = 1) && n.exprs.all (boolP F cols)) = boolP F cols e := by rw [hee]; simp
     rw [hB]
     have h4b : ((n.exprs.length : Int) == 1) = true := by rw [beq_iff_eq]; omega
     have h4c : 0 < n.exprs.length := by omega
     have h4d : ∀ h : 0 < n.exprs.length, n.exprs[0] = e := fun h => by simp only [hee]; rfl
     clear hee hB
     generalize boolP F cols e = B at *
     refine qg Tryz.func6 Tryz.ntmps6 fun σ n0 hcl hft => ?_
     repeat' (first | ((first | refine Stp.m ?_ | refine qh ?_) <;> (try simp (disch := first | omega | simp) [qc, -qe, -qi, h2b, h3b, o1, h4b, h4c, h4d])) | refine qb fun K hK => ?_ | refine qa ?_ | refine qd ?_ | (refine hK _ ?_; clear hK K))
    .have h4b : ((n.exprs.length : Int) == 1) = false := by rw [beq_eq_false_iff_ne]; omega
     rw [decide_eq_false h4, Bool.false_and]
     refine qg Tryz.func6 Tryz.ntmps6 fun σ n0 hcl hft => ?_
     repeat' (first | ((first | refine Stp.m ?_ | refine qh ?_) <;> (try simp (disch := first | omega | simp) [qc, -qe, -qi, h2b, h3b, o1, h4b])) | refine qb fun K hK => ?_ | refine qa ?_ | refine qd ?_ | (refine hK _ ?_; clear hK K))
   .have o1 : (n.op == 1) = false := by rw [ho]; rfl
    have o2 : (n.op == 2) = true := by rw [ho]; rfl
    rw [if_neg (by omega)]
    obtain ⟨R, hR⟩ : ∃ R, R = (qza F cols n.exprs && (decide (1 <= n.exprs.length) && decide (n.exprs.length <= 12))) := ⟨_, rfl⟩
    rw [<- hR]
    unfold qza at hR
    refine qg Tryz.func6 Tryz.ntmps6 fun σ n0 hcl hft => ?_
    repeat' (first | ((first | refine Stp.m ?_ | refine qh ?_) <;> (try simp (disch := first | omega | simp) [qc, -qe, -qi, h2b, h3b, o1, o2])) | refine qb fun K hK => ?_ | refine qa ?_ | refine qd ?_ | (refine hK _ ?_; clear hK K))
    refine qk hcl (fun i : Nat => [(0, .sl (F.map Fn.av)), (4, .ptr n0 0), (7, .sl (cols.map AV.int)), (9, .int i)]) (fun _ => [.cells n.av.cells 29])
     (fun i => i <= n.exprs.length /\ ∀ j (h : j < n.exprs.length), j < i -> (typeP F cols [] n.exprs[j]).isSome = true) (fun i => n.exprs.length - i) 0 ⟨by omega, fun j h hj => by omega⟩ (by simp) fun i ⟨hi, hii⟩ => ?_
    by_cases hlt : i < n.exprs.length
    .have c4 := qft1 F cols [] n.exprs[i] (he _ (List.getElem_mem hlt)) hF
     rw [List.map_nil] at c4
     obtain ⟨e, hee⟩ : ∃ e, e = n.exprs[i] := ⟨_, rfl⟩
     obtain ⟨T, hT⟩ : ∃ T, T = typeP F cols [] n.exprs[i] := ⟨_, rfl⟩
     rw [<- hT] at c4
     rw [<- hee] at c4
     cases hs : T.isSome with
     | false =>
      rw [hs] at c4
      have : R = false := by
       rw [hR, List.all_eq_false.2 ⟨n.exprs[i], List.getElem_mem hlt, by rw [<- hT, hs]; simp⟩]; rfl
      subst this
      clear hR
      repeat' (first | ((first | refine Stp.m ?_ | refine qh ?_) <;> (try simp (disch := first | omega | simp) [qc, -qe, -qi, hlt, <- hee])) | refine qb fun K hK => ?_ | refine qa ?_ | refine qd ?_ | (refine hK _ ?_; clear hK K))
     | true =>
      rw [hs] at c4
      clear hR
      repeat' (first | ((first | refine Stp.m ?_ | refine qh ?_) <;> (try simp (disch := first | omega | simp) [qc, -qe, -qi, hlt, <- hee])) | refine qb fun K hK => ?_ | refine qa ?_ | refine qd ?_ | (refine hK _ ?_; clear hK K) | clear hK K)
      all_goals exact ⟨i + 1, ⟨by omega, fun j hj hji => by
       by_cases hji2 : j = i
       .subst hji2; rw [<- hT, hs]
       .exact hii j hj (by omega)⟩, by omega, by simp⟩
    .have hall : (n.exprs.all fun e => (typeP F cols [] e).isSome) = true := List.all_eq_true.2 fun e hee => by
      obtain ⟨j, hj, rfl⟩ := List.getElem_of_mem hee
      exact hii j hj (by omega)
     rw [hall, Bool.true_and] at hR
     clear hii hall
     repeat' (first | ((first | ((with_reducible refine qj (fun hg => ?_) (fun hg => ?_)) <;> (try simp only [hg]) <;> (try simp only [gS] at hg) <;> (try (first | simp only [eq_false hg, gI] | simp only [eq_true hg, gI]))) | refine Stp.m ?_) <;> (try simp (disch := first | omega | simp) [qc, -qe, -qi, hlt])) | refine qb fun K hK => ?_ | refine qa ?_ | (refine hK _ ?_; clear hK K) | clear hK K)
     all_goals (rw [hR, Bool.eq_iff_iff]; simp; omega)
end Go.Proofs.YtkedbjjfmejbhaaGreatDoor
