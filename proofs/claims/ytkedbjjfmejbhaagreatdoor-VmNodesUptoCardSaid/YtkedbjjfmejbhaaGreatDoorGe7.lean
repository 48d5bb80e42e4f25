/- Operations at abstract values. -/
import Derived.Laws.Rows
import Derived.Maps.AppendAt
import Derived.Test.YtkedbjjfmejbhaaGreatDoorGe6
set_option linter.unusedSimpArgs false
set_option linter.unusedVariables false
namespace Go.Proofs.YtkedbjjfmejbhaaGreatDoor
open Go.RowKit Go.Lib
def tinfo (P : Program) (t : TypeId) : Option (Bool × Nat) :=
 match P.underlying t, P.info? t with
 | some (.struct _), some i => some (true, i.size)
 | some (.array _ _), some i => some (true, i.size)
 | some _, some i => some (false, i.size)
 | _, _ => none
def finfo (P : Program) (t : TypeId) (f : Nat) : Option (Nat × TypeId) :=
 match P.underlying t with
 | some (.struct fs) => (fs[f]?).map fun f => (f.offset, f.type)
 | _ => none
def einfo (P : Program) (t : TypeId) : Option TypeId :=
 match P.underlying t with
 | some (.slice e) => some e
 | _ => none
def zinfo (P : Program) (t : TypeId) : Option Value := (P.info? t).bind (·.zero)
theorem qbd (b off j : Nat) : (⟨b, off, none⟩ : Addr).add j = ⟨b, off + j, none⟩ := by
 unfold Addr.add; split
 .rename_i h; subst h; rfl
 .rfl
def Sub (σ τ : Nat -> AB) : Prop := ∀ r, σ r ≠ .unborn -> τ r = σ r \/ τ r = .unborn
theorem Sub.cells {σ τ : Nat -> AB} (h : Sub σ τ) {r : Nat} {cs : List AV} {t : TypeId} (hr : σ r = .cells cs t) (hu : τ r ≠ .unborn) : τ r = .cells cs t := by
 rcases h r (by rw [hr]; simp) with h | h
 .rw [h, hr]
 .exact absurd h hu
theorem Sub.vec {σ τ : Nat -> AB} (h : Sub σ τ) {r : Nat} {l : List AV} {e : TypeId} {s : Nat} (hr : σ r = .vec l e s) (hu : τ r ≠ .unborn) : τ r = .vec l e s := by
 rcases h r (by rw [hr]; simp) with h | h
 .rw [h, hr]
 .exact absurd h hu
def FOp (P : Program) (ev : Operand -> AV) (σ : Nat -> AB) (o : Op) (x : AV) (nb : Option (Nat × AB)) : Prop :=
 ∀ (X : St) (a : Act) (oper : Oper), oper.op = o -> SR X -> Sub σ X.σ -> (∀ y ∈ o.operands, RR X (ev y) (a.eval y)) -> (∀ r ab, nb = some (r, ab) -> X.σ r = .unborn) ->
  ∀ Q, OwpA P oper a X.w (fun a' w' => ∃ v Y, a' = a.put oper.dst v /\ Y.w = w' /\ SR Y /\ Fr X Y /\ RR Y x v /\ Y.σ = (match nb with | none => X.σ | some (r, ab) => upd X.σ r ab)) Q
theorem qbi {P : Program} {o : Oper} {a : Act} {w w' : World} {v : Value} {K : Act -> World -> Prop} {Q : Exit -> Act -> World -> Prop} (h : (execOp a.eval o).run P w = .ok (.value v) w') (hK : K (a.put o.dst v) w') : OwpA P o a w K Q := OwpA.value h hK
theorem qrl {P : Program} {o : Oper} {a : Act} {w w' : World} {K : Act -> World -> Prop} {Q : Exit -> Act -> World -> Prop} (h : (execOp a.eval o).run P w = .ok .skip w') (hK : K (a.put o.dst undef) w') : OwpA P o a w K Q := OwpA.skip h hK
theorem FOp.of {P : Program} {ev : Operand -> AV} {σ : Nat -> AB} {o : Op} {x : AV}
  (h : ∀ (X : St) (a : Act) (oper : Oper), oper.op = o -> SR X -> Sub σ X.σ -> (∀ y ∈ o.operands, RR X (ev y) (a.eval y)) -> ∃ v, (execOp a.eval oper).run P X.w = .ok (.value v) X.w /\ RR X x v) : FOp P ev σ o x none := by
 intro X a oper ho hS hsub hev _ Q
 obtain ⟨v, h1, h2⟩ := h X a oper ho hS hsub hev
 exact qbi h1 ⟨v, X, rfl, rfl, hS, Fr.refl X, h2, rfl⟩
section
variable {P : Program} {ev : Operand -> AV} {σ : Nat -> AB}
theorem qiz1 {x : Operand} : FOp P ev σ (.move x) (ev x) none := FOp.of fun X a oper ho _ _ hev => by
 refine ⟨a.eval x, ?_, hev x (by simp [Op.operands])⟩
 simp [execOp, ho]
theorem qaf1 {x : Operand} : FOp P ev σ (.assign x) (ev x) none := FOp.of fun X a oper ho _ _ hev => by
 refine ⟨a.eval x, ?_, hev x (by simp [Op.operands])⟩
 simp [execOp, ho]
theorem qja1 {c x y : Operand} {t : Bool} (hc : ev c = .v (.bool t)) : FOp P ev σ (.pick c x y) (if t then ev x else ev y) none := FOp.of fun X a oper ho _ _ hev => by
 have h := hev c (by simp [Op.operands])
 rw [hc, RR.v] at h
 have hx := hev x (by simp [Op.operands])
 have hy := hev y (by simp [Op.operands])
 refine ⟨if t then a.eval x else a.eval y, ?_, by split <;> assumption⟩
 simp [execOp, ho, h, asBool]
theorem qvv {x : Operand} {l : List AV} {i : Nat} {y : AV} (hx : ev x = .tup l) (hy : l[i]? = some y) (hnt : ∀ l, y ≠ .tup l) : FOp P ev σ (.extract x i) y none := FOp.of fun X a oper ho _ _ hev => by
 have h := hev x (by simp [Op.operands])
 rw [hx] at h
 obtain ⟨vs, hv, hl⟩ := h
 have key : ∀ (l : List AV) (vs : List Value) (i : Nat), RRl X l vs -> l[i]? = some y -> ∃ v, vs[i]? = some v /\ RR1 X y v := by
  intro l
  induction l with
  | nil => intro vs i _ h; simp at h
  | cons z l ih =>
   intro vs i hr hi
   obtain ⟨v, vs', rfl, h2, h3⟩ := hr
   cases i with
   | zero => simp at hi; subst hi; exact ⟨v, rfl, h2⟩
   | succ i => simpa using ih vs' i h3 (by simpa using hi)
 obtain ⟨v, h1, h2⟩ := key l vs i hl hy
 refine ⟨v, by simp [execOp, ho, hv, Instr.extract, h1], ?_⟩
 unfold RR; split
 .exact absurd rfl (hnt _)
 .exact h2
def sbin (op : BinOp) (x y : Value) : Option Value :=
 match op, x, y with
 | .add, .int k a, .int k' b => if k = k' then some (.int k (k.wrap (a + b))) else none
 | .sub, .int k a, .int k' b => if k = k' then some (.int k (k.wrap (a - b))) else none
 | .mul, .int k a, .int k' b => if k = k' then some (.int k (k.wrap (a * b))) else none
 | .eql, .int k a, .int k' b => if k = k' then some (.bool (a == b)) else none
 | .neq, .int k a, .int k' b => if k = k' then some (.bool (a != b)) else none
 | .lss, .int k a, .int k' b => if k = k' then some (.bool (a < b)) else none
 | .leq, .int k a, .int k' b => if k = k' then some (.bool (a <= b)) else none
 | .gtr, .int k a, .int k' b => if k = k' then some (.bool (a > b)) else none
 | .geq, .int k a, .int k' b => if k = k' then some (.bool (a >= b)) else none
 | .eql, .string a, .string b => some (.bool (a.toList == b.toList))
 | .neq, .string a, .string b => some (.bool (!(a.toList == b.toList)))
 | .lss, .string a, .string b => some (.bool (Op.bytesLess a.toList b.toList))
 | .leq, .string a, .string b => some (.bool (Op.bytesLess a.toList b.toList || a.toList == b.toList))
 | .gtr, .string a, .string b => some (.bool (!(Op.bytesLess a.toList b.toList || a.toList == b.toList)))
 | .geq, .string a, .string b => some (.bool (!Op.bytesLess a.toList b.toList))
 | _, _, _ => none
theorem qkh1 {op : BinOp} {x y z : Value} (h : sbin op x y = some z) (t : TypeId) (p q : Operand) (w : World) : ((do eqGuard op t p q x y; binOp op t x y) : Sem Value).run P w = .ok z w := by
 have hg : (eqGuard op t p q x y).run P w = .ok () w := by
  unfold sbin at h
  split at h <;> first | cases h; done | simp [eqGuard]
 rw [Sem.run_bind, hg, Result.andThen_ok]
 unfold sbin at h
 split at h <;> first | (split at h <;> first | (cases h; subst_vars; simp [binOp, Op.intArith, Op.intCmp]; done) | cases h) | (cases h; simp [binOp, Op.stringOp]; done) | cases h
theorem qmw1 {op : BinOp} {t u : TypeId} {x y : Operand} {a b z : Value} (hx : ev x = .v a) (hy : ev y = .v b) (h : sbin op a b = some z) : FOp P ev σ (.binOp op t x y u) (.v z) none := FOp.of fun X ac oper ho _ _ hev => by
 have h1 := hev x (by simp [Op.operands])
 have h2 := hev y (by simp [Op.operands])
 rw [hx, RR.v] at h1; rw [hy, RR.v] at h2
 refine ⟨z, ?_, RR.v.2 rfl⟩
 simp only [execOp, ho]
 rw [Sem.run_bind, h1, h2, qkh1 h]
 simp
theorem qbs {t : TypeId} {ag : Bool} {n : Nat} (h : tinfo P t = some (ag, n)) (w : World) : (isAgg t).run P w = .ok ag w /\ (sizeOf t).run P w = .ok n w := by
 unfold tinfo at h
 cases hu : P.underlying t with
 | none => rw [hu] at h; cases h
 | some d =>
  cases hi : P.info? t with
  | none => rw [hu, hi] at h; cases d <;> cases h
  | some i =>
   rw [hu, hi] at h
   constructor
   .cases d <;> (simp at h; obtain ⟨rfl, rfl⟩ := h; simp [isAgg, underlying, hu])
   .cases d <;> (simp at h; obtain ⟨rfl, rfl⟩ := h; simp [sizeOf, typeInfo, hi])
def qdt (ag : Bool) (n : Nat) (cs : List AV) (off : Nat) : Option AV :=
 if ag then (if off + n <= cs.length then some (.agg ((cs.drop off).take n)) else none) else cs[off]?
theorem qw.get {w : World} {b : Nat} : ∀ {cs : List Value} {off : Nat}, qw w b off cs -> ∀ j v, cs[j]? = some v -> w.cell? ⟨b, off + j, none⟩ = some v
 | [], _, _, _, _, h => by simp at h
 | c :: cs, off, h, j, v, hj => by
  cases j with
  | zero => simp at hj; subst hj; exact h.1
  | succ j =>
   have := qw.get h.2 j v (by simpa using hj)
   rwa [show off + 1 + j = off + (j + 1) by omega] at this
theorem qht {X : St} {t : TypeId} {ag : Bool} {n : Nat} (ht : tinfo P t = some (ag, n)) {b o : Nat} {cs : List AV} {vs : List Value} (hc : qw X.w b o vs) (hr : R1s X cs vs) {off : Nat} {x : AV} (hx : qdt ag n cs off = some x) :
  ∃ v, (loadVar t ⟨b, o + off, none⟩).run P X.w = .ok v X.w /\ RR1 X x v := by
 obtain ⟨h1, h2⟩ := qbs ht X.w
 unfold qdt at hx
 cases ag with
 | true =>
  rw [if_pos rfl] at hx
  split at hx
  .cases hx
   have hlen : ((vs.drop off).take n).length = n := by have := R1s.length _ _ hr; simp; omega
   have := run_loadCells_list (P := P) X.w ⟨b, o + off, none⟩ ((vs.drop off).take n) (fun j v hj => by
    rw [qbd, Nat.add_assoc]
    refine hc.get _ _ ?_
    have hj2 := (List.getElem?_eq_some_iff.1 hj).1
    rw [List.getElem?_take_of_lt (by omega), List.getElem?_drop] at hj
    exact hj)
   rw [hlen] at this
   refine ⟨.agg ((vs.drop off).take n).toArray, ?_, ?_⟩
   .simp [loadVar, h1, h2, this]
   .exact ⟨_, rfl, (hr.drop off).take n⟩
  .cases hx
 | false =>
  rw [if_neg (by simp)] at hx
  obtain ⟨v, hv, h0, hrv⟩ := hr.get hx
  refine ⟨v, ?_, RR1.of_one h0 hrv⟩
  simp [loadVar, h1, hc.get _ _ hv]
theorem qnw {t : TypeId} {f off : Nat} {ft : TypeId} (h : finfo P t f = some (off, ft)) : ∃ fs fd, P.underlying t = some (.struct fs) /\ fs[f]? = some fd /\ fd.offset = off /\ fd.type = ft := by
 unfold finfo at h
 split at h
 .rename_i fs hu
  cases hf : fs[f]? with
  | none => rw [hf] at h; cases h
  | some fd => rw [hf] at h; cases h; exact ⟨fs, fd, hu, hf, rfl, rfl⟩
 .cases h
def AV.at : AV -> Nat -> AV
 | .ptr r off, k => .ptr r (off + k)
 | .ep x off, k => .ep x (off + k)
 | .eo r n i off, k => .eo r n i (off + k)
 | x, _ => x
def rdAt (σ : Nat -> AB) (ag : Bool) (n : Nat) : AV -> Option AV
 | .ptr r off => match σ r with
  | .cells cs _ => qdt ag n cs off
  | _ => none
 | .ep x off => match x with
  | .agg cs => qdt ag n cs off
  | x => if x.one = true /\ off = 0 /\ ag = false then some x else none
 | .eo r m k off => match σ r with
  | .vec l _ _ => if m = l.length then (match l[k]? with
   | some (.agg cs) => qdt ag n cs off
   | some x => if x.one = true /\ off = 0 /\ ag = false then some x else none
   | none => none) else none
  | _ => none
 | _ => none
theorem RCs.at {X : St} {w : Nat} : ∀ {l : List AV} {xs : List Value} {k : Nat} {x : AV}, RCs X l xs -> (∀ y ∈ l, y.width = w) -> l[k]? = some x -> ∃ cs, RC X x cs /\ ∀ j v, cs[j]? = some v -> xs[k * w + j]? = some v
 | [], _, _, _, _, _, h => by simp at h
 | y :: l, xs, k, x, hr, hw, hk => by
  obtain ⟨c1, c2, rfl, h1, h2⟩ := hr
  have hl := RC.length _ _ h1
  rw [hw y (by simp)] at hl
  cases k with
  | zero =>
   simp at hk; subst hk
   refine ⟨c1, h1, fun j v hj => ?_⟩
   rw [Nat.zero_mul, Nat.zero_add, List.getElem?_append_left (List.getElem?_eq_some_iff.1 hj).1]; exact hj
  | succ k =>
   obtain ⟨cs, h3, h4⟩ := RCs.at h2 (fun z hz => hw z (by simp [hz])) (by simpa using hk)
   refine ⟨cs, h3, fun j v hj => ?_⟩
   rw [Nat.succ_mul, List.getElem?_append_right (by omega)]
   rw [show k * w + w + j - c1.length = k * w + j by omega]
   exact h4 j v hj
theorem qyr {X : St} (hS : SR X) (hsub : Sub σ X.σ) {t : TypeId} {ag : Bool} {n : Nat} (ht : tinfo P t = some (ag, n)) {p x : AV} {v : Value} (hp : RR X p v) (hx : rdAt σ ag n p = some x) :
  ∃ ad u, v = .pointer (some ad) /\ (loadVar t ad).run P X.w = .ok u X.w /\ RR1 X x u := by
 unfold rdAt at hx
 split at hx
 .rename_i r off
  split at hx
  .rename_i cs et hσ
   change RC X (.ptr r off) [v] at hp
   rw [RC] at hp
   obtain ⟨⟨c0, t0, h1⟩, b, hm, hv⟩ := hp
   cases hv
   have hX := hsub.cells hσ (by rw [h1]; simp)
   have hb := hS.block r
   rw [hX] at hb
   obtain ⟨b', vs, hm', hh, hr⟩ := hb
   rw [hm] at hm'; cases hm'
   obtain ⟨u, hu1, hu2⟩ := qht ht (b := b) (o := 0) (vs := vs) (qgq vs 0 fun j u hu => by simp [World.cell?, hh, hu]) hr hx
   exact ⟨_, u, rfl, by simpa using hu1, hu2⟩
  .cases hx
 .rename_i y off
  change RC X (.ep y off) [v] at hp
  rw [RC] at hp
  obtain ⟨b, o, cx, hv, hcS, hr⟩ := hp
  have hc := hcS.at
  cases hv
  split at hx
  .rename_i cs
   rw [RC] at hr
   obtain ⟨u, hu1, hu2⟩ := qht ht hc hr hx
   exact ⟨_, u, rfl, hu1, hu2⟩
  .split at hx
   .rename_i h; obtain ⟨h0, rfl, rfl⟩ := h
    cases hx
    obtain ⟨z, rfl⟩ := RC.single h0 hr
    refine ⟨_, z, rfl, ?_, RR1.of_one h0 hr⟩
    simp [loadVar, (qbs ht X.w).1, hc.1]
   .cases hx
 .rename_i r m k off
  split at hx
  .rename_i l et sz hσ
   split at hx
   .rename_i hm
    change RC X (.eo r m k off) [v] at hp
    rw [RC] at hp
    obtain ⟨h1, v', hv, -, h2⟩ := hp
    cases hv
    have hX := hsub.vec hσ h1
    obtain ⟨b, hb, rfl⟩ := (h2 _ _ _ hX).2 hm
    have hB := hS.block r
    rw [hX] at hB
    obtain ⟨hw, xs, hown, hrs⟩ := hB
    have hcell : ∀ j u, xs[j]? = some u -> X.w.cell? ⟨b, j, none⟩ = some u := fun j u hu => by
     have := hown.cells hb j u hu
     rwa [qbd, Nat.zero_add] at this
    have key : ∀ y, l[k]? = some y -> ∃ cy, RC X y cy /\ qw X.w b (k * sz) cy := fun y hy => by
     obtain ⟨cy, h3, h4⟩ := hrs.at hw hy
     exact ⟨cy, h3, qgq cy _ fun j u hu => hcell _ _ (h4 j u hu)⟩
    split at hx
    .rename_i cs hk
     obtain ⟨cy, h3, h4⟩ := key _ hk
     rw [RC] at h3
     obtain ⟨u, hu1, hu2⟩ := qht ht h4 h3 hx
     exact ⟨_, u, rfl, hu1, hu2⟩
    .rename_i y hne hk
     obtain ⟨cy, h3, h4⟩ := key _ hk
     split at hx
     .rename_i h; obtain ⟨h0, rfl, rfl⟩ := h
      cases hx
      obtain ⟨z, rfl⟩ := RC.single h0 h3
      refine ⟨_, z, rfl, ?_, RR1.of_one h0 h3⟩
      simp [loadVar, (qbs ht X.w).1, h4.1]
     .cases hx
    .cases hx
   .cases hx
  .cases hx
 .cases hx
theorem qiy1 {t : TypeId} {p : Operand} {x : AV} {ag : Bool} {n : Nat} (ht : tinfo P t = some (ag, n)) (hx : rdAt σ ag n (ev p) = some x) : FOp P ev σ (.load t p) x none := FOp.of fun X a oper ho hS hsub hev => by
 have h := hev p (by simp [Op.operands])
 obtain ⟨ad, u, h1, h2, h3⟩ := qyr hS hsub ht h hx
 refine ⟨u, ?_, h3.rr⟩
 simp [execOp, ho, h1, Instr.loadAt, Instr.sureAddr, h2]
def qib (σ : Nat -> AB) : AV -> Prop
 | .ptr _ _ => True
 | .ep _ _ => True
 | .eo r n _ _ => ∃ l e s, σ r = .vec l e s /\ n = l.length
 | _ => False
theorem qbt1 {X : St} (hsub : Sub σ X.σ) {p : AV} {v : Value} (hp : RR X p v) (ha : qib σ p) : ∃ b o, v = .pointer (some ⟨b, o, none⟩) /\ ∀ k, RR X (p.at k) (.pointer (some ⟨b, o + k, none⟩)) := by
 unfold qib at ha
 split at ha
 .rename_i r off
  change RC X (.ptr r off) [v] at hp
  rw [RC] at hp
  obtain ⟨h1, b, hm, hv⟩ := hp
  cases hv
  refine ⟨b, off, rfl, fun k => ?_⟩
  show RC X (.ptr r (off + k)) [_]
  rw [RC]
  exact ⟨h1, b, hm, rfl⟩
 .rename_i x off
  change RC X (.ep x off) [v] at hp
  rw [RC] at hp
  obtain ⟨b, o, cx, hv, h1, h2⟩ := hp
  cases hv
  refine ⟨b, o + off, rfl, fun k => ?_⟩
  show RC X (.ep x (off + k)) [_]
  rw [RC]
  exact ⟨b, o, cx, by rw [Nat.add_assoc], h1, h2⟩
 .rename_i r n k off
  obtain ⟨l, e, sz, hσ, hn⟩ := ha
  change RC X (.eo r n k off) [v] at hp
  rw [RC] at hp
  obtain ⟨h1, v', hv, -, h2⟩ := hp
  cases hv
  have hX := hsub.vec hσ h1
  obtain ⟨h3, h4⟩ := h2 _ _ _ hX
  obtain ⟨b, hb, rfl⟩ := h4 hn
  refine ⟨b, k * sz + off, rfl, fun j => ?_⟩
  show RC X (.eo r n k (off + j)) [_]
  rw [RC]
  refine ⟨h1, _, rfl, rfl, fun l' e' s' hl => ?_⟩
  rw [hX] at hl; cases hl
  exact ⟨h3, fun _ => ⟨b, hb, by rw [Nat.add_assoc]⟩⟩
 .exact ha.elim
theorem qqd {t : TypeId} {p : Operand} {f off : Nat} {ft : TypeId} {ag : Bool} {n : Nat} (hf : finfo P t f = some (off, ft)) (ht : tinfo P ft = some (ag, n)) (hn : n ≠ 0) (ha : qib σ (ev p)) : FOp P ev σ (.fieldAddr t p f) ((ev p).at off) none := FOp.of fun X a oper ho hS hsub hev => by
 have h := hev p (by simp [Op.operands])
 obtain ⟨b, o, h1, h2⟩ := qbt1 hsub h ha
 obtain ⟨fs, fd, hu, hfd, rfl, rfl⟩ := qnw hf
 refine ⟨_, ?_, h2 fd.offset⟩
 have := (qbs ht X.w).2
 simp [execOp, ho, h1, Instr.fieldAt, Instr.sureAddr, underlying, hu, hfd, fieldPlace, this, hn, qbd]
theorem qdn1 {t : TypeId} {p : Operand} {f off : Nat} {ft : TypeId} {ag : Bool} {n : Nat} {l : List AV} {x : AV} (hf : finfo P t f = some (off, ft)) (ht : tinfo P ft = some (ag, n)) (hp : ev p = .agg l) (hx : qdt ag n l off = some x) : FOp P ev σ (.field t p f) x none := FOp.of fun X a oper ho hS hsub hev => by
 have h := hev p (by simp [Op.operands])
 rw [hp] at h
 obtain ⟨vs, hv, hr⟩ := h
 obtain ⟨fs, fd, hu, hfd, rfl, rfl⟩ := qnw hf
 obtain ⟨h1, h2⟩ := qbs ht X.w
 unfold qdt at hx
 cases ag with
 | true =>
  rw [if_pos rfl] at hx
  split at hx
  .cases hx
   refine ⟨.agg ((vs.drop fd.offset).take n).toArray, ?_, ?_⟩
   .simp [execOp, ho, hv, Instr.field, underlying, hu, hfd, part, h1, h2, asAgg]
   .exact ⟨_, rfl, (hr.drop _).take n⟩
  .cases hx
 | false =>
  rw [if_neg (by simp)] at hx
  obtain ⟨v, hv2, h0, hrv⟩ := hr.get hx
  refine ⟨v, ?_, RR.of_one h0 hrv⟩
  simp [execOp, ho, hv, Instr.field, underlying, hu, hfd, part, h1, asAgg, hv2]
theorem qcp {t e : TypeId} (h : einfo P t = some e) : P.underlying t = some (.slice e) := by
 unfold einfo at h
 split at h
 .rename_i e' hu; cases h; exact hu
 .cases h
theorem RM.at {X : St} {sz b : Nat} : ∀ {l : List AV} {off k : Nat} {x : AV}, RM X l b off -> (∀ y ∈ l, y.width = sz) -> l[k]? = some x -> ∃ cs, qy X b (off + k * sz) cs /\ RC X x cs
 | [], _, _, _, _, _, h => by simp at h
 | y :: l, off, k, x, hr, hw, hk => by
  rw [RM] at hr
  cases k with
  | zero => simp at hk; subst hk; simpa using hr.1
  | succ k =>
   have := RM.at hr.2 (fun z hz => hw z (by simp [hz])) (k := k) (by simpa using hk)
   rw [hw y (by simp)] at this
   rw [show off + (k + 1) * sz = off + sz + k * sz by rw [Nat.succ_mul]; omega]
   exact this
theorem RM.drop {X : St} {sz b : Nat} : ∀ {l : List AV} {off : Nat} (k : Nat), RM X l b off -> (∀ y ∈ l, y.width = sz) -> RM X (l.drop k) b (off + k * sz)
 | _, _, 0, hr, _ => by simpa using hr
 | [], _, k + 1, _, _ => by rw [List.drop_nil, RM]; trivial
 | y :: l, off, k + 1, hr, hw => by
  rw [RM] at hr
  have := RM.drop k hr.2 (fun z hz => hw z (by simp [hz]))
  rw [hw y (by simp)] at this
  rw [List.drop_succ_cons, show off + (k + 1) * sz = off + sz + k * sz by rw [Nat.succ_mul]; omega]
  exact this
theorem RM.take {X : St} {b : Nat} : ∀ {l : List AV} {off : Nat} (k : Nat), RM X l b off -> RM X (l.take k) b off
 | _, _, 0, _ => by rw [List.take_zero, RM]; trivial
 | [], _, k + 1, _ => by rw [List.take_nil, RM]; trivial
 | y :: l, off, k + 1, hr => by
  rw [RM] at hr
  rw [List.take_succ_cons, RM]
  exact ⟨hr.1, hr.2.take k⟩
def AV.list : AV -> Option (List AV)
 | .sl l => some l
 | .gs _ l => some l
 | _ => none
theorem RR.list {X : St} {x : AV} {v : Value} {l : List AV} (hx : x.list = some l) (h : RR X x v) : ∃ A cap b off, v = .slice A l.length cap /\ l.length <= cap /\ cap <= 9223372036854775807 /\ (0 < l.length -> A = some ⟨b, off, none⟩) /\ RM X l b off := by
 cases x <;> try cases hx
 .change RC X (.sl l) [v] at h
  rw [RC] at h
  obtain ⟨A, cap, b, off, h1, h2⟩ := h
  exact ⟨A, cap, b, off, by simpa using h1, h2⟩
 .rename_i r
  change RC X (.gs r l) [v] at h
  rw [RC] at h
  obtain ⟨A, cap, b, off, h1, h2, h3, h4, h5, -⟩ := h
  exact ⟨A, cap, b, off, by simpa using h1, h2, h3, h4, h5⟩
theorem qii {t e : TypeId} {p i : Operand} {l : List AV} {ik : IntKind} {k : Int} {ag : Bool} {sz : Nat} (ht : einfo P t = some e) (hs : tinfo P e = some (ag, sz)) (hp : (ev p).list = some l) (hi : ev i = .v (.int ik k)) (hw : ∀ y ∈ l, y.width = sz) (h0 : 0 <= k) (h1 : k < l.length) :
  FOp P ev σ (.indexAddr t p i) (.ep (l.getD k.toNat .any) 0) none := FOp.of fun X a oper ho hS hsub hev => by
 have h := hev p (by simp [Op.operands])
 have h2 := hev i (by simp [Op.operands])
 rw [hi, RR.v] at h2
 obtain ⟨A, cap, b, off, hv', hc1, hc2, hA, hm⟩ := RR.list hp h
 obtain rfl := hA (by omega)
 have hk : k.toNat < l.length := by omega
 obtain ⟨cs, h3, h4⟩ := hm.at hw (List.getElem?_eq_getElem hk)
 refine ⟨.pointer (some ⟨b, off + k.toNat * sz, none⟩), ?_, ?_⟩
 .have hu := qcp ht
  have := (qbs hs X.w).2
  simp [execOp, ho, hv', h2, Instr.indexAt, asIntOf, underlying, hu, h0, h1, this, qbd]
 .show RC X (.ep _ 0) [_]
  rw [RC]
  refine ⟨b, off + k.toNat * sz, cs, rfl, h3, ?_⟩
  rw [List.getD_eq_getElem?_getD, List.getElem?_eq_getElem hk]; exact h4
theorem qai1 {t e : TypeId} {n g : Nat} {p i : Operand} {ik : IntKind} {k : Int} {cs : List Value} (ht : P.underlying t = some (.array n e)) (hs : tinfo P e = some (false, 1)) (hp : ev p = .v (.pointer (some ⟨g, 0, none⟩))) (hi : ev i = .v (.int ik k)) (hg : gtab g = some cs) (hn : cs.length = n) (h0 : 0 <= k) (h1 : k < cs.length) :
  FOp P ev σ (.indexAddr t p i) (.ep (.v (cs.getD k.toNat undef)) 0) none := FOp.of fun X a oper ho hS hsub hev => by
 have h := hev p (by simp [Op.operands])
 have h2 := hev i (by simp [Op.operands])
 rw [hp, RR.v] at h; rw [hi, RR.v] at h2
 have hG := qvy hS.glob hg
 have hk : k.toNat < cs.length := by omega
 have hkn : k < n := by omega
 refine ⟨.pointer (some ⟨g, k.toNat * 1, none⟩), ?_, ?_⟩
 .have := (qbs hs X.w).2
  simp [execOp, ho, h, h2, Instr.indexAt, Instr.sureAddr, asIntOf, underlying, ht, h0, hkn, this, qbd]
 .show RC X (.ep _ 0) [_]
  rw [RC]
  refine ⟨g, k.toNat, [cs[k.toNat]], by simp, ?_, by rw [RC, List.getD_eq_getElem?_getD, List.getElem?_eq_getElem hk]; rfl⟩
  have : ∀ (cs : List Value) (o j : Nat) (hj : j < cs.length), qy X g o cs -> qy X g (o + j) [cs[j]] := fun cs => by
   induction cs with
   | nil => intro o j hj; simp at hj
   | cons c cs ih =>
    intro o j hj hc
    cases j with
    | zero => exact ⟨hc.1, hc.2.1, trivial⟩
    | succ j =>
     have := ih (o + 1) j (by simpa using hj) hc.2.2
     rw [Nat.add_assoc, Nat.add_comm 1 j] at this
     simpa using this
  have h3 := this cs 0 k.toNat hk hG.1
  rwa [Nat.zero_add] at h3
theorem qsu {t e : TypeId} {p i : Operand} {r n : Nat} {l : List AV} {et : TypeId} {ik : IntKind} {k : Int} {ag : Bool} {sz : Nat} (ht : einfo P t = some e) (hs : tinfo P e = some (ag, sz)) (hp : ev p = .own r n) (hσ : σ r = .vec l et sz) (hn : n = l.length) (hi : ev i = .v (.int ik k)) (h0 : 0 <= k) (h1 : k < l.length) :
  FOp P ev σ (.indexAddr t p i) (.eo r n k.toNat 0) none := FOp.of fun X a oper ho hS hsub hev => by
 have h := hev p (by simp [Op.operands])
 have h2 := hev i (by simp [Op.operands])
 rw [hp] at h; rw [hi, RR.v] at h2
 change RC X (.own r n) [a.eval p] at h
 rw [RC] at h
 obtain ⟨hu1, v, hv, -, hall⟩ := h
 have hX := hsub.vec hσ hu1
 have hv' : a.eval p = v := by simpa using hv
 have hvm := (hall _ _ _ hX).2 hn
 have hB := hS.block r
 rw [hX] at hB
 obtain ⟨hw, xs, hown, hrs⟩ := hB
 rcases hown.2 with ⟨h3, h4⟩ | ⟨g, cap, cur, h3, h4⟩
 .omega
 .refine ⟨.pointer (some ⟨g, k.toNat * sz, none⟩), ?_, ?_⟩
  .have hu := qcp ht
   have := (qbs hs X.w).2
   have hA : a.eval p = .slice (some ⟨g, 0, none⟩) l.length cap := by rw [hv', hvm, h3]
   simp [execOp, ho, hA, h2, Instr.indexAt, asIntOf, underlying, hu, h0, h1, this, qbd]
  .show RC X (.eo r n k.toNat 0) [_]
   rw [RC]
   refine ⟨hu1, _, rfl, rfl, fun l' e' s' hl => ?_⟩
   rw [hX] at hl; cases hl
   exact ⟨by omega, fun _ => ⟨g, by rw [h3]; rfl, by simp⟩⟩
theorem qdo1 {t u : TypeId} {p : Operand} {l : List AV} (ht : einfo P t = some u) (hp : (ev p).list = some l) : FOp P ev σ (.call { callee := .builtin .len, args := #[p], argTypes := #[t] }) (.v (.int .i64 l.length)) none := FOp.of fun X a oper ho hS hsub hev => by
 have h := hev p (by simp [Op.operands, Call.operands])
 obtain ⟨A, cap, b, off, hv', -⟩ := RR.list hp h
 refine ⟨_, ?_, RR.v.2 rfl⟩
 simp [execOp, ho, resolve, invoke, builtin, Builtin.len_, underlying, qcp ht, hv', goInt]
end
section
variable {P : Program} {ev : Operand -> AV} {σ : Nat -> AB}
theorem qaj1 {t u : TypeId} {p : Operand} {r n : Nat} {l : List AV} {et : TypeId} {sz : Nat} (ht : einfo P t = some u) (hp : ev p = .own r n) (hσ : σ r = .vec l et sz) (hn : n = l.length) : FOp P ev σ (.call { callee := .builtin .len, args := #[p], argTypes := #[t] }) (.v (.int .i64 n)) none := FOp.of fun X a oper ho hS hsub hev => by
 have h := hev p (by simp [Op.operands, Call.operands])
 rw [hp] at h
 change RC X (.own r n) [a.eval p] at h
 rw [RC] at h
 obtain ⟨hu1, v, hv, -, hall⟩ := h
 have hX := hsub.vec hσ hu1
 have hv' : a.eval p = v := by simpa using hv
 have hvm := (hall _ _ _ hX).2 hn
 have hB := hS.block r
 rw [hX] at hB
 obtain ⟨hw, xs, hown, hrs⟩ := hB
 refine ⟨_, ?_, RR.v.2 rfl⟩
 rcases hown.2 with ⟨h3, h4⟩ | ⟨g, cap, cur, h3, h4⟩
 .have hA : a.eval p = .slice none 0 0 := by rw [hv', hvm, h3]
  simp [execOp, ho, resolve, invoke, builtin, Builtin.len_, underlying, qcp ht, hA, goInt, hn, h4]
 .have hA : a.eval p = .slice (some ⟨g, 0, none⟩) l.length cap := by rw [hv', hvm, h3]
  simp [execOp, ho, resolve, invoke, builtin, Builtin.len_, underlying, qcp ht, hA, goInt, hn]
theorem qix1 {t u : TypeId} {p : Operand} {A : Option Addr} {n c : Nat} (ht : einfo P t = some u) (hp : ev p = .v (.slice A n c)) : FOp P ev σ (.call { callee := .builtin .len, args := #[p], argTypes := #[t] }) (.v (.int .i64 n)) none := FOp.of fun X a oper ho hS hsub hev => by
 have h := hev p (by simp [Op.operands, Call.operands])
 rw [hp, RR.v] at h
 refine ⟨_, ?_, RR.v.2 rfl⟩
 simp [execOp, ho, resolve, invoke, builtin, Builtin.len_, underlying, qcp ht, h, goInt]
theorem qiw1 {t : TypeId} {p : Operand} {b : ByteArray} (ht : P.underlying t = some .string) (hp : ev p = .v (.string b)) : FOp P ev σ (.call { callee := .builtin .len, args := #[p], argTypes := #[t] }) (.v (.int .i64 b.size)) none := FOp.of fun X a oper ho hS hsub hev => by
 have h := hev p (by simp [Op.operands, Call.operands])
 rw [hp, RR.v] at h
 refine ⟨_, ?_, RR.v.2 rfl⟩
 simp [execOp, ho, resolve, invoke, builtin, Builtin.len_, underlying, ht, h, goInt]
theorem qna1 {t u : TypeId} {p q : Operand} {k k2 : IntKind} {x y : Int} (hp : ev p = .v (.int k x)) (hq : ev q = .v (.int k2 y)) : FOp P ev σ (.call { callee := .builtin .min, args := #[p, q], argTypes := #[t, u] }) (.v (.int k (if y < x then y else x))) none := FOp.of fun X a oper ho hS hsub hev => by
 have h := hev p (by simp [Op.operands, Call.operands])
 have h2 := hev q (by simp [Op.operands, Call.operands])
 rw [hp, RR.v] at h; rw [hq, RR.v] at h2
 refine ⟨_, ?_, RR.v.2 rfl⟩
 simp [execOp, ho, resolve, invoke, builtin, Builtin.min_, h, h2, Builtin.min2]
theorem qmz1 {t u : TypeId} {p q : Operand} {k k2 : IntKind} {x y : Int} (hp : ev p = .v (.int k x)) (hq : ev q = .v (.int k2 y)) : FOp P ev σ (.call { callee := .builtin .max, args := #[p, q], argTypes := #[t, u] }) (.v (.int k (if x < y then y else x))) none := FOp.of fun X a oper ho hS hsub hev => by
 have h := hev p (by simp [Op.operands, Call.operands])
 have h2 := hev q (by simp [Op.operands, Call.operands])
 rw [hp, RR.v] at h; rw [hq, RR.v] at h2
 refine ⟨_, ?_, RR.v.2 rfl⟩
 simp [execOp, ho, resolve, invoke, builtin, Builtin.max_, h, h2, Builtin.max2]
def sun (op : UnOp) (x : Value) : Option Value :=
 match op, x with
 | .not, .bool b => some (.bool !b)
 | .neg, .int k n => some (.int k (k.wrap (0 - n)))
 | _, _ => none
theorem qqx1 {op : UnOp} {t : TypeId} {x : Operand} {u z : Value} (hx : ev x = .v u) (h : sun op u = some z) : FOp P ev σ (.unOp op t x) (.v z) none := FOp.of fun X a oper ho _ _ hev => by
 have h1 := hev x (by simp [Op.operands])
 rw [hx, RR.v] at h1
 refine ⟨z, ?_, RR.v.2 rfl⟩
 unfold sun at h
 split at h <;> first | (cases h; simp [execOp, ho, h1, Op.unary, Op.intArith]; done) | cases h
theorem qah1 {t : TypeId} {x i : Operand} {b : ByteArray} {ik : IntKind} {k : Int} (ht : P.underlying t = some .string) (hx : ev x = .v (.string b)) (hi : ev i = .v (.int ik k)) (h0 : 0 <= k) (h1 : k < b.size) :
  FOp P ev σ (.index t x i) (.v (.int .u8 (b.data.getD k.toNat 0).toNat)) none := FOp.of fun X a oper ho _ _ hev => by
 have h2 := hev x (by simp [Op.operands])
 have h3 := hev i (by simp [Op.operands])
 rw [hx, RR.v] at h2; rw [hi, RR.v] at h3
 refine ⟨_, ?_, RR.v.2 rfl⟩
 have hk : k.toNat < b.size := by omega
 have hk2 : k.toNat < b.data.size := hk
 have : b[k.toNat]? = some (b.data.getD k.toNat 0) := by
  rw [getElem?_pos b k.toNat hk]
  simp only [Array.getD, dif_pos hk2]; rfl
 simp [execOp, ho, h2, h3, Instr.index, asIntOf, underlying, ht, h0, this]
def bnd (ev : Operand -> AV) (o : Option Operand) (d l : Nat) : Prop :=
 match o with
 | none => l = d
 | some o => ∃ k, ev o = .v (.int k (l : Int))
def bndV (a : Act) (o : Option Operand) (d l : Nat) : Prop :=
 match o with
 | none => l = d
 | some o => ∃ k, a.eval o = .int k (l : Int)
theorem qpo {X : St} {a : Act} {o : Option Operand} {d l : Nat} (h : ∀ y, o = some y -> RR X (ev y) (a.eval y)) (hb : bnd ev o d l) : bndV a o d l := by
 unfold bnd at hb; unfold bndV
 cases o with
 | none => exact hb
 | some y =>
  obtain ⟨k, hk⟩ := hb
  have := h y rfl
  rw [hk, RR.v] at this
  exact ⟨k, this⟩
theorem qan1 {t : TypeId} {x : Operand} {lo hi : Option Operand} {b : ByteArray} {l h : Nat} (ht : P.underlying t = some .string) (hx : ev x = .v (.string b))
  (hlo : bnd ev lo 0 l) (hhi : bnd ev hi b.size h) (h1 : l <= h) (h2 : h <= b.size) :
  FOp P ev σ (.slice t x lo hi none) (.v (.string (b.extract l h))) none := FOp.of fun X a oper ho _ _ hev => by
 have hx2 := hev x (by simp [Op.operands])
 rw [hx, RR.v] at hx2
 refine ⟨_, ?_, RR.v.2 rfl⟩
 have hl : bndV a lo 0 l := qpo (fun o h => hev o (by simp [Op.operands, h])) hlo
 have hh : bndV a hi b.size h := qpo (fun o h => hev o (by simp [Op.operands, h])) hhi
 unfold bndV at hl hh
 cases lo with
 | none =>
  dsimp only at hl; subst hl
  cases hi with
  | none =>
   dsimp only at hh; subst hh
   simp [execOp, ho, hx2, Instr.sliceAt, underlying, ht, Instr.slice, Instr.sliceBounds]
  | some y =>
   obtain ⟨k, hy⟩ := hh
   simp [execOp, ho, hx2, Instr.sliceAt, underlying, ht, Instr.slice, Instr.sliceBounds, Instr.sliceBound, hy, asIntOf, h2]
 | some z =>
  obtain ⟨k, hz⟩ := hl
  cases hi with
  | none =>
   dsimp only at hh; subst hh
   simp [execOp, ho, hx2, Instr.sliceAt, underlying, ht, Instr.slice, Instr.sliceBounds, Instr.sliceBound, hz, asIntOf, h1]
  | some y =>
   obtain ⟨k2, hy⟩ := hh
   simp [execOp, ho, hx2, Instr.sliceAt, underlying, ht, Instr.slice, Instr.sliceBounds, Instr.sliceBound, hz, hy, asIntOf, h1, h2]
theorem qoc {t e : TypeId} {x : Operand} {lo hi : Option Operand} {L : List AV} {ag : Bool} {sz l h : Nat} (ht : einfo P t = some e) (hs : tinfo P e = some (ag, sz)) (hx : (ev x).list = some L) (hw : ∀ y ∈ L, y.width = sz)
  (hlo : bnd ev lo 0 l) (hhi : bnd ev hi L.length h) (h1 : l <= h) (h2 : h <= L.length) :
  FOp P ev σ (.slice t x lo hi none) (.sl ((L.take h).drop l)) none := FOp.of fun X a oper ho _ _ hev => by
 have hx2 := hev x (by simp [Op.operands])
 obtain ⟨A, cap, b, off, hv', hc1, hc2, hA, hm⟩ := RR.list hx hx2
 have hl : bndV a lo 0 l := qpo (fun o h => hev o (by simp [Op.operands, h])) hlo
 have hh : bndV a hi L.length h := qpo (fun o h => hev o (by simp [Op.operands, h])) hhi
 unfold bndV at hl hh
 have hhc : h <= cap := by omega
 have hrun : (execOp a.eval oper).run P X.w = .ok (.value (.slice (if cap = l then A else A.map (·.add (l * sz))) (h - l) (cap - l))) X.w := by
  have hu := qcp ht
  have hsz := (qbs hs X.w).2
  cases lo with
  | none =>
   dsimp only at hl; subst hl
   cases hi with
   | none =>
    dsimp only at hh; subst hh
    simp [execOp, ho, hv', Instr.sliceAt, underlying, hu, Instr.slice, Instr.sliceBounds, hsz]
   | some y =>
    obtain ⟨k, hy⟩ := hh
    simp [execOp, ho, hv', Instr.sliceAt, underlying, hu, Instr.slice, Instr.sliceBounds, Instr.sliceBound, hy, asIntOf, hhc, hsz]
  | some z =>
   obtain ⟨k, hz⟩ := hl
   cases hi with
   | none =>
    dsimp only at hh; subst hh
    simp [execOp, ho, hv', Instr.sliceAt, underlying, hu, Instr.slice, Instr.sliceBounds, Instr.sliceBound, hz, asIntOf, h1, hsz]
   | some y =>
    obtain ⟨k2, hy⟩ := hh
    simp [execOp, ho, hv', Instr.sliceAt, underlying, hu, Instr.slice, Instr.sliceBounds, Instr.sliceBound, hz, hy, asIntOf, h1, hhc, hsz]
 refine ⟨_, hrun, ?_⟩
 show RC X (.sl _) [_]
 rw [RC]
 have hlen : ((L.take h).drop l).length = h - l := by simp; omega
 refine ⟨if cap = l then A else A.map (·.add (l * sz)), cap - l, b, off + l * sz, by rw [hlen], by omega, by omega, fun hp => ?_, ?_⟩
 .rw [hlen] at hp
  obtain rfl := hA (by omega)
  rw [if_neg (by omega)]
  simp [qbd]
 .exact (hm.take h).drop l (fun y hy => hw y (List.mem_of_mem_take hy))
def St.born (X : St) (r : Nat) (ab : AB) (cs : Array Value) (t : TypeId) (v : Value) : St := { w := X.w.alloc (.cells cs t), μ := upd X.μ r v, S := X.S, σ := upd X.σ r ab }
theorem qkl {X : St} {r : Nat} {ab : AB} {cs : Array Value} {t : TypeId} {v : Value} {k b : Nat} (hv : ab.blk v = some X.w.heap.size) (h : (X.born r ab cs t v).blk k = some b) : (k = r /\ b = X.w.heap.size) \/ (k ≠ r /\ X.blk k = some b) := by
 unfold St.blk St.born upd at h
 dsimp only at h
 by_cases hk : k = r
 .rw [if_pos hk, if_pos hk, hv] at h; cases h; exact .inl ⟨hk, rfl⟩
 .rw [if_neg hk, if_neg hk] at h; exact .inr ⟨hk, h⟩
theorem SR.lt {X : St} (hS : SR X) {r b : Nat} (h : X.blk r = some b) : b < X.w.heap.size := by
 have hb := hS.block r
 unfold St.blk at h
 cases hr : X.σ r with
 | cells cs t =>
  rw [hr] at hb h
  obtain ⟨b', vs, hm, hh, -⟩ := hb
  rw [hm] at h; cases h
  exact (Array.getElem?_eq_some_iff.1 hh).1
 | vec l e s =>
  rw [hr] at hb h
  obtain ⟨-, xs, hown, -⟩ := hb
  exact (hown.lt b h).2
 | tail n e s =>
  rw [hr] at hb h
  obtain ⟨⟨xs, hown⟩, -⟩ := hb
  exact (hown.lt b h).2
 | obj I =>
  rw [hr] at hb h
  obtain ⟨b', o, hm, hh, -⟩ := hb
  rw [hm] at h
  have : b' = b := Option.some.inj h
  subst this
  exact (Array.getElem?_eq_some_iff.1 hh).1
 | buf cs e =>
  rw [hr] at hb h
  obtain ⟨b', hm, hh⟩ := hb
  rw [hm] at h
  have : b' = b := Option.some.inj h
  subst this
  exact (Array.getElem?_eq_some_iff.1 hh).1
 | susp b' o t a =>
  rw [hr] at hb h
  obtain ⟨hm, hh, -⟩ := hb
  rw [hm] at h
  have : b' = b := Option.some.inj h
  subst this
  exact (Array.getElem?_eq_some_iff.1 hh).1
 | dead => rw [hr] at h; cases h
 | unborn => rw [hr] at h; cases h
theorem qfz {X : St} (hS : SR X) {r : Nat} {ab : AB} {cs : Array Value} {t : TypeId} {v : Value} (hu : X.σ r = .unborn) (hv : ab.blk v = some X.w.heap.size) : Fr X (X.born r ab cs t v) where
 os := rfl
 tape := rfl
 output := rfl
 size := by simp [St.born]
 keep := fun b hb _ => Below.heap_alloc _ _ _ hb
 keepS := fun b o h => World.cell?_of_block (Below.heap_alloc _ _ _ (hS.old b o h))
 more := fun _ _ h => h
 less := fun _ _ h => .inl h
 ver := fun k => by
  by_cases hk : k = r
  .subst hk; unfold Ver; rw [hu]; trivial
  .have h1 : (X.born r ab cs t v).σ k = X.σ k := by simp [St.born, upd, hk]
   have h2 : (X.born r ab cs t v).μ k = X.μ k := by simp [St.born, upd, hk]
   have := (Fr.refl X).ver k
   unfold Ver at this ⊢
   rw [h1, h2]; exact this
 own := fun k b hb => by
  rcases qkl hv hb with ⟨-, rfl⟩ | ⟨-, h⟩
  .exact .inl (Nat.le_refl _)
  .exact .inr ⟨k, h⟩
theorem BR.fr {X Y : St} (hS : SR X) (h : Fr X Y) {r : Nat} (h1 : Y.σ r = X.σ r) (h2 : Y.μ r = X.μ r) (hk : ∀ b, X.blk r = some b -> Y.w.heap[b]? = X.w.heap[b]?) : BR Y (Y.σ r) (Y.μ r) := by
 have hb := hS.block r
 rw [h1, h2]
 cases hr : X.σ r with
 | cells cs t =>
  rw [hr] at hb
  obtain ⟨b, vs, hm, hh, hc⟩ := hb
  exact ⟨b, vs, hm, (hk b (by unfold St.blk; rw [hr, hm]; rfl)).trans hh, R1s.fr h _ _ hc⟩
 | vec l e s =>
  rw [hr] at hb
  obtain ⟨hw, xs, hown, hc⟩ := hb
  refine ⟨hw, xs, ⟨hown.1, ?_⟩, RCs.fr h _ _ hc⟩
  rcases hown.2 with h3 | ⟨g, cap, cur, h3, h4, h5, h6⟩
  .exact .inl h3
  .refine .inr ⟨g, cap, cur, h3, h4, (hk g ?_).trans h5, h6⟩
   unfold St.blk; rw [hr, h3]; rfl
 | tail n e s =>
  rw [hr] at hb
  obtain ⟨⟨xs, hown⟩, h0⟩ := hb
  refine ⟨⟨xs, hown.1, ?_⟩, fun hn => ?_⟩
  .rcases hown.2 with h3 | ⟨g, cap, cur, fz, h3, h4, h5, h6⟩
   .exact .inl h3
   .refine .inr ⟨g, cap, cur, fz, h3, h4, (hk g ?_).trans h5, h6⟩
    unfold St.blk; rw [hr, h3]; rfl
  .obtain ⟨xs, hown⟩ := h0 hn
   refine ⟨xs, hown.1, ?_⟩
   rcases hown.2 with h3 | ⟨g, cap, cur, h3, h4, h5, h6⟩
   .exact .inl h3
   .refine .inr ⟨g, cap, cur, h3, h4, (hk g ?_).trans h5, h6⟩
    unfold St.blk; rw [hr, h3]; rfl
 | obj I =>
  rw [hr] at hb
  obtain ⟨b, o, hm, hh, hc⟩ := hb
  exact ⟨b, o, hm, (hk b (by unfold St.blk; rw [hr, hm]; rfl)).trans hh, hc⟩
 | buf cs e =>
  rw [hr] at hb
  obtain ⟨b, hm, hh⟩ := hb
  exact ⟨b, hm, (hk b (by unfold St.blk; rw [hr, hm]; rfl)).trans hh⟩
 | susp b o t a =>
  rw [hr] at hb
  obtain ⟨hm, hh, hc⟩ := hb
  exact ⟨hm, (hk b (by unfold St.blk; rw [hr, hm]; rfl)).trans hh, fun d => (hc d).fr h⟩
 | dead => trivial
 | unborn => trivial
theorem qje {X : St} (hS : SR X) {r : Nat} {ab : AB} {cs : Array Value} {t : TypeId} {v : Value} (hu : X.σ r = .unborn) (hv : ab.blk v = some X.w.heap.size) (hbr : BR (X.born r ab cs t v) ab v) : SR (X.born r ab cs t v) where
 block := fun k => by
  by_cases hk : k = r
  .subst hk
   have h1 : (X.born k ab cs t v).σ k = ab := by simp [St.born, upd]
   have h2 : (X.born k ab cs t v).μ k = v := by simp [St.born, upd]
   rw [h1, h2]; exact hbr
  .refine BR.fr hS (qfz hS hu hv) (by simp [St.born, upd, hk]) (by simp [St.born, upd, hk]) fun b hb => Below.heap_alloc _ _ _ (hS.lt hb)
 alone := fun k k' b h1 h2 => by
  rcases qkl hv h1 with ⟨rfl, rfl⟩ | ⟨hk, h3⟩ <;> rcases qkl hv h2 with ⟨rfl, h4⟩ | ⟨hk', h4⟩
  .rfl
  .have := hS.lt h4; omega
  .have := hS.lt h3; omega
  .exact hS.alone k k' b h3 h4
 apart := fun k b o h1 h2 => by
  rcases qkl hv h1 with ⟨rfl, rfl⟩ | ⟨hk, h3⟩
  .exact absurd (hS.old _ _ h2) (Nat.lt_irrefl _)
  .obtain ⟨n, e, s, h4, h5⟩ := hS.apart k b o h3 h2
   exact ⟨n, e, s, by simp [St.born, upd, hk, h4], h5⟩
 old := fun b o hb => Nat.lt_of_lt_of_le (hS.old b o hb) (by simp [St.born])
 glob := hS.glob.mono fun _ _ _ hc => hc.fr (qfz hS hu hv)
def AV.cells : AV -> List AV
 | .agg l => l
 | x => [x]
def AV.sure : AV -> Bool
 | .agg _ => true
 | .any => false
 | x => x.one
theorem qfi {X : St} {x : AV} {v : Value} (h : RR X x v) (hs : x.sure = true) : R1s X x.cells v.cells.toList := by
 have key : ∀ z : AV, z.one = true -> RC X z [v] -> R1s X [z] v.cells.toList := fun z h0 hz => by
  have h1 := RC.oneCell h0 hz
  have : v.cells = #[v] := by cases v <;> first | rfl | (simp [Value.oneCell'] at h1; done)
  rw [this, R1s]
  exact ⟨v, [], rfl, h0, hz, by rw [R1s]⟩
 cases x with
 | agg l => obtain ⟨vs, rfl, h⟩ := h; simpa [AV.cells, Value.cells] using h
 | any => cases hs
 | tup l => cases hs
 | v y => exact key _ hs h
 | _ => exact key _ rfl h
theorem qmx1 {t : TypeId} {x : Operand} {r : Nat} (hs : (ev x).sure = true) : FOp P ev σ (.box t x) (.ptr r 0) (some (r, .cells (ev x).cells t)) := by
 intro X a oper ho hS hsub hev hnb Q
 have hu := hnb r _ rfl
 have h := qfi (hev x (by simp [Op.operands])) hs
 have hrun : (execOp a.eval oper).run P X.w = .ok (.value (.pointer (some ⟨X.w.heap.size, 0, none⟩))) (X.w.alloc (.cells (a.eval x).cells t)) := by
  simp [execOp, ho, Instr.box, newVar, newRow]
 have hv : (AB.cells (ev x).cells t).blk (.pointer (some ⟨X.w.heap.size, 0, none⟩)) = some X.w.heap.size := rfl
 have hfr := qfz hS (cs := (a.eval x).cells) (t := t) hu hv
 refine qbi hrun ⟨_, X.born r (.cells (ev x).cells t) (a.eval x).cells t (.pointer (some ⟨X.w.heap.size, 0, none⟩)), rfl, rfl, qje hS hu hv ?_, hfr, ?_, rfl⟩
 .refine ⟨X.w.heap.size, (a.eval x).cells.toList, rfl, ?_, R1s.fr hfr _ _ h⟩
  exact heap_alloc_new X.w _
 .show RC _ (.ptr r 0) [_]
  rw [RC]
  exact ⟨⟨_, _, by simp [St.born, upd]; exact ⟨rfl, rfl⟩⟩, X.w.heap.size, by simp [St.born, upd], rfl⟩
theorem qdj1 {t : TypeId} {r : Nat} {z : Value} (hz : zinfo P t = some z) (h1 : ∀ v ∈ z.cells.toList, v.oneCell' = true) : FOp P ev σ (.alloc t) (.ptr r 0) (some (r, .cells (z.cells.toList.map .v) t)) := by
 intro X a oper ho hS hsub hev hnb Q
 have hu := hnb r _ rfl
 have h : R1s X (z.cells.toList.map .v) z.cells.toList := by
  have : ∀ l : List Value, (∀ v ∈ l, v.oneCell' = true) -> R1s X (l.map .v) l := fun l => by
   induction l with
   | nil => intro _; rw [List.map_nil, R1s]
   | cons v l ih => intro hl; rw [List.map_cons, R1s]; exact ⟨v, l, rfl, hl v (by simp), by rw [RC], ih fun v hv => hl v (by simp [hv])⟩
  exact this _ h1
 have hrun : (execOp a.eval oper).run P X.w = .ok (.value (.pointer (some ⟨X.w.heap.size, 0, none⟩))) (X.w.alloc (.cells z.cells t)) := by
  unfold zinfo at hz
  cases hi : P.info? t with
  | none => rw [hi] at hz; cases hz
  | some i =>
   rw [hi] at hz
   have hz' : i.zero = some z := hz
   simp [execOp, ho, Instr.alloc, zeroValue, typeInfo, hi, hz', newVar, newRow]
 have hv : (AB.cells (z.cells.toList.map .v) t).blk (.pointer (some ⟨X.w.heap.size, 0, none⟩)) = some X.w.heap.size := rfl
 have hfr := qfz hS (cs := z.cells) (t := t) hu hv
 refine qbi hrun ⟨_, X.born r (.cells (z.cells.toList.map .v) t) z.cells t (.pointer (some ⟨X.w.heap.size, 0, none⟩)), rfl, rfl, qje hS hu hv ?_, hfr, ?_, rfl⟩
 .refine ⟨X.w.heap.size, z.cells.toList, rfl, ?_, R1s.fr hfr _ _ h⟩
  exact heap_alloc_new X.w _
 .show RC _ (.ptr r 0) [_]
  rw [RC]
  exact ⟨⟨_, _, by simp [St.born, upd]; exact ⟨rfl, rfl⟩⟩, X.w.heap.size, by simp [St.born, upd], rfl⟩
end
end Go.Proofs.YtkedbjjfmejbhaaGreatDoor
namespace Go.Proofs.YtkedbjjfmejbhaaGreatDoor
open Go.RowKit Go.Lib
def St.turn (X : St) (w : World) (S : Nat -> Nat -> Prop) (r : Nat) (ab : AB) (v : Value) : St := { w := w, μ := upd X.μ r v, S := S, σ := upd X.σ r ab }
section
variable {X : St} {w : World} {S : Nat -> Nat -> Prop} {r : Nat} {ab : AB} {v : Value}
theorem qkv {k b : Nat} (h : (X.turn w S r ab v).blk k = some b) : (k = r /\ ab.blk v = some b) \/ (k ≠ r /\ X.blk k = some b) := by
 unfold St.blk St.turn upd at h
 dsimp only at h
 by_cases hk : k = r
 .rw [if_pos hk, if_pos hk] at h; exact .inl ⟨hk, h⟩
 .rw [if_neg hk, if_neg hk] at h; exact .inr ⟨hk, h⟩
structure Turns (X : St) (w : World) (S : Nat -> Nat -> Prop) (r : Nat) (ab : AB) (v : Value) : Prop where
 grown : X.w.grownBy w (X.blk r)
 blk : ∀ b, ab.blk v = some b -> X.blk r = some b \/ X.w.heap.size <= b
 ver : Ver X (X.turn w S r ab v) r
 keepS : ∀ b o, X.blk r = some b -> X.S b o -> w.cell? ⟨b, o, none⟩ = X.w.cell? ⟨b, o, none⟩
 more : ∀ b o, X.S b o -> S b o
 less : ∀ b o, S b o -> X.S b o \/ ab.blk v = some b
 apart : ∀ b o, ab.blk v = some b -> S b o -> ∃ n e s, ab = .tail n e s /\ o < n * s
 old : ∀ b, ab.blk v = some b -> b < w.heap.size
theorem qhy (hS : SR X) (h : Turns X w S r ab v) : Fr X (X.turn w S r ab v) where
 os := h.grown.os
 tape := h.grown.tape
 output := h.grown.output
 size := h.grown.size
 keep := fun b hb hn => h.grown.block b hb fun e => hn r e.symm
 keepS := fun b o hb => by
  by_cases hbr : X.blk r = some b
  .exact h.keepS b o hbr hb
  .exact World.cell?_of_block (a := ⟨b, o, none⟩) (h.grown.block b (hS.old b o hb) fun e => hbr e.symm)
 more := h.more
 less := fun b o hb => by
  rcases h.less b o hb with h1 | h1
  .exact .inl h1
  .rcases h.blk b h1 with h2 | h2
   .exact .inr (.inr ⟨r, h2⟩)
   .exact .inr (.inl h2)
 ver := fun k => by
  by_cases hk : k = r
  .rw [hk]; exact h.ver
  .have h1 : (X.turn w S r ab v).σ k = X.σ k := by simp [St.turn, upd, hk]
   have h2 : (X.turn w S r ab v).μ k = X.μ k := by simp [St.turn, upd, hk]
   have := (Fr.refl X).ver k
   unfold Ver at this ⊢
   rw [h1, h2]; exact this
 own := fun k b hk => by
  rcases qkv hk with ⟨rfl, h1⟩ | ⟨-, h1⟩
  .rcases h.blk b h1 with h1 | h1
   .exact .inr ⟨_, h1⟩
   .exact .inl h1
  .exact .inr ⟨k, h1⟩
theorem qpj1 (hS : SR X) (h : Turns X w S r ab v) (hbr : BR (X.turn w S r ab v) ab v) : SR (X.turn w S r ab v) where
 block := fun k => by
  by_cases hk : k = r
  .subst hk
   have h1 : (X.turn w S k ab v).σ k = ab := by simp [St.turn, upd]
   have h2 : (X.turn w S k ab v).μ k = v := by simp [St.turn, upd]
   rw [h1, h2]; exact hbr
  .exact BR.fr hS (qhy hS h) (by simp [St.turn, upd, hk]) (by simp [St.turn, upd, hk]) fun b hbk => h.grown.block b (hS.lt hbk) fun e => hk (hS.alone k r b hbk e.symm)
 alone := fun k k' b h1 h2 => by
  rcases qkv h1 with ⟨rfl, h3⟩ | ⟨hk, h3⟩ <;> rcases qkv h2 with ⟨rfl, h4⟩ | ⟨hk', h4⟩
  .rfl
  .rcases h.blk b h3 with h5 | h5
   .exact absurd (hS.alone _ _ b h4 h5) hk'
   .have := hS.lt h4; omega
  .rcases h.blk b h4 with h5 | h5
   .exact absurd (hS.alone _ _ b h3 h5) hk
   .have := hS.lt h3; omega
  .exact hS.alone k k' b h3 h4
 apart := fun k b o h1 h2 => by
  rcases qkv h1 with ⟨rfl, h3⟩ | ⟨hk, h3⟩
  .obtain ⟨n, e, s, rfl, h4⟩ := h.apart b o h3 h2
   exact ⟨n, e, s, by simp [St.turn, upd], h4⟩
  .rcases h.less b o h2 with h4 | h4
   .obtain ⟨n, e, s, h5, h6⟩ := hS.apart k b o h3 h4
    exact ⟨n, e, s, by simp [St.turn, upd, hk, h5], h6⟩
   .rcases h.blk b h4 with h5 | h5
    .exact absurd (hS.alone _ _ b h3 h5) hk
    .have := hS.lt h3; omega
 old := fun b o hb => by
  rcases h.less b o hb with h1 | h1
  .exact Nat.lt_of_lt_of_le (hS.old b o h1) h.grown.size
  .exact h.old b h1
 glob := hS.glob.mono fun _ _ _ hc => hc.fr (qhy hS h)
end
def EOp (P : Program) (s : AS) (o : Op) (K : AV -> AS -> Prop) : Prop :=
 ∀ (X0 : St) (a : Act) (w : World) (X : St) (oper : Oper), oper.op = o -> Con X0 s a w X -> ∀ Q,
  OwpA P oper a w (fun a' w' => ∃ v x s1 X', a' = a.put oper.dst v /\ K x s1 /\ Con X0 s1 a w' X' /\ RR X' x v) Q
def AS.ext (s : AS) (nb : Option AB) : AS :=
 match nb with
 | none => s
 | some ab => { s with L := s.L ++ [ab] }
def AS.set (s : AS) (r : Nat) (ab : AB) : AS := if r < s.n0 then { s with σ := upd s.σ r ab } else { s with L := s.L.set (r - s.n0) ab }
theorem qkr (σ : Nat -> AB) (n0 : Nat) (L : List AB) (ab : AB) : upd (loc σ n0 L) (n0 + L.length) ab = loc σ n0 (L ++ [ab]) := by
 funext r
 unfold upd loc
 by_cases h : r = n0 + L.length
 .subst h
  rw [if_pos rfl, if_neg (by omega), Nat.add_sub_cancel_left, List.getD_eq_getElem?_getD, List.getElem?_append_right (Nat.le_refl _)]; simp
 .rw [if_neg h]
  split
  .rfl
  .rw [List.getD_eq_getElem?_getD, List.getD_eq_getElem?_getD, List.getElem?_append]
   split
   .rfl
   .rw [List.getElem?_eq_none (by omega), List.getElem?_eq_none (by simp; omega)]
theorem AS.set_st (s : AS) (r : Nat) (ab : AB) (h : r < s.nx) : (s.set r ab).st = upd s.st r ab := by
 unfold AS.nx at h
 funext k
 unfold AS.set
 by_cases hr : r < s.n0
 .rw [if_pos hr]
  unfold AS.st loc upd
  dsimp only
  by_cases hk : k = r
  .subst hk; rw [if_pos hr, if_pos rfl, if_pos rfl]
  .rw [if_neg hk, if_neg hk]
 .rw [if_neg hr]
  unfold AS.st loc upd
  dsimp only
  by_cases hk : k = r
  .subst hk
   rw [if_neg hr, if_pos rfl, List.getD_eq_getElem?_getD, List.getElem?_set_self (by omega)]; rfl
  .rw [if_neg hk]
   split
   .rfl
   .rw [List.getD_eq_getElem?_getD, List.getD_eq_getElem?_getD, List.getElem?_set_ne (by omega)]
theorem AS.set_nx (s : AS) (r : Nat) (ab : AB) : (s.set r ab).n = s.n /\ (s.set r ab).n0 = s.n0 /\ (s.set r ab).t = s.t := by
 unfold AS.set; split <;> simp
section
variable {P : Program} {s : AS}
theorem qhs {o : Op} {x : AV} {nb : Option AB} {K : AV -> AS -> Prop} (h : FOp P s.eval s.st o x (nb.map (s.nx, ·))) (hK : K x (s.ext nb)) : EOp P s o K := by
 intro X0 a w X oper ho hc Q
 have hw := hc.w
 subst hw
 refine OwpA.mono ?_ (h X a oper ho hc.sr (fun r hr => .inl (by rw [hc.σ])) (fun y _ => hc.eval y) (fun r ab hr => ?_) Q)
 .rintro a' w' ⟨v, Y, rfl, rfl, hS, hF, hR, hσ⟩
  refine ⟨v, x, _, Y, rfl, hK, ?_, hR⟩
  cases nb with
  | none =>
   have hσ' : Y.σ = X.σ := hσ
   exact ⟨rfl, hσ'.trans hc.σ, hS, hc.fr.trans hF, hc.size, fun d => (hc.regs d).fr hF, hc.defers, hc.fin⟩
  | some ab =>
   have hσ' : Y.σ = upd X.σ s.nx ab := hσ
   refine ⟨rfl, ?_, hS, hc.fr.trans hF, hc.size, fun d => (hc.regs d).fr hF, hc.defers, hc.fin⟩
   rw [hσ', hc.σ]
   exact qkr s.σ s.n0 s.L ab
 .cases nb with
  | none => cases hr
  | some ab' => cases hr; rw [hc.σ]; exact s.fin _ (Nat.le_refl _)
theorem qgt {X0 X : St} {a : Act} {w : World} {S : Nat -> Nat -> Prop} {r : Nat} {ab : AB} {v : Value} (hc : Con X0 s a X.w X) (hr : s.st r ≠ .unborn) (ht : Turns X w S r ab v) (hbr : BR (X.turn w S r ab v) ab v) : Con X0 (s.set r ab) a w (X.turn w S r ab v) := by
 have hlt : r < s.nx := Nat.lt_of_not_le fun h => hr (s.fin r h)
 have hf := qhy hc.sr ht
 obtain ⟨e1, e2, e3⟩ := s.set_nx r ab
 refine ⟨rfl, ?_, qpj1 hc.sr ht hbr, hc.fr.trans hf, by rw [e1]; exact hc.size, fun d => by rw [e3]; exact (hc.regs d).fr hf, hc.defers, by rw [e2]; exact hc.fin⟩
 show upd X.σ r ab = _
 rw [hc.σ, AS.set_st _ _ _ hlt]
def qer (cs : List AV) (off : Nat) (xs : List AV) : List AV := cs.take off ++ xs ++ cs.drop (off + xs.length)
theorem qki (w : World) (g : Nat) (c : Array Value) : w.grownBy (w.setRow g c) (some g) := ⟨rfl, rfl, rfl, by simp, fun k _ hk => setRow_other w g k _ (fun e => hk (by rw [e]))⟩
theorem qkj {t : TypeId} {ag : Bool} {n : Nat} (ht : tinfo P t = some (ag, n)) {w : World} {b off : Nat} {cur : Array Value} {et : TypeId} {v : Value} (hg : w.heap[b]? = some (.cells cur et (0, 0))) (hn : v.cells.size = n) (hl : off + n <= cur.size) (h1 : ∀ u ∈ v.cells.toList, u.oneCell' = true) :
  (storeVar t ⟨b, off, none⟩ v).run P w = .ok () (w.setRow b (cur.toList.take off ++ v.cells.toList ++ cur.toList.drop (off + n)).toArray) := by
 have := run_storeCells_at (P := P) b off et v.cells.toList 0 cur w hg (by simp; omega) h1
 simp only [Nat.add_zero, Array.length_toList, hn] at this
 simp [storeVar, (qbs ht w).2, hn, this]
theorem qsn1 {X : St} {r b : Nat} {cs : List AV} {et : TypeId} (hX : X.σ r = .cells cs et) (hm : X.μ r = .pointer (some ⟨b, 0, none⟩)) (hbr : X.blk r = some b) (hS : SR X) (c : Array Value) (c2 : List AV) (hlt : b < X.w.heap.size) :
  Turns X (X.w.setRow b c) X.S r (.cells c2 et) (.pointer (some ⟨b, 0, none⟩)) where
 grown := by rw [hbr]; exact qki _ _ _
 blk := fun b2 h => .inl (by rw [hbr]; exact h)
 ver := by
  unfold Ver
  rw [hX]
  exact ⟨⟨c2, by simp [St.turn, upd]⟩, by simp [St.turn, upd, hm]⟩
 keepS := fun b2 o h1 h2 => by
  obtain ⟨n, e, s, h3, -⟩ := hS.apart r b2 o h1 h2
  rw [hX] at h3; cases h3
 more := fun _ _ h => h
 less := fun _ _ h => .inl h
 apart := fun b2 o h1 h2 => by
  obtain ⟨n, e, s, h3, -⟩ := hS.apart r b2 o (by rw [hbr]; exact h1) h2
  rw [hX] at h3; cases h3
 old := fun b2 h => by cases h; simpa using hlt
theorem qcy1 {t : TypeId} {p y : Operand} {r off : Nat} {cs : List AV} {et : TypeId} {ag : Bool} {n : Nat} {K : AV -> AS -> Prop} (ht : tinfo P t = some (ag, n)) (hp : s.eval p = .ptr r off) (hσ : s.st r = .cells cs et) (hs : (s.eval y).sure = true) (hn : (s.eval y).cells.length = n) (hl : off + n <= cs.length)
  (hK : K .any (s.set r (.cells (qer cs off (s.eval y).cells) et))) : EOp P s (.store t p y) K := by
 intro X0 a w X oper ho hc Q
 have hw := hc.w
 subst hw
 have h1 := hc.eval p
 have h2 := qfi (hc.eval y) hs
 rw [hp] at h1
 change RC X (.ptr r off) [a.eval p] at h1
 rw [RC] at h1
 obtain ⟨-, b, hm, hv⟩ := h1
 have hv' : a.eval p = .pointer (some ⟨b, off, none⟩) := by simpa using hv
 have hX : X.σ r = .cells cs et := by rw [hc.σ, hσ]
 have hB := hc.sr.block r
 rw [hX] at hB
 obtain ⟨b', vs, hm', hh, hr⟩ := hB
 rw [hm] at hm'; cases hm'
 have hlv := R1s.length _ _ hr
 have hly := R1s.length _ _ h2
 have hrun := qkj (P := P) ht (off := off) (v := a.eval y) hh (by simpa using hly.trans hn) (by simp; omega) (R1s.oneCell h2)
 have hbr : X.blk r = some b := by unfold St.blk; rw [hX, hm]; rfl
 have hsz := qsn1 (X := X) (r := r) (cs := cs) (et := et) (b := b) hX hm hbr hc.sr (vs.take off ++ (a.eval y).cells.toList ++ vs.drop (off + n)).toArray (qer cs off (s.eval y).cells) (by
  have := (Array.getElem?_eq_some_iff.1 hh).1; exact this)
 refine qrl (w' := X.w.setRow b (vs.take off ++ (a.eval y).cells.toList ++ vs.drop (off + n)).toArray) (by simp [execOp, ho, hv', Instr.storeAt, Instr.sureAddr, hrun])
  ⟨undef, .any, _, _, rfl, hK, qgt (v := .pointer (some ⟨b, 0, none⟩)) hc (by rw [hσ]; simp) hsz ?_, trivial⟩
 refine ⟨b, vs.take off ++ (a.eval y).cells.toList ++ vs.drop (off + n), rfl, setRow_heap _ _ _ _ _ _ hh, ?_⟩
 refine R1s.fr (qhy hc.sr hsz) _ _ ?_
 unfold qer
 rw [hn]
 exact ((hr.take off).append h2).append (hr.drop _)
end
end Go.Proofs.YtkedbjjfmejbhaaGreatDoor
