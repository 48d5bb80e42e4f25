/- Regions that draw their order, computed: what simp runs. -/
import Derived.KernelRfl
import Derived.WideShapes
import Derived.Laws.Strings
import Derived.Test.YtkedbjjfmejbhaaGreatDoorGe1
import Derived.Test.YtkedbjjfmejbhaaGreatDoorGe10
import Derived.Test.YtkedbjjfmejbhaaGreatDoorGe12
import Derived.Test.YtkedbjjfmejbhaaGreatDoorGe13
set_option linter.unusedSimpArgs false
set_option linter.unusedVariables false
namespace Go.Proofs.YtkedbjjfmejbhaaGreatDoor
open Go.RowKit Go.Lib
section
variable {P : Program}
theorem qec {s : AS} {o : Op} {x : AV} {τ : Nat -> AB} (h : ∀ s' : AS, (∀ y ∈ o.operands, s'.eval y = s.eval y) -> s'.st = s.st -> s'.nx = s.nx -> EOp P s' o (fun x1 s1 => x1 = x /\ s1.st = τ)) : WOp P s.eval s.st o x τ := by
 classical
 intro X a oper ho hS hd hσ hev Q
 let s' : AS := { n := a.tmps.size, t := fun d => if Operand.tmp d ∈ o.operands then s.t d else .any, σ := s.st, n0 := s.nx, L := [] }
 have hst : s'.st = s.st := by
  funext r
  show loc s.st s.nx [] r = s.st r
  unfold loc
  split
  .rfl
  .rw [s.fin r (by omega)]; rfl
 have he : ∀ y ∈ o.operands, s'.eval y = s.eval y := fun y hy => by
  cases y with
  | tmp d => exact if_pos hy
  | _ => rfl
 have hc : Con X s' a X.w X := ⟨rfl, by rw [hst, hσ], hS, Fr.refl X, rfl, fun d => by
  show RR X (if Operand.tmp d ∈ o.operands then s.t d else .any) _
  split
  .rename_i hy; exact hev _ hy
  .trivial, hd, by rw [hσ]; exact s.fin⟩
 refine OwpA.mono ?_ (h s' he hst rfl X a X.w X oper ho hc Q)
 rintro a' w' ⟨v, x1, s1, X', rfl, ⟨rfl, h2⟩, hc', hR⟩
 exact ⟨v, X', rfl, hc'.w, hc'.sr, hc'.fr, hR, by rw [hc'.σ, h2]⟩
def qng (P : Program) (f : FuncId) (args : List AV) (σ : Nat -> AB) (K : AV -> Prop) : Prop := ∃ x, qrn P f args σ x /\ K x
theorem qet {f : FuncId} {args : List AV} {σ : Nat -> AB} {K : AV -> Prop} {x : AV} (h : Gives P f args x) (hK : K x) : qng P f args σ K := ⟨x, h.s σ, hK⟩
theorem agH {f : FuncId} {args : List AV} {σ : Nat -> AB} {K : AV -> Prop} {x : AV} (hK : K x) (h : Gives P f args x := by assumption) : qng P f args σ K := qet h hK
def aevM (P : Program) (s : AS) (o : Op) (K : AV -> Option AB -> Prop) : Prop :=
 match o with
 | .call { callee := .value (.func f), args := ⟨args⟩, .. } => nts (args.map s.eval) = true /\ enters P f = true /\ qng P f ((args.map s.eval).map AV.pub) s.st (fun x => K x none)
 | .call { callee := .value (.tmp d), args := ⟨args⟩, .. } => match s.t d with
  | .fn f caps => nts (args.map s.eval) = true /\ enters P f = true /\ qng P f ((args.map s.eval).map AV.pub ++ caps) s.st (fun x => K x none)
  | _ => False
 | o => aevF P s o K
theorem qjc {s : AS} {o : Op} {K : AV -> Option AB -> Prop} (h : aevM P s o K) : ∃ x nb, FOp2 P s.eval s.st o x (nb.map (s.nx, ·)) /\ K x nb := by
 unfold aevM at h
 split at h
 .obtain ⟨h1, h2, x, h3, h4⟩ := h
  exact ⟨x, none, qdi1 h2 (qdm h1) h3, h4⟩
 .split at h
  .obtain ⟨h1, h2, x, h3, h4⟩ := h
   exact ⟨x, none, qad1 ‹_› h2 (qdm h1) h3, h4⟩
  .exact h.elim
 .obtain ⟨x, nb, h1, h2⟩ := qch h
  exact ⟨x, nb, h1.two, h2⟩
def AS.blind (m : List AB) (s : AS) : AS := { s with σ := fun _ => .unborn, L := m }
theorem qif1 (m : List AB) (s : AS) : (s.blind m).st = loc (fun _ => .unborn) s.n0 m := rfl
def qct : List AB -> List AB -> Prop
 | [], _ => True
 | .unborn :: m, L => qct m L.tail
 | ab :: m, L => L.head? = some ab /\ qct m L.tail
theorem qoj : ∀ {m L : List AB} {i : Nat} {ab : AB}, qct m L -> m[i]? = some ab -> ab ≠ .unborn -> L[i]? = some ab
 | [], _, _, _, _, h, _ => by simp at h
 | x :: m, L, i, ab, hk, h, hne => by
  have hh : (x ≠ .unborn -> L.head? = some x) /\ qct m L.tail := by
   cases x <;> simp_all [qct]
  cases i with
  | zero =>
   simp at h; subst h
   rw [<- List.head?_eq_getElem?]; exact hh.1 hne
  | succ i =>
   have := qoj hh.2 (by simpa using h) hne
   cases L with
   | nil => simp at this
   | cons y L => simpa using this
theorem qqk {m : List AB} {s : AS} {n0 : Nat} (hn : s.n0 = n0) (h : qct m s.L) : ∀ r, loc (fun _ => .unborn) n0 m r ≠ .unborn -> s.st r = loc (fun _ => .unborn) n0 m r := fun r hr => by
 subst hn
 show loc s.σ s.n0 s.L r = _
 unfold loc at hr ⊢
 by_cases hlt : r < s.n0
 .rw [if_pos hlt] at hr; exact absurd rfl hr
 .rw [if_neg hlt] at hr
  rw [if_neg hlt, if_neg hlt]
  rw [List.getD_eq_getElem?_getD] at hr
  cases hm : m[r - s.n0]? with
  | none => rw [hm] at hr; exact absurd rfl hr
  | some ab =>
   rw [hm] at hr
   rw [List.getD_eq_getElem?_getD, List.getD_eq_getElem?_getD, hm, qoj h hm hr]
theorem qju {s : AS} {o : Op} {x : AV} {nb : Option AB} (h : FOp P s.eval s.st o x (nb.map (s.nx, ·))) : WOp P s.eval s.st o x (s.ext nb).st := by
 intro X a oper ho hS _ hσ hev Q
 refine OwpA.mono ?_ (h X a oper ho hS (fun r hr => .inl (by rw [hσ])) hev (fun r ab hr => ?_) Q)
 .rintro a' w' ⟨v, Y, e1, e2, e3, e4, e5, e6⟩
  refine ⟨v, Y, e1, e2, e3, e4, e5, ?_⟩
  rw [e6]
  cases nb with
  | none => exact hσ
  | some ab => rw [(qes s ab).1, hσ]; rfl
 .cases nb with
  | none => cases hr
  | some ab => cases hr; rw [hσ]; exact s.fin _ (Nat.le_refl _)
def aevW (P : Program) (s : AS) (o : Op) (K : AV -> AS -> Prop) : Prop :=
 match o with
 | .store t p y => stC P s t p y K
 | .mapUpdate t m k y => match s.eval m with
  | .own r _ => match s.st r with
   | .obj I => AUpd P t I (s.eval k) (s.eval y) (fun I' => K .any (s.set r (.obj I')))
   | _ => False
  | _ => False
 | .call { callee := .value (.func f), args := ⟨args⟩, .. } => nts (args.map s.eval) = true /\ enters P f = true /\ ACall P f ((args.map s.eval).map AV.pub) s K
 | .call { callee := .value (.tmp d), args := ⟨args⟩, .. } => match s.t d with
  | .fn f caps => nts (args.map s.eval) = true /\ enters P f = true /\ ACall P f ((args.map s.eval).map AV.pub ++ caps) s K
  | _ => False
 | .call { callee := .builtin .append, args := ⟨[x, y]⟩, argTypes := ⟨[t, t']⟩ } => t' = t /\ (match vinfo P t with
  | some (e, sz, by_) => match s.eval x, s.eval y with
   | .gs r l, y => match s.st r, y.list with
    | .tail n e' sz', some ys => e' = e /\ sz' = sz /\ n = l.length /\ AV.wid l sz /\ AV.wid ys sz /\ AV.elms ys /\ (l.length + ys.length) * by_ <= 140737488355328 /\ K (.gs r (l ++ ys)) (s.set r (.tail (l.length + ys.length) e sz))
    | _, _ => False
   | .v (.slice none 0 0), y => match y.list with
    | some ys => 0 < ys.length /\ AV.wid ys sz /\ AV.elms ys /\ ys.length * by_ <= 140737488355328 /\ K (.gs s.nx ys) (s.ext (some (.tail ys.length e sz)))
    | none => False
   | _, _ => False
  | none => False)
 | .buildSlice t 0 ⟨[]⟩ => match vinfo P t with
  | some (e, sz, _) => K (.gs s.nx []) (s.ext (some (.tail 0 e sz)))
  | none => False
 | .indexAddr t p f => aevF P s (.indexAddr t p f) (fun x nb => K x (s.ext nb))
 | .load t p => aevF P s (.load t p) (fun x nb => K x (s.ext nb))
 | _ => False
theorem qfx1 {s : AS} {r : Nat} {ab : AB} (h : s.st r = ab) (hne : ab ≠ .unborn) : r < s.nx := Nat.lt_of_not_le fun hle => hne (h.symm.trans (s.fin r hle))
theorem qgo {s : AS} {o : Op} {K : AV -> AS -> Prop} (h : aevW P s o K) : ∃ x s1, WOp P s.eval s.st o x s1.st /\ (s1.t = s.t /\ s1.n = s.n /\ s1.n0 = s.n0) /\ K x s1 := by
 unfold aevW at h
 split at h
 .rename_i t p y
  obtain ⟨s1, h1, h2, h3⟩ := qsm1 h
  exact ⟨.any, s1, qec fun s' he hst hnx => quc (h3 s' (he p (by simp [Op.operands])) (he y (by simp [Op.operands])) hst hnx), h1, h2⟩
 .rename_i t m k y
  split at h
  .rename_i r n hm
   split at h
   .rename_i I hσ
    obtain ⟨h1, I', h2, h3⟩ := h
    have hr := qfx1 hσ (by simp)
    refine ⟨.any, _, qec fun s' he hst hnx => ?_, ⟨(s.set_nx r _).2.2, (s.set_nx r _).1, (s.set_nx r _).2.1⟩, h3⟩
    have em := he m (by simp [Op.operands])
    have ek := he k (by simp [Op.operands])
    have ey := he y (by simp [Op.operands])
    refine qfj (.inl rfl) (by rw [em]; exact hm) (by rw [hst]; exact hσ) h1 (by rw [ek, ey]; exact h2) ⟨rfl, ?_⟩
    rw [AS.set_st _ _ _ (by rw [hnx]; exact hr), AS.set_st _ _ _ hr, hst]
   .exact h.elim
  .exact h.elim
 .obtain ⟨h1, h2, x, s1, h3, h4, h5⟩ := h
  exact ⟨x, s1, qky1 h2 (qdm h1) h3, h4, h5⟩
 .split at h
  .obtain ⟨h1, h2, x, s1, h3, h4, h5⟩ := h
   exact ⟨x, s1, qhr1 ‹_› h2 (qdm h1) h3, h4, h5⟩
  .exact h.elim
 .rename_i x y t t'
  obtain ⟨rfl, h⟩ := h
  split at h
  .rename_i e sz by_ ht
   split at h
   .rename_i r l hx
    split at h
    .rename_i n e' sz' ys hσ hy
     obtain ⟨rfl, rfl, rfl, h3, h4, h5, h6, h7⟩ := h
     have hr := qfx1 hσ (by simp)
     refine ⟨_, _, qec fun s' he hst hnx => ?_, ⟨(s.set_nx r _).2.2, (s.set_nx r _).1, (s.set_nx r _).2.1⟩, h7⟩
     have ex := he x (by simp [Op.operands, Call.operands])
     have ey := he y (by simp [Op.operands, Call.operands])
     refine qjz ht (by rw [ex]; exact hx) (by rw [hst]; exact hσ) (by rw [ey]; exact hy) h3 h4 h5 h6 ⟨rfl, ?_⟩
     rw [AS.set_st _ _ _ (by rw [hnx]; exact hr), AS.set_st _ _ _ hr, hst]
    .exact h.elim
   .rename_i hx
    split at h
    .rename_i ys hy
     obtain ⟨h2, h4, h5, h6, h7⟩ := h
     refine ⟨_, s.ext (some (.tail ys.length e sz)), qec fun s' he hst hnx => ?_, ⟨rfl, rfl, rfl⟩, h7⟩
     have ex := he x (by simp [Op.operands, Call.operands])
     have ey := he y (by simp [Op.operands, Call.operands])
     refine qlr ht (by rw [ex]; exact hx) (by rw [ey]; exact hy) h2 h4 h5 h6 ⟨by rw [hnx], ?_⟩
     rw [(qes s' _).1, (qes s _).1, hst, hnx]
    .exact h.elim
   .exact h.elim
  .exact h.elim
 .split at h
  .rename_i e sz by_ ht
   refine ⟨.gs s.nx [], s.ext (some (.tail 0 e sz)), qec fun s' he hst hnx => ?_, ⟨rfl, rfl, rfl⟩, h⟩
   refine qhs (nb := some (.tail 0 e sz)) (qhf ht) ⟨by rw [hnx], ?_⟩
   rw [(qes s' _).1, (qes s _).1, hst, hnx]
  .exact h.elim
 .obtain ⟨x, nb, h1, h2⟩ := qch h
  exact ⟨x, s.ext nb, qju h1, by cases nb <;> exact ⟨rfl, rfl, rfl⟩, h2⟩
 .obtain ⟨x, nb, h1, h2⟩ := qch h
  exact ⟨x, s.ext nb, qju h1, by cases nb <;> exact ⟨rfl, rfl, rfl⟩, h2⟩
 .exact h.elim
theorem qqw1 {ev : Operand -> AV} {σ : Nat -> AB} {t e : TypeId} {sz by_ : Nat} (ht : vinfo P t = some (e, sz, by_)) : FOp P ev σ (.buildSlice t 0 #[]) .es none := by
 intro X a oper ho hS hsub hev hnb Q
 obtain ⟨hut, i, z, hi, hzz, hsz, hby, hzs, hsz0, hby0, hz1⟩ := qbr ht
 have hE : Ext X.w (X.w.alloc (.cells #[] e)) := (Ext.refl X.w).alloc _
 refine qbi (w' := X.w.alloc (.cells #[] e)) (v := .slice (some ⟨X.w.heap.size, 0, none⟩) 0 0) ?_ ⟨_, X.later _, rfl, rfl, qkq hS hE, qfl hS hE, ?_, rfl⟩
 .simp [execOp, ho, Instr.buildSlice, run_underlying hut, sizeOf, typeInfo, hi, Instr.fill, newRow, Array.range_zero']
 .show RC (X.later (X.w.alloc (.cells #[] e))) .es [_]
  rw [RC]; exact ⟨_, rfl⟩
theorem qvu {ev : Operand -> AV} {σ : Nat -> AB} {t e : TypeId} {sz by_ : Nat} {x y : Operand} {ys : List AV} (ht : vinfo P t = some (e, sz, by_)) (hx : ev x = .es) (hyl : (ev y).list = some ys) (hw : ∀ z ∈ ys, z.width = sz) (h1 : ∀ z ∈ ys, z.elem = true) (hb : ys.length * by_ <= 140737488355328) :
  FOp P ev σ (.call { callee := .builtin .append, args := #[x, y], argTypes := #[t, t] }) (.sl ys) none := by
 intro X a oper ho hS hsub hev hnb Q
 obtain ⟨hu1, i, z, hi, hz, hsz, hby, hzs, hsz0, hby0, -⟩ := qbr ht
 subst hsz; subst hby
 have h2 := hev x (by simp [Op.operands, Call.operands])
 rw [hx] at h2
 change RC X .es [_] at h2
 rw [RC] at h2
 obtain ⟨A0, h2⟩ := h2
 have hxv : a.eval x = .slice (some A0) 0 0 := by simpa using h2
 obtain ⟨A, cap, b, off, hyv', hc1, hc2, hA, hm⟩ := RR.list hyl (hev y (by simp [Op.operands, Call.operands]))
 by_cases hne : 0 < ys.length
 .obtain rfl := hA hne
  obtain ⟨news, hr2, hcell⟩ := hm.row
  have hlen : ys.length <= 140737488355328 := Nat.le_trans (Nat.le_mul_of_pos_right _ hby0) hb
  have hnl := RCs.len hr2 hw
  have hnc : ∀ j u, news[j]? = some u -> X.w.cell? ((⟨b, off, none⟩ : Addr).add j) = some u := fun j u hj => by rw [qbd]; exact hcell.at.get j u hj
  have hr := run_append_grow (P := P) X.w t oper.type e i z hu1 hi hz A0 0 0 [] (by simp) (fun j v h => by simp at h) ⟨b, off, none⟩ ys.length cap news hnl hnc (by omega) (by omega) (growslice_fits (by omega) (by simpa using hb))
  rw [Nat.zero_add] at hr
  obtain ⟨cap2, hcap⟩ : ∃ cap2, cap2 = grownCap X.w ys.length 0 e := ⟨_, rfl⟩
  rw [<- hcap] at hr
  have hge : ys.length <= cap2 := by rw [hcap]; exact grownCap_ge _ _ _ _
  have hcm : cap2 <= 9223372036854775807 := by rw [hcap]; exact grownCap_le_maxLen _ _ _ _ (by unfold maxLen; omega)
  have hE : Ext X.w (X.w.drew.alloc (.cells (([] : List Value).toArray ++ news.toArray ++ Builtin.zeroCells z.cells (cap2 - ys.length)) e)) := (Ext.refl X.w).drew.alloc _
  refine qbi (w' := X.w.drew.alloc (.cells (([] : List Value).toArray ++ news.toArray ++ Builtin.zeroCells z.cells (cap2 - ys.length)) e)) (v := .slice (some ⟨X.w.heap.size, 0, none⟩) ys.length cap2) (by
   simp only [execOp, ho]
   simp [resolve, invoke, builtin, hxv, hyv', hr]) ⟨_, X.later _, rfl, rfl, qkq hS hE, qfl hS hE, ?_, rfl⟩
  show RC _ (.sl ys) [_]
  rw [RC]
  refine ⟨some ⟨X.w.heap.size, 0, none⟩, cap2, X.w.heap.size, 0, rfl, hge, hcm, fun _ => rfl, RM.of (RCs.fr (qfl hS hE) _ _ hr2) (qeg _ 0 fun j u hj => ⟨?_, .inr ⟨Nat.le_refl _, by simp [World.size_alloc]⟩⟩)⟩
  have := qlh X.w.drew (([] : List Value).toArray ++ news.toArray ++ Builtin.zeroCells z.cells (cap2 - ys.length)) e j u (by
   have hjl := (List.getElem?_eq_some_iff.1 hj).1
   rw [Array.toList_append, Array.toList_append, List.getElem?_append_left (by simpa using hjl)]
   simpa using hj)
  rw [qbd] at this
  exact this
 .obtain rfl : ys = [] := List.eq_nil_of_length_eq_zero (by omega)
  refine qbi (w' := X.w) (v := a.eval x) (by rw [List.length_nil] at hyv'; simp [execOp, ho, resolve, invoke, builtin, hxv, hyv', qej hu1 hi (some A0) A 0 0 cap (Nat.le_refl _)])
   ⟨a.eval x, X, rfl, rfl, hS, Fr.refl X, ?_, rfl⟩
  show RC X (.sl []) [_]
  rw [hxv, RC]
  exact ⟨some A0, 0, A0.block, 0, rfl, Nat.le_refl _, by omega, fun h => absurd h (by simp), by rw [RM]; trivial⟩
def aevR (P : Program) (s : AS) (o : Op) (K : AV -> Option AB -> Prop) : Prop :=
 match o with
 | .buildSlice t 0 ⟨[]⟩ => match vinfo P t with
  | some _ => K .es none
  | none => False
 | .call { callee := .builtin .append, args := ⟨[x, y]⟩, argTypes := ⟨[t, t']⟩ } => t' = t /\ (match vinfo P t with
  | some (_, sz, by_) => match s.eval x, (s.eval y).list with
   | .es, some ys => AV.wid ys sz /\ AV.elms ys /\ ys.length * by_ <= 140737488355328 /\ K (.sl ys) none
   | _, _ => False
  | none => False)
 | o => aevF P s o K
theorem qzm {s : AS} {o : Op} {K : AV -> Option AB -> Prop} (h : aevR P s o K) : ∃ x nb, FOp P s.eval s.st o x (nb.map (s.nx, ·)) /\ K x nb := by
 unfold aevR at h
 split at h
 .split at h
  .exact ⟨.es, none, qqw1 ‹_›, h⟩
  .exact h.elim
 .obtain ⟨rfl, h⟩ := h
  split at h
  .split at h
   .exact ⟨_, none, qvu ‹_› ‹_› ‹_› h.1 h.2.1 h.2.2.1, h.2.2.2⟩
   .exact h.elim
  .exact h.elim
 .exact qch h
def only (q : Nat) (σ : Nat -> AB) : Nat -> AB := fun k => if k = q then σ q else .unborn
def AS.eyes (q : Nat) (s : AS) : AS := { s with σ := only q s.st, L := [] }
def qi (P : Program) (ops : Array Oper) (m : List AB) (q : Nat) (K : AS -> Prop) : List Oper -> List RK -> AS -> Prop
 | [], _, s => K s
 | o :: l, ks, s => match awant ops o s.t with
  | some b => qbm b (match ks.headD .R with
   | .R => aevR P (s.blind m) o.op (fun x nb => nb = none /\ dstOk o.dst s.n /\ qi P ops m q K l ks.tail (s.put o.dst x))
   | .M => aevM P s o.op (fun x nb => dstOk o.dst s.n /\ qi P ops m q K l ks.tail ((s.ext nb).put o.dst x))
   | .W => aevW P s o.op (fun x s1 => dstOk o.dst s.n /\ qct m s1.L /\ qi P ops m q K l ks.tail (s1.put o.dst x))
   | .N => q < s.n0 /\ aevF P (s.eyes q) o.op (fun x nb => nb = none /\ dstOk o.dst s.n /\ qi P ops m q K l ks.tail (s.put o.dst x))
   | .A => aevW P s o.op (fun x s1 => dstOk o.dst s.n /\ qct m s1.L /\ s1.st q = s.st q /\ qi P ops m q K l ks.tail (s1.put o.dst x))) (dstOk o.dst s.n /\ qi P ops m q K l ks.tail (s.put o.dst (.v undef)))
  | none => False
structure qrm (P : Program) (ops : Array Oper) (l : List Oper) (ks : List RK) (st s1 : Nat -> AS) (xs : Nat -> AV) (bs : Nat -> Bool) (nbs : Nat -> Option AB) (κ : Nat -> AB) (q : Nat) : Prop where
 kept : ∀ r, κ r ≠ .unborn -> ∀ j, j <= l.length -> (st j).st r = κ r
 eye : q < (st 0).n0 -> ∀ i, i < l.length -> ks.getD i .R ≠ .W -> (st (i + 1)).st q = (st i).st q
 want : ∀ i o, l[i]? = some o -> awant ops o (st i).t = some (bs i)
 dst : ∀ i o, l[i]? = some o -> dstOk o.dst (st i).n
 next : ∀ i o, l[i]? = some o -> st (i + 1) = (s1 i).put o.dst (xs i)
 same : ∀ i o, l[i]? = some o -> (s1 i).t = (st i).t /\ (s1 i).n = (st i).n /\ (s1 i).n0 = (st i).n0
 skip : ∀ i o, l[i]? = some o -> bs i = false -> xs i = .v undef /\ s1 i = st i /\ nbs i = none
 opR : ∀ i o, l[i]? = some o -> bs i = true -> ks.getD i .R = .R -> FOp2 P (st i).eval κ o.op (xs i) none /\ s1 i = st i /\ nbs i = none
 opN : ∀ i o, l[i]? = some o -> bs i = true -> ks.getD i .R = .N -> FOp2 P (st i).eval (only q (st i).st) o.op (xs i) none /\ s1 i = st i /\ nbs i = none /\ q < (st i).n0
 opM : ∀ i o, l[i]? = some o -> bs i = true -> ks.getD i .R = .M -> FOp2 P (st i).eval (st i).st o.op (xs i) ((nbs i).map ((st i).nx, ·)) /\ s1 i = (st i).ext (nbs i)
 opW : ∀ i o, l[i]? = some o -> bs i = true -> (ks.getD i .R).base = .W -> WOp P (st i).eval (st i).st o.op (xs i) (s1 i).st /\ nbs i = none
theorem qmr1 {s : AS} {q : Nat} (h : q < s.n0) : (s.eyes q).st = only q s.st := by
 funext k
 show loc (only q s.st) s.n0 [] k = _
 unfold loc only
 split
 .rfl
 .rename_i hk
  rw [if_neg (by omega)]; rfl
theorem qni {ops : Array Oper} {m : List AB} {q : Nat} {n0 : Nat} {K : AS -> Prop} : ∀ (l : List Oper) (ks : List RK) (s : AS), s.n0 = n0 -> (∀ r, loc (fun _ => .unborn) n0 m r ≠ .unborn -> s.st r = loc (fun _ => .unborn) n0 m r) -> qi P ops m q K l ks s -> ∃ st s1 xs bs nbs, qrm P ops l ks st s1 xs bs nbs (loc (fun _ => .unborn) n0 m) q /\ st 0 = s /\ K (st l.length)
 | [], ks, s, hn0, hke, h => by
  refine ⟨fun _ => s, fun _ => s, fun _ => .any, fun _ => true, fun _ => none, ⟨fun r hr j _ => hke r hr, fun _ _ hi => absurd hi (Nat.not_lt_zero _), ?_, ?_, ?_, ?_, ?_, ?_, ?_, ?_, ?_⟩, rfl, h⟩ <;> (intro i o ho; simp at ho)
 | o :: l, ks, s, hn0, hke, h => by
  have key : ∀ (x : AV) (b : Bool) (nb : Option AB) (s1 : AS), awant ops o s.t = some b -> dstOk o.dst s.n -> (s1.t = s.t /\ s1.n = s.n /\ s1.n0 = s.n0) -> (ks.headD .R ≠ .W -> q < s.n0 -> s1.st q = s.st q) -> (b = false -> x = .v undef /\ s1 = s /\ nb = none) ->
    (b = true -> ks.headD .R = .R -> FOp2 P s.eval (loc (fun _ => .unborn) n0 m) o.op x none /\ s1 = s /\ nb = none) -> (b = true -> ks.headD .R = .N -> FOp2 P s.eval (only q s.st) o.op x none /\ s1 = s /\ nb = none /\ q < s.n0) -> (b = true -> ks.headD .R = .M -> FOp2 P s.eval s.st o.op x (nb.map (s.nx, ·)) /\ s1 = s.ext nb) ->
    (b = true -> (ks.headD .R).base = .W -> WOp P s.eval s.st o.op x s1.st /\ nb = none) -> (∀ r, loc (fun _ => .unborn) n0 m r ≠ .unborn -> s1.st r = loc (fun _ => .unborn) n0 m r) -> qi P ops m q K l ks.tail (s1.put o.dst x) -> ∃ st s1 xs bs nbs, qrm P ops (o :: l) ks st s1 xs bs nbs (loc (fun _ => .unborn) n0 m) q /\ st 0 = s /\ K (st (o :: l).length) := by
   intro x b nb s1 hw hd hsame hq hskip hR hN hM hW hke1 hrest
   obtain ⟨st, s1', xs, bs, nbs, hs, h0, hK⟩ := qni (n0 := n0) l ks.tail _ (by rw [(qei s1 o.dst x).2.2.2, hsame.2.2]; exact hn0) (fun r hr => by rw [(qei s1 o.dst x).1]; exact hke1 r hr) hrest
   have hks : ∀ i, ks.getD (i + 1) .R = ks.tail.getD i .R := fun i => by cases ks <;> simp
   have hk0 : ks.getD 0 .R = ks.headD .R := by cases ks <;> simp
   refine ⟨fun i => match i with | 0 => s | i + 1 => st i, fun i => match i with | 0 => s1 | i + 1 => s1' i, fun i => match i with | 0 => x | i + 1 => xs i, fun i => match i with | 0 => b | i + 1 => bs i, fun i => match i with | 0 => nb | i + 1 => nbs i, ⟨fun r hr j hj => (match j with | 0 => hke r hr | j + 1 => hs.kept r hr j (by simpa using hj)), fun hql i hi hkk => (match i with | 0 => ?_ | i + 1 => ?_), ?_, ?_, ?_, ?_, ?_, ?_, ?_, ?_, ?_⟩, rfl, hK⟩
   .show (st 0).st q = s.st q
    rw [h0, (qei s1 o.dst x).1]
    exact hq (by rw [<- hk0]; exact hkk) hql
   .refine hs.eye ?_ i (by simpa using hi) (by rw [<- hks]; exact hkk)
    have hql' : q < s.n0 := hql
    rw [h0, (qei s1 o.dst x).2.2.2, hsame.2.2]; exact hql'
   all_goals (intro i o' ho; cases i)
   .simp at ho; subst ho; exact hw
   .exact hs.want _ o' (by simpa using ho)
   .simp at ho; subst ho; exact hd
   .exact hs.dst _ o' (by simpa using ho)
   .simp at ho; subst ho; exact h0
   .exact hs.next _ o' (by simpa using ho)
   .simp at ho; subst ho; exact hsame
   .exact hs.same _ o' (by simpa using ho)
   .simp at ho; subst ho; exact hskip
   .exact hs.skip _ o' (by simpa using ho)
   .simp at ho; subst ho; rw [hk0]; exact hR
   .rw [hks]; exact hs.opR _ o' (by simpa using ho)
   .simp at ho; subst ho; rw [hk0]; exact hN
   .rw [hks]; exact hs.opN _ o' (by simpa using ho)
   .simp at ho; subst ho; rw [hk0]; exact hM
   .rw [hks]; exact hs.opM _ o' (by simpa using ho)
   .simp at ho; subst ho; rw [hk0]; exact hW
   .rw [hks]; exact hs.opW _ o' (by simpa using ho)
  rw [qi] at h
  split at h
  .rename_i bb hw
   cases bb with
   | true =>
    replace h := h.1 rfl
    split at h
    .rename_i hk
     obtain ⟨x, nb, h1, rfl, h2, h3⟩ := qzm h
     rw [qif1, hn0] at h1
     exact key x true none s hw h2 ⟨rfl, rfl, rfl⟩ (fun _ _ => rfl) (fun e => by cases e) (fun _ _ => ⟨h1.two, rfl, rfl⟩) (fun _ e => by rw [hk] at e; cases e) (fun _ e => by rw [hk] at e; cases e) (fun _ e => by rw [hk] at e; cases e) hke h3
    .rename_i hk
     obtain ⟨x, nb, h1, h2, h3⟩ := qjc h
     exact key x true nb (s.ext nb) hw h2 (by cases nb <;> exact ⟨rfl, rfl, rfl⟩) (fun _ hq => by
      cases nb with
      | none => rfl
      | some ab => rw [(qes s ab).1]; unfold upd; rw [if_neg (by have : s.n0 <= s.nx := Nat.le_add_right _ _; omega)]) (fun e => by cases e) (fun _ e => by rw [hk] at e; cases e) (fun _ e => by rw [hk] at e; cases e) (fun _ _ => ⟨h1, rfl⟩) (fun _ e => by rw [hk] at e; cases e) (fun r hr => by
      cases nb with
      | none => exact hke r hr
      | some ab =>
       have h0 := hke r hr
       have hlt : r < s.nx := Nat.lt_of_not_le fun hle => hr (h0.symm.trans (s.fin r hle))
       rw [(qes s ab).1]; unfold upd; rw [if_neg (by omega)]; exact h0) h3
    .rename_i hk
     obtain ⟨x, s1, h1, h2, h3, h5, h4⟩ := qgo h
     exact key x true none s1 hw h3 h2 (fun e => absurd hk e) (fun e => by cases e) (fun _ e => by rw [hk] at e; cases e) (fun _ e => by rw [hk] at e; cases e) (fun _ e => by rw [hk] at e; cases e) (fun _ _ => ⟨h1, rfl⟩) (qqk (h2.2.2.trans hn0) h5) h4
    .rename_i hk
     obtain ⟨hq, h⟩ := h
     obtain ⟨x, nb, h1, rfl, h2, h3⟩ := qch h
     rw [qmr1 hq] at h1
     exact key x true none s hw h2 ⟨rfl, rfl, rfl⟩ (fun _ _ => rfl) (fun e => by cases e) (fun _ e => by rw [hk] at e; cases e) (fun _ _ => ⟨h1.two, rfl, rfl, hq⟩) (fun _ e => by rw [hk] at e; cases e) (fun _ e => by rw [hk] at e; cases e) hke h3
    .rename_i hk
     obtain ⟨x, s1, h1, h2, h3, h5, h7, h4⟩ := qgo h
     exact key x true none s1 hw h3 h2 (fun _ _ => h7) (fun e => by cases e) (fun _ e => by rw [hk] at e; cases e) (fun _ e => by rw [hk] at e; cases e) (fun _ e => by rw [hk] at e; cases e) (fun _ _ => ⟨h1, rfl⟩) (qqk (h2.2.2.trans hn0) h5) h4
   | false =>
    replace h := h.2 rfl
    exact key (.v undef) false none s hw h.1 ⟨rfl, rfl, rfl⟩ (fun _ _ => rfl) (fun _ => ⟨rfl, rfl, rfl⟩) (fun e => by cases e) (fun e => by cases e) (fun e => by cases e) (fun e => by cases e) hke h.2
  .exact h.elim
theorem qtu {l : List Oper} {ks : List RK} {st s1 : Nat -> AS} {xs : Nat -> AV} {bs : Nat -> Bool} {nbs : Nat -> Option AB} {κ : Nat -> AB} {q : Nat} (hB : anyB l ks = true) (h : qrm P l.toArray l ks st s1 xs bs nbs κ q) : qbw P l (ks.map RK.base) st s1 xs bs nbs (fun i => if ks.getD i .R = .N then (if bs i = true then only q (st i).st else fun _ => .unborn) else κ) := by
 have at0 : ∀ {i o}, l[i]? = some o -> q < (st i).n0 -> q < (st 0).n0 := fun {i o} ho hq => by
  have : ∀ j, j <= l.length -> (st j).n0 = (st 0).n0 := fun j => by
   induction j with
   | zero => intro _; rfl
   | succ j ih =>
    intro hj
    obtain ⟨o', ho'⟩ : ∃ o', l[j]? = some o' := ⟨_, List.getElem?_eq_getElem (by omega)⟩
    rw [h.next j o' ho', (qei (s1 j) o'.dst (xs j)).2.2.2, (h.same j o' ho').2.2, ih (by omega)]
  have hi := (List.getElem?_eq_some_iff.1 ho).1
  rw [this i (by omega)] at hq
  exact hq
 have pre : q < (st 0).n0 -> ∀ j, j <= l.length -> (∀ i, i < j -> ks.getD i .R ≠ .W) -> (st j).st q = (st 0).st q := fun hq j => by
  induction j with
  | zero => intro _ _; rfl
  | succ j ih =>
   intro hj hk
   rw [h.eye hq j (by omega) (hk j (by omega)), ih (by omega) fun i hi => hk i (by omega)]
 refine ⟨fun i => ?_, fun i hi hk r hr => ?_, h.want, h.dst, h.next, h.same, h.skip, fun i o ho hb hk => ?_, fun i o ho hb hk => ?_, fun i o ho hb hk => ?_⟩
 .rw [qcc]
  cases ks.getD i .R <;> simp [RK.base]
 .split at hr
  .rename_i hN
   rw [if_pos hN]
   split at hr
   .rename_i hb
    rw [if_pos hb]
    obtain ⟨o, ho⟩ : ∃ o, l[i]? = some o := ⟨_, List.getElem?_eq_getElem hi⟩
    have hq := at0 ho (h.opN i o ho hb hN).2.2.2
    by_cases hrq : r = q
    .subst hrq
     have ei : only r (st i).st r = (st 0).st r := by
      unfold only; rw [if_pos rfl]
      exact pre hq i (by omega) fun p hp hW => by
       have := ((qnh hB hi (j := p) (by omega)).1 hN hW).1; omega
     rw [ei]
     refine ⟨rfl, fun p hp hpW hpi => ?_⟩
     rw [qcc] at hpW
     have hpA : ks.getD p .R = .A := by
      cases hk2 : ks.getD p .R with
      | A => rfl
      | W => exact absurd ((qnh hB hi hp).1 hN hk2).2 hpi
      | R => rw [hk2] at hpW; cases hpW
      | M => rw [hk2] at hpW; cases hpW
      | N => rw [hk2] at hpW; cases hpW
     refine pre hq (p + 1) (by omega) fun p' hp' hW => ?_
     by_cases hpp : p' = p
     .rw [hpp, hpA] at hW; cases hW
     .have := (qnh hB hp (j := p') (by omega)).2 hpA hW; omega
    .exact absurd (if_neg hrq) hr
   .exact absurd rfl hr
  .rename_i hN
   rw [if_neg hN]
   exact ⟨h.kept r hr 0 (Nat.zero_le _), fun p hp _ _ => h.kept r hr (p + 1) (by omega)⟩
 .rw [qcc] at hk
  by_cases hN : ks.getD i .R = .N
  .rw [if_pos hN, if_pos hb]
   exact ⟨(h.opN i o ho hb hN).1, (h.opN i o ho hb hN).2.1, (h.opN i o ho hb hN).2.2.1⟩
  .rw [if_neg hN]
   refine h.opR i o ho hb ?_
   cases hk2 : ks.getD i .R with
   | R => rfl
   | M => rw [hk2] at hk; cases hk
   | W => rw [hk2] at hk; cases hk
   | N => exact absurd hk2 hN
   | A => rw [hk2] at hk; cases hk
 .rw [qcc] at hk
  refine h.opM i o ho hb ?_
  cases hk2 : ks.getD i .R with
  | M => rfl
  | R => rw [hk2] at hk; cases hk
  | W => rw [hk2] at hk; cases hk
  | N => rw [hk2] at hk; cases hk
  | A => rw [hk2] at hk; cases hk
 .rw [qcc] at hk
  exact h.opW i o ho hb hk
theorem qid {s : AS} {id : Nat} {l : List Oper} {Q : Exit -> AS -> Prop} (m : List AB) (q : Nat) (ks : List RK) (hm : P.follows .mixedOrders = true) (hB : anyB l ks = true) (h0 : qct m s.L) (h : qi P l.toArray m q (Q .normal) l ks s) : awp P (.region id l.toArray true) Q s := by
 obtain ⟨st, s1, xs, bs, nbs, hs, rfl, hK⟩ := qni l ks s rfl (qqk rfl h0) h
 exact qve hm (qva hB) (qtu hB hs) hK
theorem qia1 {s : AS} {id : Nat} {l : List Oper} {Q : Exit -> AS -> Prop} (m : List AB) (ks : List RK) (hm : P.follows .mixedOrders = true) (hB : anyB l ks = true) (h0 : qct m s.L) (h : qi P l.toArray m 0 (Q .normal) l ks s) : awp P (.region id l.toArray true) Q s := qid m 0 ks hm hB h0 h
theorem qhz1 {s : AS} {id : Nat} {l : List Oper} {Q : Exit -> AS -> Prop} (ks : List RK) (hm : P.follows .mixedOrders = true) (hB : anyB l ks = true) (h : qi P l.toArray [] 0 (Q .normal) l ks s) : awp P (.region id l.toArray true) Q s := qia1 [] ks hm hB trivial h
end
instance {P : Program} {ops : Array Oper} {m : List AB} {q : Nat} {K : AS -> Prop} {o : Oper} {l : List Oper} {ks : List RK} {s : AS} : Stp (qi P ops m q K (o :: l) ks s) (match awant ops o s.t with
  | some b => qbm b (match ks.headD .R with
   | .R => aevR P (s.blind m) o.op (fun x nb => nb = none /\ dstOk o.dst s.n /\ qi P ops m q K l ks.tail (s.put o.dst x))
   | .M => aevM P s o.op (fun x nb => dstOk o.dst s.n /\ qi P ops m q K l ks.tail ((s.ext nb).put o.dst x))
   | .W => aevW P s o.op (fun x s1 => dstOk o.dst s.n /\ qct m s1.L /\ qi P ops m q K l ks.tail (s1.put o.dst x))
   | .N => q < s.n0 /\ aevF P (s.eyes q) o.op (fun x nb => nb = none /\ dstOk o.dst s.n /\ qi P ops m q K l ks.tail (s.put o.dst x))
   | .A => aevW P s o.op (fun x s1 => dstOk o.dst s.n /\ qct m s1.L /\ s1.st q = s.st q /\ qi P ops m q K l ks.tail (s1.put o.dst x))) (dstOk o.dst s.n /\ qi P ops m q K l ks.tail (s.put o.dst (.v undef)))
  | none => False) := ⟨fun h => h⟩
instance {P : Program} {ops : Array Oper} {m : List AB} {q : Nat} {K : AS -> Prop} {ks : List RK} {s : AS} : Stp (qi P ops m q K [] ks s) (K s) := ⟨fun h => h⟩
section
variable {P : Program} {ops : Array Oper} {m : List AB} {K : AS -> Prop} {l : List Oper} {ks : List RK} {s : AS} {k : Nat} {p q r : Prop} {b : Bool} {A B : Prop}
def Tag (_ : Prop) : Type := Unit
instance : Inhabited (Tag (qbm b A B)) := ⟨⟨⟩⟩
instance : Inhabited (Tag (qe P ops K l s)) := ⟨⟨⟩⟩
instance : Inhabited (Tag (qi P ops m k K l ks s)) := ⟨⟨⟩⟩
instance [Inhabited (Tag B)] : Inhabited (Tag (A /\ B)) := ⟨⟨⟩⟩
theorem sideA [Inhabited (Tag B)] (h : B) (hp : p := by first | omega | assumption | (simp; done)) : p /\ B := ⟨hp, h⟩
theorem gS : (∀ {α : Type} [BEq α] [LawfulBEq α] {a b : α}, (a == b) = true ↔ a = b) /\ (∀ {α : Type} [BEq α] [LawfulBEq α] {a b : α}, (a == b) = false ↔ a ≠ b) /\ (∀ {α : Type} (a b : α), (a ≠ b) = ¬ a = b) /\ (∀ (p : Prop) [Decidable p], (decide p = true) = p) /\ (∀ {p : Prop} {_ : Decidable p}, (decide p = false) ↔ ¬ p) /\ (∀ {α : Type} [BEq α] [LawfulBEq α] {a b : α}, (a != b) = true ↔ a ≠ b) /\ (∀ {α : Type} [BEq α] [LawfulBEq α] {a b : α}, (a != b) = false ↔ a = b) :=
 ⟨beq_iff_eq, beq_eq_false_iff_ne, ne_eq, fun _ _ => decide_eq_true_eq, decide_eq_false_iff_not, bne_iff_ne, bne_eq_false_iff_eq⟩
theorem gI.{u} : (∀ {α : Sort u} {_ : Decidable True} (a b : α), (if True then a else b) = a) /\ (∀ {α : Sort u} {_ : Decidable False} (a b : α), (if False then a else b) = b) := ⟨if_true, if_false⟩
end
def qbc (P : Program) (f : FuncId) (args : List AV) (σ : Nat -> AB) (x : AV) : Prop := AC P f args σ fun y τ => y = x /\ τ = σ
theorem Gives.here {P : Program} {f : FuncId} {args : List AV} {x : AV} (h : Gives P f args x) (σ : Nat -> AB) : qbc P f args σ x := h σ
theorem qbk {P : Program} {f : FuncId} {args : List AV} {s : AS} {K : AV -> AS -> Prop} {x : AV} (h : qbc P f args s.st x) (hK : K x s) : ACall P f args s K := ⟨x, s, h, ⟨rfl, rfl, rfl⟩, hK⟩
theorem qn {P : Program} {f : FuncId} {fn : Func} {c : Code} {rs : List ResultVar} {args : List AV} {x : AV} {N : Nat} {σ : Nat -> AB} (hf : P.funcs[f]? = some fn) (hN : fn.ntmps = N) (hb : fn.body = some c) (hr : fn.results = rs.toArray) (hlen : rs.length <= 4) (ha : Nat.ble args.length N = true) (hx : ∀ n, x.cl n)
  (h : ∀ n0, Fin σ n0 -> (∀ r, (σ r).cl n0) -> AV.fitss args -> awp P c (fun e s' => (e = .normal \/ e = .ret) /\ s'.n0 = n0 /\ s'.σ = σ /\ ares P s' rs x) { n := N, t := qdf args 0, σ := σ, n0 := n0, L := [] }) : qbc P f args σ x := by
 subst hN
 exact qia hf hb hr hlen (Nat.le_of_ble_eq_true ha) fun n0 hfin hcl hft => qfg (h n0 hfin hcl hft) fun e s' ⟨h1, h2, h3, h4⟩ => ⟨h1, h2, x, h4, hx n0, fun r _ => by rw [h3]; exact hcl r, rfl, by
  funext r
  unfold Proofs.YtkedbjjfmejbhaaGreatDoor.cut
  rw [h3]
  split
  .rfl
  .exact (hfin r (by omega)).symm⟩
theorem qcu {σ : Nat -> AB} {n0 r : Nat} {ab : AB} (hfin : Fin σ n0) (hσ : σ r = ab) (hne : ab ≠ .unborn) : r < n0 := Nat.lt_of_not_le fun h => hne (hσ.symm.trans (hfin r h))
theorem qbv {σ : Nat -> AB} {n0 r : Nat} {ab : AB} (hfin : Fin σ n0) (hσ : σ r = ab) (hne : ab ≠ .unborn) (L : List AB) : loc σ n0 L r = ab := (qcf σ n0 r L (qcu hfin hσ hne)).trans hσ
def kind0 (f : Bool) : Op -> RK
 | .store _ _ _ => .W
 | .mapUpdate _ _ _ _ => .W
 | .lookup _ _ _ _ => .M
 | .makeMap _ _ => .M
 | .call { callee := .builtin .append, .. } => .W
 | .call { callee := .builtin .len, .. } => if f = true then .M else .R
 | .call { callee := .builtin _, .. } => .R
 | .call _ => .M
 | .indexAddr _ _ _ => if f = true then .M else .R
 | .fieldAddr _ _ _ => if f = true then .M else .R
 | .nilCheck _ => if f = true then .M else .R
 | .load _ _ => .M
 | .alloc _ => .M
 | .box _ _ => .M
 | .buildSlice _ 0 _ => .M
 | .makeSlice _ _ _ => .M
 | _ => .R
def autoK (f : Bool) : Bool -> List Oper -> List RK
 | _, [] => []
 | seen, o :: l => (if kind0 f o.op = .M /\ seen = true then .W else kind0 f o.op) :: autoK f (seen || decide (kind0 f o.op = .W)) l
theorem qgp {P : Program} (f : Bool) {s : AS} {id : Nat} {l : List Oper} {Q : Exit -> AS -> Prop} (hm : P.follows .mixedOrders = true) (hB : anyB l (autoK f false l) = true) (h : qi P l.toArray [] 0 (Q .normal) l (autoK f false l) s) : awp P (.region id l.toArray true) Q s :=
 qhz1 _ hm hB h
theorem qf {P : Program} {s : AS} {id : Nat} {l : List Oper} {Q : Exit -> AS -> Prop} (h : qi P l.toArray [] 0 (Q .normal) l (autoK true false l) s) (hm : P.follows .mixedOrders = true := by kernel_rfl) (hB : anyB l (autoK true false l) = true := by kernel_rfl) : awp P (.region id l.toArray true) Q s := qgp true hm hB h
attribute [simp] autoK kind0
attribute [simp] qi aevM aevW aevR
@[simp] theorem qtp1 (q : Nat) (n : Nat) (t : Nat -> AV) (σ : Nat -> AB) (n0 : Nat) (L : List AB) : (AS.mk n t σ n0 L).eyes q = ⟨n, t, only q (loc σ n0 L), n0, []⟩ := rfl
@[simp] theorem qrs1 (q : Nat) (σ : Nat -> AB) : only q σ q = σ q := if_pos rfl
@[simp] theorem qsy1 (m : List AB) (n : Nat) (t : Nat -> AV) (σ : Nat -> AB) (n0 : Nat) (L : List AB) : (AS.mk n t σ n0 L).blind m = ⟨n, t, fun _ => .unborn, n0, m⟩ := rfl
attribute [simp] qct
mutual
def D.av : D -> AV
 | .int n => .v (.int .i64 n)
 | .bool b => .v (.bool b)
 | .str s => .v (.string s)
 | .st l => .agg (D.cs l)
 | .sl l => .sl (D.avs l)
def D.cs : List D -> List AV
 | [] => []
 | .st l' :: l => D.cs l' ++ D.cs l
 | .int n :: l => .v (.int .i64 n) :: D.cs l
 | .bool b :: l => .v (.bool b) :: D.cs l
 | .str s :: l => .v (.string s) :: D.cs l
 | .sl l' :: l => .sl (D.avs l') :: D.cs l
def D.avs : List D -> List AV
 | [] => []
 | d :: l => d.av :: D.avs l
end
theorem D.avs_map : ∀ l : List D, D.avs l = l.map D.av
 | [] => by rw [D.avs]; rfl
 | d :: l => by rw [D.avs, D.avs_map l]; rfl
mutual
theorem D.av_width : ∀ d : D, d.av.width = d.width
 | .int _ => by rw [D.av]; rfl
 | .bool _ => by rw [D.av]; rfl
 | .str _ => by rw [D.av]; rfl
 | .st l => by rw [D.av, D.width]; exact D.cs_len l
 | .sl _ => by rw [D.av]; rfl
theorem D.cs_len : ∀ l : List D, (D.cs l).length = D.widths l
 | [] => by rw [D.cs]; rfl
 | .st l' :: l => by rw [D.cs, List.length_append, D.cs_len l', D.cs_len l, D.widths, D.width]
 | .int n :: l => by rw [D.cs, List.length_cons, D.cs_len l, D.widths, D.width]; omega
 | .bool b :: l => by rw [D.cs, List.length_cons, D.cs_len l, D.widths, D.width]; omega
 | .str s :: l => by rw [D.cs, List.length_cons, D.cs_len l, D.widths, D.width]; omega
 | .sl l' :: l => by rw [D.cs, List.length_cons, D.cs_len l, D.widths, D.width]; omega
end
theorem R1s.split {X : St} : ∀ {a b : List AV} {cs : List Value}, R1s X (a ++ b) cs -> ∃ c1 c2, cs = c1 ++ c2 /\ R1s X a c1 /\ R1s X b c2
 | [], b, cs, h => ⟨[], cs, rfl, by rw [R1s], h⟩
 | x :: a, b, cs, h => by
  rw [List.cons_append, R1s] at h
  obtain ⟨v, vs, rfl, h0, h1, h2⟩ := h
  obtain ⟨c1, c2, rfl, h3, h4⟩ := h2.split
  exact ⟨v :: c1, c2, rfl, by rw [R1s]; exact ⟨v, c1, rfl, h0, h1, h3⟩, h4⟩
mutual
theorem qqu {X : St} : ∀ (d : D) (cs : List Value), RC X d.av cs -> Rd X.w Any d cs
 | .int n, cs, h => by rw [D.av, RC] at h; rw [Rd]; exact h
 | .bool n, cs, h => by rw [D.av, RC] at h; rw [Rd]; exact h
 | .str n, cs, h => by rw [D.av, RC] at h; rw [Rd]; exact h
 | .st l, cs, h => by rw [D.av, RC] at h; rw [Rd]; exact qdj l cs h
 | .sl l, cs, h => by
  rw [D.av, RC] at h; rw [Rd]
  obtain ⟨A, cap, b, off, h1, h2, h3, h4, h5⟩ := h
  have hl : (D.avs l).length = l.length := by rw [D.avs_map]; simp
  rw [hl] at h1 h2 h4
  exact ⟨A, cap, b, off, h1, h2, h3, fun h => ⟨h4 h, trivial⟩, qmp l b off h5⟩
theorem qdj {X : St} : ∀ (l : List D) (cs : List Value), R1s X (D.cs l) cs -> RdS X.w Any l cs
 | [], cs, h => by rw [D.cs, R1s] at h; rw [RdS]; exact h
 | .st l' :: l, cs, h => by
  rw [D.cs] at h
  obtain ⟨c1, c2, rfl, h1, h2⟩ := h.split
  rw [RdS]
  exact ⟨c1, c2, rfl, by rw [Rd]; exact qdj l' c1 h1, qdj l c2 h2⟩
 | .int n :: l, cs, h => by
  rw [D.cs, R1s] at h
  obtain ⟨v, vs, rfl, h0, h1, h2⟩ := h
  rw [RdS]; rw [RC] at h1
  exact ⟨[v], vs, rfl, by rw [Rd]; exact h1, qdj l vs h2⟩
 | .bool n :: l, cs, h => by
  rw [D.cs, R1s] at h
  obtain ⟨v, vs, rfl, h0, h1, h2⟩ := h
  rw [RdS]; rw [RC] at h1
  exact ⟨[v], vs, rfl, by rw [Rd]; exact h1, qdj l vs h2⟩
 | .str n :: l, cs, h => by
  rw [D.cs, R1s] at h
  obtain ⟨v, vs, rfl, h0, h1, h2⟩ := h
  rw [RdS]; rw [RC] at h1
  exact ⟨[v], vs, rfl, by rw [Rd]; exact h1, qdj l vs h2⟩
 | .sl l' :: l, cs, h => by
  rw [D.cs, R1s] at h
  obtain ⟨v, vs, rfl, h0, h1, h2⟩ := h
  rw [RdS]
  refine ⟨[v], vs, rfl, ?_, qdj l vs h2⟩
  rw [RC] at h1; rw [Rd]
  obtain ⟨A, cap, b, off, h3, h4, h5, h6, h7⟩ := h1
  have hl : (D.avs l').length = l'.length := by rw [D.avs_map]; simp
  rw [hl] at h3 h4 h6
  exact ⟨A, cap, b, off, h3, h4, h5, fun h => ⟨h6 h, trivial⟩, qmp l' b off h7⟩
theorem qmp {X : St} : ∀ (l : List D) (b off : Nat), RM X (D.avs l) b off -> RdM X.w Any l b off
 | [], _, _, _ => by rw [RdM]; trivial
 | d :: l, b, off, h => by
  rw [D.avs, RM] at h; rw [RdM]
  obtain ⟨⟨cs, h1, h2⟩, h3⟩ := h
  rw [D.av_width] at h3
  exact ⟨⟨cs, h1.at, qqu d cs h2⟩, qmp l b _ h3⟩
end
theorem qjy {X : St} {b : Nat} (hS : ∀ o v, X.w.cell? ⟨b, o, none⟩ = some v -> X.S b o) : ∀ {cs : List Value} {off : Nat}, qw X.w b off cs -> qy X b off cs
 | [], _, _ => trivial
 | _ :: _, _, h => ⟨h.1, hS _ _ h.1, qjy hS h.2⟩
mutual
theorem qyq {X : St} {S : Nat -> Prop} (hS : ∀ b o v, S b -> X.w.cell? ⟨b, o, none⟩ = some v -> X.S b o) : ∀ (d : D) (cs : List Value), Rd X.w S d cs -> RC X d.av cs
 | .int n, cs, h => by rw [Rd] at h; rw [D.av, RC]; exact h
 | .bool n, cs, h => by rw [Rd] at h; rw [D.av, RC]; exact h
 | .str n, cs, h => by rw [Rd] at h; rw [D.av, RC]; exact h
 | .st l, cs, h => by rw [Rd] at h; rw [D.av, RC]; exact qdi hS l cs h
 | .sl l, cs, h => by
  rw [Rd] at h; rw [D.av, RC]
  obtain ⟨A, cap, b, off, h1, h2, h3, h4, h5⟩ := h
  have hl : (D.avs l).length = l.length := by rw [D.avs_map]; simp
  rw [hl]
  refine ⟨A, cap, b, off, h1, h2, h3, fun h => (h4 h).1, ?_⟩
  cases l with
  | nil => rw [D.avs, RM]; trivial
  | cons d l => exact qmr hS (d :: l) b off (h4 (by simp)).2 h5
theorem qdi {X : St} {S : Nat -> Prop} (hS : ∀ b o v, S b -> X.w.cell? ⟨b, o, none⟩ = some v -> X.S b o) : ∀ (l : List D) (cs : List Value), RdS X.w S l cs -> R1s X (D.cs l) cs
 | [], cs, h => by rw [RdS] at h; rw [D.cs, R1s]; exact h
 | .st l' :: l, cs, h => by
  rw [RdS] at h
  obtain ⟨c1, c2, rfl, h1, h2⟩ := h
  rw [Rd] at h1
  rw [D.cs]
  exact (qdi hS l' c1 h1).append (qdi hS l c2 h2)
 | .int n :: l, cs, h => by
  rw [RdS] at h
  obtain ⟨c1, c2, rfl, h1, h2⟩ := h
  rw [Rd] at h1; subst h1
  rw [D.cs, R1s]
  exact ⟨_, c2, rfl, rfl, by rw [RC], qdi hS l c2 h2⟩
 | .bool n :: l, cs, h => by
  rw [RdS] at h
  obtain ⟨c1, c2, rfl, h1, h2⟩ := h
  rw [Rd] at h1; subst h1
  rw [D.cs, R1s]
  exact ⟨_, c2, rfl, rfl, by rw [RC], qdi hS l c2 h2⟩
 | .str n :: l, cs, h => by
  rw [RdS] at h
  obtain ⟨c1, c2, rfl, h1, h2⟩ := h
  rw [Rd] at h1; subst h1
  rw [D.cs, R1s]
  exact ⟨_, c2, rfl, rfl, by rw [RC], qdi hS l c2 h2⟩
 | .sl l' :: l, cs, h => by
  rw [RdS] at h
  obtain ⟨c1, c2, rfl, h1, h2⟩ := h
  rw [Rd] at h1
  obtain ⟨A, cap, b, off, rfl, h4, h5, h6, h7⟩ := h1
  rw [D.cs, R1s]
  refine ⟨_, c2, rfl, rfl, ?_, qdi hS l c2 h2⟩
  have hl : (D.avs l').length = l'.length := by rw [D.avs_map]; simp
  rw [RC, hl]
  refine ⟨A, cap, b, off, rfl, h4, h5, fun h => (h6 h).1, ?_⟩
  cases l' with
  | nil => rw [D.avs, RM]; trivial
  | cons d l' => exact qmr hS (d :: l') b off (h6 (by simp)).2 h7
theorem qmr {X : St} {S : Nat -> Prop} (hS : ∀ b o v, S b -> X.w.cell? ⟨b, o, none⟩ = some v -> X.S b o) : ∀ (l : List D) (b off : Nat), S b -> RdM X.w S l b off -> RM X (D.avs l) b off
 | [], _, _, _, _ => by rw [D.avs, RM]; trivial
 | d :: l, b, off, hb, h => by
  rw [RdM] at h; rw [D.avs, RM]
  obtain ⟨⟨cs, h1, h2⟩, h3⟩ := h
  rw [D.av_width]
  exact ⟨⟨cs, qjy (fun o v => hS b o v hb) h1, qyq hS d cs h2⟩, qmr hS l b _ hb h3⟩
end
theorem qjc1 {P : Program} {f : FuncId} {args : List AV} {x : AV} (h : ∀ X vals, RRl X args vals -> Calls P f vals.toArray X.w fun r w' => Ext X.w w' /\ ∃ v, r = .returned v /\ RR (X.later w') x v) : Gives P f args x := by
 intro σ X vals nx hS hσ hfin hargs
 refine (h X vals hargs).mono ?_
 rintro r w' ⟨he, v, rfl, hR⟩
 exact ⟨X.later w', v, x, rfl, rfl, ⟨rfl, hσ⟩, qkq hS he, qfl hS he, hR⟩
theorem qvx {P : Program} {f : FuncId} {args : List AV} {u : Value} (h : ∀ X vals, RRl X args vals -> Calls P f vals.toArray X.w fun r w' => r = .returned u /\ Ext X.w w') : Gives P f args (.v u) :=
 qjc1 fun X vals ha => (h X vals ha).mono fun _ _ ⟨h1, h2⟩ => ⟨h2, u, h1, RR.v.2 rfl⟩
def St.flat (w : World) : St := { w := w, μ := fun _ => undef, S := fun b _ => b < w.heap.size, σ := fun _ => .unborn }
theorem qmu1 (w : World) (hg : qgd (GlobS (St.flat w))) : SR (St.flat w) where
 block := fun _ => trivial
 alone := fun r r' b h _ => by cases h
 apart := fun r b o h _ => by cases h
 old := fun _ _ h => h
 glob := hg
theorem qci {w : World} {S : Nat -> Prop} {d : D} {cs : List Value} (h : Rd w S d cs) : RC (St.flat w) d.av cs :=
 qyq (X := St.flat w) (S := S) (fun _ _ _ _ hc => World.block_lt_of_cell? w _ hc) d cs h
theorem qnd {P : Program} {f : FuncId} {args : List AV} {u : Value} {w : World} {vals : List Value} (h : Gives P f args (.v u)) (ha : RRl (St.flat w) args vals) (hg : qgd (GlobS (St.flat w)) := by exact trivial) : Calls P f vals.toArray w fun r w' => r = .returned u /\ Ext w w' := by
 refine (h _ (St.flat w) vals 0 (qmu1 w hg) rfl (fun _ _ => rfl) ha).mono ?_
 rintro e w' ⟨Y, v, x, rfl, rfl, ⟨rfl, -⟩, hS, hF, hR⟩
 rw [RR.v] at hR
 subst hR
 exact ⟨rfl, hF.os, hF.tape, hF.output, hF.size, fun k hk => hF.keep k hk fun r hr => by cases hr⟩
def Val.av (x : Val) : AV := .agg [.int x.k, .int x.n, .str x.s]
@[simp] theorem Val.av_nt (x : Val) : x.av.nt = true := rfl
@[simp] theorem Val.av_sure (x : Val) : x.av.sure = true := rfl
@[simp] theorem Val.av_elem (x : Val) : x.av.elem = true := rfl
@[simp] theorem Val.av_width (x : Val) : x.av.width = 3 := rfl
@[simp] theorem Val.av_pub (x : Val) : x.av.pub = x.av := by unfold Val.av; rw [AV.pub]; simp only [AV.pubs_cons, AV.pubs_nil, AV.pub_v, pubV, AV.pub_sl]
@[simp] theorem Val.av_cells (x : Val) : x.av.cells = [.int x.k, .int x.n, .str x.s] := rfl
@[simp] theorem Val.av_fold (x : Val) : AV.agg [.int x.k, .int x.n, .str x.s] = x.av := rfl
@[simp] theorem Val.av_val? (x : Val) : x.av.val? = none := rfl
@[simp] theorem Val.rd_all (x : Val) (σ : Nat -> AB) : rdAt σ true 3 (.ep x.av 0) = some x.av := rfl
@[simp] theorem Val.rd_0 (x : Val) (σ : Nat -> AB) (n : Nat) : rdAt σ false n (.ep x.av 0) = some (.int x.k) := rfl
@[simp] theorem Val.rd_1 (x : Val) (σ : Nat -> AB) (n : Nat) : rdAt σ false n (.ep x.av 1) = some (.int x.n) := rfl
@[simp] theorem Val.rd_2 (x : Val) (σ : Nat -> AB) (n : Nat) : rdAt σ false n (.ep x.av 2) = some (.str x.s) := rfl
@[simp] theorem Val.av_cl (x : Val) (m : Nat) : x.av.cl m := by unfold Val.av; simp [-Val.av_fold]
@[simp] theorem Val.avs_cl (l : List Val) (m : Nat) : AV.cls m (l.map Val.av) := AV.cls_map (fun f => f.av_cl m) l
@[simp] theorem Val.avs_wid (l : List Val) : AV.wid (l.map Val.av) 3 := AV.wid_map (f := Val.av) (fun a => a.av_width) l
@[simp] theorem Val.avs_elms (l : List Val) : AV.elms (l.map Val.av) := AV.elms_map (f := Val.av) (fun a => a.av_elem) l
theorem Val.q : qinfo Tryz.prog 63 = some [(0, 0), (1, 0), (2, 2)] := by kernel_rfl
def Val.eqB (x y : Val) : Bool := ((x.k == y.k) && ((x.n == y.n) && (x.s.toList == y.s.toList)))
@[simp] theorem Val.aeq (x y : Val) : Proofs.YtkedbjjfmejbhaaGreatDoor.aeq Tryz.prog .eql 63 x.av y.av = some (Val.eqB x y) := by
 simp only [Proofs.YtkedbjjfmejbhaaGreatDoor.aeq, aeqS, Val.q, Val.av, feq, feq1, Val.eqB]
 simp
@[simp] theorem Val.aneq (x y : Val) : Proofs.YtkedbjjfmejbhaaGreatDoor.aeq Tryz.prog .neq 63 x.av y.av = some (!Val.eqB x y) := by
 simp only [Proofs.YtkedbjjfmejbhaaGreatDoor.aeq, aeqS, Val.q, Val.av, feq, feq1, Val.eqB]
 simp
theorem Val.eqB_iff (x y : Val) : Val.eqB x y = true ↔ x = y := by
 obtain ⟨a0, a1, a2⟩ := x
 obtain ⟨b0, b1, b2⟩ := y
 simp only [Val.eqB, Bool.and_eq_true, beq_iff_eq, Val.mk.injEq, ByteArray.toList_eq]
 have e2 : a2.data.toList = b2.data.toList ↔ a2 = b2 := ⟨fun h => WideShapes.bytes_inj h, fun h => by rw [h]⟩
 rw [e2]
theorem Val.d_av (x : Val) : x.d.av = x.av := rfl
theorem Val.ds_av (l : List Val) : (D.sl (l.map Val.d)).av = .sl (l.map Val.av) := by
 rw [D.av, D.avs_map, List.map_map]
 first
 | rfl
 | (congr 1; exact List.map_congr_left fun x _ => x.d_av)
theorem Val.flat {w : World} {x : Val} {cs : List Value} (h : Rd w Any x.d cs) : RR1 (St.flat w) x.av (.agg cs.toArray) := by
 have := qci h
 rw [Val.d_av, Val.av, RC] at this
 exact ⟨cs, rfl, this⟩
theorem Val.flats {w : World} {l : List Val} {v : Value} (h : Rd w Any (.sl (l.map Val.d)) [v]) : RR1 (St.flat w) (.sl (l.map Val.av)) v := by
 have := qci h
 rw [Val.ds_av] at this
 exact this
mutual
def Ex.av : Ex -> AV
 | .mk o n s l => .agg [.int o, .int n, .str s, .sl (Ex.avs l)]
def Ex.avs : List Ex -> List AV
 | [] => []
 | e :: l => e.av :: Ex.avs l
end
theorem Ex.avs_map : ∀ l : List Ex, Ex.avs l = l.map Ex.av
 | [] => by rw [Ex.avs]; rfl
 | e :: l => by rw [Ex.avs, Ex.avs_map l]; rfl
@[simp] theorem Ex.av_mk (o n : Int) (s : ByteArray) (l : List Ex) : (Ex.mk o n s l).av = .agg [.int o, .int n, .str s, .sl (l.map Ex.av)] := by
 rw [Ex.av, Ex.avs_map]
theorem Ex.av_eq (e : Ex) : e.av = .agg [.int e.op, .int e.n, .str e.s, .sl (e.args.map Ex.av)] := by
 cases e; rw [Ex.av_mk]; rfl
@[simp] theorem Ex.av_fold (e : Ex) : AV.agg [.int e.op, .int e.n, .str e.s, .sl (e.args.map Ex.av)] = e.av := e.av_eq.symm
@[simp] theorem Ex.av_nt (e : Ex) : e.av.nt = true := by rw [Ex.av_eq]; rfl
@[simp] theorem Ex.av_pub (e : Ex) : e.av.pub = e.av := by rw [Ex.av_eq, AV.pub]; simp only [AV.pubs_cons, AV.pubs_nil, AV.pub_v, pubV, AV.pub_sl]
@[simp] theorem Ex.av_sure (e : Ex) : e.av.sure = true := by rw [Ex.av_eq]; rfl
@[simp] theorem Ex.av_cells (e : Ex) : e.av.cells = [.int e.op, .int e.n, .str e.s, .sl (e.args.map Ex.av)] := by rw [Ex.av_eq]; rfl
@[simp] theorem Ex.rd_all (e : Ex) (σ : Nat -> AB) : rdAt σ true 4 (.ep e.av 0) = some e.av := by rw [Ex.av_eq]; rfl
@[simp] theorem Ex.rd_0 (e : Ex) (σ : Nat -> AB) (n : Nat) : rdAt σ false n (.ep e.av 0) = some (.int e.op) := by rw [Ex.av_eq]; rfl
@[simp] theorem Ex.rd_1 (e : Ex) (σ : Nat -> AB) (n : Nat) : rdAt σ false n (.ep e.av 1) = some (.int e.n) := by rw [Ex.av_eq]; rfl
@[simp] theorem Ex.rd_2 (e : Ex) (σ : Nat -> AB) (n : Nat) : rdAt σ false n (.ep e.av 2) = some (.str e.s) := by rw [Ex.av_eq]; rfl
@[simp] theorem Ex.rd_3 (e : Ex) (σ : Nat -> AB) (n : Nat) : rdAt σ false n (.ep e.av 3) = some (.sl (e.args.map Ex.av)) := by rw [Ex.av_eq]; rfl
@[simp] theorem Ex.av_width (e : Ex) : e.av.width = 4 := by rw [Ex.av_eq]; rfl
@[simp] theorem Ex.av_elem (e : Ex) : e.av.elem = true := by rw [Ex.av_eq]; rfl
@[simp] theorem Ex.av_cl (e : Ex) (m : Nat) : e.av.cl m := by
 induction e using Ex.ind with | h o n s l ih => ?_
 rw [Ex.av_mk, AV.cl]
 simp only [AV.cls, AV.cl, true_and, and_true]
 rw [AV.cls_iff]
 intro x hx
 obtain ⟨e, he, rfl⟩ := List.mem_map.1 hx
 exact ih e he
@[simp] theorem Ex.avs_cl (l : List Ex) (m : Nat) : AV.cls m (l.map Ex.av) := by
 rw [AV.cls_iff]
 intro x hx
 obtain ⟨e, -, rfl⟩ := List.mem_map.1 hx
 exact e.av_cl m
def Ex.cells (e : Ex) : List AV := [.int e.op, .int e.n, .str e.s, .sl (e.args.map Ex.av)]
def Fn.av (f : Fn) : AV := .agg [.str f.name, .sl (f.params.map AV.int), .int f.res, .int f.body.op, .int f.body.n, .str f.body.s, .sl (f.body.args.map Ex.av)]
@[simp] theorem Fn.av_nt (f : Fn) : f.av.nt = true := rfl
@[simp] theorem Fn.av_sure (f : Fn) : f.av.sure = true := rfl
@[simp] theorem Fn.av_elem (f : Fn) : f.av.elem = true := rfl
@[simp] theorem Fn.av_width (f : Fn) : f.av.width = 7 := rfl
@[simp] theorem Fn.av_pub (f : Fn) : f.av.pub = f.av := by unfold Fn.av; rw [AV.pub]; simp only [AV.pubs_cons, AV.pubs_nil, AV.pub_v, pubV, AV.pub_sl]
@[simp] theorem Fn.av_cells (f : Fn) : f.av.cells = [.str f.name, .sl (f.params.map AV.int), .int f.res, .int f.body.op, .int f.body.n, .str f.body.s, .sl (f.body.args.map Ex.av)] := rfl
@[simp] theorem Fn.av_fold (f : Fn) : AV.agg [.str f.name, .sl (f.params.map AV.int), .int f.res, .int f.body.op, .int f.body.n, .str f.body.s, .sl (f.body.args.map Ex.av)] = f.av := rfl
@[simp] theorem Fn.av_cl (f : Fn) (m : Nat) : f.av.cl m := by unfold Fn.av; simp [-Fn.av_fold]
@[simp] theorem Fn.rd_all (f : Fn) (σ : Nat -> AB) : rdAt σ true 7 (.ep f.av 0) = some f.av := rfl
@[simp] theorem Fn.rd_0 (f : Fn) (σ : Nat -> AB) (n : Nat) : rdAt σ false n (.ep f.av 0) = some (.str f.name) := rfl
@[simp] theorem Fn.rd_1 (f : Fn) (σ : Nat -> AB) (n : Nat) : rdAt σ false n (.ep f.av 1) = some (.sl (f.params.map AV.int)) := rfl
@[simp] theorem Fn.rd_2 (f : Fn) (σ : Nat -> AB) (n : Nat) : rdAt σ false n (.ep f.av 2) = some (.int f.res) := rfl
@[simp] theorem Fn.rd_3 (f : Fn) (σ : Nat -> AB) : rdAt σ true 4 (.ep f.av 3) = some f.body.av := by rw [Ex.av_eq]; rfl
@[simp] theorem Fn.rd_30 (f : Fn) (σ : Nat -> AB) (n : Nat) : rdAt σ false n (.ep f.av 3) = some (.int f.body.op) := rfl
@[simp] theorem Fn.rd_31 (f : Fn) (σ : Nat -> AB) (n : Nat) : rdAt σ false n (.ep f.av 4) = some (.int f.body.n) := rfl
@[simp] theorem Fn.rd_32 (f : Fn) (σ : Nat -> AB) (n : Nat) : rdAt σ false n (.ep f.av 5) = some (.str f.body.s) := rfl
@[simp] theorem Fn.rd_33 (f : Fn) (σ : Nat -> AB) (n : Nat) : rdAt σ false n (.ep f.av 6) = some (.sl (f.body.args.map Ex.av)) := rfl
@[simp] theorem Fn.avs_cl (l : List Fn) (m : Nat) : AV.cls m (l.map Fn.av) := AV.cls_map (fun f => f.av_cl m) l
@[simp] theorem Ex.avs_wid (l : List Ex) : AV.wid (l.map Ex.av) 4 := AV.wid_map (f := Ex.av) (fun a => a.av_width) l
@[simp] theorem Ex.avs_elms (l : List Ex) : AV.elms (l.map Ex.av) := AV.elms_map (f := Ex.av) (fun a => a.av_elem) l
@[simp] theorem Fn.avs_wid (l : List Fn) : AV.wid (l.map Fn.av) 7 := AV.wid_map (f := Fn.av) (fun a => a.av_width) l
@[simp] theorem Fn.avs_elms (l : List Fn) : AV.elms (l.map Fn.av) := AV.elms_map (f := Fn.av) (fun a => a.av_elem) l
theorem qie1 {P : Program} {c : Code} {Q : Exit -> AS -> Prop} {n n0 : Nat} {t : Nat -> AV} {σ : Nat -> AB} {L : List AB} (d : Nat) {r : Nat} {l : List AV} (hd : t d = .gs r l)
  (h : awp P c Q ⟨n, upd t d (.sl l), σ, n0, L⟩) : awp P c Q ⟨n, t, σ, n0, L⟩ := by
 intro X0 a w ⟨X, hc⟩
 refine h X0 a w ⟨X, ⟨hc.w, hc.σ, hc.sr, hc.fr, hc.size, fun k => ?_, hc.defers, hc.fin⟩⟩
 show RR X (upd t d _ k) _
 unfold upd
 by_cases hk : k = d
 .subst hk
  rw [if_pos rfl]
  have h1 := hc.regs k
  change RR X (t k) _ at h1
  rw [hd] at h1
  have h2 : RC X (.gs r l) [_] := h1
  have h3 := RC.pub1 (x := .gs r l) rfl h2
  rw [AV.pub] at h3
  exact h3
 .rw [if_neg hk]; exact hc.regs k
end Go.Proofs.YtkedbjjfmejbhaaGreatDoor
