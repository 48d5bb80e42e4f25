/- Regions that draw their order, computed: what simp runs. -/
import Derived.KernelRfl
import Derived.WideShapes
import Derived.Laws.Strings
import Derived.Test.YtbkkjlcclddpdaaGreatDoorGd1
import Derived.Test.YtbkkjlcclddpdaaGreatDoorGd8
import Derived.Test.YtbkkjlcclddpdaaGreatDoorGd9
set_option linter.unusedSimpArgs false
set_option linter.unusedVariables false
namespace Go.Proofs.YtbkkjlcclddpdaaGreatDoor
open Go.RowKit Go.Lib
section
variable {P : Program}
theorem qdo {s : AS} {o : Op} {x : AV} {τ : Nat → AB} (h : ∀ s' : AS, (∀ y ∈ o.operands, s'.eval y = s.eval y) → s'.st = s.st → s'.nx = s.nx → EOp P s' o (fun x1 s1 => x1 = x ∧ s1.st = τ)) : WOp P s.eval s.st o x τ := by
  classical
  intro X a oper ho hS hd hσ hev Q
  let s' : AS := { n := a.tmps.size, t := fun d => if Operand.tmp d ∈ o.operands then s.t d else .any, σ := s.st, n0 := s.nx, L := [] }
  have hst : s'.st = s.st := by
    funext r
    show loc s.st s.nx [] r = s.st r
    unfold loc
    split
    · rfl
    · rw [s.fin r (by omega)]; rfl
  have he : ∀ y ∈ o.operands, s'.eval y = s.eval y := fun y hy => by
    cases y with
    | tmp d => exact if_pos hy
    | _ => rfl
  have hc : Con X s' a X.w X := ⟨rfl, by rw [hst, hσ], hS, Fr.refl X, rfl, fun d => by
    show RR X (if Operand.tmp d ∈ o.operands then s.t d else .any) _
    split
    · rename_i hy; exact hev _ hy
    · trivial, hd, by rw [hσ]; exact s.fin⟩
  refine OwpA.mono ?_ (h s' he hst rfl X a X.w X oper ho hc Q)
  rintro a' w' ⟨v, x1, s1, X', rfl, ⟨rfl, h2⟩, hc', hR⟩
  exact ⟨v, X', rfl, hc'.w, hc'.sr, hc'.fr, hR, by rw [hc'.σ, h2]⟩
def AGives (P : Program) (f : FuncId) (args : List AV) (σ : Nat → AB) (K : AV → Prop) : Prop := ∃ x, GivesS P f args σ x ∧ K x
theorem qo {f : FuncId} {args : List AV} {σ : Nat → AB} {K : AV → Prop} {x : AV} (h : Gives P f args x) (hK : K x) : AGives P f args σ K := ⟨x, h.s σ, hK⟩
theorem agH {f : FuncId} {args : List AV} {σ : Nat → AB} {K : AV → Prop} {x : AV} (hK : K x) (h : Gives P f args x := by assumption) : AGives P f args σ K := qo h hK
def aevM (P : Program) (s : AS) (o : Op) (K : AV → Option AB → Prop) : Prop :=
  match o with
  | .call { callee := .value (.func f), args := ⟨args⟩, .. } => nts (args.map s.eval) = true ∧ enters P f = true ∧ AGives P f ((args.map s.eval).map AV.pub) s.st (fun x => K x none)
  | .call { callee := .value (.tmp d), args := ⟨args⟩, .. } => match s.t d with
    | .fn f caps => nts (args.map s.eval) = true ∧ enters P f = true ∧ AGives P f ((args.map s.eval).map AV.pub ++ caps) s.st (fun x => K x none)
    | _ => False
  | o => aevF P s o K
theorem qet {s : AS} {o : Op} {K : AV → Option AB → Prop} (h : aevM P s o K) : ∃ x nb, FOp2 P s.eval s.st o x (nb.map (s.nx, ·)) ∧ K x nb := by
  unfold aevM at h
  split at h
  · obtain ⟨h1, h2, x, h3, h4⟩ := h
    exact ⟨x, none, fop2_call h2 (qdr h1) h3, h4⟩
  · split at h
    · obtain ⟨h1, h2, x, h3, h4⟩ := h
      exact ⟨x, none, fop2_callF ‹_› h2 (qdr h1) h3, h4⟩
    · exact h.elim
  · obtain ⟨x, nb, h1, h2⟩ := qcd h
    exact ⟨x, nb, h1.two, h2⟩
def AS.blind (m : List AB) (s : AS) : AS := { s with σ := fun _ => .unborn, L := m }
theorem blind_st (m : List AB) (s : AS) : (s.blind m).st = loc (fun _ => .unborn) s.n0 m := rfl
def qco : List AB → List AB → Prop
  | [], _ => True
  | .unborn :: m, L => qco m L.tail
  | ab :: m, L => L.head? = some ab ∧ qco m L.tail
theorem keepsL_get : ∀ {m L : List AB} {i : Nat} {ab : AB}, qco m L → m[i]? = some ab → ab ≠ .unborn → L[i]? = some ab
  | [], _, _, _, _, h, _ => by simp at h
  | x :: m, L, i, ab, hk, h, hne => by
    have hh : (x ≠ .unborn → L.head? = some x) ∧ qco m L.tail := by
      cases x <;> simp_all [qco]
    cases i with
    | zero =>
      simp at h; subst h
      rw [← List.head?_eq_getElem?]; exact hh.1 hne
    | succ i =>
      have := keepsL_get hh.2 (by simpa using h) hne
      cases L with
      | nil => simp at this
      | cons y L => simpa using this
theorem kept_of {m : List AB} {s : AS} {n0 : Nat} (hn : s.n0 = n0) (h : qco m s.L) : ∀ r, loc (fun _ => .unborn) n0 m r ≠ .unborn → s.st r = loc (fun _ => .unborn) n0 m r := fun r hr => by
  subst hn
  show loc s.σ s.n0 s.L r = _
  unfold loc at hr ⊢
  by_cases hlt : r < s.n0
  · rw [if_pos hlt] at hr; exact absurd rfl hr
  · rw [if_neg hlt] at hr
    rw [if_neg hlt, if_neg hlt]
    rw [List.getD_eq_getElem?_getD] at hr
    cases hm : m[r - s.n0]? with
    | none => rw [hm] at hr; exact absurd rfl hr
    | some ab =>
      rw [hm] at hr
      rw [List.getD_eq_getElem?_getD, List.getD_eq_getElem?_getD, hm, keepsL_get h hm hr]
def aevW (P : Program) (s : AS) (o : Op) (K : AV → AS → Prop) : Prop :=
  match o with
  | .store t p y => stC P s t p y K
  | .mapUpdate t m k y => match s.eval m with
    | .own r _ => match s.st r with
      | .obj I => AUpd P t I (s.eval k) (s.eval y) (fun I' => K .any (s.set r (.obj I')))
      | _ => False
    | _ => False
  | .call { callee := .value (.func f), args := ⟨args⟩, .. } => nts (args.map s.eval) = true ∧ enters P f = true ∧ ACall P f ((args.map s.eval).map AV.pub) s K
  | .call { callee := .value (.tmp d), args := ⟨args⟩, .. } => match s.t d with
    | .fn f caps => nts (args.map s.eval) = true ∧ enters P f = true ∧ ACall P f ((args.map s.eval).map AV.pub ++ caps) s K
    | _ => False
  | .call { callee := .builtin .append, args := ⟨[x, y]⟩, argTypes := ⟨[t, t']⟩ } => t' = t ∧ (match vinfo P t with
    | some (e, sz, by_) => match s.eval x, s.eval y with
      | .gs r l, y => match s.st r, y.list with
        | .tail n e' sz', some ys => e' = e ∧ sz' = sz ∧ n = l.length ∧ AV.wid l sz ∧ AV.wid ys sz ∧ AV.elms ys ∧ (l.length + ys.length) * by_ ≤ 140737488355328 ∧ K (.gs r (l ++ ys)) (s.set r (.tail (l.length + ys.length) e sz))
        | _, _ => False
      | .v (.slice none 0 0), y => match y.list with
        | some ys => 0 < ys.length ∧ AV.wid ys sz ∧ AV.elms ys ∧ ys.length * by_ ≤ 140737488355328 ∧ K (.gs s.nx ys) (s.ext (some (.tail ys.length e sz)))
        | none => False
      | _, _ => False
    | none => False)
  | .buildSlice t 0 ⟨[]⟩ => match vinfo P t with
    | some (e, sz, _) => K (.gs s.nx []) (s.ext (some (.tail 0 e sz)))
    | none => False
  | _ => False
theorem set_lt {s : AS} {r : Nat} {ab : AB} (h : s.st r = ab) (hne : ab ≠ .unborn) : r < s.nx := Nat.lt_of_not_le fun hle => hne (h.symm.trans (s.fin r hle))
theorem qdy {s : AS} {o : Op} {K : AV → AS → Prop} (h : aevW P s o K) : ∃ x s1, WOp P s.eval s.st o x s1.st ∧ (s1.t = s.t ∧ s1.n = s.n ∧ s1.n0 = s.n0) ∧ K x s1 := by
  unfold aevW at h
  split at h
  · rename_i t p y
    obtain ⟨s1, h1, h2, h3⟩ := stC_st h
    exact ⟨.any, s1, qdo fun s' he hst hnx => stC_sound (h3 s' (he p (by simp [Op.operands])) (he y (by simp [Op.operands])) hst hnx), h1, h2⟩
  · rename_i t m k y
    split at h
    · rename_i r n hm
      split at h
      · rename_i I hσ
        obtain ⟨h1, I', h2, h3⟩ := h
        have hr := set_lt hσ (by simp)
        refine ⟨.any, _, qdo fun s' he hst hnx => ?_, ⟨(s.set_nx r _).2.2, (s.set_nx r _).1, (s.set_nx r _).2.1⟩, h3⟩
        have em := he m (by simp [Op.operands])
        have ek := he k (by simp [Op.operands])
        have ey := he y (by simp [Op.operands])
        refine qgi (.inl rfl) (by rw [em]; exact hm) (by rw [hst]; exact hσ) h1 (by rw [ek, ey]; exact h2) ⟨rfl, ?_⟩
        rw [AS.set_st _ _ _ (by rw [hnx]; exact hr), AS.set_st _ _ _ hr, hst]
      · exact h.elim
    · exact h.elim
  · obtain ⟨h1, h2, x, s1, h3, h4, h5⟩ := h
    exact ⟨x, s1, wop_call h2 (qdr h1) h3, h4, h5⟩
  · split at h
    · obtain ⟨h1, h2, x, s1, h3, h4, h5⟩ := h
      exact ⟨x, s1, wop_callF ‹_› h2 (qdr h1) h3, h4, h5⟩
    · exact h.elim
  · rename_i x y t t'
    obtain ⟨rfl, h⟩ := h
    split at h
    · rename_i e sz by_ ht
      split at h
      · rename_i r l hx
        split at h
        · rename_i n e' sz' ys hσ hy
          obtain ⟨rfl, rfl, rfl, h3, h4, h5, h6, h7⟩ := h
          have hr := set_lt hσ (by simp)
          refine ⟨_, _, qdo fun s' he hst hnx => ?_, ⟨(s.set_nx r _).2.2, (s.set_nx r _).1, (s.set_nx r _).2.1⟩, h7⟩
          have ex := he x (by simp [Op.operands, Call.operands])
          have ey := he y (by simp [Op.operands, Call.operands])
          refine eop_appendG0 ht (by rw [ex]; exact hx) (by rw [hst]; exact hσ) (by rw [ey]; exact hy) h3 h4 h5 h6 ⟨rfl, ?_⟩
          rw [AS.set_st _ _ _ (by rw [hnx]; exact hr), AS.set_st _ _ _ hr, hst]
        · exact h.elim
      · rename_i hx
        split at h
        · rename_i ys hy
          obtain ⟨h2, h4, h5, h6, h7⟩ := h
          refine ⟨_, s.ext (some (.tail ys.length e sz)), qdo fun s' he hst hnx => ?_, ⟨rfl, rfl, rfl⟩, h7⟩
          have ex := he x (by simp [Op.operands, Call.operands])
          have ey := he y (by simp [Op.operands, Call.operands])
          refine eop_appendN ht (by rw [ex]; exact hx) (by rw [ey]; exact hy) h2 h4 h5 h6 ⟨by rw [hnx], ?_⟩
          rw [(qeo s' _).1, (qeo s _).1, hst, hnx]
        · exact h.elim
      · exact h.elim
    · exact h.elim
  · split at h
    · rename_i e sz by_ ht
      refine ⟨.gs s.nx [], s.ext (some (.tail 0 e sz)), qdo fun s' he hst hnx => ?_, ⟨rfl, rfl, rfl⟩, h⟩
      refine eop_fun (nb := some (.tail 0 e sz)) (fop_emptySlice ht) ⟨by rw [hnx], ?_⟩
      rw [(qeo s' _).1, (qeo s _).1, hst, hnx]
    · exact h.elim
  · exact h.elim
theorem fop_es {ev : Operand → AV} {σ : Nat → AB} {t e : TypeId} {sz by_ : Nat} (ht : vinfo P t = some (e, sz, by_)) : FOp P ev σ (.buildSlice t 0 #[]) .es none := by
  intro X a oper ho hS hsub hev hnb Q
  obtain ⟨hut, i, z, hi, hzz, hsz, hby, hzs, hsz0, hby0, hz1⟩ := qbm ht
  have hE : Ext X.w (X.w.alloc (.cells #[] e)) := (Ext.refl X.w).alloc _
  refine qbb (w' := X.w.alloc (.cells #[] e)) (v := .slice (some ⟨X.w.heap.size, 0, none⟩) 0 0) ?_ ⟨_, X.later _, rfl, rfl, later_sr hS hE, qer hS hE, ?_, rfl⟩
  · simp [execOp, ho, Instr.buildSlice, run_underlying hut, sizeOf, typeInfo, hi, Instr.fill, newRow, Array.range_zero']
  · show RC (X.later (X.w.alloc (.cells #[] e))) .es [_]
    rw [RC]; exact ⟨_, rfl⟩
theorem fop_appendE {ev : Operand → AV} {σ : Nat → AB} {t e : TypeId} {sz by_ : Nat} {x y : Operand} {ys : List AV} (ht : vinfo P t = some (e, sz, by_)) (hx : ev x = .es) (hyl : (ev y).list = some ys) (hw : ∀ z ∈ ys, z.width = sz) (h1 : ∀ z ∈ ys, z.elem = true) (hb : ys.length * by_ ≤ 140737488355328) :
    FOp P ev σ (.call { callee := .builtin .append, args := #[x, y], argTypes := #[t, t] }) (.sl ys) none := by
  intro X a oper ho hS hsub hev hnb Q
  obtain ⟨hu1, i, z, hi, hz, hsz, hby, hzs, hsz0, hby0, -⟩ := qbm ht
  subst hsz; subst hby
  have h2 := hev x (by simp [Op.operands, Call.operands])
  rw [hx] at h2
  change RC X .es [_] at h2
  rw [RC] at h2
  obtain ⟨A0, h2⟩ := h2
  have hxv : a.eval x = .slice (some A0) 0 0 := by simpa using h2
  obtain ⟨A, cap, b, off, hyv', hc1, hc2, hA, hm⟩ := RR.list hyl (hev y (by simp [Op.operands, Call.operands]))
  by_cases hne : 0 < ys.length
  · obtain rfl := hA hne
    obtain ⟨news, hr2, hcell⟩ := hm.row
    have hlen : ys.length ≤ 140737488355328 := Nat.le_trans (Nat.le_mul_of_pos_right _ hby0) hb
    have hnl := RCs.len hr2 hw
    have hnc : ∀ j u, news[j]? = some u → X.w.cell? ((⟨b, off, none⟩ : Addr).add j) = some u := fun j u hj => by rw [qbf]; exact hcell.at.get j u hj
    have hr := run_append_grow (P := P) X.w t oper.type e i z hu1 hi hz A0 0 0 [] (by simp) (fun j v h => by simp at h) ⟨b, off, none⟩ ys.length cap news hnl hnc (by omega) (by omega) (growslice_fits (by omega) (by simpa using hb))
    rw [Nat.zero_add] at hr
    obtain ⟨cap2, hcap⟩ : ∃ cap2, cap2 = grownCap X.w ys.length 0 e := ⟨_, rfl⟩
    rw [← hcap] at hr
    have hge : ys.length ≤ cap2 := by rw [hcap]; exact grownCap_ge _ _ _ _
    have hcm : cap2 ≤ 9223372036854775807 := by rw [hcap]; exact grownCap_le_maxLen _ _ _ _ (by unfold maxLen; omega)
    have hE : Ext X.w (X.w.drew.alloc (.cells (([] : List Value).toArray ++ news.toArray ++ Builtin.zeroCells z.cells (cap2 - ys.length)) e)) := (Ext.refl X.w).drew.alloc _
    refine qbb (w' := X.w.drew.alloc (.cells (([] : List Value).toArray ++ news.toArray ++ Builtin.zeroCells z.cells (cap2 - ys.length)) e)) (v := .slice (some ⟨X.w.heap.size, 0, none⟩) ys.length cap2) (by
      simp only [execOp, ho]
      simp [resolve, invoke, builtin, hxv, hyv', hr]) ⟨_, X.later _, rfl, rfl, later_sr hS hE, qer hS hE, ?_, rfl⟩
    show RC _ (.sl ys) [_]
    rw [RC]
    refine ⟨some ⟨X.w.heap.size, 0, none⟩, cap2, X.w.heap.size, 0, rfl, hge, hcm, fun _ => rfl, RM.of (RCs.fr (qer hS hE) _ _ hr2) (qei _ 0 fun j u hj => ⟨?_, .inr ⟨Nat.le_refl _, by simp [World.size_alloc]⟩⟩)⟩
    have := cells_new X.w.drew (([] : List Value).toArray ++ news.toArray ++ Builtin.zeroCells z.cells (cap2 - ys.length)) e j u (by
      have hjl := (List.getElem?_eq_some_iff.1 hj).1
      rw [Array.toList_append, Array.toList_append, List.getElem?_append_left (by simpa using hjl)]
      simpa using hj)
    rw [qbf] at this
    exact this
  · obtain rfl : ys = [] := List.eq_nil_of_length_eq_zero (by omega)
    refine qbb (w' := X.w) (v := a.eval x) (by rw [List.length_nil] at hyv'; simp [execOp, ho, resolve, invoke, builtin, hxv, hyv', qdt hu1 hi (some A0) A 0 0 cap (Nat.le_refl _)])
      ⟨a.eval x, X, rfl, rfl, hS, Fr.refl X, ?_, rfl⟩
    show RC X (.sl []) [_]
    rw [hxv, RC]
    exact ⟨some A0, 0, A0.block, 0, rfl, Nat.le_refl _, by omega, fun h => absurd h (by simp), by rw [RM]; trivial⟩
def aevR (P : Program) (s : AS) (o : Op) (K : AV → Option AB → Prop) : Prop :=
  match o with
  | .buildSlice t 0 ⟨[]⟩ => match vinfo P t with
    | some _ => K .es none
    | none => False
  | .call { callee := .builtin .append, args := ⟨[x, y]⟩, argTypes := ⟨[t, t']⟩ } => t' = t ∧ (match vinfo P t with
    | some (_, sz, by_) => match s.eval x, (s.eval y).list with
      | .es, some ys => AV.wid ys sz ∧ AV.elms ys ∧ ys.length * by_ ≤ 140737488355328 ∧ K (.sl ys) none
      | _, _ => False
    | none => False)
  | o => aevF P s o K
theorem aevR_sound {s : AS} {o : Op} {K : AV → Option AB → Prop} (h : aevR P s o K) : ∃ x nb, FOp P s.eval s.st o x (nb.map (s.nx, ·)) ∧ K x nb := by
  unfold aevR at h
  split at h
  · split at h
    · exact ⟨.es, none, fop_es ‹_›, h⟩
    · exact h.elim
  · obtain ⟨rfl, h⟩ := h
    split at h
    · split at h
      · exact ⟨_, none, fop_appendE ‹_› ‹_› ‹_› h.1 h.2.1 h.2.2.1, h.2.2.2⟩
      · exact h.elim
    · exact h.elim
  · exact qcd h
def only (q : Nat) (σ : Nat → AB) : Nat → AB := fun k => if k = q then σ q else .unborn
def AS.eyes (q : Nat) (s : AS) : AS := { s with σ := only q s.st, L := [] }
def ql (P : Program) (ops : Array Oper) (m : List AB) (q : Nat) (K : AS → Prop) : List Oper → List RK → AS → Prop
  | [], _, s => K s
  | o :: l, ks, s => match awant ops o s.t with
    | some b => qcb b (match ks.headD .R with
      | .R => aevR P (s.blind m) o.op (fun x nb => nb = none ∧ dstOk o.dst s.n ∧ ql P ops m q K l ks.tail (s.put o.dst x))
      | .M => aevM P s o.op (fun x nb => dstOk o.dst s.n ∧ ql P ops m q K l ks.tail ((s.ext nb).put o.dst x))
      | .W => aevW P s o.op (fun x s1 => dstOk o.dst s.n ∧ qco m s1.L ∧ ql P ops m q K l ks.tail (s1.put o.dst x))
      | .N => q < s.n0 ∧ aevF P (s.eyes q) o.op (fun x nb => nb = none ∧ dstOk o.dst s.n ∧ ql P ops m q K l ks.tail (s.put o.dst x))
      | .A => aevW P s o.op (fun x s1 => dstOk o.dst s.n ∧ qco m s1.L ∧ s1.st q = s.st q ∧ ql P ops m q K l ks.tail (s1.put o.dst x))) (dstOk o.dst s.n ∧ ql P ops m q K l ks.tail (s.put o.dst (.v undef)))
    | none => False
structure AnyRaw (P : Program) (ops : Array Oper) (l : List Oper) (ks : List RK) (st s1 : Nat → AS) (xs : Nat → AV) (bs : Nat → Bool) (nbs : Nat → Option AB) (κ : Nat → AB) (q : Nat) : Prop where
  kept : ∀ r, κ r ≠ .unborn → ∀ j, j ≤ l.length → (st j).st r = κ r
  eye : q < (st 0).n0 → ∀ i, i < l.length → ks.getD i .R ≠ .W → (st (i + 1)).st q = (st i).st q
  want : ∀ i o, l[i]? = some o → awant ops o (st i).t = some (bs i)
  dst : ∀ i o, l[i]? = some o → dstOk o.dst (st i).n
  next : ∀ i o, l[i]? = some o → st (i + 1) = (s1 i).put o.dst (xs i)
  same : ∀ i o, l[i]? = some o → (s1 i).t = (st i).t ∧ (s1 i).n = (st i).n ∧ (s1 i).n0 = (st i).n0
  skip : ∀ i o, l[i]? = some o → bs i = false → xs i = .v undef ∧ s1 i = st i ∧ nbs i = none
  opR : ∀ i o, l[i]? = some o → bs i = true → ks.getD i .R = .R → FOp2 P (st i).eval κ o.op (xs i) none ∧ s1 i = st i ∧ nbs i = none
  opN : ∀ i o, l[i]? = some o → bs i = true → ks.getD i .R = .N → FOp2 P (st i).eval (only q (st i).st) o.op (xs i) none ∧ s1 i = st i ∧ nbs i = none ∧ q < (st i).n0
  opM : ∀ i o, l[i]? = some o → bs i = true → ks.getD i .R = .M → FOp2 P (st i).eval (st i).st o.op (xs i) ((nbs i).map ((st i).nx, ·)) ∧ s1 i = (st i).ext (nbs i)
  opW : ∀ i o, l[i]? = some o → bs i = true → (ks.getD i .R).base = .W → WOp P (st i).eval (st i).st o.op (xs i) (s1 i).st ∧ nbs i = none
theorem eyes_st {s : AS} {q : Nat} (h : q < s.n0) : (s.eyes q).st = only q s.st := by
  funext k
  show loc (only q s.st) s.n0 [] k = _
  unfold loc only
  split
  · rfl
  · rename_i hk
    rw [if_neg (by omega)]; rfl
theorem anyC_steps {ops : Array Oper} {m : List AB} {q : Nat} {n0 : Nat} {K : AS → Prop} : ∀ (l : List Oper) (ks : List RK) (s : AS), s.n0 = n0 → (∀ r, loc (fun _ => .unborn) n0 m r ≠ .unborn → s.st r = loc (fun _ => .unborn) n0 m r) → ql P ops m q K l ks s → ∃ st s1 xs bs nbs, AnyRaw P ops l ks st s1 xs bs nbs (loc (fun _ => .unborn) n0 m) q ∧ st 0 = s ∧ K (st l.length)
  | [], ks, s, hn0, hke, h => by
    refine ⟨fun _ => s, fun _ => s, fun _ => .any, fun _ => true, fun _ => none, ⟨fun r hr j _ => hke r hr, fun _ _ hi => absurd hi (Nat.not_lt_zero _), ?_, ?_, ?_, ?_, ?_, ?_, ?_, ?_, ?_⟩, rfl, h⟩ <;> (intro i o ho; simp at ho)
  | o :: l, ks, s, hn0, hke, h => by
    have key : ∀ (x : AV) (b : Bool) (nb : Option AB) (s1 : AS), awant ops o s.t = some b → dstOk o.dst s.n → (s1.t = s.t ∧ s1.n = s.n ∧ s1.n0 = s.n0) → (ks.headD .R ≠ .W → q < s.n0 → s1.st q = s.st q) → (b = false → x = .v undef ∧ s1 = s ∧ nb = none) →
        (b = true → ks.headD .R = .R → FOp2 P s.eval (loc (fun _ => .unborn) n0 m) o.op x none ∧ s1 = s ∧ nb = none) → (b = true → ks.headD .R = .N → FOp2 P s.eval (only q s.st) o.op x none ∧ s1 = s ∧ nb = none ∧ q < s.n0) → (b = true → ks.headD .R = .M → FOp2 P s.eval s.st o.op x (nb.map (s.nx, ·)) ∧ s1 = s.ext nb) →
        (b = true → (ks.headD .R).base = .W → WOp P s.eval s.st o.op x s1.st ∧ nb = none) → (∀ r, loc (fun _ => .unborn) n0 m r ≠ .unborn → s1.st r = loc (fun _ => .unborn) n0 m r) → ql P ops m q K l ks.tail (s1.put o.dst x) → ∃ st s1 xs bs nbs, AnyRaw P ops (o :: l) ks st s1 xs bs nbs (loc (fun _ => .unborn) n0 m) q ∧ st 0 = s ∧ K (st (o :: l).length) := by
      intro x b nb s1 hw hd hsame hq hskip hR hN hM hW hke1 hrest
      obtain ⟨st, s1', xs, bs, nbs, hs, h0, hK⟩ := anyC_steps (n0 := n0) l ks.tail _ (by rw [(qds s1 o.dst x).2.2.2, hsame.2.2]; exact hn0) (fun r hr => by rw [(qds s1 o.dst x).1]; exact hke1 r hr) hrest
      have hks : ∀ i, ks.getD (i + 1) .R = ks.tail.getD i .R := fun i => by cases ks <;> simp
      have hk0 : ks.getD 0 .R = ks.headD .R := by cases ks <;> simp
      refine ⟨fun i => match i with | 0 => s | i + 1 => st i, fun i => match i with | 0 => s1 | i + 1 => s1' i, fun i => match i with | 0 => x | i + 1 => xs i, fun i => match i with | 0 => b | i + 1 => bs i, fun i => match i with | 0 => nb | i + 1 => nbs i, ⟨fun r hr j hj => (match j with | 0 => hke r hr | j + 1 => hs.kept r hr j (by simpa using hj)), fun hql i hi hkk => (match i with | 0 => ?_ | i + 1 => ?_), ?_, ?_, ?_, ?_, ?_, ?_, ?_, ?_, ?_⟩, rfl, hK⟩
      · show (st 0).st q = s.st q
        rw [h0, (qds s1 o.dst x).1]
        exact hq (by rw [← hk0]; exact hkk) hql
      · refine hs.eye ?_ i (by simpa using hi) (by rw [← hks]; exact hkk)
        have hql' : q < s.n0 := hql
        rw [h0, (qds s1 o.dst x).2.2.2, hsame.2.2]; exact hql'
      all_goals (intro i o' ho; cases i)
      · simp at ho; subst ho; exact hw
      · exact hs.want _ o' (by simpa using ho)
      · simp at ho; subst ho; exact hd
      · exact hs.dst _ o' (by simpa using ho)
      · simp at ho; subst ho; exact h0
      · exact hs.next _ o' (by simpa using ho)
      · simp at ho; subst ho; exact hsame
      · exact hs.same _ o' (by simpa using ho)
      · simp at ho; subst ho; exact hskip
      · exact hs.skip _ o' (by simpa using ho)
      · simp at ho; subst ho; rw [hk0]; exact hR
      · rw [hks]; exact hs.opR _ o' (by simpa using ho)
      · simp at ho; subst ho; rw [hk0]; exact hN
      · rw [hks]; exact hs.opN _ o' (by simpa using ho)
      · simp at ho; subst ho; rw [hk0]; exact hM
      · rw [hks]; exact hs.opM _ o' (by simpa using ho)
      · simp at ho; subst ho; rw [hk0]; exact hW
      · rw [hks]; exact hs.opW _ o' (by simpa using ho)
    rw [ql] at h
    split at h
    · rename_i bb hw
      cases bb with
      | true =>
        replace h := h.1 rfl
        split at h
        · rename_i hk
          obtain ⟨x, nb, h1, rfl, h2, h3⟩ := aevR_sound h
          rw [blind_st, hn0] at h1
          exact key x true none s hw h2 ⟨rfl, rfl, rfl⟩ (fun _ _ => rfl) (fun e => by cases e) (fun _ _ => ⟨h1.two, rfl, rfl⟩) (fun _ e => by rw [hk] at e; cases e) (fun _ e => by rw [hk] at e; cases e) (fun _ e => by rw [hk] at e; cases e) hke h3
        · rename_i hk
          obtain ⟨x, nb, h1, h2, h3⟩ := qet h
          exact key x true nb (s.ext nb) hw h2 (by cases nb <;> exact ⟨rfl, rfl, rfl⟩) (fun _ hq => by
            cases nb with
            | none => rfl
            | some ab => rw [(qeo s ab).1]; unfold upd; rw [if_neg (by have : s.n0 ≤ s.nx := Nat.le_add_right _ _; omega)]) (fun e => by cases e) (fun _ e => by rw [hk] at e; cases e) (fun _ e => by rw [hk] at e; cases e) (fun _ _ => ⟨h1, rfl⟩) (fun _ e => by rw [hk] at e; cases e) (fun r hr => by
            cases nb with
            | none => exact hke r hr
            | some ab =>
              have h0 := hke r hr
              have hlt : r < s.nx := Nat.lt_of_not_le fun hle => hr (h0.symm.trans (s.fin r hle))
              rw [(qeo s ab).1]; unfold upd; rw [if_neg (by omega)]; exact h0) h3
        · rename_i hk
          obtain ⟨x, s1, h1, h2, h3, h5, h4⟩ := qdy h
          exact key x true none s1 hw h3 h2 (fun e => absurd hk e) (fun e => by cases e) (fun _ e => by rw [hk] at e; cases e) (fun _ e => by rw [hk] at e; cases e) (fun _ e => by rw [hk] at e; cases e) (fun _ _ => ⟨h1, rfl⟩) (kept_of (h2.2.2.trans hn0) h5) h4
        · rename_i hk
          obtain ⟨hq, h⟩ := h
          obtain ⟨x, nb, h1, rfl, h2, h3⟩ := qcd h
          rw [eyes_st hq] at h1
          exact key x true none s hw h2 ⟨rfl, rfl, rfl⟩ (fun _ _ => rfl) (fun e => by cases e) (fun _ e => by rw [hk] at e; cases e) (fun _ _ => ⟨h1.two, rfl, rfl, hq⟩) (fun _ e => by rw [hk] at e; cases e) (fun _ e => by rw [hk] at e; cases e) hke h3
        · rename_i hk
          obtain ⟨x, s1, h1, h2, h3, h5, h7, h4⟩ := qdy h
          exact key x true none s1 hw h3 h2 (fun _ _ => h7) (fun e => by cases e) (fun _ e => by rw [hk] at e; cases e) (fun _ e => by rw [hk] at e; cases e) (fun _ e => by rw [hk] at e; cases e) (fun _ _ => ⟨h1, rfl⟩) (kept_of (h2.2.2.trans hn0) h5) h4
      | false =>
        replace h := h.2 rfl
        exact key (.v undef) false none s hw h.1 ⟨rfl, rfl, rfl⟩ (fun _ _ => rfl) (fun _ => ⟨rfl, rfl, rfl⟩) (fun e => by cases e) (fun e => by cases e) (fun e => by cases e) (fun e => by cases e) hke h.2
    · exact h.elim
theorem raw_steps {l : List Oper} {ks : List RK} {st s1 : Nat → AS} {xs : Nat → AV} {bs : Nat → Bool} {nbs : Nat → Option AB} {κ : Nat → AB} {q : Nat} (hB : anyB l ks = true) (h : AnyRaw P l.toArray l ks st s1 xs bs nbs κ q) : qck P l (ks.map RK.base) st s1 xs bs nbs (fun i => if ks.getD i .R = .N then (if bs i = true then only q (st i).st else fun _ => .unborn) else κ) := by
  have at0 : ∀ {i o}, l[i]? = some o → q < (st i).n0 → q < (st 0).n0 := fun {i o} ho hq => by
    have : ∀ j, j ≤ l.length → (st j).n0 = (st 0).n0 := fun j => by
      induction j with
      | zero => intro _; rfl
      | succ j ih =>
        intro hj
        obtain ⟨o', ho'⟩ : ∃ o', l[j]? = some o' := ⟨_, List.getElem?_eq_getElem (by omega)⟩
        rw [h.next j o' ho', (qds (s1 j) o'.dst (xs j)).2.2.2, (h.same j o' ho').2.2, ih (by omega)]
    have hi := (List.getElem?_eq_some_iff.1 ho).1
    rw [this i (by omega)] at hq
    exact hq
  have pre : q < (st 0).n0 → ∀ j, j ≤ l.length → (∀ i, i < j → ks.getD i .R ≠ .W) → (st j).st q = (st 0).st q := fun hq j => by
    induction j with
    | zero => intro _ _; rfl
    | succ j ih =>
      intro hj hk
      rw [h.eye hq j (by omega) (hk j (by omega)), ih (by omega) fun i hi => hk i (by omega)]
  refine ⟨fun i => ?_, fun i hi hk r hr => ?_, h.want, h.dst, h.next, h.same, h.skip, fun i o ho hb hk => ?_, fun i o ho hb hk => ?_, fun i o ho hb hk => ?_⟩
  · rw [qcp]
    cases ks.getD i .R <;> simp [RK.base]
  · split at hr
    · rename_i hN
      rw [if_pos hN]
      split at hr
      · rename_i hb
        rw [if_pos hb]
        obtain ⟨o, ho⟩ : ∃ o, l[i]? = some o := ⟨_, List.getElem?_eq_getElem hi⟩
        have hq := at0 ho (h.opN i o ho hb hN).2.2.2
        by_cases hrq : r = q
        · subst hrq
          have ei : only r (st i).st r = (st 0).st r := by
            unfold only; rw [if_pos rfl]
            exact pre hq i (by omega) fun p hp hW => by
              have := ((anyB_n hB hi (j := p) (by omega)).1 hN hW).1; omega
          rw [ei]
          refine ⟨rfl, fun p hp hpW hpi => ?_⟩
          rw [qcp] at hpW
          have hpA : ks.getD p .R = .A := by
            cases hk2 : ks.getD p .R with
            | A => rfl
            | W => exact absurd ((anyB_n hB hi hp).1 hN hk2).2 hpi
            | R => rw [hk2] at hpW; cases hpW
            | M => rw [hk2] at hpW; cases hpW
            | N => rw [hk2] at hpW; cases hpW
          refine pre hq (p + 1) (by omega) fun p' hp' hW => ?_
          by_cases hpp : p' = p
          · rw [hpp, hpA] at hW; cases hW
          · have := (anyB_n hB hp (j := p') (by omega)).2 hpA hW; omega
        · exact absurd (if_neg hrq) hr
      · exact absurd rfl hr
    · rename_i hN
      rw [if_neg hN]
      exact ⟨h.kept r hr 0 (Nat.zero_le _), fun p hp _ _ => h.kept r hr (p + 1) (by omega)⟩
  · rw [qcp] at hk
    by_cases hN : ks.getD i .R = .N
    · rw [if_pos hN, if_pos hb]
      exact ⟨(h.opN i o ho hb hN).1, (h.opN i o ho hb hN).2.1, (h.opN i o ho hb hN).2.2.1⟩
    · rw [if_neg hN]
      refine h.opR i o ho hb ?_
      cases hk2 : ks.getD i .R with
      | R => rfl
      | M => rw [hk2] at hk; cases hk
      | W => rw [hk2] at hk; cases hk
      | N => exact absurd hk2 hN
      | A => rw [hk2] at hk; cases hk
  · rw [qcp] at hk
    refine h.opM i o ho hb ?_
    cases hk2 : ks.getD i .R with
    | M => rfl
    | R => rw [hk2] at hk; cases hk
    | W => rw [hk2] at hk; cases hk
    | N => rw [hk2] at hk; cases hk
    | A => rw [hk2] at hk; cases hk
  · rw [qcp] at hk
    exact h.opW i o ho hb hk
theorem awp_anyQ {s : AS} {id : Nat} {l : List Oper} {Q : Exit → AS → Prop} (m : List AB) (q : Nat) (ks : List RK) (hm : P.follows .mixedOrders = true) (hB : anyB l ks = true) (h0 : qco m s.L) (h : ql P l.toArray m q (Q .normal) l ks s) : awp P (.region id l.toArray true) Q s := by
  obtain ⟨st, s1, xs, bs, nbs, hs, rfl, hK⟩ := anyC_steps l ks s rfl (kept_of rfl h0) h
  exact awp_any hm (anyB_ok hB) (raw_steps hB hs) hK
theorem awp_anyK {s : AS} {id : Nat} {l : List Oper} {Q : Exit → AS → Prop} (m : List AB) (ks : List RK) (hm : P.follows .mixedOrders = true) (hB : anyB l ks = true) (h0 : qco m s.L) (h : ql P l.toArray m 0 (Q .normal) l ks s) : awp P (.region id l.toArray true) Q s := awp_anyQ m 0 ks hm hB h0 h
theorem awp_anyC {s : AS} {id : Nat} {l : List Oper} {Q : Exit → AS → Prop} (ks : List RK) (hm : P.follows .mixedOrders = true) (hB : anyB l ks = true) (h : ql P l.toArray [] 0 (Q .normal) l ks s) : awp P (.region id l.toArray true) Q s := awp_anyK [] ks hm hB trivial h
end
instance {P : Program} {ops : Array Oper} {m : List AB} {q : Nat} {K : AS → Prop} {o : Oper} {l : List Oper} {ks : List RK} {s : AS} : Stp (ql P ops m q K (o :: l) ks s) (match awant ops o s.t with
    | some b => qcb b (match ks.headD .R with
      | .R => aevR P (s.blind m) o.op (fun x nb => nb = none ∧ dstOk o.dst s.n ∧ ql P ops m q K l ks.tail (s.put o.dst x))
      | .M => aevM P s o.op (fun x nb => dstOk o.dst s.n ∧ ql P ops m q K l ks.tail ((s.ext nb).put o.dst x))
      | .W => aevW P s o.op (fun x s1 => dstOk o.dst s.n ∧ qco m s1.L ∧ ql P ops m q K l ks.tail (s1.put o.dst x))
      | .N => q < s.n0 ∧ aevF P (s.eyes q) o.op (fun x nb => nb = none ∧ dstOk o.dst s.n ∧ ql P ops m q K l ks.tail (s.put o.dst x))
      | .A => aevW P s o.op (fun x s1 => dstOk o.dst s.n ∧ qco m s1.L ∧ s1.st q = s.st q ∧ ql P ops m q K l ks.tail (s1.put o.dst x))) (dstOk o.dst s.n ∧ ql P ops m q K l ks.tail (s.put o.dst (.v undef)))
    | none => False) := ⟨fun h => h⟩
instance {P : Program} {ops : Array Oper} {m : List AB} {q : Nat} {K : AS → Prop} {ks : List RK} {s : AS} : Stp (ql P ops m q K [] ks s) (K s) := ⟨fun h => h⟩
section
variable {P : Program} {ops : Array Oper} {m : List AB} {K : AS → Prop} {l : List Oper} {ks : List RK} {s : AS} {k : Nat} {p q r : Prop} {b : Bool} {A B : Prop}
def Tag (_ : Prop) : Type := Unit
instance : Inhabited (Tag (qcb b A B)) := ⟨⟨⟩⟩
instance : Inhabited (Tag (qg P ops K l s)) := ⟨⟨⟩⟩
instance : Inhabited (Tag (ql P ops m k K l ks s)) := ⟨⟨⟩⟩
instance [Inhabited (Tag B)] : Inhabited (Tag (A ∧ B)) := ⟨⟨⟩⟩
theorem sideA [Inhabited (Tag B)] (h : B) (hp : p := by first | omega | assumption | (simp; done)) : p ∧ B := ⟨hp, h⟩
theorem gS : (∀ {α : Type} [BEq α] [LawfulBEq α] {a b : α}, (a == b) = true ↔ a = b) ∧ (∀ {α : Type} [BEq α] [LawfulBEq α] {a b : α}, (a == b) = false ↔ a ≠ b) ∧ (∀ {α : Type} (a b : α), (a ≠ b) = ¬ a = b) ∧ (∀ (p : Prop) [Decidable p], (decide p = true) = p) ∧ (∀ {p : Prop} {_ : Decidable p}, (decide p = false) ↔ ¬ p) ∧ (∀ {α : Type} [BEq α] [LawfulBEq α] {a b : α}, (a != b) = true ↔ a ≠ b) ∧ (∀ {α : Type} [BEq α] [LawfulBEq α] {a b : α}, (a != b) = false ↔ a = b) :=
  ⟨beq_iff_eq, beq_eq_false_iff_ne, ne_eq, fun _ _ => decide_eq_true_eq, decide_eq_false_iff_not, bne_iff_ne, bne_eq_false_iff_eq⟩
theorem gI.{u} : (∀ {α : Sort u} {_ : Decidable True} (a b : α), (if True then a else b) = a) ∧ (∀ {α : Sort u} {_ : Decidable False} (a b : α), (if False then a else b) = b) := ⟨if_true, if_false⟩
end
def GivesAt (P : Program) (f : FuncId) (args : List AV) (σ : Nat → AB) (x : AV) : Prop := AC P f args σ fun y τ => y = x ∧ τ = σ
theorem Gives.here {P : Program} {f : FuncId} {args : List AV} {x : AV} (h : Gives P f args x) (σ : Nat → AB) : GivesAt P f args σ x := h σ
theorem qdj {P : Program} {f : FuncId} {args : List AV} {s : AS} {K : AV → AS → Prop} {x : AV} (h : GivesAt P f args s.st x) (hK : K x s) : ACall P f args s K := ⟨x, s, h, ⟨rfl, rfl, rfl⟩, hK⟩
theorem givesAt_of_awp {P : Program} {f : FuncId} {fn : Func} {c : Code} {rs : List ResultVar} {args : List AV} {x : AV} {N : Nat} {σ : Nat → AB} (hf : P.funcs[f]? = some fn) (hN : fn.ntmps = N) (hb : fn.body = some c) (hr : fn.results = rs.toArray) (hlen : rs.length ≤ 4) (ha : Nat.ble args.length N = true) (hx : ∀ n, x.cl n)
    (h : ∀ n0, Fin σ n0 → (∀ r, (σ r).cl n0) → AV.fitss args → awp P c (fun e s' => (e = .normal ∨ e = .ret) ∧ s'.n0 = n0 ∧ s'.σ = σ ∧ ares P s' rs x) { n := N, t := qdq args 0, σ := σ, n0 := n0, L := [] }) : GivesAt P f args σ x := by
  subst hN
  exact ac_of_awp hf hb hr hlen (Nat.le_of_ble_eq_true ha) fun n0 hfin hcl hft => qgb (h n0 hfin hcl hft) fun e s' ⟨h1, h2, h3, h4⟩ => ⟨h1, h2, x, h4, hx n0, fun r _ => by rw [h3]; exact hcl r, rfl, by
    funext r
    unfold Proofs.YtbkkjlcclddpdaaGreatDoor.cut
    rw [h3]
    split
    · rfl
    · exact (hfin r (by omega)).symm⟩
theorem fin_lt {σ : Nat → AB} {n0 r : Nat} {ab : AB} (hfin : Fin σ n0) (hσ : σ r = ab) (hne : ab ≠ .unborn) : r < n0 := Nat.lt_of_not_le fun h => hne (hσ.symm.trans (hfin r h))
theorem loc_at {σ : Nat → AB} {n0 r : Nat} {ab : AB} (hfin : Fin σ n0) (hσ : σ r = ab) (hne : ab ≠ .unborn) (L : List AB) : loc σ n0 L r = ab := (qct σ n0 r L (fin_lt hfin hσ hne)).trans hσ
def kind0 (f : Bool) : Op → RK
  | .store _ _ _ => .W
  | .mapUpdate _ _ _ _ => .W
  | .lookup _ _ _ _ => .M
  | .makeMap _ _ => .M
  | .call { callee := .builtin .append, .. } => .W
  | .call { callee := .builtin .len, .. } => if f = true then .M else .R
  | .call { callee := .builtin _, .. } => .R
  | .call _ => .M
  | .indexAddr _ _ _ => if f = true then .M else .R
  | .fieldAddr _ _ _ => if f = true then .M else .R
  | .nilCheck _ => if f = true then .M else .R
  | .load _ _ => .M
  | .alloc _ => .M
  | .box _ _ => .M
  | .buildSlice _ 0 _ => .M
  | .makeSlice _ _ _ => .M
  | _ => .R
def autoK (f : Bool) : Bool → List Oper → List RK
  | _, [] => []
  | seen, o :: l => (if kind0 f o.op = .M ∧ seen = true then .W else kind0 f o.op) :: autoK f (seen || decide (kind0 f o.op = .W)) l
theorem awp_anyA {P : Program} (f : Bool) {s : AS} {id : Nat} {l : List Oper} {Q : Exit → AS → Prop} (hm : P.follows .mixedOrders = true) (hB : anyB l (autoK f false l) = true) (h : ql P l.toArray [] 0 (Q .normal) l (autoK f false l) s) : awp P (.region id l.toArray true) Q s :=
  awp_anyC _ hm hB h
theorem qe {P : Program} {s : AS} {id : Nat} {l : List Oper} {Q : Exit → AS → Prop} (h : ql P l.toArray [] 0 (Q .normal) l (autoK true false l) s) (hm : P.follows .mixedOrders = true := by kernel_rfl) (hB : anyB l (autoK true false l) = true := by kernel_rfl) : awp P (.region id l.toArray true) Q s := awp_anyA true hm hB h
attribute [simp] autoK kind0
attribute [simp] ql aevM aevW aevR
@[simp] theorem eyes_mk (q : Nat) (n : Nat) (t : Nat → AV) (σ : Nat → AB) (n0 : Nat) (L : List AB) : (AS.mk n t σ n0 L).eyes q = ⟨n, t, only q (loc σ n0 L), n0, []⟩ := rfl
@[simp] theorem only_self (q : Nat) (σ : Nat → AB) : only q σ q = σ q := if_pos rfl
@[simp] theorem blind_mk (m : List AB) (n : Nat) (t : Nat → AV) (σ : Nat → AB) (n0 : Nat) (L : List AB) : (AS.mk n t σ n0 L).blind m = ⟨n, t, fun _ => .unborn, n0, m⟩ := rfl
attribute [simp] qco
end Go.Proofs.YtbkkjlcclddpdaaGreatDoor

/- From contracts at worlds to abstract ones, and back. -/
namespace Go.Proofs.YtbkkjlcclddpdaaGreatDoor
open Go.RowKit Go.Lib
mutual
def D.av : D → AV
  | .int n => .v (.int .i64 n)
  | .bool b => .v (.bool b)
  | .str s => .v (.string s)
  | .st l => .agg (D.cs l)
  | .sl l => .sl (D.avs l)
def D.cs : List D → List AV
  | [] => []
  | .st l' :: l => D.cs l' ++ D.cs l
  | .int n :: l => .v (.int .i64 n) :: D.cs l
  | .bool b :: l => .v (.bool b) :: D.cs l
  | .str s :: l => .v (.string s) :: D.cs l
  | .sl l' :: l => .sl (D.avs l') :: D.cs l
def D.avs : List D → List AV
  | [] => []
  | d :: l => d.av :: D.avs l
end
theorem D.avs_map : ∀ l : List D, D.avs l = l.map D.av
  | [] => by rw [D.avs]; rfl
  | d :: l => by rw [D.avs, D.avs_map l]; rfl
mutual
theorem D.av_width : ∀ d : D, d.av.width = d.width
  | .int _ => by rw [D.av]; rfl
  | .bool _ => by rw [D.av]; rfl
  | .str _ => by rw [D.av]; rfl
  | .st l => by rw [D.av, D.width]; exact D.cs_len l
  | .sl _ => by rw [D.av]; rfl
theorem D.cs_len : ∀ l : List D, (D.cs l).length = D.widths l
  | [] => by rw [D.cs]; rfl
  | .st l' :: l => by rw [D.cs, List.length_append, D.cs_len l', D.cs_len l, D.widths, D.width]
  | .int n :: l => by rw [D.cs, List.length_cons, D.cs_len l, D.widths, D.width]; omega
  | .bool b :: l => by rw [D.cs, List.length_cons, D.cs_len l, D.widths, D.width]; omega
  | .str s :: l => by rw [D.cs, List.length_cons, D.cs_len l, D.widths, D.width]; omega
  | .sl l' :: l => by rw [D.cs, List.length_cons, D.cs_len l, D.widths, D.width]; omega
end
theorem R1s.split {X : St} : ∀ {a b : List AV} {cs : List Value}, R1s X (a ++ b) cs → ∃ c1 c2, cs = c1 ++ c2 ∧ R1s X a c1 ∧ R1s X b c2
  | [], b, cs, h => ⟨[], cs, rfl, by rw [R1s], h⟩
  | x :: a, b, cs, h => by
    rw [List.cons_append, R1s] at h
    obtain ⟨v, vs, rfl, h0, h1, h2⟩ := h
    obtain ⟨c1, c2, rfl, h3, h4⟩ := h2.split
    exact ⟨v :: c1, c2, rfl, by rw [R1s]; exact ⟨v, c1, rfl, h0, h1, h3⟩, h4⟩
mutual
theorem rd_of_rc {X : St} : ∀ (d : D) (cs : List Value), RC X d.av cs → Rd X.w Any d cs
  | .int n, cs, h => by rw [D.av, RC] at h; rw [Rd]; exact h
  | .bool n, cs, h => by rw [D.av, RC] at h; rw [Rd]; exact h
  | .str n, cs, h => by rw [D.av, RC] at h; rw [Rd]; exact h
  | .st l, cs, h => by rw [D.av, RC] at h; rw [Rd]; exact qed l cs h
  | .sl l, cs, h => by
    rw [D.av, RC] at h; rw [Rd]
    obtain ⟨A, cap, b, off, h1, h2, h3, h4, h5⟩ := h
    have hl : (D.avs l).length = l.length := by rw [D.avs_map]; simp
    rw [hl] at h1 h2 h4
    exact ⟨A, cap, b, off, h1, h2, h3, fun h => ⟨h4 h, trivial⟩, rdM_of_rm l b off h5⟩
theorem qed {X : St} : ∀ (l : List D) (cs : List Value), R1s X (D.cs l) cs → RdS X.w Any l cs
  | [], cs, h => by rw [D.cs, R1s] at h; rw [RdS]; exact h
  | .st l' :: l, cs, h => by
    rw [D.cs] at h
    obtain ⟨c1, c2, rfl, h1, h2⟩ := h.split
    rw [RdS]
    exact ⟨c1, c2, rfl, by rw [Rd]; exact qed l' c1 h1, qed l c2 h2⟩
  | .int n :: l, cs, h => by
    rw [D.cs, R1s] at h
    obtain ⟨v, vs, rfl, h0, h1, h2⟩ := h
    rw [RdS]; rw [RC] at h1
    exact ⟨[v], vs, rfl, by rw [Rd]; exact h1, qed l vs h2⟩
  | .bool n :: l, cs, h => by
    rw [D.cs, R1s] at h
    obtain ⟨v, vs, rfl, h0, h1, h2⟩ := h
    rw [RdS]; rw [RC] at h1
    exact ⟨[v], vs, rfl, by rw [Rd]; exact h1, qed l vs h2⟩
  | .str n :: l, cs, h => by
    rw [D.cs, R1s] at h
    obtain ⟨v, vs, rfl, h0, h1, h2⟩ := h
    rw [RdS]; rw [RC] at h1
    exact ⟨[v], vs, rfl, by rw [Rd]; exact h1, qed l vs h2⟩
  | .sl l' :: l, cs, h => by
    rw [D.cs, R1s] at h
    obtain ⟨v, vs, rfl, h0, h1, h2⟩ := h
    rw [RdS]
    refine ⟨[v], vs, rfl, ?_, qed l vs h2⟩
    rw [RC] at h1; rw [Rd]
    obtain ⟨A, cap, b, off, h3, h4, h5, h6, h7⟩ := h1
    have hl : (D.avs l').length = l'.length := by rw [D.avs_map]; simp
    rw [hl] at h3 h4 h6
    exact ⟨A, cap, b, off, h3, h4, h5, fun h => ⟨h6 h, trivial⟩, rdM_of_rm l' b off h7⟩
theorem rdM_of_rm {X : St} : ∀ (l : List D) (b off : Nat), RM X (D.avs l) b off → RdM X.w Any l b off
  | [], _, _, _ => by rw [RdM]; trivial
  | d :: l, b, off, h => by
    rw [D.avs, RM] at h; rw [RdM]
    obtain ⟨⟨cs, h1, h2⟩, h3⟩ := h
    rw [D.av_width] at h3
    exact ⟨⟨cs, h1.at, rd_of_rc d cs h2⟩, rdM_of_rm l b _ h3⟩
end
theorem cellsS_of_at {X : St} {b : Nat} (hS : ∀ o v, X.w.cell? ⟨b, o, none⟩ = some v → X.S b o) : ∀ {cs : List Value} {off : Nat}, qbp X.w b off cs → qbc X b off cs
  | [], _, _ => trivial
  | _ :: _, _, h => ⟨h.1, hS _ _ h.1, cellsS_of_at hS h.2⟩
mutual
theorem rc_of_rd {X : St} {S : Nat → Prop} (hS : ∀ b o v, S b → X.w.cell? ⟨b, o, none⟩ = some v → X.S b o) : ∀ (d : D) (cs : List Value), Rd X.w S d cs → RC X d.av cs
  | .int n, cs, h => by rw [Rd] at h; rw [D.av, RC]; exact h
  | .bool n, cs, h => by rw [Rd] at h; rw [D.av, RC]; exact h
  | .str n, cs, h => by rw [Rd] at h; rw [D.av, RC]; exact h
  | .st l, cs, h => by rw [Rd] at h; rw [D.av, RC]; exact qeb hS l cs h
  | .sl l, cs, h => by
    rw [Rd] at h; rw [D.av, RC]
    obtain ⟨A, cap, b, off, h1, h2, h3, h4, h5⟩ := h
    have hl : (D.avs l).length = l.length := by rw [D.avs_map]; simp
    rw [hl]
    refine ⟨A, cap, b, off, h1, h2, h3, fun h => (h4 h).1, ?_⟩
    cases l with
    | nil => rw [D.avs, RM]; trivial
    | cons d l => exact rm_of_rdM hS (d :: l) b off (h4 (by simp)).2 h5
theorem qeb {X : St} {S : Nat → Prop} (hS : ∀ b o v, S b → X.w.cell? ⟨b, o, none⟩ = some v → X.S b o) : ∀ (l : List D) (cs : List Value), RdS X.w S l cs → R1s X (D.cs l) cs
  | [], cs, h => by rw [RdS] at h; rw [D.cs, R1s]; exact h
  | .st l' :: l, cs, h => by
    rw [RdS] at h
    obtain ⟨c1, c2, rfl, h1, h2⟩ := h
    rw [Rd] at h1
    rw [D.cs]
    exact (qeb hS l' c1 h1).append (qeb hS l c2 h2)
  | .int n :: l, cs, h => by
    rw [RdS] at h
    obtain ⟨c1, c2, rfl, h1, h2⟩ := h
    rw [Rd] at h1; subst h1
    rw [D.cs, R1s]
    exact ⟨_, c2, rfl, rfl, by rw [RC], qeb hS l c2 h2⟩
  | .bool n :: l, cs, h => by
    rw [RdS] at h
    obtain ⟨c1, c2, rfl, h1, h2⟩ := h
    rw [Rd] at h1; subst h1
    rw [D.cs, R1s]
    exact ⟨_, c2, rfl, rfl, by rw [RC], qeb hS l c2 h2⟩
  | .str n :: l, cs, h => by
    rw [RdS] at h
    obtain ⟨c1, c2, rfl, h1, h2⟩ := h
    rw [Rd] at h1; subst h1
    rw [D.cs, R1s]
    exact ⟨_, c2, rfl, rfl, by rw [RC], qeb hS l c2 h2⟩
  | .sl l' :: l, cs, h => by
    rw [RdS] at h
    obtain ⟨c1, c2, rfl, h1, h2⟩ := h
    rw [Rd] at h1
    obtain ⟨A, cap, b, off, rfl, h4, h5, h6, h7⟩ := h1
    rw [D.cs, R1s]
    refine ⟨_, c2, rfl, rfl, ?_, qeb hS l c2 h2⟩
    have hl : (D.avs l').length = l'.length := by rw [D.avs_map]; simp
    rw [RC, hl]
    refine ⟨A, cap, b, off, rfl, h4, h5, fun h => (h6 h).1, ?_⟩
    cases l' with
    | nil => rw [D.avs, RM]; trivial
    | cons d l' => exact rm_of_rdM hS (d :: l') b off (h6 (by simp)).2 h7
theorem rm_of_rdM {X : St} {S : Nat → Prop} (hS : ∀ b o v, S b → X.w.cell? ⟨b, o, none⟩ = some v → X.S b o) : ∀ (l : List D) (b off : Nat), S b → RdM X.w S l b off → RM X (D.avs l) b off
  | [], _, _, _, _ => by rw [D.avs, RM]; trivial
  | d :: l, b, off, hb, h => by
    rw [RdM] at h; rw [D.avs, RM]
    obtain ⟨⟨cs, h1, h2⟩, h3⟩ := h
    rw [D.av_width]
    exact ⟨⟨cs, cellsS_of_at (fun o v => hS b o v hb) h1, rc_of_rd hS d cs h2⟩, rm_of_rdM hS l b _ hb h3⟩
end
def St.flat (w : World) : St := { w := w, μ := fun _ => undef, S := fun b _ => b < w.heap.size, σ := fun _ => .unborn }
theorem flat_sr (w : World) (hg : globsOk (GlobS (St.flat w))) : SR (St.flat w) where
  block := fun _ => trivial
  alone := fun r r' b h _ => by cases h
  apart := fun r b o h _ => by cases h
  old := fun _ _ h => h
  glob := hg
theorem flat_rc {w : World} {S : Nat → Prop} {d : D} {cs : List Value} (h : Rd w S d cs) : RC (St.flat w) d.av cs :=
  rc_of_rd (X := St.flat w) (S := S) (fun _ _ _ _ hc => World.block_lt_of_cell? w _ hc) d cs h
theorem calls_of_gives {P : Program} {f : FuncId} {args : List AV} {u : Value} {w : World} {vals : List Value} (h : Gives P f args (.v u)) (ha : RRl (St.flat w) args vals) (hg : globsOk (GlobS (St.flat w)) := by exact trivial) : Calls P f vals.toArray w fun r w' => r = .returned u ∧ Ext w w' := by
  refine (h _ (St.flat w) vals 0 (flat_sr w hg) rfl (fun _ _ => rfl) ha).mono ?_
  rintro e w' ⟨Y, v, x, rfl, rfl, ⟨rfl, -⟩, hS, hF, hR⟩
  rw [RR.v] at hR
  subst hR
  exact ⟨rfl, hF.os, hF.tape, hF.output, hF.size, fun k hk => hF.keep k hk fun r hr => by cases hr⟩
end Go.Proofs.YtbkkjlcclddpdaaGreatDoor

/- api.Col as an abstract value. -/
namespace Go.Proofs.YtbkkjlcclddpdaaGreatDoor
open Go.RowKit Go.Lib
def Col.av (x : Col) : AV := .agg [.str x.name, .int x.type, .str x.unit]
@[simp] theorem Col.av_nt (x : Col) : x.av.nt = true := rfl
@[simp] theorem Col.av_sure (x : Col) : x.av.sure = true := rfl
@[simp] theorem Col.av_elem (x : Col) : x.av.elem = true := rfl
@[simp] theorem Col.av_width (x : Col) : x.av.width = 3 := rfl
@[simp] theorem Col.av_pub (x : Col) : x.av.pub = x.av := by unfold Col.av; rw [AV.pub]; simp only [AV.pubs_cons, AV.pubs_nil, AV.pub_v, pubV, AV.pub_sl]
@[simp] theorem Col.av_cells (x : Col) : x.av.cells = [.str x.name, .int x.type, .str x.unit] := rfl
@[simp] theorem Col.av_fold (x : Col) : AV.agg [.str x.name, .int x.type, .str x.unit] = x.av := rfl
@[simp] theorem Col.av_val? (x : Col) : x.av.val? = none := rfl
@[simp] theorem Col.rd_all (x : Col) (σ : Nat → AB) : rdAt σ true 3 (.ep x.av 0) = some x.av := rfl
@[simp] theorem Col.rd_0 (x : Col) (σ : Nat → AB) (n : Nat) : rdAt σ false n (.ep x.av 0) = some (.str x.name) := rfl
@[simp] theorem Col.rd_1 (x : Col) (σ : Nat → AB) (n : Nat) : rdAt σ false n (.ep x.av 1) = some (.int x.type) := rfl
@[simp] theorem Col.rd_2 (x : Col) (σ : Nat → AB) (n : Nat) : rdAt σ false n (.ep x.av 2) = some (.str x.unit) := rfl
@[simp] theorem Col.av_cl (x : Col) (m : Nat) : x.av.cl m := by unfold Col.av; simp [-Col.av_fold]
@[simp] theorem Col.avs_cl (l : List Col) (m : Nat) : AV.cls m (l.map Col.av) := AV.cls_map (fun f => f.av_cl m) l
@[simp] theorem Col.avs_wid (l : List Col) : AV.wid (l.map Col.av) 3 := AV.wid_map (f := Col.av) (fun a => a.av_width) l
@[simp] theorem Col.avs_elms (l : List Col) : AV.elms (l.map Col.av) := AV.elms_map (f := Col.av) (fun a => a.av_elem) l
theorem Col.q : qinfo Tryz.prog 53 = some [(0, 2), (1, 0), (2, 2)] := by kernel_rfl
def Col.eqB (x y : Col) : Bool := ((x.name.toList == y.name.toList) && ((x.type == y.type) && (x.unit.toList == y.unit.toList)))
@[simp] theorem Col.aeq (x y : Col) : Proofs.YtbkkjlcclddpdaaGreatDoor.aeq Tryz.prog .eql 53 x.av y.av = some (Col.eqB x y) := by
  simp only [Proofs.YtbkkjlcclddpdaaGreatDoor.aeq, aeqS, Col.q, Col.av, feq, feq1, Col.eqB]
  simp
@[simp] theorem Col.aneq (x y : Col) : Proofs.YtbkkjlcclddpdaaGreatDoor.aeq Tryz.prog .neq 53 x.av y.av = some (!Col.eqB x y) := by
  simp only [Proofs.YtbkkjlcclddpdaaGreatDoor.aeq, aeqS, Col.q, Col.av, feq, feq1, Col.eqB]
  simp
theorem Col.eqB_iff (x y : Col) : Col.eqB x y = true ↔ x = y := by
  obtain ⟨a0, a1, a2⟩ := x
  obtain ⟨b0, b1, b2⟩ := y
  simp only [Col.eqB, Bool.and_eq_true, beq_iff_eq, Col.mk.injEq, ByteArray.toList_eq]
  have e0 : a0.data.toList = b0.data.toList ↔ a0 = b0 := ⟨fun h => WideShapes.bytes_inj h, fun h => by rw [h]⟩
  have e2 : a2.data.toList = b2.data.toList ↔ a2 = b2 := ⟨fun h => WideShapes.bytes_inj h, fun h => by rw [h]⟩
  rw [e0, e2]
theorem Col.d_av (x : Col) : x.d.av = x.av := rfl
theorem Col.ds_av (l : List Col) : (D.sl (l.map Col.d)).av = .sl (l.map Col.av) := by
  rw [D.av, D.avs_map, List.map_map]
  first
  | rfl
  | (congr 1; exact List.map_congr_left fun x _ => x.d_av)
theorem Col.flat {w : World} {x : Col} {cs : List Value} (h : Rd w Any x.d cs) : RR1 (St.flat w) x.av (.agg cs.toArray) := by
  have := flat_rc h
  rw [Col.d_av, Col.av, RC] at this
  exact ⟨cs, rfl, this⟩
theorem Col.flats {w : World} {l : List Col} {v : Value} (h : Rd w Any (.sl (l.map Col.d)) [v]) : RR1 (St.flat w) (.sl (l.map Col.av)) v := by
  have := flat_rc h
  rw [Col.ds_av] at this
  exact this
end Go.Proofs.YtbkkjlcclddpdaaGreatDoor

/- api.Value as an abstract value. -/
namespace Go.Proofs.YtbkkjlcclddpdaaGreatDoor
open Go.RowKit Go.Lib
def Val.av (x : Val) : AV := .agg [.int x.k, .int x.n, .str x.s]
@[simp] theorem Val.av_nt (x : Val) : x.av.nt = true := rfl
@[simp] theorem Val.av_sure (x : Val) : x.av.sure = true := rfl
@[simp] theorem Val.av_elem (x : Val) : x.av.elem = true := rfl
@[simp] theorem Val.av_width (x : Val) : x.av.width = 3 := rfl
@[simp] theorem Val.av_pub (x : Val) : x.av.pub = x.av := by unfold Val.av; rw [AV.pub]; simp only [AV.pubs_cons, AV.pubs_nil, AV.pub_v, pubV, AV.pub_sl]
@[simp] theorem Val.av_cells (x : Val) : x.av.cells = [.int x.k, .int x.n, .str x.s] := rfl
@[simp] theorem Val.av_fold (x : Val) : AV.agg [.int x.k, .int x.n, .str x.s] = x.av := rfl
@[simp] theorem Val.av_val? (x : Val) : x.av.val? = none := rfl
@[simp] theorem Val.rd_all (x : Val) (σ : Nat → AB) : rdAt σ true 3 (.ep x.av 0) = some x.av := rfl
@[simp] theorem Val.rd_0 (x : Val) (σ : Nat → AB) (n : Nat) : rdAt σ false n (.ep x.av 0) = some (.int x.k) := rfl
@[simp] theorem Val.rd_1 (x : Val) (σ : Nat → AB) (n : Nat) : rdAt σ false n (.ep x.av 1) = some (.int x.n) := rfl
@[simp] theorem Val.rd_2 (x : Val) (σ : Nat → AB) (n : Nat) : rdAt σ false n (.ep x.av 2) = some (.str x.s) := rfl
@[simp] theorem Val.av_cl (x : Val) (m : Nat) : x.av.cl m := by unfold Val.av; simp [-Val.av_fold]
@[simp] theorem Val.avs_cl (l : List Val) (m : Nat) : AV.cls m (l.map Val.av) := AV.cls_map (fun f => f.av_cl m) l
@[simp] theorem Val.avs_wid (l : List Val) : AV.wid (l.map Val.av) 3 := AV.wid_map (f := Val.av) (fun a => a.av_width) l
@[simp] theorem Val.avs_elms (l : List Val) : AV.elms (l.map Val.av) := AV.elms_map (f := Val.av) (fun a => a.av_elem) l
theorem Val.q : qinfo Tryz.prog 27 = some [(0, 0), (1, 0), (2, 2)] := by kernel_rfl
def Val.eqB (x y : Val) : Bool := ((x.k == y.k) && ((x.n == y.n) && (x.s.toList == y.s.toList)))
@[simp] theorem Val.aeq (x y : Val) : Proofs.YtbkkjlcclddpdaaGreatDoor.aeq Tryz.prog .eql 27 x.av y.av = some (Val.eqB x y) := by
  simp only [Proofs.YtbkkjlcclddpdaaGreatDoor.aeq, aeqS, Val.q, Val.av, feq, feq1, Val.eqB]
  simp
@[simp] theorem Val.aneq (x y : Val) : Proofs.YtbkkjlcclddpdaaGreatDoor.aeq Tryz.prog .neq 27 x.av y.av = some (!Val.eqB x y) := by
  simp only [Proofs.YtbkkjlcclddpdaaGreatDoor.aeq, aeqS, Val.q, Val.av, feq, feq1, Val.eqB]
  simp
theorem Val.eqB_iff (x y : Val) : Val.eqB x y = true ↔ x = y := by
  obtain ⟨a0, a1, a2⟩ := x
  obtain ⟨b0, b1, b2⟩ := y
  simp only [Val.eqB, Bool.and_eq_true, beq_iff_eq, Val.mk.injEq, ByteArray.toList_eq]
  have e2 : a2.data.toList = b2.data.toList ↔ a2 = b2 := ⟨fun h => WideShapes.bytes_inj h, fun h => by rw [h]⟩
  rw [e2]
theorem Val.d_av (x : Val) : x.d.av = x.av := rfl
theorem Val.ds_av (l : List Val) : (D.sl (l.map Val.d)).av = .sl (l.map Val.av) := by
  rw [D.av, D.avs_map, List.map_map]
  first
  | rfl
  | (congr 1; exact List.map_congr_left fun x _ => x.d_av)
theorem Val.flat {w : World} {x : Val} {cs : List Value} (h : Rd w Any x.d cs) : RR1 (St.flat w) x.av (.agg cs.toArray) := by
  have := flat_rc h
  rw [Val.d_av, Val.av, RC] at this
  exact ⟨cs, rfl, this⟩
theorem Val.flats {w : World} {l : List Val} {v : Value} (h : Rd w Any (.sl (l.map Val.d)) [v]) : RR1 (St.flat w) (.sl (l.map Val.av)) v := by
  have := flat_rc h
  rw [Val.ds_av] at this
  exact this
end Go.Proofs.YtbkkjlcclddpdaaGreatDoor

/- The first element with a property, and what loops that look for it know. -/
namespace Go.Proofs.YtbkkjlcclddpdaaGreatDoor
def idxP {α : Type} (p : α → Bool) : List α → Int
  | [] => -1
  | x :: l => if p x then 0 else if idxP p l = -1 then -1 else idxP p l + 1
section
variable {α : Type} {p : α → Bool}
theorem qej (x : α) (l : List α) : idxP p (x :: l) = if p x then 0 else if idxP p l = -1 then -1 else idxP p l + 1 := rfl
theorem idxP_ge : ∀ l : List α, -1 ≤ idxP p l
  | [] => by simp [idxP]
  | x :: l => by
    have := idxP_ge l
    rw [qej]
    split
    · omega
    · split <;> omega
theorem idxP_hit : ∀ {l : List α} {k : Nat} (h : k < l.length), p l[k] = true → (∀ j (h : j < l.length), j < k → p l[j] = false) → idxP p l = k
  | [], k, h, _, _ => by simp at h
  | x :: l, 0, h, h1, _ => by
    have h1' : p x = true := h1
    rw [qej, if_pos h1']; rfl
  | x :: l, k + 1, h, h1, h2 => by
    have h0 : p x = false := h2 0 (by simp) (by omega)
    have hk : k < l.length := by simpa using h
    have ih := idxP_hit (l := l) (k := k) hk (by simpa using h1) fun j hj hjk => by have := h2 (j + 1) (by simpa using hj) (by omega); simpa using this
    rw [qej, if_neg (by rw [h0]; simp), ih, if_neg (by omega)]
    omega
theorem idxP_miss : ∀ {l : List α}, (∀ j (h : j < l.length), p l[j] = false) → idxP p l = -1
  | [], _ => rfl
  | x :: l, h => by
    have h0 : p x = false := h 0 (by simp)
    rw [qej, if_neg (by rw [h0]; simp), idxP_miss (l := l) fun j hj => by have := h (j + 1) (by simpa using hj); simpa using this]
    rfl
theorem idxP_lt {l : List α} {k : Nat} (h : idxP p l = k) : ∃ hk : k < l.length, p l[k] = true ∧ ∀ j (h : j < l.length), j < k → p l[j] = false := by
  induction l generalizing k with
  | nil => simp [idxP] at h
  | cons x l ih =>
    rw [qej] at h
    split at h
    · rename_i hx
      obtain rfl : k = 0 := by omega
      exact ⟨by simp, hx, fun j _ hj => by omega⟩
    · rename_i hx
      split at h
      · omega
      · rename_i hn
        have hge := idxP_ge (p := p) l
        obtain ⟨hk, h1, h2⟩ := ih (k := k - 1) (by omega)
        obtain ⟨k', rfl⟩ : ∃ k', k = k' + 1 := ⟨k - 1, by omega⟩
        refine ⟨by simpa using hk, by simpa using h1, fun j hj hjk => ?_⟩
        cases j with
        | zero => simpa using hx
        | succ j => simpa using h2 j (by simpa using hj) (by omega)
theorem idxP_any (l : List α) : decide (0 ≤ idxP p l) = l.any p := by
  induction l with
  | nil => rfl
  | cons x l ih =>
    have hge := idxP_ge (p := p) l
    rw [List.any_cons, ← ih]
    rw [qej]
    by_cases hx : p x = true
    · rw [if_pos hx, hx]; rfl
    · rw [if_neg hx]
      have : p x = false := by simpa using hx
      rw [this, Bool.false_or]
      split
      · rename_i h; rw [h]
      · exact decide_eq_decide.2 (by omega)
theorem all_hit {l : List α} {k : Nat} (h : k < l.length) (h1 : p l[k] = false) : l.all p = false := by
  rw [Bool.eq_false_iff]; intro h2
  rw [List.all_eq_true] at h2
  have := h2 l[k] (List.getElem_mem h)
  rw [h1] at this; cases this
theorem all_end {l : List α} (h : ∀ j (h : j < l.length), p l[j] = true) : l.all p = true := by
  rw [List.all_eq_true]
  intro x hx
  obtain ⟨j, hj, rfl⟩ := List.getElem_of_mem hx
  exact h j hj
theorem qfc {C : α → Prop} {l : List α} {k : Nat} (h : ∀ j (h : j < l.length), j < k → C l[j]) (hk : ∀ h : k < l.length, C l[k]) : ∀ j (h : j < l.length), j < k + 1 → C l[j] := fun j hj hjk => by
  by_cases he : j = k
  · subst he; exact hk hj
  · exact h j hj (by omega)
theorem upto_all {C : α → Prop} {l : List α} {k : Nat} (h : ∀ j (h : j < l.length), j < k → C l[j]) (hk : ¬ k < l.length) : ∀ j (h : j < l.length), C l[j] := fun j hj => h j hj (by omega)
end
def fillV {α : Type} (f : α → AV) (z : AV) (L : List α) (k : Nat) : List AV := (L.take k).map f ++ List.replicate (L.length - k) z
section
variable {α : Type} {f : α → AV} {z : AV} {L : List α} {k : Nat}
theorem fillV_len (h : k ≤ L.length) : (fillV f z L k).length = L.length := by
  unfold fillV; simp only [List.length_append, List.length_map, List.length_take, List.length_replicate]; omega
theorem fillV_get (h : k < L.length) : (fillV f z L k)[k]? = some z := by
  unfold fillV
  have hl : ((L.take k).map f).length = k := by simp only [List.length_map, List.length_take]; omega
  rw [List.getElem?_append_right (by omega), hl, Nat.sub_self, List.getElem?_replicate, if_pos (by omega)]
theorem fillV_set (h : k < L.length) : (fillV f z L k).set k (f L[k]) = fillV f z L (k + 1) := by
  unfold fillV
  have hl : ((L.take k).map f).length = k := by simp only [List.length_map, List.length_take]; omega
  rw [List.set_append_right _ _ (by omega), hl, Nat.sub_self]
  obtain ⟨m, hm⟩ : ∃ m, L.length - k = m + 1 := ⟨L.length - k - 1, by omega⟩
  rw [hm, List.replicate_succ, List.set_cons_zero, show L.length - (k + 1) = m by omega, List.take_succ_eq_append_getElem h, List.map_append, List.append_assoc]
  rfl
theorem fillV_all : fillV f z L L.length = L.map f := by
  unfold fillV; simp
theorem fillV_zero : fillV f z L 0 = List.replicate L.length z := by
  unfold fillV; simp
theorem fillV_cls {m : Nat} (hf : ∀ x, (f x).cl m) (hz : z.cl m) : AV.cls m (fillV f z L k) := by
  rw [AV.cls_iff]
  intro x hx
  unfold fillV at hx
  rcases List.mem_append.1 hx with h | h
  · obtain ⟨y, -, rfl⟩ := List.mem_map.1 h; exact hf y
  · rw [(List.mem_replicate.1 h).2]; exact hz
end
end Go.Proofs.YtbkkjlcclddpdaaGreatDoor

/- Layer 13, on plain data. -/
namespace Go.Proofs.YtbkkjlcclddpdaaGreatDoor
open Go.RowKit Go.Lib
def nameB (c : UInt8) : Bool := (decide (97 ≤ c.toNat) && decide (c.toNat ≤ 122)) || (decide (65 ≤ c.toNat) && decide (c.toNat ≤ 90)) || (decide (48 ≤ c.toNat) && decide (c.toNat ≤ 57)) || decide (c.toNat = 95)
def digitB (c : UInt8) : Bool := decide (48 ≤ c.toNat) && decide (c.toNat ≤ 57)
def nameP (l : List UInt8) : Bool := !(decide (l = [])) && decide (l.length ≤ 20) && !digitB (l.getD 0 0) && l.all nameB
def qfx : List (List UInt8) := [[105, 110, 116], [116, 101, 120, 116], [98, 111, 111, 108]]
def qch (k : Int) : List UInt8 := if 0 ≤ k ∧ k < 3 then qfx.getD k.toNat [] else []
def qcj (s : List UInt8) : Int × Bool :=
  if s = [105, 110, 116] then (0, true) else if s = [116, 101, 120, 116] then (1, true) else if s = [98, 111, 111, 108] then (2, true) else (0, false)
def ownP (s : List UInt8) : Bool := nameP s && !(qcj s).2
def findP (l : List Col) (s : List UInt8) : Int := idxP (fun c => c.name.toList == s) l
end Go.Proofs.YtbkkjlcclddpdaaGreatDoor
