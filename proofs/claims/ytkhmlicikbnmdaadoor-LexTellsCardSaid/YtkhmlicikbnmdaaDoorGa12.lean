/- Regions that draw their order, computed: what simp runs. -/
import Derived.Shelf.Strings.BuilderK
import Derived.Test.YtkhmlicikbnmdaaDoorGa10
import Derived.Test.YtkhmlicikbnmdaaDoorGa11
set_option linter.unusedSimpArgs false
set_option linter.unusedVariables false
namespace Go.Proofs.YtkhmlicikbnmdaaDoor
open Go.RowKit Go.Lib

section
variable {P : Program}
theorem wop_of_eop {s : AS} {o : Op} {x : AV} {τ : Nat → AB} (h : ∀ s' : AS, (∀ y ∈ o.operands, s'.eval y = s.eval y) → s'.st = s.st → s'.nx = s.nx → EOp P s' o (fun x1 s1 => x1 = x ∧ s1.st = τ)) : WOp P s.eval s.st o x τ := by
  classical
  intro X a oper ho hS hd hσ hev Q
  let s' : AS := { n := a.tmps.size, t := fun d => if Operand.tmp d ∈ o.operands then s.t d else .any, σ := s.st, n0 := s.nx, L := [] }
  have hst : s'.st = s.st := by
    funext r
    show loc s.st s.nx [] r = s.st r
    unfold loc
    split
    · rfl
    · rw [s.fin r (by omega)]; rfl
  have he : ∀ y ∈ o.operands, s'.eval y = s.eval y := fun y hy => by
    cases y with
    | tmp d => exact if_pos hy
    | _ => rfl
  have hc : Con X s' a X.w X := ⟨rfl, by rw [hst, hσ], hS, Fr.refl X, rfl, fun d => by
    show RR X (if Operand.tmp d ∈ o.operands then s.t d else .any) _
    split
    · rename_i hy; exact hev _ hy
    · trivial, hd, by rw [hσ]; exact s.fin⟩
  refine Oper.wp_mono ?_ (h s' he hst rfl X a X.w X oper ho hc Q)
  rintro a' w' ⟨v, x1, s1, X', rfl, ⟨rfl, h2⟩, hc', hR⟩
  exact ⟨v, X', rfl, hc'.w, hc'.sr, hc'.fr, hR, by rw [hc'.σ, h2]⟩

def AGives (P : Program) (f : FuncId) (args : List AV) (K : AV → Prop) : Prop := ∃ x, Gives P f args x ∧ K x
theorem agives {f : FuncId} {args : List AV} {K : AV → Prop} {x : AV} (h : Gives P f args x) (hK : K x) : AGives P f args K := ⟨x, h, hK⟩
def aevM (P : Program) (s : AS) (o : Op) (K : AV → Option AB → Prop) : Prop :=
  match o with
  | .call { callee := .value (.func f), args := ⟨args⟩, .. } => nts (args.map s.eval) = true ∧ enters P f = true ∧ AGives P f ((args.map s.eval).map AV.pub) (fun x => K x none)
  | .call { callee := .value (.tmp d), args := ⟨args⟩, .. } => match s.t d with
    | .fn f caps => nts (args.map s.eval) = true ∧ enters P f = true ∧ AGives P f ((args.map s.eval).map AV.pub ++ caps) (fun x => K x none)
    | _ => False
  | o => aevF P s o K
theorem aevM_sound {s : AS} {o : Op} {K : AV → Option AB → Prop} (h : aevM P s o K) : ∃ x nb, FOp2 P s.eval s.st o x (nb.map (s.nx, ·)) ∧ K x nb := by
  unfold aevM at h
  split at h
  · obtain ⟨h1, h2, x, h3, h4⟩ := h
    exact ⟨x, none, fop2_call h2 (nts_spec h1) h3, h4⟩
  · split at h
    · obtain ⟨h1, h2, x, h3, h4⟩ := h
      exact ⟨x, none, fop2_callF ‹_› h2 (nts_spec h1) h3, h4⟩
    · exact h.elim
  · obtain ⟨x, nb, h1, h2⟩ := aevF_sound h
    exact ⟨x, nb, h1.two, h2⟩
/-- the state without its store -/
def AS.blind (m : List AB) (s : AS) : AS := { s with σ := fun _ => .unborn, L := m }
theorem blind_st (m : List AB) (s : AS) : (s.blind m).st = loc (fun _ => .unborn) s.n0 m := rfl
/-- the own blocks that stay as they are -/
def keepsL : List AB → List AB → Prop
  | [], _ => True
  | .unborn :: m, L => keepsL m L.tail
  | ab :: m, L => L.head? = some ab ∧ keepsL m L.tail
theorem keepsL_get : ∀ {m L : List AB} {i : Nat} {ab : AB}, keepsL m L → m[i]? = some ab → ab ≠ .unborn → L[i]? = some ab
  | [], _, _, _, _, h, _ => by simp at h
  | x :: m, L, i, ab, hk, h, hne => by
    have hh : (x ≠ .unborn → L.head? = some x) ∧ keepsL m L.tail := by
      cases x <;> simp_all [keepsL]
    cases i with
    | zero =>
      simp at h; subst h
      rw [← List.head?_eq_getElem?]; exact hh.1 hne
    | succ i =>
      have := keepsL_get hh.2 (by simpa using h) hne
      cases L with
      | nil => simp at this
      | cons y L => simpa using this
theorem kept_of {m : List AB} {s : AS} {n0 : Nat} (hn : s.n0 = n0) (h : keepsL m s.L) : ∀ r, loc (fun _ => .unborn) n0 m r ≠ .unborn → s.st r = loc (fun _ => .unborn) n0 m r := fun r hr => by
  subst hn
  show loc s.σ s.n0 s.L r = _
  unfold loc at hr ⊢
  by_cases hlt : r < s.n0
  · rw [if_pos hlt] at hr; exact absurd rfl hr
  · rw [if_neg hlt] at hr
    rw [if_neg hlt, if_neg hlt]
    rw [List.getD_eq_getElem?_getD] at hr
    cases hm : m[r - s.n0]? with
    | none => rw [hm] at hr; exact absurd rfl hr
    | some ab =>
      rw [hm] at hr
      rw [List.getD_eq_getElem?_getD, List.getD_eq_getElem?_getD, hm, keepsL_get h hm hr]

def aevW (P : Program) (s : AS) (o : Op) (K : AV → AS → Prop) : Prop :=
  match o with
  | .store t p y => stC P s t p y K
  | .call { callee := .value (.func f), args := ⟨args⟩, .. } => nts (args.map s.eval) = true ∧ enters P f = true ∧ ACall P f ((args.map s.eval).map AV.pub) s K
  | .call { callee := .value (.tmp d), args := ⟨args⟩, .. } => match s.t d with
    | .fn f caps => nts (args.map s.eval) = true ∧ enters P f = true ∧ ACall P f ((args.map s.eval).map AV.pub ++ caps) s K
    | _ => False
  | .call { callee := .builtin .append, args := ⟨[x, y]⟩, argTypes := ⟨[t, t']⟩ } => t' = t ∧ (match vinfo P t with
    | some (e, sz, by_) => match s.eval x, s.eval y with
      | .gs r l, y => match s.st r, y.list with
        | .tail n e' sz', some ys => e' = e ∧ sz' = sz ∧ n = l.length ∧ AV.wid l sz ∧ AV.wid ys sz ∧ AV.elms ys ∧ (l.length + ys.length) * by_ ≤ 140737488355328 ∧ K (.gs r (l ++ ys)) (s.set r (.tail (l.length + ys.length) e sz))
        | _, _ => False
      | .v (.slice none 0 0), y => match y.list with
        | some ys => 0 < ys.length ∧ AV.wid ys sz ∧ AV.elms ys ∧ ys.length * by_ ≤ 140737488355328 ∧ K (.gs s.nx ys) (s.ext (some (.tail ys.length e sz)))
        | none => False
      | _, _ => False
    | none => False)
  | .buildSlice t 0 ⟨[]⟩ => match vinfo P t with
    | some (e, sz, _) => K (.gs s.nx []) (s.ext (some (.tail 0 e sz)))
    | none => False
  | _ => False
theorem set_lt {s : AS} {r : Nat} {ab : AB} (h : s.st r = ab) (hne : ab ≠ .unborn) : r < s.nx := Nat.lt_of_not_le fun hle => hne (h.symm.trans (s.fin r hle))
theorem aevW_sound {s : AS} {o : Op} {K : AV → AS → Prop} (h : aevW P s o K) : ∃ x s1, WOp P s.eval s.st o x s1.st ∧ (s1.t = s.t ∧ s1.n = s.n ∧ s1.n0 = s.n0) ∧ K x s1 := by
  unfold aevW at h
  split at h
  · rename_i t p y
    obtain ⟨s1, h1, h2, h3⟩ := stC_st h
    exact ⟨.any, s1, wop_of_eop fun s' he hst hnx => stC_sound (h3 s' (he p (by simp [Op.operands])) (he y (by simp [Op.operands])) hst hnx), h1, h2⟩
  · obtain ⟨h1, h2, x, s1, h3, h4, h5⟩ := h
    exact ⟨x, s1, wop_call h2 (nts_spec h1) h3, h4, h5⟩
  · split at h
    · obtain ⟨h1, h2, x, s1, h3, h4, h5⟩ := h
      exact ⟨x, s1, wop_callF ‹_› h2 (nts_spec h1) h3, h4, h5⟩
    · exact h.elim
  · rename_i x y t t'
    obtain ⟨rfl, h⟩ := h
    split at h
    · rename_i e sz by_ ht
      split at h
      · rename_i r l hx
        split at h
        · rename_i n e' sz' ys hσ hy
          obtain ⟨rfl, rfl, rfl, h3, h4, h5, h6, h7⟩ := h
          have hr := set_lt hσ (by simp)
          refine ⟨_, _, wop_of_eop fun s' he hst hnx => ?_, ⟨(s.set_nx r _).2.2, (s.set_nx r _).1, (s.set_nx r _).2.1⟩, h7⟩
          have ex := he x (by simp [Op.operands, Call.operands])
          have ey := he y (by simp [Op.operands, Call.operands])
          refine eop_appendG0 ht (by rw [ex]; exact hx) (by rw [hst]; exact hσ) (by rw [ey]; exact hy) h3 h4 h5 h6 ⟨rfl, ?_⟩
          rw [AS.set_st _ _ _ (by rw [hnx]; exact hr), AS.set_st _ _ _ hr, hst]
        · exact h.elim
      · rename_i hx
        split at h
        · rename_i ys hy
          obtain ⟨h2, h4, h5, h6, h7⟩ := h
          refine ⟨_, s.ext (some (.tail ys.length e sz)), wop_of_eop fun s' he hst hnx => ?_, ⟨rfl, rfl, rfl⟩, h7⟩
          have ex := he x (by simp [Op.operands, Call.operands])
          have ey := he y (by simp [Op.operands, Call.operands])
          refine eop_appendN ht (by rw [ex]; exact hx) (by rw [ey]; exact hy) h2 h4 h5 h6 ⟨by rw [hnx], ?_⟩
          rw [(ext_st s' _).1, (ext_st s _).1, hst, hnx]
        · exact h.elim
      · exact h.elim
    · exact h.elim
  · split at h
    · rename_i e sz by_ ht
      refine ⟨.gs s.nx [], s.ext (some (.tail 0 e sz)), wop_of_eop fun s' he hst hnx => ?_, ⟨rfl, rfl, rfl⟩, h⟩
      refine eop_fun (nb := some (.tail 0 e sz)) (fop_emptySlice ht) ⟨by rw [hnx], ?_⟩
      rw [(ext_st s' _).1, (ext_st s _).1, hst, hnx]
    · exact h.elim
  · exact h.elim

/-- the store of one block -/
def only (q : Nat) (σ : Nat → AB) : Nat → AB := fun k => if k = q then σ q else .unborn
/-- the state with one block of the caller's alone -/
def AS.eyes (q : Nat) (s : AS) : AS := { s with σ := only q s.st, L := [] }
def anyC (P : Program) (ops : Array Oper) (m : List AB) (q : Nat) (K : AS → Prop) : List Oper → List RK → AS → Prop
  | [], _, s => K s
  | o :: l, ks, s => match awant ops o s.t with
    | some b => AGuard b (match ks.headD .R with
      | .R => aevF P (s.blind m) o.op (fun x nb => nb = none ∧ dstOk o.dst s.n ∧ anyC P ops m q K l ks.tail (s.put o.dst x))
      | .M => aevM P s o.op (fun x nb => dstOk o.dst s.n ∧ anyC P ops m q K l ks.tail ((s.ext nb).put o.dst x))
      | .W => aevW P s o.op (fun x s1 => dstOk o.dst s.n ∧ keepsL m s1.L ∧ anyC P ops m q K l ks.tail (s1.put o.dst x))
      | .N => q < s.n0 ∧ aevF P (s.eyes q) o.op (fun x nb => nb = none ∧ dstOk o.dst s.n ∧ anyC P ops m q K l ks.tail (s.put o.dst x))
      | .A => aevW P s o.op (fun x s1 => dstOk o.dst s.n ∧ keepsL m s1.L ∧ s1.st q = s.st q ∧ anyC P ops m q K l ks.tail (s1.put o.dst x))) (dstOk o.dst s.n ∧ anyC P ops m q K l ks.tail (s.put o.dst (.v undef)))
    | none => False

/-- what anyC says, as it stands -/
structure AnyRaw (P : Program) (ops : Array Oper) (l : List Oper) (ks : List RK) (st s1 : Nat → AS) (xs : Nat → AV) (bs : Nat → Bool) (nbs : Nat → Option AB) (κ : Nat → AB) (q : Nat) : Prop where
  kept : ∀ r, κ r ≠ .unborn → ∀ j, j ≤ l.length → (st j).st r = κ r
  eye : q < (st 0).n0 → ∀ i, i < l.length → ks.getD i .R ≠ .W → (st (i + 1)).st q = (st i).st q
  want : ∀ i o, l[i]? = some o → awant ops o (st i).t = some (bs i)
  dst : ∀ i o, l[i]? = some o → dstOk o.dst (st i).n
  next : ∀ i o, l[i]? = some o → st (i + 1) = (s1 i).put o.dst (xs i)
  same : ∀ i o, l[i]? = some o → (s1 i).t = (st i).t ∧ (s1 i).n = (st i).n ∧ (s1 i).n0 = (st i).n0
  skip : ∀ i o, l[i]? = some o → bs i = false → xs i = .v undef ∧ s1 i = st i ∧ nbs i = none
  opR : ∀ i o, l[i]? = some o → bs i = true → ks.getD i .R = .R → FOp2 P (st i).eval κ o.op (xs i) none ∧ s1 i = st i ∧ nbs i = none
  opN : ∀ i o, l[i]? = some o → bs i = true → ks.getD i .R = .N → FOp2 P (st i).eval (only q (st i).st) o.op (xs i) none ∧ s1 i = st i ∧ nbs i = none ∧ q < (st i).n0
  opM : ∀ i o, l[i]? = some o → bs i = true → ks.getD i .R = .M → FOp2 P (st i).eval (st i).st o.op (xs i) ((nbs i).map ((st i).nx, ·)) ∧ s1 i = (st i).ext (nbs i)
  opW : ∀ i o, l[i]? = some o → bs i = true → (ks.getD i .R).base = .W → WOp P (st i).eval (st i).st o.op (xs i) (s1 i).st ∧ nbs i = none
theorem eyes_st {s : AS} {q : Nat} (h : q < s.n0) : (s.eyes q).st = only q s.st := by
  funext k
  show loc (only q s.st) s.n0 [] k = _
  unfold loc only
  split
  · rfl
  · rename_i hk
    rw [if_neg (by omega)]; rfl
theorem anyC_steps {ops : Array Oper} {m : List AB} {q : Nat} {n0 : Nat} {K : AS → Prop} : ∀ (l : List Oper) (ks : List RK) (s : AS), s.n0 = n0 → (∀ r, loc (fun _ => .unborn) n0 m r ≠ .unborn → s.st r = loc (fun _ => .unborn) n0 m r) → anyC P ops m q K l ks s → ∃ st s1 xs bs nbs, AnyRaw P ops l ks st s1 xs bs nbs (loc (fun _ => .unborn) n0 m) q ∧ st 0 = s ∧ K (st l.length)
  | [], ks, s, hn0, hke, h => by
    refine ⟨fun _ => s, fun _ => s, fun _ => .any, fun _ => true, fun _ => none, ⟨fun r hr j _ => hke r hr, fun _ _ hi => absurd hi (Nat.not_lt_zero _), ?_, ?_, ?_, ?_, ?_, ?_, ?_, ?_, ?_⟩, rfl, h⟩ <;> (intro i o ho; simp at ho)
  | o :: l, ks, s, hn0, hke, h => by
    have key : ∀ (x : AV) (b : Bool) (nb : Option AB) (s1 : AS), awant ops o s.t = some b → dstOk o.dst s.n → (s1.t = s.t ∧ s1.n = s.n ∧ s1.n0 = s.n0) → (ks.headD .R ≠ .W → q < s.n0 → s1.st q = s.st q) → (b = false → x = .v undef ∧ s1 = s ∧ nb = none) →
        (b = true → ks.headD .R = .R → FOp2 P s.eval (loc (fun _ => .unborn) n0 m) o.op x none ∧ s1 = s ∧ nb = none) → (b = true → ks.headD .R = .N → FOp2 P s.eval (only q s.st) o.op x none ∧ s1 = s ∧ nb = none ∧ q < s.n0) → (b = true → ks.headD .R = .M → FOp2 P s.eval s.st o.op x (nb.map (s.nx, ·)) ∧ s1 = s.ext nb) →
        (b = true → (ks.headD .R).base = .W → WOp P s.eval s.st o.op x s1.st ∧ nb = none) → (∀ r, loc (fun _ => .unborn) n0 m r ≠ .unborn → s1.st r = loc (fun _ => .unborn) n0 m r) → anyC P ops m q K l ks.tail (s1.put o.dst x) → ∃ st s1 xs bs nbs, AnyRaw P ops (o :: l) ks st s1 xs bs nbs (loc (fun _ => .unborn) n0 m) q ∧ st 0 = s ∧ K (st (o :: l).length) := by
      intro x b nb s1 hw hd hsame hq hskip hR hN hM hW hke1 hrest
      obtain ⟨st, s1', xs, bs, nbs, hs, h0, hK⟩ := anyC_steps (n0 := n0) l ks.tail _ (by rw [(put_st s1 o.dst x).2.2.2, hsame.2.2]; exact hn0) (fun r hr => by rw [(put_st s1 o.dst x).1]; exact hke1 r hr) hrest
      have hks : ∀ i, ks.getD (i + 1) .R = ks.tail.getD i .R := fun i => by cases ks <;> simp
      have hk0 : ks.getD 0 .R = ks.headD .R := by cases ks <;> simp
      refine ⟨fun i => match i with | 0 => s | i + 1 => st i, fun i => match i with | 0 => s1 | i + 1 => s1' i, fun i => match i with | 0 => x | i + 1 => xs i, fun i => match i with | 0 => b | i + 1 => bs i, fun i => match i with | 0 => nb | i + 1 => nbs i, ⟨fun r hr j hj => (match j with | 0 => hke r hr | j + 1 => hs.kept r hr j (by simpa using hj)), fun hql i hi hkk => (match i with | 0 => ?_ | i + 1 => ?_), ?_, ?_, ?_, ?_, ?_, ?_, ?_, ?_, ?_⟩, rfl, hK⟩
      · show (st 0).st q = s.st q
        rw [h0, (put_st s1 o.dst x).1]
        exact hq (by rw [← hk0]; exact hkk) hql
      · refine hs.eye ?_ i (by simpa using hi) (by rw [← hks]; exact hkk)
        have hql' : q < s.n0 := hql
        rw [h0, (put_st s1 o.dst x).2.2.2, hsame.2.2]; exact hql'
      all_goals (intro i o' ho; cases i)
      · simp at ho; subst ho; exact hw
      · exact hs.want _ o' (by simpa using ho)
      · simp at ho; subst ho; exact hd
      · exact hs.dst _ o' (by simpa using ho)
      · simp at ho; subst ho; exact h0
      · exact hs.next _ o' (by simpa using ho)
      · simp at ho; subst ho; exact hsame
      · exact hs.same _ o' (by simpa using ho)
      · simp at ho; subst ho; exact hskip
      · exact hs.skip _ o' (by simpa using ho)
      · simp at ho; subst ho; rw [hk0]; exact hR
      · rw [hks]; exact hs.opR _ o' (by simpa using ho)
      · simp at ho; subst ho; rw [hk0]; exact hN
      · rw [hks]; exact hs.opN _ o' (by simpa using ho)
      · simp at ho; subst ho; rw [hk0]; exact hM
      · rw [hks]; exact hs.opM _ o' (by simpa using ho)
      · simp at ho; subst ho; rw [hk0]; exact hW
      · rw [hks]; exact hs.opW _ o' (by simpa using ho)
    rw [anyC] at h
    split at h
    · rename_i bb hw
      cases bb with
      | true =>
        replace h := h.1 rfl
        split at h
        · rename_i hk
          obtain ⟨x, nb, h1, rfl, h2, h3⟩ := aevF_sound h
          rw [blind_st, hn0] at h1
          exact key x true none s hw h2 ⟨rfl, rfl, rfl⟩ (fun _ _ => rfl) (fun e => by cases e) (fun _ _ => ⟨h1.two, rfl, rfl⟩) (fun _ e => by rw [hk] at e; cases e) (fun _ e => by rw [hk] at e; cases e) (fun _ e => by rw [hk] at e; cases e) hke h3
        · rename_i hk
          obtain ⟨x, nb, h1, h2, h3⟩ := aevM_sound h
          exact key x true nb (s.ext nb) hw h2 (by cases nb <;> exact ⟨rfl, rfl, rfl⟩) (fun _ hq => by
            cases nb with
            | none => rfl
            | some ab => rw [(ext_st s ab).1]; unfold upd; rw [if_neg (by have : s.n0 ≤ s.nx := Nat.le_add_right _ _; omega)]) (fun e => by cases e) (fun _ e => by rw [hk] at e; cases e) (fun _ e => by rw [hk] at e; cases e) (fun _ _ => ⟨h1, rfl⟩) (fun _ e => by rw [hk] at e; cases e) (fun r hr => by
            cases nb with
            | none => exact hke r hr
            | some ab =>
              have h0 := hke r hr
              have hlt : r < s.nx := Nat.lt_of_not_le fun hle => hr (h0.symm.trans (s.fin r hle))
              rw [(ext_st s ab).1]; unfold upd; rw [if_neg (by omega)]; exact h0) h3
        · rename_i hk
          obtain ⟨x, s1, h1, h2, h3, h5, h4⟩ := aevW_sound h
          exact key x true none s1 hw h3 h2 (fun e => absurd hk e) (fun e => by cases e) (fun _ e => by rw [hk] at e; cases e) (fun _ e => by rw [hk] at e; cases e) (fun _ e => by rw [hk] at e; cases e) (fun _ _ => ⟨h1, rfl⟩) (kept_of (h2.2.2.trans hn0) h5) h4
        · rename_i hk
          obtain ⟨hq, h⟩ := h
          obtain ⟨x, nb, h1, rfl, h2, h3⟩ := aevF_sound h
          rw [eyes_st hq] at h1
          exact key x true none s hw h2 ⟨rfl, rfl, rfl⟩ (fun _ _ => rfl) (fun e => by cases e) (fun _ e => by rw [hk] at e; cases e) (fun _ _ => ⟨h1.two, rfl, rfl, hq⟩) (fun _ e => by rw [hk] at e; cases e) (fun _ e => by rw [hk] at e; cases e) hke h3
        · rename_i hk
          obtain ⟨x, s1, h1, h2, h3, h5, h7, h4⟩ := aevW_sound h
          exact key x true none s1 hw h3 h2 (fun _ _ => h7) (fun e => by cases e) (fun _ e => by rw [hk] at e; cases e) (fun _ e => by rw [hk] at e; cases e) (fun _ e => by rw [hk] at e; cases e) (fun _ _ => ⟨h1, rfl⟩) (kept_of (h2.2.2.trans hn0) h5) h4
      | false =>
        replace h := h.2 rfl
        exact key (.v undef) false none s hw h.1 ⟨rfl, rfl, rfl⟩ (fun _ _ => rfl) (fun _ => ⟨rfl, rfl, rfl⟩) (fun e => by cases e) (fun e => by cases e) (fun e => by cases e) (fun e => by cases e) hke h.2
    · exact h.elim

theorem raw_steps {l : List Oper} {ks : List RK} {st s1 : Nat → AS} {xs : Nat → AV} {bs : Nat → Bool} {nbs : Nat → Option AB} {κ : Nat → AB} {q : Nat} (hB : anyB l ks = true) (h : AnyRaw P l.toArray l ks st s1 xs bs nbs κ q) : AnySteps P l (ks.map RK.base) st s1 xs bs nbs (fun i => if ks.getD i .R = .N then (if bs i = true then only q (st i).st else fun _ => .unborn) else κ) := by
  have at0 : ∀ {i o}, l[i]? = some o → q < (st i).n0 → q < (st 0).n0 := fun {i o} ho hq => by
    have : ∀ j, j ≤ l.length → (st j).n0 = (st 0).n0 := fun j => by
      induction j with
      | zero => intro _; rfl
      | succ j ih =>
        intro hj
        obtain ⟨o', ho'⟩ : ∃ o', l[j]? = some o' := ⟨_, List.getElem?_eq_getElem (by omega)⟩
        rw [h.next j o' ho', (put_st (s1 j) o'.dst (xs j)).2.2.2, (h.same j o' ho').2.2, ih (by omega)]
    have hi := (List.getElem?_eq_some_iff.1 ho).1
    rw [this i (by omega)] at hq
    exact hq
  have pre : q < (st 0).n0 → ∀ j, j ≤ l.length → (∀ i, i < j → ks.getD i .R ≠ .W) → (st j).st q = (st 0).st q := fun hq j => by
    induction j with
    | zero => intro _ _; rfl
    | succ j ih =>
      intro hj hk
      rw [h.eye hq j (by omega) (hk j (by omega)), ih (by omega) fun i hi => hk i (by omega)]
  refine ⟨fun i => ?_, fun i hi hk r hr => ?_, h.want, h.dst, h.next, h.same, h.skip, fun i o ho hb hk => ?_, fun i o ho hb hk => ?_, fun i o ho hb hk => ?_⟩
  · rw [base_getD]
    cases ks.getD i .R <;> simp [RK.base]
  · split at hr
    · rename_i hN
      rw [if_pos hN]
      split at hr
      · rename_i hb
        rw [if_pos hb]
        obtain ⟨o, ho⟩ : ∃ o, l[i]? = some o := ⟨_, List.getElem?_eq_getElem hi⟩
        have hq := at0 ho (h.opN i o ho hb hN).2.2.2
        by_cases hrq : r = q
        · subst hrq
          have ei : only r (st i).st r = (st 0).st r := by
            unfold only; rw [if_pos rfl]
            exact pre hq i (by omega) fun p hp hW => by
              have := ((anyB_n hB hi (j := p) (by omega)).1 hN hW).1; omega
          rw [ei]
          refine ⟨rfl, fun p hp hpW hpi => ?_⟩
          rw [base_getD] at hpW
          have hpA : ks.getD p .R = .A := by
            cases hk2 : ks.getD p .R with
            | A => rfl
            | W => exact absurd ((anyB_n hB hi hp).1 hN hk2).2 hpi
            | R => rw [hk2] at hpW; cases hpW
            | M => rw [hk2] at hpW; cases hpW
            | N => rw [hk2] at hpW; cases hpW
          refine pre hq (p + 1) (by omega) fun p' hp' hW => ?_
          by_cases hpp : p' = p
          · rw [hpp, hpA] at hW; cases hW
          · have := (anyB_n hB hp (j := p') (by omega)).2 hpA hW; omega
        · exact absurd (if_neg hrq) hr
      · exact absurd rfl hr
    · rename_i hN
      rw [if_neg hN]
      exact ⟨h.kept r hr 0 (Nat.zero_le _), fun p hp _ _ => h.kept r hr (p + 1) (by omega)⟩
  · rw [base_getD] at hk
    by_cases hN : ks.getD i .R = .N
    · rw [if_pos hN, if_pos hb]
      exact ⟨(h.opN i o ho hb hN).1, (h.opN i o ho hb hN).2.1, (h.opN i o ho hb hN).2.2.1⟩
    · rw [if_neg hN]
      refine h.opR i o ho hb ?_
      cases hk2 : ks.getD i .R with
      | R => rfl
      | M => rw [hk2] at hk; cases hk
      | W => rw [hk2] at hk; cases hk
      | N => exact absurd hk2 hN
      | A => rw [hk2] at hk; cases hk
  · rw [base_getD] at hk
    refine h.opM i o ho hb ?_
    cases hk2 : ks.getD i .R with
    | M => rfl
    | R => rw [hk2] at hk; cases hk
    | W => rw [hk2] at hk; cases hk
    | N => rw [hk2] at hk; cases hk
    | A => rw [hk2] at hk; cases hk
  · rw [base_getD] at hk
    exact h.opW i o ho hb hk

/-- a drawn region; q: a block of the caller's that its last operations alone write -/
theorem awp_anyQ {s : AS} {id : Nat} {l : List Oper} {Q : Exit → AS → Prop} (m : List AB) (q : Nat) (ks : List RK) (hm : P.follows .mixedOrders = true) (hB : anyB l ks = true) (h0 : keepsL m s.L) (h : anyC P l.toArray m q (Q .normal) l ks s) : awp P (.region id l.toArray true) Q s := by
  obtain ⟨st, s1, xs, bs, nbs, hs, rfl, hK⟩ := anyC_steps l ks s rfl (kept_of rfl h0) h
  exact awp_any hm (anyB_ok hB) (raw_steps hB hs) hK
theorem awp_anyK {s : AS} {id : Nat} {l : List Oper} {Q : Exit → AS → Prop} (m : List AB) (ks : List RK) (hm : P.follows .mixedOrders = true) (hB : anyB l ks = true) (h0 : keepsL m s.L) (h : anyC P l.toArray m 0 (Q .normal) l ks s) : awp P (.region id l.toArray true) Q s := awp_anyQ m 0 ks hm hB h0 h
theorem awp_anyC {s : AS} {id : Nat} {l : List Oper} {Q : Exit → AS → Prop} (ks : List RK) (hm : P.follows .mixedOrders = true) (hB : anyB l ks = true) (h : anyC P l.toArray [] 0 (Q .normal) l ks s) : awp P (.region id l.toArray true) Q s := awp_anyK [] ks hm hB trivial h
end
theorem any_step' {P : Program} {ops : Array Oper} {m : List AB} {q : Nat} {K : AS → Prop} {o : Oper} {l : List Oper} {ks : List RK} {s : AS} (h : match awant ops o s.t with
    | some b => AGuard b (match ks.headD .R with
      | .R => aevF P (s.blind m) o.op (fun x nb => nb = none ∧ dstOk o.dst s.n ∧ anyC P ops m q K l ks.tail (s.put o.dst x))
      | .M => aevM P s o.op (fun x nb => dstOk o.dst s.n ∧ anyC P ops m q K l ks.tail ((s.ext nb).put o.dst x))
      | .W => aevW P s o.op (fun x s1 => dstOk o.dst s.n ∧ keepsL m s1.L ∧ anyC P ops m q K l ks.tail (s1.put o.dst x))
      | .N => q < s.n0 ∧ aevF P (s.eyes q) o.op (fun x nb => nb = none ∧ dstOk o.dst s.n ∧ anyC P ops m q K l ks.tail (s.put o.dst x))
      | .A => aevW P s o.op (fun x s1 => dstOk o.dst s.n ∧ keepsL m s1.L ∧ s1.st q = s.st q ∧ anyC P ops m q K l ks.tail (s1.put o.dst x))) (dstOk o.dst s.n ∧ anyC P ops m q K l ks.tail (s.put o.dst (.v undef)))
    | none => False) : anyC P ops m q K (o :: l) ks s := h
theorem any_end' {P : Program} {ops : Array Oper} {m : List AB} {q : Nat} {K : AS → Prop} {ks : List RK} {s : AS} (h : K s) : anyC P ops m q K [] ks s := h
section
variable {P : Program} {ops : Array Oper} {m : List AB} {K : AS → Prop} {l : List Oper} {ks : List RK} {s : AS} {k : Nat} {p q r : Prop} {b : Bool} {A B : Prop}
theorem sideG (hp : p) (h : AGuard b A B) : p ∧ AGuard b A B := ⟨hp, h⟩
theorem sideG2 (hp : p) (h : q ∧ AGuard b A B) : p ∧ q ∧ AGuard b A B := ⟨hp, h⟩
theorem sideS (hp : p) (h : aseqC P ops K l s) : p ∧ aseqC P ops K l s := ⟨hp, h⟩
theorem sideS2 (hp : p) (h : q ∧ aseqC P ops K l s) : p ∧ q ∧ aseqC P ops K l s := ⟨hp, h⟩
theorem sideS3 (hp : p) (h : q ∧ r ∧ aseqC P ops K l s) : p ∧ q ∧ r ∧ aseqC P ops K l s := ⟨hp, h⟩
theorem sideA (hp : p) (h : anyC P ops m k K l ks s) : p ∧ anyC P ops m k K l ks s := ⟨hp, h⟩
theorem sideA2 (hp : p) (h : q ∧ anyC P ops m k K l ks s) : p ∧ q ∧ anyC P ops m k K l ks s := ⟨hp, h⟩
theorem sideA3 (hp : p) (h : q ∧ r ∧ anyC P ops m k K l ks s) : p ∧ q ∧ r ∧ anyC P ops m k K l ks s := ⟨hp, h⟩
end
/-- f returns x at this store, and leaves it -/
def GivesAt (P : Program) (f : FuncId) (args : List AV) (σ : Nat → AB) (x : AV) : Prop := AC P f args σ fun y τ => y = x ∧ τ = σ
theorem Gives.here {P : Program} {f : FuncId} {args : List AV} {x : AV} (h : Gives P f args x) (σ : Nat → AB) : GivesAt P f args σ x := h σ
theorem acallAt {P : Program} {f : FuncId} {args : List AV} {s : AS} {K : AV → AS → Prop} {x : AV} (h : GivesAt P f args s.st x) (hK : K x s) : ACall P f args s K := ⟨x, s, h, ⟨rfl, rfl, rfl⟩, hK⟩
theorem givesAt_of_awp {P : Program} {f : FuncId} {fn : Func} {c : Code} {rs : List ResultVar} {args : List AV} {x : AV} {N : Nat} {σ : Nat → AB} (hf : P.funcs[f]? = some fn) (hN : fn.ntmps = N) (hb : fn.body = some c) (hr : fn.results = rs.toArray) (hlen : rs.length ≤ 4) (ha : Nat.ble args.length N = true) (hx : ∀ n, x.cl n)
    (h : ∀ n0, Fin σ n0 → (∀ r, (σ r).cl n0) → AV.fitss args → awp P c (fun e s' => (e = .normal ∨ e = .ret) ∧ s'.n0 = n0 ∧ s'.σ = σ ∧ ares P s' rs x) { n := N, t := atEntry args 0, σ := σ, n0 := n0, L := [] }) : GivesAt P f args σ x := by
  subst hN
  exact ac_of_awp hf hb hr hlen (Nat.le_of_ble_eq_true ha) fun n0 hfin hcl hft => awp_mono (h n0 hfin hcl hft) fun e s' ⟨h1, h2, h3, h4⟩ => ⟨h1, h2, x, h4, hx n0, fun r _ => by rw [h3]; exact hcl r, rfl, by
    funext r
    unfold Proofs.YtkhmlicikbnmdaaDoor.cut
    rw [h3]
    split
    · rfl
    · exact (hfin r (by omega)).symm⟩
theorem fin_lt {σ : Nat → AB} {n0 r : Nat} {ab : AB} (hfin : Fin σ n0) (hσ : σ r = ab) (hne : ab ≠ .unborn) : r < n0 := Nat.lt_of_not_le fun h => hne (hσ.symm.trans (hfin r h))
theorem loc_at {σ : Nat → AB} {n0 r : Nat} {ab : AB} (hfin : Fin σ n0) (hσ : σ r = ab) (hne : ab ≠ .unborn) (L : List AB) : loc σ n0 L r = ab := (loc_lt σ n0 r L (fin_lt hfin hσ hne)).trans hσ
/-- the kinds of a region's operations, found by what they are (f: addresses and lengths look at the store) -/
def kind0 (f : Bool) : Op → RK
  | .store _ _ _ => .W
  | .call { callee := .builtin .append, .. } => .W
  | .call { callee := .builtin .len, .. } => if f = true then .M else .R
  | .call { callee := .builtin _, .. } => .R
  | .call _ => .M
  | .indexAddr _ _ _ => if f = true then .M else .R
  | .fieldAddr _ _ _ => if f = true then .M else .R
  | .nilCheck _ => if f = true then .M else .R
  | .load _ _ => .M
  | .alloc _ => .M
  | .box _ _ => .M
  | .buildSlice _ 0 _ => .M
  | .makeSlice _ _ _ => .M
  | _ => .R
def autoK (f : Bool) : Bool → List Oper → List RK
  | _, [] => []
  | seen, o :: l => (if kind0 f o.op = .M ∧ seen = true then .W else kind0 f o.op) :: autoK f (seen || decide (kind0 f o.op = .W)) l
theorem awp_anyA {P : Program} (f : Bool) {s : AS} {id : Nat} {l : List Oper} {Q : Exit → AS → Prop} (hm : P.follows .mixedOrders = true) (hB : anyB l (autoK f false l) = true) (h : anyC P l.toArray [] 0 (Q .normal) l (autoK f false l) s) : awp P (.region id l.toArray true) Q s :=
  awp_anyC _ hm hB h
attribute [simp] autoK kind0
attribute [simp] anyC aevM aevW
@[simp] theorem eyes_mk (q : Nat) (n : Nat) (t : Nat → AV) (σ : Nat → AB) (n0 : Nat) (L : List AB) : (AS.mk n t σ n0 L).eyes q = ⟨n, t, only q (loc σ n0 L), n0, []⟩ := rfl
@[simp] theorem only_self (q : Nat) (σ : Nat → AB) : only q σ q = σ q := if_pos rfl
@[simp] theorem blind_mk (m : List AB) (n : Nat) (t : Nat → AV) (σ : Nat → AB) (n0 : Nat) (L : List AB) : (AS.mk n t σ n0 L).blind m = ⟨n, t, fun _ => .unborn, n0, m⟩ := rfl
attribute [simp] keepsL
end Go.Proofs.YtkhmlicikbnmdaaDoor

/- Appends of strings to growing slices of bytes; calls that change two blocks. -/
namespace Go.Proofs.YtkhmlicikbnmdaaDoor
open Go.RowKit Go.Lib

section
variable {P : Program} {s : AS}
/-- one operation of a region, by hand -/
theorem aseq_do {ops : Array Oper} {K : AS → Prop} {o : Oper} {l : List Oper} (hb : awant ops o s.t = some true) (h : aev P s o.op (fun x s1 => dstOk o.dst s1.n ∧ aseq P ops K l (s1.put o.dst x))) : aseq P ops K (o :: l) s := by
  rw [aseq]; exact ⟨true, hb, aev_sound h⟩
theorem aseq_eop {ops : Array Oper} {K : AS → Prop} {o : Oper} {l : List Oper} (hb : awant ops o s.t = some true) (h : EOp P s o.op (fun x s1 => dstOk o.dst s1.n ∧ aseq P ops K l (s1.put o.dst x))) : aseq P ops K (o :: l) s := by
  rw [aseq]; exact ⟨true, hb, h⟩
/-- a call that changes two blocks of the store -/
theorem acallS2 {f : FuncId} {args : List AV} {K : AV → AS → Prop} {x : AV} (r r' : Nat) (ab ab' : AB) (h : AC P f args s.st fun y τ => y = x ∧ τ = upd (upd s.st r ab) r' ab') (hr : s.st r ≠ .unborn) (hr' : s.st r' ≠ .unborn) (hK : K x ((s.set r ab).set r' ab')) : ACall P f args s K := by
  have h1 : r < s.nx := Nat.lt_of_not_le fun hle => hr (s.fin r hle)
  have h2 : r' < s.nx := Nat.lt_of_not_le fun hle => hr' (s.fin r' hle)
  have hn : (s.set r ab).nx = s.nx := by unfold AS.set AS.nx; split <;> simp
  obtain ⟨e1, e2, e3⟩ := s.set_nx r ab
  obtain ⟨g1, g2, g3⟩ := (s.set r ab).set_nx r' ab'
  exact ⟨x, (s.set r ab).set r' ab', by rw [AS.set_st _ _ _ (by rw [hn]; exact h2), AS.set_st _ _ _ h1]; exact h, ⟨g3.trans e3, g1.trans e1, g2.trans e2⟩, hK⟩
/-- a function that leaves the store in a given state -/
theorem acT_of_awp {f : FuncId} {fn : Func} {c : Code} {rs : List ResultVar} {args : List AV} {x : AV} {N : Nat} {σ τ : Nat → AB} (hf : P.funcs[f]? = some fn) (hN : fn.ntmps = N) (hb : fn.body = some c) (hr : fn.results = rs.toArray) (hlen : rs.length ≤ 4) (ha : Nat.ble args.length N = true) (hx : ∀ n, x.cl n) (hτ : ∀ n, Fin σ n → (∀ r, (σ r).cl n) → Fin τ n ∧ ∀ r, (τ r).cl n)
    (h : ∀ n0, Fin σ n0 → (∀ r, (σ r).cl n0) → AV.fitss args → awp P c (fun e s' => (e = .normal ∨ e = .ret) ∧ s'.n0 = n0 ∧ s'.σ = τ ∧ ares P s' rs x) { n := N, t := atEntry args 0, σ := σ, n0 := n0, L := [] }) : AC P f args σ fun y τ' => y = x ∧ τ' = τ := by
  subst hN
  refine ac_of_awp hf hb hr hlen (Nat.le_of_ble_eq_true ha) fun n0 hfin hcl hft => ?_
  obtain ⟨h5, h6⟩ := hτ n0 hfin hcl
  refine awp_mono (h n0 hfin hcl hft) fun e s' ⟨h1, h2, h3, h4⟩ => ⟨h1, h2, x, h4, hx n0, fun k _ => by rw [h3]; exact h6 k, rfl, ?_⟩
  funext k
  unfold Proofs.YtkhmlicikbnmdaaDoor.cut
  rw [h3]
  split
  · rfl
  · exact (h5 k (by omega)).symm
end
end Go.Proofs.YtkhmlicikbnmdaaDoor
