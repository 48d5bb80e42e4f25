/- Regions that draw their order, computed: what simp runs. -/
import Derived.Test.YtmhelkhmgbbfhaaGa4
import Derived.Test.YtmhelkhmgbbfhaaGa12
import Derived.Test.YtmhelkhmgbbfhaaGa15
import Derived.Test.YtmhelkhmgbbfhaaGa16
import Derived.Test.YtmhelkhmgbbfhaaGa17
import Derived.Test.YtmhelkhmgbbfhaaGa23
import Derived.Test.YtmhelkhmgbbfhaaGa24
namespace Go.Proofs.Ytmhelkhmgbbfhaa
open Go.RowKit Go.Lib

section
variable {P : Program}
theorem wop_of_eop {s : AS} {o : Op} {x : AV} {τ : Nat → AB} (h : ∀ s' : AS, (∀ y ∈ o.operands, s'.eval y = s.eval y) → s'.st = s.st → s'.nx = s.nx → EOp P s' o (fun x1 s1 => x1 = x ∧ s1.st = τ)) : WOp P s.eval s.st o x τ := by
  classical
  intro X a oper ho hS hd hσ hev Q
  let s' : AS := { n := a.tmps.size, t := fun d => if Operand.tmp d ∈ o.operands then s.t d else .any, σ := s.st, n0 := s.nx, L := [] }
  have hst : s'.st = s.st := by
    funext r
    show loc s.st s.nx [] r = s.st r
    unfold loc
    split
    · rfl
    · rw [s.fin r (by omega)]; rfl
  have he : ∀ y ∈ o.operands, s'.eval y = s.eval y := fun y hy => by
    cases y with
    | tmp d => exact if_pos hy
    | _ => rfl
  have hc : Con X s' a X.w X := ⟨rfl, by rw [hst, hσ], hS, Fr.refl X, rfl, fun d => by
    show RR X (if Operand.tmp d ∈ o.operands then s.t d else .any) _
    split
    · rename_i hy; exact hev _ hy
    · trivial, hd, by rw [hσ]; exact s.fin⟩
  refine Oper.wp_mono ?_ (h s' he hst rfl X a X.w X oper ho hc Q)
  rintro a' w' ⟨v, x1, s1, X', rfl, ⟨rfl, h2⟩, hc', hR⟩
  exact ⟨v, X', rfl, hc'.w, hc'.sr, hc'.fr, hR, by rw [hc'.σ, h2]⟩

def AGives (P : Program) (f : FuncId) (args : List AV) (K : AV → Prop) : Prop := ∃ x, Gives P f args x ∧ K x
theorem agives {f : FuncId} {args : List AV} {K : AV → Prop} {x : AV} (h : Gives P f args x) (hK : K x) : AGives P f args K := ⟨x, h, hK⟩
def aevM (P : Program) (s : AS) (o : Op) (K : AV → Option AB → Prop) : Prop :=
  match o with
  | .call { callee := .value (.func f), args := ⟨args⟩, .. } => nts (args.map s.eval) = true ∧ enters P f = true ∧ AGives P f ((args.map s.eval).map AV.pub) (fun x => K x none)
  | .call { callee := .value (.tmp d), args := ⟨args⟩, .. } => match s.t d with
    | .fn f caps => nts (args.map s.eval) = true ∧ enters P f = true ∧ AGives P f ((args.map s.eval).map AV.pub ++ caps) (fun x => K x none)
    | _ => False
  | o => aevF P s o K
theorem aevM_sound {s : AS} {o : Op} {K : AV → Option AB → Prop} (h : aevM P s o K) : ∃ x nb, FOp2 P s.eval s.st o x (nb.map (s.nx, ·)) ∧ K x nb := by
  unfold aevM at h
  split at h
  · obtain ⟨h1, h2, x, h3, h4⟩ := h
    exact ⟨x, none, fop2_call h2 (nts_spec h1) h3, h4⟩
  · split at h
    · obtain ⟨h1, h2, x, h3, h4⟩ := h
      exact ⟨x, none, fop2_callF ‹_› h2 (nts_spec h1) h3, h4⟩
    · exact h.elim
  · obtain ⟨x, nb, h1, h2⟩ := aevF_sound h
    exact ⟨x, nb, h1.two, h2⟩
/-- the state without its store -/
def AS.blind (s : AS) : AS := { s with σ := fun _ => .unborn, L := [] }
theorem blind_st (s : AS) : s.blind.st = fun _ => .unborn := by
  funext r
  show loc (fun _ => .unborn) s.n0 [] r = _
  unfold loc; split <;> rfl

def aevW (P : Program) (s : AS) (o : Op) (K : AV → AS → Prop) : Prop :=
  match o with
  | .store t p y => stC P s t p y K
  | .call { callee := .value (.func f), args := ⟨args⟩, .. } => nts (args.map s.eval) = true ∧ enters P f = true ∧ ACall P f ((args.map s.eval).map AV.pub) s K
  | .call { callee := .value (.tmp d), args := ⟨args⟩, .. } => match s.t d with
    | .fn f caps => nts (args.map s.eval) = true ∧ enters P f = true ∧ ACall P f ((args.map s.eval).map AV.pub ++ caps) s K
    | _ => False
  | .call { callee := .builtin .append, args := ⟨[x, y]⟩, argTypes := ⟨[t, t']⟩ } => t' = t ∧ (match vinfo P t with
    | some (e, sz, by_) => match s.eval x, s.eval y with
      | .gs r l, y => match s.st r, y.list with
        | .tail n e' sz', some ys => e' = e ∧ sz' = sz ∧ n = l.length ∧ 0 < ys.length ∧ AV.wid l sz ∧ AV.wid ys sz ∧ AV.elms ys ∧ (l.length + ys.length) * by_ ≤ 140737488355328 ∧ K (.gs r (l ++ ys)) (s.set r (.tail (l.length + ys.length) e sz))
        | _, _ => False
      | .v (.slice none 0 0), y => match y.list with
        | some ys => 0 < ys.length ∧ AV.wid ys sz ∧ AV.elms ys ∧ ys.length * by_ ≤ 140737488355328 ∧ K (.gs s.nx ys) (s.ext (some (.tail ys.length e sz)))
        | none => False
      | _, _ => False
    | none => False)
  | .buildSlice t 0 ⟨[]⟩ => match vinfo P t with
    | some (e, sz, _) => K (.gs s.nx []) (s.ext (some (.tail 0 e sz)))
    | none => False
  | _ => False
theorem set_lt {s : AS} {r : Nat} {ab : AB} (h : s.st r = ab) (hne : ab ≠ .unborn) : r < s.nx := Nat.lt_of_not_le fun hle => hne (h.symm.trans (s.fin r hle))
theorem aevW_sound {s : AS} {o : Op} {K : AV → AS → Prop} (h : aevW P s o K) : ∃ x s1, WOp P s.eval s.st o x s1.st ∧ (s1.t = s.t ∧ s1.n = s.n ∧ s1.n0 = s.n0) ∧ K x s1 := by
  unfold aevW at h
  split at h
  · rename_i t p y
    obtain ⟨s1, h1, h2, h3⟩ := stC_st h
    exact ⟨.any, s1, wop_of_eop fun s' he hst hnx => stC_sound (h3 s' (he p (by simp [Op.operands])) (he y (by simp [Op.operands])) hst hnx), h1, h2⟩
  · obtain ⟨h1, h2, x, s1, h3, h4, h5⟩ := h
    exact ⟨x, s1, wop_call h2 (nts_spec h1) h3, h4, h5⟩
  · split at h
    · obtain ⟨h1, h2, x, s1, h3, h4, h5⟩ := h
      exact ⟨x, s1, wop_callF ‹_› h2 (nts_spec h1) h3, h4, h5⟩
    · exact h.elim
  · rename_i x y t t'
    obtain ⟨rfl, h⟩ := h
    split at h
    · rename_i e sz by_ ht
      split at h
      · rename_i r l hx
        split at h
        · rename_i n e' sz' ys hσ hy
          obtain ⟨rfl, rfl, rfl, h2, h3, h4, h5, h6, h7⟩ := h
          have hr := set_lt hσ (by simp)
          refine ⟨_, _, wop_of_eop fun s' he hst hnx => ?_, ⟨(s.set_nx r _).2.2, (s.set_nx r _).1, (s.set_nx r _).2.1⟩, h7⟩
          have ex := he x (by simp [Op.operands, Call.operands])
          have ey := he y (by simp [Op.operands, Call.operands])
          refine eop_appendG ht (by rw [ex]; exact hx) (by rw [hst]; exact hσ) (by rw [ey]; exact hy) h2 h3 h4 h5 h6 ⟨rfl, ?_⟩
          rw [AS.set_st _ _ _ (by rw [hnx]; exact hr), AS.set_st _ _ _ hr, hst]
        · exact h.elim
      · rename_i hx
        split at h
        · rename_i ys hy
          obtain ⟨h2, h4, h5, h6, h7⟩ := h
          refine ⟨_, s.ext (some (.tail ys.length e sz)), wop_of_eop fun s' he hst hnx => ?_, ⟨rfl, rfl, rfl⟩, h7⟩
          have ex := he x (by simp [Op.operands, Call.operands])
          have ey := he y (by simp [Op.operands, Call.operands])
          refine eop_appendN ht (by rw [ex]; exact hx) (by rw [ey]; exact hy) h2 h4 h5 h6 ⟨by rw [hnx], ?_⟩
          rw [(ext_st s' _).1, (ext_st s _).1, hst, hnx]
        · exact h.elim
      · exact h.elim
    · exact h.elim
  · split at h
    · rename_i e sz by_ ht
      refine ⟨.gs s.nx [], s.ext (some (.tail 0 e sz)), wop_of_eop fun s' he hst hnx => ?_, ⟨rfl, rfl, rfl⟩, h⟩
      refine eop_fun (nb := some (.tail 0 e sz)) (fop_emptySlice ht) ⟨by rw [hnx], ?_⟩
      rw [(ext_st s' _).1, (ext_st s _).1, hst, hnx]
    · exact h.elim
  · exact h.elim

def anyC (P : Program) (ops : Array Oper) (K : AS → Prop) : List Oper → List RK → AS → Prop
  | [], _, s => K s
  | o :: l, ks, s => match awant ops o s.t with
    | some true => match ks.headD .R with
      | .R => aevF P s.blind o.op (fun x nb => nb = none ∧ dstOk o.dst s.n ∧ anyC P ops K l ks.tail (s.put o.dst x))
      | .M => aevM P s o.op (fun x nb => dstOk o.dst s.n ∧ anyC P ops K l ks.tail ((s.ext nb).put o.dst x))
      | .W => aevW P s o.op (fun x s1 => dstOk o.dst s.n ∧ anyC P ops K l ks.tail (s1.put o.dst x))
    | some false => dstOk o.dst s.n ∧ anyC P ops K l ks.tail (s.put o.dst (.v undef))
    | none => False

theorem anyC_steps {ops : Array Oper} {K : AS → Prop} : ∀ (l : List Oper) (ks : List RK) (s : AS), anyC P ops K l ks s → ∃ st s1 xs bs nbs, AnyStepsG P ops l ks st s1 xs bs nbs ∧ st 0 = s ∧ K (st l.length)
  | [], ks, s, h => by
    refine ⟨fun _ => s, fun _ => s, fun _ => .any, fun _ => true, fun _ => none, ⟨?_, ?_, ?_, ?_, ?_, ?_, ?_, ?_⟩, rfl, h⟩ <;> (intro i o ho; simp at ho)
  | o :: l, ks, s, h => by
    have key : ∀ (x : AV) (b : Bool) (nb : Option AB) (s1 : AS), awant ops o s.t = some b → dstOk o.dst s.n → (s1.t = s.t ∧ s1.n = s.n ∧ s1.n0 = s.n0) → (b = false → x = .v undef ∧ s1 = s ∧ nb = none) →
        (b = true → ks.headD .R = .R → FOp2 P s.eval (fun _ => .unborn) o.op x none ∧ s1 = s ∧ nb = none) → (b = true → ks.headD .R = .M → FOp2 P s.eval s.st o.op x (nb.map (s.nx, ·)) ∧ s1 = s.ext nb) →
        (b = true → ks.headD .R = .W → WOp P s.eval s.st o.op x s1.st ∧ nb = none) → anyC P ops K l ks.tail (s1.put o.dst x) → ∃ st s1 xs bs nbs, AnyStepsG P ops (o :: l) ks st s1 xs bs nbs ∧ st 0 = s ∧ K (st (o :: l).length) := by
      intro x b nb s1 hw hd hsame hskip hR hM hW hrest
      obtain ⟨st, s1', xs, bs, nbs, hs, h0, hK⟩ := anyC_steps l ks.tail _ hrest
      have hks : ∀ i, ks.getD (i + 1) .R = ks.tail.getD i .R := fun i => by cases ks <;> simp
      have hk0 : ks.getD 0 .R = ks.headD .R := by cases ks <;> simp
      refine ⟨fun i => match i with | 0 => s | i + 1 => st i, fun i => match i with | 0 => s1 | i + 1 => s1' i, fun i => match i with | 0 => x | i + 1 => xs i, fun i => match i with | 0 => b | i + 1 => bs i, fun i => match i with | 0 => nb | i + 1 => nbs i, ⟨?_, ?_, ?_, ?_, ?_, ?_, ?_, ?_⟩, rfl, hK⟩ <;> intro i o' ho <;> cases i
      · simp at ho; subst ho; exact hw
      · exact hs.want _ o' (by simpa using ho)
      · simp at ho; subst ho; exact hd
      · exact hs.dst _ o' (by simpa using ho)
      · simp at ho; subst ho; exact h0
      · exact hs.next _ o' (by simpa using ho)
      · simp at ho; subst ho; exact hsame
      · exact hs.same _ o' (by simpa using ho)
      · simp at ho; subst ho; exact hskip
      · exact hs.skip _ o' (by simpa using ho)
      · simp at ho; subst ho; rw [hk0]; exact hR
      · rw [hks]; exact hs.opR _ o' (by simpa using ho)
      · simp at ho; subst ho; rw [hk0]; exact hM
      · rw [hks]; exact hs.opM _ o' (by simpa using ho)
      · simp at ho; subst ho; rw [hk0]; exact hW
      · rw [hks]; exact hs.opW _ o' (by simpa using ho)
    rw [anyC] at h
    split at h
    · rename_i hw
      split at h
      · rename_i hk
        obtain ⟨x, nb, h1, rfl, h2, h3⟩ := aevF_sound h
        rw [blind_st] at h1
        exact key x true none s hw h2 ⟨rfl, rfl, rfl⟩ (fun e => by cases e) (fun _ _ => ⟨h1.two, rfl, rfl⟩) (fun _ e => by rw [hk] at e; cases e) (fun _ e => by rw [hk] at e; cases e) h3
      · rename_i hk
        obtain ⟨x, nb, h1, h2, h3⟩ := aevM_sound h
        exact key x true nb (s.ext nb) hw h2 (by cases nb <;> exact ⟨rfl, rfl, rfl⟩) (fun e => by cases e) (fun _ e => by rw [hk] at e; cases e) (fun _ _ => ⟨h1, rfl⟩) (fun _ e => by rw [hk] at e; cases e) h3
      · rename_i hk
        obtain ⟨x, s1, h1, h2, h3, h4⟩ := aevW_sound h
        exact key x true none s1 hw h3 h2 (fun e => by cases e) (fun _ e => by rw [hk] at e; cases e) (fun _ e => by rw [hk] at e; cases e) (fun _ _ => ⟨h1, rfl⟩) h4
    · rename_i hw
      exact key (.v undef) false none s hw h.1 ⟨rfl, rfl, rfl⟩ (fun _ => ⟨rfl, rfl, rfl⟩) (fun e => by cases e) (fun e => by cases e) (fun e => by cases e) h.2
    · exact h.elim

theorem awp_anyC {s : AS} {id : Nat} {l : List Oper} {Q : Exit → AS → Prop} (ks : List RK) (hm : P.follows .mixedOrders = true) (hB : anyB l ks = true) (h : anyC P l.toArray (Q .normal) l ks s) : awp P (.region id l.toArray true) Q s := by
  obtain ⟨st, s1, xs, bs, nbs, hs, rfl, hK⟩ := anyC_steps l ks s h
  exact awp_any hm hB hs hK
end
attribute [simp] anyC aevM aevW
@[simp] theorem blind_mk (n : Nat) (t : Nat → AV) (σ : Nat → AB) (n0 : Nat) (L : List AB) : (AS.mk n t σ n0 L).blind = ⟨n, t, fun _ => .unborn, n0, []⟩ := rfl
end Go.Proofs.Ytmhelkhmgbbfhaa

/- From contracts at worlds to abstract ones, and back. -/
namespace Go.Proofs.Ytmhelkhmgbbfhaa
open Go.RowKit Go.Lib

mutual
def D.av : D → AV
  | .int n => .v (.int .i64 n)
  | .bool b => .v (.bool b)
  | .str s => .v (.string s)
  | .st l => .agg (D.cs l)
  | .sl l => .sl (D.avs l)
def D.cs : List D → List AV
  | [] => []
  | .st l' :: l => D.cs l' ++ D.cs l
  | .int n :: l => .v (.int .i64 n) :: D.cs l
  | .bool b :: l => .v (.bool b) :: D.cs l
  | .str s :: l => .v (.string s) :: D.cs l
  | .sl l' :: l => .sl (D.avs l') :: D.cs l
def D.avs : List D → List AV
  | [] => []
  | d :: l => d.av :: D.avs l
end
theorem D.avs_map : ∀ l : List D, D.avs l = l.map D.av
  | [] => by rw [D.avs]; rfl
  | d :: l => by rw [D.avs, D.avs_map l]; rfl
theorem D.cs_cons (d : D) (l : List D) : D.cs (d :: l) = (match d with | .st l' => D.cs l' | d => [d.av]) ++ D.cs l := by
  cases d <;> simp [D.cs, D.av]
mutual
theorem D.av_width : ∀ d : D, d.av.width = d.width
  | .int _ => by rw [D.av]; rfl
  | .bool _ => by rw [D.av]; rfl
  | .str _ => by rw [D.av]; rfl
  | .st l => by rw [D.av, D.width]; exact D.cs_len l
  | .sl _ => by rw [D.av]; rfl
theorem D.cs_len : ∀ l : List D, (D.cs l).length = D.widths l
  | [] => by rw [D.cs]; rfl
  | .st l' :: l => by rw [D.cs, List.length_append, D.cs_len l', D.cs_len l, D.widths, D.width]
  | .int n :: l => by rw [D.cs, List.length_cons, D.cs_len l, D.widths, D.width]; omega
  | .bool b :: l => by rw [D.cs, List.length_cons, D.cs_len l, D.widths, D.width]; omega
  | .str s :: l => by rw [D.cs, List.length_cons, D.cs_len l, D.widths, D.width]; omega
  | .sl l' :: l => by rw [D.cs, List.length_cons, D.cs_len l, D.widths, D.width]; omega
end
theorem R1s.split {X : St} : ∀ {a b : List AV} {cs : List Value}, R1s X (a ++ b) cs → ∃ c1 c2, cs = c1 ++ c2 ∧ R1s X a c1 ∧ R1s X b c2
  | [], b, cs, h => ⟨[], cs, rfl, by rw [R1s], h⟩
  | x :: a, b, cs, h => by
    rw [List.cons_append, R1s] at h
    obtain ⟨v, vs, rfl, h0, h1, h2⟩ := h
    obtain ⟨c1, c2, rfl, h3, h4⟩ := h2.split
    exact ⟨v :: c1, c2, rfl, by rw [R1s]; exact ⟨v, c1, rfl, h0, h1, h3⟩, h4⟩

mutual
theorem rd_of_rc {X : St} : ∀ (d : D) (cs : List Value), RC X d.av cs → Rd X.w Any d cs
  | .int n, cs, h => by rw [D.av, RC] at h; rw [Rd]; exact h
  | .bool n, cs, h => by rw [D.av, RC] at h; rw [Rd]; exact h
  | .str n, cs, h => by rw [D.av, RC] at h; rw [Rd]; exact h
  | .st l, cs, h => by rw [D.av, RC] at h; rw [Rd]; exact rdS_of_r1s l cs h
  | .sl l, cs, h => by
    rw [D.av, RC] at h; rw [Rd]
    obtain ⟨A, cap, b, off, h1, h2, h3, h4, h5⟩ := h
    have hl : (D.avs l).length = l.length := by rw [D.avs_map]; simp
    rw [hl] at h1 h2 h4
    exact ⟨A, cap, b, off, h1, h2, h3, fun h => ⟨h4 h, trivial⟩, rdM_of_rm l b off h5⟩
theorem rdS_of_r1s {X : St} : ∀ (l : List D) (cs : List Value), R1s X (D.cs l) cs → RdS X.w Any l cs
  | [], cs, h => by rw [D.cs, R1s] at h; rw [RdS]; exact h
  | .st l' :: l, cs, h => by
    rw [D.cs] at h
    obtain ⟨c1, c2, rfl, h1, h2⟩ := h.split
    rw [RdS]
    exact ⟨c1, c2, rfl, by rw [Rd]; exact rdS_of_r1s l' c1 h1, rdS_of_r1s l c2 h2⟩
  | .int n :: l, cs, h => by
    rw [D.cs, R1s] at h
    obtain ⟨v, vs, rfl, h0, h1, h2⟩ := h
    rw [RdS]; rw [RC] at h1
    exact ⟨[v], vs, rfl, by rw [Rd]; exact h1, rdS_of_r1s l vs h2⟩
  | .bool n :: l, cs, h => by
    rw [D.cs, R1s] at h
    obtain ⟨v, vs, rfl, h0, h1, h2⟩ := h
    rw [RdS]; rw [RC] at h1
    exact ⟨[v], vs, rfl, by rw [Rd]; exact h1, rdS_of_r1s l vs h2⟩
  | .str n :: l, cs, h => by
    rw [D.cs, R1s] at h
    obtain ⟨v, vs, rfl, h0, h1, h2⟩ := h
    rw [RdS]; rw [RC] at h1
    exact ⟨[v], vs, rfl, by rw [Rd]; exact h1, rdS_of_r1s l vs h2⟩
  | .sl l' :: l, cs, h => by
    rw [D.cs, R1s] at h
    obtain ⟨v, vs, rfl, h0, h1, h2⟩ := h
    rw [RdS]
    refine ⟨[v], vs, rfl, ?_, rdS_of_r1s l vs h2⟩
    rw [RC] at h1; rw [Rd]
    obtain ⟨A, cap, b, off, h3, h4, h5, h6, h7⟩ := h1
    have hl : (D.avs l').length = l'.length := by rw [D.avs_map]; simp
    rw [hl] at h3 h4 h6
    exact ⟨A, cap, b, off, h3, h4, h5, fun h => ⟨h6 h, trivial⟩, rdM_of_rm l' b off h7⟩
theorem rdM_of_rm {X : St} : ∀ (l : List D) (b off : Nat), RM X (D.avs l) b off → RdM X.w Any l b off
  | [], _, _, _ => by rw [RdM]; trivial
  | d :: l, b, off, h => by
    rw [D.avs, RM] at h; rw [RdM]
    obtain ⟨⟨cs, h1, h2⟩, h3⟩ := h
    rw [D.av_width] at h3
    exact ⟨⟨cs, h1.at, rd_of_rc d cs h2⟩, rdM_of_rm l b _ h3⟩
end

theorem cellsS_of_at {X : St} {b : Nat} (hS : ∀ o v, X.w.cell? ⟨b, o, none⟩ = some v → X.S b o) : ∀ {cs : List Value} {off : Nat}, CellsAt X.w b off cs → CellsS X b off cs
  | [], _, _ => trivial
  | _ :: _, _, h => ⟨h.1, hS _ _ h.1, cellsS_of_at hS h.2⟩
mutual
theorem rc_of_rd {X : St} {S : Nat → Prop} (hS : ∀ b o v, S b → X.w.cell? ⟨b, o, none⟩ = some v → X.S b o) : ∀ (d : D) (cs : List Value), Rd X.w S d cs → RC X d.av cs
  | .int n, cs, h => by rw [Rd] at h; rw [D.av, RC]; exact h
  | .bool n, cs, h => by rw [Rd] at h; rw [D.av, RC]; exact h
  | .str n, cs, h => by rw [Rd] at h; rw [D.av, RC]; exact h
  | .st l, cs, h => by rw [Rd] at h; rw [D.av, RC]; exact r1s_of_rdS hS l cs h
  | .sl l, cs, h => by
    rw [Rd] at h; rw [D.av, RC]
    obtain ⟨A, cap, b, off, h1, h2, h3, h4, h5⟩ := h
    have hl : (D.avs l).length = l.length := by rw [D.avs_map]; simp
    rw [hl]
    refine ⟨A, cap, b, off, h1, h2, h3, fun h => (h4 h).1, ?_⟩
    cases l with
    | nil => rw [D.avs, RM]; trivial
    | cons d l => exact rm_of_rdM hS (d :: l) b off (h4 (by simp)).2 h5
theorem r1s_of_rdS {X : St} {S : Nat → Prop} (hS : ∀ b o v, S b → X.w.cell? ⟨b, o, none⟩ = some v → X.S b o) : ∀ (l : List D) (cs : List Value), RdS X.w S l cs → R1s X (D.cs l) cs
  | [], cs, h => by rw [RdS] at h; rw [D.cs, R1s]; exact h
  | .st l' :: l, cs, h => by
    rw [RdS] at h
    obtain ⟨c1, c2, rfl, h1, h2⟩ := h
    rw [Rd] at h1
    rw [D.cs]
    exact (r1s_of_rdS hS l' c1 h1).append (r1s_of_rdS hS l c2 h2)
  | .int n :: l, cs, h => by
    rw [RdS] at h
    obtain ⟨c1, c2, rfl, h1, h2⟩ := h
    rw [Rd] at h1; subst h1
    rw [D.cs, R1s]
    exact ⟨_, c2, rfl, rfl, by rw [RC], r1s_of_rdS hS l c2 h2⟩
  | .bool n :: l, cs, h => by
    rw [RdS] at h
    obtain ⟨c1, c2, rfl, h1, h2⟩ := h
    rw [Rd] at h1; subst h1
    rw [D.cs, R1s]
    exact ⟨_, c2, rfl, rfl, by rw [RC], r1s_of_rdS hS l c2 h2⟩
  | .str n :: l, cs, h => by
    rw [RdS] at h
    obtain ⟨c1, c2, rfl, h1, h2⟩ := h
    rw [Rd] at h1; subst h1
    rw [D.cs, R1s]
    exact ⟨_, c2, rfl, rfl, by rw [RC], r1s_of_rdS hS l c2 h2⟩
  | .sl l' :: l, cs, h => by
    rw [RdS] at h
    obtain ⟨c1, c2, rfl, h1, h2⟩ := h
    rw [Rd] at h1
    obtain ⟨A, cap, b, off, rfl, h4, h5, h6, h7⟩ := h1
    rw [D.cs, R1s]
    refine ⟨_, c2, rfl, rfl, ?_, r1s_of_rdS hS l c2 h2⟩
    have hl : (D.avs l').length = l'.length := by rw [D.avs_map]; simp
    rw [RC, hl]
    refine ⟨A, cap, b, off, rfl, h4, h5, fun h => (h6 h).1, ?_⟩
    cases l' with
    | nil => rw [D.avs, RM]; trivial
    | cons d l' => exact rm_of_rdM hS (d :: l') b off (h6 (by simp)).2 h7
theorem rm_of_rdM {X : St} {S : Nat → Prop} (hS : ∀ b o v, S b → X.w.cell? ⟨b, o, none⟩ = some v → X.S b o) : ∀ (l : List D) (b off : Nat), S b → RdM X.w S l b off → RM X (D.avs l) b off
  | [], _, _, _, _ => by rw [D.avs, RM]; trivial
  | d :: l, b, off, hb, h => by
    rw [RdM] at h; rw [D.avs, RM]
    obtain ⟨⟨cs, h1, h2⟩, h3⟩ := h
    rw [D.av_width]
    exact ⟨⟨cs, cellsS_of_at (fun o v => hS b o v hb) h1, rc_of_rd hS d cs h2⟩, rm_of_rdM hS l b _ hb h3⟩
end

/-- the state after a call that only adds memory -/
def St.later (X : St) (w : World) : St := { X with w := w, S := fun b o => X.S b o ∨ (X.w.heap.size ≤ b ∧ b < w.heap.size) }
theorem later_fr {X : St} {w : World} (hS : SR X) (h : Ext X.w w) : Fr X (X.later w) where
  os := h.os
  tape := h.tape
  output := h.output
  size := h.size
  keep := fun b hb _ => h.block b hb
  keepS := fun b o hb => World.cell?_of_block (h.block b (hS.old b o hb))
  more := fun _ _ h => .inl h
  less := fun b o h => by
    rcases h with h | h
    · exact .inl h
    · exact .inr (.inl h.1)
  ver := (Fr.refl X).ver
  own := fun r b h => .inr ⟨r, h⟩
theorem later_sr {X : St} {w : World} (hS : SR X) (h : Ext X.w w) : SR (X.later w) where
  block := fun r => BR.fr hS (later_fr hS h) rfl rfl fun b hb => h.block b (hS.lt hb)
  alone := hS.alone
  apart := fun r b o h1 h2 => by
    rcases h2 with h2 | h2
    · exact hS.apart r b o h1 h2
    · have := hS.lt (X := X) (r := r) h1; omega
  old := fun b o hb => by
    rcases hb with hb | hb
    · exact Nat.lt_of_lt_of_le (hS.old b o hb) h.size
    · exact hb.2
  glob := hS.glob.mono fun _ _ _ hc => hc.fr (later_fr hS h)
theorem later_rc {X : St} {w : World} {d : D} {cs : List Value} (h : Rd w (fun b => X.w.heap.size ≤ b ∧ b < w.heap.size) d cs) : RC (X.later w) d.av cs :=
  rc_of_rd (X := X.later w) (S := fun b => X.w.heap.size ≤ b ∧ b < w.heap.size) (fun _ _ _ hb _ => .inr hb) d cs h
theorem gives_of {P : Program} {f : FuncId} {args : List AV} {x : AV} (h : ∀ X vals, RRl X args vals → Calls P f vals.toArray X.w fun r w' => Ext X.w w' ∧ ∃ v, r = .returned v ∧ RR (X.later w') x v) : Gives P f args x := by
  intro σ X vals nx hS hσ hfin hargs
  refine (h X vals hargs).mono ?_
  rintro r w' ⟨he, v, rfl, hR⟩
  exact ⟨X.later w', v, x, rfl, rfl, ⟨rfl, hσ⟩, later_sr hS he, later_fr hS he, hR⟩
theorem gives_v {P : Program} {f : FuncId} {args : List AV} {u : Value} (h : ∀ X vals, RRl X args vals → Calls P f vals.toArray X.w fun r w' => r = .returned u ∧ Ext X.w w') : Gives P f args (.v u) :=
  gives_of fun X vals ha => (h X vals ha).mono fun _ _ ⟨h1, h2⟩ => ⟨h2, u, h1, RR.v.2 rfl⟩

/-- back: in a world where nothing is the call's own -/
def St.flat (w : World) : St := { w := w, μ := fun _ => undef, S := fun b _ => b < w.heap.size, σ := fun _ => .unborn }
theorem flat_sr (w : World) (hg : globsOk (CellsS (St.flat w))) : SR (St.flat w) where
  block := fun _ => trivial
  alone := fun r r' b h _ => by cases h
  apart := fun r b o h _ => by cases h
  old := fun _ _ h => h
  glob := hg
theorem flat_rc {w : World} {S : Nat → Prop} {d : D} {cs : List Value} (h : Rd w S d cs) : RC (St.flat w) d.av cs :=
  rc_of_rd (X := St.flat w) (S := S) (fun _ _ _ _ hc => World.block_lt_of_cell? w _ hc) d cs h
theorem calls_of_gives {P : Program} {f : FuncId} {args : List AV} {u : Value} {w : World} {vals : List Value} (h : Gives P f args (.v u)) (ha : RRl (St.flat w) args vals) (hg : globsOk (CellsS (St.flat w)) := by exact trivial) : Calls P f vals.toArray w fun r w' => r = .returned u ∧ Ext w w' := by
  refine (h _ (St.flat w) vals 0 (flat_sr w hg) rfl (fun _ _ => rfl) ha).mono ?_
  rintro e w' ⟨Y, v, x, rfl, rfl, ⟨rfl, -⟩, hS, hF, hR⟩
  rw [RR.v] at hR
  subst hR
  exact ⟨rfl, hF.os, hF.tape, hF.output, hF.size, fun k hk => hF.keep k hk fun r hr => by cases hr⟩
end Go.Proofs.Ytmhelkhmgbbfhaa

/- Contracts of layer 16, as abstract ones. -/
namespace Go.Proofs.Ytmhelkhmgbbfhaa
open Go.RowKit Go.Lib

theorem Ex.d_av (e : Ex) : e.d.av = e.av := by
  induction e using Ex.ind with | h o n s l ih => ?_
  rw [Ex.d, Ex.ds_map, D.av, Ex.av_mk]
  simp only [D.cs, D.avs_map, List.map_map]
  congr 4
  simp only [List.cons.injEq, AV.sl.injEq, and_true, true_and]
  exact List.map_congr_left fun x hx => ih x hx
theorem exs_av (L : List Ex) : (D.sl (L.map Ex.d)).av = .sl (L.map Ex.av) := by
  rw [D.av, D.avs_map, List.map_map]
  congr 1
  exact List.map_congr_left fun x _ => x.d_av
theorem bools_av (L : List Bool) : (D.sl (L.map D.bool)).av = .sl (L.map AV.bool) := by
  rw [D.av, D.avs_map, List.map_map]
  rfl
theorem arg_ex {X : St} {e : Ex} {v : Value} (h : RR1 X e.av v) : ∃ cs : List Value, v = .agg cs.toArray ∧ Rd X.w Any e.d cs := by
  rw [Ex.av_eq] at h
  obtain ⟨cs, rfl, h2⟩ := h
  refine ⟨cs, rfl, rd_of_rc e.d cs ?_⟩
  rw [Ex.d_av, Ex.av_eq, RC]; exact h2
theorem arg_exs {X : St} {L : List Ex} {v : Value} (h : RR1 X (.sl (L.map Ex.av)) v) : Rd X.w Any (.sl (L.map Ex.d)) [v] :=
  rd_of_rc _ _ (by rw [exs_av]; exact h)
theorem arg_v {X : St} {x v : Value} (h : RR1 X (.v x) v) : v = x := by
  have h' : RC X (.v x) [v] := h
  rw [RC] at h'; simpa using h'

/-- an expression, or none -/
@[simp] def exr (o : Option Ex) : AV := .tup [(o.getD zeroE).av, .bool o.isSome]
theorem retX_rr {X : St} {w' : World} {o : Option Ex} {r : Ending} (h : RetX X.w w' o r) : ∃ v, r = .returned v ∧ RR (X.later w') (exr o) v := by
  obtain ⟨A, cap, rfl, hr⟩ := h
  refine ⟨_, rfl, [_, _], rfl, _, _, rfl, ?_, _, _, rfl, ?_, rfl⟩
  · have := later_rc (X := X) hr
    rw [Ex.d_av, Ex.av_eq, RC] at this
    rw [Ex.av_eq]
    exact ⟨_, rfl, this⟩
  · show RC (X.later w') (.v (.bool o.isSome)) [.bool o.isSome]
    rw [RC]
theorem rput_g (op : Int) (L : List Ex) (hL : ∀ x ∈ L, parts x ≤ 1000000) (e : Ex) (he : parts e ≤ 1000000) : Gives Try.prog 47 [e.av, .int op, .sl (L.map Ex.av)] (exr (putP op L e)) :=
  gives_of fun X vals ha => by
    obtain ⟨v0, _, rfl, h0, v1, _, rfl, h1, v2, _, rfl, h2, h3⟩ := ha
    cases h3
    obtain ⟨cs, rfl, hr⟩ := arg_ex h0
    cases arg_v h1
    exact (rput_any op L hL e Any cs v2 X.w hr (arg_exs h2) he).mono fun r w' ⟨h1, h2⟩ => ⟨h2, retX_rr h1⟩
theorem put_g (op : Int) (L : List Ex) (hL : ∀ x ∈ L, parts x ≤ 1000000) (e : Ex) (he : parts e ≤ 1000000) : Gives Try.prog 45 [e.av, .int op, .sl (L.map Ex.av)] (exr (putP op L e)) :=
  gives_of fun X vals ha => by
    obtain ⟨v0, _, rfl, h0, v1, _, rfl, h1, v2, _, rfl, h2, h3⟩ := ha
    cases h3
    obtain ⟨cs, rfl, hr⟩ := arg_ex h0
    cases arg_v h1
    exact (put_any op L hL e Any cs v2 X.w hr (arg_exs h2) he).mono fun r w' ⟨h1, h2⟩ => ⟨h2, retX_rr h1⟩
theorem rparts_g (e : Ex) (he : parts e ≤ 1000000) : Gives Try.prog 86 [e.av] (.int (parts e)) :=
  gives_v fun X vals ha => by
    obtain ⟨v0, _, rfl, h0, h3⟩ := ha
    cases h3
    obtain ⟨cs, rfl, hr⟩ := arg_ex h0
    exact rparts_any e Any cs X.w hr he
theorem rlevels_g (e : Ex) (he : levels e ≤ 1000000) : Gives Try.prog 17 [e.av] (.int (levels e)) :=
  gives_v fun X vals ha => by
    obtain ⟨v0, _, rfl, h0, h3⟩ := ha
    cases h3
    obtain ⟨cs, rfl, hr⟩ := arg_ex h0
    exact rlevels_any e Any cs X.w hr he
theorem levels_g (e : Ex) (he : levels e ≤ 1000000) : Gives Try.prog 46 [e.av] (.int (levels e)) :=
  gives_v fun X vals ha => by
    obtain ⟨v0, _, rfl, h0, h3⟩ := ha
    cases h3
    obtain ⟨cs, rfl, hr⟩ := arg_ex h0
    exact levels_any e Any cs X.w hr he
theorem rsame_g (a e : Ex) (he : parts a ≤ 1000000) : Gives Try.prog 23 [a.av, e.av] (.bool (sameB a e)) :=
  gives_v fun X vals ha => by
    obtain ⟨v0, _, rfl, h0, v1, _, rfl, h1, h3⟩ := ha
    cases h3
    obtain ⟨cs, rfl, hr⟩ := arg_ex h0
    obtain ⟨cs1, rfl, hr1⟩ := arg_ex h1
    exact rsame_any a e Any Any cs cs1 X.w hr hr1 he
end Go.Proofs.Ytmhelkhmgbbfhaa

/- More contracts of layer 16, as abstract ones. -/
namespace Go.Proofs.Ytmhelkhmgbbfhaa
open Go.RowKit Go.Lib

theorem Val.d_av (v : Val) : v.d.av = v.av := by
  rw [Val.d, D.av]; simp only [D.cs]; rfl
theorem ints_av (L : List Int) : (D.sl (L.map D.int)).av = .sl (L.map AV.int) := by
  rw [D.av, D.avs_map, List.map_map]; rfl
theorem Fn.d_av (f : Fn) : f.d.av = f.av := by
  obtain ⟨nm, ps, rs, b⟩ := f
  have h1 := ints_av ps
  have h2 := Ex.d_av b
  cases b with | mk o n s l => ?_
  rw [D.av] at h1
  injection h1 with h1
  have h5 := Ex.av_eq (.mk o n s l)
  rw [Fn.d, D.av]
  rw [Ex.d, D.av, h5] at h2
  injection h2 with h2
  simp only [Ex.d, D.cs, List.append_nil] at h2 ⊢
  rw [h2, h1]
  rfl
theorem vals_av (L : List Val) : (D.sl (L.map Val.d)).av = .sl (L.map Val.av) := by
  rw [D.av, D.avs_map, List.map_map, List.map_congr_left (f := D.av ∘ Val.d) (g := Val.av) fun x _ => x.d_av]
theorem fns_av (L : List Fn) : (D.sl (L.map Fn.d)).av = .sl (L.map Fn.av) := by
  rw [D.av, D.avs_map, List.map_map, List.map_congr_left (f := D.av ∘ Fn.d) (g := Fn.av) fun x _ => x.d_av]
theorem arg_vals {X : St} {L : List Val} {v : Value} (h : RR1 X (.sl (L.map Val.av)) v) : Rd X.w Any (.sl (L.map Val.d)) [v] :=
  rd_of_rc _ _ (by rw [vals_av]; exact h)
theorem arg_fns {X : St} {L : List Fn} {v : Value} (h : RR1 X (.sl (L.map Fn.av)) v) : Rd X.w Any (.sl (L.map Fn.d)) [v] :=
  rd_of_rc _ _ (by rw [fns_av]; exact h)

/-- a value, and a count -/
def cntA (v : Val) (n : Int) : AV := .agg [.int v.k, .int v.n, .str v.s, .int n]
theorem flat_r1s {X : St} : ∀ (l : List Value), (∀ x ∈ l, (AV.v x).one = true) → R1s X (l.map .v) l
  | [], _ => by rw [List.map_nil, R1s]
  | x :: l, h => by
    rw [List.map_cons, R1s]
    exact ⟨x, l, rfl, h x (by simp), by rw [RC], flat_r1s l fun y hy => h y (by simp [hy])⟩

theorem small_g : Gives Try.prog 9 [] (.bool true) :=
  gives_v fun X vals ha => by cases ha; exact small_any X.w
theorem good_g (F : List Fn) (e : Ex) (R : List Val) : Gives Try.prog 10 [.sl (F.map Fn.av), e.av, .sl (R.map Val.av)] (.bool (goodP F e R)) :=
  gives_v fun X vals ha => by
    obtain ⟨v0, _, rfl, h0, v1, _, rfl, h1, v2, _, rfl, h2, h3⟩ := ha
    cases h3
    obtain ⟨cs, rfl, hr⟩ := arg_ex h1
    exact good_any F e R Any Any Any v0 v2 cs X.w (arg_fns h0) hr (arg_vals h2)
theorem light_g (e : Ex) (n lv : Int) (h1 : 0 ≤ n) (h2 : n ≤ 1000) (h3 : -10 ≤ lv) (h4 : lv ≤ 20) : Gives Try.prog 18 [e.av, .int n, .int lv] (.int (light e n lv)) :=
  gives_v fun X vals ha => by
    obtain ⟨v0, _, rfl, h0, v1, _, rfl, h5, v2, _, rfl, h6, h7⟩ := ha
    cases h7
    obtain ⟨cs, rfl, hr⟩ := arg_ex h0
    cases arg_v h5; cases arg_v h6
    exact light_any e Any cs n lv X.w hr h1 h2 h3 h4
theorem repl_g (L : List Ex) (hL : ∀ x ∈ L, parts x ≤ 400000) (e : Ex) (he : parts e ≤ 400000) : Gives Try.prog 19 [e.av, .sl (L.map Ex.av)] (exr (replP e L)) :=
  gives_of fun X vals ha => by
    obtain ⟨v0, _, rfl, h0, v2, _, rfl, h2, h3⟩ := ha
    cases h3
    obtain ⟨cs, rfl, hr⟩ := arg_ex h0
    exact (repl_any L hL e Any cs v2 X.w hr (arg_exs h2) he).mono fun r w' ⟨h1, h2⟩ => ⟨h2, retX_rr h1⟩
theorem rrepl_g (L : List Ex) (hL : ∀ x ∈ L, parts x ≤ 400000) (e : Ex) (he : parts e ≤ 400000) : Gives Try.prog 20 [e.av, .sl (L.map Ex.av)] (exr (replP e L)) :=
  gives_of fun X vals ha => by
    obtain ⟨v0, _, rfl, h0, v2, _, rfl, h2, h3⟩ := ha
    cases h3
    obtain ⟨cs, rfl, hr⟩ := arg_ex h0
    exact (rrepl_any L hL e Any cs v2 X.w hr (arg_exs h2) he).mono fun r w' ⟨h1, h2⟩ => ⟨h2, retX_rr h1⟩
theorem steps_g (F : List Fn) (e : Ex) (hbd : parts e ≤ 1000000) (hp : ∀ f ∈ F, parts f.body ≤ 1000000) (hlen : F.length ≤ 1000000) (hwf : wfS F.length e = true) (hwF : ∀ i (h : i < F.length), wfS i F[i].body = true) : Gives Try.prog 15 [.sl (F.map Fn.av), e.av] (.int (stepsP F e)) :=
  gives_v fun X vals ha => by
    obtain ⟨v0, _, rfl, h0, v1, _, rfl, h1, h3⟩ := ha
    cases h3
    obtain ⟨cs, rfl, hr⟩ := arg_ex h1
    exact Steps_any F e Any Any v0 cs X.w (arg_fns h0) hr hbd hp hlen hwf hwF
theorem rsteps_g (F : List Fn) (e : Ex) (hbd : parts e ≤ 1000000) (hp : ∀ f ∈ F, parts f.body ≤ 1000000) (hlen : F.length ≤ 1000000) : Gives Try.prog 25 [.sl (F.map Fn.av), e.av] (.int (stepsP F e)) :=
  gives_v fun X vals ha => by
    obtain ⟨v0, _, rfl, h0, v1, _, rfl, h1, h3⟩ := ha
    cases h3
    obtain ⟨cs, rfl, hr⟩ := arg_ex h1
    exact rsteps_any F e Any Any v0 cs X.w (arg_fns h0) hr hbd hp hlen
theorem timed_g (F : List Fn) (e : Ex) (hlen : F.length ≤ 1000000) (hwf : wfS F.length e = true) (hwF : ∀ i (h : i < F.length), wfS i F[i].body = true) : Gives Try.prog 26 [.sl (F.map Fn.av), e.av] (.bool (timedP F e)) :=
  gives_v fun X vals ha => by
    obtain ⟨v0, _, rfl, h0, v1, _, rfl, h1, h3⟩ := ha
    cases h3
    obtain ⟨cs, rfl, hr⟩ := arg_ex h1
    exact Timed_any F e Any Any v0 cs X.w (arg_fns h0) hr hlen hwf hwF
theorem rtimed_g (F : List Fn) (e : Ex) (hbd : parts e ≤ 1000000) (hp : ∀ f ∈ F, parts f.body ≤ 1000000) (hlen : F.length ≤ 1000000) : Gives Try.prog 27 [.sl (F.map Fn.av), e.av] (.bool (timedP F e)) :=
  gives_v fun X vals ha => by
    obtain ⟨v0, _, rfl, h0, v1, _, rfl, h1, h3⟩ := ha
    cases h3
    obtain ⟨cs, rfl, hr⟩ := arg_ex h1
    exact rTimed_any F e Any Any v0 cs X.w (arg_fns h0) hr hbd hp hlen
theorem eval_g (F : List Fn) (time : Int) (R : List Val) (e : Ex) (t : Int) (hOk : ∀ i, i < F.length → okF F i = true) (hFp : ∀ f ∈ F, parts f.body ≤ 1000000) (hpb : parts e ≤ 1000000) (ht : ty F (R.map Val.k) [] e = some t) (hR : ∀ v ∈ R, soundV v) :
    Gives Try.prog 13 [.sl (F.map Fn.av), e.av, .int time, .sl (R.map Val.av)] (evalP F time R e).av :=
  gives_of fun X vals ha => by
    obtain ⟨v0, _, rfl, h0, v1, _, rfl, h1, v2, _, rfl, h2, v3, _, rfl, h3, h4⟩ := ha
    cases h4
    obtain ⟨cs, rfl, hr⟩ := arg_ex h1
    cases arg_v h2
    refine (Eval_any F time R e t hOk hFp hpb ht hR v0 v3 cs X.w (arg_fns h0) (arg_vals h3) hr).mono fun r w' ⟨h1, h2⟩ => ⟨h2, _, h1, ?_⟩
    exact ⟨_, rfl, flat_r1s [_, _, _] (by intro x hx; simp only [List.mem_cons, List.not_mem_nil, or_false] at hx; rcases hx with rfl | rfl | rfl <;> rfl)⟩
theorem run_g (F : List Fn) (time : Int) (R : List Val) (e : Ex) (t : Int) (hOk : ∀ i, i < F.length → okF F i = true) (hFp : ∀ f ∈ F, parts f.body ≤ 1000000) (hpb : parts e ≤ 1000000) (ht : ty F (R.map Val.k) [] e = some t) (hR : ∀ v ∈ R, soundV v) (hlt : countE (bodiesS [] F) e < 1099511627776) :
    Gives Try.prog 16 [.sl (F.map Fn.av), e.av, .int time, .sl (R.map Val.av), .sl []] (cntA (evalP F time R e) (cnt (callN F time F.length) (cntN F time F.length) time R [] e)) :=
  gives_of fun X vals ha => by
    obtain ⟨v0, _, rfl, h0, v1, _, rfl, h1, v2, _, rfl, h2, v3, _, rfl, h3, v4, _, rfl, h4, h5⟩ := ha
    cases h5
    obtain ⟨cs, rfl, hr⟩ := arg_ex h1
    cases arg_v h2
    have h4' := arg_vals (L := []) h4
    have hty2 : ty (F.take F.length) (R.map Val.k) [] e = some t := by rw [List.take_length]; exact ht
    refine (run_any F time hOk hFp F.length e (R.map Val.k) [] R [] t v0 v3 v4 cs X.w hty2 rfl rfl hR (by simp) hpb hlt (arg_fns h0) (arg_vals h3) h4' hr).mono fun r w' ⟨h1, h2⟩ => ⟨h2, _, h1, ?_⟩
    exact ⟨_, rfl, flat_r1s [_, _, _, _] (by intro x hx; simp only [List.mem_cons, List.not_mem_nil, or_false] at hx; rcases hx with rfl | rfl | rfl | rfl <;> rfl)⟩

set_option maxHeartbeats 1000000 in
theorem reval_g (F : List Fn) (time : Int) (R : List Val) (e : Ex) (t : Int) (hOk : ∀ i, i < F.length → okF F i = true) (hFp : ∀ f ∈ F, parts f.body ≤ 1000000) (hpb : parts e ≤ 1000000) (ht : ty F (R.map Val.k) [] e = some t) (hR : ∀ v ∈ R, soundV v) (hlt : countE (bodiesS [] F) e < 1099511627776) :
    Gives Try.prog 24 [.sl (F.map Fn.av), e.av, .int time, .sl (R.map Val.av)] (evalP F time R e).av := by
  have hc := run_g F time R e t hOk hFp hpb ht hR hlt
  generalize evalP F time R e = Z at *
  generalize cnt (callN F time F.length) (cntN F time F.length) time R [] e = C at *
  clear hOk hFp hpb ht hR hlt
  unfold cntA at hc
  refine gives_of_awp Try.func24 Try.ntmps24 rfl rfl (by decide) rfl (by intro n; simp) fun σ n0 hcl hft => ?_
  repeat (first | (refine awp_seq_k fun K hK => ?_) | (refine awp_regionC ?_; simp (disch := first | omega | simp) [wrap_i64]) | (refine hK _ ?_; clear hK; clear K) | (clear hK; clear K; refine hK _ ?_; clear hK; clear K) | (clear hK; clear K; clear hK; clear K; refine hK _ ?_; clear hK; clear K) | refine awp_block ?_ | (refine awp_condC ?_; simp (disch := first | omega | simp) [wrap_i64]) | (refine awp_exit ?_; simp (disch := first | omega | simp)) | (refine awp_skip ?_; simp (disch := first | omega | simp)) | (refine awp_ret ?_; simp (disch := first | omega | simp)))
  refine acall hc ?_
  simp (disch := first | omega | simp) [wrap_i64]
  repeat (first | (refine awp_seq_k fun K hK => ?_) | (refine awp_regionC ?_; simp (disch := first | omega | simp) [wrap_i64]) | (refine hK _ ?_; clear hK; clear K) | (clear hK; clear K; refine hK _ ?_; clear hK; clear K) | (clear hK; clear K; clear hK; clear K; refine hK _ ?_; clear hK; clear K) | refine awp_block ?_ | (refine awp_condC ?_; simp (disch := first | omega | simp) [wrap_i64]) | (refine awp_exit ?_; simp (disch := first | omega | simp)) | (refine awp_skip ?_; simp (disch := first | omega | simp)) | (refine awp_ret ?_; simp (disch := first | omega | simp)))
end Go.Proofs.Ytmhelkhmgbbfhaa

/- Inlining, of the reference. -/
namespace Go.Proofs.Ytmhelkhmgbbfhaa
open Go.RowKit Go.Lib

@[simp] theorem zeroE_av : zeroE.av = .agg [.int 0, .int 0, .str ByteArray.empty, .sl []] := by unfold zeroE; rw [Ex.av_mk]; rfl
set_option maxHeartbeats 1000000 in
theorem expand_g (bs : List (Option Ex)) (hbs : ∀ b ∈ bs, parts (b.getD zeroE) ≤ 1000) (Bd : List Ex) (gd : List Bool) (hBd : Bd = bs.map fun b => b.getD zeroE) (hgd : gd = bs.map Option.isSome) (e : Ex) : parts e ≤ 900 →
    Gives Try.prog 49 [e.av, .sl (Bd.map Ex.av), .sl (gd.map AV.bool)] (exr (inlE bs e)) := by
  induction e using Ex.ind with | h o n s l ih => ?_
  intro hpb
  have hl : l.length ≤ 900 := by rw [parts] at hpb; have := partsL_len l; omega
  obtain ⟨R, hR⟩ : ∃ R, R = inlE bs (.mk o n s l) := ⟨_, rfl⟩
  rw [← hR]
  refine gives_of_awp Try.func49 Try.ntmps49 rfl rfl (by decide) rfl (by intro n; simp) fun σ n0 hcl hft => ?_
  repeat (first | (refine awp_seq_k fun K hK => ?_) | (refine awp_regionC ?_; simp (disch := first | omega | simp) [wrap_i64]) | (refine hK _ ?_; clear hK; clear K) | (clear hK; clear K; refine hK _ ?_; clear hK; clear K) | (clear hK; clear K; clear hK; clear K; refine hK _ ?_; clear hK; clear K) | refine awp_block ?_ | (refine awp_condC ?_; simp (disch := first | omega | simp) [wrap_i64]) | (refine awp_exit ?_; simp (disch := first | omega | simp)) | (refine awp_skip ?_; simp (disch := first | omega | simp)) | (refine awp_ret ?_; simp (disch := first | omega | simp)))
  refine awp_adoptC 2 3 25 4 (by rfl) (by rfl) ?_
  refine awp_loopC hcl (fun ys : List Ex => [(1, .sl (Bd.map Ex.av)), (2, .sl (gd.map AV.bool)), (3, .ptr n0 0), (6, .ptr (n0 + 1) 0), (8, .ptr (n0 + 2) 0), (9, .int ys.length)]) (fun ys => [.cells [.int o, .int n, .str s, .sl (l.map Ex.av)] 25, .cells [.int 0, .int 0, .str ByteArray.empty, .v (.slice none 0 0)] 25, .cells [.int o, .int n, .str s, .gs (n0 + 3) (ys.map Ex.av)] 25, .tail ys.length 25 4])
    (fun ys => ∃ k, k ≤ l.length ∧ ys.length = k ∧ inlL bs (l.take k) = some ys) (fun ys => l.length - ys.length) [] (by exact ⟨0, by omega, rfl, by rw [List.take_zero, inlL]⟩) (by simp) fun ys hys => ?_
  obtain ⟨k, hk, rfl, hys⟩ := hys
  by_cases hlt : ys.length < l.length
  · have hpk : parts l[ys.length] ≤ 900 := by rw [parts] at hpb; have := partsL_mem l l[ys.length] (List.getElem_mem hlt); omega
    have hc := ih _ (List.getElem_mem hlt) hpk
    repeat (first | (refine awp_seq_k fun K hK => ?_) | (refine awp_regionC ?_; simp (disch := first | omega | simp) [wrap_i64, hlt]) | (refine hK _ ?_; clear hK; clear K) | (clear hK; clear K; refine hK _ ?_; clear hK; clear K) | (clear hK; clear K; clear hK; clear K; refine hK _ ?_; clear hK; clear K) | refine awp_block ?_ | (refine awp_condC ?_; simp (disch := first | omega | simp) [wrap_i64, hlt]) | (refine awp_exit ?_; simp (disch := first | omega | simp)) | (refine awp_skip ?_; simp (disch := first | omega | simp)) | (refine awp_ret ?_; simp (disch := first | omega | simp)))
    refine acall hc ?_
    clear hc
    cases hx : inlE bs l[ys.length] with
    | none =>
      obtain rfl : R = none := by rw [hR, inlE, inlL_none l (List.getElem_mem hlt) hx]
      simp (disch := first | omega | simp) [wrap_i64]
      repeat (first | (refine awp_seq_k fun K hK => ?_) | (refine awp_regionC ?_; simp (disch := first | omega | simp) [wrap_i64]) | (refine hK _ ?_; clear hK; clear K) | (clear hK; clear K; refine hK _ ?_; clear hK; clear K) | (clear hK; clear K; clear hK; clear K; refine hK _ ?_; clear hK; clear K) | refine awp_block ?_ | (refine awp_condC ?_; simp (disch := first | omega | simp) [wrap_i64]) | (refine awp_exit ?_; simp (disch := first | omega | simp)) | (refine awp_skip ?_; simp (disch := first | omega | simp)) | (refine awp_ret ?_; simp (disch := first | omega | simp)))
    | some y =>
      simp (disch := first | omega | simp) [wrap_i64]
      repeat (first | (refine awp_seq_k fun K hK => ?_) | (refine awp_regionC ?_; simp (disch := first | omega | simp) [wrap_i64]) | (refine hK _ ?_; clear hK; clear K) | (clear hK; clear K; refine hK _ ?_; clear hK; clear K) | (clear hK; clear K; clear hK; clear K; refine hK _ ?_; clear hK; clear K) | refine awp_block ?_ | (refine awp_condC ?_; simp (disch := first | omega | simp) [wrap_i64]) | (refine awp_exit ?_; simp (disch := first | omega | simp)) | (refine awp_skip ?_; simp (disch := first | omega | simp)) | (refine awp_ret ?_; simp (disch := first | omega | simp)))
      refine ⟨by omega, ?_⟩
      repeat (first | (refine awp_seq_k fun K hK => ?_) | (refine awp_regionC ?_; simp (disch := first | omega | simp) [wrap_i64]) | (refine hK _ ?_; clear hK; clear K) | (clear hK; clear K; refine hK _ ?_; clear hK; clear K) | (clear hK; clear K; clear hK; clear K; refine hK _ ?_; clear hK; clear K) | refine awp_block ?_ | (refine awp_condC ?_; simp (disch := first | omega | simp) [wrap_i64]) | (refine awp_exit ?_; simp (disch := first | omega | simp)) | (refine awp_skip ?_; simp (disch := first | omega | simp)) | (refine awp_ret ?_; simp (disch := first | omega | simp)))
      refine ⟨ys ++ [y], ⟨_, ?_, rfl, ?_⟩, by simp; omega, by simp⟩
      · simp; omega
      rw [List.length_append, List.length_singleton, List.take_succ_eq_append_getElem hlt]
      exact inlL_snoc hx _ hys
  · have hyl : ys.length = l.length := by omega
    rw [hyl, List.take_length] at hys
    have hlen : gd.length = bs.length := by rw [hgd]; simp
    have hlen2 : Bd.length = bs.length := by rw [hBd]; simp
    by_cases ho : o = 22 ∧ 0 ≤ n ∧ n < bs.length
    · obtain ⟨rfl, h0, h1⟩ := ho
      have hn : n.toNat < bs.length := by omega
      have hng : n.toNat < gd.length := by omega
      have hnB : n.toNat < Bd.length := by omega
      have hyp : ∀ y ∈ ys, parts y ≤ 1000 := fun y hy => by
        obtain ⟨e, -, he⟩ := inlL_mem l hys y hy
        exact inlE_parts he
      cases hb : bs[n.toNat] with
      | none =>
        obtain rfl : R = none := by rw [hR, inlE, hys]; dsimp only; rw [if_pos ⟨rfl, h0, h1⟩, List.getD_eq_getElem?_getD, List.getElem?_eq_getElem hn, hb]; rfl
        have hg0 : gd[n.toNat] = false := by subst hgd; simp [hb]
        repeat (first | (refine awp_seq_k fun K hK => ?_) | (refine awp_regionC ?_; simp (disch := first | omega | simp) [wrap_i64, hyl, h0, h1, hlen, hlen2, hg0]) | (refine hK _ ?_; clear hK; clear K) | (clear hK; clear K; refine hK _ ?_; clear hK; clear K) | (clear hK; clear K; clear hK; clear K; refine hK _ ?_; clear hK; clear K) | refine awp_block ?_ | (refine awp_condC ?_; simp (disch := first | omega | simp) [wrap_i64, hyl, h0, h1, hlen, hlen2, hg0]) | (refine awp_exit ?_; simp (disch := first | omega | simp)) | (refine awp_skip ?_; simp (disch := first | omega | simp)) | (refine awp_ret ?_; simp (disch := first | omega | simp)))
      | some b =>
        have hRb : R = fitX ((putP 4 ys b).getD zeroE) := by rw [hR, inlE, hys]; dsimp only; rw [if_pos ⟨rfl, h0, h1⟩, List.getD_eq_getElem?_getD, List.getElem?_eq_getElem hn, hb]; rfl
        have hg0 : gd[n.toNat] = true := by subst hgd; simp [hb]
        have hbb : Bd[n.toNat] = b := by subst hBd; simp [hb]
        have hpb2 : parts b ≤ 1000 := hbs (some b) (by rw [← hb]; exact List.getElem_mem hn)
        have hpp : parts ((putP 4 ys b).getD zeroE) ≤ 1000000 := by
          cases hput : putP 4 ys b with
          | none => decide
          | some x => have h2 := putP_parts (K := 1000) (by omega) hyp b hput; have : parts b * 1000 ≤ 1000 * 1000 := Nat.mul_le_mul_right _ hpb2; show parts x ≤ _; omega
        have hcall := rput_g 4 ys (fun x hx => by have := hyp x hx; omega) b (by omega)
        repeat (first | (refine awp_seq_k fun K hK => ?_) | (refine awp_regionC ?_; simp (disch := first | omega | simp) [wrap_i64, hyl, h0, h1, hlen, hlen2, hg0]) | (refine hK _ ?_; clear hK; clear K) | (clear hK; clear K; refine hK _ ?_; clear hK; clear K) | (clear hK; clear K; clear hK; clear K; refine hK _ ?_; clear hK; clear K) | refine awp_block ?_ | (refine awp_condC ?_; simp (disch := first | omega | simp) [wrap_i64, hyl, h0, h1, hlen, hlen2, hg0]) | (refine awp_exit ?_; simp (disch := first | omega | simp)) | (refine awp_skip ?_; simp (disch := first | omega | simp)) | (refine awp_ret ?_; simp (disch := first | omega | simp)))
        refine awp_anyC [.M, .M, .M, .M, .M, .M, .M, .M, .R, .R, .R, .W] (by kernel_rfl) (by kernel_rfl) ?_
        simp (disch := first | omega | simp) [wrap_i64, hbb, h0, h1, hlen2]
        refine agives hcall ?_
        simp (disch := first | omega | simp) [wrap_i64]
        generalize (putP 4 ys b).getD zeroE = Z at *
        repeat (first | (refine awp_seq_k fun K hK => ?_) | (refine awp_regionC ?_; simp (disch := first | omega | simp) [wrap_i64]) | (refine hK _ ?_; clear hK; clear K) | (clear hK; clear K; refine hK _ ?_; clear hK; clear K) | (clear hK; clear K; clear hK; clear K; refine hK _ ?_; clear hK; clear K) | refine awp_block ?_ | (refine awp_condC ?_; simp (disch := first | omega | simp) [wrap_i64]) | (refine awp_exit ?_; simp (disch := first | omega | simp)) | (refine awp_skip ?_; simp (disch := first | omega | simp)) | (refine awp_ret ?_; simp (disch := first | omega | simp)))
        refine acall (rparts_g Z hpp) ?_
        generalize hPZ : parts Z = NP at *
        by_cases hbig : 1000 < NP
        · obtain rfl : R = none := by rw [hRb, fitX, hPZ, if_pos hbig]
          have hbig' : (1000 : Int) < NP := by omega
          simp (disch := first | omega | simp) [wrap_i64]
          repeat (first | (refine awp_seq_k fun K hK => ?_) | (refine awp_regionC ?_; simp (disch := first | omega | simp) [wrap_i64, hbig']) | (refine hK _ ?_; clear hK; clear K) | (clear hK; clear K; refine hK _ ?_; clear hK; clear K) | (clear hK; clear K; clear hK; clear K; refine hK _ ?_; clear hK; clear K) | refine awp_block ?_ | (refine awp_condC ?_; simp (disch := first | omega | simp) [wrap_i64, hbig']) | (refine awp_exit ?_; simp (disch := first | omega | simp)) | (refine awp_skip ?_; simp (disch := first | omega | simp)) | (refine awp_ret ?_; simp (disch := first | omega | simp)))
        · obtain rfl : R = some Z := by rw [hRb, fitX, hPZ, if_neg hbig]
          have hbig' : ¬ (1000 : Int) < NP := by omega
          simp (disch := first | omega | simp) [wrap_i64]
          repeat (first | (refine awp_seq_k fun K hK => ?_) | (refine awp_regionC ?_; simp (disch := first | omega | simp) [wrap_i64, hbig']) | (refine hK _ ?_; clear hK; clear K) | (clear hK; clear K; refine hK _ ?_; clear hK; clear K) | (clear hK; clear K; clear hK; clear K; refine hK _ ?_; clear hK; clear K) | refine awp_block ?_ | (refine awp_condC ?_; simp (disch := first | omega | simp) [wrap_i64, hbig']) | (refine awp_exit ?_; simp (disch := first | omega | simp)) | (refine awp_skip ?_; simp (disch := first | omega | simp)) | (refine awp_ret ?_; simp (disch := first | omega | simp)))
    · have hRb : R = fitX (.mk o n s ys) := by rw [hR, inlE, hys]; dsimp only; rw [if_neg ho]
      have hpp : parts (.mk o n s ys) ≤ 1000000 := by
        have h2 := partsL_bound (K := 1000) ys (fun y hy => by
          obtain ⟨e, -, he⟩ := inlL_mem l hys y hy
          exact inlE_parts he)
        have : ys.length * 1000 ≤ 900 * 1000 := Nat.mul_le_mul_right _ (by omega)
        rw [parts]; omega
      generalize hZ : Ex.mk o n s ys = Z at *
      have hZf : AV.agg [.int o, .int n, .str s, .sl (ys.map Ex.av)] = Z.av := by rw [← hZ, Ex.av_mk]
      have hcall := rparts_g Z hpp
      have hb : (o == 22) = true ∧ 0 ≤ n ∧ ¬ n < (bs.length : Int) ∨ (o == 22) = true ∧ ¬ 0 ≤ n ∨ (o == 22) = false := by
        by_cases ho1 : o = 22
        · by_cases h0 : 0 ≤ n
          · exact .inl ⟨by simp [ho1], h0, fun h => ho ⟨ho1, h0, h⟩⟩
          · exact .inr (.inl ⟨by simp [ho1], h0⟩)
        · exact .inr (.inr (by simp [ho1]))
      generalize hPZ : parts Z = NP at *
      have hRR : R = if 1000 < NP then none else some Z := by rw [hRb, fitX, hPZ]
      clear hRb hR
      by_cases hbig : 1000 < NP
      · obtain rfl : R = none := by rw [hRR, if_pos hbig]
        have hbig' : (1000 : Int) < NP := by omega
        rcases hb with ⟨h22, h0, h1⟩ | ⟨h22, h0⟩ | h22
        · repeat (first | (refine awp_seq_k fun K hK => ?_) | (refine awp_regionC ?_; simp (disch := first | omega | simp) [wrap_i64, hyl, h0, h1, hlen, hlen2, h22]) | (refine hK _ ?_; clear hK; clear K) | (clear hK; clear K; refine hK _ ?_; clear hK; clear K) | (clear hK; clear K; clear hK; clear K; refine hK _ ?_; clear hK; clear K) | refine awp_block ?_ | (refine awp_condC ?_; simp (disch := first | omega | simp) [wrap_i64, hyl, h0, h1, hlen, hlen2, h22]) | (refine awp_exit ?_; simp (disch := first | omega | simp)) | (refine awp_skip ?_; simp (disch := first | omega | simp)) | (refine awp_ret ?_; simp (disch := first | omega | simp)))
          refine acall (x := .int NP) (by rw [hZf]; exact hcall) ?_
          simp (disch := first | omega | simp) [wrap_i64]
          repeat (first | (refine awp_seq_k fun K hK => ?_) | (refine awp_regionC ?_; simp (disch := first | omega | simp) [wrap_i64, hbig']) | (refine hK _ ?_; clear hK; clear K) | (clear hK; clear K; refine hK _ ?_; clear hK; clear K) | (clear hK; clear K; clear hK; clear K; refine hK _ ?_; clear hK; clear K) | refine awp_block ?_ | (refine awp_condC ?_; simp (disch := first | omega | simp) [wrap_i64, hbig']) | (refine awp_exit ?_; simp (disch := first | omega | simp)) | (refine awp_skip ?_; simp (disch := first | omega | simp)) | (refine awp_ret ?_; simp (disch := first | omega | simp)))
        · repeat (first | (refine awp_seq_k fun K hK => ?_) | (refine awp_regionC ?_; simp (disch := first | omega | simp) [wrap_i64, hyl, h0, hlen, hlen2, h22]) | (refine hK _ ?_; clear hK; clear K) | (clear hK; clear K; refine hK _ ?_; clear hK; clear K) | (clear hK; clear K; clear hK; clear K; refine hK _ ?_; clear hK; clear K) | refine awp_block ?_ | (refine awp_condC ?_; simp (disch := first | omega | simp) [wrap_i64, hyl, h0, hlen, hlen2, h22]) | (refine awp_exit ?_; simp (disch := first | omega | simp)) | (refine awp_skip ?_; simp (disch := first | omega | simp)) | (refine awp_ret ?_; simp (disch := first | omega | simp)))
          refine acall (x := .int NP) (by rw [hZf]; exact hcall) ?_
          simp (disch := first | omega | simp) [wrap_i64]
          repeat (first | (refine awp_seq_k fun K hK => ?_) | (refine awp_regionC ?_; simp (disch := first | omega | simp) [wrap_i64, hbig']) | (refine hK _ ?_; clear hK; clear K) | (clear hK; clear K; refine hK _ ?_; clear hK; clear K) | (clear hK; clear K; clear hK; clear K; refine hK _ ?_; clear hK; clear K) | refine awp_block ?_ | (refine awp_condC ?_; simp (disch := first | omega | simp) [wrap_i64, hbig']) | (refine awp_exit ?_; simp (disch := first | omega | simp)) | (refine awp_skip ?_; simp (disch := first | omega | simp)) | (refine awp_ret ?_; simp (disch := first | omega | simp)))
        · repeat (first | (refine awp_seq_k fun K hK => ?_) | (refine awp_regionC ?_; simp (disch := first | omega | simp) [wrap_i64, hyl, hlen, hlen2, h22]) | (refine hK _ ?_; clear hK; clear K) | (clear hK; clear K; refine hK _ ?_; clear hK; clear K) | (clear hK; clear K; clear hK; clear K; refine hK _ ?_; clear hK; clear K) | refine awp_block ?_ | (refine awp_condC ?_; simp (disch := first | omega | simp) [wrap_i64, hyl, hlen, hlen2, h22]) | (refine awp_exit ?_; simp (disch := first | omega | simp)) | (refine awp_skip ?_; simp (disch := first | omega | simp)) | (refine awp_ret ?_; simp (disch := first | omega | simp)))
          refine acall (x := .int NP) (by rw [hZf]; exact hcall) ?_
          simp (disch := first | omega | simp) [wrap_i64]
          repeat (first | (refine awp_seq_k fun K hK => ?_) | (refine awp_regionC ?_; simp (disch := first | omega | simp) [wrap_i64, hbig']) | (refine hK _ ?_; clear hK; clear K) | (clear hK; clear K; refine hK _ ?_; clear hK; clear K) | (clear hK; clear K; clear hK; clear K; refine hK _ ?_; clear hK; clear K) | refine awp_block ?_ | (refine awp_condC ?_; simp (disch := first | omega | simp) [wrap_i64, hbig']) | (refine awp_exit ?_; simp (disch := first | omega | simp)) | (refine awp_skip ?_; simp (disch := first | omega | simp)) | (refine awp_ret ?_; simp (disch := first | omega | simp)))
      · obtain rfl : R = some Z := by rw [hRR, if_neg hbig]
        have hbig' : ¬ (1000 : Int) < NP := by omega
        rcases hb with ⟨h22, h0, h1⟩ | ⟨h22, h0⟩ | h22
        · repeat (first | (refine awp_seq_k fun K hK => ?_) | (refine awp_regionC ?_; simp (disch := first | omega | simp) [wrap_i64, hyl, h0, h1, hlen, hlen2, h22]) | (refine hK _ ?_; clear hK; clear K) | (clear hK; clear K; refine hK _ ?_; clear hK; clear K) | (clear hK; clear K; clear hK; clear K; refine hK _ ?_; clear hK; clear K) | refine awp_block ?_ | (refine awp_condC ?_; simp (disch := first | omega | simp) [wrap_i64, hyl, h0, h1, hlen, hlen2, h22]) | (refine awp_exit ?_; simp (disch := first | omega | simp)) | (refine awp_skip ?_; simp (disch := first | omega | simp)) | (refine awp_ret ?_; simp (disch := first | omega | simp)))
          refine acall (x := .int NP) (by rw [hZf]; exact hcall) ?_
          simp (disch := first | omega | simp) [wrap_i64]
          repeat (first | (refine awp_seq_k fun K hK => ?_) | (refine awp_regionC ?_; simp (disch := first | omega | simp) [wrap_i64, hbig', hZf]) | (refine hK _ ?_; clear hK; clear K) | (clear hK; clear K; refine hK _ ?_; clear hK; clear K) | (clear hK; clear K; clear hK; clear K; refine hK _ ?_; clear hK; clear K) | refine awp_block ?_ | (refine awp_condC ?_; simp (disch := first | omega | simp) [wrap_i64, hbig', hZf]) | (refine awp_exit ?_; simp (disch := first | omega | simp)) | (refine awp_skip ?_; simp (disch := first | omega | simp)) | (refine awp_ret ?_; simp (disch := first | omega | simp)))
          exact hZf.symm
        · repeat (first | (refine awp_seq_k fun K hK => ?_) | (refine awp_regionC ?_; simp (disch := first | omega | simp) [wrap_i64, hyl, h0, hlen, hlen2, h22]) | (refine hK _ ?_; clear hK; clear K) | (clear hK; clear K; refine hK _ ?_; clear hK; clear K) | (clear hK; clear K; clear hK; clear K; refine hK _ ?_; clear hK; clear K) | refine awp_block ?_ | (refine awp_condC ?_; simp (disch := first | omega | simp) [wrap_i64, hyl, h0, hlen, hlen2, h22]) | (refine awp_exit ?_; simp (disch := first | omega | simp)) | (refine awp_skip ?_; simp (disch := first | omega | simp)) | (refine awp_ret ?_; simp (disch := first | omega | simp)))
          refine acall (x := .int NP) (by rw [hZf]; exact hcall) ?_
          simp (disch := first | omega | simp) [wrap_i64]
          repeat (first | (refine awp_seq_k fun K hK => ?_) | (refine awp_regionC ?_; simp (disch := first | omega | simp) [wrap_i64, hbig', hZf]) | (refine hK _ ?_; clear hK; clear K) | (clear hK; clear K; refine hK _ ?_; clear hK; clear K) | (clear hK; clear K; clear hK; clear K; refine hK _ ?_; clear hK; clear K) | refine awp_block ?_ | (refine awp_condC ?_; simp (disch := first | omega | simp) [wrap_i64, hbig', hZf]) | (refine awp_exit ?_; simp (disch := first | omega | simp)) | (refine awp_skip ?_; simp (disch := first | omega | simp)) | (refine awp_ret ?_; simp (disch := first | omega | simp)))
          exact hZf.symm
        · repeat (first | (refine awp_seq_k fun K hK => ?_) | (refine awp_regionC ?_; simp (disch := first | omega | simp) [wrap_i64, hyl, hlen, hlen2, h22]) | (refine hK _ ?_; clear hK; clear K) | (clear hK; clear K; refine hK _ ?_; clear hK; clear K) | (clear hK; clear K; clear hK; clear K; refine hK _ ?_; clear hK; clear K) | refine awp_block ?_ | (refine awp_condC ?_; simp (disch := first | omega | simp) [wrap_i64, hyl, hlen, hlen2, h22]) | (refine awp_exit ?_; simp (disch := first | omega | simp)) | (refine awp_skip ?_; simp (disch := first | omega | simp)) | (refine awp_ret ?_; simp (disch := first | omega | simp)))
          refine acall (x := .int NP) (by rw [hZf]; exact hcall) ?_
          simp (disch := first | omega | simp) [wrap_i64]
          repeat (first | (refine awp_seq_k fun K hK => ?_) | (refine awp_regionC ?_; simp (disch := first | omega | simp) [wrap_i64, hbig', hZf]) | (refine hK _ ?_; clear hK; clear K) | (clear hK; clear K; refine hK _ ?_; clear hK; clear K) | (clear hK; clear K; clear hK; clear K; refine hK _ ?_; clear hK; clear K) | refine awp_block ?_ | (refine awp_condC ?_; simp (disch := first | omega | simp) [wrap_i64, hbig', hZf]) | (refine awp_exit ?_; simp (disch := first | omega | simp)) | (refine awp_skip ?_; simp (disch := first | omega | simp)) | (refine awp_ret ?_; simp (disch := first | omega | simp)))
          exact hZf.symm
end Go.Proofs.Ytmhelkhmgbbfhaa
