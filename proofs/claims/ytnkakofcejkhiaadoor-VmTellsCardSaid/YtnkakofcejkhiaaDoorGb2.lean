/- Regions that draw their order, and write own blocks alone; one own block is read ahead of the last writes. -/
import Derived.Test.YtnkakofcejkhiaaDoorGa5
import Derived.Test.YtnkakofcejkhiaaDoorGa14
import Derived.Test.YtnkakofcejkhiaaDoorGa15
import Derived.Test.YtnkakofcejkhiaaDoorGa18
import Derived.Test.YtnkakofcejkhiaaDoorGb1
set_option linter.unusedSimpArgs false
set_option linter.unusedVariables false
namespace Go.Proofs.YtnkakofcejkhiaaDoor
open Go.RowKit Go.Lib
section
variable {P : Program}
theorem eop_appendO {s : AS} {t : TypeId} {x y : Operand} {r n : Nat} {l ys : List AV} {e : TypeId} {sz by_ : Nat} {K : AV → AS → Prop} (ht : vinfo P t = some (e, sz, by_)) (hx : s.eval x = .own r n) (hσ : s.st r = .vec l e sz) (hn : n = l.length) (hyl : (s.eval y).list = some ys) (hne : 0 < ys.length)
    (hw : ∀ z ∈ ys, z.width = sz) (h1 : ∀ z ∈ ys, z.elem = true) (hb : (l.length + ys.length) * by_ ≤ 140737488355328) (hK : K (.own r (l.length + ys.length)) (s.set r (.vec (l ++ ys) e sz))) :
    EOp P s (.call { callee := .builtin .append, args := #[x, y], argTypes := #[t, t] }) K := by
  intro X0 a w X oper ho hc Q
  have hw0 := hc.w
  subst hw0
  have hx2 := hc.eval x
  rw [hx] at hx2
  exact own_core ho hc ht hx2 hn hσ (hc.eval y) hyl hne hw h1 hb hK Q
theorem eop_appendO0 {s : AS} {t : TypeId} {x y : Operand} {r n : Nat} {l ys : List AV} {e : TypeId} {sz by_ : Nat} {K : AV → AS → Prop} (ht : vinfo P t = some (e, sz, by_)) (hx : s.eval x = .own r n) (hσ : s.st r = .vec l e sz) (hn : n = l.length) (hyl : (s.eval y).list = some ys)
    (hw : ∀ z ∈ ys, z.width = sz) (h1 : ∀ z ∈ ys, z.elem = true) (hb : (l.length + ys.length) * by_ ≤ 140737488355328) (hK : K (.own r (l.length + ys.length)) (s.set r (.vec (l ++ ys) e sz))) :
    EOp P s (.call { callee := .builtin .append, args := #[x, y], argTypes := #[t, t] }) K := by
  cases ys with
  | cons z ys => exact eop_appendO ht hx hσ hn hyl (by simp) hw h1 hb hK
  | nil =>
    intro X0 a w X oper ho hc Q
    have hw0 := hc.w
    subst hw0
    have hx2 := hc.eval x
    rw [hx] at hx2
    have hx3 : RC X (.own r n) [a.eval x] := hx2
    rw [RC] at hx3
    obtain ⟨-, v0, hv0, -, hall⟩ := hx3
    have hX : X.σ r = .vec l e sz := by rw [hc.σ, hσ]
    have hvm : a.eval x = X.μ r := by
      have := (hall _ _ _ hX).2 hn
      rw [← this]; simpa using hv0
    have hB := hc.sr.block r
    rw [hX] at hB
    obtain ⟨hwd, xs, hown, hrs⟩ := hB
    have hsh : ∃ A cap, X.μ r = .slice A l.length cap ∧ l.length ≤ cap := by
      rcases (World.ownsRowF_of hown).2 with ⟨h5, h6⟩ | ⟨g, cap2, cur, fz, h5, -, -, -, h6, -⟩
      · exact ⟨none, 0, by rw [h5, h6], by omega⟩
      · exact ⟨_, cap2, h5, h6⟩
    obtain ⟨A0, cap0, hv, hl0⟩ := hsh
    obtain ⟨A, cap, b, off, hyv', -⟩ := RR.list hyl (hc.eval y)
    obtain ⟨hu1, i, z, hi, -⟩ := qcd ht
    rw [List.append_nil, List.length_nil, Nat.add_zero, AS.set_same hσ] at hK
    refine qbv (w' := X.w) (v := a.eval x) (by rw [List.length_nil] at hyv'; simp [execOp, ho, resolve, invoke, builtin, hvm, hv, hyv', run_append_zero hu1 hi A0 A l.length cap0 cap hl0])
      ⟨a.eval x, .own r l.length, _, _, rfl, hK, hc, by rw [← hn]; exact hx2⟩
def aevM4 (P : Program) (s : AS) (o : Op) (K : AV → Option AB → Prop) : Prop :=
  match o with
  | .buildSlice t n ⟨p :: ps⟩ => match vinfo P t with
    | some (e, sz, _) => n = (p :: ps).length ∧ n * sz ≤ 16777216 ∧ bldS sz 0 ((p :: ps).map fun p => (p.1, s.eval p.2)) ∧ AV.wid ((p :: ps).map fun p => (s.eval p.2).pub) sz ∧ K (.own s.nx n) (some (.vec ((p :: ps).map fun p => (s.eval p.2).pub) e sz))
    | none => False
  | o => aevM P s o K
theorem aevM4_sound {s : AS} {o : Op} {K : AV → Option AB → Prop} (h : aevM4 P s o K) : ∃ x nb, FOp2 P s.eval s.st o x (nb.map (s.nx, ·)) ∧ K x nb := by
  unfold aevM4 at h
  split at h
  · split at h
    · obtain ⟨h1, h2, h3, h4, h5⟩ := h
      exact ⟨_, _, (fop_litVec ‹_› h1 h2 h3 h4).two, h5⟩
    · exact h.elim
  · exact aevM_sound h
attribute [simp] aevM4
def aevW4 (P : Program) (s : AS) (o : Op) (K : AV → AS → Prop) : Prop :=
  match o with
  | .call { callee := .builtin .append, args := ⟨[x, y]⟩, argTypes := ⟨[t, t']⟩ } => match s.eval x with
    | .own r n => t' = t ∧ (match vinfo P t with
      | some (e, sz, by_) => match s.st r, (s.eval y).list with
        | .vec l e' sz', some ys => e' = e ∧ sz' = sz ∧ n = l.length ∧ AV.wid ys sz ∧ AV.elms ys ∧ (l.length + ys.length) * by_ ≤ 140737488355328 ∧ K (.own r (l.length + ys.length)) (s.set r (.vec (l ++ ys) e sz))
        | _, _ => False
      | none => False)
    | _ => aevW2 P s (.call { callee := .builtin .append, args := ⟨[x, y]⟩, argTypes := ⟨[t, t']⟩ }) K
  | o => aevW2 P s o K
theorem aevW4_sound {s : AS} {o : Op} {K : AV → AS → Prop} (h : aevW4 P s o K) : ∃ x s1, WOp P s.eval s.st o x s1.st ∧ (s1.t = s.t ∧ s1.n = s.n ∧ s1.n0 = s.n0) ∧ K x s1 := by
  unfold aevW4 at h
  split at h
  · rename_i x y t t'
    split at h
    · rename_i r n hx
      obtain ⟨rfl, h⟩ := h
      split at h
      · rename_i e sz by_ ht
        split at h
        · rename_i l e' sz' ys hσ hy
          obtain ⟨rfl, rfl, hn, h3, h4, h5, h6⟩ := h
          have hr := set_lt hσ (by simp)
          refine ⟨_, _, wop_of_eop fun s' he hst hnx => ?_, ⟨(s.set_nx r _).2.2, (s.set_nx r _).1, (s.set_nx r _).2.1⟩, h6⟩
          have ex := he x (by simp [Op.operands, Call.operands])
          have ey := he y (by simp [Op.operands, Call.operands])
          refine eop_appendO0 ht (by rw [ex]; exact hx) (by rw [hst]; exact hσ) hn (by rw [ey]; exact hy) h3 h4 h5 ⟨rfl, ?_⟩
          rw [AS.set_st _ _ _ (by rw [hnx]; exact hr), AS.set_st _ _ _ hr, hst]
        · exact h.elim
      · exact h.elim
    · exact aevW2_sound h
  · exact aevW2_sound h
attribute [simp] aevW4
end
section
variable {P : Program}
structure AnyRaw4 (P : Program) (ops : Array Oper) (l : List Oper) (ks : List RK) (st s1 : Nat → AS) (xs : Nat → AV) (bs : Nat → Bool) (nbs : Nat → Option AB) (κ : Nat → AB) (q : Nat) : Prop where
  kept : ∀ r, κ r ≠ .unborn → ∀ j, j ≤ l.length → (st j).st r = κ r
  eye : ∀ i, i < l.length → ks.getD i .R ≠ .W → (st (i + 1)).st q = (st i).st q
  want : ∀ i o, l[i]? = some o → awant ops o (st i).t = some (bs i)
  dst : ∀ i o, l[i]? = some o → dstOk o.dst (st i).n
  next : ∀ i o, l[i]? = some o → st (i + 1) = (s1 i).put o.dst (xs i)
  same : ∀ i o, l[i]? = some o → (s1 i).t = (st i).t ∧ (s1 i).n = (st i).n ∧ (s1 i).n0 = (st i).n0
  skip : ∀ i o, l[i]? = some o → bs i = false → xs i = .v undef ∧ s1 i = st i ∧ nbs i = none
  opR : ∀ i o, l[i]? = some o → bs i = true → ks.getD i .R = .R → FOp2 P (st i).eval κ o.op (xs i) none ∧ s1 i = st i ∧ nbs i = none
  opN : ∀ i o, l[i]? = some o → bs i = true → ks.getD i .R = .N → FOp2 P (st i).eval (only q (st i).st) o.op (xs i) none ∧ s1 i = st i ∧ nbs i = none
  opM : ∀ i o, l[i]? = some o → bs i = true → ks.getD i .R = .M → FOp2 P (st i).eval (st i).st o.op (xs i) ((nbs i).map ((st i).nx, ·)) ∧ s1 i = (st i).ext (nbs i)
  opW : ∀ i o, l[i]? = some o → bs i = true → (ks.getD i .R).base = .W → WOp P (st i).eval (st i).st o.op (xs i) (s1 i).st ∧ nbs i = none
section
variable {l : List Oper}
theorem raw_steps4 {l : List Oper} {ks : List RK} {st s1 : Nat → AS} {xs : Nat → AV} {bs : Nat → Bool} {nbs : Nat → Option AB} {κ : Nat → AB} {q : Nat} (hB : anyB l ks = true) (h : AnyRaw4 P l.toArray l ks st s1 xs bs nbs κ q) : qbo P l (ks.map RK.base) st s1 xs bs nbs (fun i => if ks.getD i .R = .N then (if bs i = true then only q (st i).st else fun _ => .unborn) else κ) := by
  have pre : ∀ j, j ≤ l.length → (∀ i, i < j → ks.getD i .R ≠ .W) → (st j).st q = (st 0).st q := fun j => by
    induction j with
    | zero => intro _ _; rfl
    | succ j ih =>
      intro hj hk
      rw [h.eye j (by omega) (hk j (by omega)), ih (by omega) fun i hi => hk i (by omega)]
  refine ⟨fun i => ?_, fun i hi hk r hr => ?_, h.want, h.dst, h.next, h.same, h.skip, fun i o ho hb hk => ?_, fun i o ho hb hk => ?_, fun i o ho hb hk => ?_⟩
  · rw [qcn]
    cases ks.getD i .R <;> simp [RK.base]
  · split at hr
    · rename_i hN
      rw [if_pos hN]
      split at hr
      · rename_i hb
        rw [if_pos hb]
        by_cases hrq : r = q
        · subst hrq
          have ei : only r (st i).st r = (st 0).st r := by
            unfold only; rw [if_pos rfl]
            exact pre i (by omega) fun p hp hW => by
              have := ((anyB_n hB hi (j := p) (by omega)).1 hN hW).1; omega
          rw [ei]
          refine ⟨rfl, fun p hp hpW hpi => ?_⟩
          rw [qcn] at hpW
          have hpA : ks.getD p .R = .A := by
            cases hk2 : ks.getD p .R with
            | A => rfl
            | W => exact absurd ((anyB_n hB hi hp).1 hN hk2).2 hpi
            | R => rw [hk2] at hpW; cases hpW
            | M => rw [hk2] at hpW; cases hpW
            | N => rw [hk2] at hpW; cases hpW
          refine pre (p + 1) (by omega) fun p' hp' hW => ?_
          by_cases hpp : p' = p
          · rw [hpp, hpA] at hW; cases hW
          · have := (anyB_n hB hp (j := p') (by omega)).2 hpA hW; omega
        · exact absurd (if_neg hrq) hr
      · exact absurd rfl hr
    · rename_i hN
      rw [if_neg hN]
      exact ⟨h.kept r hr 0 (Nat.zero_le _), fun p hp _ _ => h.kept r hr (p + 1) (by omega)⟩
  · rw [qcn] at hk
    by_cases hN : ks.getD i .R = .N
    · rw [if_pos hN, if_pos hb]
      exact h.opN i o ho hb hN
    · rw [if_neg hN]
      refine h.opR i o ho hb ?_
      cases hk2 : ks.getD i .R with
      | R => rfl
      | M => rw [hk2] at hk; cases hk
      | W => rw [hk2] at hk; cases hk
      | N => exact absurd hk2 hN
      | A => rw [hk2] at hk; cases hk
  · rw [qcn] at hk
    refine h.opM i o ho hb ?_
    cases hk2 : ks.getD i .R with
    | M => rfl
    | R => rw [hk2] at hk; cases hk
    | W => rw [hk2] at hk; cases hk
    | N => rw [hk2] at hk; cases hk
    | A => rw [hk2] at hk; cases hk
  · rw [qcn] at hk
    exact h.opW i o ho hb hk
end
def AS.eyeO (j : Nat) (s : AS) : AS := { s with σ := fun _ => .unborn, L := List.replicate j .unborn ++ [s.L.getD j .unborn] }
theorem eyeO_st {s : AS} {j : Nat} : (s.eyeO j).st = only (s.n0 + j) s.st := by
  funext k
  show loc (fun _ => .unborn) s.n0 (List.replicate j .unborn ++ [s.L.getD j .unborn]) k = _
  unfold loc only
  by_cases hk : k < s.n0
  · rw [if_pos hk, if_neg (by omega)]
  · rw [if_neg hk]
    by_cases hj : k = s.n0 + j
    · rw [if_pos hj]
      subst hj
      show _ = loc s.σ s.n0 s.L (s.n0 + j)
      unfold loc
      rw [if_neg (by omega), Nat.add_sub_cancel_left, List.getD_eq_getElem?_getD, List.getElem?_append_right (by simp)]
      simp
    · rw [if_neg hj]
      by_cases h2 : k - s.n0 < j
      · rw [List.getD_eq_getElem?_getD, List.getElem?_append_left (by simpa using h2), List.getElem?_replicate, if_pos h2]; rfl
      · rw [List.getD_eq_getElem?_getD, List.getElem?_eq_none (by simp; omega)]; rfl
theorem st_own {s : AS} {n0 j : Nat} (h : s.n0 = n0) : s.st (n0 + j) = s.L.getD j .unborn := by
  subst h
  show loc s.σ s.n0 s.L (s.n0 + j) = _
  unfold loc
  rw [if_neg (by omega), Nat.add_sub_cancel_left]
def anyF (P : Program) (ops : Array Oper) (m : List AB) (j : Nat) (K : AS → Prop) : List Oper → List RK → AS → Prop
  | [], _, s => K s
  | o :: l, ks, s => match awant ops o s.t with
    | some b => qbi b (match ks.headD .R with
      | .R => aevF P (s.seen m) o.op (fun x nb => nb = none ∧ dstOk o.dst s.n ∧ anyF P ops m j K l ks.tail (s.put o.dst x))
      | .N => aevF P (s.eyeO j) o.op (fun x nb => nb = none ∧ dstOk o.dst s.n ∧ anyF P ops m j K l ks.tail (s.put o.dst x))
      | .M => aevM4 P s o.op (fun x nb => j < s.L.length ∧ dstOk o.dst s.n ∧ anyF P ops m j K l ks.tail ((s.ext nb).put o.dst x))
      | .A => aevW4 P s o.op (fun x s1 => s1.L.getD j .unborn = s.L.getD j .unborn ∧ dstOk o.dst s.n ∧ qci m s1.L ∧ s1.σ = s.σ ∧ anyF P ops m j K l ks.tail (s1.put o.dst x))
      | .W => aevW4 P s o.op (fun x s1 => dstOk o.dst s.n ∧ qci m s1.L ∧ s1.σ = s.σ ∧ anyF P ops m j K l ks.tail (s1.put o.dst x))) (dstOk o.dst s.n ∧ anyF P ops m j K l ks.tail (s.put o.dst (.v undef)))
    | none => False
theorem anyF_steps {ops : Array Oper} {m : List AB} {j : Nat} {σ0 : Nat → AB} {n0 : Nat} {K : AS → Prop} : ∀ (l : List Oper) (ks : List RK) (s : AS), s.n0 = n0 → s.σ = σ0 → (∀ r, loc σ0 n0 m r ≠ .unborn → s.st r = loc σ0 n0 m r) → anyF P ops m j K l ks s →
    ∃ st s1 xs bs nbs, AnyRaw4 P ops l ks st s1 xs bs nbs (loc σ0 n0 m) (n0 + j) ∧ st 0 = s ∧ K (st l.length)
  | [], ks, s, hn0, hs0, hke, h => by
    refine ⟨fun _ => s, fun _ => s, fun _ => .any, fun _ => true, fun _ => none, ⟨fun r hr j _ => hke r hr, fun _ hi => absurd hi (Nat.not_lt_zero _), ?_, ?_, ?_, ?_, ?_, ?_, ?_, ?_, ?_⟩, rfl, h⟩ <;> (intro i o ho; simp at ho)
  | o :: l, ks, s, hn0, hs0, hke, h => by
    have key : ∀ (x : AV) (b : Bool) (nb : Option AB) (s1 : AS), awant ops o s.t = some b → dstOk o.dst s.n → (s1.t = s.t ∧ s1.n = s.n ∧ s1.n0 = s.n0) → s1.σ = s.σ → (ks.headD .R ≠ .W → s1.st (n0 + j) = s.st (n0 + j)) → (b = false → x = .v undef ∧ s1 = s ∧ nb = none) →
        (b = true → ks.headD .R = .R → FOp2 P s.eval (loc σ0 n0 m) o.op x none ∧ s1 = s ∧ nb = none) → (b = true → ks.headD .R = .N → FOp2 P s.eval (only (n0 + j) s.st) o.op x none ∧ s1 = s ∧ nb = none) → (b = true → ks.headD .R = .M → FOp2 P s.eval s.st o.op x (nb.map (s.nx, ·)) ∧ s1 = s.ext nb) →
        (b = true → (ks.headD .R).base = .W → WOp P s.eval s.st o.op x s1.st ∧ nb = none) → (∀ r, loc σ0 n0 m r ≠ .unborn → s1.st r = loc σ0 n0 m r) → anyF P ops m j K l ks.tail (s1.put o.dst x) →
        ∃ st s1 xs bs nbs, AnyRaw4 P ops (o :: l) ks st s1 xs bs nbs (loc σ0 n0 m) (n0 + j) ∧ st 0 = s ∧ K (st (o :: l).length) := by
      intro x b nb s1 hw hd hsame hss heye hskip hR hN hM hW hke1 hrest
      have hput : (s1.put o.dst x).σ = s1.σ := by cases o.dst <;> rfl
      obtain ⟨st, s1', xs, bs, nbs, hs, h0, hK⟩ := anyF_steps (n0 := n0) (σ0 := σ0) l ks.tail _ (by rw [(put_st s1 o.dst x).2.2.2, hsame.2.2]; exact hn0) (by rw [hput, hss]; exact hs0) (fun r hr => by rw [(put_st s1 o.dst x).1]; exact hke1 r hr) hrest
      have hks : ∀ i, ks.getD (i + 1) .R = ks.tail.getD i .R := fun i => by cases ks <;> simp
      have hk0 : ks.getD 0 .R = ks.headD .R := by cases ks <;> simp
      refine ⟨fun i => match i with | 0 => s | i + 1 => st i, fun i => match i with | 0 => s1 | i + 1 => s1' i, fun i => match i with | 0 => x | i + 1 => xs i, fun i => match i with | 0 => b | i + 1 => bs i, fun i => match i with | 0 => nb | i + 1 => nbs i, ⟨fun r hr j hj => (match j with | 0 => hke r hr | j + 1 => hs.kept r hr j (by simpa using hj)), fun i hi hk => ?_, ?_, ?_, ?_, ?_, ?_, ?_, ?_, ?_, ?_⟩, rfl, hK⟩
      · cases i with
        | zero => rw [hk0] at hk; show (st 0).st _ = s.st _; rw [h0, (put_st s1 o.dst x).1]; exact heye hk
        | succ i => rw [hks] at hk; exact hs.eye i (by simpa using hi) hk
      all_goals (intro i o' ho; cases i)
      · simp at ho; subst ho; exact hw
      · exact hs.want _ o' (by simpa using ho)
      · simp at ho; subst ho; exact hd
      · exact hs.dst _ o' (by simpa using ho)
      · simp at ho; subst ho; exact h0
      · exact hs.next _ o' (by simpa using ho)
      · simp at ho; subst ho; exact hsame
      · exact hs.same _ o' (by simpa using ho)
      · simp at ho; subst ho; exact hskip
      · exact hs.skip _ o' (by simpa using ho)
      · simp at ho; subst ho; rw [hk0]; exact hR
      · rw [hks]; exact hs.opR _ o' (by simpa using ho)
      · simp at ho; subst ho; rw [hk0]; exact hN
      · rw [hks]; exact hs.opN _ o' (by simpa using ho)
      · simp at ho; subst ho; rw [hk0]; exact hM
      · rw [hks]; exact hs.opM _ o' (by simpa using ho)
      · simp at ho; subst ho; rw [hk0]; exact hW
      · rw [hks]; exact hs.opW _ o' (by simpa using ho)
    rw [anyF] at h
    split at h
    · rename_i bb hw
      cases bb with
      | true =>
        replace h := h.1 rfl
        split at h
        · rename_i hk
          obtain ⟨x, nb, h1, rfl, h2, h3⟩ := qcl h
          have e : (s.seen m).st = loc σ0 n0 m := by show loc s.σ s.n0 m = _; rw [hs0, hn0]
          rw [e] at h1
          exact key x true none s hw h2 ⟨rfl, rfl, rfl⟩ rfl (fun _ => rfl) (fun e => by cases e) (fun _ _ => ⟨h1.two, rfl, rfl⟩) (fun _ e => by rw [hk] at e; cases e) (fun _ e => by rw [hk] at e; cases e) (fun _ e => by rw [hk] at e; cases e) hke h3
        · rename_i hk
          obtain ⟨x, nb, h1, rfl, h2, h3⟩ := qcl h
          rw [eyeO_st, hn0] at h1
          exact key x true none s hw h2 ⟨rfl, rfl, rfl⟩ rfl (fun _ => rfl) (fun e => by cases e) (fun _ e => by rw [hk] at e; cases e) (fun _ _ => ⟨h1.two, rfl, rfl⟩) (fun _ e => by rw [hk] at e; cases e) (fun _ e => by rw [hk] at e; cases e) hke h3
        · rename_i hk
          obtain ⟨x, nb, h1, hj, h2, h3⟩ := aevM4_sound h
          refine key x true nb (s.ext nb) hw h2 (by cases nb <;> exact ⟨rfl, rfl, rfl⟩) (by cases nb <;> rfl) (fun _ => ?_) (fun e => by cases e) (fun _ e => by rw [hk] at e; cases e) (fun _ e => by rw [hk] at e; cases e) (fun _ _ => ⟨h1, rfl⟩) (fun _ e => by rw [hk] at e; cases e) (ext_keeps hke nb) h3
          cases nb with
          | none => rfl
          | some ab =>
            rw [(ext_st s ab).1]
            have : n0 + j ≠ s.nx := by unfold AS.nx; omega
            unfold upd; rw [if_neg this]
        · rename_i hk
          obtain ⟨x, s1, h1, h2, h7, h3, h5, h6, h4⟩ := aevW4_sound h
          exact key x true none s1 hw h3 h2 h6 (fun _ => by rw [st_own (h2.2.2.trans hn0), st_own hn0]; exact h7) (fun e => by cases e) (fun _ e => by rw [hk] at e; cases e) (fun _ e => by rw [hk] at e; cases e) (fun _ e => by rw [hk] at e; cases e) (fun _ _ => ⟨h1, rfl⟩) (kept_e (h6.trans hs0) (h2.2.2.trans hn0) h5) h4
        · rename_i hk
          obtain ⟨x, s1, h1, h2, h3, h5, h6, h4⟩ := aevW4_sound h
          exact key x true none s1 hw h3 h2 h6 (fun e => absurd hk e) (fun e => by cases e) (fun _ e => by rw [hk] at e; cases e) (fun _ e => by rw [hk] at e; cases e) (fun _ e => by rw [hk] at e; cases e) (fun _ _ => ⟨h1, rfl⟩) (kept_e (h6.trans hs0) (h2.2.2.trans hn0) h5) h4
      | false =>
        replace h := h.2 rfl
        exact key (.v undef) false none s hw h.1 ⟨rfl, rfl, rfl⟩ rfl (fun _ => rfl) (fun _ => ⟨rfl, rfl, rfl⟩) (fun e => by cases e) (fun e => by cases e) (fun e => by cases e) (fun e => by cases e) hke h.2
    · exact h.elim
theorem awp_anyF {s : AS} {id : Nat} {l : List Oper} {Q : Exit → AS → Prop} (m : List AB) (j : Nat) (ks : List RK) (hm : P.follows .mixedOrders = true) (hB : anyB l ks = true) (h0 : qci m s.L) (h : anyF P l.toArray m j (Q .normal) l ks s) : awp P (.region id l.toArray true) Q s := by
  obtain ⟨st, s1, xs, bs, nbs, hs, rfl, hK⟩ := anyF_steps l ks s rfl rfl (kept_e rfl rfl h0) h
  exact awp_any hm (anyB_ok hB) (raw_steps4 hB hs) hK
end
theorem anyF_step {P : Program} {ops : Array Oper} {m : List AB} {j : Nat} {K : AS → Prop} {o : Oper} {l : List Oper} {ks : List RK} {s : AS} (h : match awant ops o s.t with
    | some b => qbi b (match ks.headD .R with
      | .R => aevF P (s.seen m) o.op (fun x nb => nb = none ∧ dstOk o.dst s.n ∧ anyF P ops m j K l ks.tail (s.put o.dst x))
      | .N => aevF P (s.eyeO j) o.op (fun x nb => nb = none ∧ dstOk o.dst s.n ∧ anyF P ops m j K l ks.tail (s.put o.dst x))
      | .M => aevM4 P s o.op (fun x nb => j < s.L.length ∧ dstOk o.dst s.n ∧ anyF P ops m j K l ks.tail ((s.ext nb).put o.dst x))
      | .A => aevW4 P s o.op (fun x s1 => s1.L.getD j .unborn = s.L.getD j .unborn ∧ dstOk o.dst s.n ∧ qci m s1.L ∧ s1.σ = s.σ ∧ anyF P ops m j K l ks.tail (s1.put o.dst x))
      | .W => aevW4 P s o.op (fun x s1 => dstOk o.dst s.n ∧ qci m s1.L ∧ s1.σ = s.σ ∧ anyF P ops m j K l ks.tail (s1.put o.dst x))) (dstOk o.dst s.n ∧ anyF P ops m j K l ks.tail (s.put o.dst (.v undef)))
    | none => False) : anyF P ops m j K (o :: l) ks s := h
theorem anyF_end {P : Program} {ops : Array Oper} {m : List AB} {j : Nat} {K : AS → Prop} {ks : List RK} {s : AS} (h : K s) : anyF P ops m j K [] ks s := h
@[simp] theorem eyeO_mk (j : Nat) (n : Nat) (t : Nat → AV) (σ : Nat → AB) (n0 : Nat) (L : List AB) : (AS.mk n t σ n0 L).eyeO j = ⟨n, t, fun _ => .unborn, n0, List.replicate j .unborn ++ [L.getD j .unborn]⟩ := rfl
end Go.Proofs.YtnkakofcejkhiaaDoor

/- Walks of layer 25's reference: the results of a program, and its value. -/
namespace Go.Proofs.YtnkakofcejkhiaaDoor
open Go.RowKit Go.Lib
theorem opcmp_ts {o n t : Int} {ts : List Int} (h : operT o n ts = some t) (ho : 13 ≤ o ∧ o ≤ 16) : ∃ u, ts = [u, u] := by
  unfold operT at h
  split at h
  · cases h
  rw [if_neg (by omega), if_neg (by omega), if_neg (by omega), if_neg (by omega)] at h
  match ts, h with
  | [a, b], h =>
    dsimp only at h
    split at h
    · rename_i e; exact ⟨a, by rw [e]⟩
    · cases h
theorem runI_g {cols types : List Int} {done : List Bool} {x : Ins} (hx : InsOk cols types done x) {regs : List Val} (hr : RegsOk types done regs) (time : Int) {row : List Val} (hrow : qca cols row) :
    ∃ m, Gives Tryd.prog 139 [.sl [], (Ex.mk x.op x.n x.s ((argsI regs x).map konstE)).av, .int time, .sl (row.map Val.av), .sl []] (cntAv (opI time row x (argsI regs x)) m) := by
  obtain ⟨hk, hs⟩ := hr.args hx
  have htl := hx.tail
  have hal : (argsI regs x).length = arO x.op := by unfold argsI; rw [List.length_map, opsP_len, if_pos (form_op hx.form)]
  have hop := hx.op
  rw [← hk] at htl
  have hcol : x.op = 3 → 0 ≤ x.n ∧ x.n < row.length := fun h3 => by
    have := hx.col h3
    obtain ⟨R0, R1, rfl, rfl, -⟩ := hrow
    simp at this ⊢; omega
  generalize argsI regs x = vs at *
  unfold opI
  by_cases h21 : x.op = 21
  · rw [if_pos h21, h21]
    have h3 : vs.length = 3 := by rw [hal, h21]; rfl
    match vs, h3 with
    | [a, b, c], _ => exact rrunI (hs a (by simp)) (hs b (by simp)) (hs c (by simp))
  · rw [if_neg h21]
    refine ⟨_, rrunG (fun v hv => konst_g (hs v hv) time row) h21 hop.2.2 (by omega) hcol (fun h3 h5 => ?_) (by rw [hal]; exact arO_le _)⟩
    have hcases : (x.op = 0 ∨ x.op = 1 ∨ x.op = 2) ∨ (x.op = 6 ∨ x.op = 7 ∨ x.op = 20) ∨ (8 ≤ x.op ∧ x.op ≤ 19) := by omega
    rcases hcases with h | h | h
    · exact rap0_g _ _ _ _ h vs
    · have h1 : vs.length = 1 := by rw [hal]; rcases h with h | h | h <;> rw [h] <;> rfl
      match vs, h1 with
      | [a], _ => exact rap1_g _ _ _ _ h a
    · have h2 : vs.length = 2 := by rw [hal]; unfold arO; rw [if_neg (by omega), if_neg (by omega), if_neg (by omega)]
      match vs, h2 with
      | [a, b], _ =>
        have sa := hs a (by simp)
        have sb := hs b (by simp)
        refine rap2_g _ _ _ _ h a b (fun hc => ?_) (by have := sa.2; have := sb.2; omega)
        refine less_cmp sa sb ?_
        unfold tailT at htl
        split at htl
        · cases htl
        rw [if_neg (by omega), if_neg (by simp)] at htl
        obtain ⟨u, hu⟩ := opcmp_ts htl (by omega)
        simp at hu
        rw [hu.1, hu.2]
theorem evalI_g {cols types : List Int} {done : List Bool} {x : Ins} (hx : InsOk cols types done x) {regs : List Val} (hr : RegsOk types done regs) (time : Int) {row : List Val} (hrow : qca cols row) :
    Gives Tryd.prog 122 [.sl [], (Ex.mk x.op x.n x.s ((argsI regs x).map konstE)).av, .int time, .sl (row.map Val.av)] (opI time row x (argsI regs x)).av := by
  obtain ⟨m, c1⟩ := runI_g hx hr time hrow
  rw [Ex.av_mk] at c1 ⊢
  generalize opI time row x (argsI regs x) = V at *
  generalize argsI regs x = vs at *
  unfold cntAv at c1
  rw [List.map_map] at c1 ⊢
  refine qm Tryd.func122 Tryd.ntmps122 rfl rfl (by decide) rfl (by intro n; simp) fun σ n0 hcl hft => ?_
  repeat' (first | ((first | ((with_reducible refine qo (fun hg => ?_) (fun hg => ?_)) <;> (try simp only [hg]) <;> (try simp only [beq_iff_eq, beq_eq_false_iff_ne, ne_eq, decide_eq_true_eq, decide_eq_false_iff_not, bne_iff_ne, bne_eq_false_iff_eq] at hg) <;> (try (first | simp only [eq_false hg, if_true, if_false] | simp only [eq_true hg, if_true, if_false]))) | (with_reducible first | refine qd ?_ | refine qc ?_ | refine qi ?_ | refine qh ?_) | refine acall (c1) ?_ | refine qv (c1) ?_ | refine qw (c1) ?_ | refine qf ?_ | refine qj ?_ | refine qk ?_ | refine qn ?_) <;> (try simp (disch := first | omega | simp) [ql, -qu, -qx])) | ((with_reducible first | refine sideG ?_ ?_ | refine qr ?_ ?_ | refine sideS ?_ ?_ | refine qs ?_ ?_ | refine qt ?_ ?_ | refine sideA ?_ ?_ | refine qp ?_ ?_ | refine qq ?_ ?_); first | omega | assumption | (simp; done)) | (refine qg fun K hK => ?_) | (refine qa ?_) | (refine qb true (by kernel_rfl) (by kernel_rfl) ?_) | (refine qb false (by kernel_rfl) (by kernel_rfl) ?_) | (refine hK _ ?_; clear hK K) | (clear hK K; refine hK _ ?_; clear hK K) | (clear hK K; clear hK K; refine hK _ ?_; clear hK K) | refine qe ?_)
def resI (time : Int) (row : List Val) (l : List Ins) (nt : Nat) : List Val := resN time row (nodes l 0 (List.replicate nt 0)) []
theorem agree_take {c : Cod} {cols : List Int} (h : CodOk c cols) (time : Int) (row : List Val) (k : Nat) :
    Agree (doneL (c.ins.take k) (List.replicate c.types.length false)) (regsI time row (c.ins.take k) (List.replicate c.types.length zeroV)) (lastL (c.ins.take k) 0 (List.replicate c.types.length 0)) (resI time row (c.ins.take k) c.types.length) := by
  have := agree_all time row (c.ins.take k) (AllOk.take c.ins k _ h.all) (regs := List.replicate c.types.length zeroV) (by simp) (agree_start c.types.length)
  exact this
theorem resI_snoc {c : Cod} {cols : List Int} (h : CodOk c cols) (time : Int) (row : List Val) {k : Nat} (hk : k < c.ins.length) :
    resI time row (c.ins.take (k + 1)) c.types.length = resI time row (c.ins.take k) c.types.length ++ [opI time row c.ins[k] (argsI (regsI time row (c.ins.take k) (List.replicate c.types.length zeroV)) c.ins[k])] := by
  have hx := AllOk.at c.ins k _ hk h.all
  have ha := (agree_take h time row k).args hx
  unfold resI at ha ⊢
  rw [List.take_succ_eq_append_getElem hk, nodes_snoc, resN_append, resN, resN, ha]
set_option maxHeartbeats 8000000 in
theorem rresults_g {c : Cod} {cols : List Int} (h : CodOk c cols) (time : Int) {row : List Val} (hrow : qca cols row) : Gives Tryd.prog 74 [c.av, .int time, .sl (row.map Val.av)] (.sl ((resI time row c.ins c.types.length).map Val.av)) := by
  have hni := h.ni
  have hnt := h.nt
  obtain ⟨T, hT⟩ : ∃ T : Nat → List Val, T = fun k => resI time row (c.ins.take k) c.types.length := ⟨_, rfl⟩
  obtain ⟨G, hG⟩ : ∃ G : Nat → List Val, G = fun k => regsI time row (c.ins.take k) (List.replicate c.types.length zeroV) := ⟨_, rfl⟩
  have T0 : T 0 = [] := by rw [hT]; rfl
  have T1 : ∀ k (hk : k < c.ins.length), T (k + 1) = T k ++ [opI time row c.ins[k] (argsI (G k) c.ins[k])] := fun k hk => by rw [hT, hG]; exact resI_snoc h time row hk
  have T2 : T c.ins.length = resI time row c.ins c.types.length := by rw [hT]; simp
  have TL : ∀ k, k ≤ c.ins.length → (T k).length = k := fun k => by
    induction k with
    | zero => intro _; rw [T0]; rfl
    | succ k ih => intro hk; rw [T1 k (by omega), List.length_append, ih (by omega)]; rfl
  have G0 : G 0 = List.replicate c.types.length zeroV := by rw [hG]; rfl
  have G1 : ∀ k (hk : k < c.ins.length), G (k + 1) = (G k).set c.ins[k].to.toNat (opI time row c.ins[k] (argsI (G k) c.ins[k])) := fun k hk => by
    rw [hG]; dsimp only; rw [List.take_succ_eq_append_getElem hk, regsI_snoc]; rfl
  have GL : ∀ k, k ≤ c.ins.length → (G k).length = c.types.length := fun k => by
    induction k with
    | zero => intro _; rw [G0]; simp
    | succ k ih => intro hk; rw [G1 k (by omega), List.length_set, ih (by omega)]
  have GO : ∀ k (hk : k < c.ins.length), RegsOk c.types (doneL (c.ins.take k) (List.replicate c.types.length false)) (G k) := fun k hk => by
    rw [hG]; exact AllOk.regs hrow time _ (AllOk.take c.ins k _ h.all) (regsOk_start c.types)
  have hx : ∀ k (hk : k < c.ins.length), InsOk cols c.types (doneL (c.ins.take k) (List.replicate c.types.length false)) c.ins[k] := fun k hk => AllOk.at c.ins k _ hk h.all
  rw [← T2]
  clear hT hG T2
  obtain ⟨ins, types, out⟩ := c
  simp only at *
  have hsz : 32 * types.length ≤ 281474976710656 := by omega
  refine qm Tryd.func74 Tryd.ntmps74 rfl rfl (by decide) rfl (by intro n; simp) fun σ n0 hcl hft => ?_
  repeat' (first | ((first | ((with_reducible refine qo (fun hg => ?_) (fun hg => ?_)) <;> (try simp only [hg]) <;> (try simp only [beq_iff_eq, beq_eq_false_iff_ne, ne_eq, decide_eq_true_eq, decide_eq_false_iff_not, bne_iff_ne, bne_eq_false_iff_eq] at hg) <;> (try (first | simp only [eq_false hg, if_true, if_false] | simp only [eq_true hg, if_true, if_false]))) | (with_reducible first | refine qd ?_ | refine qc ?_ | refine qi ?_ | refine qh ?_) | refine qf ?_ | refine qj ?_ | refine qk ?_ | refine qn ?_) <;> (try simp (disch := first | omega | simp) [ql, -qu, -qx, hsz])) | ((with_reducible first | refine sideG ?_ ?_ | refine qr ?_ ?_ | refine sideS ?_ ?_ | refine qs ?_ ?_ | refine qt ?_ ?_ | refine sideA ?_ ?_ | refine qp ?_ ?_ | refine qq ?_ ?_); first | omega | assumption | (simp; done)) | (refine qg fun K hK => ?_) | (refine qa ?_) | (refine qb true (by kernel_rfl) (by kernel_rfl) ?_) | (refine qb false (by kernel_rfl) (by kernel_rfl) ?_) | (refine hK _ ?_; clear hK K) | (clear hK K; refine hK _ ?_; clear hK K) | (clear hK K; clear hK K; refine hK _ ?_; clear hK K) | refine qe ?_)
  refine awp_adoptR 8 39 3 (by simp) ?_
  refine qbb hcl (fun k : Nat => [(1, .int time), (2, .sl (row.map Val.av)), (3, .ptr n0 0), (7, .own (n0 + 1) types.length), (8, .gs (n0 + 2) ((T k).map Val.av)), (9, .int k)])
    (fun k => [.cells [.sl (ins.map Ins.av), .sl (types.map AV.int), .int out] 25, .vec ((G k).map Val.av) 39 3, .tail (T k).length 39 3])
    (fun k => k ≤ ins.length) (fun k => ins.length - k) 0 (by omega) (by simp [T0, G0, zeroV, Val.av, -Val.av_fold]) fun k hk => ?_
  by_cases hlt : k < ins.length
  · have hxk := hx k hlt
    have c1 := rops_g ins[k]
    have c2 := evalI_g hxk (GO k hlt) time hrow
    have t1 := T1 k hlt
    have g1 := G1 k hlt
    have tl := TL k (by omega)
    have gl := GL k (by omega)
    have hto0 := hxk.to0
    have hto1 : ins[k].to < types.length := hxk.to1
    have hxa := hxk.args
    have hol : (opsP ins[k]).length ≤ 3 := by have := opsP_len ins[k]; have := arO_le ins[k].op; split at * <;> omega
    have hag : argsI (G k) ins[k] = (opsP ins[k]).map fun r => (G k).getD r.toNat zeroV := rfl
    generalize hV : opI time row ins[k] (argsI (G k) ins[k]) = V at *
    rw [hag] at c2
    generalize opsP ins[k] = ops at *
    rw [Ex.av_mk, List.map_map, List.map_map] at c2
    repeat' (first | ((first | ((with_reducible refine qo (fun hg => ?_) (fun hg => ?_)) <;> (try simp only [hg]) <;> (try simp only [beq_iff_eq, beq_eq_false_iff_ne, ne_eq, decide_eq_true_eq, decide_eq_false_iff_not, bne_iff_ne, bne_eq_false_iff_eq] at hg) <;> (try (first | simp only [eq_false hg, if_true, if_false] | simp only [eq_true hg, if_true, if_false]))) | (with_reducible first | refine qd ?_ | refine qc ?_ | refine qi ?_ | refine qh ?_) | refine acall (c1) ?_ | refine qv (c1) ?_ | refine qw (c1) ?_ | refine qf ?_ | refine qj ?_ | refine qk ?_ | refine qn ?_) <;> (try simp (disch := first | omega | simp) [ql, -qu, -qx, hlt])) | ((with_reducible first | refine sideG ?_ ?_ | refine qr ?_ ?_ | refine sideS ?_ ?_ | refine qs ?_ ?_ | refine qt ?_ ?_ | refine sideA ?_ ?_ | refine qp ?_ ?_ | refine qq ?_ ?_); first | omega | assumption | (simp; done)) | (refine qg fun K hK => ?_) | (refine qa ?_) | (refine qb true (by kernel_rfl) (by kernel_rfl) ?_) | (refine qb false (by kernel_rfl) (by kernel_rfl) ?_) | (refine hK _ ?_; clear hK K) | (clear hK K; refine hK _ ?_; clear hK K) | (clear hK K; clear hK K; refine hK _ ?_; clear hK K) | refine qe ?_)
    obtain ⟨PA, hPA⟩ : ∃ PA, PA = ops.map ((Ex.av ∘ konstE) ∘ fun r => (G k).getD r.toNat zeroV) := ⟨_, rfl⟩
    have hPl : PA.length = ops.length := by rw [hPA, List.length_map]
    have hPj : ∀ j (hj : j < ops.length) (hj2 : j < PA.length), PA[j] = (konstE ((G k).getD ops[j].toNat zeroV)).av := fun j hj hj2 => by subst hPA; simp
    have hPc : ∀ m j, AV.cls m (PA.take j) := fun m j => by rw [hPA]; exact AV.cls_take (AV.cls_map (fun r => Ex.av_cl _ _) ops) j
    have hPw : ∀ j, AV.wid (PA.take j) 4 := fun j => by rw [hPA, ← List.map_take]; exact AV.wid_map (fun r => Ex.av_width _) _
    rw [← hPA] at c2
    clear hPA
    refine awp_adoptC 4 3 52 4 (by rfl) (by rfl) ?_
    refine qbb hcl (fun j : Nat => [(1, .int time), (2, .sl (row.map Val.av)), (3, .ptr n0 0), (7, .own (n0 + 1) types.length), (8, .gs (n0 + 2) ((T k).map Val.av)), (9, .int k), (10, .ptr (n0 + 3) 0), (11, .ptr (n0 + 4) 0), (12, .sl (ops.map AV.int)), (13, .int j)])
      (fun j => [.cells [.sl (ins.map Ins.av), .sl (types.map AV.int), .int out] 25, .vec ((G k).map Val.av) 39 3, .tail (T k).length 39 3,
        .cells [.int ins[k].op, .int ins[k].to, .int ins[k].a, .int ins[k].b, .int ins[k].c, .int ins[k].n, .str ins[k].s] 68, .cells [.int ins[k].op, .int ins[k].n, .str ins[k].s, .gs (n0 + 5) (PA.take j)] 52, .tail j 52 4])
      (fun j => j ≤ ops.length) (fun j => ops.length - j) 0 (by omega) (by simp) fun j hj => ?_
    have hpc := fun m => hPc m j
    have hpw := hPw j
    by_cases hlt2 : j < ops.length
    · have hj2 : j < PA.length := by omega
      obtain ⟨r0, r1, -⟩ := hxa ops[j] (List.getElem_mem _)
      have c3 := rconst_g ((G k).getD ops[j].toNat zeroV)
      have hgj : (G k).getD ops[j].toNat zeroV = (G k)[ops[j].toNat]'(by omega) := by rw [List.getD_eq_getElem?_getD, List.getElem?_eq_getElem (by omega)]; rfl
      have htk : PA.take (j + 1) = PA.take j ++ [(konstE ((G k).getD ops[j].toNat zeroV)).av] := by rw [List.take_succ_eq_append_getElem hj2, hPj j hlt2 hj2]
      rw [hgj] at c3 htk
      have hsz2 : (j + 1) * 56 ≤ 140737488355328 := by omega
      have hml : min j PA.length = j := by omega
      have hva : ((G k)[ops[j].toNat]'(by omega)).av = .agg [.int ((G k)[ops[j].toNat]'(by omega)).k, .int ((G k)[ops[j].toNat]'(by omega)).n, .str ((G k)[ops[j].toNat]'(by omega)).s] := rfl
      rw [hva] at c3
      repeat' (first | ((first | ((with_reducible refine qo (fun hg => ?_) (fun hg => ?_)) <;> (try simp only [hg]) <;> (try simp only [beq_iff_eq, beq_eq_false_iff_ne, ne_eq, decide_eq_true_eq, decide_eq_false_iff_not, bne_iff_ne, bne_eq_false_iff_eq] at hg) <;> (try (first | simp only [eq_false hg, if_true, if_false] | simp only [eq_true hg, if_true, if_false]))) | (with_reducible first | refine qd ?_ | refine qc ?_ | refine qi ?_ | refine qh ?_ | refine anyF_step ?_ | refine anyF_end ?_) | refine acall (c3) ?_ | refine qv (c3) ?_ | refine qw (c3) ?_ | refine qf ?_ | refine qj ?_ | refine qk ?_ | refine qn ?_) <;> (try simp (disch := first | omega | simp) [ql, -qu, -qx, hlt2, gl, r0, r1, hsz2, hpw, hml, -Val.av_fold, hva])) | (with_reducible refine awp_anyF (id := 12) [] 4 [.M, .M, .R, .R, .R, .M, .M, .M, .M, .M, .R, .A, .N, .W] (by kernel_rfl) (by kernel_rfl) (by simp) ?_) | ((with_reducible first | refine sideG ?_ ?_ | refine qr ?_ ?_ | refine sideS ?_ ?_ | refine qs ?_ ?_ | refine qt ?_ ?_ | refine sideA ?_ ?_ | refine qp ?_ ?_ | refine qq ?_ ?_); first | omega | assumption | (simp; done)) | (refine qg fun K hK => ?_) | (refine qa ?_) | (refine qb true (by kernel_rfl) (by kernel_rfl) ?_) | (refine qb false (by kernel_rfl) (by kernel_rfl) ?_) | (refine hK _ ?_; clear hK K) | (clear hK K; refine hK _ ?_; clear hK K) | (clear hK K; clear hK K; refine hK _ ?_; clear hK K) | refine qe ?_)
      exact ⟨j + 1, by omega, by omega, ⟨htk.symm, rfl⟩, hPc _ _, by omega⟩
    · obtain rfl : j = ops.length := by omega
      rw [List.take_of_length_le (by omega)] at hpc hpw ⊢
      have hsz3 : ((T k).length + 1) * 32 ≤ 140737488355328 := by omega
      have htw : AV.wid ((T k).map Val.av) 3 := Val.avs_wid _
      repeat' (first | ((first | ((with_reducible refine qo (fun hg => ?_) (fun hg => ?_)) <;> (try simp only [hg]) <;> (try simp only [beq_iff_eq, beq_eq_false_iff_ne, ne_eq, decide_eq_true_eq, decide_eq_false_iff_not, bne_iff_ne, bne_eq_false_iff_eq] at hg) <;> (try (first | simp only [eq_false hg, if_true, if_false] | simp only [eq_true hg, if_true, if_false]))) | (with_reducible first | refine qd ?_ | refine qc ?_ | refine qi ?_ | refine qh ?_) | refine acall (c2) ?_ | refine qv (c2) ?_ | refine qw (c2) ?_ | refine qf ?_ | refine qj ?_ | refine qk ?_ | refine qn ?_) <;> (try simp (disch := first | omega | simp) [ql, -qu, -qx, hlt2, gl, hto0, hto1, hsz3, htw, hpc])) | ((with_reducible first | refine sideG ?_ ?_ | refine qr ?_ ?_ | refine sideS ?_ ?_ | refine qs ?_ ?_ | refine qt ?_ ?_ | refine sideA ?_ ?_ | refine qp ?_ ?_ | refine qq ?_ ?_); first | omega | assumption | (simp; done)) | (refine qg fun K hK => ?_) | (refine qa ?_) | (refine qb true (by kernel_rfl) (by kernel_rfl) ?_) | (refine qb false (by kernel_rfl) (by kernel_rfl) ?_) | (refine hK _ ?_; clear hK K) | (clear hK K; refine hK _ ?_; clear hK K) | (clear hK K; clear hK K; refine hK _ ?_; clear hK K) | refine qe ?_)
      refine ⟨k + 1, by omega, by omega, ?_⟩
      rw [t1, g1]; simp [List.map_set]
  · obtain rfl : k = ins.length := by omega
    repeat' (first | ((first | ((with_reducible refine qo (fun hg => ?_) (fun hg => ?_)) <;> (try simp only [hg]) <;> (try simp only [beq_iff_eq, beq_eq_false_iff_ne, ne_eq, decide_eq_true_eq, decide_eq_false_iff_not, bne_iff_ne, bne_eq_false_iff_eq] at hg) <;> (try (first | simp only [eq_false hg, if_true, if_false] | simp only [eq_true hg, if_true, if_false]))) | (with_reducible first | refine qd ?_ | refine qc ?_ | refine qi ?_ | refine qh ?_) | refine qf ?_ | refine qj ?_ | refine qk ?_ | refine qn ?_) <;> (try simp (disch := first | omega | simp) [ql, -qu, -qx, hlt])) | ((with_reducible first | refine sideG ?_ ?_ | refine qr ?_ ?_ | refine sideS ?_ ?_ | refine qs ?_ ?_ | refine qt ?_ ?_ | refine sideA ?_ ?_ | refine qp ?_ ?_ | refine qq ?_ ?_); first | omega | assumption | (simp; done)) | (refine qg fun K hK => ?_) | (refine qa ?_) | (refine qb true (by kernel_rfl) (by kernel_rfl) ?_) | (refine qb false (by kernel_rfl) (by kernel_rfl) ?_) | (refine hK _ ?_; clear hK K) | (clear hK K; refine hK _ ?_; clear hK K) | (clear hK K; clear hK K; refine hK _ ?_; clear hK K) | refine qe ?_)
theorem last_at : ∀ (l : List Ins) (i0 : Nat) (last : List Nat) (r i : Nat) (hi : i < l.length), l[i].to.toNat = r → (∀ j (h : j < l.length), i < j → l[j].to.toNat ≠ r) → r < last.length → (lastL l i0 last).getD r 0 = i0 + i
  | x :: l, i0, last, r, 0, _, hx, hn, hr => by
    rw [lastL]
    have keep : ∀ (l : List Ins) (k : Nat) (last : List Nat), (∀ j (h : j < l.length), l[j].to.toNat ≠ r) → (lastL l k last).getD r 0 = last.getD r 0 := fun l => by
      induction l with
      | nil => intro _ _ _; rfl
      | cons y l ih =>
        intro k last h
        rw [lastL, ih _ _ fun j hj => h (j + 1) (by simpa using hj), qcr, if_neg (fun e => h 0 (by simp) e.1)]
    rw [keep l _ _ fun j hj => hn (j + 1) (by simpa using hj) (by omega), qcr, if_pos ⟨hx, by have hx2 : x.to.toNat = r := hx; rw [hx2]; exact hr⟩]; rfl
  | x :: l, i0, last, r, i + 1, hi, hx, hn, hr => by
    rw [lastL, last_at l (i0 + 1) _ r i (by simpa using hi) hx (fun j hj hij => hn (j + 1) (by simpa using hj) (by omega)) (by rw [List.length_set]; exact hr)]
    omega
theorem done_some : ∀ (l : List Ins) (done : List Bool) (r : Nat), (doneL l done).getD r false = true → done.getD r false = false → ∃ i, ∃ h : i < l.length, l[i].to.toNat = r
  | [], done, r, h1, h2 => by rw [doneL] at h1; rw [h1] at h2; cases h2
  | x :: l, done, r, h1, h2 => by
    by_cases hx : x.to.toNat = r
    · exact ⟨0, by simp, hx⟩
    · rw [doneL] at h1
      obtain ⟨i, hi, h⟩ := done_some l _ r h1 (by rw [qcr, if_neg (fun e => hx e.1)]; exact h2)
      exact ⟨i + 1, by simpa using hi, h⟩
set_option maxHeartbeats 4000000 in
theorem rlast_g {c : Cod} {cols : List Int} (h : CodOk c cols) : Gives Tryd.prog 75 [c.av, .int c.ins.length, .int c.out] (.int (rootC c)) := by
  have hni := h.ni
  have o0 := h.out0
  have o1 := h.out1
  have hto : ∀ i (hi : i < c.ins.length), 0 ≤ c.ins[i].to := fun i hi => (AllOk.at c.ins i _ hi h.all).to0
  have hroot : ∀ i (hi : i < c.ins.length), c.ins[i].to = c.out → (∀ j (hj : j < c.ins.length), i < j → c.ins[j].to ≠ c.out) → (rootC c : Int) = i := fun i hi h1 h2 => by
    unfold rootC
    rw [last_at c.ins 0 _ c.out.toNat i hi (by rw [h1]) (fun j hj hij e => h2 j hj hij (by have := hto j hj; omega)) (by simp; omega)]
    omega
  have hex : ∃ i, ∃ hi : i < c.ins.length, c.ins[i].to = c.out := by
    obtain ⟨i, hi, e⟩ := done_some c.ins _ _ h.out2 (by rw [List.getD_eq_getElem?_getD, List.getElem?_replicate]; split <;> rfl)
    exact ⟨i, hi, by have := hto i hi; omega⟩
  generalize (rootC c : Int) = r at *
  obtain ⟨ins, types, out⟩ := c
  simp only at *
  refine qm Tryd.func75 Tryd.ntmps75 rfl rfl (by decide) rfl (by intro n; simp) fun σ n0 hcl hft => ?_
  repeat' (first | ((first | ((with_reducible refine qo (fun hg => ?_) (fun hg => ?_)) <;> (try simp only [hg]) <;> (try simp only [beq_iff_eq, beq_eq_false_iff_ne, ne_eq, decide_eq_true_eq, decide_eq_false_iff_not, bne_iff_ne, bne_eq_false_iff_eq] at hg) <;> (try (first | simp only [eq_false hg, if_true, if_false] | simp only [eq_true hg, if_true, if_false]))) | (with_reducible first | refine qd ?_ | refine qc ?_ | refine qi ?_ | refine qh ?_) | refine qf ?_ | refine qj ?_ | refine qk ?_ | refine qn ?_) <;> (try simp (disch := first | omega | simp) [ql, -qu, -qx])) | ((with_reducible first | refine sideG ?_ ?_ | refine qr ?_ ?_ | refine sideS ?_ ?_ | refine qs ?_ ?_ | refine qt ?_ ?_ | refine sideA ?_ ?_ | refine qp ?_ ?_ | refine qq ?_ ?_); first | omega | assumption | (simp; done)) | (refine qg fun K hK => ?_) | (refine qa ?_) | (refine qb true (by kernel_rfl) (by kernel_rfl) ?_) | (refine qb false (by kernel_rfl) (by kernel_rfl) ?_) | (refine hK _ ?_; clear hK K) | (clear hK K; refine hK _ ?_; clear hK K) | (clear hK K; clear hK K; refine hK _ ?_; clear hK K) | refine qe ?_)
  refine qbb hcl (fun b : Nat × Int => [(2, .int out), (3, .ptr n0 0), (7, .int b.2)]) (fun _ => [.cells [.sl (ins.map Ins.av), .sl (types.map AV.int), .int out] 25])
    (fun b => b.1 ≤ ins.length ∧ b.2 = (b.1 : Int) - 1 ∧ ∀ j (hj : j < ins.length), b.1 ≤ j → ins[j].to ≠ out) (fun b => b.1) (ins.length, (ins.length : Int) - 1) ⟨by omega, rfl, fun j hj h1 => by omega⟩ (by simp) fun ⟨k, i⟩ ⟨hk, hi, hn⟩ => ?_
  dsimp only at hk hi hn
  by_cases hi0 : 0 ≤ i
  · obtain ⟨m, rfl⟩ : ∃ m : Nat, i = m := ⟨i.toNat, by omega⟩
    obtain rfl : k = m + 1 := by omega
    have hm : m < ins.length := by omega
    by_cases he : ins[m].to = out
    · have hr := hroot m hm he fun j hj hij => hn j hj (by omega)
      repeat' (first | ((first | ((with_reducible refine qo (fun hg => ?_) (fun hg => ?_)) <;> (try simp only [hg]) <;> (try simp only [beq_iff_eq, beq_eq_false_iff_ne, ne_eq, decide_eq_true_eq, decide_eq_false_iff_not, bne_iff_ne, bne_eq_false_iff_eq] at hg) <;> (try (first | simp only [eq_false hg, if_true, if_false] | simp only [eq_true hg, if_true, if_false]))) | (with_reducible first | refine qd ?_ | refine qc ?_ | refine qi ?_ | refine qh ?_) | refine qf ?_ | refine qj ?_ | refine qk ?_ | refine qn ?_) <;> (try simp (disch := first | omega | simp) [ql, -qu, -qx, hm, he])) | ((with_reducible first | refine sideG ?_ ?_ | refine qr ?_ ?_ | refine sideS ?_ ?_ | refine qs ?_ ?_ | refine qt ?_ ?_ | refine sideA ?_ ?_ | refine qp ?_ ?_ | refine qq ?_ ?_); first | omega | assumption | (simp; done)) | (refine qg fun K hK => ?_) | (refine qa ?_) | (refine qb true (by kernel_rfl) (by kernel_rfl) ?_) | (refine qb false (by kernel_rfl) (by kernel_rfl) ?_) | (refine hK _ ?_; clear hK K) | (clear hK K; refine hK _ ?_; clear hK K) | (clear hK K; clear hK K; refine hK _ ?_; clear hK K) | refine qe ?_)
      all_goals first | exact absurd he (by assumption) | (rw [hr])
    · repeat' (first | ((first | ((with_reducible refine qo (fun hg => ?_) (fun hg => ?_)) <;> (try simp only [hg]) <;> (try simp only [beq_iff_eq, beq_eq_false_iff_ne, ne_eq, decide_eq_true_eq, decide_eq_false_iff_not, bne_iff_ne, bne_eq_false_iff_eq] at hg) <;> (try (first | simp only [eq_false hg, if_true, if_false] | simp only [eq_true hg, if_true, if_false]))) | (with_reducible first | refine qd ?_ | refine qc ?_ | refine qi ?_ | refine qh ?_) | refine qf ?_ | refine qj ?_ | refine qk ?_ | refine qn ?_) <;> (try simp (disch := first | omega | simp) [ql, -qu, -qx, hm, he])) | ((with_reducible first | refine sideG ?_ ?_ | refine qr ?_ ?_ | refine sideS ?_ ?_ | refine qs ?_ ?_ | refine qt ?_ ?_ | refine sideA ?_ ?_ | refine qp ?_ ?_ | refine qq ?_ ?_); first | omega | assumption | (simp; done)) | (refine qg fun K hK => ?_) | (refine qa ?_) | (refine qb true (by kernel_rfl) (by kernel_rfl) ?_) | (refine qb false (by kernel_rfl) (by kernel_rfl) ?_) | (refine hK _ ?_; clear hK K) | (clear hK K; refine hK _ ?_; clear hK K) | (clear hK K; clear hK K; refine hK _ ?_; clear hK K) | refine qe ?_)
      all_goals first | exact absurd (by assumption) he | exact ⟨m, ⟨by omega, rfl, fun j hj hij => by
        by_cases hjm : j = m
        · subst hjm; exact he
        · exact hn j hj (by omega)⟩, by omega⟩
  · exfalso
    obtain ⟨j, hj, e⟩ := hex
    exact hn j hj (by omega) e
theorem rvalue_g {c : Cod} {cols : List Int} (h : CodOk c cols) (time : Int) {row : List Val} (hrow : qca cols row) : Gives Tryd.prog 42 [c.av, .int time, .sl (row.map Val.av)] (valC c time row).av := by
  have c1 := rresults_g h time hrow
  have c2 := rlast_g h
  obtain ⟨hro, hval⟩ := h.val_res time row
  have hl : (resI time row c.ins c.types.length).length = c.ins.length := by unfold resI; rw [resN_len, nodes_len]; simp
  have hg : valC c time row = (resI time row c.ins c.types.length).getD (rootC c) zeroV := hval
  clear hval
  generalize valC c time row = V at *
  generalize resI time row c.ins c.types.length = RS at *
  generalize rootC c = ro at *
  have hro2 : ro < RS.length := by omega
  have hg2 : V = RS[ro] := by rw [hg, List.getD_eq_getElem?_getD, List.getElem?_eq_getElem hro2]; rfl
  rw [hg2]
  obtain ⟨ins, types, out⟩ := c
  simp only at *
  refine qm Tryd.func42 Tryd.ntmps42 rfl rfl (by decide) rfl (by intro n; simp) fun σ n0 hcl hft => ?_
  have hrn : ¬ (ro : Int) < 0 := by omega
  repeat' (first | ((first | ((with_reducible refine qo (fun hg => ?_) (fun hg => ?_)) <;> (try simp only [hg]) <;> (try simp only [beq_iff_eq, beq_eq_false_iff_ne, ne_eq, decide_eq_true_eq, decide_eq_false_iff_not, bne_iff_ne, bne_eq_false_iff_eq] at hg) <;> (try (first | simp only [eq_false hg, if_true, if_false] | simp only [eq_true hg, if_true, if_false]))) | (with_reducible first | refine qd ?_ | refine qc ?_ | refine qi ?_ | refine qh ?_) | refine acall (c1) ?_ | refine qv (c1) ?_ | refine qw (c1) ?_ | refine acall (c2) ?_ | refine qv (c2) ?_ | refine qw (c2) ?_ | refine qf ?_ | refine qj ?_ | refine qk ?_ | refine qn ?_) <;> (try simp (disch := first | omega | simp) [ql, -qu, -qx, hro2, hrn])) | ((with_reducible first | refine sideG ?_ ?_ | refine qr ?_ ?_ | refine sideS ?_ ?_ | refine qs ?_ ?_ | refine qt ?_ ?_ | refine sideA ?_ ?_ | refine qp ?_ ?_ | refine qq ?_ ?_); first | omega | assumption | (simp; done)) | (refine qg fun K hK => ?_) | (refine qa ?_) | (refine qb true (by kernel_rfl) (by kernel_rfl) ?_) | (refine qb false (by kernel_rfl) (by kernel_rfl) ?_) | (refine hK _ ?_; clear hK K) | (clear hK K; refine hK _ ?_; clear hK K) | (clear hK K; clear hK K; refine hK _ ?_; clear hK K) | refine qe ?_)
  all_goals exact absurd (by assumption) hrn
end Go.Proofs.YtnkakofcejkhiaaDoor
