/- Regions that draw their order, and write own blocks alone; one own block is read ahead of the last writes. -/
import Derived.Test.YtnkakofcejkhiaaDoorGc21
import Derived.Test.YtnkakofcejkhiaaDoorGc22
import Derived.Test.YtnkakofcejkhiaaDoorGc25
set_option linter.unusedSimpArgs false
set_option linter.unusedVariables false
namespace Go.Proofs.YtnkakofcejkhiaaDoor
open Go.RowKit Go.Lib
section
variable {P : Program}
theorem eop_appendO {s : AS} {t : TypeId} {x y : Operand} {r n : Nat} {l ys : List AV} {e : TypeId} {sz by_ : Nat} {K : AV → AS → Prop} (ht : vinfo P t = some (e, sz, by_)) (hx : s.eval x = .own r n) (hσ : s.st r = .vec l e sz) (hn : n = l.length) (hyl : (s.eval y).list = some ys) (hne : 0 < ys.length)
    (hw : ∀ z ∈ ys, z.width = sz) (h1 : ∀ z ∈ ys, z.elem = true) (hb : (l.length + ys.length) * by_ ≤ 140737488355328) (hK : K (.own r (l.length + ys.length)) (s.set r (.vec (l ++ ys) e sz))) :
    EOp P s (.call { callee := .builtin .append, args := #[x, y], argTypes := #[t, t] }) K := by
  intro X0 a w X oper ho hc Q
  have hw0 := hc.w
  subst hw0
  have hx2 := hc.eval x
  rw [hx] at hx2
  exact own_core ho hc ht hx2 hn hσ (hc.eval y) hyl hne hw h1 hb hK Q
theorem eop_appendO0 {s : AS} {t : TypeId} {x y : Operand} {r n : Nat} {l ys : List AV} {e : TypeId} {sz by_ : Nat} {K : AV → AS → Prop} (ht : vinfo P t = some (e, sz, by_)) (hx : s.eval x = .own r n) (hσ : s.st r = .vec l e sz) (hn : n = l.length) (hyl : (s.eval y).list = some ys)
    (hw : ∀ z ∈ ys, z.width = sz) (h1 : ∀ z ∈ ys, z.elem = true) (hb : (l.length + ys.length) * by_ ≤ 140737488355328) (hK : K (.own r (l.length + ys.length)) (s.set r (.vec (l ++ ys) e sz))) :
    EOp P s (.call { callee := .builtin .append, args := #[x, y], argTypes := #[t, t] }) K := by
  cases ys with
  | cons z ys => exact eop_appendO ht hx hσ hn hyl (by simp) hw h1 hb hK
  | nil =>
    intro X0 a w X oper ho hc Q
    have hw0 := hc.w
    subst hw0
    have hx2 := hc.eval x
    rw [hx] at hx2
    have hx3 : RC X (.own r n) [a.eval x] := hx2
    rw [RC] at hx3
    obtain ⟨-, v0, hv0, -, hall⟩ := hx3
    have hX : X.σ r = .vec l e sz := by rw [hc.σ, hσ]
    have hvm : a.eval x = X.μ r := by
      have := (hall _ _ _ hX).2 hn
      rw [← this]; simpa using hv0
    have hB := hc.sr.block r
    rw [hX] at hB
    obtain ⟨hwd, xs, hown, hrs⟩ := hB
    have hsh : ∃ A cap, X.μ r = .slice A l.length cap ∧ l.length ≤ cap := by
      rcases (World.ownsRowF_of hown).2 with ⟨h5, h6⟩ | ⟨g, cap2, cur, fz, h5, -, -, -, h6, -⟩
      · exact ⟨none, 0, by rw [h5, h6], by omega⟩
      · exact ⟨_, cap2, h5, h6⟩
    obtain ⟨A0, cap0, hv, hl0⟩ := hsh
    obtain ⟨A, cap, b, off, hyv', -⟩ := RR.list hyl (hc.eval y)
    obtain ⟨hu1, i, z, hi, -⟩ := qcb ht
    rw [List.append_nil, List.length_nil, Nat.add_zero, AS.set_same hσ] at hK
    refine qbq (w' := X.w) (v := a.eval x) (by rw [List.length_nil] at hyv'; simp [execOp, ho, resolve, invoke, builtin, hvm, hv, hyv', run_append_zero hu1 hi A0 A l.length cap0 cap hl0])
      ⟨a.eval x, .own r l.length, _, _, rfl, hK, hc, by rw [← hn]; exact hx2⟩
def aevM4 (P : Program) (s : AS) (o : Op) (K : AV → Option AB → Prop) : Prop :=
  match o with
  | .buildSlice t n ⟨p :: ps⟩ => match vinfo P t with
    | some (e, sz, _) => n = (p :: ps).length ∧ n * sz ≤ 16777216 ∧ bldS sz 0 ((p :: ps).map fun p => (p.1, s.eval p.2)) ∧ AV.wid ((p :: ps).map fun p => (s.eval p.2).pub) sz ∧ K (.own s.nx n) (some (.vec ((p :: ps).map fun p => (s.eval p.2).pub) e sz))
    | none => False
  | o => aevM P s o K
theorem aevM4_sound {s : AS} {o : Op} {K : AV → Option AB → Prop} (h : aevM4 P s o K) : ∃ x nb, FOp2 P s.eval s.st o x (nb.map (s.nx, ·)) ∧ K x nb := by
  unfold aevM4 at h
  split at h
  · split at h
    · obtain ⟨h1, h2, h3, h4, h5⟩ := h
      exact ⟨_, _, (fop_litVec ‹_› h1 h2 h3 h4).two, h5⟩
    · exact h.elim
  · exact aevM_sound h
attribute [simp] aevM4
def aevW4 (P : Program) (s : AS) (o : Op) (K : AV → AS → Prop) : Prop :=
  match o with
  | .call { callee := .builtin .append, args := ⟨[x, y]⟩, argTypes := ⟨[t, t']⟩ } => match s.eval x with
    | .own r n => t' = t ∧ (match vinfo P t with
      | some (e, sz, by_) => match s.st r, (s.eval y).list with
        | .vec l e' sz', some ys => e' = e ∧ sz' = sz ∧ n = l.length ∧ AV.wid ys sz ∧ AV.elms ys ∧ (l.length + ys.length) * by_ ≤ 140737488355328 ∧ K (.own r (l.length + ys.length)) (s.set r (.vec (l ++ ys) e sz))
        | _, _ => False
      | none => False)
    | _ => aevW2 P s (.call { callee := .builtin .append, args := ⟨[x, y]⟩, argTypes := ⟨[t, t']⟩ }) K
  | o => aevW2 P s o K
theorem aevW4_sound {s : AS} {o : Op} {K : AV → AS → Prop} (h : aevW4 P s o K) : ∃ x s1, WOp P s.eval s.st o x s1.st ∧ (s1.t = s.t ∧ s1.n = s.n ∧ s1.n0 = s.n0) ∧ K x s1 := by
  unfold aevW4 at h
  split at h
  · rename_i x y t t'
    split at h
    · rename_i r n hx
      obtain ⟨rfl, h⟩ := h
      split at h
      · rename_i e sz by_ ht
        split at h
        · rename_i l e' sz' ys hσ hy
          obtain ⟨rfl, rfl, hn, h3, h4, h5, h6⟩ := h
          have hr := set_lt hσ (by simp)
          refine ⟨_, _, qdm fun s' he hst hnx => ?_, ⟨(s.set_nx r _).2.2, (s.set_nx r _).1, (s.set_nx r _).2.1⟩, h6⟩
          have ex := he x (by simp [Op.operands, Call.operands])
          have ey := he y (by simp [Op.operands, Call.operands])
          refine eop_appendO0 ht (by rw [ex]; exact hx) (by rw [hst]; exact hσ) hn (by rw [ey]; exact hy) h3 h4 h5 ⟨rfl, ?_⟩
          rw [AS.set_st _ _ _ (by rw [hnx]; exact hr), AS.set_st _ _ _ hr, hst]
        · exact h.elim
      · exact h.elim
    · exact aevW2_sound h
  · exact aevW2_sound h
attribute [simp] aevW4
theorem awp_thawR {c : Code} {Q : Exit → AS → Prop} {n n0 : Nat} {t : Nat → AV} {σ : Nat → AB} {L : List AB} (d i : Nat) {et : TypeId} {sz : Nat} (hd : t d = .gs (n0 + i) []) (hL : L[i]? = some (.tail 0 et sz))
    (h : awp P c Q ⟨n, upd t d (.own (n0 + L.length) 0), σ, n0, L.set i .dead ++ [AB.vec [] et sz]⟩) : awp P c Q ⟨n, t, σ, n0, L⟩ := by
  intro X0 a w ⟨X, hc⟩
  have hst : (AS.mk n t σ n0 L).st (n0 + i) = .tail 0 et sz := by
    show loc σ n0 L (n0 + i) = _
    unfold loc
    rw [if_neg (by omega), Nat.add_sub_cancel_left, List.getD_eq_getElem?_getD, hL]; rfl
  obtain ⟨X', hXw, hc', hF, hR⟩ := con_thaw hc hst
  have hset : (AS.mk n t σ n0 L).set (n0 + i) .dead = ⟨n, t, σ, n0, L.set i .dead⟩ := by
    unfold AS.set; dsimp only; rw [if_neg (by omega), Nat.add_sub_cancel_left]
  rw [hset] at hc'
  refine h X0 a w ⟨X', ⟨hc'.w, hc'.σ, hc'.sr, hc'.fr, hc'.size, fun j => ?_, hc'.defers, hc'.fin⟩⟩
  show RR X' (upd t d _ j) _
  unfold upd
  by_cases hj : j = d
  · subst hj
    rw [if_pos rfl]
    have := hc.regs j
    change RR X (t j) _ at this
    rw [hd] at this
    exact hR _ this
  · rw [if_neg hj]; exact hc'.regs j
end
section
variable {P : Program}
structure AnyRaw4 (P : Program) (ops : Array Oper) (l : List Oper) (ks : List RK) (st s1 : Nat → AS) (xs : Nat → AV) (bs : Nat → Bool) (nbs : Nat → Option AB) (κ : Nat → AB) (q : Nat) : Prop where
  kept : ∀ r, κ r ≠ .unborn → ∀ j, j ≤ l.length → (st j).st r = κ r
  eye : ∀ i, i < l.length → ks.getD i .R ≠ .W → (st (i + 1)).st q = (st i).st q
  want : ∀ i o, l[i]? = some o → awant ops o (st i).t = some (bs i)
  dst : ∀ i o, l[i]? = some o → dstOk o.dst (st i).n
  next : ∀ i o, l[i]? = some o → st (i + 1) = (s1 i).put o.dst (xs i)
  same : ∀ i o, l[i]? = some o → (s1 i).t = (st i).t ∧ (s1 i).n = (st i).n ∧ (s1 i).n0 = (st i).n0
  skip : ∀ i o, l[i]? = some o → bs i = false → xs i = .v undef ∧ s1 i = st i ∧ nbs i = none
  opR : ∀ i o, l[i]? = some o → bs i = true → ks.getD i .R = .R → FOp2 P (st i).eval κ o.op (xs i) none ∧ s1 i = st i ∧ nbs i = none
  opN : ∀ i o, l[i]? = some o → bs i = true → ks.getD i .R = .N → FOp2 P (st i).eval (only q (st i).st) o.op (xs i) none ∧ s1 i = st i ∧ nbs i = none
  opM : ∀ i o, l[i]? = some o → bs i = true → ks.getD i .R = .M → FOp2 P (st i).eval (st i).st o.op (xs i) ((nbs i).map ((st i).nx, ·)) ∧ s1 i = (st i).ext (nbs i)
  opW : ∀ i o, l[i]? = some o → bs i = true → (ks.getD i .R).base = .W → WOp P (st i).eval (st i).st o.op (xs i) (s1 i).st ∧ nbs i = none
section
variable {l : List Oper}
theorem raw_steps4 {l : List Oper} {ks : List RK} {st s1 : Nat → AS} {xs : Nat → AV} {bs : Nat → Bool} {nbs : Nat → Option AB} {κ : Nat → AB} {q : Nat} (hB : anyB l ks = true) (h : AnyRaw4 P l.toArray l ks st s1 xs bs nbs κ q) : qbs P l (ks.map RK.base) st s1 xs bs nbs (fun i => if ks.getD i .R = .N then (if bs i = true then only q (st i).st else fun _ => .unborn) else κ) := by
  have pre : ∀ j, j ≤ l.length → (∀ i, i < j → ks.getD i .R ≠ .W) → (st j).st q = (st 0).st q := fun j => by
    induction j with
    | zero => intro _ _; rfl
    | succ j ih =>
      intro hj hk
      rw [h.eye j (by omega) (hk j (by omega)), ih (by omega) fun i hi => hk i (by omega)]
  refine ⟨fun i => ?_, fun i hi hk r hr => ?_, h.want, h.dst, h.next, h.same, h.skip, fun i o ho hb hk => ?_, fun i o ho hb hk => ?_, fun i o ho hb hk => ?_⟩
  · rw [qbx]
    cases ks.getD i .R <;> simp [RK.base]
  · split at hr
    · rename_i hN
      rw [if_pos hN]
      split at hr
      · rename_i hb
        rw [if_pos hb]
        by_cases hrq : r = q
        · subst hrq
          have ei : only r (st i).st r = (st 0).st r := by
            unfold only; rw [if_pos rfl]
            exact pre i (by omega) fun p hp hW => by
              have := ((anyB_n hB hi (j := p) (by omega)).1 hN hW).1; omega
          rw [ei]
          refine ⟨rfl, fun p hp hpW hpi => ?_⟩
          rw [qbx] at hpW
          have hpA : ks.getD p .R = .A := by
            cases hk2 : ks.getD p .R with
            | A => rfl
            | W => exact absurd ((anyB_n hB hi hp).1 hN hk2).2 hpi
            | R => rw [hk2] at hpW; cases hpW
            | M => rw [hk2] at hpW; cases hpW
            | N => rw [hk2] at hpW; cases hpW
          refine pre (p + 1) (by omega) fun p' hp' hW => ?_
          by_cases hpp : p' = p
          · rw [hpp, hpA] at hW; cases hW
          · have := (anyB_n hB hp (j := p') (by omega)).2 hpA hW; omega
        · exact absurd (if_neg hrq) hr
      · exact absurd rfl hr
    · rename_i hN
      rw [if_neg hN]
      exact ⟨h.kept r hr 0 (Nat.zero_le _), fun p hp _ _ => h.kept r hr (p + 1) (by omega)⟩
  · rw [qbx] at hk
    by_cases hN : ks.getD i .R = .N
    · rw [if_pos hN, if_pos hb]
      exact h.opN i o ho hb hN
    · rw [if_neg hN]
      refine h.opR i o ho hb ?_
      cases hk2 : ks.getD i .R with
      | R => rfl
      | M => rw [hk2] at hk; cases hk
      | W => rw [hk2] at hk; cases hk
      | N => exact absurd hk2 hN
      | A => rw [hk2] at hk; cases hk
  · rw [qbx] at hk
    refine h.opM i o ho hb ?_
    cases hk2 : ks.getD i .R with
    | M => rfl
    | R => rw [hk2] at hk; cases hk
    | W => rw [hk2] at hk; cases hk
    | N => rw [hk2] at hk; cases hk
    | A => rw [hk2] at hk; cases hk
  · rw [qbx] at hk
    exact h.opW i o ho hb hk
end
def AS.eyeO (j : Nat) (s : AS) : AS := { s with σ := fun _ => .unborn, L := List.replicate j .unborn ++ [s.L.getD j .unborn] }
theorem eyeO_st {s : AS} {j : Nat} : (s.eyeO j).st = only (s.n0 + j) s.st := by
  funext k
  show loc (fun _ => .unborn) s.n0 (List.replicate j .unborn ++ [s.L.getD j .unborn]) k = _
  unfold loc only
  by_cases hk : k < s.n0
  · rw [if_pos hk, if_neg (by omega)]
  · rw [if_neg hk]
    by_cases hj : k = s.n0 + j
    · rw [if_pos hj]
      subst hj
      show _ = loc s.σ s.n0 s.L (s.n0 + j)
      unfold loc
      rw [if_neg (by omega), Nat.add_sub_cancel_left, List.getD_eq_getElem?_getD, List.getElem?_append_right (by simp)]
      simp
    · rw [if_neg hj]
      by_cases h2 : k - s.n0 < j
      · rw [List.getD_eq_getElem?_getD, List.getElem?_append_left (by simpa using h2), List.getElem?_replicate, if_pos h2]; rfl
      · rw [List.getD_eq_getElem?_getD, List.getElem?_eq_none (by simp; omega)]; rfl
theorem st_own {s : AS} {n0 j : Nat} (h : s.n0 = n0) : s.st (n0 + j) = s.L.getD j .unborn := by
  subst h
  show loc s.σ s.n0 s.L (s.n0 + j) = _
  unfold loc
  rw [if_neg (by omega), Nat.add_sub_cancel_left]
def anyF (P : Program) (ops : Array Oper) (m : List AB) (j : Nat) (K : AS → Prop) : List Oper → List RK → AS → Prop
  | [], _, s => K s
  | o :: l, ks, s => match awant ops o s.t with
    | some b => qbp b (match ks.headD .R with
      | .R => aevF P (s.seen m) o.op (fun x nb => nb = none ∧ dstOk o.dst s.n ∧ anyF P ops m j K l ks.tail (s.put o.dst x))
      | .N => aevF P (s.eyeO j) o.op (fun x nb => nb = none ∧ dstOk o.dst s.n ∧ anyF P ops m j K l ks.tail (s.put o.dst x))
      | .M => aevM4 P s o.op (fun x nb => j < s.L.length ∧ dstOk o.dst s.n ∧ anyF P ops m j K l ks.tail ((s.ext nb).put o.dst x))
      | .A => aevW4 P s o.op (fun x s1 => s1.L.getD j .unborn = s.L.getD j .unborn ∧ dstOk o.dst s.n ∧ qcu m s1.L ∧ s1.σ = s.σ ∧ anyF P ops m j K l ks.tail (s1.put o.dst x))
      | .W => aevW4 P s o.op (fun x s1 => dstOk o.dst s.n ∧ qcu m s1.L ∧ s1.σ = s.σ ∧ anyF P ops m j K l ks.tail (s1.put o.dst x))) (dstOk o.dst s.n ∧ anyF P ops m j K l ks.tail (s.put o.dst (.v undef)))
    | none => False
theorem anyF_steps {ops : Array Oper} {m : List AB} {j : Nat} {σ0 : Nat → AB} {n0 : Nat} {K : AS → Prop} : ∀ (l : List Oper) (ks : List RK) (s : AS), s.n0 = n0 → s.σ = σ0 → (∀ r, loc σ0 n0 m r ≠ .unborn → s.st r = loc σ0 n0 m r) → anyF P ops m j K l ks s →
    ∃ st s1 xs bs nbs, AnyRaw4 P ops l ks st s1 xs bs nbs (loc σ0 n0 m) (n0 + j) ∧ st 0 = s ∧ K (st l.length)
  | [], ks, s, hn0, hs0, hke, h => by
    refine ⟨fun _ => s, fun _ => s, fun _ => .any, fun _ => true, fun _ => none, ⟨fun r hr j _ => hke r hr, fun _ hi => absurd hi (Nat.not_lt_zero _), ?_, ?_, ?_, ?_, ?_, ?_, ?_, ?_, ?_⟩, rfl, h⟩ <;> (intro i o ho; simp at ho)
  | o :: l, ks, s, hn0, hs0, hke, h => by
    have key : ∀ (x : AV) (b : Bool) (nb : Option AB) (s1 : AS), awant ops o s.t = some b → dstOk o.dst s.n → (s1.t = s.t ∧ s1.n = s.n ∧ s1.n0 = s.n0) → s1.σ = s.σ → (ks.headD .R ≠ .W → s1.st (n0 + j) = s.st (n0 + j)) → (b = false → x = .v undef ∧ s1 = s ∧ nb = none) →
        (b = true → ks.headD .R = .R → FOp2 P s.eval (loc σ0 n0 m) o.op x none ∧ s1 = s ∧ nb = none) → (b = true → ks.headD .R = .N → FOp2 P s.eval (only (n0 + j) s.st) o.op x none ∧ s1 = s ∧ nb = none) → (b = true → ks.headD .R = .M → FOp2 P s.eval s.st o.op x (nb.map (s.nx, ·)) ∧ s1 = s.ext nb) →
        (b = true → (ks.headD .R).base = .W → WOp P s.eval s.st o.op x s1.st ∧ nb = none) → (∀ r, loc σ0 n0 m r ≠ .unborn → s1.st r = loc σ0 n0 m r) → anyF P ops m j K l ks.tail (s1.put o.dst x) →
        ∃ st s1 xs bs nbs, AnyRaw4 P ops (o :: l) ks st s1 xs bs nbs (loc σ0 n0 m) (n0 + j) ∧ st 0 = s ∧ K (st (o :: l).length) := by
      intro x b nb s1 hw hd hsame hss heye hskip hR hN hM hW hke1 hrest
      have hput : (s1.put o.dst x).σ = s1.σ := by cases o.dst <;> rfl
      obtain ⟨st, s1', xs, bs, nbs, hs, h0, hK⟩ := anyF_steps (n0 := n0) (σ0 := σ0) l ks.tail _ (by rw [(qej s1 o.dst x).2.2.2, hsame.2.2]; exact hn0) (by rw [hput, hss]; exact hs0) (fun r hr => by rw [(qej s1 o.dst x).1]; exact hke1 r hr) hrest
      have hks : ∀ i, ks.getD (i + 1) .R = ks.tail.getD i .R := fun i => by cases ks <;> simp
      have hk0 : ks.getD 0 .R = ks.headD .R := by cases ks <;> simp
      refine ⟨fun i => match i with | 0 => s | i + 1 => st i, fun i => match i with | 0 => s1 | i + 1 => s1' i, fun i => match i with | 0 => x | i + 1 => xs i, fun i => match i with | 0 => b | i + 1 => bs i, fun i => match i with | 0 => nb | i + 1 => nbs i, ⟨fun r hr j hj => (match j with | 0 => hke r hr | j + 1 => hs.kept r hr j (by simpa using hj)), fun i hi hk => ?_, ?_, ?_, ?_, ?_, ?_, ?_, ?_, ?_, ?_⟩, rfl, hK⟩
      · cases i with
        | zero => rw [hk0] at hk; show (st 0).st _ = s.st _; rw [h0, (qej s1 o.dst x).1]; exact heye hk
        | succ i => rw [hks] at hk; exact hs.eye i (by simpa using hi) hk
      all_goals (intro i o' ho; cases i)
      · simp at ho; subst ho; exact hw
      · exact hs.want _ o' (by simpa using ho)
      · simp at ho; subst ho; exact hd
      · exact hs.dst _ o' (by simpa using ho)
      · simp at ho; subst ho; exact h0
      · exact hs.next _ o' (by simpa using ho)
      · simp at ho; subst ho; exact hsame
      · exact hs.same _ o' (by simpa using ho)
      · simp at ho; subst ho; exact hskip
      · exact hs.skip _ o' (by simpa using ho)
      · simp at ho; subst ho; rw [hk0]; exact hR
      · rw [hks]; exact hs.opR _ o' (by simpa using ho)
      · simp at ho; subst ho; rw [hk0]; exact hN
      · rw [hks]; exact hs.opN _ o' (by simpa using ho)
      · simp at ho; subst ho; rw [hk0]; exact hM
      · rw [hks]; exact hs.opM _ o' (by simpa using ho)
      · simp at ho; subst ho; rw [hk0]; exact hW
      · rw [hks]; exact hs.opW _ o' (by simpa using ho)
    rw [anyF] at h
    split at h
    · rename_i bb hw
      cases bb with
      | true =>
        replace h := h.1 rfl
        split at h
        · rename_i hk
          obtain ⟨x, nb, h1, rfl, h2, h3⟩ := qcv h
          have e : (s.seen m).st = loc σ0 n0 m := by show loc s.σ s.n0 m = _; rw [hs0, hn0]
          rw [e] at h1
          exact key x true none s hw h2 ⟨rfl, rfl, rfl⟩ rfl (fun _ => rfl) (fun e => by cases e) (fun _ _ => ⟨h1.two, rfl, rfl⟩) (fun _ e => by rw [hk] at e; cases e) (fun _ e => by rw [hk] at e; cases e) (fun _ e => by rw [hk] at e; cases e) hke h3
        · rename_i hk
          obtain ⟨x, nb, h1, rfl, h2, h3⟩ := qcv h
          rw [eyeO_st, hn0] at h1
          exact key x true none s hw h2 ⟨rfl, rfl, rfl⟩ rfl (fun _ => rfl) (fun e => by cases e) (fun _ e => by rw [hk] at e; cases e) (fun _ _ => ⟨h1.two, rfl, rfl⟩) (fun _ e => by rw [hk] at e; cases e) (fun _ e => by rw [hk] at e; cases e) hke h3
        · rename_i hk
          obtain ⟨x, nb, h1, hj, h2, h3⟩ := aevM4_sound h
          refine key x true nb (s.ext nb) hw h2 (by cases nb <;> exact ⟨rfl, rfl, rfl⟩) (by cases nb <;> rfl) (fun _ => ?_) (fun e => by cases e) (fun _ e => by rw [hk] at e; cases e) (fun _ e => by rw [hk] at e; cases e) (fun _ _ => ⟨h1, rfl⟩) (fun _ e => by rw [hk] at e; cases e) (ext_keeps hke nb) h3
          cases nb with
          | none => rfl
          | some ab =>
            rw [(ext_st s ab).1]
            have : n0 + j ≠ s.nx := by unfold AS.nx; omega
            unfold upd; rw [if_neg this]
        · rename_i hk
          obtain ⟨x, s1, h1, h2, h7, h3, h5, h6, h4⟩ := aevW4_sound h
          exact key x true none s1 hw h3 h2 h6 (fun _ => by rw [st_own (h2.2.2.trans hn0), st_own hn0]; exact h7) (fun e => by cases e) (fun _ e => by rw [hk] at e; cases e) (fun _ e => by rw [hk] at e; cases e) (fun _ e => by rw [hk] at e; cases e) (fun _ _ => ⟨h1, rfl⟩) (kept_e (h6.trans hs0) (h2.2.2.trans hn0) h5) h4
        · rename_i hk
          obtain ⟨x, s1, h1, h2, h3, h5, h6, h4⟩ := aevW4_sound h
          exact key x true none s1 hw h3 h2 h6 (fun e => absurd hk e) (fun e => by cases e) (fun _ e => by rw [hk] at e; cases e) (fun _ e => by rw [hk] at e; cases e) (fun _ e => by rw [hk] at e; cases e) (fun _ _ => ⟨h1, rfl⟩) (kept_e (h6.trans hs0) (h2.2.2.trans hn0) h5) h4
      | false =>
        replace h := h.2 rfl
        exact key (.v undef) false none s hw h.1 ⟨rfl, rfl, rfl⟩ rfl (fun _ => rfl) (fun _ => ⟨rfl, rfl, rfl⟩) (fun e => by cases e) (fun e => by cases e) (fun e => by cases e) (fun e => by cases e) hke h.2
    · exact h.elim
theorem awp_anyF {s : AS} {id : Nat} {l : List Oper} {Q : Exit → AS → Prop} (m : List AB) (j : Nat) (ks : List RK) (hm : P.follows .mixedOrders = true) (hB : anyB l ks = true) (h0 : qcu m s.L) (h : anyF P l.toArray m j (Q .normal) l ks s) : awp P (.region id l.toArray true) Q s := by
  obtain ⟨st, s1, xs, bs, nbs, hs, rfl, hK⟩ := anyF_steps l ks s rfl rfl (kept_e rfl rfl h0) h
  exact awp_any hm (anyB_ok hB) (raw_steps4 hB hs) hK
end
theorem anyF_step {P : Program} {ops : Array Oper} {m : List AB} {j : Nat} {K : AS → Prop} {o : Oper} {l : List Oper} {ks : List RK} {s : AS} (h : match awant ops o s.t with
    | some b => qbp b (match ks.headD .R with
      | .R => aevF P (s.seen m) o.op (fun x nb => nb = none ∧ dstOk o.dst s.n ∧ anyF P ops m j K l ks.tail (s.put o.dst x))
      | .N => aevF P (s.eyeO j) o.op (fun x nb => nb = none ∧ dstOk o.dst s.n ∧ anyF P ops m j K l ks.tail (s.put o.dst x))
      | .M => aevM4 P s o.op (fun x nb => j < s.L.length ∧ dstOk o.dst s.n ∧ anyF P ops m j K l ks.tail ((s.ext nb).put o.dst x))
      | .A => aevW4 P s o.op (fun x s1 => s1.L.getD j .unborn = s.L.getD j .unborn ∧ dstOk o.dst s.n ∧ qcu m s1.L ∧ s1.σ = s.σ ∧ anyF P ops m j K l ks.tail (s1.put o.dst x))
      | .W => aevW4 P s o.op (fun x s1 => dstOk o.dst s.n ∧ qcu m s1.L ∧ s1.σ = s.σ ∧ anyF P ops m j K l ks.tail (s1.put o.dst x))) (dstOk o.dst s.n ∧ anyF P ops m j K l ks.tail (s.put o.dst (.v undef)))
    | none => False) : anyF P ops m j K (o :: l) ks s := h
theorem anyF_end {P : Program} {ops : Array Oper} {m : List AB} {j : Nat} {K : AS → Prop} {ks : List RK} {s : AS} (h : K s) : anyF P ops m j K [] ks s := h
@[simp] theorem eyeO_mk (j : Nat) (n : Nat) (t : Nat → AV) (σ : Nat → AB) (n0 : Nat) (L : List AB) : (AS.mk n t σ n0 L).eyeO j = ⟨n, t, fun _ => .unborn, n0, List.replicate j .unborn ++ [L.getD j .unborn]⟩ := rfl
end Go.Proofs.YtnkakofcejkhiaaDoor

/- Walk of layer 25: Compact. -/
namespace Go.Proofs.YtnkakofcejkhiaaDoor
open Go.RowKit Go.Lib
theorem qdc (l : List Nat) (i v : Nat) : natAv (l.set i v) = (natAv l).set i (.int v) := by unfold natAv; rw [List.map_set]
theorem natAv_snoc (l : List Nat) (v : Nat) : natAv (l ++ [v]) = natAv l ++ [.int v] := by unfold natAv; rw [List.map_append]; rfl
theorem natAv_rep (n : Nat) : natAv (List.replicate n 0) = List.replicate n (.int 0) := by unfold natAv; rw [List.map_replicate]; rfl
def endS (i : Nat) (e : List Nat) (src : List Nat) : List Nat := src.foldl (fun e k => e.set k i) e
theorem endS_snoc (i : Nat) (e src : List Nat) (k : Nat) : endS i e (src ++ [k]) = (endS i e src).set k i := by unfold endS; rw [List.foldl_append]; rfl
theorem endS_len (i : Nat) : ∀ (src e : List Nat), (endS i e src).length = e.length
  | [], _ => rfl
  | k :: src, e => by unfold endS; rw [List.foldl_cons]; have := endS_len i src (e.set k i); unfold endS at this; rw [this, List.length_set]
theorem slot_uniq {e : List Nat} {i : Nat} {t : Int} {hs : List Nat} {us : List Int} (hl : hs.length = us.length) {k : Nat} (h : ∀ m, m < k → i < e.getD (hs.getD m 0) 0 ∨ us.getD m 0 ≠ t) (hk : k ≤ hs.length)
    (h2 : k = hs.length ∨ ¬ (i < e.getD (hs.getD k 0) 0 ∨ us.getD k 0 ≠ t)) : slot e i t hs us = k := by
  obtain ⟨h3, h4, h5⟩ := slot_spec e i t hs us hl
  rcases Nat.lt_trichotomy (slot e i t hs us) k with h6 | h6 | h6
  · have h7 := h _ h6
    have h8 := h4 (by omega)
    rcases h7 with h7 | h7
    · omega
    · exact absurd h8.2 h7
  · exact h6
  · have h7 := h5 k h6
    rcases h2 with h2 | h2
    · omega
    · exact absurd h7 h2
set_option maxHeartbeats 8000000 in
theorem compact_g {c : Cod} {cols : List Int} (h : CodOk c cols) : Gives Tryd.prog 22 [c.av] (compP c).av := by
  have c1 := trim_g h
  obtain ⟨hd, -, -⟩ := trim_ok h 0 []
  have c2 := sources_g hd
  have hro := (hd.val_res 0 []).1
  have hdl : (qba (trimP c)).length = (trimP c).ins.length := by unfold qba; exact qcg _ _ _
  have hea := hd.early
  have hs3 : ∀ d ∈ qba (trimP c), d.src.length ≤ 3 := nodes_src _ _ _
  have hxs : ∀ k (h1 : k < (qba (trimP c)).length) (h2 : k < (trimP c).ins.length), ((qba (trimP c))[k]).x = (trimP c).ins[k] := by
    have : ∀ (l : List Ins) (i : Nat) (last : List Nat) (k : Nat) (h1 : k < (nodes l i last).length) (h2 : k < l.length), ((nodes l i last)[k]).x = l[k] := fun l => by
      induction l with
      | nil => intro _ _ k h1 h2; simp at h2
      | cons x l ih =>
        intro i last k h1 h2
        cases k with
        | zero => rfl
        | succ k => exact ih (i + 1) _ k _ _
    exact this _ _ _
  have hto : ∀ x ∈ (trimP c).ins, 0 ≤ x.to ∧ x.to < (trimP c).types.length := by
    have : ∀ (l : List Ins) (done : List Bool), AllOk cols (trimP c).types l done → ∀ x ∈ l, 0 ≤ x.to ∧ x.to < (trimP c).types.length := fun l => by
      induction l with
      | nil => intro _ _ x hx; cases hx
      | cons y l ih =>
        intro done ha x hx
        rcases List.mem_cons.1 hx with rfl | hx
        · exact ⟨ha.1.to0, ha.1.to1⟩
        · exact ih _ ha.2 x hx
    exact this _ _ hd.all
  have hni := hd.ni
  have hnt := hd.nt
  obtain ⟨R, hR⟩ : ∃ R, R = compP c := ⟨_, rfl⟩
  rw [← hR]
  unfold compP compS at hR
  dsimp only at hR
  generalize qba (trimP c) = ds at *
  generalize rootC (trimP c) = root at *
  generalize trimP c = d at *
  obtain ⟨ins, types, out⟩ := d
  obtain ⟨cins, ctypes, cout⟩ := c
  simp only at hro hdl hni hnt hxs hto hR
  have hsz1 : 8 * ins.length ≤ 281474976710656 := by omega
  have hsz2 : 1 * ins.length ≤ 281474976710656 := by omega
  refine qn Tryd.func22 Tryd.ntmps22 rfl rfl (by decide) rfl (by intro n; simp) fun σ n0 hcl hft => ?_
  repeat' (first | ((first | ((with_reducible refine qo (fun hg => ?_) (fun hg => ?_)) <;> (try simp only [hg]) <;> (try simp only [gS] at hg) <;> (try (first | simp only [eq_false hg, gI] | simp only [eq_true hg, gI]))) | (with_reducible first | refine qh ?_ | refine qg ?_ | refine ql ?_ | refine qk ?_) | refine acall (c1) ?_ | refine qq (c1) ?_ | refine qp (c1) ?_ | refine acall (c2) ?_ | refine qq (c2) ?_ | refine qp (c2) ?_ | refine qd ?_ | refine qi ?_ | refine qj ?_ | refine qm ?_) <;> (try simp (disch := first | omega | simp) [qf, -qr, -qw, hsz1, hsz2])) | ((with_reducible refine sideT ?_ ?_); first | omega | assumption | (simp; done)) | (refine qe fun K hK => ?_) | (refine qa ?_) | (refine qb true (by kernel_rfl) (by kernel_rfl) ?_) | (refine qb false (by kernel_rfl) (by kernel_rfl) ?_) | (refine hK _ ?_; clear hK K) | (clear hK K; refine hK _ ?_; clear hK K) | (clear hK K; clear hK K; refine hK _ ?_; clear hK K) | refine qc ?_)
  obtain ⟨EI, hEI⟩ : ∃ EI, EI = endI ds 0 (List.replicate ins.length 0) := ⟨_, rfl⟩
  refine qx hcl (fun b : Nat × List Nat => [(1, .ptr n0 0), (2, .ptr (n0 + 1) 0), (3, .sl (srcAv ds)), (4, .int root), (5, .own (n0 + 2) ins.length), (31, .sl (srcAv ds)), (32, .int ds.length), (33, .int b.1)])
    (fun b => [.cells [.sl (ins.map Ins.av), .sl (types.map AV.int), .int out] 25, .cells [.v (.slice none 0 0), .v (.slice none 0 0), .int 0] 25, .vec (natAv b.2) 3 1])
    (fun b => b.1 ≤ ins.length ∧ b.2.length = ins.length ∧ EI = endI (ds.drop b.1) b.1 b.2) (fun b => ins.length - b.1) (0, List.replicate ins.length 0) ⟨by omega, by simp, hEI⟩ (by simp [natAv_rep]) fun ⟨k, e⟩ ⟨hk, hel, he⟩ => ?_
  dsimp only at hk hel he
  by_cases hlt : k < ins.length
  · have hltd : k < ds.length := by omega
    have hsd : (ds.getD k ⟨⟨0, 0, 0, 0, 0, 0, ByteArray.empty⟩, []⟩).src = ds[k].src := by rw [List.getD_eq_getElem?_getD, List.getElem?_eq_getElem hltd]; rfl
    have hse : ∀ j ∈ ds[k].src, j < k := fun j hj => hea k hltd j (by unfold srcOf; rw [hsd]; exact hj)
    have hsl3 := hs3 ds[k] (List.getElem_mem _)
    rw [List.drop_eq_getElem_cons hltd, endI] at he
    change EI = endI (ds.drop (k + 1)) (k + 1) (endS k (e.set k k) ds[k].src) at he
    generalize hsrc : ds[k].src = src at *
    repeat' (first | ((first | ((with_reducible refine qo (fun hg => ?_) (fun hg => ?_)) <;> (try simp only [hg]) <;> (try simp only [gS] at hg) <;> (try (first | simp only [eq_false hg, gI] | simp only [eq_true hg, gI]))) | (with_reducible first | refine qh ?_ | refine qg ?_ | refine ql ?_ | refine qk ?_) | refine qd ?_ | refine qi ?_ | refine qj ?_ | refine qm ?_) <;> (try simp (disch := first | omega | simp) [qf, -qr, -qw, hltd, hel, hsrc, hlt])) | ((with_reducible refine sideT ?_ ?_); first | omega | assumption | (simp; done)) | (refine qe fun K hK => ?_) | (refine qa ?_) | (refine qb true (by kernel_rfl) (by kernel_rfl) ?_) | (refine qb false (by kernel_rfl) (by kernel_rfl) ?_) | (refine hK _ ?_; clear hK K) | (clear hK K; refine hK _ ?_; clear hK K) | (clear hK K; clear hK K; refine hK _ ?_; clear hK K) | refine qc ?_)
    refine qx hcl (fun j : Nat => [(1, .ptr n0 0), (2, .ptr (n0 + 1) 0), (3, .sl (srcAv ds)), (4, .int root), (5, .own (n0 + 2) ins.length), (6, .int k), (31, .sl (srcAv ds)), (32, .int ds.length), (33, .int k), (42, .sl (natAv src)), (43, .int src.length), (44, .int j)])
      (fun j => [.cells [.sl (ins.map Ins.av), .sl (types.map AV.int), .int out] 25, .cells [.v (.slice none 0 0), .v (.slice none 0 0), .int 0] 25, .vec (natAv (endS k (e.set k k) (src.take j))) 3 1])
      (fun j => j ≤ src.length) (fun j => src.length - j) 0 (by omega) (by simp [endS, qdc]; exact cls_set (natAv_cl _ _) (by simp)) fun j hj => ?_
    have hl2 : (endS k (e.set k k) (src.take j)).length = ins.length := by rw [endS_len, List.length_set]; exact hel
    by_cases hlt2 : j < src.length
    · have hs1 := hse src[j] (List.getElem_mem _)
      have hs2 : src[j] < ins.length := by omega
      have hsn : endS k (e.set k k) (src.take (j + 1)) = (endS k (e.set k k) (src.take j)).set src[j] k := by rw [List.take_succ_eq_append_getElem hlt2, endS_snoc]
      repeat' (first | ((first | ((with_reducible refine qo (fun hg => ?_) (fun hg => ?_)) <;> (try simp only [hg]) <;> (try simp only [gS] at hg) <;> (try (first | simp only [eq_false hg, gI] | simp only [eq_true hg, gI]))) | (with_reducible first | refine qh ?_ | refine qg ?_ | refine ql ?_ | refine qk ?_) | refine qd ?_ | refine qi ?_ | refine qj ?_ | refine qm ?_) <;> (try simp (disch := first | omega | simp) [qf, -qr, -qw, hlt2, hl2, hs2])) | ((with_reducible refine sideT ?_ ?_); first | omega | assumption | (simp; done)) | (refine qe fun K hK => ?_) | (refine qa ?_) | (refine qb true (by kernel_rfl) (by kernel_rfl) ?_) | (refine qb false (by kernel_rfl) (by kernel_rfl) ?_) | (refine hK _ ?_; clear hK K) | (clear hK K; refine hK _ ?_; clear hK K) | (clear hK K; clear hK K; refine hK _ ?_; clear hK K) | refine qc ?_)
      refine ⟨j + 1, by omega, by omega, ?_⟩
      rw [hsn]; simp [qdc]
    · obtain rfl : j = src.length := by omega
      rw [List.take_length] at hl2 ⊢
      repeat' (first | ((first | ((with_reducible refine qo (fun hg => ?_) (fun hg => ?_)) <;> (try simp only [hg]) <;> (try simp only [gS] at hg) <;> (try (first | simp only [eq_false hg, gI] | simp only [eq_true hg, gI]))) | (with_reducible first | refine qh ?_ | refine qg ?_ | refine ql ?_ | refine qk ?_) | refine qd ?_ | refine qi ?_ | refine qj ?_ | refine qm ?_) <;> (try simp (disch := first | omega | simp) [qf, -qr, -qw, hlt2])) | ((with_reducible refine sideT ?_ ?_); first | omega | assumption | (simp; done)) | (refine qe fun K hK => ?_) | (refine qa ?_) | (refine qb true (by kernel_rfl) (by kernel_rfl) ?_) | (refine qb false (by kernel_rfl) (by kernel_rfl) ?_) | (refine hK _ ?_; clear hK K) | (clear hK K; refine hK _ ?_; clear hK K) | (clear hK K; clear hK K; refine hK _ ?_; clear hK K) | refine qc ?_)
      refine ⟨k + 1, endS k (e.set k k) src, ⟨by omega, hl2, he⟩, by omega, ?_⟩
      simp
  · obtain rfl : k = ins.length := by omega
    rw [List.drop_of_length_le (by omega), endI] at he
    subst he
    have hltd : ¬ ins.length < ds.length := by omega
    repeat' (first | ((first | ((with_reducible refine qo (fun hg => ?_) (fun hg => ?_)) <;> (try simp only [hg]) <;> (try simp only [gS] at hg) <;> (try (first | simp only [eq_false hg, gI] | simp only [eq_true hg, gI]))) | (with_reducible first | refine qh ?_ | refine qg ?_ | refine ql ?_ | refine qk ?_) | refine qd ?_ | refine qi ?_ | refine qj ?_ | refine qm ?_) <;> (try simp (disch := first | omega | simp) [qf, -qr, -qw, hltd, hel, hro, hsz1, hsz2])) | ((with_reducible refine sideT ?_ ?_); first | omega | assumption | (simp; done)) | (refine qe fun K hK => ?_) | (refine qa ?_) | (refine qb true (by kernel_rfl) (by kernel_rfl) ?_) | (refine qb false (by kernel_rfl) (by kernel_rfl) ?_) | (refine hK _ ?_; clear hK K) | (clear hK K; refine hK _ ?_; clear hK K) | (clear hK K; clear hK K; refine hK _ ?_; clear hK K) | refine qc ?_)
    obtain ⟨E, hE⟩ : ∃ E, E = EI.set root ins.length := ⟨_, rfl⟩
    have hEl : E.length = ins.length := by rw [hE, List.length_set]; exact hel
    obtain ⟨S, hS⟩ : ∃ S, S = compI E types ds 0 ⟨[], [], [], List.replicate ins.length 0⟩ := ⟨_, rfl⟩
    have hR2 : R = ⟨S.ins, S.tys, (S.place.getD root 0 : Nat)⟩ := by rw [hR, hS, hE, hEI, endP, hdl]
    clear hR hEI
    refine qca 3 0 68 7 (by rfl) (by rfl) ?_
    refine qca 3 1 3 1 (by rfl) (by rfl) ?_
    refine awp_adoptR 12 3 1 (by simp) ?_
    refine awp_thawR 12 7 (et := 3) (sz := 1) (by simp) (by rfl) ?_
    refine qx hcl (fun b : Nat × CompS => [(1, .ptr n0 0), (2, .ptr (n0 + 1) 0), (3, .sl (srcAv ds)), (4, .int root), (5, .own (n0 + 2) ins.length), (10, .ptr (n0 + 3) 0), (11, .own (n0 + 4) ins.length), (12, .own (n0 + 8) b.2.holds.length), (65, .sl (ins.map Ins.av)), (66, .int ins.length), (67, .int b.1)])
      (fun b => [.cells [.sl (ins.map Ins.av), .sl (types.map AV.int), .int out] 25, .cells [.v (.slice none 0 0), .v (.slice none 0 0), .int 0] 25, .vec (natAv E) 3 1,
        .cells [.gs (n0 + 5) (b.2.ins.map Ins.av), .gs (n0 + 6) (b.2.tys.map AV.int), .int 0] 25, .vec (natAv b.2.place) 3 1, .tail b.2.ins.length 68 7, .tail b.2.tys.length 3 1, .dead, .vec (natAv b.2.holds) 3 1])
      (fun b => b.1 ≤ ins.length ∧ S = compI E types (ds.drop b.1) b.1 b.2 ∧ b.2.ins.length = b.1 ∧ b.2.holds.length = b.2.tys.length ∧ b.2.holds.length ≤ b.1 ∧ (∀ q ∈ b.2.holds, q < b.1) ∧ b.2.place.length = ins.length)
      (fun b => ins.length - b.1) (0, ⟨[], [], [], List.replicate ins.length 0⟩) ⟨by omega, hS, rfl, rfl, by simp, by simp, by simp⟩ (by simp [hE, qdc, natAv_rep, show natAv ([] : List Nat) = [] from rfl]; exact cls_set (natAv_cl _ _) (by simp)) fun ⟨i, s⟩ ⟨hi, hSi, s1, s2, s3, s4, s5⟩ => ?_
    dsimp only at hi hSi s1 s2 s3 s4 s5
    clear hE hel
    by_cases hlt : i < ins.length
    · have hltd : i < ds.length := by omega
      have hsd : (ds.getD i ⟨⟨0, 0, 0, 0, 0, 0, ByteArray.empty⟩, []⟩).src = ds[i].src := by rw [List.getD_eq_getElem?_getD, List.getElem?_eq_getElem hltd]; rfl
      have hse : ∀ j ∈ ds[i].src, j < i := fun j hj => hea i hltd j (by unfold srcOf; rw [hsd]; exact hj)
      have hsl3 := hs3 ds[i] (List.getElem_mem _)
      have hx := hxs i hltd hlt
      have hxto := hto ins[i] (List.getElem_mem _)
      rw [List.drop_eq_getElem_cons hltd, compI] at hSi
      try dsimp only at hSi
      rw [hx] at hSi
      have htd : types.getD ins[i].to.toNat 0 = types[ins[i].to.toNat]'(by omega) := by rw [List.getD_eq_getElem?_getD, List.getElem?_eq_getElem (by omega)]; rfl
      rw [htd] at hSi
      generalize hsrc : ds[i].src = src at *
      repeat' (first | ((first | ((with_reducible refine qo (fun hg => ?_) (fun hg => ?_)) <;> (try simp only [hg]) <;> (try simp only [gS] at hg) <;> (try (first | simp only [eq_false hg, gI] | simp only [eq_true hg, gI]))) | (with_reducible first | refine qh ?_ | refine qg ?_ | refine ql ?_ | refine qk ?_) | refine qd ?_ | refine qi ?_ | refine qj ?_ | refine qm ?_) <;> (try simp (disch := first | omega | simp) [qf, -qr, -qw, hltd, hlt, hsrc])) | ((with_reducible refine sideT ?_ ?_); first | omega | assumption | (simp; done)) | (refine qe fun K hK => ?_) | (refine qa ?_) | (refine qb true (by kernel_rfl) (by kernel_rfl) ?_) | (refine qb false (by kernel_rfl) (by kernel_rfl) ?_) | (refine hK _ ?_; clear hK K) | (clear hK K; refine hK _ ?_; clear hK K) | (clear hK K; clear hK K; refine hK _ ?_; clear hK K) | refine qc ?_)
      obtain ⟨args, hargs⟩ : ∃ args, args = src.map fun j => ((s.place.getD j 0 : Nat) : Int) := ⟨_, rfl⟩
      have hal : args.length = src.length := by rw [hargs, List.length_map]
      have haj : ∀ j (h : j < src.length), args[j]'(by omega) = ((s.place[src[j]]'(by have := hse _ (List.getElem_mem h); omega) : Nat) : Int) := fun j h => by
        have := hse _ (List.getElem_mem h)
        simp only [hargs, List.getElem_map]
        rw [List.getD_eq_getElem?_getD, List.getElem?_eq_getElem (by omega)]; rfl
      rw [← hargs] at hSi
      clear hargs
      obtain ⟨Y, hY⟩ : ∃ Y : Nat → Nat → Int, Y = fun j m => (args.take j).getD m 0 := ⟨_, rfl⟩
      have Y0 : ∀ m, Y 0 m = 0 := fun m => by rw [hY]; simp
      have Y1 : ∀ j m (h : j < src.length), Y (j + 1) m = if m = j then ((s.place[src[j]]'(by have := hse _ (List.getElem_mem h); omega) : Nat) : Int) else Y j m := fun j m h => by
        rw [hY]
        dsimp only
        rw [List.take_succ_eq_append_getElem (by omega), haj j h, qct, List.length_take, Nat.min_eq_left (by omega)]
        by_cases hm : m < j
        · rw [if_pos hm, if_neg (by omega)]
        · rw [if_neg hm]
          by_cases hm2 : m = j
          · rw [if_pos hm2, if_pos hm2]
          · rw [if_neg hm2, if_neg hm2, List.getD_eq_getElem?_getD, List.getElem?_eq_none (by rw [List.length_take]; omega)]; rfl
      have Y2 : ∀ k, newI ins[i] args k = ⟨ins[i].op, k, Y src.length 0, Y src.length 1, Y src.length 2, ins[i].n, ins[i].s⟩ := fun k => by
        rw [hY]; dsimp only; rw [← hal, List.take_length]; rfl
      clear hY haj
      refine qx hcl (fun j : Nat => [(1, .ptr n0 0), (2, .ptr (n0 + 1) 0), (3, .sl (srcAv ds)), (4, .int root), (5, .own (n0 + 2) ins.length), (10, .ptr (n0 + 3) 0), (11, .own (n0 + 4) ins.length), (12, .own (n0 + 8) s.holds.length), (13, .int i), (14, .ptr (n0 + 9) 0), (15, .ptr (n0 + 10) 0), (16, .sl [.ptr (n0 + 10) 2, .ptr (n0 + 10) 3, .ptr (n0 + 10) 4]), (65, .sl (ins.map Ins.av)), (66, .int ins.length), (67, .int i), (86, .sl (natAv src)), (87, .int src.length), (88, .int j)])
        (fun j => [.cells [.sl (ins.map Ins.av), .sl (types.map AV.int), .int out] 25, .cells [.v (.slice none 0 0), .v (.slice none 0 0), .int 0] 25, .vec (natAv E) 3 1,
          .cells [.gs (n0 + 5) (s.ins.map Ins.av), .gs (n0 + 6) (s.tys.map AV.int), .int 0] 25, .vec (natAv s.place) 3 1, .tail s.ins.length 68 7, .tail s.tys.length 3 1, .dead, .vec (natAv s.holds) 3 1,
          .cells [.int ins[i].op, .int ins[i].to, .int ins[i].a, .int ins[i].b, .int ins[i].c, .int ins[i].n, .str ins[i].s] 68,
          .cells [.int ins[i].op, .int 0, .int (Y j 0), .int (Y j 1), .int (Y j 2), .int ins[i].n, .str ins[i].s] 68])
        (fun j => j ≤ src.length) (fun j => src.length - j) 0 (by omega) (by simp [Y0]) fun j hj => ?_
      by_cases hlt2 : j < src.length
      · have hs1 := hse src[j] (List.getElem_mem _)
        have hs2 : src[j] < ins.length := by omega
        have hs3 : src[j] < s.place.length := by omega
        have hj3 : j = 0 ∨ j = 1 ∨ j = 2 := by omega
        have y0 := Y1 j 0 hlt2
        have y1 := Y1 j 1 hlt2
        have y2 := Y1 j 2 hlt2
        have hrp : ∀ (τ : Nat → AB) (r o : Nat), rdAt τ false 1 (.ep (.ptr r o) 0) = some (.ptr r o) := fun _ _ _ => rfl
        rcases hj3 with rfl | rfl | rfl
        · have hq : src ≠ [] := fun e => by rw [e] at hlt2; simp at hlt2
          simp at y0 y1 y2
          repeat' (first | ((first | ((with_reducible refine qo (fun hg => ?_) (fun hg => ?_)) <;> (try simp only [hg]) <;> (try simp only [gS] at hg) <;> (try (first | simp only [eq_false hg, gI] | simp only [eq_true hg, gI]))) | (with_reducible first | refine qh ?_ | refine qg ?_ | refine ql ?_ | refine qk ?_) | refine qd ?_ | refine qi ?_ | refine qj ?_ | refine qm ?_) <;> (try simp (disch := first | omega | simp) [qf, -qr, -qw, hlt2, hq, s5, hs2, hs3, hrp])) | ((with_reducible refine sideT ?_ ?_); first | omega | assumption | (simp; done)) | (refine qe fun K hK => ?_) | (refine qa ?_) | (refine qb true (by kernel_rfl) (by kernel_rfl) ?_) | (refine qb false (by kernel_rfl) (by kernel_rfl) ?_) | (refine hK _ ?_; clear hK K) | (clear hK K; refine hK _ ?_; clear hK K) | (clear hK K; clear hK K; refine hK _ ?_; clear hK K) | refine qc ?_)
          refine ⟨1, by omega, by omega, ?_⟩
          simp [y0, y1, y2, qdc]
        · have hq : (1 : Int) < src.length := by omega
          simp at y0 y1 y2
          repeat' (first | ((first | ((with_reducible refine qo (fun hg => ?_) (fun hg => ?_)) <;> (try simp only [hg]) <;> (try simp only [gS] at hg) <;> (try (first | simp only [eq_false hg, gI] | simp only [eq_true hg, gI]))) | (with_reducible first | refine qh ?_ | refine qg ?_ | refine ql ?_ | refine qk ?_) | refine qd ?_ | refine qi ?_ | refine qj ?_ | refine qm ?_) <;> (try simp (disch := first | omega | simp) [qf, -qr, -qw, hlt2, hq, s5, hs2, hs3, hrp])) | ((with_reducible refine sideT ?_ ?_); first | omega | assumption | (simp; done)) | (refine qe fun K hK => ?_) | (refine qa ?_) | (refine qb true (by kernel_rfl) (by kernel_rfl) ?_) | (refine qb false (by kernel_rfl) (by kernel_rfl) ?_) | (refine hK _ ?_; clear hK K) | (clear hK K; refine hK _ ?_; clear hK K) | (clear hK K; clear hK K; refine hK _ ?_; clear hK K) | refine qc ?_)
          refine ⟨2, by omega, by omega, ?_⟩
          simp [y0, y1, y2, qdc]
        · have hq : (2 : Int) < src.length := by omega
          simp at y0 y1 y2
          repeat' (first | ((first | ((with_reducible refine qo (fun hg => ?_) (fun hg => ?_)) <;> (try simp only [hg]) <;> (try simp only [gS] at hg) <;> (try (first | simp only [eq_false hg, gI] | simp only [eq_true hg, gI]))) | (with_reducible first | refine qh ?_ | refine qg ?_ | refine ql ?_ | refine qk ?_) | refine qd ?_ | refine qi ?_ | refine qj ?_ | refine qm ?_) <;> (try simp (disch := first | omega | simp) [qf, -qr, -qw, hlt2, hq, s5, hs2, hs3, hrp])) | ((with_reducible refine sideT ?_ ?_); first | omega | assumption | (simp; done)) | (refine qe fun K hK => ?_) | (refine qa ?_) | (refine qb true (by kernel_rfl) (by kernel_rfl) ?_) | (refine qb false (by kernel_rfl) (by kernel_rfl) ?_) | (refine hK _ ?_; clear hK K) | (clear hK K; refine hK _ ?_; clear hK K) | (clear hK K; clear hK K; refine hK _ ?_; clear hK K) | refine qc ?_)
          refine ⟨3, by omega, by omega, ?_⟩
          simp [y0, y1, y2, qdc]
      · obtain rfl : j = src.length := by omega
        have t0 := hxto.1
        have t1 := hxto.2
        have hgE : ∀ m (h : m < ins.length), E.getD m 0 = E[m]'(by omega) := fun m h => by rw [List.getD_eq_getElem?_getD, List.getElem?_eq_getElem (by omega)]; rfl
        have hgH : ∀ m (h : m < s.holds.length), s.holds.getD m 0 = s.holds[m] := fun m h => by rw [List.getD_eq_getElem?_getD, List.getElem?_eq_getElem h]; rfl
        have hgT : ∀ m (h : m < s.tys.length), s.tys.getD m 0 = s.tys[m] := fun m h => by rw [List.getD_eq_getElem?_getD, List.getElem?_eq_getElem h]; rfl
        generalize ht : types[ins[i].to.toNat]'(by omega) = t at *
        have hsl4 : ∀ k, (∀ m, m < k → i < E.getD (s.holds.getD m 0) 0 ∨ s.tys.getD m 0 ≠ t) → k ≤ s.holds.length → (k = s.holds.length ∨ ¬ (i < E.getD (s.holds.getD k 0) 0 ∨ s.tys.getD k 0 ≠ t)) → slot E i t s.holds s.tys = k := fun k => slot_uniq s2
        generalize hsk : slot E i t s.holds s.tys = sk at *
        obtain ⟨P, hP⟩ : ∃ P : Nat → Prop, P = fun m => i < E.getD (s.holds.getD m 0) 0 ∨ s.tys.getD m 0 ≠ t := ⟨_, rfl⟩
        replace hsl4 : ∀ k, (∀ m, m < k → P m) → k ≤ s.holds.length → (k = s.holds.length ∨ ¬ P k) → sk = k := by rw [hP]; exact hsl4
        have hPk : ∀ k, P k ↔ (i < E.getD (s.holds.getD k 0) 0 ∨ s.tys.getD k 0 ≠ t) := fun k => by rw [hP]
        clear hP
        repeat' (first | ((first | ((with_reducible refine qo (fun hg => ?_) (fun hg => ?_)) <;> (try simp only [hg]) <;> (try simp only [gS] at hg) <;> (try (first | simp only [eq_false hg, gI] | simp only [eq_true hg, gI]))) | (with_reducible first | refine qh ?_ | refine qg ?_ | refine ql ?_ | refine qk ?_) | refine qd ?_ | refine qi ?_ | refine qj ?_ | refine qm ?_) <;> (try simp (disch := first | omega | simp) [qf, -qr, -qw, hlt2])) | ((with_reducible refine sideT ?_ ?_); first | omega | assumption | (simp; done)) | (refine qe fun K hK => ?_) | (refine qa ?_) | (refine qb true (by kernel_rfl) (by kernel_rfl) ?_) | (refine qb false (by kernel_rfl) (by kernel_rfl) ?_) | (refine hK _ ?_; clear hK K) | (clear hK K; refine hK _ ?_; clear hK K) | (clear hK K; clear hK K; refine hK _ ?_; clear hK K) | refine qc ?_)
        refine qx hcl (fun k : Nat => [(1, .ptr n0 0), (2, .ptr (n0 + 1) 0), (3, .sl (srcAv ds)), (4, .int root), (5, .own (n0 + 2) ins.length), (10, .ptr (n0 + 3) 0), (11, .own (n0 + 4) ins.length), (12, .own (n0 + 8) s.holds.length), (13, .int i), (14, .ptr (n0 + 9) 0), (15, .ptr (n0 + 10) 0), (19, .int k), (65, .sl (ins.map Ins.av)), (66, .int ins.length), (67, .int i)])
          (fun k => [.cells [.sl (ins.map Ins.av), .sl (types.map AV.int), .int out] 25, .cells [.v (.slice none 0 0), .v (.slice none 0 0), .int 0] 25, .vec (natAv E) 3 1,
          .cells [.gs (n0 + 5) (s.ins.map Ins.av), .gs (n0 + 6) (s.tys.map AV.int), .int 0] 25, .vec (natAv s.place) 3 1, .tail s.ins.length 68 7, .tail s.tys.length 3 1, .dead, .vec (natAv s.holds) 3 1,
          .cells [.int ins[i].op, .int ins[i].to, .int ins[i].a, .int ins[i].b, .int ins[i].c, .int ins[i].n, .str ins[i].s] 68,
            .cells [.int ins[i].op, .int 0, .int (Y src.length 0), .int (Y src.length 1), .int (Y src.length 2), .int ins[i].n, .str ins[i].s] 68])
          (fun k => k ≤ s.holds.length ∧ ∀ m, m < k → P m) (fun k => s.holds.length - k) 0 ⟨by omega, fun m hm => by omega⟩ (by simp) fun k ⟨hk, hkm⟩ => ?_
        by_cases hlk : k < s.holds.length
        · have hlk2 : k < s.tys.length := by omega
          have hh := s4 s.holds[k] (List.getElem_mem _)
          have hh2 : s.holds[k] < ins.length := by omega
          have hh3 : s.holds[k] < E.length := by omega
          have g1 := hgH k hlk
          have g2 := hgE s.holds[k] hh2
          have g3 := hgT k hlk2
          by_cases hc1 : i < E[s.holds[k]]
          · have hstep : ∀ m, m < k + 1 → P m := fun m hm => by
              by_cases hmk : m = k
              · subst hmk; exact (hPk m).2 (.inl (by rw [g1, g2]; exact hc1))
              · exact hkm m (by omega)
            repeat' (first | ((first | ((with_reducible refine qo (fun hg => ?_) (fun hg => ?_)) <;> (try simp only [hg]) <;> (try simp only [gS] at hg) <;> (try (first | simp only [eq_false hg, gI] | simp only [eq_true hg, gI]))) | (with_reducible first | refine qh ?_ | refine qg ?_ | refine ql ?_ | refine qk ?_ | refine anyF_step ?_ | refine anyF_end ?_) | refine qd ?_ | refine qi ?_ | refine qj ?_ | refine qm ?_) <;> (try simp (disch := first | omega | simp) [qf, -qr, -qw, hlk, hlk2, hh2, hh3, hc1, hEl, t0, t1, ht])) | (with_reducible refine awp_anyF (id := 32) [.cells [.sl (ins.map Ins.av), .sl (types.map AV.int), .int out] 25, .unborn, .unborn, .unborn, .unborn, .unborn, .unborn, .unborn, .unborn, .cells [.int ins[i].op, .int ins[i].to, .int ins[i].a, .int ins[i].b, .int ins[i].c, .int ins[i].n, .str ins[i].s] 68] 3 [.R, .R, .R, .A, .N, .N, .R, .R, .R, .R, .R, .R, .R, .A, .R, .N, .W] (by kernel_rfl) (by kernel_rfl) (by simp) ?_) | ((with_reducible refine sideT ?_ ?_); first | omega | assumption | (simp; done)) | (refine qe fun K hK => ?_) | (refine qa ?_) | (refine qb true (by kernel_rfl) (by kernel_rfl) ?_) | (refine qb false (by kernel_rfl) (by kernel_rfl) ?_) | (refine hK _ ?_; clear hK K) | (clear hK K; refine hK _ ?_; clear hK K) | (clear hK K; clear hK K; refine hK _ ?_; clear hK K) | refine qc ?_)
            exact ⟨k + 1, ⟨by omega, hstep⟩, by omega, by omega⟩
          · by_cases hc2 : s.tys[k] = t
            · have hskk : sk = k := hsl4 k hkm hk (.inr fun hp => by
                rcases (hPk k).1 hp with hp | hp
                · rw [g1, g2] at hp; exact hc1 hp
                · rw [g3] at hp; exact hp hc2)
              rw [hskk, if_neg (by omega), if_neg (by omega)] at hSi
              have hkn : ¬ (k : Int) = s.holds.length := by omega
              have hkn2 : ¬ k = s.holds.length := by omega
              have hip : i < s.place.length := by omega
              have hz1 : (s.holds.length + 1) * 8 ≤ 140737488355328 := by omega
              have hz2 : (s.tys.length + 1) * 8 ≤ 140737488355328 := by omega
              have hz3 : (s.ins.length + 1) * 56 ≤ 140737488355328 := by omega
              repeat' (first | ((first | ((with_reducible refine qo (fun hg => ?_) (fun hg => ?_)) <;> (try simp only [hg]) <;> (try simp only [gS] at hg) <;> (try (first | simp only [eq_false hg, gI] | simp only [eq_true hg, gI]))) | (with_reducible first | refine qh ?_ | refine qg ?_ | refine ql ?_ | refine qk ?_ | refine anyF_step ?_ | refine anyF_end ?_) | refine qd ?_ | refine qi ?_ | refine qj ?_ | refine qm ?_) <;> (try simp (disch := first | omega | simp) [qf, -qr, -qw, hlk, hlk2, hh2, hh3, hc1, hc2, hEl, t0, t1, ht, hkn, hkn2, s5, hlt, hip, hz1, hz2, hz3])) | (with_reducible refine awp_anyF (id := 32) [.cells [.sl (ins.map Ins.av), .sl (types.map AV.int), .int out] 25, .unborn, .unborn, .unborn, .unborn, .unborn, .unborn, .unborn, .unborn, .cells [.int ins[i].op, .int ins[i].to, .int ins[i].a, .int ins[i].b, .int ins[i].c, .int ins[i].n, .str ins[i].s] 68] 3 [.R, .R, .R, .A, .N, .N, .R, .R, .R, .R, .R, .R, .R, .A, .R, .N, .W] (by kernel_rfl) (by kernel_rfl) (by simp) ?_) | ((with_reducible refine sideT ?_ ?_); first | omega | assumption | (simp; done)) | (refine qe fun K hK => ?_) | (refine qa ?_) | (refine qb true (by kernel_rfl) (by kernel_rfl) ?_) | (refine qb false (by kernel_rfl) (by kernel_rfl) ?_) | (refine hK _ ?_; clear hK K) | (clear hK K; refine hK _ ?_; clear hK K) | (clear hK K; clear hK K; refine hK _ ?_; clear hK K) | refine qc ?_)
              all_goals first | exact absurd hc2 (by assumption) | exact absurd (by assumption) hkn | exact absurd (by assumption) hkn2 | skip
              refine ⟨i + 1, ⟨s.ins ++ [newI ins[i] args k], s.holds.set k i, s.tys, s.place.set i k⟩, ⟨by omega, hSi, by simp [s1], by simp [s2], by simp; omega, fun q hq => ?_, by simp [s5]⟩, by omega, ?_⟩
              · rcases List.mem_or_eq_of_mem_set hq with hq | rfl
                · have := s4 q hq; omega
                · omega
              · simp [Y2, Ins.av, -Ins.av_fold, qdc]
            · have hstep : ∀ m, m < k + 1 → P m := fun m hm => by
                by_cases hmk : m = k
                · subst hmk; exact (hPk m).2 (.inr (by rw [g3]; exact hc2))
                · exact hkm m (by omega)
              repeat' (first | ((first | ((with_reducible refine qo (fun hg => ?_) (fun hg => ?_)) <;> (try simp only [hg]) <;> (try simp only [gS] at hg) <;> (try (first | simp only [eq_false hg, gI] | simp only [eq_true hg, gI]))) | (with_reducible first | refine qh ?_ | refine qg ?_ | refine ql ?_ | refine qk ?_ | refine anyF_step ?_ | refine anyF_end ?_) | refine qd ?_ | refine qi ?_ | refine qj ?_ | refine qm ?_) <;> (try simp (disch := first | omega | simp) [qf, -qr, -qw, hlk, hlk2, hh2, hh3, hc1, hc2, hEl, t0, t1, ht])) | (with_reducible refine awp_anyF (id := 32) [.cells [.sl (ins.map Ins.av), .sl (types.map AV.int), .int out] 25, .unborn, .unborn, .unborn, .unborn, .unborn, .unborn, .unborn, .unborn, .cells [.int ins[i].op, .int ins[i].to, .int ins[i].a, .int ins[i].b, .int ins[i].c, .int ins[i].n, .str ins[i].s] 68] 3 [.R, .R, .R, .A, .N, .N, .R, .R, .R, .R, .R, .R, .R, .A, .R, .N, .W] (by kernel_rfl) (by kernel_rfl) (by simp) ?_) | ((with_reducible refine sideT ?_ ?_); first | omega | assumption | (simp; done)) | (refine qe fun K hK => ?_) | (refine qa ?_) | (refine qb true (by kernel_rfl) (by kernel_rfl) ?_) | (refine qb false (by kernel_rfl) (by kernel_rfl) ?_) | (refine hK _ ?_; clear hK K) | (clear hK K; refine hK _ ?_; clear hK K) | (clear hK K; clear hK K; refine hK _ ?_; clear hK K) | refine qc ?_)
              all_goals first | exact absurd (by assumption) hc2 | exact ⟨k + 1, ⟨by omega, hstep⟩, by omega, by omega⟩
        · obtain rfl : k = s.holds.length := by omega
          have hskk : sk = s.holds.length := hsl4 _ hkm hk (.inl rfl)
          rw [hskk, if_pos rfl, if_pos rfl] at hSi
          have hip : i < s.place.length := by omega
          have hz1 : (s.holds.length + 1) * 8 ≤ 140737488355328 := by omega
          have hz2 : (s.tys.length + 1) * 8 ≤ 140737488355328 := by omega
          have hz3 : (s.ins.length + 1) * 56 ≤ 140737488355328 := by omega
          repeat' (first | ((first | ((with_reducible refine qo (fun hg => ?_) (fun hg => ?_)) <;> (try simp only [hg]) <;> (try simp only [gS] at hg) <;> (try (first | simp only [eq_false hg, gI] | simp only [eq_true hg, gI]))) | (with_reducible first | refine qh ?_ | refine qg ?_ | refine ql ?_ | refine qk ?_ | refine anyF_step ?_ | refine anyF_end ?_) | refine qd ?_ | refine qi ?_ | refine qj ?_ | refine qm ?_) <;> (try simp (disch := first | omega | simp) [qf, -qr, -qw, hlk, hEl, t0, t1, ht, s5, hlt, hip, hz1, hz2, hz3])) | (with_reducible refine awp_anyF (id := 32) [.cells [.sl (ins.map Ins.av), .sl (types.map AV.int), .int out] 25, .unborn, .unborn, .unborn, .unborn, .unborn, .unborn, .unborn, .unborn, .cells [.int ins[i].op, .int ins[i].to, .int ins[i].a, .int ins[i].b, .int ins[i].c, .int ins[i].n, .str ins[i].s] 68] 3 [.R, .R, .R, .A, .N, .N, .R, .R, .R, .R, .R, .R, .R, .A, .R, .N, .W] (by kernel_rfl) (by kernel_rfl) (by simp) ?_) | ((with_reducible refine sideT ?_ ?_); first | omega | assumption | (simp; done)) | (refine qe fun K hK => ?_) | (refine qa ?_) | (refine qb true (by kernel_rfl) (by kernel_rfl) ?_) | (refine qb false (by kernel_rfl) (by kernel_rfl) ?_) | (refine hK _ ?_; clear hK K) | (clear hK K; refine hK _ ?_; clear hK K) | (clear hK K; clear hK K; refine hK _ ?_; clear hK K) | refine qc ?_)
          refine ⟨i + 1, ⟨s.ins ++ [newI ins[i] args s.holds.length], s.holds ++ [i], s.tys ++ [t], s.place.set i s.holds.length⟩, ⟨by omega, hSi, by simp [s1], by simp [s2], by simp; omega, fun q hq => ?_, by simp [s5]⟩, by omega, ?_⟩
          · rcases List.mem_append.1 hq with hq | hq
            · have := s4 q hq; omega
            · rw [List.mem_singleton] at hq; omega
          · simp [Y2, Ins.av, -Ins.av_fold, qdc, natAv_snoc]
    · obtain rfl : i = ins.length := by omega
      rw [List.drop_of_length_le (by omega), compI] at hSi
      subst hSi
      have hrp : root < S.place.length := by omega
      have hgp : S.place.getD root 0 = S.place[root] := by rw [List.getD_eq_getElem?_getD, List.getElem?_eq_getElem hrp]; rfl
      rw [hgp] at hR2
      repeat' (first | ((first | ((with_reducible refine qo (fun hg => ?_) (fun hg => ?_)) <;> (try simp only [hg]) <;> (try simp only [gS] at hg) <;> (try (first | simp only [eq_false hg, gI] | simp only [eq_true hg, gI]))) | (with_reducible first | refine qh ?_ | refine qg ?_ | refine ql ?_ | refine qk ?_) | refine qd ?_ | refine qi ?_ | refine qj ?_ | refine qm ?_) <;> (try simp (disch := first | omega | simp) [qf, -qr, -qw, hlt, s5, hro, hrp])) | ((with_reducible refine sideT ?_ ?_); first | omega | assumption | (simp; done)) | (refine qe fun K hK => ?_) | (refine qa ?_) | (refine qb true (by kernel_rfl) (by kernel_rfl) ?_) | (refine qb false (by kernel_rfl) (by kernel_rfl) ?_) | (refine hK _ ?_; clear hK K) | (clear hK K; refine hK _ ?_; clear hK K) | (clear hK K; clear hK K; refine hK _ ?_; clear hK K) | refine qc ?_)
      rw [hR2]; rfl
end Go.Proofs.YtnkakofcejkhiaaDoor
