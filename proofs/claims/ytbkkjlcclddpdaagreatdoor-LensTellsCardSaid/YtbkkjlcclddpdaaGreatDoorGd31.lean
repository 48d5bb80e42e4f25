/- Walk of lens.Forward. -/
import Derived.Test.YtbkkjlcclddpdaaGreatDoorGd12
import Derived.Test.YtbkkjlcclddpdaaGreatDoorGd30
set_option linter.unusedSimpArgs false
set_option linter.unusedVariables false
namespace Go.Proofs.YtbkkjlcclddpdaaGreatDoor
open Go.RowKit Go.Lib
set_option maxHeartbeats 4000000 in
theorem forward_g {l : List Lens} {cols : List Col} {ss : List (List Col)} {row : List Val} (hs : qbe l cols = (ss, 0)) (hl : ∀ x ∈ l, qdv x) (h0 : 1 ≤ cols.length) (h1 : cols.length ≤ 12) (hr : qbv row) (hlen : row.length = cols.length) (R : List Val) (hR : qfg l ss row = R) :
    Gives Tryz.prog 25 [.sl (l.map Lens.av), .sl (cols.map Col.av), .sl (row.map Val.av)] (.sl (R.map Val.av)) := by
  have hL : l.length ≤ 60 := by
    unfold qbe at hs
    by_cases h : 60 < l.length
    · rw [if_pos h] at hs; exact absurd (Prod.mk.inj hs).2 (by decide)
    · omega
  have hs' : qn l cols = (ss, 0) := by rw [qbe, if_neg (by omega)] at hs; exact hs
  obtain ⟨hc, hc0⟩ := chain_of hs' h0 h1
  have hk := fwdK_ok hc hl hr (by rw [hc0]; exact hlen)
  have c1 := shapes_g l cols (fun x hx => (hl x hx).l) (by omega) h0 h1
  rw [hs] at c1
  have c2 := cloR row (by omega) (by omega)
  have hsl := hc.len
  refine qh Tryz.func25 Tryz.ntmps25 fun σ n0 hcl hft => ?_
  repeat' (first | ((first | ((with_reducible refine qf (fun hg => ?_) (fun hg => ?_)) <;> (try simp only [hg]) <;> (try simp only [gS] at hg) <;> (try (first | simp only [eq_false hg, gI] | simp only [eq_true hg, gI]))) | refine Stp.m ?_ | refine qi ?_ | refine agH ?_) <;> (try simp (disch := first | omega | simp) [qd, -qg, -ql])) | refine sideA ?_ | refine qc fun K hK => ?_ | refine qa ?_ | refine qe ?_ | refine qb ?_ | (refine hK _ ?_; clear hK K) | clear hK K)
  refine qt hcl (fun k : Nat => [(7, .sl (ss.map qdc)), (9, .sl ((fwdK l ss row k).map Val.av)), (20, .sl (l.map Lens.av)), (21, .int l.length), (22, .int k)]) (fun k => [])
    (fun k => k ≤ l.length) (fun k => l.length - k) 0 (by omega) (by simp [fwdK, qfg]) fun k hkl => ?_
  by_cases hlt : k < l.length
  · obtain ⟨g1, g2⟩ := hk k hkl
    obtain ⟨g3, g4⟩ := hc.ok k hlt
    have hks : k < ss.length := by omega
    obtain ⟨g5, g6⟩ := hc.sz k hkl
    have c3 := fwd_g (hl _ (List.getElem_mem hlt)) g5 g6 g3 g1 g2
    rw [← fwdK_succ hlt, shAt_eq hks] at c3
    repeat' (first | ((first | ((with_reducible refine qf (fun hg => ?_) (fun hg => ?_)) <;> (try simp only [hg]) <;> (try simp only [gS] at hg) <;> (try (first | simp only [eq_false hg, gI] | simp only [eq_true hg, gI]))) | refine Stp.m ?_ | refine qi ?_ | refine agH ?_) <;> (try simp (disch := first | omega | simp) [qd, -qg, -ql, hlt, hks, qdc])) | refine sideA ?_ | refine qc fun K hK => ?_ | refine qa ?_ | refine qe ?_ | refine qb ?_ | (refine hK _ ?_; clear hK K) | clear hK K)
    exact ⟨k + 1, by omega, by omega, by simp⟩
  · obtain rfl : k = l.length := by omega
    repeat' (first | ((first | ((with_reducible refine qf (fun hg => ?_) (fun hg => ?_)) <;> (try simp only [hg]) <;> (try simp only [gS] at hg) <;> (try (first | simp only [eq_false hg, gI] | simp only [eq_true hg, gI]))) | refine Stp.m ?_) <;> (try simp (disch := first | omega | simp) [qd, -qg, -ql, hlt])) | refine sideA ?_ | refine qc fun K hK => ?_ | refine qa ?_ | refine qe ?_ | refine qb ?_ | (refine hK _ ?_; clear hK K) | clear hK K)
    rw [fwdK_all, hR]
end Go.Proofs.YtbkkjlcclddpdaaGreatDoor

/- Values of array types: built, and looked into; regions that draw their order (as anyF). -/
namespace Go.Proofs.YtbkkjlcclddpdaaGreatDoor
open Go.RowKit Go.Lib
def ainfo (P : Program) (t : TypeId) : Option (Nat × Nat × List AV) :=
  match P.underlying t with
  | some (.array n e) => match P.info? e, zl P t with
    | some i, some cs => some (n, i.size, cs)
    | _, _ => none
  | _ => none
theorem ainfo_spec {P : Program} {t : TypeId} {n sz : Nat} {cs : List AV} (h : ainfo P t = some (n, sz, cs)) : ∃ e i, P.underlying t = some (.array n e) ∧ P.info? e = some i ∧ i.size = sz ∧ zl P t = some cs := by
  unfold ainfo at h
  split at h
  · rename_i n' e hu
    split at h
    · rename_i i cs' hi hz; cases h; exact ⟨e, i, hu, hi, rfl, hz⟩
    · cases h
  · cases h
theorem fill_congr {p1 p2 : Nat → Option (Nat × Nat)} : ∀ {l : List (Nat × Value)} {cells : Array Value} {c : Array Value}, (∀ q ∈ l, p1 q.1 ≠ none → p2 q.1 = p1 q.1) → Instr.fill p1 cells l = some c → Instr.fill p2 cells l = some c
  | [], _, _, _, h => h
  | (i, v) :: l, cells, c, hp, h => by
    rw [Instr.fill] at h ⊢
    cases h1 : p1 i with
    | none => rw [h1] at h; cases h
    | some q =>
      have h2 := hp (i, v) (by simp) (by simp [h1])
      simp only at h2
      rw [h2, h1]
      rw [h1] at h
      dsimp only at h ⊢
      split at h
      · cases h
      · rename_i hn; rw [if_neg hn]; exact fill_congr (fun q hq => hp q (by simp [hq])) h
section
variable {P : Program} {ev : Operand → AV} {σ : Nat → AB}
theorem fop_buildA {t : TypeId} {ps : List (Nat × Operand)} {n sz : Nat} {cs out : List AV} (ht : ainfo P t = some (n, sz, cs)) (hb : bld ((List.range n).map fun i => (i * sz, sz)) (ps.map fun p => (p.1, ev p.2)) cs = some out) :
    FOp P ev σ (.build t ps.toArray) (.agg out) none := FOp.of fun X a oper hop hS hsub hev => by
  obtain ⟨e, i, hu, hi, rfl, hz⟩ := ainfo_spec ht
  obtain ⟨z, hzi, h1, rfl⟩ := zl_spec hz
  obtain ⟨c, h2, h3⟩ := bld_run (X := X) (vs := ps.map fun p => (p.1, a.eval p.2)) (cells := z.cells) (by simp) (fun j p q hj hq => by
    rw [List.getElem?_map] at hj hq
    cases hp : ps[j]? with
    | none => rw [hp] at hj; cases hj
    | some p0 =>
      rw [hp] at hj hq
      cases hj; cases hq
      exact hev _ (by simp [Op.operands]; exact ⟨_, List.mem_of_getElem? hp⟩)) (zcells h1) hb
  refine ⟨.agg c, ?_, c.toList, rfl, h3⟩
  have h4 : Instr.fill (fun k => some (k * i.size, i.size)) z.cells (ps.map fun p => (p.1, a.eval p.2)) = some c := by
    refine fill_congr (fun q _ hq => ?_) h2
    by_cases hlt : q.1 < n
    · simp [hlt]
    · exfalso; apply hq; simp; omega
  unfold zinfo at hzi
  cases hti : P.info? t with
  | none => rw [hti] at hzi; cases hzi
  | some ti =>
    rw [hti] at hzi
    have hz' : ti.zero = some z := hzi
    simp [execOp, hop, Instr.build, zeroValue, typeInfo, hti, hz', underlying, hu, sizeOf, hi, h4]
theorem fop_indexV {t e : TypeId} {x y : Operand} {n sz : Nat} {l : List AV} {ik : IntKind} {k : Int} {ag : Bool} {z : AV} (hu : P.underlying t = some (.array n e)) (ht : tinfo P e = some (ag, sz)) (hx : ev x = .agg l) (hy : ev y = .v (.int ik k)) (h0 : 0 ≤ k) (h1 : k < n) (hz : qdl ag sz l (k.toNat * sz) = some z) :
    FOp P ev σ (.index t x y) z none := FOp.of fun X a oper ho hS hsub hev => by
  have h := hev x (by simp [Op.operands])
  have hy2 := hev y (by simp [Op.operands])
  rw [hx] at h; rw [hy, RR.v] at hy2
  obtain ⟨vs, hv, hr⟩ := h
  obtain ⟨h3, h4⟩ := qca ht X.w
  unfold qdl at hz
  cases ag with
  | true =>
    rw [if_pos rfl] at hz
    split at hz
    · cases hz
      refine ⟨.agg ((vs.drop (k.toNat * sz)).take sz).toArray, ?_, ?_⟩
      · simp [execOp, ho, hv, hy2, Instr.index, asIntOf, underlying, hu, h0, h1, part, h3, h4]
      · exact ⟨_, rfl, (hr.drop _).take sz⟩
    · cases hz
  | false =>
    rw [if_neg (by simp)] at hz
    obtain ⟨v, hv2, h5, hrv⟩ := hr.get hz
    refine ⟨v, ?_, RR.of_one h5 hrv⟩
    simp [execOp, ho, hv, hy2, Instr.index, asIntOf, underlying, hu, h0, h1, part, h3, h4, hv2]
end
def aevFV (P : Program) (s : AS) (o : Op) (K : AV → Option AB → Prop) : Prop :=
  match o with
  | .build t ⟨ps⟩ => match ainfo P t with
    | some (n, sz, cs) => match bld ((List.range n).map fun i => (i * sz, sz)) (ps.map fun p => (p.1, s.eval p.2)) cs with
      | some out => K (.agg out) none
      | none => False
    | none => aevF P s (.build t ⟨ps⟩) K
  | .index t x y => match P.underlying t with
    | some (.array n e) => match tinfo P e, s.eval x, s.eval y with
      | some (ag, sz), .agg l, .v (.int _ k) => 0 ≤ k ∧ k < n ∧ (match qdl ag sz l (k.toNat * sz) with
        | some z => K z none
        | none => False)
      | _, _, _ => False
    | _ => aevF P s (.index t x y) K
  | o => aevF P s o K
theorem aevFV_sound {P : Program} {s : AS} {o : Op} {K : AV → Option AB → Prop} (h : aevFV P s o K) : ∃ x nb, FOp P s.eval s.st o x (nb.map (s.nx, ·)) ∧ K x nb := by
  unfold aevFV at h
  split at h
  · split at h
    · split at h
      · exact ⟨_, none, fop_buildA ‹_› ‹_›, h⟩
      · exact h.elim
    · exact qcd h
  · split at h
    · split at h
      · obtain ⟨h1, h2, h⟩ := h
        split at h
        · exact ⟨_, none, fop_indexV ‹_› ‹_› ‹_› ‹_› h1 h2 ‹_›, h⟩
        · exact h.elim
      · exact h.elim
    · exact qcd h
  · exact qcd h
attribute [simp] aevFV
section
variable {P : Program}
def anyV (P : Program) (ops : Array Oper) (m : List AB) (j : Nat) (K : AS → Prop) : List Oper → List RK → AS → Prop
  | [], _, s => K s
  | o :: l, ks, s => match awant ops o s.t with
    | some b => qcb b (match ks.headD .R with
      | .R => aevFV P (s.seen m) o.op (fun x nb => nb = none ∧ dstOk o.dst s.n ∧ anyV P ops m j K l ks.tail (s.put o.dst x))
      | .N => aevF P (s.eyeO j) o.op (fun x nb => nb = none ∧ dstOk o.dst s.n ∧ anyV P ops m j K l ks.tail (s.put o.dst x))
      | .M => aevM4 P s o.op (fun x nb => j < s.L.length ∧ dstOk o.dst s.n ∧ anyV P ops m j K l ks.tail ((s.ext nb).put o.dst x))
      | .A => aevW4 P s o.op (fun x s1 => s1.L.getD j .unborn = s.L.getD j .unborn ∧ dstOk o.dst s.n ∧ qco m s1.L ∧ s1.σ = s.σ ∧ anyV P ops m j K l ks.tail (s1.put o.dst x))
      | .W => aevW4 P s o.op (fun x s1 => dstOk o.dst s.n ∧ qco m s1.L ∧ s1.σ = s.σ ∧ anyV P ops m j K l ks.tail (s1.put o.dst x))) (dstOk o.dst s.n ∧ anyV P ops m j K l ks.tail (s.put o.dst (.v undef)))
    | none => False
theorem anyV_steps {ops : Array Oper} {m : List AB} {j : Nat} {σ0 : Nat → AB} {n0 : Nat} {K : AS → Prop} : ∀ (l : List Oper) (ks : List RK) (s : AS), s.n0 = n0 → s.σ = σ0 → (∀ r, loc σ0 n0 m r ≠ .unborn → s.st r = loc σ0 n0 m r) → anyV P ops m j K l ks s →
    ∃ st s1 xs bs nbs, AnyRaw4 P ops l ks st s1 xs bs nbs (loc σ0 n0 m) (n0 + j) ∧ st 0 = s ∧ K (st l.length)
  | [], ks, s, hn0, hs0, hke, h => by
    refine ⟨fun _ => s, fun _ => s, fun _ => .any, fun _ => true, fun _ => none, ⟨fun r hr j _ => hke r hr, fun _ hi => absurd hi (Nat.not_lt_zero _), ?_, ?_, ?_, ?_, ?_, ?_, ?_, ?_, ?_⟩, rfl, h⟩ <;> (intro i o ho; simp at ho)
  | o :: l, ks, s, hn0, hs0, hke, h => by
    have key : ∀ (x : AV) (b : Bool) (nb : Option AB) (s1 : AS), awant ops o s.t = some b → dstOk o.dst s.n → (s1.t = s.t ∧ s1.n = s.n ∧ s1.n0 = s.n0) → s1.σ = s.σ → (ks.headD .R ≠ .W → s1.st (n0 + j) = s.st (n0 + j)) → (b = false → x = .v undef ∧ s1 = s ∧ nb = none) →
        (b = true → ks.headD .R = .R → FOp2 P s.eval (loc σ0 n0 m) o.op x none ∧ s1 = s ∧ nb = none) → (b = true → ks.headD .R = .N → FOp2 P s.eval (only (n0 + j) s.st) o.op x none ∧ s1 = s ∧ nb = none) → (b = true → ks.headD .R = .M → FOp2 P s.eval s.st o.op x (nb.map (s.nx, ·)) ∧ s1 = s.ext nb) →
        (b = true → (ks.headD .R).base = .W → WOp P s.eval s.st o.op x s1.st ∧ nb = none) → (∀ r, loc σ0 n0 m r ≠ .unborn → s1.st r = loc σ0 n0 m r) → anyV P ops m j K l ks.tail (s1.put o.dst x) →
        ∃ st s1 xs bs nbs, AnyRaw4 P ops (o :: l) ks st s1 xs bs nbs (loc σ0 n0 m) (n0 + j) ∧ st 0 = s ∧ K (st (o :: l).length) := by
      intro x b nb s1 hw hd hsame hss heye hskip hR hN hM hW hke1 hrest
      have hput : (s1.put o.dst x).σ = s1.σ := by cases o.dst <;> rfl
      obtain ⟨st, s1', xs, bs, nbs, hs, h0, hK⟩ := anyV_steps (n0 := n0) (σ0 := σ0) l ks.tail _ (by rw [(qds s1 o.dst x).2.2.2, hsame.2.2]; exact hn0) (by rw [hput, hss]; exact hs0) (fun r hr => by rw [(qds s1 o.dst x).1]; exact hke1 r hr) hrest
      have hks : ∀ i, ks.getD (i + 1) .R = ks.tail.getD i .R := fun i => by cases ks <;> simp
      have hk0 : ks.getD 0 .R = ks.headD .R := by cases ks <;> simp
      refine ⟨fun i => match i with | 0 => s | i + 1 => st i, fun i => match i with | 0 => s1 | i + 1 => s1' i, fun i => match i with | 0 => x | i + 1 => xs i, fun i => match i with | 0 => b | i + 1 => bs i, fun i => match i with | 0 => nb | i + 1 => nbs i, ⟨fun r hr j hj => (match j with | 0 => hke r hr | j + 1 => hs.kept r hr j (by simpa using hj)), fun i hi hk => ?_, ?_, ?_, ?_, ?_, ?_, ?_, ?_, ?_, ?_⟩, rfl, hK⟩
      · cases i with
        | zero => rw [hk0] at hk; show (st 0).st _ = s.st _; rw [h0, (qds s1 o.dst x).1]; exact heye hk
        | succ i => rw [hks] at hk; exact hs.eye i (by simpa using hi) hk
      all_goals (intro i o' ho; cases i)
      · simp at ho; subst ho; exact hw
      · exact hs.want _ o' (by simpa using ho)
      · simp at ho; subst ho; exact hd
      · exact hs.dst _ o' (by simpa using ho)
      · simp at ho; subst ho; exact h0
      · exact hs.next _ o' (by simpa using ho)
      · simp at ho; subst ho; exact hsame
      · exact hs.same _ o' (by simpa using ho)
      · simp at ho; subst ho; exact hskip
      · exact hs.skip _ o' (by simpa using ho)
      · simp at ho; subst ho; rw [hk0]; exact hR
      · rw [hks]; exact hs.opR _ o' (by simpa using ho)
      · simp at ho; subst ho; rw [hk0]; exact hN
      · rw [hks]; exact hs.opN _ o' (by simpa using ho)
      · simp at ho; subst ho; rw [hk0]; exact hM
      · rw [hks]; exact hs.opM _ o' (by simpa using ho)
      · simp at ho; subst ho; rw [hk0]; exact hW
      · rw [hks]; exact hs.opW _ o' (by simpa using ho)
    rw [anyV] at h
    split at h
    · rename_i bb hw
      cases bb with
      | true =>
        replace h := h.1 rfl
        split at h
        · rename_i hk
          obtain ⟨x, nb, h1, rfl, h2, h3⟩ := aevFV_sound h
          have e : (s.seen m).st = loc σ0 n0 m := by show loc s.σ s.n0 m = _; rw [hs0, hn0]
          rw [e] at h1
          exact key x true none s hw h2 ⟨rfl, rfl, rfl⟩ rfl (fun _ => rfl) (fun e => by cases e) (fun _ _ => ⟨h1.two, rfl, rfl⟩) (fun _ e => by rw [hk] at e; cases e) (fun _ e => by rw [hk] at e; cases e) (fun _ e => by rw [hk] at e; cases e) hke h3
        · rename_i hk
          obtain ⟨x, nb, h1, rfl, h2, h3⟩ := qcd h
          rw [eyeO_st, hn0] at h1
          exact key x true none s hw h2 ⟨rfl, rfl, rfl⟩ rfl (fun _ => rfl) (fun e => by cases e) (fun _ e => by rw [hk] at e; cases e) (fun _ _ => ⟨h1.two, rfl, rfl⟩) (fun _ e => by rw [hk] at e; cases e) (fun _ e => by rw [hk] at e; cases e) hke h3
        · rename_i hk
          obtain ⟨x, nb, h1, hj, h2, h3⟩ := aevM4_sound h
          refine key x true nb (s.ext nb) hw h2 (by cases nb <;> exact ⟨rfl, rfl, rfl⟩) (by cases nb <;> rfl) (fun _ => ?_) (fun e => by cases e) (fun _ e => by rw [hk] at e; cases e) (fun _ e => by rw [hk] at e; cases e) (fun _ _ => ⟨h1, rfl⟩) (fun _ e => by rw [hk] at e; cases e) (ext_keeps hke nb) h3
          cases nb with
          | none => rfl
          | some ab =>
            rw [(qeo s ab).1]
            have : n0 + j ≠ s.nx := by unfold AS.nx; omega
            unfold upd; rw [if_neg this]
        · rename_i hk
          obtain ⟨x, s1, h1, h2, h7, h3, h5, h6, h4⟩ := qga h
          exact key x true none s1 hw h3 h2 h6 (fun _ => by rw [st_own (h2.2.2.trans hn0), st_own hn0]; exact h7) (fun e => by cases e) (fun _ e => by rw [hk] at e; cases e) (fun _ e => by rw [hk] at e; cases e) (fun _ e => by rw [hk] at e; cases e) (fun _ _ => ⟨h1, rfl⟩) (kept_e (h6.trans hs0) (h2.2.2.trans hn0) h5) h4
        · rename_i hk
          obtain ⟨x, s1, h1, h2, h3, h5, h6, h4⟩ := qga h
          exact key x true none s1 hw h3 h2 h6 (fun e => absurd hk e) (fun e => by cases e) (fun _ e => by rw [hk] at e; cases e) (fun _ e => by rw [hk] at e; cases e) (fun _ e => by rw [hk] at e; cases e) (fun _ _ => ⟨h1, rfl⟩) (kept_e (h6.trans hs0) (h2.2.2.trans hn0) h5) h4
      | false =>
        replace h := h.2 rfl
        exact key (.v undef) false none s hw h.1 ⟨rfl, rfl, rfl⟩ rfl (fun _ => rfl) (fun _ => ⟨rfl, rfl, rfl⟩) (fun e => by cases e) (fun e => by cases e) (fun e => by cases e) (fun e => by cases e) hke h.2
    · exact h.elim
theorem awp_anyV {s : AS} {id : Nat} {l : List Oper} {Q : Exit → AS → Prop} (m : List AB) (j : Nat) (ks : List RK) (hm : P.follows .mixedOrders = true) (hB : anyB l ks = true) (h0 : qco m s.L) (h : anyV P l.toArray m j (Q .normal) l ks s) : awp P (.region id l.toArray true) Q s := by
  obtain ⟨st, s1, xs, bs, nbs, hs, rfl, hK⟩ := anyV_steps l ks s rfl rfl (kept_e rfl rfl h0) h
  exact awp_any hm (anyB_ok hB) (raw_steps4 hB hs) hK
end
instance {P : Program} {ops : Array Oper} {m : List AB} {j : Nat} {K : AS → Prop} {o : Oper} {l : List Oper} {ks : List RK} {s : AS} : Stp (anyV P ops m j K (o :: l) ks s) (match awant ops o s.t with
    | some b => qcb b (match ks.headD .R with
      | .R => aevFV P (s.seen m) o.op (fun x nb => nb = none ∧ dstOk o.dst s.n ∧ anyV P ops m j K l ks.tail (s.put o.dst x))
      | .N => aevF P (s.eyeO j) o.op (fun x nb => nb = none ∧ dstOk o.dst s.n ∧ anyV P ops m j K l ks.tail (s.put o.dst x))
      | .M => aevM4 P s o.op (fun x nb => j < s.L.length ∧ dstOk o.dst s.n ∧ anyV P ops m j K l ks.tail ((s.ext nb).put o.dst x))
      | .A => aevW4 P s o.op (fun x s1 => s1.L.getD j .unborn = s.L.getD j .unborn ∧ dstOk o.dst s.n ∧ qco m s1.L ∧ s1.σ = s.σ ∧ anyV P ops m j K l ks.tail (s1.put o.dst x))
      | .W => aevW4 P s o.op (fun x s1 => dstOk o.dst s.n ∧ qco m s1.L ∧ s1.σ = s.σ ∧ anyV P ops m j K l ks.tail (s1.put o.dst x))) (dstOk o.dst s.n ∧ anyV P ops m j K l ks.tail (s.put o.dst (.v undef)))
    | none => False) := ⟨fun h => h⟩
instance {P : Program} {ops : Array Oper} {m : List AB} {j : Nat} {K : AS → Prop} {ks : List RK} {s : AS} : Stp (anyV P ops m j K [] ks s) (K s) := ⟨fun h => h⟩
instance {P : Program} {ops : Array Oper} {m : List AB} {j : Nat} {K : AS → Prop} {l : List Oper} {ks : List RK} {s : AS} : Inhabited (Tag (anyV P ops m j K l ks s)) := ⟨⟨⟩⟩
end Go.Proofs.YtbkkjlcclddpdaaGreatDoor

/- Walk of lens.changed. -/
namespace Go.Proofs.YtbkkjlcclddpdaaGreatDoor
open Go.RowKit Go.Lib
theorem qbk (L : List Col) : (qp L).length = L.length := by unfold qp; simp
theorem qeu (L : List Col) (hL : L.length ≤ 1000000) : GivesV Tryz.prog 115 [.sl (L.map Col.av)] L.length (.vec ((qp L).map Val.av) 27 3) := by
  have hlen : ((qp L).map Val.av).length = L.length := by rw [List.length_map, qbk]
  have key : GivesV Tryz.prog 115 [.sl (L.map Col.av)] ((qp L).map Val.av).length (.vec ((qp L).map Val.av) 27 3) := by
    refine qeq 0 Tryz.func115 Tryz.ntmps115 rfl rfl (by decide) rfl (fun m => Val.avs_cl _ m) fun σ n0 hcl hft => ?_
    rw [hlen]
    unfold qp
    rw [List.map_map]
    repeat' (first | ((first | ((with_reducible refine qf (fun hg => ?_) (fun hg => ?_)) <;> (try simp only [hg]) <;> (try simp only [gS] at hg) <;> (try (first | simp only [eq_false hg, gI] | simp only [eq_true hg, gI]))) | refine Stp.m ?_) <;> (try simp (disch := first | omega | simp) [qd, -qg, -ql])) | refine sideA ?_ | refine qc fun K hK => ?_ | refine qa ?_ | refine qe ?_ | refine qb ?_ | (refine hK _ ?_; clear hK K) | clear hK K)
    refine qt hcl (fun k : Nat => [(3, .own n0 L.length), (9, .sl (L.map Col.av)), (10, .int L.length), (11, .int k)]) (fun k => [.vec (fillV (Val.av ∘ zeroV) (.agg [.int 0, .int 0, .str ByteArray.empty]) L k) 27 3])
      (fun k => k ≤ L.length) (fun k => L.length - k) 0 (by simp) (by simp [fillV_zero]; exact AV.cls_iff.2 fun x hx => by rw [(List.mem_replicate.1 hx).2]; simp) fun k hk => ?_
    by_cases hlt : k < L.length
    · have f1 := fillV_len (f := Val.av ∘ zeroV) (z := .agg [.int 0, .int 0, .str ByteArray.empty]) hk
      have f2 : ∀ h : k < (fillV (Val.av ∘ zeroV) (.agg [.int 0, .int 0, .str ByteArray.empty]) L k).length, (fillV (Val.av ∘ zeroV) (.agg [.int 0, .int 0, .str ByteArray.empty]) L k)[k]'h = .agg [.int 0, .int 0, .str ByteArray.empty] := fun h => by
        have := fillV_get (f := Val.av ∘ zeroV) (z := .agg [.int 0, .int 0, .str ByteArray.empty]) hlt
        rw [List.getElem?_eq_getElem h] at this; exact Option.some.inj this
      have f3 : (fillV (Val.av ∘ zeroV) (.agg [.int 0, .int 0, .str ByteArray.empty]) L k).set k (Val.av ⟨L[k].type, 0, ⟨#[]⟩⟩) = fillV (Val.av ∘ zeroV) (.agg [.int 0, .int 0, .str ByteArray.empty]) L (k + 1) := fillV_set hlt
      have f4 := fun m => fillV_cls (f := Val.av ∘ zeroV) (z := .agg [.int 0, .int 0, .str ByteArray.empty]) (L := L) (k := k + 1) (m := m) (fun _ => by simp) (by simp)
      repeat' (first | ((first | ((with_reducible refine qf (fun hg => ?_) (fun hg => ?_)) <;> (try simp only [hg]) <;> (try simp only [gS] at hg) <;> (try (first | simp only [eq_false hg, gI] | simp only [eq_true hg, gI]))) | refine Stp.m ?_ | refine acall (vzero_g _) ?_ | refine qo (vzero_g _) ?_) <;> (try simp (disch := first | omega | simp) [qd, -qg, -ql, hlt, f1, f2, f3])) | refine sideA ?_ | refine qc fun K hK => ?_ | refine qa ?_ | refine qe ?_ | refine qb ?_ | (refine hK _ ?_; clear hK K) | clear hK K)
      exact ⟨k + 1, by omega, by omega, f3, f4 _, by simp⟩
    · obtain rfl : k = L.length := by omega
      repeat' (first | ((first | ((with_reducible refine qf (fun hg => ?_) (fun hg => ?_)) <;> (try simp only [hg]) <;> (try simp only [gS] at hg) <;> (try (first | simp only [eq_false hg, gI] | simp only [eq_true hg, gI]))) | refine Stp.m ?_) <;> (try simp (disch := first | omega | simp) [qd, -qg, -ql, hlt, fillV_all])) | refine sideA ?_ | refine qc fun K hK => ?_ | refine qa ?_ | refine qe ?_ | refine qb ?_ | (refine hK _ ?_; clear hK K) | clear hK K)
  rwa [hlen] at key
def chAv (r : Option (List Val)) : AV := .sl ((r.getD []).map Val.av)
@[simp] theorem chAv_cl (r : Option (List Val)) (m : Nat) : (chAv r).cl m := by unfold chAv; simp
end Go.Proofs.YtbkkjlcclddpdaaGreatDoor

/- Walks of lens.changed, an operation each (printed by gen_chg.py). -/
namespace Go.Proofs.YtbkkjlcclddpdaaGreatDoor
open Go.RowKit Go.Lib
@[simp] theorem tab_arr3 : ainfo Tryz.prog 132 = some (3, 3, [.v (.int .i64 0), .v (.int .i64 0), .v (.string ByteArray.empty), .v (.int .i64 0), .v (.int .i64 0), .v (.string ByteArray.empty), .v (.int .i64 0), .v (.int .i64 0), .v (.string ByteArray.empty)]) := by kernel_rfl
set_option maxRecDepth 4000 in
set_option maxHeartbeats 4000000 in
theorem chg_1 (x : Lens) (cols : List Col) (DD : List Val) (hDD : qp cols = DD) (hc0 : 1 ≤ cols.length) (hc : cols.length ≤ 12) (i : Nat) (hi1 : findP cols x.a.toList = i) (hi : i < cols.length) (hid : i < DD.length) (ho : x.op = 1) (t0 : 0 ≤ cols[i].type) (t3 : cols[i].type < 3) (R : List Val) (hR : (if Val.eqB DD[i] x.value then DD.set i (if cols[i].type = 0 then ⟨0, 1, ⟨#[]⟩⟩ else if cols[i].type = 1 then ⟨1, 0, ⟨#[97]⟩⟩ else ⟨2, 1, ⟨#[]⟩⟩) else DD) = R) : Gives Tryz.prog 61 [x.av, .sl (cols.map Col.av)] (.tup [.sl (R.map Val.av), .bool true]) := by
  have c2 := qx cols x.a (by omega)
  rw [hi1] at c2
  have c3 := qeu cols (by omega)
  rw [hDD] at c3
  have hln : DD.length = cols.length := by rw [← hDD, qbk]
  have h1 : ((i : Int)).toNat = i := by omega
  have k1 := qdd 1
  have k2 := qdd 2
  have k3 := qdd 9223372036854775807
  have k4 := qcy ⟨#[97]⟩
  have k5 := qcy x.sep
  have d1 : (x.op == 1) = true := by rw [ho]; rfl
  have d3 : (x.op == 3) = false := beq_eq_false_iff_ne.2 (by omega)
  have d4 : (x.op == 4) = false := beq_eq_false_iff_ne.2 (by omega)
  have d5 : (x.op == 5) = false := beq_eq_false_iff_ne.2 (by omega)
  have d6 : (x.op == 6) = false := beq_eq_false_iff_ne.2 (by omega)
  have ta : aeq Tryz.prog .eql 27 (.agg [.int DD[i].k, .int DD[i].n, .str DD[i].s]) (.agg [.int x.value.k, .int x.value.n, .str x.value.s]) = some (Val.eqB DD[i] x.value) := Val.aeq _ _
  have hdv : DD[i].av = .agg [.int DD[i].k, .int DD[i].n, .str DD[i].s] := rfl
  have hxv : x.value.av = .agg [.int x.value.k, .int x.value.n, .str x.value.s] := rfl
  by_cases he : Val.eqB DD[i] x.value = true
  · rw [if_pos he] at hR
    have ht : cols[i].type = 0 ∨ cols[i].type = 1 ∨ cols[i].type = 2 := by omega
    rcases ht with ht | ht | ht
    · rw [ht] at hR
      refine qh Tryz.func61 Tryz.ntmps61 fun σ n0 hcl hft => ?_
      repeat' (first | ((first | with_reducible refine qs ?_ | ((with_reducible refine qf (fun hg => ?_) (fun hg => ?_)) <;> (try simp only [hg]) <;> (try simp only [gS] at hg) <;> (try (first | simp only [eq_false hg, gI] | simp only [eq_true hg, gI]))) | refine Stp.m ?_ | refine qw c3 ?_ | refine acall (qbl) ?_ | refine qo (qbl) ?_ | refine qi ?_ | refine agH ?_) <;> (try simp (disch := first | omega | simp) [qd, -qg, -ql, d1, d3, d4, d5, d6, h1, hi, hid, hln, ta, he, ht, hdv, hxv, -Val.av_fold])) | with_reducible refine qbt (id := 1) [.cells [.int x.op, .str x.a, .str x.b, .str x.c, .str x.sep, .int x.n, .int x.value.k, .int x.value.n, .str x.value.s] 29] [.R, .W, .R, .R, .R, .W, .R, .R] (by kernel_rfl) (by kernel_rfl) (by simp) ?_ | with_reducible refine awp_anyV (id := 6) [.cells [.int x.op, .str x.a, .str x.b, .str x.c, .str x.sep, .int x.n, .int x.value.k, .int x.value.n, .str x.value.s] 29, .unborn] 1 [.R, .R, .M, .M, .M, .R, .R, .R, .R, .R, .R, .R, .N, .W] (by kernel_rfl) (by kernel_rfl) (by simp) ?_ | refine sideA ?_ | refine qc fun K hK => ?_ | refine qa ?_ | refine qe ?_ | refine qb ?_ | (refine hK _ ?_; clear hK K) | clear hK K)
      refine ⟨qq 4 1 (k := cols.length) (by simp) (by rfl) (by simp; omega) ?_⟩
      repeat' (first | ((first | ((with_reducible refine qf (fun hg => ?_) (fun hg => ?_)) <;> (try simp only [hg]) <;> (try simp only [gS] at hg) <;> (try (first | simp only [eq_false hg, gI] | simp only [eq_true hg, gI]))) | refine Stp.m ?_) <;> (try simp (disch := first | omega | simp) [qd, -qg, -ql])) | refine sideA ?_ | refine qc fun K hK => ?_ | refine qa ?_ | refine qe ?_ | refine qb ?_ | (refine hK _ ?_; clear hK K) | clear hK K)
      rw [← hR]; exact qv DD i ⟨0, 1, ⟨#[]⟩⟩
    · rw [ht] at hR
      refine qh Tryz.func61 Tryz.ntmps61 fun σ n0 hcl hft => ?_
      repeat' (first | ((first | with_reducible refine qs ?_ | ((with_reducible refine qf (fun hg => ?_) (fun hg => ?_)) <;> (try simp only [hg]) <;> (try simp only [gS] at hg) <;> (try (first | simp only [eq_false hg, gI] | simp only [eq_true hg, gI]))) | refine Stp.m ?_ | refine qw c3 ?_ | refine acall (qbl) ?_ | refine qo (qbl) ?_ | refine qi ?_ | refine agH ?_) <;> (try simp (disch := first | omega | simp) [qd, -qg, -ql, d1, d3, d4, d5, d6, h1, hi, hid, hln, ta, he, ht, hdv, hxv, -Val.av_fold])) | with_reducible refine qbt (id := 1) [.cells [.int x.op, .str x.a, .str x.b, .str x.c, .str x.sep, .int x.n, .int x.value.k, .int x.value.n, .str x.value.s] 29] [.R, .W, .R, .R, .R, .W, .R, .R] (by kernel_rfl) (by kernel_rfl) (by simp) ?_ | with_reducible refine awp_anyV (id := 6) [.cells [.int x.op, .str x.a, .str x.b, .str x.c, .str x.sep, .int x.n, .int x.value.k, .int x.value.n, .str x.value.s] 29, .unborn] 1 [.R, .R, .M, .M, .M, .R, .R, .R, .R, .R, .R, .R, .N, .W] (by kernel_rfl) (by kernel_rfl) (by simp) ?_ | refine sideA ?_ | refine qc fun K hK => ?_ | refine qa ?_ | refine qe ?_ | refine qb ?_ | (refine hK _ ?_; clear hK K) | clear hK K)
      refine ⟨qq 4 1 (k := cols.length) (by simp) (by rfl) (by simp; omega) ?_⟩
      repeat' (first | ((first | ((with_reducible refine qf (fun hg => ?_) (fun hg => ?_)) <;> (try simp only [hg]) <;> (try simp only [gS] at hg) <;> (try (first | simp only [eq_false hg, gI] | simp only [eq_true hg, gI]))) | refine Stp.m ?_) <;> (try simp (disch := first | omega | simp) [qd, -qg, -ql])) | refine sideA ?_ | refine qc fun K hK => ?_ | refine qa ?_ | refine qe ?_ | refine qb ?_ | (refine hK _ ?_; clear hK K) | clear hK K)
      rw [← hR]; exact qv DD i ⟨1, 0, ⟨#[97]⟩⟩
    · rw [ht] at hR
      refine qh Tryz.func61 Tryz.ntmps61 fun σ n0 hcl hft => ?_
      repeat' (first | ((first | with_reducible refine qs ?_ | ((with_reducible refine qf (fun hg => ?_) (fun hg => ?_)) <;> (try simp only [hg]) <;> (try simp only [gS] at hg) <;> (try (first | simp only [eq_false hg, gI] | simp only [eq_true hg, gI]))) | refine Stp.m ?_ | refine qw c3 ?_ | refine acall (qbl) ?_ | refine qo (qbl) ?_ | refine qi ?_ | refine agH ?_) <;> (try simp (disch := first | omega | simp) [qd, -qg, -ql, d1, d3, d4, d5, d6, h1, hi, hid, hln, ta, he, ht, hdv, hxv, -Val.av_fold])) | with_reducible refine qbt (id := 1) [.cells [.int x.op, .str x.a, .str x.b, .str x.c, .str x.sep, .int x.n, .int x.value.k, .int x.value.n, .str x.value.s] 29] [.R, .W, .R, .R, .R, .W, .R, .R] (by kernel_rfl) (by kernel_rfl) (by simp) ?_ | with_reducible refine awp_anyV (id := 6) [.cells [.int x.op, .str x.a, .str x.b, .str x.c, .str x.sep, .int x.n, .int x.value.k, .int x.value.n, .str x.value.s] 29, .unborn] 1 [.R, .R, .M, .M, .M, .R, .R, .R, .R, .R, .R, .R, .N, .W] (by kernel_rfl) (by kernel_rfl) (by simp) ?_ | refine sideA ?_ | refine qc fun K hK => ?_ | refine qa ?_ | refine qe ?_ | refine qb ?_ | (refine hK _ ?_; clear hK K) | clear hK K)
      refine ⟨qq 4 1 (k := cols.length) (by simp) (by rfl) (by simp; omega) ?_⟩
      repeat' (first | ((first | ((with_reducible refine qf (fun hg => ?_) (fun hg => ?_)) <;> (try simp only [hg]) <;> (try simp only [gS] at hg) <;> (try (first | simp only [eq_false hg, gI] | simp only [eq_true hg, gI]))) | refine Stp.m ?_) <;> (try simp (disch := first | omega | simp) [qd, -qg, -ql])) | refine sideA ?_ | refine qc fun K hK => ?_ | refine qa ?_ | refine qe ?_ | refine qb ?_ | (refine hK _ ?_; clear hK K) | clear hK K)
      rw [← hR]; exact qv DD i ⟨2, 1, ⟨#[]⟩⟩
  · rw [if_neg he] at hR
    have he2 : Val.eqB DD[i] x.value = false := by simpa using he
    refine qh Tryz.func61 Tryz.ntmps61 fun σ n0 hcl hft => ?_
    repeat' (first | ((first | with_reducible refine qs ?_ | ((with_reducible refine qf (fun hg => ?_) (fun hg => ?_)) <;> (try simp only [hg]) <;> (try simp only [gS] at hg) <;> (try (first | simp only [eq_false hg, gI] | simp only [eq_true hg, gI]))) | refine Stp.m ?_ | refine qw c3 ?_ | refine acall (qbl) ?_ | refine qo (qbl) ?_ | refine qi ?_ | refine agH ?_) <;> (try simp (disch := first | omega | simp) [qd, -qg, -ql, d1, d3, d4, d5, d6, h1, hi, hid, hln, ta, he2, hdv, hxv, -Val.av_fold])) | with_reducible refine qbt (id := 1) [.cells [.int x.op, .str x.a, .str x.b, .str x.c, .str x.sep, .int x.n, .int x.value.k, .int x.value.n, .str x.value.s] 29] [.R, .W, .R, .R, .R, .W, .R, .R] (by kernel_rfl) (by kernel_rfl) (by simp) ?_ | refine sideA ?_ | refine qc fun K hK => ?_ | refine qa ?_ | refine qe ?_ | refine qb ?_ | (refine hK _ ?_; clear hK K) | clear hK K)
    refine ⟨qq 4 1 (k := cols.length) (by simp) (by rfl) (by simp; omega) ?_⟩
    repeat' (first | ((first | ((with_reducible refine qf (fun hg => ?_) (fun hg => ?_)) <;> (try simp only [hg]) <;> (try simp only [gS] at hg) <;> (try (first | simp only [eq_false hg, gI] | simp only [eq_true hg, gI]))) | refine Stp.m ?_) <;> (try simp (disch := first | omega | simp) [qd, -qg, -ql])) | refine sideA ?_ | refine qc fun K hK => ?_ | refine qa ?_ | refine qe ?_ | refine qb ?_ | (refine hK _ ?_; clear hK K) | clear hK K)
    rw [hR]
set_option maxRecDepth 4000 in
set_option maxHeartbeats 4000000 in
theorem chg_3 (x : Lens) (cols : List Col) (DD : List Val) (hDD : qp cols = DD) (hc0 : 1 ≤ cols.length) (hc : cols.length ≤ 12) (i : Nat) (hi1 : findP cols x.a.toList = i) (hi : i < cols.length) (hid : i < DD.length) (ho : x.op = 3) (R : List Val) (hR : DD.set i ⟨1, 0, x.sep⟩ = R) : Gives Tryz.prog 61 [x.av, .sl (cols.map Col.av)] (.tup [.sl (R.map Val.av), .bool true]) := by
  have c2 := qx cols x.a (by omega)
  rw [hi1] at c2
  have c3 := qeu cols (by omega)
  rw [hDD] at c3
  have hln : DD.length = cols.length := by rw [← hDD, qbk]
  have h1 : ((i : Int)).toNat = i := by omega
  have k1 := qdd 1
  have k2 := qdd 2
  have k3 := qdd 9223372036854775807
  have k4 := qcy ⟨#[97]⟩
  have k5 := qcy x.sep
  have d1 : (x.op == 1) = false := beq_eq_false_iff_ne.2 (by omega)
  have d3 : (x.op == 3) = true := by rw [ho]; rfl
  have d4 : (x.op == 4) = false := beq_eq_false_iff_ne.2 (by omega)
  have d5 : (x.op == 5) = false := beq_eq_false_iff_ne.2 (by omega)
  have d6 : (x.op == 6) = false := beq_eq_false_iff_ne.2 (by omega)
  refine qh Tryz.func61 Tryz.ntmps61 fun σ n0 hcl hft => ?_
  repeat' (first | ((first | with_reducible refine qs ?_ | ((with_reducible refine qf (fun hg => ?_) (fun hg => ?_)) <;> (try simp only [hg]) <;> (try simp only [gS] at hg) <;> (try (first | simp only [eq_false hg, gI] | simp only [eq_true hg, gI]))) | refine Stp.m ?_ | refine qw c3 ?_ | refine acall (qbl) ?_ | refine qo (qbl) ?_ | refine qi ?_ | refine agH ?_) <;> (try simp (disch := first | omega | simp) [qd, -qg, -ql, d1, d3, d4, d5, d6, h1, hi, hid, hln])) | with_reducible refine qbt (id := 1) [.cells [.int x.op, .str x.a, .str x.b, .str x.c, .str x.sep, .int x.n, .int x.value.k, .int x.value.n, .str x.value.s] 29] [.R, .W, .R, .R, .R, .W, .R, .R] (by kernel_rfl) (by kernel_rfl) (by simp) ?_ | refine sideA ?_ | refine qc fun K hK => ?_ | refine qa ?_ | refine qe ?_ | refine qb ?_ | (refine hK _ ?_; clear hK K) | clear hK K)
  refine ⟨qq 4 1 (k := cols.length) (by simp) (by rfl) (by simp; omega) ?_⟩
  repeat' (first | ((first | ((with_reducible refine qf (fun hg => ?_) (fun hg => ?_)) <;> (try simp only [hg]) <;> (try simp only [gS] at hg) <;> (try (first | simp only [eq_false hg, gI] | simp only [eq_true hg, gI]))) | refine Stp.m ?_) <;> (try simp (disch := first | omega | simp) [qd, -qg, -ql])) | refine sideA ?_ | refine qc fun K hK => ?_ | refine qa ?_ | refine qe ?_ | refine qb ?_ | (refine hK _ ?_; clear hK K) | clear hK K)
  rw [← hR]; exact qv DD i ⟨1, 0, x.sep⟩
set_option maxRecDepth 4000 in
set_option maxHeartbeats 4000000 in
theorem chg_4 (x : Lens) (cols : List Col) (DD : List Val) (hDD : qp cols = DD) (hc0 : 1 ≤ cols.length) (hc : cols.length ≤ 12) (i : Nat) (hi1 : findP cols x.a.toList = i) (hi : i < cols.length) (hid : i < DD.length) (ho : x.op = 4) (R : List Val) (hR : DD.set i ⟨1, 0, x.sep⟩ = R) : Gives Tryz.prog 61 [x.av, .sl (cols.map Col.av)] (.tup [.sl (R.map Val.av), .bool true]) := by
  have c2 := qx cols x.a (by omega)
  rw [hi1] at c2
  have c3 := qeu cols (by omega)
  rw [hDD] at c3
  have hln : DD.length = cols.length := by rw [← hDD, qbk]
  have h1 : ((i : Int)).toNat = i := by omega
  have k1 := qdd 1
  have k2 := qdd 2
  have k3 := qdd 9223372036854775807
  have k4 := qcy ⟨#[97]⟩
  have k5 := qcy x.sep
  have d1 : (x.op == 1) = false := beq_eq_false_iff_ne.2 (by omega)
  have d3 : (x.op == 3) = false := beq_eq_false_iff_ne.2 (by omega)
  have d4 : (x.op == 4) = true := by rw [ho]; rfl
  have d5 : (x.op == 5) = false := beq_eq_false_iff_ne.2 (by omega)
  have d6 : (x.op == 6) = false := beq_eq_false_iff_ne.2 (by omega)
  refine qh Tryz.func61 Tryz.ntmps61 fun σ n0 hcl hft => ?_
  repeat' (first | ((first | with_reducible refine qs ?_ | ((with_reducible refine qf (fun hg => ?_) (fun hg => ?_)) <;> (try simp only [hg]) <;> (try simp only [gS] at hg) <;> (try (first | simp only [eq_false hg, gI] | simp only [eq_true hg, gI]))) | refine Stp.m ?_ | refine qw c3 ?_ | refine acall (qbl) ?_ | refine qo (qbl) ?_ | refine qi ?_ | refine agH ?_) <;> (try simp (disch := first | omega | simp) [qd, -qg, -ql, d1, d3, d4, d5, d6, h1, hi, hid, hln])) | with_reducible refine qbt (id := 1) [.cells [.int x.op, .str x.a, .str x.b, .str x.c, .str x.sep, .int x.n, .int x.value.k, .int x.value.n, .str x.value.s] 29] [.R, .W, .R, .R, .R, .W, .R, .R] (by kernel_rfl) (by kernel_rfl) (by simp) ?_ | refine sideA ?_ | refine qc fun K hK => ?_ | refine qa ?_ | refine qe ?_ | refine qb ?_ | (refine hK _ ?_; clear hK K) | clear hK K)
  refine ⟨qq 4 1 (k := cols.length) (by simp) (by rfl) (by simp; omega) ?_⟩
  repeat' (first | ((first | ((with_reducible refine qf (fun hg => ?_) (fun hg => ?_)) <;> (try simp only [hg]) <;> (try simp only [gS] at hg) <;> (try (first | simp only [eq_false hg, gI] | simp only [eq_true hg, gI]))) | refine Stp.m ?_) <;> (try simp (disch := first | omega | simp) [qd, -qg, -ql])) | refine sideA ?_ | refine qc fun K hK => ?_ | refine qa ?_ | refine qe ?_ | refine qb ?_ | (refine hK _ ?_; clear hK K) | clear hK K)
  rw [← hR]; exact qv DD i ⟨1, 0, x.sep⟩
set_option maxRecDepth 4000 in
set_option maxHeartbeats 4000000 in
theorem chg_5 (x : Lens) (cols : List Col) (DD : List Val) (hDD : qp cols = DD) (hc0 : 1 ≤ cols.length) (hc : cols.length ≤ 12) (i : Nat) (hi1 : findP cols x.a.toList = i) (hi : i < cols.length) (hid : i < DD.length) (ho : x.op = 5) (R : Option (List Val)) (hR : (if cols[i].type = 2 ∨ cols[i].type = 0 ∧ x.n = 1 then none else some (if cols[i].type = 0 then DD.set i ⟨0, 2, ⟨#[]⟩⟩ else DD)) = R) : Gives Tryz.prog 61 [x.av, .sl (cols.map Col.av)] (.tup [chAv R, .bool R.isSome]) := by
  have c2 := qx cols x.a (by omega)
  rw [hi1] at c2
  have c3 := qeu cols (by omega)
  rw [hDD] at c3
  have hln : DD.length = cols.length := by rw [← hDD, qbk]
  have h1 : ((i : Int)).toNat = i := by omega
  have k1 := qdd 1
  have k2 := qdd 2
  have k3 := qdd 9223372036854775807
  have k4 := qcy ⟨#[97]⟩
  have k5 := qcy x.sep
  have d1 : (x.op == 1) = false := beq_eq_false_iff_ne.2 (by omega)
  have d3 : (x.op == 3) = false := beq_eq_false_iff_ne.2 (by omega)
  have d4 : (x.op == 4) = false := beq_eq_false_iff_ne.2 (by omega)
  have d5 : (x.op == 5) = true := by rw [ho]; rfl
  have d6 : (x.op == 6) = false := beq_eq_false_iff_ne.2 (by omega)
  by_cases t2 : cols[i].type = 2
  · have n0 : ¬ cols[i].type = 0 := by omega
    have b2 : (cols[i].type == 2) = true := by rw [t2]; rfl
    rw [if_pos (.inl t2)] at hR
    subst hR
    refine qh Tryz.func61 Tryz.ntmps61 fun σ n0 hcl hft => ?_
    repeat' (first | ((first | ((with_reducible refine qf (fun hg => ?_) (fun hg => ?_)) <;> (try simp only [hg]) <;> (try simp only [gS] at hg) <;> (try (first | simp only [eq_false hg, gI] | simp only [eq_true hg, gI]))) | refine Stp.m ?_ | refine qw c3 ?_ | refine acall (qbl) ?_ | refine qo (qbl) ?_ | refine qi ?_ | refine agH ?_) <;> (try simp (disch := first | omega | simp) [qd, -qg, -ql, d1, d3, d4, d5, d6, h1, hi, hid, hln, b2])) | with_reducible refine qbt (id := 1) [.cells [.int x.op, .str x.a, .str x.b, .str x.c, .str x.sep, .int x.n, .int x.value.k, .int x.value.n, .str x.value.s] 29] [.R, .W, .R, .R, .R, .W, .R, .R] (by kernel_rfl) (by kernel_rfl) (by simp) ?_ | refine sideA ?_ | refine qc fun K hK => ?_ | refine qa ?_ | refine qe ?_ | refine qb ?_ | (refine hK _ ?_; clear hK K) | clear hK K)
    rfl
  · have b2 : (cols[i].type == 2) = false := beq_eq_false_iff_ne.2 t2
    by_cases t0 : cols[i].type = 0
    · have b0 : (cols[i].type == 0) = true := by rw [t0]; rfl
      by_cases n1 : x.n = 1
      · have b1 : (x.n == 1) = true := by rw [n1]; rfl
        rw [if_pos (.inr ⟨t0, n1⟩)] at hR
        subst hR
        refine qh Tryz.func61 Tryz.ntmps61 fun σ n0 hcl hft => ?_
        repeat' (first | ((first | ((with_reducible refine qf (fun hg => ?_) (fun hg => ?_)) <;> (try simp only [hg]) <;> (try simp only [gS] at hg) <;> (try (first | simp only [eq_false hg, gI] | simp only [eq_true hg, gI]))) | refine Stp.m ?_ | refine qw c3 ?_ | refine acall (qbl) ?_ | refine qo (qbl) ?_ | refine qi ?_ | refine agH ?_) <;> (try simp (disch := first | omega | simp) [qd, -qg, -ql, d1, d3, d4, d5, d6, h1, hi, hid, hln, b2, b0, b1])) | with_reducible refine qbt (id := 1) [.cells [.int x.op, .str x.a, .str x.b, .str x.c, .str x.sep, .int x.n, .int x.value.k, .int x.value.n, .str x.value.s] 29] [.R, .W, .R, .R, .R, .W, .R, .R] (by kernel_rfl) (by kernel_rfl) (by simp) ?_ | refine sideA ?_ | refine qc fun K hK => ?_ | refine qa ?_ | refine qe ?_ | refine qb ?_ | (refine hK _ ?_; clear hK K) | clear hK K)
        rfl
      · have b1 : (x.n == 1) = false := beq_eq_false_iff_ne.2 n1
        rw [if_neg (by omega), if_pos t0] at hR
        subst hR
        refine qh Tryz.func61 Tryz.ntmps61 fun σ n0 hcl hft => ?_
        repeat' (first | ((first | with_reducible refine qs ?_ | ((with_reducible refine qf (fun hg => ?_) (fun hg => ?_)) <;> (try simp only [hg]) <;> (try simp only [gS] at hg) <;> (try (first | simp only [eq_false hg, gI] | simp only [eq_true hg, gI]))) | refine Stp.m ?_ | refine qw c3 ?_ | refine acall (qbl) ?_ | refine qo (qbl) ?_ | refine qi ?_ | refine agH ?_) <;> (try simp (disch := first | omega | simp) [qd, -qg, -ql, d1, d3, d4, d5, d6, h1, hi, hid, hln, b2, b0, b1])) | with_reducible refine qbt (id := 1) [.cells [.int x.op, .str x.a, .str x.b, .str x.c, .str x.sep, .int x.n, .int x.value.k, .int x.value.n, .str x.value.s] 29] [.R, .W, .R, .R, .R, .W, .R, .R] (by kernel_rfl) (by kernel_rfl) (by simp) ?_ | refine sideA ?_ | refine qc fun K hK => ?_ | refine qa ?_ | refine qe ?_ | refine qb ?_ | (refine hK _ ?_; clear hK K) | clear hK K)
        refine ⟨qq 4 1 (k := cols.length) (by simp) (by rfl) (by simp; omega) ?_⟩
        repeat' (first | ((first | ((with_reducible refine qf (fun hg => ?_) (fun hg => ?_)) <;> (try simp only [hg]) <;> (try simp only [gS] at hg) <;> (try (first | simp only [eq_false hg, gI] | simp only [eq_true hg, gI]))) | refine Stp.m ?_) <;> (try simp (disch := first | omega | simp) [qd, -qg, -ql])) | refine sideA ?_ | refine qc fun K hK => ?_ | refine qa ?_ | refine qe ?_ | refine qb ?_ | (refine hK _ ?_; clear hK K) | clear hK K)
        exact congrArg AV.sl (qv DD i ⟨0, 2, ⟨#[]⟩⟩)
    · have b0 : (cols[i].type == 0) = false := beq_eq_false_iff_ne.2 t0
      rw [if_neg (by omega), if_neg t0] at hR
      subst hR
      refine qh Tryz.func61 Tryz.ntmps61 fun σ n0 hcl hft => ?_
      repeat' (first | ((first | with_reducible refine qs ?_ | ((with_reducible refine qf (fun hg => ?_) (fun hg => ?_)) <;> (try simp only [hg]) <;> (try simp only [gS] at hg) <;> (try (first | simp only [eq_false hg, gI] | simp only [eq_true hg, gI]))) | refine Stp.m ?_ | refine qw c3 ?_ | refine acall (qbl) ?_ | refine qo (qbl) ?_ | refine qi ?_ | refine agH ?_) <;> (try simp (disch := first | omega | simp) [qd, -qg, -ql, d1, d3, d4, d5, d6, h1, hi, hid, hln, b2, b0])) | with_reducible refine qbt (id := 1) [.cells [.int x.op, .str x.a, .str x.b, .str x.c, .str x.sep, .int x.n, .int x.value.k, .int x.value.n, .str x.value.s] 29] [.R, .W, .R, .R, .R, .W, .R, .R] (by kernel_rfl) (by kernel_rfl) (by simp) ?_ | refine sideA ?_ | refine qc fun K hK => ?_ | refine qa ?_ | refine qe ?_ | refine qb ?_ | (refine hK _ ?_; clear hK K) | clear hK K)
      refine ⟨qq 4 1 (k := cols.length) (by simp) (by rfl) (by simp; omega) ?_⟩
      repeat' (first | ((first | ((with_reducible refine qf (fun hg => ?_) (fun hg => ?_)) <;> (try simp only [hg]) <;> (try simp only [gS] at hg) <;> (try (first | simp only [eq_false hg, gI] | simp only [eq_true hg, gI]))) | refine Stp.m ?_) <;> (try simp (disch := first | omega | simp) [qd, -qg, -ql])) | refine sideA ?_ | refine qc fun K hK => ?_ | refine qa ?_ | refine qe ?_ | refine qb ?_ | (refine hK _ ?_; clear hK K) | clear hK K)
      rfl
set_option maxRecDepth 4000 in
set_option maxHeartbeats 4000000 in
theorem chg_6 (x : Lens) (cols : List Col) (DD : List Val) (hDD : qp cols = DD) (hc0 : 1 ≤ cols.length) (hc : cols.length ≤ 12) (i : Nat) (hi1 : findP cols x.a.toList = i) (hi : i < cols.length) (hid : i < DD.length) (ho : x.op = 6) (R : Option (List Val)) (hR : (if x.n = 1 ∨ x.n = -1 then none else some (DD.set i ⟨0, 9223372036854775807, ⟨#[]⟩⟩)) = R) : Gives Tryz.prog 61 [x.av, .sl (cols.map Col.av)] (.tup [chAv R, .bool R.isSome]) := by
  have c2 := qx cols x.a (by omega)
  rw [hi1] at c2
  have c3 := qeu cols (by omega)
  rw [hDD] at c3
  have hln : DD.length = cols.length := by rw [← hDD, qbk]
  have h1 : ((i : Int)).toNat = i := by omega
  have k1 := qdd 1
  have k2 := qdd 2
  have k3 := qdd 9223372036854775807
  have k4 := qcy ⟨#[97]⟩
  have k5 := qcy x.sep
  have d1 : (x.op == 1) = false := beq_eq_false_iff_ne.2 (by omega)
  have d3 : (x.op == 3) = false := beq_eq_false_iff_ne.2 (by omega)
  have d4 : (x.op == 4) = false := beq_eq_false_iff_ne.2 (by omega)
  have d5 : (x.op == 5) = false := beq_eq_false_iff_ne.2 (by omega)
  have d6 : (x.op == 6) = true := by rw [ho]; rfl
  by_cases n1 : x.n = 1 ∨ x.n = -1
  · rw [if_pos n1] at hR
    subst hR
    rcases n1 with n1 | n1
    · have n2 : ¬ x.n = -1 := by omega
      have b1 : (x.n == 1) = true := by rw [n1]; rfl
      refine qh Tryz.func61 Tryz.ntmps61 fun σ n0 hcl hft => ?_
      repeat' (first | ((first | ((with_reducible refine qf (fun hg => ?_) (fun hg => ?_)) <;> (try simp only [hg]) <;> (try simp only [gS] at hg) <;> (try (first | simp only [eq_false hg, gI] | simp only [eq_true hg, gI]))) | refine Stp.m ?_ | refine qw c3 ?_ | refine acall (qbl) ?_ | refine qo (qbl) ?_ | refine qi ?_ | refine agH ?_) <;> (try simp (disch := first | omega | simp) [qd, -qg, -ql, d1, d3, d4, d5, d6, h1, hi, hid, hln, b1])) | with_reducible refine qbt (id := 1) [.cells [.int x.op, .str x.a, .str x.b, .str x.c, .str x.sep, .int x.n, .int x.value.k, .int x.value.n, .str x.value.s] 29] [.R, .W, .R, .R, .R, .W, .R, .R] (by kernel_rfl) (by kernel_rfl) (by simp) ?_ | refine sideA ?_ | refine qc fun K hK => ?_ | refine qa ?_ | refine qe ?_ | refine qb ?_ | (refine hK _ ?_; clear hK K) | clear hK K)
      rfl
    · have b1 : (x.n == 1) = false := beq_eq_false_iff_ne.2 (by omega)
      have b2 : (x.n == -1) = true := by rw [n1]; rfl
      refine qh Tryz.func61 Tryz.ntmps61 fun σ n0 hcl hft => ?_
      repeat' (first | ((first | ((with_reducible refine qf (fun hg => ?_) (fun hg => ?_)) <;> (try simp only [hg]) <;> (try simp only [gS] at hg) <;> (try (first | simp only [eq_false hg, gI] | simp only [eq_true hg, gI]))) | refine Stp.m ?_ | refine qw c3 ?_ | refine acall (qbl) ?_ | refine qo (qbl) ?_ | refine qi ?_ | refine agH ?_) <;> (try simp (disch := first | omega | simp) [qd, -qg, -ql, d1, d3, d4, d5, d6, h1, hi, hid, hln, b1, b2])) | with_reducible refine qbt (id := 1) [.cells [.int x.op, .str x.a, .str x.b, .str x.c, .str x.sep, .int x.n, .int x.value.k, .int x.value.n, .str x.value.s] 29] [.R, .W, .R, .R, .R, .W, .R, .R] (by kernel_rfl) (by kernel_rfl) (by simp) ?_ | refine sideA ?_ | refine qc fun K hK => ?_ | refine qa ?_ | refine qe ?_ | refine qb ?_ | (refine hK _ ?_; clear hK K) | clear hK K)
      rfl
  · rw [if_neg n1] at hR
    subst hR
    rw [not_or] at n1
    obtain ⟨n1, n2⟩ := n1
    have b1 : (x.n == 1) = false := beq_eq_false_iff_ne.2 n1
    have b2 : (x.n == -1) = false := beq_eq_false_iff_ne.2 n2
    refine qh Tryz.func61 Tryz.ntmps61 fun σ n0 hcl hft => ?_
    repeat' (first | ((first | with_reducible refine qs ?_ | ((with_reducible refine qf (fun hg => ?_) (fun hg => ?_)) <;> (try simp only [hg]) <;> (try simp only [gS] at hg) <;> (try (first | simp only [eq_false hg, gI] | simp only [eq_true hg, gI]))) | refine Stp.m ?_ | refine qw c3 ?_ | refine acall (qbl) ?_ | refine qo (qbl) ?_ | refine qi ?_ | refine agH ?_) <;> (try simp (disch := first | omega | simp) [qd, -qg, -ql, d1, d3, d4, d5, d6, h1, hi, hid, hln, b1, b2])) | with_reducible refine qbt (id := 1) [.cells [.int x.op, .str x.a, .str x.b, .str x.c, .str x.sep, .int x.n, .int x.value.k, .int x.value.n, .str x.value.s] 29] [.R, .W, .R, .R, .R, .W, .R, .R] (by kernel_rfl) (by kernel_rfl) (by simp) ?_ | refine sideA ?_ | refine qc fun K hK => ?_ | refine qa ?_ | refine qe ?_ | refine qb ?_ | (refine hK _ ?_; clear hK K) | clear hK K)
    refine ⟨qq 4 1 (k := cols.length) (by simp) (by rfl) (by simp; omega) ?_⟩
    repeat' (first | ((first | ((with_reducible refine qf (fun hg => ?_) (fun hg => ?_)) <;> (try simp only [hg]) <;> (try simp only [gS] at hg) <;> (try (first | simp only [eq_false hg, gI] | simp only [eq_true hg, gI]))) | refine Stp.m ?_) <;> (try simp (disch := first | omega | simp) [qd, -qg, -ql])) | refine sideA ?_ | refine qc fun K hK => ?_ | refine qa ?_ | refine qe ?_ | refine qb ?_ | (refine hK _ ?_; clear hK K) | clear hK K)
    exact congrArg AV.sl (qv DD i ⟨0, 9223372036854775807, ⟨#[]⟩⟩)
set_option maxRecDepth 4000 in
set_option maxHeartbeats 4000000 in
theorem chg_0 (x : Lens) (cols : List Col) (hc : cols.length ≤ 12) (hc0 : 1 ≤ cols.length) (ho : ¬ x.op = 1 ∧ ¬ x.op = 3 ∧ ¬ x.op = 4 ∧ ¬ x.op = 5 ∧ ¬ x.op = 6) : Gives Tryz.prog 61 [x.av, .sl (cols.map Col.av)] (.tup [chAv none, .bool false]) := by
  have c2 := qx cols x.a (by omega)
  have c3 := qeu cols (by omega)
  have d1 : (x.op == 1) = false := beq_eq_false_iff_ne.2 ho.1
  have d3 : (x.op == 3) = false := beq_eq_false_iff_ne.2 ho.2.1
  have d4 : (x.op == 4) = false := beq_eq_false_iff_ne.2 ho.2.2.1
  have d5 : (x.op == 5) = false := beq_eq_false_iff_ne.2 ho.2.2.2.1
  have d6 : (x.op == 6) = false := beq_eq_false_iff_ne.2 ho.2.2.2.2
  refine qh Tryz.func61 Tryz.ntmps61 fun σ n0 hcl hft => ?_
  repeat' (first | ((first | ((with_reducible refine qf (fun hg => ?_) (fun hg => ?_)) <;> (try simp only [hg]) <;> (try simp only [gS] at hg) <;> (try (first | simp only [eq_false hg, gI] | simp only [eq_true hg, gI]))) | refine Stp.m ?_ | refine qw c3 ?_ | refine qi ?_ | refine agH ?_) <;> (try simp (disch := first | omega | simp) [qd, -qg, -ql, d1, d3, d4, d5, d6])) | with_reducible refine qbt (id := 1) [.cells [.int x.op, .str x.a, .str x.b, .str x.c, .str x.sep, .int x.n, .int x.value.k, .int x.value.n, .str x.value.s] 29] [.R, .W, .R, .R, .R, .W, .R, .R] (by kernel_rfl) (by kernel_rfl) (by simp) ?_ | refine sideA ?_ | refine qc fun K hK => ?_ | refine qa ?_ | refine qe ?_ | refine qb ?_ | (refine hK _ ?_; clear hK K) | clear hK K)
  rfl
end Go.Proofs.YtbkkjlcclddpdaaGreatDoor

/- lens.changed, any step that can be done; walk of lens.Lossless. -/
namespace Go.Proofs.YtbkkjlcclddpdaaGreatDoor
open Go.RowKit Go.Lib
theorem rightV_k {v : Val} (h : qbh v = true) : 0 ≤ v.k ∧ v.k < 3 := by
  unfold qbh at h
  by_cases h0 : v.k = 0
  · omega
  · rw [if_neg h0] at h
    by_cases h1 : v.k = 1
    · omega
    · rw [if_neg h1, Bool.or_eq_true] at h
      rcases h with h | h <;>
      · have := (Val.eqB_iff _ _).1 h
        rw [this]
        exact ⟨by decide, by decide⟩
theorem changed_g {x : Lens} {L : List Col} (h0 : 1 ≤ L.length) (h1 : L.length ≤ 12) (h : qeh x L) (R : Option (List Val)) (hR : qu x L = R) : Gives Tryz.prog 61 [x.av, .sl (L.map Col.av)] (.tup [chAv R, .bool R.isSome]) := by
  have hd := qbk L
  cases h
  case add ho ha hn hl hR2 hu hv =>
    have e : qu x L = none := by unfold qu; simp only [ho]; rfl
    rw [← hR, e]
    exact chg_0 x L h1 h0 (by omega)
  case drop i hi ho h hk hl hR2 hv =>
    have hid : i < (qp L).length := by omega
    have hv := rightV_k hv
    have e : qu x L = some (if Val.eqB (qp L)[i] x.value then (qp L).set i (if L[i].type = 0 then ⟨0, 1, ⟨#[]⟩⟩ else if L[i].type = 1 then ⟨1, 0, ⟨#[97]⟩⟩ else ⟨2, 1, ⟨#[]⟩⟩) else qp L) := by
      unfold qu
      simp only [ho, if_pos, h.find, Int.toNat_natCast, qbi hid, qbu hi]
    rw [← hR, e]
    exact chg_1 x L (qp L) rfl h0 h1 i h.find hi hid ho (by omega) (by omega) _ rfl
  case rename i hi ho h hb hb2 hR2 =>
    have e : qu x L = none := by unfold qu; simp only [ho]; rfl
    rw [← hR, e]
    exact chg_0 x L h1 h0 (by omega)
  case split i hi ho h hk hb hc hs hbc hb2 hc2 hl hR2 =>
    have e : qu x L = some ((qp L).set i ⟨1, 0, x.sep⟩) := by unfold qu; simp only [ho, h.find, Int.toNat_natCast]; rfl
    rw [← hR, e]
    exact chg_3 x L (qp L) rfl h0 h1 i h.find hi (by omega) ho _ rfl
  case join i k hi hk ho h hkf hkn hik ti tk hc hs hc2 hR2 =>
    have e : qu x L = some ((qp L).set i ⟨1, 0, x.sep⟩) := by unfold qu; simp only [ho, h.find, Int.toNat_natCast]; rfl
    rw [← hR, e]
    exact chg_4 x L (qp L) rfl h0 h1 i h.find hi (by omega) ho _ rfl
  case retype i hi ho h hn0 hn3 hv hk ht hR2 =>
    refine chg_5 x L (qp L) rfl h0 h1 i h.find hi (by omega) ho R ?_
    rw [← hR]
    unfold qu
    simp only [ho, h.find, Int.toNat_natCast, qbu hi]; rfl
  case scale i hi ho h ht hn hu hR2 =>
    refine chg_6 x L (qp L) rfl h0 h1 i h.find hi (by omega) ho R ?_
    rw [← hR]
    unfold qu
    simp only [ho, h.find, Int.toNat_natCast]; rfl
theorem lost_step {l : List Lens} {ss : List (List Col)} {k : Nat} (h : k < l.length) (j : Nat) : lostP (l.drop k) (ss.drop k) j = match qu l[k] (shAt ss k) with
    | some row => (false, (j : Int), row)
    | none => lostP (l.drop (k + 1)) (ss.drop (k + 1)) (j + 1) := by
  have e : (ss.drop k).headD [] = shAt ss k := by rw [shAt_0]; unfold shAt; rw [List.getD_eq_getElem?_getD, List.getElem?_drop, Nat.add_zero, ← List.getD_eq_getElem?_getD]
  rw [List.drop_eq_getElem_cons h, lostP, e, List.tail_drop]; rfl
set_option maxHeartbeats 4000000 in
theorem lossless_g {l : List Lens} {cols : List Col} {ss : List (List Col)} (hs : qbe l cols = (ss, 0)) (hl : ∀ x ∈ l, qdv x) (h0 : 1 ≤ cols.length) (h1 : cols.length ≤ 12) (R : Bool × Int × List Val) (hR : lostP l ss 0 = R) :
    Gives Tryz.prog 27 [.sl (l.map Lens.av), .sl (cols.map Col.av)] (.tup [.bool R.1, .int R.2.1, .sl (R.2.2.map Val.av)]) := by
  have hL : l.length ≤ 60 := by
    unfold qbe at hs
    by_cases h : 60 < l.length
    · rw [if_pos h] at hs; exact absurd (Prod.mk.inj hs).2 (by decide)
    · omega
  have hs' : qn l cols = (ss, 0) := by rw [qbe, if_neg (by omega)] at hs; exact hs
  obtain ⟨hc, hc0⟩ := chain_of hs' h0 h1
  have c1 := shapes_g l cols (fun x hx => (hl x hx).l) (by omega) h0 h1
  rw [hs] at c1
  have hsl := hc.len
  refine qh Tryz.func27 Tryz.ntmps27 fun σ n0 hcl hft => ?_
  repeat' (first | ((first | ((with_reducible refine qf (fun hg => ?_) (fun hg => ?_)) <;> (try simp only [hg]) <;> (try simp only [gS] at hg) <;> (try (first | simp only [eq_false hg, gI] | simp only [eq_true hg, gI]))) | refine Stp.m ?_ | refine qi ?_ | refine agH ?_) <;> (try simp (disch := first | omega | simp) [qd, -qg, -ql])) | refine sideA ?_ | refine qc fun K hK => ?_ | refine qa ?_ | refine qe ?_ | refine qb ?_ | (refine hK _ ?_; clear hK K) | clear hK K)
  refine qt hcl (fun k : Nat => [(7, .sl (ss.map qdc)), (19, .sl (l.map Lens.av)), (20, .int l.length), (21, .int k)]) (fun k => [])
    (fun k => k ≤ l.length ∧ lostP (l.drop k) (ss.drop k) k = R) (fun k => l.length - k) 0 ⟨by omega, hR⟩ (by simp) fun k ⟨hkl, hk⟩ => ?_
  by_cases hlt : k < l.length
  · obtain ⟨g3, g4⟩ := hc.ok k hlt
    have hks : k < ss.length := by omega
    obtain ⟨g5, g6⟩ := hc.sz k hkl
    rw [lost_step hlt] at hk
    obtain ⟨C, hC⟩ : ∃ C, qu l[k] (shAt ss k) = C := ⟨_, rfl⟩
    have c3 := changed_g g5 g6 g3 C hC
    rw [hC] at hk
    rw [shAt_eq hks] at c3
    cases C with
    | none =>
      have hk' : lostP (l.drop (k + 1)) (ss.drop (k + 1)) (k + 1) = R := hk
      repeat' (first | ((first | ((with_reducible refine qf (fun hg => ?_) (fun hg => ?_)) <;> (try simp only [hg]) <;> (try simp only [gS] at hg) <;> (try (first | simp only [eq_false hg, gI] | simp only [eq_true hg, gI]))) | refine Stp.m ?_ | refine qi ?_ | refine agH ?_) <;> (try simp (disch := first | omega | simp) [qd, -qg, -ql, hlt, hks, qdc, chAv])) | refine sideA ?_ | refine qc fun K hK => ?_ | refine qa ?_ | refine qe ?_ | refine qb ?_ | (refine hK _ ?_; clear hK K) | clear hK K)
      exact ⟨k + 1, ⟨by omega, hk'⟩, by omega, by simp⟩
    | some row =>
      have hk' : (false, (k : Int), row) = R := hk
      subst hk'
      repeat' (first | ((first | ((with_reducible refine qf (fun hg => ?_) (fun hg => ?_)) <;> (try simp only [hg]) <;> (try simp only [gS] at hg) <;> (try (first | simp only [eq_false hg, gI] | simp only [eq_true hg, gI]))) | refine Stp.m ?_ | refine qi ?_ | refine agH ?_) <;> (try simp (disch := first | omega | simp) [qd, -qg, -ql, hlt, hks, qdc, chAv])) | refine sideA ?_ | refine qc fun K hK => ?_ | refine qa ?_ | refine qe ?_ | refine qb ?_ | (refine hK _ ?_; clear hK K) | clear hK K)
  · obtain rfl : k = l.length := by omega
    rw [List.drop_length, lostP] at hk
    subst hk
    repeat' (first | ((first | ((with_reducible refine qf (fun hg => ?_) (fun hg => ?_)) <;> (try simp only [hg]) <;> (try simp only [gS] at hg) <;> (try (first | simp only [eq_false hg, gI] | simp only [eq_true hg, gI]))) | refine Stp.m ?_) <;> (try simp (disch := first | omega | simp) [qd, -qg, -ql, hlt])) | refine sideA ?_ | refine qc fun K hK => ?_ | refine qa ?_ | refine qe ?_ | refine qb ?_ | (refine hK _ ?_; clear hK K) | clear hK K)
end Go.Proofs.YtbkkjlcclddpdaaGreatDoor
