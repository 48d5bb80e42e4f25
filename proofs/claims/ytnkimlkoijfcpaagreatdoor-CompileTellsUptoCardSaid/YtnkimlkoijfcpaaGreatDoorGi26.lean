/- Arrays: the address of an element. -/
import Derived.Test.YtnkimlkoijfcpaaGreatDoorGi1
import Derived.Test.YtnkimlkoijfcpaaGreatDoorGi12
import Derived.Test.YtnkimlkoijfcpaaGreatDoorGi14
import Derived.Test.YtnkimlkoijfcpaaGreatDoorGi15
import Derived.Test.YtnkimlkoijfcpaaGreatDoorGi16
import Derived.Test.YtnkimlkoijfcpaaGreatDoorGi17
import Derived.Test.YtnkimlkoijfcpaaGreatDoorGi25
set_option linter.unusedSimpArgs false
set_option linter.unusedVariables false
namespace Go.Proofs.YtnkimlkoijfcpaaGreatDoor
open Go.RowKit Go.Lib
section
variable {P : Program} {ev : Operand → AV} {σ : Nat → AB}
theorem fop_indexArr {t e : TypeId} {n : Nat} {p i : Operand} {r off : Nat} {ik : IntKind} {k : Int} {ag : Bool} {sz : Nat} (ht : P.underlying t = some (.array n e)) (hs : tinfo P e = some (ag, sz)) (hp : ev p = .ptr r off) (hi : ev i = .v (.int ik k)) (h0 : 0 ≤ k) (h1 : k < n) :
    FOp P ev σ (.indexAddr t p i) (.ptr r (off + k.toNat * sz)) none := FOp.of fun X a oper ho hS hsub hev => by
  have h := hev p (by simp [Op.operands])
  have h2 := hev i (by simp [Op.operands])
  rw [hp] at h; rw [hi, RR.v] at h2
  change RC X (.ptr r off) [a.eval p] at h
  rw [RC] at h
  obtain ⟨hc, b, hm, hv⟩ := h
  have hv' : a.eval p = .pointer (some ⟨b, off, none⟩) := by simpa using hv
  refine ⟨.pointer (some ⟨b, off + k.toNat * sz, none⟩), ?_, ?_⟩
  · have := (qbw hs X.w).2
    simp [execOp, ho, hv', h2, Instr.indexAt, Instr.sureAddr, asIntOf, underlying, ht, h0, h1, this, qbi]
  · show RC X (.ptr r _) [_]
    rw [RC]
    exact ⟨hc, b, hm, rfl⟩
end
def aevX (P : Program) (s : AS) (o : Op) (K : AV → AS → Prop) : Prop :=
  match o with
  | .indexAddr t p i => match P.underlying t with
    | some (.array n e) => match tinfo P e, s.eval p, s.eval i with
      | some (_, sz), .ptr r off, .v (.int _ k) => 0 ≤ k ∧ k < n ∧ K (.ptr r (off + k.toNat * sz)) s
      | _, _, _ => False
    | _ => aev P s (.indexAddr t p i) K
  | o => aev P s o K
theorem aevX_sound {P : Program} {s : AS} {o : Op} {K : AV → AS → Prop} (h : aevX P s o K) : EOp P s o K := by
  unfold aevX at h
  split at h
  · split at h
    · split at h
      · exact eop_fun (nb := none) (fop_indexArr ‹_› ‹_› ‹_› ‹_› h.1 h.2.1) h.2.2
      · exact h.elim
    · exact qcf h
  · exact qcf h
def aseqX (P : Program) (ops : Array Oper) (K : AS → Prop) : List Oper → AS → Prop
  | [], s => K s
  | o :: l, s => match awant ops o s.t with
    | some b => qbz b (aevX P s o.op (fun x s1 => dstOk o.dst s1.n ∧ aseqX P ops K l (s1.put o.dst x))) (dstOk o.dst s.n ∧ aseqX P ops K l (s.put o.dst (.v undef)))
    | none => False
theorem aseqX_sound {P : Program} {ops : Array Oper} {K : AS → Prop} : ∀ {l : List Oper} {s : AS}, aseqX P ops K l s → aseq P ops K l s
  | [], _, h => h
  | o :: l, s, h => by
    rw [aseqX] at h
    rw [aseq]
    split at h
    · rename_i b hb
      cases b with
      | true => exact ⟨true, hb, (aevX_sound (h.1 rfl)).mono fun x s1 ⟨h1, h2⟩ => ⟨h1, aseqX_sound h2⟩⟩
      | false => exact ⟨false, hb, (h.2 rfl).1, aseqX_sound (h.2 rfl).2⟩
    · exact h.elim
theorem qek {P : Program} {s : AS} {id : Nat} {l : List Oper} {Q : Exit → AS → Prop} (h : aseqX P l.toArray (Q .normal) l s) : awp P (.region id l.toArray false) Q s := qcm (aseqX_sound h)
attribute [simp] aevX aseqX
end Go.Proofs.YtnkimlkoijfcpaaGreatDoor

/- A nil slice in an element of an own slice, from now on one that can grow. -/
namespace Go.Proofs.YtnkimlkoijfcpaaGreatDoor
open Go.RowKit Go.Lib
theorem RCs.set {X : St} {y z : AV} (h : ∀ vs, RC X y vs → RC X z vs) : ∀ {l : List AV} {xs : List Value} {k : Nat}, RCs X l xs → l[k]? = some y → RCs X (l.set k z) xs
  | [], _, _, _, h => by simp at h
  | d :: l, xs, 0, hr, hk => by
    rw [RCs] at hr
    obtain ⟨c1, c2, rfl, h1, h2⟩ := hr
    simp at hk
    subst hk
    rw [List.set_cons_zero, RCs]
    exact ⟨c1, c2, rfl, h _ h1, h2⟩
  | d :: l, xs, k + 1, hr, hk => by
    rw [RCs] at hr
    obtain ⟨c1, c2, rfl, h1, h2⟩ := hr
    rw [List.set_cons_succ, RCs]
    exact ⟨c1, c2, rfl, h1, RCs.set h h2 (by simpa using hk)⟩
end Go.Proofs.YtnkimlkoijfcpaaGreatDoor

/- Walks of layer 26: the one that makes registers. -/
namespace Go.Proofs.YtnkimlkoijfcpaaGreatDoor
open Go.RowKit Go.Lib
def mkB (cols : List Int) (L : List Ex) (a b c : Nat) : AB := .cells [.sl (cols.map AV.int), .gs a ((rawI L L 0).map Ins.av), .gs b ((L.map (typE cols)).map AV.int), .int 0, .own c 0] 100
def stM (cols : List Int) (q a b c : Nat) (L : List Ex) (σ : Nat → AB) : Nat → AB := fun r =>
  if r = q then mkB cols L a b c else if r = a then .tail L.length 78 7 else if r = b then .tail L.length 3 1 else if r = c then .obj (mapI (entI L L 0)) else σ r
structure Mk (cols : List Int) (q a b c : Nat) (L : List Ex) (σ : Nat → AB) : Prop where
  hq : σ q = mkB cols L a b c
  ha : σ a = .tail L.length 78 7
  hb : σ b = .tail L.length 3 1
  hc : σ c = .obj (mapI (entI L L 0))
section
variable {cols : List Int} {q a b c : Nat} {L M : List Ex} {σ : Nat → AB}
theorem Mk.ne (h : Mk cols q a b c L σ) : a ≠ q ∧ b ≠ q ∧ c ≠ q ∧ b ≠ a ∧ c ≠ a ∧ c ≠ b := by
  obtain ⟨h1, h2, h3, h4⟩ := h
  refine ⟨?_, ?_, ?_, ?_, ?_, ?_⟩ <;> (intro e; subst e)
  · rw [h1] at h2; cases h2
  · rw [h1] at h3; cases h3
  · rw [h1] at h4; cases h4
  · rw [h2] at h3; injection h3 with e1 e2 e3; exact absurd e2 (by decide)
  · rw [h2] at h4; cases h4
  · rw [h3] at h4; cases h4
theorem Mk.self (h : Mk cols q a b c L σ) : stM cols q a b c L σ = σ := by
  funext r
  unfold stM
  split
  · rename_i e; rw [e, h.hq]
  split
  · rename_i e; rw [e, h.ha]
  split
  · rename_i e; rw [e, h.hb]
  split
  · rename_i e; rw [e, h.hc]
  · rfl
theorem stM_mk (h : Mk cols q a b c L σ) (M : List Ex) : Mk cols q a b c M (stM cols q a b c M σ) := by
  obtain ⟨h1, h2, h3, h4, h5, h6⟩ := h.ne
  exact ⟨by simp [stM], by simp [stM, h1], by simp [stM, h2, h4], by simp [stM, h3, h5, h6]⟩
theorem stM_stM (L M : List Ex) : stM cols q a b c M (stM cols q a b c L σ) = stM cols q a b c M σ := by
  funext r
  unfold stM
  repeat' split
  all_goals rfl
theorem Mk.loc {n0 : Nat} (h : Mk cols q a b c L σ) (hfin : Fin σ n0) (K : List AB) : Mk cols q a b c L (loc σ n0 K) := by
  obtain ⟨h1, h2, h3, h4⟩ := h
  exact ⟨loc_at hfin h1 (by simp [mkB]) K, loc_at hfin h2 (by simp) K, loc_at hfin h3 (by simp) K, loc_at hfin h4 (by simp) K⟩
theorem Mk.lt {n0 : Nat} (h : Mk cols q a b c L σ) (hfin : Fin σ n0) : q < n0 ∧ a < n0 ∧ b < n0 ∧ c < n0 := by
  obtain ⟨h1, h2, h3, h4⟩ := h
  exact ⟨fin_lt hfin h1 (by simp [mkB]), fin_lt hfin h2 (by simp), fin_lt hfin h3 (by simp), fin_lt hfin h4 (by simp)⟩
theorem stM_loc {n0 : Nat} (hq : q < n0) (ha : a < n0) (hb : b < n0) (hc : c < n0) (K : List AB) : stM cols q a b c M (loc σ n0 K) = loc (stM cols q a b c M σ) n0 K := by
  funext r
  by_cases hr : r < n0
  · rw [qec _ _ _ _ hr]
    unfold stM
    rw [qec _ _ _ _ hr]
  · unfold stM loc
    rw [if_neg hr, if_neg hr, if_neg (by omega), if_neg (by omega), if_neg (by omega), if_neg (by omega)]
theorem mkB_cl {n0 : Nat} (ha : a < n0) (hb : b < n0) (hc : c < n0) : (mkB cols L a b c).cl n0 := by
  unfold mkB
  simp [ha, hb, hc]
theorem stM_cl {n0 : Nat} (hcl : ∀ r, (σ r).cl n0) (ha : a < n0) (hb : b < n0) (hc : c < n0) : ∀ r, (stM cols q a b c M σ r).cl n0 := fun r => by
  unfold stM
  split
  · exact mkB_cl ha hb hc
  split
  · trivial
  split
  · trivial
  split
  · trivial
  · exact hcl r
end
theorem acallT {P : Program} {f : FuncId} {args : List AV} {n n0 : Nat} {t : Nat → AV} {σ : Nat → AB} {L : List AB} {K : AV → AS → Prop} {x : AV} (σ' : Nat → AB) (h : AC P f args (loc σ n0 L) fun y τ => y = x ∧ τ = loc σ' n0 L) (hK : K x ⟨n, t, σ', n0, L⟩) : ACall P f args ⟨n, t, σ, n0, L⟩ K :=
  ⟨x, ⟨n, t, σ', n0, L⟩, h, ⟨rfl, rfl, rfl⟩, hK⟩
theorem acT_of_awp {P : Program} {f : FuncId} {fn : Func} {c : Code} {rs : List ResultVar} {args : List AV} {x : AV} {N : Nat} {σ σ' : Nat → AB} (hf : P.funcs[f]? = some fn) (hN : fn.ntmps = N) (hb : fn.body = some c) (hr : fn.results = rs.toArray) (hlen : rs.length ≤ 4) (ha : Nat.ble args.length N = true) (hx : ∀ n, x.cl n)
    (h : ∀ n0, Fin σ n0 → (∀ r, (σ r).cl n0) → AV.fitss args → Fin σ' n0 ∧ (∀ r, (σ' r).cl n0) ∧ awp P c (fun e s' => (e = .normal ∨ e = .ret) ∧ s'.n0 = n0 ∧ s'.σ = σ' ∧ ares P s' rs x) { n := N, t := qdk args 0, σ := σ, n0 := n0, L := [] }) : AC P f args σ fun y τ => y = x ∧ τ = σ' := by
  subst hN
  refine ac_of_awp hf hb hr hlen (Nat.le_of_ble_eq_true ha) fun n0 hfin hcl hft => ?_
  obtain ⟨g1, g2, g3⟩ := h n0 hfin hcl hft
  refine qej g3 fun e s' ⟨h1, h2, h3, h4⟩ => ⟨h1, h2, x, h4, hx n0, fun k _ => by rw [h3]; exact g2 k, rfl, ?_⟩
  funext k
  unfold Proofs.YtnkimlkoijfcpaaGreatDoor.cut
  rw [h3]
  split
  · rfl
  · exact (g1 k (by omega)).symm
theorem stM_fin {cols : List Int} {q a b c : Nat} {M : List Ex} {σ : Nat → AB} {n0 : Nat} (hfin : Fin σ n0) (hq : q < n0) (ha : a < n0) (hb : b < n0) (hc : c < n0) : Fin (stM cols q a b c M σ) n0 := fun r hr => by
  unfold stM
  rw [if_neg (by omega), if_neg (by omega), if_neg (by omega), if_neg (by omega)]
  exact hfin r hr
theorem aseqX_step {P : Program} {ops : Array Oper} {K : AS → Prop} {o : Oper} {l : List Oper} {s : AS} (h : match awant ops o s.t with
    | some b => qbz b (aevX P s o.op (fun x s1 => dstOk o.dst s1.n ∧ aseqX P ops K l (s1.put o.dst x))) (dstOk o.dst s.n ∧ aseqX P ops K l (s.put o.dst (.v undef)))
    | none => False) : aseqX P ops K (o :: l) s := h
theorem aseqX_end {P : Program} {ops : Array Oper} {K : AS → Prop} {s : AS} (h : K s) : aseqX P ops K [] s := h
theorem stM_new {cols : List Int} {q a b c : Nat} {M R : List Ex} {τ : Nat → AB} {B : AB} {n : Nat} (h : Mk cols q a b c M τ) (hB : B = mkB cols R a b c) (hn : n = R.length) :
    upd (upd (upd (upd τ a (.tail n 78 7)) b (.tail n 3 1)) q B) c (.obj (mapI (entI R R 0))) = stM cols q a b c R τ := by
  obtain ⟨n1, n2, n3, n4, n5, n6⟩ := h.ne
  subst hB hn
  funext r
  unfold stM upd
  by_cases h1 : r = c
  · subst h1; simp [n3, n5, n6]
  · rw [if_neg h1, if_neg h1]
    by_cases h2 : r = q
    · rw [if_pos h2, if_pos h2]
    · rw [if_neg h2, if_neg h2]
      by_cases h3 : r = b
      · subst h3; simp [n4]
      · rw [if_neg h3, if_neg h3]
end Go.Proofs.YtnkimlkoijfcpaaGreatDoor

/- Walk of layer 26: add. -/
namespace Go.Proofs.YtnkimlkoijfcpaaGreatDoor
open Go.RowKit Go.Lib
theorem findE_le (L : List Ex) (e : Ex) : -1 ≤ findE L e ∧ findE L e ≤ L.length := by
  refine ⟨findE_ge L e, ?_⟩
  by_cases h : 0 ≤ findE L e
  · have := qdf (L := L) (e := e) (k := (findE L e).toNat) (by omega)
    have := (List.getElem?_eq_some_iff.1 this).1
    omega
  · omega
set_option maxRecDepth 100000 in
set_option maxHeartbeats 16000000 in
theorem add_ac (cols : List Int) (hcols : cols.length ≤ 1000000) (q a b c : Nat) (e : Ex) : ∀ (L : List Ex) (σ : Nat → AB), PartsG cols L → TypE cols e → n64 e → L.length + parts e ≤ 1000000 → Mk cols q a b c L σ →
    AC Tryz.prog 53 [.ptr q 0, e.av] σ fun y τ => y = .int (findE (qbc e L) e) ∧ τ = stM cols q a b c (qbc e L) σ := by
  induction e using Ex.ind with | h o n s l ih => ?_
  intro L σ hg hT hn hsz hM
  obtain ⟨hn1, hn2⟩ := qcn.1 hn
  have hl3 : l.length ≤ 3 := typ_args hT
  have hpe : parts (.mk o n s l) = qu l + 1 := by rw [parts]
  have hTl : ∀ x ∈ l, TypE cols x ∧ n64 x := fun x hx => ⟨hT.arg x hx, hn2 x hx⟩
  obtain ⟨hgM, hMl, -⟩ := qcy hg hTl
  obtain ⟨M, hMd⟩ : ∃ M, M = qt l L := ⟨_, rfl⟩
  have hlM : M.length ≤ L.length + qu l := by rw [hMd]; exact qca l L
  rw [← hMd] at hgM hMl
  obtain ⟨R, hR⟩ : ∃ R, R = qbc (.mk o n s l) L := ⟨_, rfl⟩
  have hR2 := hR
  rw [qbc, ← hMd] at hR2
  rw [← hR]
  refine acT_of_awp Tryz.func53 Tryz.ntmps53 rfl rfl (by decide) rfl (by intro n; simp) fun n0 hfin hcl hft => ?_
  obtain ⟨hq, ha, hb, hc⟩ := hM.lt hfin
  refine ⟨stM_fin hfin hq ha hb hc, stM_cl hcl ha hb hc, ?_⟩
  obtain ⟨G, hG⟩ : ∃ G : Nat → Nat → Int, G = fun k j => if j < k then regK M (.mk o n s l) j else 0 := ⟨_, rfl⟩
  have hG0 : ∀ j, G 0 j = 0 := fun j => by rw [hG]; simp
  have hGl : ∀ j, G l.length j = regK M (.mk o n s l) j := fun j => by
    rw [hG]; dsimp only
    split
    · rfl
    · unfold regK
      rw [show (Ex.mk o n s l).args = l from rfl, List.getElem?_eq_none (by omega)]
  have hGs : ∀ k j, j ≠ k → G (k + 1) j = G k j := fun k j h => by
    rw [hG]; dsimp only
    by_cases h2 : j < k
    · rw [if_pos h2, if_pos (by omega)]
    · rw [if_neg h2, if_neg (by omega)]
  have hGk : ∀ k (h : k < l.length), G (k + 1) k = findE (qt (l.take (k + 1)) L) l[k] + 1 := fun k h => by
    rw [hG]; dsimp only
    rw [if_pos (by omega)]
    unfold regK
    rw [show (Ex.mk o n s l).args = l from rfl, List.getElem?_eq_getElem h]
    dsimp only
    have h1 : M = qt (l.drop (k + 1)) (qt (l.take (k + 1)) L) := by
      rw [hMd, ← qeq, List.take_append_drop]
    obtain ⟨g1, g2, -⟩ := qcy (l := l.take (k + 1)) hg fun x hx => hTl x (List.mem_of_mem_take hx)
    obtain ⟨g3, -, r, g4⟩ := qcy (l := l.drop (k + 1)) g1 fun x hx => hTl x (List.mem_of_mem_drop hx)
    rw [h1, g4]
    rw [g4] at g3
    rw [find_pre g3.di (g2 _ (List.mem_take_iff_getElem.2 ⟨k, by omega, rfl⟩))]
  clear hG
  repeat' (first | ((first | ((with_reducible refine qo (fun hg => ?_) (fun hg => ?_)) <;> (try simp only [hg]) <;> (try simp only [gS] at hg) <;> (try (first | simp only [eq_false hg, gI] | simp only [eq_true hg, gI]))) | (with_reducible first | refine qf ?_ | refine qe ?_ | refine qk ?_ | refine qj ?_) | refine qc ?_ | refine qh ?_ | refine qi ?_ | refine qm ?_) <;> (try simp (disch := first | omega | simp) [qg, -qq, -qr])) | ((with_reducible refine sideT ?_ ?_); first | omega | assumption | (simp; done)) | (refine qd fun K hK => ?_) | (refine qa ?_) | refine ql ?_ | ((first | refine hK _ ?_ | (clear hK K; refine hK _ ?_) | (clear hK K; clear hK K; refine hK _ ?_)); clear hK K) | refine qb ?_)
  refine awp_loopS (fun k => stM cols q a b c (qt (l.take k) L) σ) (fun k : Nat => [(0, .ptr q 0), (3, .ptr n0 0), (5, .ptr (n0 + 1) 0), (22, .sl (l.map Ex.av)), (23, .int l.length), (24, .int k)])
    (fun k => [.cells [.int o, .int n, .str s, .sl (l.map Ex.av)] 25, .cells [.int o, .int n, .str s, .int (G k 0), .int (G k 1), .int (G k 2)] 145])
    (fun k => k ≤ l.length) (fun k => l.length - k) 0 (fun k _ => stM_cl hcl ha hb hc) (by omega) (by
      rw [List.take_zero, qt, hM.self]
      simp [leS, hG0]; omega) hcl fun k hk => ?_
  by_cases hlt : k < l.length
  · have hx := hTl l[k] (List.getElem_mem hlt)
    obtain ⟨gk, -, -⟩ := qcy (l := l.take k) hg fun x hx => hTl x (List.mem_of_mem_take hx)
    have hpk : (qt (l.take k) L).length + parts l[k] ≤ 1000000 := by
      have h1 := qca (l.take k) L
      have h2 := qdn l k hlt
      have h3 := qbh l (k + 1)
      omega
    have hMk := stM_mk hM (qt (l.take k) L)
    have hfk : Fin (stM cols q a b c (qt (l.take k) L) σ) n0 := stM_fin hfin hq ha hb hc
    have hst : qbc l[k] (qt (l.take k) L) = qt (l.take (k + 1)) L := by
      rw [List.take_succ_eq_append_getElem hlt, partsPs_snoc]
    have c1 := fun Lo => ih l[k] (List.getElem_mem hlt) (qt (l.take k) L) _ gk hx.1 hx.2 hpk (hMk.loc hfk Lo)
    rw [hst] at c1
    have c2 : ∀ Lo, AC Tryz.prog 53 [.ptr q 0, l[k].av] (loc (stM cols q a b c (qt (l.take k) L) σ) n0 Lo) fun y τ => y = .int (findE (qt (l.take (k + 1)) L) l[k]) ∧ τ = loc (stM cols q a b c (qt (l.take (k + 1)) L) σ) n0 Lo := fun Lo => by
      have := c1 Lo
      rw [stM_loc hq ha hb hc, stM_stM] at this
      exact this
    have hGk2 := hGk k hlt
    have hfe := findE_le (qt (l.take (k + 1)) L) l[k]
    have hle : ((qt (l.take (k + 1)) L).length : Int) ≤ 1000000 := by
      have h1 := qca (l.take (k + 1)) L
      have h3 := qbh l (k + 1)
      omega
    obtain ⟨F, hF⟩ : ∃ F, F = findE (qt (l.take (k + 1)) L) l[k] := ⟨_, rfl⟩
    rw [← hF] at hfe hGk2 c2
    have hF2 : F + 1 ≤ 9223372036854775807 := by omega
    have hF3 : -9223372036854775808 ≤ F + 1 := by omega
    have hG1 := hGs k
    obtain rfl | rfl | rfl : k = 0 ∨ k = 1 ∨ k = 2 := by omega
    · have hi : (0 : Int) < l.length := by omega
      have e0 : G 1 0 = F + 1 := hGk2
      have e1 : G 1 1 = G 0 1 := hG1 1 (by omega)
      have e2 : G 1 2 = G 0 2 := hG1 2 (by omega)
      repeat' (first | ((first | with_reducible refine qek (id := 5) ?_ | ((with_reducible refine qo (fun hg => ?_) (fun hg => ?_)) <;> (try simp only [hg]) <;> (try simp only [gS] at hg) <;> (try (first | simp only [eq_false hg, gI] | simp only [eq_true hg, gI]))) | (with_reducible first | refine qf ?_ | refine qe ?_ | refine qk ?_ | refine qj ?_) | refine acallT _ (c2 _) ?_ | refine qc ?_ | refine qh ?_ | refine qi ?_ | refine qm ?_) <;> (try simp (disch := first | omega | simp) [qg, -qq, -qr, hlt, hi, hF2, hF3])) | ((with_reducible refine sideT ?_ ?_); first | omega | assumption | (simp; done)) | (refine qd fun K hK => ?_) | (refine qa ?_) | refine ql ?_ | ((first | refine hK _ ?_ | (clear hK K; refine hK _ ?_) | (clear hK K; clear hK K; refine hK _ ?_)); clear hK K) | refine qb ?_)
      exact ⟨stM_cl hcl ha hb hc, 1, by omega, by omega, fun r _ => rfl, by simp [e0, e1, e2]; omega⟩
    · have hi : (1 : Int) < l.length := by omega
      have e0 : G 2 0 = G 1 0 := hG1 0 (by omega)
      have e1 : G 2 1 = F + 1 := hGk2
      have e2 : G 2 2 = G 1 2 := hG1 2 (by omega)
      repeat' (first | ((first | with_reducible refine qek (id := 5) ?_ | ((with_reducible refine qo (fun hg => ?_) (fun hg => ?_)) <;> (try simp only [hg]) <;> (try simp only [gS] at hg) <;> (try (first | simp only [eq_false hg, gI] | simp only [eq_true hg, gI]))) | (with_reducible first | refine qf ?_ | refine qe ?_ | refine qk ?_ | refine qj ?_) | refine acallT _ (c2 _) ?_ | refine qc ?_ | refine qh ?_ | refine qi ?_ | refine qm ?_) <;> (try simp (disch := first | omega | simp) [qg, -qq, -qr, hlt, hi, hF2, hF3])) | ((with_reducible refine sideT ?_ ?_); first | omega | assumption | (simp; done)) | (refine qd fun K hK => ?_) | (refine qa ?_) | refine ql ?_ | ((first | refine hK _ ?_ | (clear hK K; refine hK _ ?_) | (clear hK K; clear hK K; refine hK _ ?_)); clear hK K) | refine qb ?_)
      exact ⟨stM_cl hcl ha hb hc, 2, by omega, by omega, fun r _ => rfl, by simp [e0, e1, e2]; omega⟩
    · have hi : (2 : Int) < l.length := by omega
      have e0 : G 3 0 = G 2 0 := hG1 0 (by omega)
      have e1 : G 3 1 = G 2 1 := hG1 1 (by omega)
      have e2 : G 3 2 = F + 1 := hGk2
      repeat' (first | ((first | with_reducible refine qek (id := 5) ?_ | ((with_reducible refine qo (fun hg => ?_) (fun hg => ?_)) <;> (try simp only [hg]) <;> (try simp only [gS] at hg) <;> (try (first | simp only [eq_false hg, gI] | simp only [eq_true hg, gI]))) | (with_reducible first | refine qf ?_ | refine qe ?_ | refine qk ?_ | refine qj ?_) | refine acallT _ (c2 _) ?_ | refine qc ?_ | refine qh ?_ | refine qi ?_ | refine qm ?_) <;> (try simp (disch := first | omega | simp) [qg, -qq, -qr, hlt, hi, hF2, hF3])) | ((with_reducible refine sideT ?_ ?_); first | omega | assumption | (simp; done)) | (refine qd fun K hK => ?_) | (refine qa ?_) | refine ql ?_ | ((first | refine hK _ ?_ | (clear hK K; refine hK _ ?_) | (clear hK K; clear hK K; refine hK _ ?_)); clear hK K) | refine qb ?_)
      exact ⟨stM_cl hcl ha hb hc, 3, by omega, by omega, fun r _ => rfl, by simp [e0, e1, e2]; omega⟩
  · obtain rfl : k = l.length := by omega
    rw [List.take_length, ← hMd, hGl, hGl, hGl]
    have hMτ := stM_mk hM M
    have hRτ : stM cols q a b c R σ = stM cols q a b c R (stM cols q a b c M σ) := (stM_stM M R).symm
    have hself := hMτ.self
    rw [hRτ]
    have hclτ := stM_cl (cols := cols) (q := q) (M := M) hcl ha hb hc
    generalize stM cols q a b c M σ = τ at hMτ hclτ hself hRτ ⊢
    have hMlen : M.length ≤ 1000000 := by omega
    have hMl1 : (M.length : Int) ≤ 1000000 := by omega
    have tq : τ q = .cells [.sl (cols.map AV.int), .gs a ((rawI M M 0).map Ins.av), .gs b ((M.map (typE cols)).map AV.int), .int 0, .own c 0] 100 := hMτ.hq
    have ta := hMτ.ha
    have tb := hMτ.hb
    have tc := hMτ.hc
    by_cases he : Ex.mk o n s l ∈ M
    · have hf := qbv.2 he
      rw [if_neg (by omega)] at hR2
      have look := part_hit hgM hMlen he
      rw [hR2, hself]
      repeat' (first | ((first | ((with_reducible refine qo (fun hg => ?_) (fun hg => ?_)) <;> (try simp only [hg]) <;> (try simp only [gS] at hg) <;> (try (first | simp only [eq_false hg, gI] | simp only [eq_true hg, gI]))) | (with_reducible first | refine qf ?_ | refine qe ?_ | refine qk ?_ | refine qj ?_) | refine alook (look) ?_ | refine aupd (look) ?_ | refine qc ?_ | refine qh ?_ | refine qi ?_ | refine qm ?_) <;> (try simp (disch := first | omega | simp) [qg, -qq, -qr, hlt, hq, ha, hb, hc, tq, ta, tb, tc, qec])) | ((with_reducible refine sideT ?_ ?_); first | omega | assumption | (simp; done)) | (refine qd fun K hK => ?_) | (refine qa ?_) | refine ql ?_ | ((first | refine hK _ ?_ | (clear hK K; refine hK _ ?_) | (clear hK K; clear hK K; refine hK _ ?_)); clear hK K) | refine qb ?_)
      all_goals exact ⟨by rw [hRτ, hR2, hself], by rw [hR2]⟩
    · have hf : findE M (Ex.mk o n s l) < 0 := by
        have := mt qbv.1 he; omega
      rw [if_pos hf] at hR2
      have look := part_miss hgM hMlen hT hn hMl he
      have upd1 := part_upd hgM hMlen hT hn hMl he
      have ct := type_g [] cols [] (.mk o n s l) (by omega) (by simp)
      simp only [Ex.av_mk, List.map_nil] at ct
      have hk0 := regK_i64 (L := M) hMlen (.mk o n s l)
      have hkr : ∀ k, 0 ≤ regK M (.mk o n s l) k ∧ regK M (.mk o n s l) k ≤ 1000001 := fun k => by
        unfold regK
        split
        · rename_i x hx
          have h1 := findE_le M x
          omega
        · omega
      have k0 := hkr 0
      have k1 := hkr 1
      have k2 := hkr 2
      have ak : ∀ k, (if regK M (.mk o n s l) k - 1 < 0 then 0 else regK M (.mk o n s l) k - 1) = argI M (.mk o n s l) k := fun k => by
        have h1 := hkr k
        unfold regK argI at *
        cases hk2 : (Ex.mk o n s l).args[k]? with
        | none => simp
        | some x =>
          have hx := qbv.2 (hMl x (List.mem_of_getElem? hk2))
          simp only
          rw [if_neg (by omega)]; omega
      have ak0 := ak 0
      have ak1 := ak 1
      have ak2 := ak 2
      obtain ⟨n1, n2, n3, n4, n5, n6⟩ := hMτ.ne
      have n1' := n1.symm
      have n2' := n2.symm
      have n3' := n3.symm
      have n4' := n4.symm
      have n5' := n5.symm
      have n6' := n6.symm
      have rl := rawI_len M M 0
      have wr : AV.wid ((rawI M M 0).map Ins.av) 7 := Ins.avs_wid _
      have wt : AV.wid (M.map (AV.int ∘ typE cols)) 1 := AV.wid_map (f := AV.int ∘ typE cols) (fun _ => rfl) _
      have bs1 : (M.length + 1) * 72 ≤ 140737488355328 := by omega
      have bs2 : (M.length + 1) * 8 ≤ 140737488355328 := by omega
      repeat' (first | ((first | ((with_reducible refine qo (fun hg => ?_) (fun hg => ?_)) <;> (try simp only [hg]) <;> (try simp only [gS] at hg) <;> (try (first | simp only [eq_false hg, gI] | simp only [eq_true hg, gI]))) | (with_reducible first | refine qf ?_ | refine qe ?_ | refine qk ?_ | refine qj ?_) | refine qc ?_ | refine qh ?_ | refine qi ?_ | refine qm ?_) <;> (try simp (disch := first | omega | simp) [qg, -qq, -qr, hlt, hq, ha, hb, hc, tq, ta, tb, tc, qec, -aseqX, ak0, ak1, ak2])) | ((with_reducible refine sideT ?_ ?_); first | omega | assumption | (simp; done)) | (refine qd fun K hK => ?_) | (refine qa ?_) | ((first | refine hK _ ?_ | (clear hK K; refine hK _ ?_) | (clear hK K; clear hK K; refine hK _ ?_)); clear hK K) | refine qb ?_)
      refine qdd true (by kernel_rfl) (by kernel_rfl) ?_
      repeat' (first | ((first | with_reducible refine qek (id := 11) ?_ | ((with_reducible refine qo (fun hg => ?_) (fun hg => ?_)) <;> (try simp only [hg]) <;> (try simp only [gS] at hg) <;> (try (first | simp only [eq_false hg, gI] | simp only [eq_true hg, gI]))) | (with_reducible first | refine qf ?_ | refine qe ?_ | refine qk ?_ | refine qj ?_) | refine alook (look) ?_ | refine aupd (look) ?_ | refine aseqX_step ?_ | refine aseqX_end ?_ | refine qc ?_ | refine qh ?_ | refine qi ?_ | refine qm ?_) <;> (try simp (disch := first | omega | simp) [qg, -qq, -qr, hlt, hq, ha, hb, hc, tq, ta, tb, tc, qec, -aseqX, ak0, ak1, ak2])) | ((with_reducible refine sideT ?_ ?_); first | omega | assumption | (simp; done)) | (refine qd fun K hK => ?_) | (refine qa ?_) | ((first | refine hK _ ?_ | (clear hK K; refine hK _ ?_) | (clear hK K; clear hK K; refine hK _ ?_)); clear hK K) | refine qb ?_)
      refine qdd true (by kernel_rfl) (by kernel_rfl) ?_
      repeat' (first | ((first | ((with_reducible refine qo (fun hg => ?_) (fun hg => ?_)) <;> (try simp only [hg]) <;> (try simp only [gS] at hg) <;> (try (first | simp only [eq_false hg, gI] | simp only [eq_true hg, gI]))) | (with_reducible first | refine qf ?_ | refine qe ?_ | refine qk ?_ | refine qj ?_) | refine acall (ct) ?_ | refine qp (ct) ?_ | refine qc ?_ | refine qh ?_ | refine qi ?_ | refine qm ?_) <;> (try simp (disch := first | omega | simp) [qg, -qq, -qr, hlt, hq, ha, hb, hc, tq, ta, tb, tc, qec, -aseqX, ak0, ak1, ak2])) | ((with_reducible refine sideT ?_ ?_); first | omega | assumption | (simp; done)) | (refine qd fun K hK => ?_) | (refine qa ?_) | ((first | refine hK _ ?_ | (clear hK K; refine hK _ ?_) | (clear hK K; clear hK K; refine hK _ ?_)); clear hK K) | refine qb ?_)
      refine awp_anyQ [.unborn, .unborn, .cells [.int o, .int M.length, .int (argI M (.mk o n s l) 0), .int (argI M (.mk o n s l) 1), .int (argI M (.mk o n s l) 2), .int n, .str s] 78] q [.R, .R, .R, .R, .R, .R, .N, .R, .R, .A, .R, .R, .R, .R, .N, .R, .R, .A, .R, .R, .R, .W, .R, .R, .R, .W] (by kernel_rfl) (by kernel_rfl) (by simp) ?_
      repeat' (first | ((first | ((with_reducible refine qo (fun hg => ?_) (fun hg => ?_)) <;> (try simp only [hg]) <;> (try simp only [gS] at hg) <;> (try (first | simp only [eq_false hg, gI] | simp only [eq_true hg, gI]))) | (with_reducible first | refine qf ?_ | refine qe ?_ | refine qk ?_ | refine qj ?_) | refine qc ?_ | refine qh ?_ | refine qi ?_ | refine qm ?_) <;> (try simp (disch := first | omega | simp) [qg, -qq, -qr, hlt, hq, ha, hb, hc, tq, ta, tb, tc, qec, -aseqX, ak0, ak1, ak2, n1, n2, n3, n4, n5, n6, n1', n2', n3', n4', n5', n6', rl, wr, wt, bs1, bs2])) | ((with_reducible refine sideT ?_ ?_); first | omega | assumption | (simp; done)) | (refine qd fun K hK => ?_) | (refine qa ?_) | ((first | refine hK _ ?_ | (clear hK K; refine hK _ ?_) | (clear hK K; clear hK K; refine hK _ ?_)); clear hK K) | refine qb ?_)
      refine awp_anyQ [.unborn, .cells [.int o, .int n, .str s, .int (regK M (.mk o n s l) 0), .int (regK M (.mk o n s l) 1), .int (regK M (.mk o n s l) 2)] 145] q [.R, .R, .R, .N, .R, .R, .W] (by kernel_rfl) (by kernel_rfl) (by simp) ?_
      repeat' (first | ((first | ((with_reducible refine qo (fun hg => ?_) (fun hg => ?_)) <;> (try simp only [hg]) <;> (try simp only [gS] at hg) <;> (try (first | simp only [eq_false hg, gI] | simp only [eq_true hg, gI]))) | (with_reducible first | refine qf ?_ | refine qe ?_ | refine qk ?_ | refine qj ?_) | refine alook (upd1) ?_ | refine aupd (upd1) ?_ | refine qc ?_ | refine qh ?_ | refine qi ?_ | refine qm ?_) <;> (try simp (disch := first | omega | simp) [qg, -qq, -qr, hlt, hq, ha, hb, hc, tq, ta, tb, tc, qec, -aseqX, ak0, ak1, ak2, n1, n2, n3, n4, n5, n6, n1', n2', n3', n4', n5', n6', rl, wr, wt, bs1, bs2])) | ((with_reducible refine sideT ?_ ?_); first | omega | assumption | (simp; done)) | (refine qd fun K hK => ?_) | (refine qa ?_) | ((first | refine hK _ ?_ | (clear hK K; refine hK _ ?_) | (clear hK K; clear hK K; refine hK _ ?_)); clear hK K) | refine qb ?_)
      have hsn := raw_snoc hgM.cl (dist_snoc hgM.di he) hMl
      refine ⟨?_, ?_⟩
      · rw [hRτ, hR2]
        refine stM_new hMτ ?_ (by simp)
        unfold mkB
        rw [hsn.1]
        simp [insE, Ins.av, typE, -Ins.av_fold, Ex.op, Ex.n, Ex.s]
      · rw [hR2, findE_at (dist_snoc hgM.di he) (k := M.length) (by simp)]
end Go.Proofs.YtnkimlkoijfcpaaGreatDoor

/- The empty expression, and an expression or none, as abstract values. -/
namespace Go.Proofs.YtnkimlkoijfcpaaGreatDoor
open Go.RowKit Go.Lib
@[simp] def exr (o : Option Ex) : AV := .tup [(o.getD zeroE).av, .bool o.isSome]
@[simp] theorem zeroE_av : zeroE.av = .agg [.int 0, .int 0, .str ByteArray.empty, .sl []] := by unfold zeroE; rw [Ex.av_mk]; rfl
end Go.Proofs.YtnkimlkoijfcpaaGreatDoor

/- Walks of layer 16: clone and put, of the program. -/
namespace Go.Proofs.YtnkimlkoijfcpaaGreatDoor
open Go.RowKit Go.Lib
set_option maxHeartbeats 4000000 in
theorem pclone_g (e : Ex) : parts e ≤ 1000000 → Gives Tryz.prog 144 [e.av] e.av := by
  induction e using Ex.ind with | h o n s l ih => ?_
  intro hb
  have hl : l.length ≤ 1000000 := by rw [parts] at hb; have := qbd l; omega
  refine qn Tryz.func144 Tryz.ntmps144 rfl rfl (by decide) rfl (by intro n; simp) fun σ n0 hcl hft => ?_
  repeat' (first | ((first | ((with_reducible refine qo (fun hg => ?_) (fun hg => ?_)) <;> (try simp only [hg]) <;> (try simp only [gS] at hg) <;> (try (first | simp only [eq_false hg, gI] | simp only [eq_true hg, gI]))) | (with_reducible first | refine qf ?_ | refine qe ?_ | refine qk ?_ | refine qj ?_) | refine qc ?_ | refine qh ?_ | refine qi ?_ | refine qm ?_) <;> (try simp (disch := first | omega | simp) [qg, -qq, -qr])) | ((with_reducible refine sideT ?_ ?_); first | omega | assumption | (simp; done)) | (refine qd fun K hK => ?_) | (refine qa ?_) | refine ql ?_ | ((first | refine hK _ ?_ | (clear hK K; refine hK _ ?_) | (clear hK K; clear hK K; refine hK _ ?_)); clear hK K) | refine qb ?_)
  refine qbf 2 3 25 4 (by rfl) (by rfl) ?_
  refine qs hcl (fun k : Nat => [(1, .ptr n0 0), (2, .ptr (n0 + 1) 0), (3, .ptr (n0 + 2) 0), (14, .sl (l.map Ex.av)), (15, .int l.length), (16, .int k)])
    (fun k => [.cells [.int o, .int n, .str s, .sl (l.map Ex.av)] 25, .cells [.int 0, .int 0, .str ByteArray.empty, .v (.slice none 0 0)] 25, .cells [.int o, .int n, .str s, .gs (n0 + 3) ((l.take k).map Ex.av)] 25, .tail k 25 4])
    (fun k => k ≤ l.length) (fun k => l.length - k) 0 (by simp) (by simp) fun k hk => ?_
  have hcls : ∀ m k, AV.cls m (List.take k (l.map Ex.av)) := fun m k => by rw [← List.map_take]; exact AV.cls_map (fun e => e.av_cl m) _
  by_cases hlt : k < l.length
  · have hpk : parts l[k] ≤ 1000000 := by rw [parts] at hb; have := qbb l l[k] (List.getElem_mem hlt); omega
    have c1 := ih _ (List.getElem_mem hlt) hpk
    have hlk : min k l.length = k := by omega
    have bs : (k + 1) * 40 ≤ 140737488355328 := by omega
    repeat' (first | ((first | ((with_reducible refine qo (fun hg => ?_) (fun hg => ?_)) <;> (try simp only [hg]) <;> (try simp only [gS] at hg) <;> (try (first | simp only [eq_false hg, gI] | simp only [eq_true hg, gI]))) | (with_reducible first | refine qf ?_ | refine qe ?_ | refine qk ?_ | refine qj ?_) | refine acall (c1) ?_ | refine qp (c1) ?_ | refine qc ?_ | refine qh ?_ | refine qi ?_ | refine qm ?_) <;> (try simp (disch := first | omega | simp) [qg, -qq, -qr, hlt, hlk, bs, hcls])) | (with_reducible refine qdd (id := 5) false (by kernel_rfl) (by kernel_rfl) ?_) | ((with_reducible refine sideT ?_ ?_); first | omega | assumption | (simp; done)) | (refine qd fun K hK => ?_) | (refine qa ?_) | refine ql ?_ | ((first | refine hK _ ?_ | (clear hK K; refine hK _ ?_) | (clear hK K; clear hK K; refine hK _ ?_)); clear hK K) | refine qb ?_)
    exact ⟨k + 1, by omega, by omega, by simp [List.take_add_one, hlt, hcls]⟩
  · obtain rfl : k = l.length := by omega
    rw [List.take_length]
    repeat' (first | ((first | ((with_reducible refine qo (fun hg => ?_) (fun hg => ?_)) <;> (try simp only [hg]) <;> (try simp only [gS] at hg) <;> (try (first | simp only [eq_false hg, gI] | simp only [eq_true hg, gI]))) | (with_reducible first | refine qf ?_ | refine qe ?_ | refine qk ?_ | refine qj ?_) | refine qc ?_ | refine qh ?_ | refine qi ?_ | refine qm ?_) <;> (try simp (disch := first | omega | simp) [qg, -qq, -qr, hlt])) | ((with_reducible refine sideT ?_ ?_); first | omega | assumption | (simp; done)) | (refine qd fun K hK => ?_) | (refine qa ?_) | refine ql ?_ | ((first | refine hK _ ?_ | (clear hK K; refine hK _ ?_) | (clear hK K; clear hK K; refine hK _ ?_)); clear hK K) | refine qb ?_)
set_option maxHeartbeats 4000000 in
theorem put_g (op : Int) (L : List Ex) (hL : ∀ x ∈ L, parts x ≤ 1000000) (e : Ex) : parts e ≤ 1000000 → Gives Tryz.prog 111 [e.av, .int op, .sl (L.map Ex.av)] (exr (putP op L e)) := by
  induction e using Ex.ind with | h o n s l ih => ?_
  intro hb
  have hl : l.length ≤ 1000000 := by rw [parts] at hb; have := qbd l; omega
  obtain ⟨R, hR⟩ : ∃ R, R = putP op L (.mk o n s l) := ⟨_, rfl⟩
  rw [← hR]
  rw [putP] at hR
  refine qn Tryz.func111 Tryz.ntmps111 rfl rfl (by decide) rfl (by intro n; simp) fun σ n0 hcl hft => ?_
  by_cases ho : o = op
  · have hob : (o == op) = true := beq_iff_eq.2 ho
    rw [if_pos ho] at hR
    by_cases hn : n < 0
    · rw [if_pos hn] at hR
      repeat' (first | ((first | ((with_reducible refine qo (fun hg => ?_) (fun hg => ?_)) <;> (try simp only [hg]) <;> (try simp only [gS] at hg) <;> (try (first | simp only [eq_false hg, gI] | simp only [eq_true hg, gI]))) | (with_reducible first | refine qf ?_ | refine qe ?_ | refine qk ?_ | refine qj ?_) | refine qc ?_ | refine qh ?_ | refine qi ?_ | refine qm ?_) <;> (try simp (disch := first | omega | simp) [qg, -qq, -qr, hob, hn])) | ((with_reducible refine sideT ?_ ?_); first | omega | assumption | (simp; done)) | (refine qd fun K hK => ?_) | (refine qa ?_) | refine ql ?_ | ((first | refine hK _ ?_ | (clear hK K; refine hK _ ?_) | (clear hK K; clear hK K; refine hK _ ?_)); clear hK K) | refine qb ?_)
      all_goals (rw [hR]; simp)
    · rw [if_neg hn] at hR
      by_cases hn2 : n.toNat < L.length
      · have c1 := pclone_g L[n.toNat] (hL _ (List.getElem_mem hn2))
        have hn3 : n < L.length := by omega
        have hn4 : ¬ (L.length : Int) ≤ n := by omega
        rw [List.getElem?_eq_getElem hn2] at hR
        repeat' (first | ((first | ((with_reducible refine qo (fun hg => ?_) (fun hg => ?_)) <;> (try simp only [hg]) <;> (try simp only [gS] at hg) <;> (try (first | simp only [eq_false hg, gI] | simp only [eq_true hg, gI]))) | (with_reducible first | refine qf ?_ | refine qe ?_ | refine qk ?_ | refine qj ?_) | refine acall (c1) ?_ | refine qp (c1) ?_ | refine qc ?_ | refine qh ?_ | refine qi ?_ | refine qm ?_) <;> (try simp (disch := first | omega | simp) [qg, -qq, -qr, hob, hn, hn2, hn3, hn4])) | ((with_reducible refine sideT ?_ ?_); first | omega | assumption | (simp; done)) | (refine qd fun K hK => ?_) | (refine qa ?_) | refine ql ?_ | ((first | refine hK _ ?_ | (clear hK K; refine hK _ ?_) | (clear hK K; clear hK K; refine hK _ ?_)); clear hK K) | refine qb ?_)
        all_goals (rw [hR]; simp)
      · have hn4 : (L.length : Int) ≤ n := by omega
        rw [List.getElem?_eq_none (by omega)] at hR
        repeat' (first | ((first | ((with_reducible refine qo (fun hg => ?_) (fun hg => ?_)) <;> (try simp only [hg]) <;> (try simp only [gS] at hg) <;> (try (first | simp only [eq_false hg, gI] | simp only [eq_true hg, gI]))) | (with_reducible first | refine qf ?_ | refine qe ?_ | refine qk ?_ | refine qj ?_) | refine qc ?_ | refine qh ?_ | refine qi ?_ | refine qm ?_) <;> (try simp (disch := first | omega | simp) [qg, -qq, -qr, hob, hn, hn4])) | ((with_reducible refine sideT ?_ ?_); first | omega | assumption | (simp; done)) | (refine qd fun K hK => ?_) | (refine qa ?_) | refine ql ?_ | ((first | refine hK _ ?_ | (clear hK K; refine hK _ ?_) | (clear hK K; clear hK K; refine hK _ ?_)); clear hK K) | refine qb ?_)
        all_goals (rw [hR]; simp)
  · have hob : (o == op) = false := beq_eq_false_iff_ne.2 ho
    rw [if_neg ho] at hR
    repeat' (first | ((first | ((with_reducible refine qo (fun hg => ?_) (fun hg => ?_)) <;> (try simp only [hg]) <;> (try simp only [gS] at hg) <;> (try (first | simp only [eq_false hg, gI] | simp only [eq_true hg, gI]))) | (with_reducible first | refine qf ?_ | refine qe ?_ | refine qk ?_ | refine qj ?_) | refine qc ?_ | refine qh ?_ | refine qi ?_ | refine qm ?_) <;> (try simp (disch := first | omega | simp) [qg, -qq, -qr, hob])) | ((with_reducible refine sideT ?_ ?_); first | omega | assumption | (simp; done)) | (refine qd fun K hK => ?_) | (refine qa ?_) | refine ql ?_ | ((first | refine hK _ ?_ | (clear hK K; refine hK _ ?_) | (clear hK K; clear hK K; refine hK _ ?_)); clear hK K) | refine qb ?_)
    refine qbf 2 3 25 4 (by rfl) (by rfl) ?_
    refine qs hcl (fun ys : List Ex => [(1, .int op), (2, .sl (L.map Ex.av)), (3, .ptr n0 0), (6, .ptr (n0 + 1) 0), (7, .bool false), (8, .ptr (n0 + 2) 0), (42, .sl (l.map Ex.av)), (43, .int l.length), (44, .int ys.length)])
      (fun ys => [.cells [.int o, .int n, .str s, .sl (l.map Ex.av)] 25, .cells [.int 0, .int 0, .str ByteArray.empty, .v (.slice none 0 0)] 25, .cells [.int o, .int n, .str s, .gs (n0 + 3) (ys.map Ex.av)] 25, .tail ys.length 25 4])
      (fun ys => ys.length ≤ l.length ∧ putPs op L (l.take ys.length) = some ys) (fun ys => l.length - ys.length) [] (by simp [putPs]) (by simp) fun ys ⟨hk, hys⟩ => ?_
    by_cases hlt : ys.length < l.length
    · have hpk : parts l[ys.length] ≤ 1000000 := by rw [parts] at hb; have := qbb l l[ys.length] (List.getElem_mem hlt); omega
      have c1 := ih _ (List.getElem_mem hlt) hpk
      have bs : (ys.length + 1) * 40 ≤ 140737488355328 := by omega
      cases hx : putP op L l[ys.length] with
      | none =>
        rw [hx] at c1
        rw [putPs_none l (List.getElem_mem hlt) hx] at hR
        repeat' (first | ((first | ((with_reducible refine qo (fun hg => ?_) (fun hg => ?_)) <;> (try simp only [hg]) <;> (try simp only [gS] at hg) <;> (try (first | simp only [eq_false hg, gI] | simp only [eq_true hg, gI]))) | (with_reducible first | refine qf ?_ | refine qe ?_ | refine qk ?_ | refine qj ?_) | refine acall (c1) ?_ | refine qp (c1) ?_ | refine qc ?_ | refine qh ?_ | refine qi ?_ | refine qm ?_) <;> (try simp (disch := first | omega | simp) [qg, -qq, -qr, hlt, bs])) | ((with_reducible refine sideT ?_ ?_); first | omega | assumption | (simp; done)) | (refine qd fun K hK => ?_) | (refine qa ?_) | refine ql ?_ | ((first | refine hK _ ?_ | (clear hK K; refine hK _ ?_) | (clear hK K; clear hK K; refine hK _ ?_)); clear hK K) | refine qb ?_)
        all_goals (rw [hR]; simp)
      | some x =>
        rw [hx] at c1
        have hst : putPs op L (l.take (ys.length + 1)) = some (ys ++ [x]) := by
          rw [List.take_succ_eq_append_getElem hlt]; exact putPs_snoc hx _ hys
        repeat' (first | ((first | ((with_reducible refine qo (fun hg => ?_) (fun hg => ?_)) <;> (try simp only [hg]) <;> (try simp only [gS] at hg) <;> (try (first | simp only [eq_false hg, gI] | simp only [eq_true hg, gI]))) | (with_reducible first | refine qf ?_ | refine qe ?_ | refine qk ?_ | refine qj ?_) | refine acall (c1) ?_ | refine qp (c1) ?_ | refine qc ?_ | refine qh ?_ | refine qi ?_ | refine qm ?_) <;> (try simp (disch := first | omega | simp) [qg, -qq, -qr, hlt, bs])) | ((with_reducible refine sideT ?_ ?_); first | omega | assumption | (simp; done)) | (refine qd fun K hK => ?_) | (refine qa ?_) | refine ql ?_ | ((first | refine hK _ ?_ | (clear hK K; refine hK _ ?_) | (clear hK K; clear hK K; refine hK _ ?_)); clear hK K) | refine qb ?_)
        exact ⟨ys ++ [x], ⟨by simp; omega, by simpa using hst⟩, by simp; omega, by simp⟩
    · have hyl : ys.length = l.length := by omega
      rw [hyl, List.take_length] at hys
      rw [hys] at hR
      repeat' (first | ((first | ((with_reducible refine qo (fun hg => ?_) (fun hg => ?_)) <;> (try simp only [hg]) <;> (try simp only [gS] at hg) <;> (try (first | simp only [eq_false hg, gI] | simp only [eq_true hg, gI]))) | (with_reducible first | refine qf ?_ | refine qe ?_ | refine qk ?_ | refine qj ?_) | refine qc ?_ | refine qh ?_ | refine qi ?_ | refine qm ?_) <;> (try simp (disch := first | omega | simp) [qg, -qq, -qr, hlt])) | ((with_reducible refine sideT ?_ ?_); first | omega | assumption | (simp; done)) | (refine qd fun K hK => ?_) | (refine qa ?_) | refine ql ?_ | ((first | refine hK _ ?_ | (clear hK K; refine hK _ ?_) | (clear hK K; clear hK K; refine hK _ ?_)); clear hK K) | refine qb ?_)
      all_goals (rw [hR]; simp)
end Go.Proofs.YtnkimlkoijfcpaaGreatDoor
