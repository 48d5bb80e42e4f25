/- Ranges over functions: a round as a call of 'yield', iterators as functions that call it, and the walk of a function that ranges. -/
import Derived.RangeFuncRecord
import Derived.RangeFuncSeq
import Derived.RangeFuncOwn
import Derived.Test.YtbkkjlcclddpdaaGreatDoorGd10
import Derived.Test.YtbkkjlcclddpdaaGreatDoorGd12
set_option linter.unusedSimpArgs false
set_option linter.unusedVariables false
namespace Go.Proofs.YtbkkjlcclddpdaaGreatDoor
open Go.RowKit Go.Lib
def St.bornO (X : St) (r : Nat) (ab : AB) (o : Obj) (v : Value) : St := { w := X.w.alloc o, μ := upd X.μ r v, S := X.S, σ := upd X.σ r ab }
section
variable {X : St} {r : Nat} {ab : AB} {o : Obj} {v : Value}
theorem bornO_blk {k b : Nat} (hv : ab.blk v = some X.w.heap.size) (h : (X.bornO r ab o v).blk k = some b) : (k = r ∧ b = X.w.heap.size) ∨ (k ≠ r ∧ X.blk k = some b) := by
  unfold St.blk St.bornO upd at h
  dsimp only at h
  by_cases hk : k = r
  · rw [if_pos hk, if_pos hk, hv] at h; cases h; exact .inl ⟨hk, rfl⟩
  · rw [if_neg hk, if_neg hk] at h; exact .inr ⟨hk, h⟩
theorem bornO_fr (hS : SR X) (hu : X.σ r = .unborn) (hv : ab.blk v = some X.w.heap.size) : Fr X (X.bornO r ab o v) where
  os := rfl
  tape := rfl
  output := rfl
  size := by simp [St.bornO]
  keep := fun b hb _ => Below.heap_alloc _ _ _ hb
  keepS := fun b o h => World.cell?_of_block (Below.heap_alloc _ _ _ (hS.old b o h))
  more := fun _ _ h => h
  less := fun _ _ h => .inl h
  ver := fun k => by
    by_cases hk : k = r
    · subst hk; unfold Ver; rw [hu]; trivial
    · have h1 : (X.bornO r ab o v).σ k = X.σ k := by simp [St.bornO, upd, hk]
      have h2 : (X.bornO r ab o v).μ k = X.μ k := by simp [St.bornO, upd, hk]
      have := (Fr.refl X).ver k
      unfold Ver at this ⊢
      rw [h1, h2]; exact this
  own := fun k b hb => by
    rcases bornO_blk hv hb with ⟨-, rfl⟩ | ⟨-, h⟩
    · exact .inl (Nat.le_refl _)
    · exact .inr ⟨k, h⟩
theorem bornO_sr (hS : SR X) (hu : X.σ r = .unborn) (hv : ab.blk v = some X.w.heap.size) (hbr : BR (X.bornO r ab o v) ab v) : SR (X.bornO r ab o v) where
  block := fun k => by
    by_cases hk : k = r
    · subst hk
      have h1 : (X.bornO k ab o v).σ k = ab := by simp [St.bornO, upd]
      have h2 : (X.bornO k ab o v).μ k = v := by simp [St.bornO, upd]
      rw [h1, h2]; exact hbr
    · refine BR.fr hS (bornO_fr hS hu hv) (by simp [St.bornO, upd, hk]) (by simp [St.bornO, upd, hk]) fun b hb => Below.heap_alloc _ _ _ (hS.lt hb)
  alone := fun k k' b h1 h2 => by
    rcases bornO_blk hv h1 with ⟨rfl, rfl⟩ | ⟨hk, h3⟩ <;> rcases bornO_blk hv h2 with ⟨rfl, h4⟩ | ⟨hk', h4⟩
    · rfl
    · have := hS.lt h4; omega
    · have := hS.lt h3; omega
    · exact hS.alone k k' b h3 h4
  apart := fun k b o h1 h2 => by
    rcases bornO_blk hv h1 with ⟨rfl, rfl⟩ | ⟨hk, h3⟩
    · exact absurd (hS.old _ _ h2) (Nat.lt_irrefl _)
    · obtain ⟨n, e, s, h4, h5⟩ := hS.apart k b o h3 h2
      exact ⟨n, e, s, by simp [St.bornO, upd, hk, h4], h5⟩
  old := fun b o hb => Nat.lt_of_lt_of_le (hS.old b o hb) (by simp [St.bornO])
  glob := hS.glob.mono fun _ _ _ hc => hc.fr (bornO_fr hS hu hv)
theorem susp_turns (hS : SR X) {b : Nat} {o o' : Obj} {t : Nat → AV} {a : Array Value} (hX : X.σ r = .susp b o t a) : Turns X (X.w.putObj b o') X.S r (.susp b o' t a) (X.μ r) := by
  have hb := hS.block r
  rw [hX] at hb
  obtain ⟨hm, hh, -⟩ := hb
  have hblk : X.blk r = some b := by unfold St.blk; rw [hX, hm]; rfl
  have hne : ∀ o, ¬ X.S b o := fun o ho => by
    obtain ⟨n, e, s, h, -⟩ := hS.apart r b o hblk ho
    rw [hX] at h; cases h
  have hlt := (Array.getElem?_eq_some_iff.1 hh).1
  refine ⟨by rw [hblk]; exact grownBy_putObj' _ _ _, fun b' h => ?_, ?_, fun b' o h1 h2 => ?_, fun _ _ h => h, fun _ _ h => .inl h, fun b' o h1 h2 => ?_, fun b' h => ?_⟩
  · rw [hm] at h; cases h; exact .inl hblk
  · unfold Ver; rw [hX]; exact .inr ⟨⟨o', t, a, by simp [St.turn, upd]⟩, by simp [St.turn, upd]⟩
  · rw [hblk] at h1; cases h1; exact absurd h2 (hne o)
  · rw [hm] at h1; cases h1; exact absurd h2 (hne o)
  · rw [hm] at h; cases h; simpa using hlt
end
theorem con_susp {X0 X : St} {s : AS} {a : Act} (hc : Con X0 s a X.w X) {r b : Nat} {o : Obj} {t : Nat → AV} {ar : Array Value} (hs : s.st r = .susp b o t ar) (o' : Obj) : X.w.heap[b]? = some o ∧ (∀ d, RR X (t d) (ar.getD d undef)) ∧ ∃ X', Con X0 (s.set r (.susp b o' t ar)) a (X.w.putObj b o') X' ∧ Fr X X' := by
  have hX : X.σ r = .susp b o t ar := by rw [hc.σ, hs]
  have hb := hc.sr.block r
  rw [hX] at hb
  obtain ⟨hm, hh, hreg⟩ := hb
  have hT := susp_turns hc.sr hX (o' := o')
  have hF := qfn hc.sr hT
  refine ⟨hh, hreg, _, qep hc (by rw [hs]; simp) hT ⟨hm, World.putObj_heap_same (Array.getElem?_eq_some_iff.1 hh).1, fun d => (hreg d).fr hF⟩, hF⟩
section
variable {P : Program} {s : AS}
def AY (P : Program) (l : Nat) (args : List AV) (σ : Nat → AB) (Q : AV → (Nat → AB) → Prop) : Prop :=
  ∀ (X : St) (vals : List Value) (nx : Nat), SR X → X.σ = σ → Fin σ nx → RRl X args vals →
    YieldAt Fence.wide 0 P l vals.toArray X.w fun e w' => ∃ Y v x, e = .returned v ∧ Y.w = w' ∧ Q x Y.σ ∧ SR Y ∧ Fr X Y ∧ RR Y x v
theorem eop_yield {l : Nat} {d : Tmp} {args : List Operand} {tys : Array TypeId} {x : AV} {s1 : AS} {K : AV → AS → Prop} (hd : s.t d = .v (.func (.yield l) #[] #[])) (hn : ∀ y ∈ args, ∀ l, s.eval y ≠ .tup l)
    (h : AY P l ((args.map s.eval).map AV.pub) s.st fun y τ => y = x ∧ τ = s1.st) (hs : s1.t = s.t ∧ s1.n = s.n ∧ s1.n0 = s.n0) (hK : K x s1) : EOp P s (.call { callee := .value (.tmp d), args := args.toArray, argTypes := tys }) K := by
  intro X0 a w X oper ho hc Q ro
  have hw := hc.w
  subst hw
  have hfn := hc.eval (.tmp d)
  change RR X (s.t d) _ at hfn
  rw [hd, RR.v] at hfn
  obtain ⟨fn, tmps, assign, body, hy, hR⟩ := h X (args.map a.eval) s.nx hc.sr hc.σ s.fin (rrl_args hc args hn).pub
  have hrun : (execOp a.eval oper).run P X.w = .ok (.round l fn tmps assign body) X.w := by
    simp [execOp, ho, resolve, hfn, Deferred.ofValue, invoke]
    simpa using hy
  refine ⟨fun _ _ => trivial, ?_⟩
  rw [show (FW ro).round = ro from rfl, Oper.semAt_eq _ _ _ (fun c h => by rw [ho] at h; cases h), hrun, Oper.uponIn_round]
  refine ⟨fun h => (by cases h), RoundIn.mono (show RoundIn (FW ro) (0 - 1) P l fn tmps assign body X.w _ from hR) ?_⟩
  rintro e w' ⟨Y, v, y, rfl, rfl, ⟨rfl, hσ⟩, hS, hF, hR⟩
  exact ⟨v, y, s1, Y, rfl, hK, ⟨rfl, hσ, hS, hc.fr.trans hF, by rw [hs.2.1]; exact hc.size, fun d => by rw [hs.1]; exact (hc.regs d).fr hF, rfl, by rw [hs.2.2]; exact hc.fin⟩, hR⟩
def AYield (P : Program) (l : Nat) (args : List AV) (s : AS) (K : AV → AS → Prop) : Prop := ∃ x s1, AY P l args s.st (fun y τ => y = x ∧ τ = s1.st) ∧ (s1.t = s.t ∧ s1.n = s.n ∧ s1.n0 = s.n0) ∧ K x s1
theorem ayield {l n n0 : Nat} {t : Nat → AV} {σ : Nat → AB} {L : List AB} {args : List AV} {K : AV → AS → Prop} {x : AV} (σ' : Nat → AB) (h : AY P l args (loc σ n0 L) fun y τ => y = x ∧ τ = loc σ' n0 L) (hK : K x ⟨n, t, σ', n0, L⟩) : AYield P l args ⟨n, t, σ, n0, L⟩ K :=
  ⟨x, ⟨n, t, σ', n0, L⟩, h, ⟨rfl, rfl, rfl⟩, hK⟩
def yieldCall (P : Program) (ops : Array Oper) (s : AS) (o : Oper) (K : AS → Prop) : Prop :=
  match o.op with
  | .call { callee := .value (.tmp d), args := ⟨args⟩, .. } => awant ops o s.t = some true ∧ nts (args.map s.eval) = true ∧ ∃ l, s.t d = .v (.func (.yield l) #[] #[]) ∧ AYield P l ((args.map s.eval).map AV.pub) s (fun x s1 => dstOk o.dst s1.n ∧ K (s1.put o.dst x))
  | _ => False
theorem yieldCall_sound {ops : Array Oper} {K K' : AS → Prop} {o : Oper} {l : List Oper} (hk : ∀ s, K' s → aseq P ops K l s) (h : yieldCall P ops s o K') : aseq P ops K (o :: l) s := by
  unfold yieldCall at h
  rw [aseq]
  split at h
  · rename_i d args ty hop
    obtain ⟨hwt, h1, l', h2, x, s1, h3, h4, h5, h6⟩ := h
    refine ⟨true, hwt, ?_⟩
    show EOp P s o.op _
    rw [hop]
    exact eop_yield h2 (qdr h1) h3 h4 ⟨h5, hk _ h6⟩
  · exact h.elim
theorem qcu {id : Nat} {l : List Oper} {Q : Exit → AS → Prop} (k : Nat) {o : Oper} (ho : l[k]? = some o) (h : qg P l.toArray (fun s => yieldCall P l.toArray s o fun s => qg P l.toArray (Q .normal) (l.drop (k + 1)) s) (l.take k) s) : awp P (.region id l.toArray false) Q s := by
  refine qea ?_
  have h1 : l = l.take k ++ o :: l.drop (k + 1) := by
    obtain ⟨hk, he⟩ := List.getElem?_eq_some_iff.1 ho
    rw [← he, ← List.drop_eq_getElem_cons hk, List.take_append_drop]
  have h2 : aseq P l.toArray (Q .normal) (l.take k ++ o :: l.drop (k + 1)) s := aseqC_cut (fun s' hs => yieldCall_sound (fun s'' h => qdz h) hs) h
  rw [← h1] at h2; exact h2
attribute [simp] yieldCall
def Iter (P : Program) (gf : FuncId) (caps : List AV) (xs : List (List AV)) (I : Nat → (Nat → AB) → Prop) (go : Nat → (Nat → AB) → Nat → AB) : Prop :=
  ∀ (l : Nat) (S : Nat → Nat → AB) (m : Nat) (stop : Bool), m ≤ xs.length → (stop = false → m = xs.length) → (stop = true → 0 < m) → (∀ k, k ≤ m → I k (S k)) → (∀ n k, k ≤ m → Fin (S 0) n → Fin (S k) n ∧ ∀ r, (S k r).cl n) →
    (∀ k (_ : k < m) (hx : k < xs.length) n0 L, Fin (S 0) n0 → AY P l xs[k] (loc (go k (S k)) n0 L) fun y τ => y = .v (.bool (!(stop && decide (k + 1 = m)))) ∧ τ = loc (S (k + 1)) n0 L) →
    AC P gf (.v (.func (.yield l) #[] #[]) :: caps) (S 0) fun _ τ => τ = S m
end
section
variable {P : Program}
def markD (D : Nat) : Deferred := { target := .collected D, args := #[] }
def fwp (P : Program) (ds : List Deferred) (c : Code) (Q : Exit → List Deferred → AS → Prop) (s : AS) : Prop :=
  ∀ X0 a w, (∃ X, Con X0 s a w X) → a.defers = ds → c.wpIn (FW none) 0 P (fun e a' w' => ∃ s', Q e a'.defers s' ∧ ∃ X', Con X0 s' a' w' X') a w
def FThen (K : List Deferred → AS → Prop) (Q : Exit → List Deferred → AS → Prop) : Exit → List Deferred → AS → Prop
  | .normal, ds, s => K ds s
  | e, ds, s => Q e ds s
theorem qcq {ds : List Deferred} {x y : Code} {Q : Exit → List Deferred → AS → Prop} {s : AS} (h : ∀ K : List Deferred → AS → Prop, (∀ ds s, fwp P ds y Q s → K ds s) → fwp P ds x (FThen K Q) s) : fwp P ds (.seq x y) Q s := fun X0 a w hc hd =>
  wpIn_seq (Go.wpIn_mono (h _ (fun _ _ h => h) X0 a w hc hd) fun e a' w' ⟨s', q, hc'⟩ => by
    cases e with
    | normal => exact q X0 a' w' hc' rfl
    | exit id => exact ⟨s', q, hc'⟩
    | goto l => exact ⟨s', q, hc'⟩
    | ret => exact ⟨s', q, hc'⟩
    | panic c => exact ⟨s', q, hc'⟩
    | outgrown => exact ⟨s', q, hc'⟩)
def FBlock (id : Nat) (Q : Exit → List Deferred → AS → Prop) : Exit → List Deferred → AS → Prop
  | .exit id', ds, s => if id' = id then Q .normal ds s else Q (.exit id') ds s
  | e, ds, s => Q e ds s
theorem fwp_block {ds : List Deferred} {id : Nat} {c : Code} {Q : Exit → List Deferred → AS → Prop} {s : AS} (h : fwp P ds c (FBlock id Q) s) : fwp P ds (.block id c) Q s := fun X0 a w hc hd =>
  wpIn_block (Go.wpIn_mono (h X0 a w hc hd) fun e a' w' ⟨s', q, hc'⟩ => by
    cases e with
    | normal => exact ⟨s', q, hc'⟩
    | exit id' =>
      simp only [FBlock, Exit.inBlock] at q ⊢
      split
      · rw [if_pos ‹_›] at q; exact ⟨s', q, hc'⟩
      · rw [if_neg ‹_›] at q; exact ⟨s', q, hc'⟩
    | goto l => exact ⟨s', q, hc'⟩
    | ret => exact ⟨s', q, hc'⟩
    | panic c => exact ⟨s', q, hc'⟩
    | outgrown => exact ⟨s', q, hc'⟩)
theorem qel {ds : List Deferred} {c : Code} {Q : Exit → List Deferred → AS → Prop} {s : AS} (h : awp P c (fun e s' => Q e ds s') s) : fwp P ds c Q s := fun X0 a w hc hd =>
  Go.wpIn_mono (h X0 a w hc none) fun e a' w' ⟨s', q, hc', hd'⟩ => ⟨s', by rw [hd', hd]; exact q, hc'⟩
attribute [simp] FThen FBlock
def markB (D : Nat) : AB := .susp D (.deferred (some [])) (fun _ => .any) #[]
@[simp] theorem markB_cl (D m : Nat) : (markB D).cl m := fun _ => by rw [AV.cl]; trivial
def argT (t : Nat → AV) : List Tmp → List AV → Nat → AV
  | p :: ps, x :: xs => argT (upd t p x) ps xs
  | _, _ => t
def updB (σ : Nat → AB) (n0 : Nat) (Bs : List AB) : Nat → AB := fun r => if r < n0 then σ r else match Bs[r - n0]? with
  | some b => b
  | none => σ r
structure RFacts (σ : Nat → AB) (n0 : Nat) (Bs : List AB) (σ' : Nat → AB) (nx : Nat) : Prop where
  lt : n0 + Bs.length < nx
  at' : ∀ i b, Bs[i]? = some b → σ' (n0 + i) = b
  low : ∀ r, r < n0 → σ' r = σ r
  cl : ∀ r, (σ' r).cl nx
def jcode : Exit → Code
  | .exit id => .exit id
  | _ => .ret
theorem argT_rr {X : St} : ∀ (ps : List Tmp) (xs : List AV) (vs : List Value) (t : Nat → AV) (a : Array Value), (∀ p ∈ ps, p < a.size) → RRl X xs vs → (∀ d, RR X (t d) (a.getD d undef)) → ∀ d, RR X (argT t ps xs d) (((ps.zip vs).foldl (fun t (p, v) => t.setIfInBounds p v) a).getD d undef)
  | [], xs, vs, t, a, _, _, h, d => by simpa [argT] using h d
  | p :: ps, [], vs, t, a, _, hx, h, d => by
    have : vs = [] := hx
    subst this
    simpa [argT] using h d
  | p :: ps, x :: xs, vs, t, a, hp, hx, h, d => by
    obtain ⟨v, vs', rfl, h1, h2⟩ := hx
    rw [List.zip_cons_cons, List.foldl_cons, argT]
    refine argT_rr ps xs vs' _ _ (fun q hq => by simpa using hp q (by simp [hq])) h2 (fun j => ?_) d
    have hpa := hp p (by simp)
    unfold upd
    by_cases hj : j = p
    · subst hj
      rw [if_pos rfl]
      have : (a.setIfInBounds j v).getD j undef = v := by simp [Array.getD, hpa]
      rw [this]; exact h1.rr
    · rw [if_neg hj]
      have : (a.setIfInBounds p v).getD j undef = a.getD j undef := by
        have hne : p ≠ j := fun e => hj e.symm
        rw [Array.getD_eq_getD_getElem?, Array.getD_eq_getD_getElem?, Array.getElem?_setIfInBounds_ne hne]
      rw [this]; exact h j
theorem foldl_size (l : List (Tmp × Value)) : ∀ a : Array Value, (l.foldl (fun t (p, v) => t.setIfInBounds p v) a).size = a.size := by
  induction l with
  | nil => intro a; rfl
  | cons x l ih => intro a; rw [List.foldl_cons, ih]; simp
theorem rrl_len {X : St} : ∀ {l : List AV} {vs : List Value}, RRl X l vs → vs.length = l.length
  | [], vs, h => by have : vs = [] := h; subst this; rfl
  | x :: l, _, h => by obtain ⟨v, vs', rfl, -, h2⟩ := h; simp [rrl_len h2]
theorem loc_of {σ : Nat → AB} {n0 : Nat} {L : List AB} {i : Nat} {b : AB} (h : L[i]? = some b) : loc σ n0 L (n0 + i) = b := by
  unfold loc; rw [if_neg (by omega), Nat.add_sub_cancel_left, List.getD_eq_getElem?_getD, h]; rfl
def recL (fn : FuncId) (a : Array Value) (ps : Array Tmp) (assign body : Code) (D : Nat) (st : LoopState) (pe : Option Code) : Loop := { state := st, pending := pe, fn, tmps := a, params := ps, assign, body, defers := D }
theorem fwp_range {n n0 : Nat} {t : Nat → AV} {σ : Nat → AB} {L : List AB} {d : Tmp} {psl : List Tmp} {assign body : Code} {Q : Exit → List Deferred → AS → Prop} {gf : FuncId} {caps : List AV} {xs : List (List AV)} {I : Nat → (Nat → AB) → Prop} {go : Nat → (Nat → AB) → Nat → AB}
    (hd : t d = .fn gf caps) (henter : enters P gf = true) (hit : Iter P gf caps xs I go) (B A : Nat → List AB) (m : Nat) (stop : Bool) (je : Exit) (hje : je = .ret ∨ ∃ id, je = .exit id) (hL : L = B 0)
    (hm : m ≤ xs.length) (hs0 : stop = false → m = xs.length) (hs1 : stop = true → 0 < m) (hcl : ∀ r, (σ r).cl n0) (hlen : ∀ k, k ≤ m → (B k).length = L.length) (hlenA : ∀ k, k < m → (A k).length = L.length) (hBcl : ∀ k, k ≤ m → cbs (n0 + L.length) (B k))
    (hI : ∀ k, k ≤ m → ∀ Z, I k (loc σ n0 (B k ++ Z))) (hgo : ∀ k, k < m → ∀ Z, go k (loc σ n0 (B k ++ Z)) = loc σ n0 (A k ++ Z)) (hps : ∀ p ∈ psl, p < n) (hxs : ∀ x ∈ xs, x.length = psl.length)
    (round : ∀ k (_ : k < m) (hx : k < xs.length) (σ' σb : Nat → AB) (nx : Nat), RFacts σ n0 (A k) σ' nx → RFacts σ n0 (A k) σb nx → (∀ x ∈ xs[k], x.cl nx) →
      awp P assign (AThen (fun s1 => s1.n = n ∧ s1.n0 = nx ∧ s1.σ = σ' ∧ awp P body (fun e s2 => e = (if stop && decide (k + 1 = m) then je else .normal) ∧ s2.n0 = nx ∧ s2.σ = updB σb n0 (B (k + 1))) { s1 with σ := σb }) fun _ _ => False) ⟨n, argT t psl xs[k], σ', nx, []⟩)
    (after : ∀ D, Q (if stop then je else .normal) [markD D] ⟨n, t, σ, n0, B m ++ [markB D]⟩) : fwp P [] (.rangeFunc (.tmp d) psl.toArray assign body) Q ⟨n, t, σ, n0, L⟩ := by
  intro X0 a w ⟨X, hc⟩ hds
  have hw := hc.w
  subst hw
  refine wpIn_rangeFunc ?_
  intro fn hfn
  obtain ⟨D, hD⟩ : ∃ D, D = X.w.heap.size := ⟨_, rfl⟩
  obtain ⟨rec, hrec⟩ : ∃ rec, rec = recL fn a.tmps psl.toArray assign body D := ⟨_, rfl⟩
  have hfnv := hc.regs d
  change RR X (t d) _ at hfnv
  rw [hd] at hfnv
  change RC X (.fn gf caps) [a.eval (.tmp d)] at hfnv
  have hfn2 := hfnv
  rw [RC] at hfnv
  obtain ⟨lb, hv, hcaps⟩ := hfnv
  have hev : a.eval (.tmp d) = .func (.func gf) #[] lb.toArray := by simpa using hv
  have hu1 : X.σ (n0 + L.length) = .unborn := by rw [hc.σ]; exact AS.fin _ _ (Nat.le_refl _)
  have hvD : (markB D).blk (.map (some X.w.heap.size)) = some X.w.heap.size := rfl
  let X1 : St := X.bornO (n0 + L.length) (markB D) (.deferred (some [])) (.map (some X.w.heap.size))
  have hS1 : SR X1 := bornO_sr hc.sr hu1 hvD ⟨by rw [hD], by rw [hD]; exact World.alloc_heap_new _ _, fun d => trivial⟩
  have hF1 : Fr X X1 := bornO_fr hc.sr hu1 hvD
  have hsz1 : X1.w.heap.size = D + 1 := by rw [hD]; exact World.size_alloc _ _
  have hu2 : X1.σ (n0 + L.length + 1) = .unborn := by
    show upd X.σ (n0 + L.length) _ (n0 + L.length + 1) = _
    unfold upd
    rw [if_neg (by omega), hc.σ]; exact AS.fin _ _ (by show n0 + L.length ≤ _; omega)
  have hvL : (AB.susp (D + 1) (.loop (rec .ready none)) t a.tmps).blk (.map (some X1.w.heap.size)) = some X1.w.heap.size := rfl
  let X2 : St := X1.bornO (n0 + L.length + 1) (.susp (D + 1) (.loop (rec .ready none)) t a.tmps) (.loop (rec .ready none)) (.map (some X1.w.heap.size))
  have hF2 : Fr X1 X2 := bornO_fr hS1 hu2 hvL
  have hS2 : SR X2 := bornO_sr hS1 hu2 hvL ⟨by rw [hsz1], by rw [← hsz1]; exact World.alloc_heap_new _ _, fun j => (hc.regs j).fr (hF1.trans hF2)⟩
  obtain ⟨Z, hZ⟩ : ∃ Z : LoopState → Option Code → List AB, Z = fun st pe => [markB D, .susp (D + 1) (.loop (rec st pe)) t a.tmps] := ⟨_, rfl⟩
  have hσ2 : X2.σ = loc σ n0 (L ++ Z .ready none) := by
    show upd (upd X.σ (n0 + L.length) _) (n0 + L.length + 1) _ = _
    rw [hc.σ]
    show upd (upd (loc σ n0 L) (n0 + L.length) _) (n0 + L.length + 1) _ = _
    rw [qfi, show n0 + L.length + 1 = n0 + (L ++ [markB D]).length by simp; omega, qfi, hZ]
    simp
  obtain ⟨S, hSdef⟩ : ∃ S : Nat → Nat → AB, S = fun k => loc σ n0 (B k ++ (if stop && decide (k = m) then Z .done (some (jcode je)) else Z .ready none)) := ⟨_, rfl⟩
  have hS0 : S 0 = X2.σ := by
    rw [hσ2, hSdef, hL]
    have : (stop && decide (0 = m)) = false := by
      cases stop with
      | false => rfl
      | true => have := hs1 rfl; simp; omega
    simp only [this]; rfl
  have htcl : ∀ j, (t j).cl (n0 + L.length) := fun j => (hc.regs j).cl fun r hr => by rw [hc.σ]; exact AS.fin _ _ hr
  have hZlen : ∀ st pe, (Z st pe).length = 2 := fun st pe => by rw [hZ]; rfl
  have hSfin : ∀ k, k ≤ m → Fin (S k) (n0 + L.length + 2) := fun k hk r hr => by
    rw [hSdef]
    show loc _ _ _ r = _
    unfold loc
    rw [if_neg (by omega), List.getD_eq_getElem?_getD, List.getElem?_eq_none (by rw [List.length_append, hlen k hk]; split <;> (rw [hZlen]; omega))]; rfl
  have hScl : ∀ k, k ≤ m → ∀ r, (S k r).cl (n0 + L.length + 2) := fun k hk r => by
    rw [hSdef]
    show (loc _ _ _ r).cl _
    unfold loc
    split
    · exact AB.cl_mono (by omega) (hcl r)
    · have h1 := cbs_spec (hBcl k hk)
      rw [List.getD_eq_getElem?_getD]
      by_cases h2 : r - n0 < (B k).length
      · rw [List.getElem?_append_left h2, ← List.getD_eq_getElem?_getD]
        exact AB.cl_mono (by omega) (h1 _)
      · rw [List.getElem?_append_right (by omega)]
        have hz : ∀ st pe (j : Nat), ((Z st pe)[j]?.getD AB.unborn).cl (n0 + L.length + 2) := fun st pe j => by
          rw [hZ]
          dsimp only
          match j with
          | 0 => simp
          | 1 =>
            simp only [List.getElem?_cons_succ, List.getElem?_cons_zero, Option.getD_some]
            exact fun q => AV.cl_mono (Nat.le_add_right _ 2) _ (htcl q)
          | j + 2 => simp [AB.cl]
        split <;> exact hz _ _ _
  have hne : ∀ k, k ≤ m → ∀ r, r < n0 + L.length + 2 → n0 + L.length ≤ r → S k r ≠ .unborn := fun k hk r h1 h2 he => by
    rw [hSdef] at he
    have h3 : r = n0 + L.length ∨ r = n0 + (L.length + 1) := by omega
    have h5 : ∀ st pe, loc σ n0 (B k ++ Z st pe) r ≠ .unborn := fun st pe he => by
      rcases h3 with rfl | rfl
      · rw [loc_of (b := markB D) (by rw [List.getElem?_append_right (by rw [hlen k hk]; omega), hlen k hk, hZ]; simp)] at he
        cases he
      · rw [loc_of (b := .susp (D + 1) (.loop (rec st pe)) t a.tmps) (by rw [List.getElem?_append_right (by rw [hlen k hk]; omega), hlen k hk, hZ]; simp)] at he
        cases he
    revert he
    dsimp only
    split <;> exact h5 _ _
  have hn2 : ∀ nn, Fin (S 0) nn → n0 + L.length + 2 ≤ nn := fun nn hf => Nat.le_of_not_lt fun hlt => hne 0 (Nat.zero_le _) (n0 + L.length + 1) (by omega) (by omega) (hf _ (by omega))
  have hrun := hit (D + 1) S m stop hm hs0 hs1 (fun k hk => by rw [hSdef]; exact hI k hk _) (fun nn k hk hf => ⟨fun r hr => hSfin k hk r (by have := hn2 nn hf; omega), fun r => AB.cl_mono (hn2 nn hf) (hScl k hk r)⟩) ?round
  case round =>
    intro k hk hx n1 L1 hf1 Y vals nx hSY hσY hfY hvals
    have hn1 := hn2 n1 hf1
    have hbe : (stop && decide (k = m)) = false := by
      have : decide (k = m) = false := decide_eq_false (by omega)
      rw [this, Bool.and_false]
    have hgk : go k (S k) = loc σ n0 (A k ++ Z .ready none) := by
      rw [hSdef]
      simp only [hbe]
      exact hgo k hk _
    rw [hgk] at hσY hfY
    obtain ⟨σ', hσ'⟩ : ∃ σ', σ' = loc (loc σ n0 (A k ++ Z .ready none)) n1 L1 := ⟨_, rfl⟩
    rw [← hσ'] at hσY hfY
    have hAl := hlenA k hk
    have hlow : ∀ r, r < n1 → σ' r = loc σ n0 (A k ++ Z .ready none) r := fun r hr => by rw [hσ']; unfold loc; rw [if_pos hr]
    have hrL : σ' (n0 + L.length + 1) = .susp (D + 1) (.loop (rec .ready none)) t a.tmps := by
      rw [hlow _ (by omega), Nat.add_assoc]
      exact loc_of (by rw [List.getElem?_append_right (by rw [hAl]; omega), hAl, hZ]; simp)
    have hnxL : n0 + L.length + 1 < nx := Nat.lt_of_not_le fun hle => by
      have := hfY _ hle
      rw [hrL] at this; cases this
    have hf' : RFacts σ n0 (A k) σ' nx := ⟨by rw [hAl]; omega, fun i b hi => by
      have h1 := (List.getElem?_eq_some_iff.1 hi).1
      rw [hlow _ (by omega)]
      exact loc_of (by rw [List.getElem?_append_left h1]; exact hi), fun r hr => by
      rw [hlow _ (by omega)]; unfold loc; rw [if_pos hr], fun r => by rw [← hσY]; exact (hSY.block r).cl (by rw [hσY]; exact hfY)⟩
    obtain ⟨σb, hσb⟩ : ∃ σb, σb = upd σ' (n0 + L.length + 1) (.susp (D + 1) (.loop (rec .busy none)) t a.tmps) := ⟨_, rfl⟩
    have hfb : RFacts σ n0 (A k) σb nx := ⟨hf'.lt, fun i b hi => by
      have h1 := (List.getElem?_eq_some_iff.1 hi).1
      rw [hσb]; unfold upd; rw [if_neg (by omega)]; exact hf'.at' i b hi, fun r hr => by
      rw [hσb]; unfold upd; rw [if_neg (by omega)]; exact hf'.low r hr, fun r => by
      rw [hσb]
      exact upd_cl hf'.cl (show (AB.susp _ _ t a.tmps).cl nx from fun q => AV.cl_mono (by omega) _ (htcl q)) r⟩
    have hbl := hSY.block (n0 + L.length + 1)
    rw [hσY, hrL] at hbl
    obtain ⟨hμ, hheap, hregs⟩ := hbl
    have hvl : vals.length = psl.length := by rw [rrl_len hvals]; exact hxs _ (List.getElem_mem hx)
    refine ⟨fn, _, assign, body, (by
      have := run_yield (P := P) (args := vals.toArray) hheap (by rw [hrec]; simp [recL, hvl])
      rw [hrec] at this; exact this), roundIn_of_wpIn trivial ?_⟩
    have hcon : Con Y ⟨n, argT t psl xs[k], σ', nx, []⟩ { tmps := ((psl.toArray).zip vals.toArray).foldl (fun t (p, v) => t.setIfInBounds p v) a.tmps, defers := [] } Y.w Y := by
      refine ⟨rfl, ?_, hSY, Fr.refl Y, ?_, fun j => ?_, rfl, by rw [hσY]; exact hfY⟩
      · rw [hσY]
        funext r
        show _ = loc σ' nx [] r
        unfold loc
        split
        · rfl
        · exact (hfY r (by omega)).trans rfl
      · have := foldl_size (psl.zip vals) a.tmps
        simp only [List.zip_toArray, List.size_toArray, List.foldl_toArray']
        rw [this]; exact hc.size
      · have := argT_rr (X := Y) psl xs[k] vals t a.tmps (fun p hp => by rw [hc.size]; exact hps p hp) hvals hregs j
        simpa only [List.zip_toArray, List.size_toArray, List.foldl_toArray'] using this
    refine Go.wpIn_mono (round k hk hx σ' σb nx hf' hfb (fun x hx' => AV.cls_iff.1 ((RRl.cl (X := Y) (fun r hr => by rw [hσY]; exact hfY r hr) hvals)) x hx') Y _ _ ⟨Y, hcon⟩ (some (D + 1))) ?_
    rintro e a1 w1 ⟨s1, hq, ⟨Y1, hc1⟩, -⟩
    cases e with
    | normal =>
      obtain ⟨e1, e2, e3, hbody⟩ := hq
      have hw1 := hc1.w
      subst hw1
      have hst1 : s1.st (n0 + L.length + 1) = .susp (D + 1) (.loop (rec .ready none)) t a.tmps := by
        unfold AS.st loc; rw [e2, if_pos hnxL, e3, hrL]
      obtain ⟨hh1, -, Y2, hc2, -⟩ := con_susp hc1 hst1 (.loop (rec .busy none))
      have hset : s1.set (n0 + L.length + 1) (.susp (D + 1) (.loop (rec .busy none)) t a.tmps) = { s1 with σ := σb } := by
        unfold AS.set
        rw [e2, if_pos hnxL, e3, ← hσb]
      rw [hset] at hc2
      have hrec1 : ∀ s, ({ rec .ready none with state := s } : Loop) = rec s none := fun s => by rw [hrec]; rfl
      refine ⟨_, by have := run_beginRound (P := P) hh1 (by rw [hrec]; rfl); rw [hrec1] at this; exact this, ?_⟩
      refine Go.wpIn_mono (hbody Y a1 _ ⟨Y2, hc2⟩ (some (D + 1))) ?_
      rintro e a2 w2 ⟨s2, ⟨he, g1, g2⟩, ⟨Y3, hc3⟩, -⟩
      have hw2 := hc3.w
      subst hw2
      have hBl := hlen (k + 1) hk
      have hup : ∀ r, n0 + L.length ≤ r → updB σb n0 (B (k + 1)) r = σb r := fun r hr => by
        unfold updB
        rw [if_neg (by omega), List.getElem?_eq_none (by omega)]
      have hst3 : s2.st (n0 + L.length + 1) = .susp (D + 1) (.loop (rec .busy none)) t a.tmps := by
        unfold AS.st loc
        rw [g1, if_pos hnxL, g2, hup _ (by omega), hσb]; unfold upd; rw [if_pos rfl]
      have fin : ∀ st pe, (if stop && decide (k + 1 = m) then Z .done (some (jcode je)) else Z .ready none) = Z st pe → ∃ Y4, Con Y (s2.set (n0 + L.length + 1) (.susp (D + 1) (.loop (rec st pe)) t a.tmps)) a2 (Y3.w.putObj (D + 1) (.loop (rec st pe))) Y4 ∧ Y3.w.heap[D + 1]? = some (.loop (rec .busy none)) ∧
          (∃ Y5 : St, Y5.w = Y3.w.putObj (D + 1) (.loop (rec st pe)) ∧ Y5.σ = loc (S (k + 1)) n1 L1 ∧ SR Y5 ∧ Fr Y Y5) := fun st pe hst => by
        obtain ⟨hh3, -, Y4, hc4, -⟩ := con_susp hc3 hst3 (.loop (rec st pe))
        refine ⟨Y4, hc4, hh3, Y4.cut nx, by show Y4.w = _; exact hc4.w, ?_, hc4.sr.cut fun r hr => ?_, hc4.fr.cut fun r hr => by rw [hσY]; exact hfY r hr⟩
        all_goals
          have hσ4 : ∀ r, r < nx → Y4.σ r = loc (S (k + 1)) n1 L1 r := fun r hr => by
            rw [hc4.σ]
            have hset4 : s2.set (n0 + L.length + 1) (.susp (D + 1) (.loop (rec st pe)) t a.tmps) = { s2 with σ := upd s2.σ (n0 + L.length + 1) (.susp (D + 1) (.loop (rec st pe)) t a.tmps) } := by
              unfold AS.set; rw [g1, if_pos hnxL]
            rw [hset4]
            show loc (upd s2.σ _ _) s2.n0 s2.L r = _
            unfold loc
            rw [g1, if_pos hr, g2]
            by_cases hr1 : r = n0 + L.length + 1
            · subst hr1
              unfold upd
              rw [if_pos rfl, if_pos (by omega), hSdef]
              show _ = loc _ _ _ _
              rw [hst, Nat.add_assoc]
              exact (loc_of (by rw [List.getElem?_append_right (by rw [hBl]; omega), hBl, hZ]; simp)).symm
            · unfold upd
              rw [if_neg hr1]
              by_cases hr2 : r < n0 + L.length
              · rw [if_pos (by omega), hSdef]
                show updB _ _ _ _ = loc _ _ _ _
                unfold updB loc
                by_cases hr3 : r < n0
                · rw [if_pos hr3, if_pos hr3, hσb]; unfold upd; rw [if_neg hr1]; exact hf'.low r hr3
                · rw [if_neg hr3, if_neg hr3, List.getD_eq_getElem?_getD, List.getElem?_append_left (by omega)]
                  rw [List.getElem?_eq_getElem (show r - n0 < (B (k + 1)).length by omega)]; rfl
              · rw [hup r (by omega), hσb]
                unfold upd
                rw [if_neg hr1]
                by_cases hr4 : r < n1
                · rw [if_pos hr4, hlow r hr4, hSdef]
                  show loc _ _ _ _ = loc _ _ _ _
                  unfold loc
                  rw [if_neg (by omega), if_neg (by omega), List.getD_eq_getElem?_getD, List.getD_eq_getElem?_getD, List.getElem?_append_right (by omega), List.getElem?_append_right (by omega), hAl, hBl, hst, hZ]
                  match hq : r - n0 - L.length with
                  | 0 => rfl
                  | 1 => omega
                  | q + 2 => rfl
                · rw [if_neg hr4, hσ']; unfold loc; rw [if_neg hr4]
        · funext r
          show Proofs.YtbkkjlcclddpdaaGreatDoor.cut nx Y4.σ r = _
          unfold Proofs.YtbkkjlcclddpdaaGreatDoor.cut
          split
          · exact hσ4 r ‹_›
          · rename_i hr
            have h1 := hfY r (by omega)
            by_cases h2 : r < n1
            · unfold loc; rw [if_pos h2]; exact (hSfin (k + 1) hk r (by omega)).symm
            · rw [hσ'] at h1
              unfold loc at h1 ⊢
              rw [if_neg h2] at h1 ⊢
              exact h1.symm
        · rw [hσ4 r hr]
          have : loc (S (k + 1)) n1 L1 r = Y4.σ r := (hσ4 r hr).symm
          by_cases h4 : r < n1
          · unfold loc; rw [if_pos h4]; exact AB.cl_mono (by omega) (hScl (k + 1) hk r)
          · have h5 : loc (S (k + 1)) n1 L1 r = σ' r := by rw [hσ']; unfold loc; rw [if_neg h4, if_neg h4]
            rw [h5]; exact hf'.cl r
      have hrec2 : ∀ s p, ({ rec .busy none with state := s, pending := p } : Loop) = rec s p := fun s p => by rw [hrec]; rfl
      cases hb : (stop && decide (k + 1 = m)) with
      | false =>
        rw [hb] at he
        simp only [Bool.false_eq_true, if_false] at he
        subst he
        obtain ⟨Y4, hc4, hh3, Y5, k1, k2, k3, k4⟩ := fin .ready none (by rw [hb]; rfl)
        refine ⟨_, _, by have := run_endRound (P := P) none hh3; rw [hrec2] at this; exact this, Y5, _, .v (.bool true), rfl, k1, ⟨rfl, k2⟩, k3, k4, RR.v.2 rfl⟩
      | true =>
        rw [hb] at he
        simp only [if_true] at he
        obtain ⟨Y4, hc4, hh3, Y5, k1, k2, k3, k4⟩ := fin .done (some (jcode je)) (by rw [hb]; rfl)
        have hend : ∀ c, c = jcode je → (Instr.endRound (D + 1) (some c)).run P Y3.w = .ok (.bool false) (Y3.w.putObj (D + 1) (.loop (rec .done (some (jcode je))))) := fun c hcj => by
          subst hcj
          have := run_endRound (P := P) (some (jcode je)) hh3; rw [hrec2] at this; exact this
        rcases hje with rfl | ⟨id, rfl⟩
        · subst he
          exact ⟨_, _, hend _ rfl, Y5, _, .v (.bool false), rfl, k1, ⟨rfl, k2⟩, k3, k4, RR.v.2 rfl⟩
        · subst he
          exact ⟨_, _, hend _ rfl, Y5, _, .v (.bool false), rfl, k1, ⟨rfl, k2⟩, k3, k4, RR.v.2 rfl⟩
    | exit id => exact hq.elim
    | goto l => exact hq.elim
    | ret => exact hq.elim
    | panic c => exact hq.elim
    | outgrown => exact hq.elim
  have hcall := hrun X2 (.func (.yield (D + 1)) #[] #[] :: lb) (n0 + L.length + 2) hS2 hS0.symm (hSfin 0 (Nat.zero_le _)) ⟨_, _, rfl, by show RC X2 (.v _) [_]; rw [RC], RRl.fr (hF1.trans hF2) hcaps.rrl⟩
  have hsD : X.w.heap.size + 1 = D + 1 := by rw [hD]
  refine ⟨D + 1, [markD D], X2.w, { target := .fn (.func gf) lb.toArray, args := #[.func (.yield (D + 1)) #[] #[]] }, X2.w, gf, #[.func (.yield (D + 1)) #[] #[]] ++ lb.toArray, X2.w, ?_, ?_, fun _ _ => trivial, ?_, fun h => (by cases h), (callsIn_wide (n := 0 - 1)).2 ?_⟩
  · have := run_enterLoop_outer (P := P) (w := X.w) fn a.tmps psl.toArray assign body
    rw [← hD] at this
    show _ = Result.ok _ ((X.w.alloc _).alloc (.loop (rec .ready none)))
    rw [hrec]; exact this
  · simp only [resolve, hev]
    simp [go_sem]
  · simp [invoke, go_sem, qcr henter]
  have harr : (#[.func (.yield (D + 1)) #[] #[]] ++ lb.toArray : Array Value) = (.func (.yield (D + 1)) #[] #[] :: lb : List Value).toArray := by simp
  rw [harr]
  refine hcall.mono ?_
  rintro e w' ⟨Y, v, x, rfl, rfl, hσ, hSY, hFY, -⟩
  have hfr : Fr X0 Y := ((hc.fr.trans hF1).trans hF2).trans hFY
  obtain ⟨Zm, hZm⟩ : ∃ Zm, Zm = (if stop then Z .done (some (jcode je)) else Z .ready none) := ⟨_, rfl⟩
  have hσm : Y.σ = loc σ n0 (B m ++ Zm) := by
    rw [hσ, hSdef, hZm]
    simp
  have hBm := hlen m (Nat.le_refl _)
  have hcY : Con X0 ⟨n, t, σ, n0, B m ++ Zm⟩ { tmps := a.tmps, defers := markD D :: a.defers } Y.w Y :=
    ⟨rfl, hσm, hSY, hfr, hc.size, fun j => (hc.regs j).fr ((hF1.trans hF2).trans hFY), rfl, hc.fin⟩
  have hZ2 : ∃ st pe, Zm = Z st pe ∧ st ≠ .busy ∧ (pe = if stop then some (jcode je) else none) := by
    rw [hZm]
    cases stop
    · exact ⟨_, _, rfl, by simp, rfl⟩
    · exact ⟨_, _, rfl, by simp, rfl⟩
  obtain ⟨st, pe, hZst, hnb, hpe⟩ := hZ2
  have hstL : (⟨n, t, σ, n0, B m ++ Zm⟩ : AS).st (n0 + L.length + 1) = .susp (D + 1) (.loop (rec st pe)) t a.tmps := by
    show loc σ n0 (B m ++ Zm) _ = _
    rw [Nat.add_assoc]
    exact loc_of (by rw [List.getElem?_append_right (by rw [hBm]; omega), hBm, hZst, hZ]; simp)
  obtain ⟨hhY, -, Y6, hc6, -⟩ := con_susp hcY hstL (.loop { rec st pe with state := .exhausted })
  have hpend : (rec st pe).pending = pe := by rw [hrec]; rfl
  have hend : (Instr.endLoop (D + 1)).run P Y.w = .ok pe (Y.w.putObj (D + 1) (.loop { rec st pe with state := .exhausted })) := by
    have h := run_endLoop (P := P) hhY (by rw [hrec]; exact hnb)
    exact h.trans (congrArg (fun p => Result.ok p _) hpend)
  refine ⟨pe, _, hend, ?_⟩
  have hle : (AS.set ⟨n, t, σ, n0, B m ++ Zm⟩ (n0 + L.length + 1) (.susp (D + 1) (.loop { rec st pe with state := .exhausted }) t a.tmps)).le ⟨n, t, σ, n0, B m ++ [markB D]⟩ := by
    rw [Nat.add_assoc, set_add]
    have hget : ∀ i, i < L.length + 1 → ((B m ++ Zm).set (L.length + 1) (.susp (D + 1) (.loop { rec st pe with state := .exhausted }) t a.tmps))[i]? = (B m ++ [markB D])[i]? := fun i hi => by
      rw [List.getElem?_set_ne (by omega)]
      by_cases h1 : i < L.length
      · rw [List.getElem?_append_left (by omega), List.getElem?_append_left (by omega)]
      · rw [List.getElem?_append_right (by omega), List.getElem?_append_right (by omega), hBm, hZst, hZ]
        have : i - L.length = 0 := by omega
        rw [this]; rfl
    refine ⟨rfl, rfl, by simp [hZst, hZlen], fun r hr => ?_, fun j => .inr ⟨rfl, AV.cl_mono (by show n0 + L.length ≤ n0 + _; simp [hBm]) _ (htcl j)⟩⟩
    have hr' : r < n0 + (L.length + 1) := by
      have : r < n0 + (B m ++ [markB D]).length := hr
      simpa [hBm] using this
    have hnx' : (⟨n, t, σ, n0, B m ++ [markB D]⟩ : AS).nx = n0 + (L.length + 1) := by show n0 + _ = _; simp [hBm]
    rw [hnx']
    show loc σ n0 _ r = loc σ n0 _ r ∧ (loc σ n0 _ r).cl _
    unfold loc
    by_cases h0 : r < n0
    · rw [if_pos h0, if_pos h0]; exact ⟨rfl, AB.cl_mono (by omega) (hcl r)⟩
    · rw [if_neg h0, if_neg h0, List.getD_eq_getElem?_getD, List.getD_eq_getElem?_getD, hget (r - n0) (by omega)]
      refine ⟨rfl, ?_⟩
      by_cases h1 : r - n0 < L.length
      · rw [List.getElem?_append_left (by omega), ← List.getD_eq_getElem?_getD]
        exact AB.cl_mono (by omega) (cbs_spec (hBcl m (Nat.le_refl _)) _)
      · rw [List.getElem?_append_right (by omega), hBm, show r - n0 - L.length = 0 by omega]
        exact markB_cl _ _
  have hc7 := hc6.le hle
  have hds' : ([markD D] ++ a.defers) = [markD D] := by rw [hds]; rfl
  have haft := after D
  cases stop with
  | false =>
    simp only [Bool.false_eq_true, if_false] at hpe haft
    subst hpe
    refine ⟨_, ?_, _, hc7⟩
    show Q .normal ([markD D] ++ a.defers) _
    rw [hds']; exact haft
  | true =>
    simp only [if_true] at hpe haft
    subst hpe
    rcases hje with rfl | ⟨id, rfl⟩
    · refine wpIn_ret ⟨_, ?_, _, hc7⟩
      show Q .ret ([markD D] ++ a.defers) _
      rw [hds']; exact haft
    · refine wpIn_exit ⟨_, ?_, _, hc7⟩
      show Q (.exit id) ([markD D] ++ a.defers) _
      rw [hds']; exact haft
end
end Go.Proofs.YtbkkjlcclddpdaaGreatDoor

/- Calls that give a slice which is the caller's own from then on. -/
namespace Go.Proofs.YtbkkjlcclddpdaaGreatDoor
open Go.RowKit Go.Lib
def GivesV (P : Program) (f : FuncId) (args : List AV) (n : Nat) (ab : AB) : Prop := ∀ σ r, σ r = .unborn → AC P f args σ fun y τ => y = .own r n ∧ τ = upd σ r ab
theorem qw {P : Program} {f : FuncId} {args : List AV} {s : AS} {K : AV → AS → Prop} {n : Nat} {ab : AB} (h : GivesV P f args n ab) (hK : K (.own s.nx n) (s.ext (some ab))) : ACall P f args s K :=
  ⟨.own s.nx n, s.ext (some ab), by rw [(qeo s ab).1]; exact h s.st s.nx (s.fin _ (Nat.le_refl _)), ⟨rfl, rfl, rfl⟩, hK⟩
theorem qex {X Y : St} (hw : Y.w = X.w) (hs : Y.S = X.S) {b : Nat} : ∀ {o : Nat} {cs : List Value}, qbc X b o cs → qbc Y b o cs
  | _, [], _ => trivial
  | o, _ :: cs, h => ⟨by rw [hw]; exact h.1, by rw [hs]; exact h.2.1, qex hw hs h.2.2⟩
theorem qeq {P : Program} {f : FuncId} {fn : Func} {c : Code} {rs : List ResultVar} {args : List AV} {l : List AV} {e : TypeId} {sz N : Nat} (i : Nat) (hf : P.funcs[f]? = some fn) (hN : fn.ntmps = N) (hb : fn.body = some c) (hr : fn.results = rs.toArray) (hlen : rs.length ≤ 4) (ha : Nat.ble args.length N = true) (hl : ∀ m, AV.cls m l)
    (h : ∀ σ n0, (∀ r, (σ r).cl n0) → AV.fitss args → awp P c (fun e' s' => (e' = .normal ∨ e' = .ret) ∧ s'.n0 = n0 ∧ s'.σ = σ ∧ s'.L[i]? = some (.vec l e sz) ∧ ares P s' rs (.own (n0 + i) l.length)) { n := N, t := qdq args 0, σ := σ, n0 := n0, L := [] }) : GivesV P f args l.length (.vec l e sz) := by
  intro σ r hu X vals nx0 hS hσ hfin0 hargs
  subst hσ
  subst hN
  obtain ⟨n0, hn0⟩ : ∃ n0, n0 = max nx0 (r + 1) := ⟨_, rfl⟩
  have hfin : Fin X.σ n0 := fun k hk => hfin0 k (by omega)
  have hrn : r < n0 := by omega
  have hlv : vals.length = args.length := by
    have : ∀ (l : List AV) (vs : List Value), RRl X l vs → vs.length = l.length := fun l => by
      induction l with
      | nil => intro vs h; have : vs = [] := h; subst this; rfl
      | cons x l ih => intro vs h; obtain ⟨v, vs', rfl, -, h2⟩ := h; simp [ih _ h2]
    exact this _ _ hargs
  have ha' : args.length ≤ fn.ntmps := Nat.le_of_ble_eq_true ha
  refine calls_of_wp hf hb (wp_mono (CwpA.plain (h X.σ n0 (fun k => (hS.block k).cl hfin) hargs.fits X { tmps := vals.toArray ++ Array.replicate (fn.ntmps - vals.toArray.size) undef, defers := [] } X.w ⟨X, rfl, ?_, hS, Fr.refl X, ?_, fun d => ?_, rfl, hfin⟩)) ?_)
  · funext k
    show X.σ k = loc X.σ n0 [] k
    unfold loc
    split
    · rfl
    · rw [hfin k (by omega)]; rfl
  · show (vals.toArray ++ Array.replicate _ undef).size = fn.ntmps
    rw [Array.size_append, Array.size_replicate, List.size_toArray]; omega
  · have := qfr args vals [] (fn.ntmps - vals.toArray.size) hargs d (by simp)
    simpa using this
  · rintro e' a' w' ⟨s', ⟨he, hn0', hσ', hL, hx⟩, ⟨X', hc⟩, hdf⟩
    have hw := hc.w
    subst hw
    obtain ⟨v, hv, hR⟩ := qgp hc hr hlen hx
    have hstL : ∀ k, k < n0 → X'.σ k = X.σ k := fun k hk => by
      rw [hc.σ]
      show loc s'.σ s'.n0 s'.L k = _
      unfold loc
      rw [hn0', if_pos hk, hσ']
    have hstI : X'.σ (n0 + i) = .vec l e sz := by
      rw [hc.σ]
      show loc s'.σ s'.n0 s'.L (n0 + i) = _
      unfold loc
      rw [hn0', if_neg (by omega), Nat.add_sub_cancel_left, List.getD_eq_getElem?_getD, hL]; rfl
    have hC := hc.sr.cut (m := n0) fun k hk => by rw [hstL k hk]; exact (hS.block k).cl hfin
    have hFC := hc.fr.cut (m := n0) fun k hk => hfin k hk
    have hσC : (X'.cut n0).σ = X.σ := by
      funext k
      show Proofs.YtbkkjlcclddpdaaGreatDoor.cut n0 X'.σ k = _
      unfold Proofs.YtbkkjlcclddpdaaGreatDoor.cut
      split
      · exact hstL k ‹_›
      · exact (hfin k (by omega)).symm
    have hBI := hc.sr.block (n0 + i)
    rw [hstI] at hBI
    obtain ⟨hwd, xs, hown, hrs⟩ := hBI
    have hblkI : ∀ b, X'.blk (n0 + i) = some b ↔ (X'.μ (n0 + i)).ownBlock = some b := fun b => by unfold St.blk; rw [hstI]; exact Iff.rfl
    let Y : St := { (X'.cut n0) with μ := upd X'.μ r (X'.μ (n0 + i)), σ := upd X.σ r (.vec l e sz) }
    have y1 : Y.σ r = .vec l e sz := by simp [Y, upd]
    have y2 : ∀ k, k ≠ r → Y.σ k = (X'.cut n0).σ k ∧ Y.μ k = (X'.cut n0).μ k := fun k hk => by
      rw [hσC]
      constructor
      · simp [Y, upd, hk]
      · simp [Y, upd, hk, St.cut]
    have y3 : Y.μ r = X'.μ (n0 + i) := by simp [Y, upd]
    have yb : ∀ k b, Y.blk k = some b → (k = r ∧ X'.blk (n0 + i) = some b) ∨ (k ≠ r ∧ (X'.cut n0).blk k = some b) := fun k b h => by
      unfold St.blk at h
      by_cases hk : k = r
      · subst hk
        rw [y1, y3] at h
        exact .inl ⟨rfl, (hblkI b).2 h⟩
      · obtain ⟨e1, e2⟩ := y2 k hk
        rw [e1, e2] at h
        exact .inr ⟨hk, h⟩
    have hvr : ∀ k, Ver (X'.cut n0) Y k := fun k => by
      unfold Ver
      by_cases hk : k = r
      · subst hk; rw [hσC, hu]; trivial
      · obtain ⟨e1, e2⟩ := y2 k hk
        have := (Fr.refl (X'.cut n0)).ver k
        unfold Ver at this
        rw [e1, e2]; exact this
    have hcs : ∀ b o cs, qbc (X'.cut n0) b o cs → qbc Y b o cs := fun b o cs => qex (X := X'.cut n0) (Y := Y) rfl rfl
    have hxs : RCs Y l xs := RCs.vr hcs hvr _ _ (RCs.cut _ _ (hl n0) hrs)
    have hlt : ∀ b, X'.blk (n0 + i) = some b → X.w.heap.size ≤ b ∨ ∃ r', X.blk r' = some b := fun b h => hc.fr.own _ b h
    have hne : ∀ k b, (X'.cut n0).blk k = some b → k < n0 ∧ X'.blk k = some b := fun k b h => St.blk_cut h
    have hSY : SR Y := by
      refine ⟨fun k => ?_, fun k k' b h1 h2 => ?_, fun k b o h1 h2 => ?_, fun b o h => hC.old b o h, hc.sr.glob.mono fun b o cs hg => ⟨qex (X := X') (Y := Y) rfl rfl hg.1, hg.2.1, fun k hk => ?_, hg.2.2.2⟩⟩
      · by_cases hk : k = r
        · subst hk; rw [y1, y3]
          exact ⟨hwd, xs, hown, hxs⟩
        · obtain ⟨e1, e2⟩ := y2 k hk
          rw [e1, e2]
          have hb := hC.block k
          generalize (X'.cut n0).σ k = ab at hb
          generalize (X'.cut n0).μ k = vv at hb
          cases ab with
          | cells cs t => obtain ⟨b, vs, h1, h2, h3⟩ := hb; exact ⟨b, vs, h1, h2, R1s.vr hcs hvr _ _ h3⟩
          | vec l e s => obtain ⟨h0, xs, h1, h2⟩ := hb; exact ⟨h0, xs, h1, RCs.vr hcs hvr _ _ h2⟩
          | tail n e s => exact hb
          | obj I => exact hb
          | buf cs e => exact hb
          | susp b o t a => exact ⟨hb.1, hb.2.1, fun d => (hb.2.2 d).vr hcs hvr⟩
          | dead => trivial
          | unborn => trivial
      · rcases yb k b h1 with ⟨rfl, h3⟩ | ⟨h3, h4⟩ <;> rcases yb k' b h2 with ⟨rfl, h6⟩ | ⟨h6, h7⟩
        · rfl
        · obtain ⟨h8, h9⟩ := hne _ _ h7
          have := hc.sr.alone _ _ b h9 h3; omega
        · obtain ⟨h8, h9⟩ := hne _ _ h4
          have := hc.sr.alone _ _ b h9 h6; omega
        · exact hC.alone _ _ b h4 h7
      · rcases yb k b h1 with ⟨rfl, h3⟩ | ⟨h3, h4⟩
        · obtain ⟨_, e2, s2, h6, h7⟩ := hc.sr.apart (n0 + i) b o h3 h2
          rw [hstI] at h6; cases h6
        · obtain ⟨n2, e2, s2, h6, h7⟩ := hC.apart k b o h4 h2
          exact ⟨n2, e2, s2, by rw [(y2 k h3).1]; exact h6, h7⟩
      · rcases yb k b hk with ⟨rfl, h3⟩ | ⟨h3, h4⟩
        · exact hg.2.2.1 _ h3
        · exact hg.2.2.1 k (hne _ _ h4).2
    have hFY : Fr X Y := ⟨hFC.os, hFC.tape, hFC.output, hFC.size, hFC.keep, hFC.keepS, hFC.more, hFC.less, fun k => by
      by_cases hk : k = r
      · subst hk; unfold Ver; rw [hu]; trivial
      · obtain ⟨e1, e2⟩ := y2 k hk
        have := hFC.ver k
        unfold Ver at this ⊢
        rw [e1, e2]; exact this, fun k b h => by
      rcases yb k b h with ⟨rfl, h3⟩ | ⟨h3, h4⟩
      · exact hlt b h3
      · exact hFC.own k b h4⟩
    have hRY : RR Y (.own r l.length) v := by
      have h1 : RC X' (.own (n0 + i) l.length) [v] := hR
      rw [RC] at h1
      obtain ⟨-, v', h2, ⟨h3, -⟩, h4⟩ := h1
      have h5 : v = v' := by simpa using h2
      subst h5
      have h6 := (h4 _ _ _ hstI).2 rfl
      show RC Y (.own r l.length) [v]
      rw [RC]
      refine ⟨by rw [y1]; simp, v, rfl, ⟨h3, fun I h => by rw [y1] at h; cases h⟩, fun l2 e2 s2 h => ?_⟩
      rw [y1] at h; cases h
      exact ⟨Nat.le_refl _, fun _ => by rw [h6, y3]⟩
    have hres : ∃ Y' v' x', Ending.returned v = .returned v' ∧ Y'.w = X'.w ∧ (x' = .own r l.length ∧ Y'.σ = upd X.σ r (.vec l e sz)) ∧ SR Y' ∧ Fr X Y' ∧ RR Y' x' v' := ⟨Y, v, .own r l.length, rfl, rfl, ⟨rfl, rfl⟩, hSY, hFY, hRY⟩
    rcases he with rfl | rfl
    · exact ⟨hdf, v, hv, hres⟩
    · exact ⟨hdf, v, hv, hres⟩
end Go.Proofs.YtbkkjlcclddpdaaGreatDoor
