/- append to an empty slice of the call's own, as a slice that the call may write. -/
import Derived.Test.YtgpcpmfdklpifaaGreatDoorGa13
import Derived.Test.YtgpcpmfdklpifaaGreatDoorGa14
import Derived.Test.YtgpcpmfdklpifaaGreatDoorGa18
set_option linter.unusedSimpArgs false
set_option linter.unusedVariables false
namespace Go.Proofs.YtgpcpmfdklpifaaGreatDoor
open Go.RowKit Go.Lib
variable {P : Program} {s : AS}
theorem con_thaw {X0 X : St} {a : Act} {w : World} (hc : Con X0 s a w X) {r : Nat} {et : TypeId} {sz : Nat} (hσ : s.st r = .tail 0 et sz) :
    ∃ X', X'.w = X.w ∧ Con X0 ((s.set r .dead).ext (some (.vec [] et sz))) a w X' ∧ Fr X X' ∧ ∀ v, RC X (.gs r []) [v] → RC X' (.own s.nx 0) [v] := by
  have hX : X.σ r = .tail 0 et sz := by rw [hc.σ, hσ]
  have hlt : r < s.nx := Nat.lt_of_not_le fun h => by have := s.fin r h; rw [hσ] at this; cases this
  have hun : X.σ s.nx = .unborn := by rw [hc.σ]; exact s.fin _ (Nat.le_refl _)
  have hrn : r ≠ s.nx := by omega
  have hB := hc.sr.block r
  rw [hX] at hB
  obtain ⟨xs, hown⟩ := hB.2 rfl
  have hxs : xs = [] := List.eq_nil_of_length_eq_zero (by rw [hown.1]; simp)
  subst hxs
  have hbr : X.blk r = (X.μ r).ownBlock := by unfold St.blk; rw [hX]; rfl
  let X' : St := { X with μ := upd X.μ s.nx (X.μ r), σ := upd (upd X.σ r .dead) s.nx (.vec [] et sz) }
  have hσ1 : X'.σ s.nx = .vec [] et sz := by simp [X', upd]
  have hσ2 : X'.σ r = .dead := by simp [X', upd, hrn]
  have hσ3 : ∀ k, k ≠ r → k ≠ s.nx → X'.σ k = X.σ k ∧ X'.μ k = X.μ k := fun k h1 h2 => by simp [X', upd, h1, h2]
  have hμ1 : X'.μ s.nx = X.μ r := by simp [X', upd]
  have hb : ∀ k b, X'.blk k = some b → (k = s.nx ∧ X.blk r = some b) ∨ (k ≠ r ∧ k ≠ s.nx ∧ X.blk k = some b) := fun k b h => by
    unfold St.blk at h
    by_cases h1 : k = s.nx
    · subst h1
      rw [hσ1, hμ1] at h
      exact .inl ⟨rfl, hbr.trans h⟩
    · by_cases h2 : k = r
      · subst h2; rw [hσ2] at h; cases h
      · obtain ⟨e1, e2⟩ := hσ3 k h2 h1
        rw [e1, e2] at h
        exact .inr ⟨h2, h1, h⟩
  have hF : Fr X X' := ⟨rfl, rfl, rfl, Nat.le_refl _, fun _ _ _ => rfl, fun _ _ _ => rfl, fun _ _ h => h, fun b o h => .inl h, fun k => by
    unfold Ver
    by_cases h1 : k = s.nx
    · subst h1; rw [hun]; trivial
    · by_cases h2 : k = r
      · subst h2; rw [hX]; exact .inl hσ2
      · obtain ⟨e1, e2⟩ := hσ3 k h2 h1
        have := (Fr.refl X).ver k
        unfold Ver at this
        rw [e1, e2]; exact this, fun k b h => by
    rcases hb k b h with ⟨-, h⟩ | ⟨-, -, h⟩
    · exact .inr ⟨r, h⟩
    · exact .inr ⟨k, h⟩⟩
  refine ⟨X', rfl, ⟨hc.w, ?_, ⟨fun k => ?_, fun k k' b h1 h2 => ?_, fun k b o h1 h2 => ?_, fun b o h => hc.sr.old b o h, hc.sr.glob.mono fun _ _ _ h => h.fr hF⟩, hc.fr.trans hF, ?_, fun d => ?_, hc.defers, ?_⟩, hF, fun v hv => ?_⟩
  · rw [(qdn _ _).1, AS.set_st _ _ _ hlt, ← hc.σ]
    have : (s.set r .dead).nx = s.nx := by
      unfold AS.set AS.nx; split <;> simp
    rw [this]
  · by_cases h1 : k = s.nx
    · subst h1; rw [hσ1, hμ1]; exact ⟨fun x hx => by simp at hx, [], hown, by rw [RCs]⟩
    · by_cases h2 : k = r
      · subst h2; rw [hσ2]; trivial
      · obtain ⟨e1, e2⟩ := hσ3 k h2 h1
        exact BR.fr hc.sr hF e1 e2 fun _ _ => rfl
  · rcases hb k b h1 with ⟨rfl, h3⟩ | ⟨h3, h4, h5⟩ <;> rcases hb k' b h2 with ⟨rfl, h6⟩ | ⟨h6, h7, h8⟩
    · rfl
    · exact absurd (hc.sr.alone _ _ b h8 h3) h6
    · exact absurd (hc.sr.alone _ _ b h5 h6) h3
    · exact hc.sr.alone _ _ b h5 h8
  · rcases hb k b h1 with ⟨rfl, h3⟩ | ⟨h3, h4, h5⟩
    · obtain ⟨_, e, s2, h6, h7⟩ := hc.sr.apart r b o h3 h2
      rw [hX] at h6; cases h6
      omega
    · obtain ⟨n2, e, s2, h6, h7⟩ := hc.sr.apart k b o h5 h2
      exact ⟨n2, e, s2, by rw [(hσ3 k h3 h4).1]; exact h6, h7⟩
  · have := (s.set_nx r .dead).1
    show _ = (s.set r .dead).n
    rw [this]; exact hc.size
  · have := (s.set_nx r .dead).2.2
    show RR X' ((s.set r .dead).t d) _
    rw [this]; exact (hc.regs d).fr hF
  · have := (s.set_nx r .dead).2.1
    show Fin _ (s.set r .dead).n0
    rw [this]; exact hc.fin
  · rw [RC] at hv
    obtain ⟨A, cap, b, off, hv1, -, -, -, -, -, hall⟩ := hv
    show RC X' (.own s.nx 0) [v]
    rw [RC]
    have hv2 : v = .slice A 0 cap := by simpa using hv1
    subst hv2
    refine ⟨by rw [hσ1]; simp, _, rfl, ⟨rfl, fun I h => by rw [hσ1] at h; cases h⟩, fun l e2 s2 h => ?_⟩
    rw [hσ1] at h; cases h
    exact ⟨Nat.le_refl _, fun _ => by rw [hμ1]; exact (hall _ _ _ hX).2 rfl⟩
theorem own_core {t : TypeId} {x y : Operand} {r n : Nat} {l ys : List AV} {e : TypeId} {sz by_ : Nat} {yv : AV} {K : AV → AS → Prop} {X0 X : St} {a : Act} {oper : Oper} (ho : oper.op = .call { callee := .builtin .append, args := #[x, y], argTypes := #[t, t] }) (hc : Con X0 s a X.w X)
    (ht : vinfo P t = some (e, sz, by_)) (hx : RC X (.own r n) [a.eval x]) (hn : n = l.length) (hσ : s.st r = .vec l e sz) (hy : RR X yv (a.eval y)) (hyl : yv.list = some ys) (hne : 0 < ys.length)
    (hw : ∀ z ∈ ys, z.width = sz) (h1 : ∀ z ∈ ys, z.elem = true) (hb : (l.length + ys.length) * by_ ≤ 140737488355328) (hK : K (.own r (l.length + ys.length)) (s.set r (.vec (l ++ ys) e sz))) (Q : Exit → Act → World → Prop) :
    oper.wp P a X.w (fun a' w' => ∃ v x s1 X', a' = a.put oper.dst v ∧ K x s1 ∧ Con X0 s1 a w' X' ∧ RR X' x v) Q := by
  subst hn
  rw [RC] at hx
  obtain ⟨-, v0, hv0, -, hall⟩ := hx
  have hX : X.σ r = .vec l e sz := by rw [hc.σ, hσ]
  have hvm : a.eval x = X.μ r := by
    have := (hall _ _ _ hX).2 rfl
    rw [← this]; simpa using hv0
  obtain ⟨A, cap, b, off, hyv', hc1, hc2, hA, hm⟩ := RR.list hyl hy
  obtain rfl := hA hne
  obtain ⟨news, hr2, hcell⟩ := hm.row
  have hB := hc.sr.block r
  rw [hX] at hB
  obtain ⟨hwd, xs, hown, hrs⟩ := hB
  obtain ⟨hu1, i, z, hi, hz, hsz, hby, hzs, hsz0, hby0, -⟩ := qbj ht
  have hlen : l.length + ys.length ≤ 140737488355328 := Nat.le_trans (Nat.le_mul_of_pos_right _ hby0) hb
  have hnl := RCs.len hr2 hw
  have hnc : ∀ j u, news[j]? = some u → X.w.cell? ((⟨b, off, none⟩ : Addr).add j) = some u := fun j u hj => by rw [qbb]; exact hcell.at.get j u hj
  have h63 : l.length + ys.length ≤ maxLen := by unfold maxLen; omega
  subst hsz
  subst hby
  obtain ⟨v2, w2, hrun, hown2, hg, h3, h4⟩ := run_append_own_at (P := P) X.w 0 t oper.type e i z i.size i.bytes hu1 hi hz rfl rfl hzs hsz0 (X.μ r) l.length xs hown ⟨b, off, none⟩ ys.length cap news hnl hnc (RCs.oneCell hr2 h1) h63 hb (Nat.zero_le _)
  have hblk : X.blk r = (X.μ r).ownBlock := by unfold St.blk; rw [hX]; rfl
  have hno : ∀ b2 o, X.blk r = some b2 → ¬ X.S b2 o := fun b2 o h5 h6 => by
    obtain ⟨n2, e2, s2, h7, h8⟩ := hc.sr.apart r b2 o h5 h6
    rw [hX] at h7; cases h7
  have hT : Turns X w2 X.S r (.vec (l ++ ys) e i.size) v2 := by
    refine ⟨by rw [hblk]; exact hg, fun b2 h => ?_, ?_, fun b2 o h5 h6 => absurd h6 (hno b2 o h5), fun _ _ h => h, fun b2 o h => .inl h, fun b2 o h5 h6 => ?_, fun b2 h => (hown2.lt b2 h).2⟩
    · change v2.ownBlock = some b2 at h
      rcases h4 with h4 | h4
      · left; rw [hblk, ← h4, h]
      · right; rw [h4] at h; cases h; exact Nat.le_refl _
    · unfold Ver
      rw [hX]
      exact .inr ⟨l ++ ys, by simp [St.turn, upd], .inl (by simp; omega)⟩
    · exfalso
      change v2.ownBlock = some b2 at h5
      rcases h4 with h4 | h4
      · exact hno b2 o (by rw [hblk, ← h4]; exact h5) h6
      · rw [h4] at h5; cases h5
        exact absurd (hc.sr.old _ o h6) (Nat.lt_irrefl _)
  have hF := qdt hc.sr hT
  refine qbd (w' := w2) (v := v2) (by simp [execOp, ho, resolve, invoke, builtin, hvm, hyv', hrun])
    ⟨v2, .own r (l.length + ys.length), _, _, rfl, hK, con_turn (v := v2) hc (by rw [hσ]; simp) hT ⟨fun x hx => ?_, xs ++ news, by rw [List.length_append]; exact hown2, ?_⟩, ?_⟩
  · rcases List.mem_append.1 hx with hx | hx
    · exact hwd x hx
    · exact hw x hx
  · exact RCs.fr hF _ _ (hrs.append hr2)
  · show RC _ (.own r _) [_]
    rw [RC]
    refine ⟨by simp [St.turn, upd], v2, rfl, ⟨?_, fun I h => by simp [St.turn, upd] at h⟩, fun l2 e2 s2 h => ?_⟩
    · rcases hown2.2 with ⟨h5, -⟩ | ⟨g, cap2, cur, h5, -⟩ <;> rw [h5] <;> rfl
    · simp [St.turn, upd] at h
      obtain ⟨rfl, rfl, rfl⟩ := h
      exact ⟨by simp, fun _ => by simp [St.turn, upd]⟩
theorem eop_appendV {t : TypeId} {x y : Operand} {r : Nat} {ys : List AV} {e : TypeId} {sz by_ : Nat} {K : AV → AS → Prop} (ht : vinfo P t = some (e, sz, by_)) (hx : s.eval x = .gs r []) (hσ : s.st r = .tail 0 e sz) (hyl : (s.eval y).list = some ys) (hne : 0 < ys.length)
    (hw : ∀ z ∈ ys, z.width = sz) (h1 : ∀ z ∈ ys, z.elem = true) (hb : ys.length * by_ ≤ 140737488355328) (hK : K (.own s.nx ys.length) ((s.set r .dead).ext (some (.vec ys e sz)))) :
    EOp P s (.call { callee := .builtin .append, args := #[x, y], argTypes := #[t, t] }) K := by
  intro X0 a w X oper ho hc Q
  have hw0 := hc.w
  subst hw0
  obtain ⟨X', hXw, hc', hF, hR⟩ := con_thaw hc hσ
  have hx2 := hc.eval x
  rw [hx] at hx2
  have hx3 := hR _ hx2
  rw [← hXw]
  rw [← hXw] at hc'
  have hnx : (s.set r .dead).nx = s.nx := by
    unfold AS.set AS.nx; split <;> simp
  refine own_core (s := (s.set r .dead).ext (some (.vec [] e sz))) (l := []) ho hc' ht hx3 rfl ?_ ((hc.eval y).fr hF) hyl hne hw h1 (by simpa using hb) ?_ Q
  · rw [(qdn _ _).1, hnx]; simp [upd]
  · have : ((s.set r .dead).ext (some (.vec [] e sz))).set s.nx (.vec ([] ++ ys) e sz) = (s.set r .dead).ext (some (.vec ys e sz)) := by
      rw [← hnx]
      unfold AS.set AS.ext AS.nx
      dsimp only
      split <;> (dsimp only; rw [if_neg (by omega), Nat.add_sub_cancel_left]; simp)
    rw [this]; simpa using hK
theorem aseqC_cut {ops : Array Oper} {K K' : AS → Prop} {l2 : List Oper} (hk : ∀ s, K' s → aseq P ops K l2 s) : ∀ {l1 : List Oper} {s : AS}, qq P ops K' l1 s → aseq P ops K (l1 ++ l2) s
  | [], s, h => hk s h
  | o :: l, s, h => by
    rw [qq] at h
    rw [List.cons_append, aseq]
    split at h
    · rename_i b hb
      cases b with
      | true => exact ⟨true, hb, (qcc (h.1 rfl)).mono fun x s1 ⟨h1, h2⟩ => ⟨h1, aseqC_cut hk h2⟩⟩
      | false => exact ⟨false, hb, (h.2 rfl).1, aseqC_cut hk (h.2 rfl).2⟩
    · exact h.elim
def ownApp (P : Program) (ops : Array Oper) (s : AS) (o : Oper) (K : AS → Prop) : Prop :=
  match o.op with
  | .call { callee := .builtin .append, args := ⟨[x, y]⟩, argTypes := ⟨[t, t']⟩ } => t' = t ∧ awant ops o s.t = some true ∧ (match vinfo P t with
    | some (e, sz, by_) => match s.eval x, (s.eval y).list with
      | .gs r [], some ys => s.st r = .tail 0 e sz ∧ 0 < ys.length ∧ AV.wid ys sz ∧ AV.elms ys ∧ ys.length * by_ ≤ 140737488355328 ∧ dstOk o.dst ((s.set r .dead).ext (some (.vec ys e sz))).n ∧ K (((s.set r .dead).ext (some (.vec ys e sz))).put o.dst (.own s.nx ys.length))
      | _, _ => False
    | none => False)
  | _ => False
theorem ownApp_sound {ops : Array Oper} {K K' : AS → Prop} {o : Oper} {l : List Oper} (hk : ∀ s, K' s → aseq P ops K l s) (h : ownApp P ops s o K') : aseq P ops K (o :: l) s := by
  unfold ownApp at h
  rw [aseq]
  split at h
  · rename_i x y t t' hop
    obtain ⟨rfl, hwt, h⟩ := h
    refine ⟨true, hwt, ?_⟩
    show EOp P s o.op _
    rw [hop]
    split at h
    · split at h
      · obtain ⟨h1, h2, h3, h4, h5, h6, h7⟩ := h
        exact eop_appendV ‹_› ‹_› h1 ‹_› h2 h3 h4 h5 ⟨h6, hk _ h7⟩
      · exact h.elim
    · exact h.elim
  · exact h.elim
theorem awp_regionV {id : Nat} {l : List Oper} {Q : Exit → AS → Prop} (k : Nat) {o : Oper} (ho : l[k]? = some o) (h : qq P l.toArray (fun s => ownApp P l.toArray s o fun s => qq P l.toArray (Q .normal) (l.drop (k + 1)) s) (l.take k) s) : awp P (.region id l.toArray false) Q s := by
  refine qck ?_
  have h1 : l = l.take k ++ o :: l.drop (k + 1) := by
    have hk := (List.getElem?_eq_some_iff.1 ho)
    obtain ⟨hk, he⟩ := hk
    rw [← he, ← List.drop_eq_getElem_cons hk, List.take_append_drop]
  have h2 : aseq P l.toArray (Q .normal) (l.take k ++ o :: l.drop (k + 1)) s := aseqC_cut (fun s' hs => ownApp_sound (fun s'' h => qde h) hs) h
  rw [← h1] at h2; exact h2
theorem awp_regionV4 {id : Nat} {o0 o1 o2 o3 : Oper} {args : Array Operand} {tys : Array TypeId} {Q : Exit → AS → Prop} (_hop : o2.op = .call { callee := .builtin .append, args := args, argTypes := tys })
    (h : qq P #[o0, o1, o2, o3] (fun s => ownApp P #[o0, o1, o2, o3] s o2 fun s => qq P #[o0, o1, o2, o3] (Q .normal) [o3] s) [o0, o1] s) : awp P (.region id #[o0, o1, o2, o3] false) Q s :=
  awp_regionV (l := [o0, o1, o2, o3]) 2 rfl h
attribute [simp] ownApp
end Go.Proofs.YtgpcpmfdklpifaaGreatDoor

/- Regions that draw their order, and write own blocks alone; one own block is read ahead of the last writes. -/
namespace Go.Proofs.YtgpcpmfdklpifaaGreatDoor
open Go.RowKit Go.Lib
section
variable {P : Program}
theorem eop_appendO {s : AS} {t : TypeId} {x y : Operand} {r n : Nat} {l ys : List AV} {e : TypeId} {sz by_ : Nat} {K : AV → AS → Prop} (ht : vinfo P t = some (e, sz, by_)) (hx : s.eval x = .own r n) (hσ : s.st r = .vec l e sz) (hn : n = l.length) (hyl : (s.eval y).list = some ys) (hne : 0 < ys.length)
    (hw : ∀ z ∈ ys, z.width = sz) (h1 : ∀ z ∈ ys, z.elem = true) (hb : (l.length + ys.length) * by_ ≤ 140737488355328) (hK : K (.own r (l.length + ys.length)) (s.set r (.vec (l ++ ys) e sz))) :
    EOp P s (.call { callee := .builtin .append, args := #[x, y], argTypes := #[t, t] }) K := by
  intro X0 a w X oper ho hc Q
  have hw0 := hc.w
  subst hw0
  have hx2 := hc.eval x
  rw [hx] at hx2
  exact own_core ho hc ht hx2 hn hσ (hc.eval y) hyl hne hw h1 hb hK Q
theorem eop_appendO0 {s : AS} {t : TypeId} {x y : Operand} {r n : Nat} {l ys : List AV} {e : TypeId} {sz by_ : Nat} {K : AV → AS → Prop} (ht : vinfo P t = some (e, sz, by_)) (hx : s.eval x = .own r n) (hσ : s.st r = .vec l e sz) (hn : n = l.length) (hyl : (s.eval y).list = some ys)
    (hw : ∀ z ∈ ys, z.width = sz) (h1 : ∀ z ∈ ys, z.elem = true) (hb : (l.length + ys.length) * by_ ≤ 140737488355328) (hK : K (.own r (l.length + ys.length)) (s.set r (.vec (l ++ ys) e sz))) :
    EOp P s (.call { callee := .builtin .append, args := #[x, y], argTypes := #[t, t] }) K := by
  cases ys with
  | cons z ys => exact eop_appendO ht hx hσ hn hyl (by simp) hw h1 hb hK
  | nil =>
    intro X0 a w X oper ho hc Q
    have hw0 := hc.w
    subst hw0
    have hx2 := hc.eval x
    rw [hx] at hx2
    have hx3 : RC X (.own r n) [a.eval x] := hx2
    rw [RC] at hx3
    obtain ⟨-, v0, hv0, -, hall⟩ := hx3
    have hX : X.σ r = .vec l e sz := by rw [hc.σ, hσ]
    have hvm : a.eval x = X.μ r := by
      have := (hall _ _ _ hX).2 hn
      rw [← this]; simpa using hv0
    have hB := hc.sr.block r
    rw [hX] at hB
    obtain ⟨hwd, xs, hown, hrs⟩ := hB
    have hsh : ∃ A cap, X.μ r = .slice A l.length cap ∧ l.length ≤ cap := by
      rcases (World.ownsRowF_of hown).2 with ⟨h5, h6⟩ | ⟨g, cap2, cur, fz, h5, -, -, -, h6, -⟩
      · exact ⟨none, 0, by rw [h5, h6], by omega⟩
      · exact ⟨_, cap2, h5, h6⟩
    obtain ⟨A0, cap0, hv, hl0⟩ := hsh
    obtain ⟨A, cap, b, off, hyv', -⟩ := RR.list hyl (hc.eval y)
    obtain ⟨hu1, i, z, hi, -⟩ := qbj ht
    rw [List.append_nil, List.length_nil, Nat.add_zero, AS.set_same hσ] at hK
    refine qbd (w' := X.w) (v := a.eval x) (by rw [List.length_nil] at hyv'; simp [execOp, ho, resolve, invoke, builtin, hvm, hv, hyv', qdk hu1 hi A0 A l.length cap0 cap hl0])
      ⟨a.eval x, .own r l.length, _, _, rfl, hK, hc, by rw [← hn]; exact hx2⟩
theorem fop2_callN {ev : Operand → AV} {σ : Nat → AB} {f : FuncId} {args : List Operand} {tys : Array TypeId} {x : AV} (hf : enters P f = true) (hn : ∀ y ∈ args, ∀ l, ev y ≠ .tup l) (h : GivesS P f (.v (.slice none 0 0) :: (args.map ev).map AV.pub) σ x) :
    FOp2 P ev σ (.call { callee := .value (.func f), args := (.const (.slice none 0 0) :: args).toArray, argTypes := tys }) x none := by
  intro X a oper ho hS ⟨nx, hfin⟩ hsub hev _ Q
  have hrun : (execOp a.eval oper).run P X.w = .ok (.enter f (.slice none 0 0 :: args.map a.eval).toArray) X.w := by
    have he : a.eval (.func f) = .func (.func f) #[] #[] := rfl
    have hc : a.eval (.const (.slice none 0 0)) = .slice none 0 0 := rfl
    simp [execOp, ho, resolve, he, hc, Deferred.ofValue, invoke, qca hf]
  have hargs : RRl X (.v (.slice none 0 0) :: (args.map ev).map AV.pub) (.slice none 0 0 :: args.map a.eval) := by
    refine ⟨_, _, rfl, ?_, (rrl_ev (a := a) args (fun y hy => hev y (by simp [Op.operands, Call.operands, hy])) hn).pub⟩
    show RC X (.v _) [_]
    rw [RC]
  unfold Oper.wp
  rw [hrun]
  refine (h X.σ hsub X _ nx hS rfl hfin hargs).mono ?_
  rintro e w' ⟨Y, v, y, rfl, rfl, ⟨rfl, hσ⟩, hS', hF, hR⟩
  exact ⟨v, Y, rfl, rfl, hS', hF, hR, hσ⟩
def aevM4 (P : Program) (s : AS) (o : Op) (K : AV → Option AB → Prop) : Prop :=
  match o with
  | .buildSlice t n ⟨p :: ps⟩ => match vinfo P t with
    | some (e, sz, _) => n = (p :: ps).length ∧ n * sz ≤ 16777216 ∧ bldS sz 0 ((p :: ps).map fun p => (p.1, s.eval p.2)) ∧ AV.wid ((p :: ps).map fun p => (s.eval p.2).pub) sz ∧ K (.own s.nx n) (some (.vec ((p :: ps).map fun p => (s.eval p.2).pub) e sz))
    | none => False
  | .call { callee := .value (.func f), args := ⟨.const (.slice none 0 0) :: args⟩, .. } => nts (args.map s.eval) = true ∧ enters P f = true ∧ AGives P f (.v (.slice none 0 0) :: (args.map s.eval).map AV.pub) s.st (fun x => K x none)
  | o => aevM P s o K
theorem aevM4_sound {s : AS} {o : Op} {K : AV → Option AB → Prop} (h : aevM4 P s o K) : ∃ x nb, FOp2 P s.eval s.st o x (nb.map (s.nx, ·)) ∧ K x nb := by
  unfold aevM4 at h
  split at h
  · split at h
    · obtain ⟨h1, h2, h3, h4, h5⟩ := h
      exact ⟨_, _, (fop_litVec ‹_› h1 h2 h3 h4).two, h5⟩
    · exact h.elim
  · obtain ⟨h1, h2, x, h3, h4⟩ := h
    exact ⟨x, none, fop2_callN h2 (qcr h1) h3, h4⟩
  · exact aevM_sound h
attribute [simp] aevM4
def aevW4 (P : Program) (s : AS) (o : Op) (K : AV → AS → Prop) : Prop :=
  match o with
  | .call { callee := .builtin .append, args := ⟨[x, y]⟩, argTypes := ⟨[t, t']⟩ } => match s.eval x with
    | .own r n => t' = t ∧ (match vinfo P t with
      | some (e, sz, by_) => match s.st r, (s.eval y).list with
        | .vec l e' sz', some ys => e' = e ∧ sz' = sz ∧ n = l.length ∧ AV.wid ys sz ∧ AV.elms ys ∧ (l.length + ys.length) * by_ ≤ 140737488355328 ∧ K (.own r (l.length + ys.length)) (s.set r (.vec (l ++ ys) e sz))
        | _, _ => False
      | none => False)
    | _ => aevW2 P s (.call { callee := .builtin .append, args := ⟨[x, y]⟩, argTypes := ⟨[t, t']⟩ }) K
  | o => aevW2 P s o K
theorem aevW4_sound {s : AS} {o : Op} {K : AV → AS → Prop} (h : aevW4 P s o K) : ∃ x s1, WOp P s.eval s.st o x s1.st ∧ (s1.t = s.t ∧ s1.n = s.n ∧ s1.n0 = s.n0) ∧ K x s1 := by
  unfold aevW4 at h
  split at h
  · rename_i x y t t'
    split at h
    · rename_i r n hx
      obtain ⟨rfl, h⟩ := h
      split at h
      · rename_i e sz by_ ht
        split at h
        · rename_i l e' sz' ys hσ hy
          obtain ⟨rfl, rfl, hn, h3, h4, h5, h6⟩ := h
          have hr := set_lt hσ (by simp)
          refine ⟨_, _, qdb fun s' he hst hnx => ?_, ⟨(s.set_nx r _).2.2, (s.set_nx r _).1, (s.set_nx r _).2.1⟩, h6⟩
          have ex := he x (by simp [Op.operands, Call.operands])
          have ey := he y (by simp [Op.operands, Call.operands])
          refine eop_appendO0 ht (by rw [ex]; exact hx) (by rw [hst]; exact hσ) hn (by rw [ey]; exact hy) h3 h4 h5 ⟨rfl, ?_⟩
          rw [AS.set_st _ _ _ (by rw [hnx]; exact hr), AS.set_st _ _ _ hr, hst]
        · exact h.elim
      · exact h.elim
    · exact aevW2_sound h
  · exact aevW2_sound h
attribute [simp] aevW4
theorem awp_thawR {c : Code} {Q : Exit → AS → Prop} {n n0 : Nat} {t : Nat → AV} {σ : Nat → AB} {L : List AB} (d i : Nat) {et : TypeId} {sz : Nat} (hd : t d = .gs (n0 + i) []) (hL : L[i]? = some (.tail 0 et sz))
    (h : awp P c Q ⟨n, upd t d (.own (n0 + L.length) 0), σ, n0, L.set i .dead ++ [AB.vec [] et sz]⟩) : awp P c Q ⟨n, t, σ, n0, L⟩ := by
  intro X0 a w ⟨X, hc⟩
  have hst : (AS.mk n t σ n0 L).st (n0 + i) = .tail 0 et sz := by
    show loc σ n0 L (n0 + i) = _
    unfold loc
    rw [if_neg (by omega), Nat.add_sub_cancel_left, List.getD_eq_getElem?_getD, hL]; rfl
  obtain ⟨X', hXw, hc', hF, hR⟩ := con_thaw hc hst
  have hset : (AS.mk n t σ n0 L).set (n0 + i) .dead = ⟨n, t, σ, n0, L.set i .dead⟩ := by
    unfold AS.set; dsimp only; rw [if_neg (by omega), Nat.add_sub_cancel_left]
  rw [hset] at hc'
  refine h X0 a w ⟨X', ⟨hc'.w, hc'.σ, hc'.sr, hc'.fr, hc'.size, fun j => ?_, hc'.defers, hc'.fin⟩⟩
  show RR X' (upd t d _ j) _
  unfold upd
  by_cases hj : j = d
  · subst hj
    rw [if_pos rfl]
    have := hc.regs j
    change RR X (t j) _ at this
    rw [hd] at this
    exact hR _ this
  · rw [if_neg hj]; exact hc'.regs j
end
section
variable {P : Program}
structure AnyRaw4 (P : Program) (ops : Array Oper) (l : List Oper) (ks : List RK) (st s1 : Nat → AS) (xs : Nat → AV) (bs : Nat → Bool) (nbs : Nat → Option AB) (κ : Nat → AB) (q : Nat) : Prop where
  kept : ∀ r, κ r ≠ .unborn → ∀ j, j ≤ l.length → (st j).st r = κ r
  eye : ∀ i, i < l.length → ks.getD i .R ≠ .W → (st (i + 1)).st q = (st i).st q
  want : ∀ i o, l[i]? = some o → awant ops o (st i).t = some (bs i)
  dst : ∀ i o, l[i]? = some o → dstOk o.dst (st i).n
  next : ∀ i o, l[i]? = some o → st (i + 1) = (s1 i).put o.dst (xs i)
  same : ∀ i o, l[i]? = some o → (s1 i).t = (st i).t ∧ (s1 i).n = (st i).n ∧ (s1 i).n0 = (st i).n0
  skip : ∀ i o, l[i]? = some o → bs i = false → xs i = .v undef ∧ s1 i = st i ∧ nbs i = none
  opR : ∀ i o, l[i]? = some o → bs i = true → ks.getD i .R = .R → FOp2 P (st i).eval κ o.op (xs i) none ∧ s1 i = st i ∧ nbs i = none
  opN : ∀ i o, l[i]? = some o → bs i = true → ks.getD i .R = .N → FOp2 P (st i).eval (only q (st i).st) o.op (xs i) none ∧ s1 i = st i ∧ nbs i = none
  opM : ∀ i o, l[i]? = some o → bs i = true → ks.getD i .R = .M → FOp2 P (st i).eval (st i).st o.op (xs i) ((nbs i).map ((st i).nx, ·)) ∧ s1 i = (st i).ext (nbs i)
  opW : ∀ i o, l[i]? = some o → bs i = true → (ks.getD i .R).base = .W → WOp P (st i).eval (st i).st o.op (xs i) (s1 i).st ∧ nbs i = none
section
variable {l : List Oper}
theorem raw_steps4 {l : List Oper} {ks : List RK} {st s1 : Nat → AS} {xs : Nat → AV} {bs : Nat → Bool} {nbs : Nat → Option AB} {κ : Nat → AB} {q : Nat} (hB : anyB l ks = true) (h : AnyRaw4 P l.toArray l ks st s1 xs bs nbs κ q) : qbn P l (ks.map RK.base) st s1 xs bs nbs (fun i => if ks.getD i .R = .N then (if bs i = true then only q (st i).st else fun _ => .unborn) else κ) := by
  have pre : ∀ j, j ≤ l.length → (∀ i, i < j → ks.getD i .R ≠ .W) → (st j).st q = (st 0).st q := fun j => by
    induction j with
    | zero => intro _ _; rfl
    | succ j ih =>
      intro hj hk
      rw [h.eye j (by omega) (hk j (by omega)), ih (by omega) fun i hi => hk i (by omega)]
  refine ⟨fun i => ?_, fun i hi hk r hr => ?_, h.want, h.dst, h.next, h.same, h.skip, fun i o ho hb hk => ?_, fun i o ho hb hk => ?_, fun i o ho hb hk => ?_⟩
  · rw [qbr]
    cases ks.getD i .R <;> simp [RK.base]
  · split at hr
    · rename_i hN
      rw [if_pos hN]
      split at hr
      · rename_i hb
        rw [if_pos hb]
        by_cases hrq : r = q
        · subst hrq
          have ei : only r (st i).st r = (st 0).st r := by
            unfold only; rw [if_pos rfl]
            exact pre i (by omega) fun p hp hW => by
              have := ((anyB_n hB hi (j := p) (by omega)).1 hN hW).1; omega
          rw [ei]
          refine ⟨rfl, fun p hp hpW hpi => ?_⟩
          rw [qbr] at hpW
          have hpA : ks.getD p .R = .A := by
            cases hk2 : ks.getD p .R with
            | A => rfl
            | W => exact absurd ((anyB_n hB hi hp).1 hN hk2).2 hpi
            | R => rw [hk2] at hpW; cases hpW
            | M => rw [hk2] at hpW; cases hpW
            | N => rw [hk2] at hpW; cases hpW
          refine pre (p + 1) (by omega) fun p' hp' hW => ?_
          by_cases hpp : p' = p
          · rw [hpp, hpA] at hW; cases hW
          · have := (anyB_n hB hp (j := p') (by omega)).2 hpA hW; omega
        · exact absurd (if_neg hrq) hr
      · exact absurd rfl hr
    · rename_i hN
      rw [if_neg hN]
      exact ⟨h.kept r hr 0 (Nat.zero_le _), fun p hp _ _ => h.kept r hr (p + 1) (by omega)⟩
  · rw [qbr] at hk
    by_cases hN : ks.getD i .R = .N
    · rw [if_pos hN, if_pos hb]
      exact h.opN i o ho hb hN
    · rw [if_neg hN]
      refine h.opR i o ho hb ?_
      cases hk2 : ks.getD i .R with
      | R => rfl
      | M => rw [hk2] at hk; cases hk
      | W => rw [hk2] at hk; cases hk
      | N => exact absurd hk2 hN
      | A => rw [hk2] at hk; cases hk
  · rw [qbr] at hk
    refine h.opM i o ho hb ?_
    cases hk2 : ks.getD i .R with
    | M => rfl
    | R => rw [hk2] at hk; cases hk
    | W => rw [hk2] at hk; cases hk
    | N => rw [hk2] at hk; cases hk
    | A => rw [hk2] at hk; cases hk
  · rw [qbr] at hk
    exact h.opW i o ho hb hk
end
def AS.eyeO (j : Nat) (s : AS) : AS := { s with σ := fun _ => .unborn, L := List.replicate j .unborn ++ [s.L.getD j .unborn] }
theorem eyeO_st {s : AS} {j : Nat} : (s.eyeO j).st = only (s.n0 + j) s.st := by
  funext k
  show loc (fun _ => .unborn) s.n0 (List.replicate j .unborn ++ [s.L.getD j .unborn]) k = _
  unfold loc only
  by_cases hk : k < s.n0
  · rw [if_pos hk, if_neg (by omega)]
  · rw [if_neg hk]
    by_cases hj : k = s.n0 + j
    · rw [if_pos hj]
      subst hj
      show _ = loc s.σ s.n0 s.L (s.n0 + j)
      unfold loc
      rw [if_neg (by omega), Nat.add_sub_cancel_left, List.getD_eq_getElem?_getD, List.getElem?_append_right (by simp)]
      simp
    · rw [if_neg hj]
      by_cases h2 : k - s.n0 < j
      · rw [List.getD_eq_getElem?_getD, List.getElem?_append_left (by simpa using h2), List.getElem?_replicate, if_pos h2]; rfl
      · rw [List.getD_eq_getElem?_getD, List.getElem?_eq_none (by simp; omega)]; rfl
theorem st_own {s : AS} {n0 j : Nat} (h : s.n0 = n0) : s.st (n0 + j) = s.L.getD j .unborn := by
  subst h
  show loc s.σ s.n0 s.L (s.n0 + j) = _
  unfold loc
  rw [if_neg (by omega), Nat.add_sub_cancel_left]
def anyF (P : Program) (ops : Array Oper) (m : List AB) (j : Nat) (K : AS → Prop) : List Oper → List RK → AS → Prop
  | [], _, s => K s
  | o :: l, ks, s => match awant ops o s.t with
    | some b => qbq b (match ks.headD .R with
      | .R => aevF P (s.seen m) o.op (fun x nb => nb = none ∧ dstOk o.dst s.n ∧ anyF P ops m j K l ks.tail (s.put o.dst x))
      | .N => aevF P (s.eyeO j) o.op (fun x nb => nb = none ∧ dstOk o.dst s.n ∧ anyF P ops m j K l ks.tail (s.put o.dst x))
      | .M => aevM4 P s o.op (fun x nb => j < s.L.length ∧ dstOk o.dst s.n ∧ anyF P ops m j K l ks.tail ((s.ext nb).put o.dst x))
      | .A => aevW4 P s o.op (fun x s1 => s1.L.getD j .unborn = s.L.getD j .unborn ∧ dstOk o.dst s.n ∧ qcb m s1.L ∧ s1.σ = s.σ ∧ anyF P ops m j K l ks.tail (s1.put o.dst x))
      | .W => aevW4 P s o.op (fun x s1 => dstOk o.dst s.n ∧ qcb m s1.L ∧ s1.σ = s.σ ∧ anyF P ops m j K l ks.tail (s1.put o.dst x))) (dstOk o.dst s.n ∧ anyF P ops m j K l ks.tail (s.put o.dst (.v undef)))
    | none => False
theorem anyF_steps {ops : Array Oper} {m : List AB} {j : Nat} {σ0 : Nat → AB} {n0 : Nat} {K : AS → Prop} : ∀ (l : List Oper) (ks : List RK) (s : AS), s.n0 = n0 → s.σ = σ0 → (∀ r, loc σ0 n0 m r ≠ .unborn → s.st r = loc σ0 n0 m r) → anyF P ops m j K l ks s →
    ∃ st s1 xs bs nbs, AnyRaw4 P ops l ks st s1 xs bs nbs (loc σ0 n0 m) (n0 + j) ∧ st 0 = s ∧ K (st l.length)
  | [], ks, s, hn0, hs0, hke, h => by
    refine ⟨fun _ => s, fun _ => s, fun _ => .any, fun _ => true, fun _ => none, ⟨fun r hr j _ => hke r hr, fun _ hi => absurd hi (Nat.not_lt_zero _), ?_, ?_, ?_, ?_, ?_, ?_, ?_, ?_, ?_⟩, rfl, h⟩ <;> (intro i o ho; simp at ho)
  | o :: l, ks, s, hn0, hs0, hke, h => by
    have key : ∀ (x : AV) (b : Bool) (nb : Option AB) (s1 : AS), awant ops o s.t = some b → dstOk o.dst s.n → (s1.t = s.t ∧ s1.n = s.n ∧ s1.n0 = s.n0) → s1.σ = s.σ → (ks.headD .R ≠ .W → s1.st (n0 + j) = s.st (n0 + j)) → (b = false → x = .v undef ∧ s1 = s ∧ nb = none) →
        (b = true → ks.headD .R = .R → FOp2 P s.eval (loc σ0 n0 m) o.op x none ∧ s1 = s ∧ nb = none) → (b = true → ks.headD .R = .N → FOp2 P s.eval (only (n0 + j) s.st) o.op x none ∧ s1 = s ∧ nb = none) → (b = true → ks.headD .R = .M → FOp2 P s.eval s.st o.op x (nb.map (s.nx, ·)) ∧ s1 = s.ext nb) →
        (b = true → (ks.headD .R).base = .W → WOp P s.eval s.st o.op x s1.st ∧ nb = none) → (∀ r, loc σ0 n0 m r ≠ .unborn → s1.st r = loc σ0 n0 m r) → anyF P ops m j K l ks.tail (s1.put o.dst x) →
        ∃ st s1 xs bs nbs, AnyRaw4 P ops (o :: l) ks st s1 xs bs nbs (loc σ0 n0 m) (n0 + j) ∧ st 0 = s ∧ K (st (o :: l).length) := by
      intro x b nb s1 hw hd hsame hss heye hskip hR hN hM hW hke1 hrest
      have hput : (s1.put o.dst x).σ = s1.σ := by cases o.dst <;> rfl
      obtain ⟨st, s1', xs, bs, nbs, hs, h0, hK⟩ := anyF_steps (n0 := n0) (σ0 := σ0) l ks.tail _ (by rw [(qdi s1 o.dst x).2.2.2, hsame.2.2]; exact hn0) (by rw [hput, hss]; exact hs0) (fun r hr => by rw [(qdi s1 o.dst x).1]; exact hke1 r hr) hrest
      have hks : ∀ i, ks.getD (i + 1) .R = ks.tail.getD i .R := fun i => by cases ks <;> simp
      have hk0 : ks.getD 0 .R = ks.headD .R := by cases ks <;> simp
      refine ⟨fun i => match i with | 0 => s | i + 1 => st i, fun i => match i with | 0 => s1 | i + 1 => s1' i, fun i => match i with | 0 => x | i + 1 => xs i, fun i => match i with | 0 => b | i + 1 => bs i, fun i => match i with | 0 => nb | i + 1 => nbs i, ⟨fun r hr j hj => (match j with | 0 => hke r hr | j + 1 => hs.kept r hr j (by simpa using hj)), fun i hi hk => ?_, ?_, ?_, ?_, ?_, ?_, ?_, ?_, ?_, ?_⟩, rfl, hK⟩
      · cases i with
        | zero => rw [hk0] at hk; show (st 0).st _ = s.st _; rw [h0, (qdi s1 o.dst x).1]; exact heye hk
        | succ i => rw [hks] at hk; exact hs.eye i (by simpa using hi) hk
      all_goals (intro i o' ho; cases i)
      · simp at ho; subst ho; exact hw
      · exact hs.want _ o' (by simpa using ho)
      · simp at ho; subst ho; exact hd
      · exact hs.dst _ o' (by simpa using ho)
      · simp at ho; subst ho; exact h0
      · exact hs.next _ o' (by simpa using ho)
      · simp at ho; subst ho; exact hsame
      · exact hs.same _ o' (by simpa using ho)
      · simp at ho; subst ho; exact hskip
      · exact hs.skip _ o' (by simpa using ho)
      · simp at ho; subst ho; rw [hk0]; exact hR
      · rw [hks]; exact hs.opR _ o' (by simpa using ho)
      · simp at ho; subst ho; rw [hk0]; exact hN
      · rw [hks]; exact hs.opN _ o' (by simpa using ho)
      · simp at ho; subst ho; rw [hk0]; exact hM
      · rw [hks]; exact hs.opM _ o' (by simpa using ho)
      · simp at ho; subst ho; rw [hk0]; exact hW
      · rw [hks]; exact hs.opW _ o' (by simpa using ho)
    rw [anyF] at h
    split at h
    · rename_i bb hw
      cases bb with
      | true =>
        replace h := h.1 rfl
        split at h
        · rename_i hk
          obtain ⟨x, nb, h1, rfl, h2, h3⟩ := qcg h
          have e : (s.seen m).st = loc σ0 n0 m := by show loc s.σ s.n0 m = _; rw [hs0, hn0]
          rw [e] at h1
          exact key x true none s hw h2 ⟨rfl, rfl, rfl⟩ rfl (fun _ => rfl) (fun e => by cases e) (fun _ _ => ⟨h1.two, rfl, rfl⟩) (fun _ e => by rw [hk] at e; cases e) (fun _ e => by rw [hk] at e; cases e) (fun _ e => by rw [hk] at e; cases e) hke h3
        · rename_i hk
          obtain ⟨x, nb, h1, rfl, h2, h3⟩ := qcg h
          rw [eyeO_st, hn0] at h1
          exact key x true none s hw h2 ⟨rfl, rfl, rfl⟩ rfl (fun _ => rfl) (fun e => by cases e) (fun _ e => by rw [hk] at e; cases e) (fun _ _ => ⟨h1.two, rfl, rfl⟩) (fun _ e => by rw [hk] at e; cases e) (fun _ e => by rw [hk] at e; cases e) hke h3
        · rename_i hk
          obtain ⟨x, nb, h1, hj, h2, h3⟩ := aevM4_sound h
          refine key x true nb (s.ext nb) hw h2 (by cases nb <;> exact ⟨rfl, rfl, rfl⟩) (by cases nb <;> rfl) (fun _ => ?_) (fun e => by cases e) (fun _ e => by rw [hk] at e; cases e) (fun _ e => by rw [hk] at e; cases e) (fun _ _ => ⟨h1, rfl⟩) (fun _ e => by rw [hk] at e; cases e) (ext_keeps hke nb) h3
          cases nb with
          | none => rfl
          | some ab =>
            rw [(qdn s ab).1]
            have : n0 + j ≠ s.nx := by unfold AS.nx; omega
            unfold upd; rw [if_neg this]
        · rename_i hk
          obtain ⟨x, s1, h1, h2, h7, h3, h5, h6, h4⟩ := aevW4_sound h
          exact key x true none s1 hw h3 h2 h6 (fun _ => by rw [st_own (h2.2.2.trans hn0), st_own hn0]; exact h7) (fun e => by cases e) (fun _ e => by rw [hk] at e; cases e) (fun _ e => by rw [hk] at e; cases e) (fun _ e => by rw [hk] at e; cases e) (fun _ _ => ⟨h1, rfl⟩) (kept_e (h6.trans hs0) (h2.2.2.trans hn0) h5) h4
        · rename_i hk
          obtain ⟨x, s1, h1, h2, h3, h5, h6, h4⟩ := aevW4_sound h
          exact key x true none s1 hw h3 h2 h6 (fun e => absurd hk e) (fun e => by cases e) (fun _ e => by rw [hk] at e; cases e) (fun _ e => by rw [hk] at e; cases e) (fun _ e => by rw [hk] at e; cases e) (fun _ _ => ⟨h1, rfl⟩) (kept_e (h6.trans hs0) (h2.2.2.trans hn0) h5) h4
      | false =>
        replace h := h.2 rfl
        exact key (.v undef) false none s hw h.1 ⟨rfl, rfl, rfl⟩ rfl (fun _ => rfl) (fun _ => ⟨rfl, rfl, rfl⟩) (fun e => by cases e) (fun e => by cases e) (fun e => by cases e) (fun e => by cases e) hke h.2
    · exact h.elim
theorem awp_anyF {s : AS} {id : Nat} {l : List Oper} {Q : Exit → AS → Prop} (m : List AB) (j : Nat) (ks : List RK) (hm : P.follows .mixedOrders = true) (hB : anyB l ks = true) (h0 : qcb m s.L) (h : anyF P l.toArray m j (Q .normal) l ks s) : awp P (.region id l.toArray true) Q s := by
  obtain ⟨st, s1, xs, bs, nbs, hs, rfl, hK⟩ := anyF_steps l ks s rfl rfl (kept_e rfl rfl h0) h
  exact awp_any hm (anyB_ok hB) (raw_steps4 hB hs) hK
end
theorem qdv {P : Program} {ops : Array Oper} {m : List AB} {j : Nat} {K : AS → Prop} {o : Oper} {l : List Oper} {ks : List RK} {s : AS} (h : match awant ops o s.t with
    | some b => qbq b (match ks.headD .R with
      | .R => aevF P (s.seen m) o.op (fun x nb => nb = none ∧ dstOk o.dst s.n ∧ anyF P ops m j K l ks.tail (s.put o.dst x))
      | .N => aevF P (s.eyeO j) o.op (fun x nb => nb = none ∧ dstOk o.dst s.n ∧ anyF P ops m j K l ks.tail (s.put o.dst x))
      | .M => aevM4 P s o.op (fun x nb => j < s.L.length ∧ dstOk o.dst s.n ∧ anyF P ops m j K l ks.tail ((s.ext nb).put o.dst x))
      | .A => aevW4 P s o.op (fun x s1 => s1.L.getD j .unborn = s.L.getD j .unborn ∧ dstOk o.dst s.n ∧ qcb m s1.L ∧ s1.σ = s.σ ∧ anyF P ops m j K l ks.tail (s1.put o.dst x))
      | .W => aevW4 P s o.op (fun x s1 => dstOk o.dst s.n ∧ qcb m s1.L ∧ s1.σ = s.σ ∧ anyF P ops m j K l ks.tail (s1.put o.dst x))) (dstOk o.dst s.n ∧ anyF P ops m j K l ks.tail (s.put o.dst (.v undef)))
    | none => False) : anyF P ops m j K (o :: l) ks s := h
theorem anyF_end {P : Program} {ops : Array Oper} {m : List AB} {j : Nat} {K : AS → Prop} {ks : List RK} {s : AS} (h : K s) : anyF P ops m j K [] ks s := h
@[simp] theorem eyeO_mk (j : Nat) (n : Nat) (t : Nat → AV) (σ : Nat → AB) (n0 : Nat) (L : List AB) : (AS.mk n t σ n0 L).eyeO j = ⟨n, t, fun _ => .unborn, n0, List.replicate j .unborn ++ [L.getD j .unborn]⟩ := rfl
instance {P : Program} {ops : Array Oper} {m : List AB} {j : Nat} {K : AS → Prop} {l : List Oper} {ks : List RK} {s : AS} : Inhabited (Tag (anyF P ops m j K l ks s)) := ⟨⟨⟩⟩
end Go.Proofs.YtgpcpmfdklpifaaGreatDoor
