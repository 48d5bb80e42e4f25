/- append to an empty slice of the call's own, as a slice that the call may write. -/
import Derived.Test.YtinmkhgadekabaaDoorGa11
import Derived.Test.YtinmkhgadekabaaDoorGa17
namespace Go.Proofs.YtinmkhgadekabaaDoor
open Go.RowKit Go.Lib
variable {P : Program} {s : AS}

/-- an empty slice that will be written -/
theorem con_thaw {X0 X : St} {a : Act} {w : World} (hc : Con X0 s a w X) {r : Nat} {et : TypeId} {sz : Nat} (hσ : s.st r = .tail 0 et sz) :
    ∃ X', X'.w = X.w ∧ Con X0 ((s.set r .dead).ext (some (.vec [] et sz))) a w X' ∧ Fr X X' ∧ ∀ v, RC X (.gs r []) [v] → RC X' (.own s.nx 0) [v] := by
  have hX : X.σ r = .tail 0 et sz := by rw [hc.σ, hσ]
  have hlt : r < s.nx := Nat.lt_of_not_le fun h => by have := s.fin r h; rw [hσ] at this; cases this
  have hun : X.σ s.nx = .unborn := by rw [hc.σ]; exact s.fin _ (Nat.le_refl _)
  have hrn : r ≠ s.nx := by omega
  have hB := hc.sr.block r
  rw [hX] at hB
  obtain ⟨xs, hown⟩ := hB
  have hxs : xs = [] := List.eq_nil_of_length_eq_zero (by rw [hown.1]; simp)
  subst hxs
  have hbr : X.blk r = (X.μ r).ownBlock := by unfold St.blk; rw [hX]; rfl
  let X' : St := { X with μ := upd X.μ s.nx (X.μ r), σ := upd (upd X.σ r .dead) s.nx (.vec [] et sz) }
  have hσ1 : X'.σ s.nx = .vec [] et sz := by simp [X', upd]
  have hσ2 : X'.σ r = .dead := by simp [X', upd, hrn]
  have hσ3 : ∀ k, k ≠ r → k ≠ s.nx → X'.σ k = X.σ k ∧ X'.μ k = X.μ k := fun k h1 h2 => by simp [X', upd, h1, h2]
  have hμ1 : X'.μ s.nx = X.μ r := by simp [X', upd]
  have hb : ∀ k b, X'.blk k = some b → (k = s.nx ∧ X.blk r = some b) ∨ (k ≠ r ∧ k ≠ s.nx ∧ X.blk k = some b) := fun k b h => by
    unfold St.blk at h
    by_cases h1 : k = s.nx
    · subst h1
      rw [hσ1, hμ1] at h
      exact .inl ⟨rfl, hbr.trans h⟩
    · by_cases h2 : k = r
      · subst h2; rw [hσ2] at h; cases h
      · obtain ⟨e1, e2⟩ := hσ3 k h2 h1
        rw [e1, e2] at h
        exact .inr ⟨h2, h1, h⟩
  have hF : Fr X X' := ⟨rfl, rfl, rfl, Nat.le_refl _, fun _ _ _ => rfl, fun _ _ _ => rfl, fun _ _ h => h, fun b o h => .inl h, fun k => by
    unfold Ver
    by_cases h1 : k = s.nx
    · subst h1; rw [hun]; trivial
    · by_cases h2 : k = r
      · subst h2; rw [hX]; exact .inl hσ2
      · obtain ⟨e1, e2⟩ := hσ3 k h2 h1
        have := (Fr.refl X).ver k
        unfold Ver at this
        rw [e1, e2]; exact this, fun k b h => by
    rcases hb k b h with ⟨-, h⟩ | ⟨-, -, h⟩
    · exact .inr ⟨r, h⟩
    · exact .inr ⟨k, h⟩⟩
  refine ⟨X', rfl, ⟨hc.w, ?_, ⟨fun k => ?_, fun k k' b h1 h2 => ?_, fun k b o h1 h2 => ?_, fun b o h => hc.sr.old b o h, hc.sr.glob.mono fun _ _ _ h => h.fr hF⟩, hc.fr.trans hF, ?_, fun d => ?_, hc.defers, ?_⟩, hF, fun v hv => ?_⟩
  · rw [(ext_st _ _).1, AS.set_st _ _ _ hlt, ← hc.σ]
    have : (s.set r .dead).nx = s.nx := by
      unfold AS.set AS.nx; split <;> simp
    rw [this]
  · by_cases h1 : k = s.nx
    · subst h1; rw [hσ1, hμ1]; exact ⟨fun x hx => by simp at hx, [], hown, by rw [RCs]⟩
    · by_cases h2 : k = r
      · subst h2; rw [hσ2]; trivial
      · obtain ⟨e1, e2⟩ := hσ3 k h2 h1
        exact BR.fr hc.sr hF e1 e2 fun _ _ => rfl
  · rcases hb k b h1 with ⟨rfl, h3⟩ | ⟨h3, h4, h5⟩ <;> rcases hb k' b h2 with ⟨rfl, h6⟩ | ⟨h6, h7, h8⟩
    · rfl
    · exact absurd (hc.sr.alone _ _ b h8 h3) h6
    · exact absurd (hc.sr.alone _ _ b h5 h6) h3
    · exact hc.sr.alone _ _ b h5 h8
  · rcases hb k b h1 with ⟨rfl, h3⟩ | ⟨h3, h4, h5⟩
    · obtain ⟨_, e, s2, h6, h7⟩ := hc.sr.apart r b o h3 h2
      rw [hX] at h6; cases h6
      omega
    · obtain ⟨n2, e, s2, h6, h7⟩ := hc.sr.apart k b o h5 h2
      exact ⟨n2, e, s2, by rw [(hσ3 k h3 h4).1]; exact h6, h7⟩
  · have := (s.set_nx r .dead).1
    show _ = (s.set r .dead).n
    rw [this]; exact hc.size
  · have := (s.set_nx r .dead).2.2
    show RR X' ((s.set r .dead).t d) _
    rw [this]; exact (hc.regs d).fr hF
  · have := (s.set_nx r .dead).2.1
    show Fin _ (s.set r .dead).n0
    rw [this]; exact hc.fin
  · rw [RC] at hv
    obtain ⟨A, cap, b, off, hv1, -, -, -, -, -, hall⟩ := hv
    show RC X' (.own s.nx 0) [v]
    rw [RC]
    have hv2 : v = .slice A 0 cap := by simpa using hv1
    subst hv2
    refine ⟨by rw [hσ1]; simp, _, rfl, rfl, fun l e2 s2 h => ?_⟩
    rw [hσ1] at h; cases h
    exact ⟨Nat.le_refl _, fun _ => by rw [hμ1]; exact (hall _ _ _ hX).2 rfl⟩

theorem own_core {t : TypeId} {x y : Operand} {r n : Nat} {l ys : List AV} {e : TypeId} {sz by_ : Nat} {yv : AV} {K : AV → AS → Prop} {X0 X : St} {a : Act} {oper : Oper} (ho : oper.op = .call { callee := .builtin .append, args := #[x, y], argTypes := #[t, t] }) (hc : Con X0 s a X.w X)
    (ht : vinfo P t = some (e, sz, by_)) (hx : RC X (.own r n) [a.eval x]) (hn : n = l.length) (hσ : s.st r = .vec l e sz) (hy : RR X yv (a.eval y)) (hyl : yv.list = some ys) (hne : 0 < ys.length)
    (hw : ∀ z ∈ ys, z.width = sz) (h1 : ∀ z ∈ ys, z.elem = true) (hb : (l.length + ys.length) * by_ ≤ 140737488355328) (hK : K (.own r (l.length + ys.length)) (s.set r (.vec (l ++ ys) e sz))) (Q : Exit → Act → World → Prop) :
    oper.wp P a X.w (fun a' w' => ∃ v x s1 X', a' = a.put oper.dst v ∧ K x s1 ∧ Con X0 s1 a w' X' ∧ RR X' x v) Q := by
  subst hn
  rw [RC] at hx
  obtain ⟨-, v0, hv0, -, hall⟩ := hx
  have hX : X.σ r = .vec l e sz := by rw [hc.σ, hσ]
  have hvm : a.eval x = X.μ r := by
    have := (hall _ _ _ hX).2 rfl
    rw [← this]; simpa using hv0
  obtain ⟨A, cap, b, off, hyv', hc1, hc2, hA, hm⟩ := RR.list hyl hy
  obtain rfl := hA hne
  obtain ⟨news, hr2, hcell⟩ := hm.row
  have hB := hc.sr.block r
  rw [hX] at hB
  obtain ⟨hwd, xs, hown, hrs⟩ := hB
  obtain ⟨hu1, i, z, hi, hz, hsz, hby, hzs, hsz0, hby0, -⟩ := vinfo_spec ht
  have hlen : l.length + ys.length ≤ 140737488355328 := Nat.le_trans (Nat.le_mul_of_pos_right _ hby0) hb
  have hnl := RCs.len hr2 hw
  have hnc : ∀ j u, news[j]? = some u → X.w.cell? ((⟨b, off, none⟩ : Addr).add j) = some u := fun j u hj => by rw [addr_add]; exact hcell.at.get j u hj
  have h63 : l.length + ys.length ≤ maxLen := by unfold maxLen; omega
  subst hsz
  subst hby
  obtain ⟨v2, w2, hrun, hown2, hg, h3, h4⟩ := run_append_own_at (P := P) X.w 0 t oper.type e i z i.size i.bytes hu1 hi hz rfl rfl hzs hsz0 (X.μ r) l.length xs hown ⟨b, off, none⟩ ys.length cap news hnl hnc (RCs.oneCell hr2 h1) h63 hb (Nat.zero_le _)
  have hblk : X.blk r = (X.μ r).ownBlock := by unfold St.blk; rw [hX]; rfl
  have hno : ∀ b2 o, X.blk r = some b2 → ¬ X.S b2 o := fun b2 o h5 h6 => by
    obtain ⟨n2, e2, s2, h7, h8⟩ := hc.sr.apart r b2 o h5 h6
    rw [hX] at h7; cases h7
  have hT : Turns X w2 X.S r (.vec (l ++ ys) e i.size) v2 := by
    refine ⟨by rw [hblk]; exact hg, fun b2 h => ?_, ?_, fun b2 o h5 h6 => absurd h6 (hno b2 o h5), fun _ _ h => h, fun b2 o h => .inl h, fun b2 o h5 h6 => ?_, fun b2 h => (hown2.lt b2 h).2⟩
    · change v2.ownBlock = some b2 at h
      rcases h4 with h4 | h4
      · left; rw [hblk, ← h4, h]
      · right; rw [h4] at h; cases h; exact Nat.le_refl _
    · unfold Ver
      rw [hX]
      exact .inr ⟨l ++ ys, by simp [St.turn, upd], .inl (by simp; omega)⟩
    · exfalso
      change v2.ownBlock = some b2 at h5
      rcases h4 with h4 | h4
      · exact hno b2 o (by rw [hblk, ← h4]; exact h5) h6
      · rw [h4] at h5; cases h5
        exact absurd (hc.sr.old _ o h6) (Nat.lt_irrefl _)
  have hF := turn_fr hc.sr hT
  refine wp_value (w' := w2) (v := v2) (by simp [execOp, ho, resolve, invoke, builtin, hvm, hyv', hrun])
    ⟨v2, .own r (l.length + ys.length), _, _, rfl, hK, con_turn (v := v2) hc (by rw [hσ]; simp) hT ⟨fun x hx => ?_, xs ++ news, by rw [List.length_append]; exact hown2, ?_⟩, ?_⟩
  · rcases List.mem_append.1 hx with hx | hx
    · exact hwd x hx
    · exact hw x hx
  · exact RCs.fr hF _ _ (hrs.append hr2)
  · show RC _ (.own r _) [_]
    rw [RC]
    refine ⟨by simp [St.turn, upd], v2, rfl, ?_, fun l2 e2 s2 h => ?_⟩
    · rcases hown2.2 with ⟨h5, -⟩ | ⟨g, cap2, cur, h5, -⟩ <;> rw [h5] <;> rfl
    · simp [St.turn, upd] at h
      obtain ⟨rfl, rfl, rfl⟩ := h
      exact ⟨by simp, fun _ => by simp [St.turn, upd]⟩

theorem eop_appendV {t : TypeId} {x y : Operand} {r : Nat} {ys : List AV} {e : TypeId} {sz by_ : Nat} {K : AV → AS → Prop} (ht : vinfo P t = some (e, sz, by_)) (hx : s.eval x = .gs r []) (hσ : s.st r = .tail 0 e sz) (hyl : (s.eval y).list = some ys) (hne : 0 < ys.length)
    (hw : ∀ z ∈ ys, z.width = sz) (h1 : ∀ z ∈ ys, z.elem = true) (hb : ys.length * by_ ≤ 140737488355328) (hK : K (.own s.nx ys.length) ((s.set r .dead).ext (some (.vec ys e sz)))) :
    EOp P s (.call { callee := .builtin .append, args := #[x, y], argTypes := #[t, t] }) K := by
  intro X0 a w X oper ho hc Q
  have hw0 := hc.w
  subst hw0
  obtain ⟨X', hXw, hc', hF, hR⟩ := con_thaw hc hσ
  have hx2 := hc.eval x
  rw [hx] at hx2
  have hx3 := hR _ hx2
  rw [← hXw]
  rw [← hXw] at hc'
  have hnx : (s.set r .dead).nx = s.nx := by
    unfold AS.set AS.nx; split <;> simp
  refine own_core (s := (s.set r .dead).ext (some (.vec [] e sz))) (l := []) ho hc' ht hx3 rfl ?_ ((hc.eval y).fr hF) hyl hne hw h1 (by simpa using hb) ?_ Q
  · rw [(ext_st _ _).1, hnx]; simp [upd]
  · have : ((s.set r .dead).ext (some (.vec [] e sz))).set s.nx (.vec ([] ++ ys) e sz) = (s.set r .dead).ext (some (.vec ys e sz)) := by
      rw [← hnx]
      unfold AS.set AS.ext AS.nx
      dsimp only
      split <;> (dsimp only; rw [if_neg (by omega), Nat.add_sub_cancel_left]; simp)
    rw [this]; simpa using hK

/-- the operations up to one of them, then the rest -/
theorem aseqC_cut {ops : Array Oper} {K K' : AS → Prop} {l2 : List Oper} (hk : ∀ s, K' s → aseq P ops K l2 s) : ∀ {l1 : List Oper} {s : AS}, aseqC P ops K' l1 s → aseq P ops K (l1 ++ l2) s
  | [], s, h => hk s h
  | o :: l, s, h => by
    rw [aseqC] at h
    rw [List.cons_append, aseq]
    split at h
    · rename_i b hb
      cases b with
      | true => exact ⟨true, hb, (aev_sound (h.1 rfl)).mono fun x s1 ⟨h1, h2⟩ => ⟨h1, aseqC_cut hk h2⟩⟩
      | false => exact ⟨false, hb, (h.2 rfl).1, aseqC_cut hk (h.2 rfl).2⟩
    · exact h.elim
/-- an append to an empty slice, that gives a slice which the call may write -/
def ownApp (P : Program) (ops : Array Oper) (s : AS) (o : Oper) (K : AS → Prop) : Prop :=
  match o.op with
  | .call { callee := .builtin .append, args := ⟨[x, y]⟩, argTypes := ⟨[t, t']⟩ } => t' = t ∧ awant ops o s.t = some true ∧ (match vinfo P t with
    | some (e, sz, by_) => match s.eval x, (s.eval y).list with
      | .gs r [], some ys => s.st r = .tail 0 e sz ∧ 0 < ys.length ∧ AV.wid ys sz ∧ AV.elms ys ∧ ys.length * by_ ≤ 140737488355328 ∧ dstOk o.dst ((s.set r .dead).ext (some (.vec ys e sz))).n ∧ K (((s.set r .dead).ext (some (.vec ys e sz))).put o.dst (.own s.nx ys.length))
      | _, _ => False
    | none => False)
  | _ => False
theorem ownApp_sound {ops : Array Oper} {K K' : AS → Prop} {o : Oper} {l : List Oper} (hk : ∀ s, K' s → aseq P ops K l s) (h : ownApp P ops s o K') : aseq P ops K (o :: l) s := by
  unfold ownApp at h
  rw [aseq]
  split at h
  · rename_i x y t t' hop
    obtain ⟨rfl, hwt, h⟩ := h
    refine ⟨true, hwt, ?_⟩
    show EOp P s o.op _
    rw [hop]
    split at h
    · split at h
      · obtain ⟨h1, h2, h3, h4, h5, h6, h7⟩ := h
        exact eop_appendV ‹_› ‹_› h1 ‹_› h2 h3 h4 h5 ⟨h6, hk _ h7⟩
      · exact h.elim
    · exact h.elim
  · exact h.elim
theorem awp_regionV {id : Nat} {l : List Oper} {Q : Exit → AS → Prop} (k : Nat) {o : Oper} (ho : l[k]? = some o) (h : aseqC P l.toArray (fun s => ownApp P l.toArray s o fun s => aseqC P l.toArray (Q .normal) (l.drop (k + 1)) s) (l.take k) s) : awp P (.region id l.toArray false) Q s := by
  refine awp_region ?_
  have h1 : l = l.take k ++ o :: l.drop (k + 1) := by
    have hk := (List.getElem?_eq_some_iff.1 ho)
    obtain ⟨hk, he⟩ := hk
    rw [← he, ← List.drop_eq_getElem_cons hk, List.take_append_drop]
  have h2 : aseq P l.toArray (Q .normal) (l.take k ++ o :: l.drop (k + 1)) s := aseqC_cut (fun s' hs => ownApp_sound (fun s'' h => aseqC_sound h) hs) h
  rw [← h1] at h2; exact h2
/-- a region of four operations, the third an append to an empty slice that will be written -/
theorem awp_regionV4 {id : Nat} {o0 o1 o2 o3 : Oper} {args : Array Operand} {tys : Array TypeId} {Q : Exit → AS → Prop} (_hop : o2.op = .call { callee := .builtin .append, args := args, argTypes := tys })
    (h : aseqC P #[o0, o1, o2, o3] (fun s => ownApp P #[o0, o1, o2, o3] s o2 fun s => aseqC P #[o0, o1, o2, o3] (Q .normal) [o3] s) [o0, o1] s) : awp P (.region id #[o0, o1, o2, o3] false) Q s :=
  awp_regionV (l := [o0, o1, o2, o3]) 2 rfl h
attribute [simp] ownApp
end Go.Proofs.YtinmkhgadekabaaDoor

/- The law ShapeFits: it returns true. -/
namespace Go.Proofs.YtinmkhgadekabaaDoor
open Go.RowKit Go.Lib

theorem shortP_all {L : List Val} {n : Nat} (h : shortP L n = true) : L.length ≤ n ∧ ∀ c ∈ L, c.s.size ≤ 300 := by
  unfold shortP at h
  rw [Bool.and_eq_true, decide_eq_true_eq] at h
  refine ⟨by omega, fun c hc => ?_⟩
  have := List.all_eq_true.1 h.1 c hc
  unfold shortB at this
  simpa using this
theorem default_fits {L : List Col} (h : rightP L = true) : fitsP (defaultP L) L = true := by
  have hc := right_cols h
  obtain ⟨-, -, h3⟩ := right_ok h
  unfold fitsP rowOk defaultP
  have e1 : (L.map zeroV).map Val.k = L.map Col.type := by rw [List.map_map]; rfl
  rw [e1, decide_eq_true rfl, List.length_map, decide_eq_true rfl, decide_eq_true h3, Bool.and_true, Bool.true_and, Bool.true_and, List.all_eq_true]
  intro v hv
  obtain ⟨c, hcm, rfl⟩ := List.mem_map.1 hv
  have hk := (hc c hcm).type
  obtain h0 | h0 | h0 : c.type = 0 ∨ c.type = 1 ∨ c.type = 2 := by omega
  all_goals
    unfold rightV zeroV
    rw [h0]
    decide +kernel
theorem fits_len {r : List Val} {L : List Col} (h : fitsP r L = true) : r.length = L.length ∧ rowOk r = true ∧ r.map Val.k = L.map Col.type := by
  unfold fitsP at h
  simp only [Bool.and_eq_true, decide_eq_true_eq] at h
  exact ⟨h.1.1, h.1.2, h.2⟩
theorem fits_off {r : List Val} {L : List Col} (h : r.length ≠ L.length) : fitsP r L = false := by
  unfold fitsP; rw [decide_eq_false h]; rfl
theorem fits_set {r : List Val} {L : List Col} (h : fitsP r L = true) {i : Nat} (hi : i < r.length) (hi2 : i < L.length) (v : Val) : fitsP (r.set i v) L = (decide (v.k = L[i].type) && rowOk (r.set i v)) := by
  obtain ⟨h1, h2, h3⟩ := fits_len h
  unfold fitsP
  rw [List.length_set, decide_eq_true h1, Bool.true_and, Bool.and_comm]
  congr 1
  refine decide_eq_decide.2 ?_
  rw [List.map_set, h3]
  constructor
  · intro e
    have := congrArg (fun l => l[i]?) e
    simpa [hi2] using this
  · intro e
    rw [e]
    refine List.ext_getElem (by simp) fun j hj1 hj2 => ?_
    rw [List.getElem_set]
    split
    · rename_i e; subst e; simp
    · rfl

set_option maxHeartbeats 4000000 in
theorem shapeFits_g (L : List Col) (r : List Val) (i : Int) (v : Val) (hL : L.length ≤ 9223372036854775807) (hr : r.length ≤ 9223372036854775807) : Gives Tryd.prog 6 [.sl (L.map Col.av), .sl (r.map Val.av), .int i, v.av] (.bool true) := by
  have f1 := few_g L 15 hL
  have f2 := short_g r 15 hr
  by_cases c1 : fewP L 15 = true
  rotate_left
  · rw [Bool.not_eq_true] at c1
    rw [c1] at f1
    refine gives_of_awp Tryd.func6 Tryd.ntmps6 rfl rfl (by decide) rfl (by intro n; simp) fun σ n0 hcl hft => ?_
    repeat' (first | ((with_reducible refine aguard (fun hg => ?_) (fun hg => ?_)) <;> (try simp only [hg]) <;> (try simp only [beq_iff_eq, beq_eq_false_iff_ne, ne_eq, decide_eq_true_eq, decide_eq_false_iff_not, bne_iff_ne, bne_eq_false_iff_eq] at hg) <;> (try (first | simp only [eq_false hg, if_true, if_false] | simp only [eq_true hg, if_true, if_false])) <;> (try simp (disch := first | omega | simp) [wrap_i64, -aseqC, -anyC])) | (with_reducible refine aseq_step ?_; try simp (disch := first | omega | simp) [wrap_i64, -aseqC, -anyC]) | (with_reducible refine any_step' ?_; try simp (disch := first | omega | simp) [wrap_i64, -aseqC, -anyC]) | (with_reducible refine aseq_end ?_; try simp (disch := first | omega | simp) [wrap_i64, -aseqC, -anyC]) | (with_reducible refine any_end' ?_; try simp (disch := first | omega | simp) [wrap_i64, -aseqC, -anyC]) | ((first | with_reducible refine sideG ?_ ?_ | with_reducible refine sideG2 ?_ ?_ | with_reducible refine sideS ?_ ?_ | with_reducible refine sideS2 ?_ ?_ | with_reducible refine sideS3 ?_ ?_ | with_reducible refine sideA ?_ ?_ | with_reducible refine sideA2 ?_ ?_ | with_reducible refine sideA3 ?_ ?_); (first | omega | assumption | (simp; done))) | (refine acall (small13_g) ?_; try simp (disch := first | omega | simp) [wrap_i64, -aseqC, -anyC]) | (refine agives (small13_g) ?_; try simp (disch := first | omega | simp) [wrap_i64, -aseqC, -anyC]) | (refine acallAt (small13_g) ?_; try simp (disch := first | omega | simp) [wrap_i64, -aseqC, -anyC]) | (refine acall (f1) ?_; try simp (disch := first | omega | simp) [wrap_i64, -aseqC, -anyC]) | (refine agives (f1) ?_; try simp (disch := first | omega | simp) [wrap_i64, -aseqC, -anyC]) | (refine acallAt (f1) ?_; try simp (disch := first | omega | simp) [wrap_i64, -aseqC, -anyC]) | (refine acall (f2) ?_; try simp (disch := first | omega | simp) [wrap_i64, -aseqC, -anyC]) | (refine agives (f2) ?_; try simp (disch := first | omega | simp) [wrap_i64, -aseqC, -anyC]) | (refine acallAt (f2) ?_; try simp (disch := first | omega | simp) [wrap_i64, -aseqC, -anyC]) | (refine awp_seq_k fun K hK => ?_) | (refine awp_regionC ?_) | (refine awp_anyA true (by kernel_rfl) (by kernel_rfl) ?_) | (refine awp_anyA false (by kernel_rfl) (by kernel_rfl) ?_) | (refine hK _ ?_; clear hK; clear K) | (clear hK; clear K; refine hK _ ?_; clear hK; clear K) | (clear hK; clear K; clear hK; clear K; refine hK _ ?_; clear hK; clear K) | refine awp_block ?_ | (refine awp_condC ?_; simp (disch := first | omega | simp) [wrap_i64, -aseqC, -anyC]) | (refine awp_exit ?_; try simp (disch := first | omega | simp) [wrap_i64, -aseqC, -anyC]) | (refine awp_skip ?_; try simp (disch := first | omega | simp) [wrap_i64, -aseqC, -anyC]) | (refine awp_ret ?_; try simp (disch := first | omega | simp) [wrap_i64, -aseqC, -anyC]))
  by_cases c2 : shortP r 15 = true
  rotate_left
  · rw [Bool.not_eq_true] at c2
    rw [c1] at f1; rw [c2] at f2
    refine gives_of_awp Tryd.func6 Tryd.ntmps6 rfl rfl (by decide) rfl (by intro n; simp) fun σ n0 hcl hft => ?_
    repeat' (first | ((with_reducible refine aguard (fun hg => ?_) (fun hg => ?_)) <;> (try simp only [hg]) <;> (try simp only [beq_iff_eq, beq_eq_false_iff_ne, ne_eq, decide_eq_true_eq, decide_eq_false_iff_not, bne_iff_ne, bne_eq_false_iff_eq] at hg) <;> (try (first | simp only [eq_false hg, if_true, if_false] | simp only [eq_true hg, if_true, if_false])) <;> (try simp (disch := first | omega | simp) [wrap_i64, -aseqC, -anyC])) | (with_reducible refine aseq_step ?_; try simp (disch := first | omega | simp) [wrap_i64, -aseqC, -anyC]) | (with_reducible refine any_step' ?_; try simp (disch := first | omega | simp) [wrap_i64, -aseqC, -anyC]) | (with_reducible refine aseq_end ?_; try simp (disch := first | omega | simp) [wrap_i64, -aseqC, -anyC]) | (with_reducible refine any_end' ?_; try simp (disch := first | omega | simp) [wrap_i64, -aseqC, -anyC]) | ((first | with_reducible refine sideG ?_ ?_ | with_reducible refine sideG2 ?_ ?_ | with_reducible refine sideS ?_ ?_ | with_reducible refine sideS2 ?_ ?_ | with_reducible refine sideS3 ?_ ?_ | with_reducible refine sideA ?_ ?_ | with_reducible refine sideA2 ?_ ?_ | with_reducible refine sideA3 ?_ ?_); (first | omega | assumption | (simp; done))) | (refine acall (small13_g) ?_; try simp (disch := first | omega | simp) [wrap_i64, -aseqC, -anyC]) | (refine agives (small13_g) ?_; try simp (disch := first | omega | simp) [wrap_i64, -aseqC, -anyC]) | (refine acallAt (small13_g) ?_; try simp (disch := first | omega | simp) [wrap_i64, -aseqC, -anyC]) | (refine acall (f1) ?_; try simp (disch := first | omega | simp) [wrap_i64, -aseqC, -anyC]) | (refine agives (f1) ?_; try simp (disch := first | omega | simp) [wrap_i64, -aseqC, -anyC]) | (refine acallAt (f1) ?_; try simp (disch := first | omega | simp) [wrap_i64, -aseqC, -anyC]) | (refine acall (f2) ?_; try simp (disch := first | omega | simp) [wrap_i64, -aseqC, -anyC]) | (refine agives (f2) ?_; try simp (disch := first | omega | simp) [wrap_i64, -aseqC, -anyC]) | (refine acallAt (f2) ?_; try simp (disch := first | omega | simp) [wrap_i64, -aseqC, -anyC]) | (refine awp_seq_k fun K hK => ?_) | (refine awp_regionC ?_) | (refine awp_anyA true (by kernel_rfl) (by kernel_rfl) ?_) | (refine awp_anyA false (by kernel_rfl) (by kernel_rfl) ?_) | (refine hK _ ?_; clear hK; clear K) | (clear hK; clear K; refine hK _ ?_; clear hK; clear K) | (clear hK; clear K; clear hK; clear K; refine hK _ ?_; clear hK; clear K) | refine awp_block ?_ | (refine awp_condC ?_; simp (disch := first | omega | simp) [wrap_i64, -aseqC, -anyC]) | (refine awp_exit ?_; try simp (disch := first | omega | simp) [wrap_i64, -aseqC, -anyC]) | (refine awp_skip ?_; try simp (disch := first | omega | simp) [wrap_i64, -aseqC, -anyC]) | (refine awp_ret ?_; try simp (disch := first | omega | simp) [wrap_i64, -aseqC, -anyC]))
  rw [c1] at f1; rw [c2] at f2
  by_cases c3 : 300 < v.s.size
  · have c3' : (300 : Int) < v.s.size := by omega
    refine gives_of_awp Tryd.func6 Tryd.ntmps6 rfl rfl (by decide) rfl (by intro n; simp) fun σ n0 hcl hft => ?_
    repeat' (first | ((with_reducible refine aguard (fun hg => ?_) (fun hg => ?_)) <;> (try simp only [hg]) <;> (try simp only [beq_iff_eq, beq_eq_false_iff_ne, ne_eq, decide_eq_true_eq, decide_eq_false_iff_not, bne_iff_ne, bne_eq_false_iff_eq] at hg) <;> (try (first | simp only [eq_false hg, if_true, if_false] | simp only [eq_true hg, if_true, if_false])) <;> (try simp (disch := first | omega | simp) [wrap_i64, -aseqC, -anyC, c3'])) | (with_reducible refine aseq_step ?_; try simp (disch := first | omega | simp) [wrap_i64, -aseqC, -anyC, c3']) | (with_reducible refine any_step' ?_; try simp (disch := first | omega | simp) [wrap_i64, -aseqC, -anyC, c3']) | (with_reducible refine aseq_end ?_; try simp (disch := first | omega | simp) [wrap_i64, -aseqC, -anyC, c3']) | (with_reducible refine any_end' ?_; try simp (disch := first | omega | simp) [wrap_i64, -aseqC, -anyC, c3']) | ((first | with_reducible refine sideG ?_ ?_ | with_reducible refine sideG2 ?_ ?_ | with_reducible refine sideS ?_ ?_ | with_reducible refine sideS2 ?_ ?_ | with_reducible refine sideS3 ?_ ?_ | with_reducible refine sideA ?_ ?_ | with_reducible refine sideA2 ?_ ?_ | with_reducible refine sideA3 ?_ ?_); (first | omega | assumption | (simp; done))) | (refine acall (small13_g) ?_; try simp (disch := first | omega | simp) [wrap_i64, -aseqC, -anyC, c3']) | (refine agives (small13_g) ?_; try simp (disch := first | omega | simp) [wrap_i64, -aseqC, -anyC, c3']) | (refine acallAt (small13_g) ?_; try simp (disch := first | omega | simp) [wrap_i64, -aseqC, -anyC, c3']) | (refine acall (f1) ?_; try simp (disch := first | omega | simp) [wrap_i64, -aseqC, -anyC, c3']) | (refine agives (f1) ?_; try simp (disch := first | omega | simp) [wrap_i64, -aseqC, -anyC, c3']) | (refine acallAt (f1) ?_; try simp (disch := first | omega | simp) [wrap_i64, -aseqC, -anyC, c3']) | (refine acall (f2) ?_; try simp (disch := first | omega | simp) [wrap_i64, -aseqC, -anyC, c3']) | (refine agives (f2) ?_; try simp (disch := first | omega | simp) [wrap_i64, -aseqC, -anyC, c3']) | (refine acallAt (f2) ?_; try simp (disch := first | omega | simp) [wrap_i64, -aseqC, -anyC, c3']) | (refine awp_seq_k fun K hK => ?_) | (refine awp_regionC ?_) | (refine awp_anyA true (by kernel_rfl) (by kernel_rfl) ?_) | (refine awp_anyA false (by kernel_rfl) (by kernel_rfl) ?_) | (refine hK _ ?_; clear hK; clear K) | (clear hK; clear K; refine hK _ ?_; clear hK; clear K) | (clear hK; clear K; clear hK; clear K; refine hK _ ?_; clear hK; clear K) | refine awp_block ?_ | (refine awp_condC ?_; simp (disch := first | omega | simp) [wrap_i64, -aseqC, -anyC, c3']) | (refine awp_exit ?_; try simp (disch := first | omega | simp) [wrap_i64, -aseqC, -anyC, c3']) | (refine awp_skip ?_; try simp (disch := first | omega | simp) [wrap_i64, -aseqC, -anyC, c3']) | (refine awp_ret ?_; try simp (disch := first | omega | simp) [wrap_i64, -aseqC, -anyC, c3']))
  have c3' : ¬ (300 : Int) < v.s.size := by omega
  obtain ⟨la, ha⟩ := few_all (n := 15) c1
  obtain ⟨lr, -⟩ := shortP_all (n := 15) c2
  have la' : L.length ≤ 1000000 := by omega
  have lr' : r.length ≤ 1000000 := by omega
  have ha' : ∀ c ∈ L, c.name.size ≤ 1000000 ∧ c.unit.size ≤ 1000000 := fun c hc => by have := ha c hc; omega
  have d1 := default_g L la'
  have d2 : (defaultP L).length = L.length := by unfold defaultP; simp
  have g3 := right_g L la' ha'
  have g4 := fits_g (defaultP L) L (by omega) la'
  have g5 := fits_g r L lr' la'
  have hd : rightP L = true → fitsP (defaultP L) L = true := default_fits
  obtain ⟨D, hD⟩ : ∃ D, D = defaultP L := ⟨_, rfl⟩
  rw [← hD] at d1 d2 g4 hd
  clear hD
  cases hf : fitsP r L with
  | false =>
    rw [hf] at g5
    cases hri : rightP L with
    | false =>
      rw [hri] at g3
      refine gives_of_awp Tryd.func6 Tryd.ntmps6 rfl rfl (by decide) rfl (by intro n; simp) fun σ n0 hcl hft => ?_
      repeat' (first | ((with_reducible refine aguard (fun hg => ?_) (fun hg => ?_)) <;> (try simp only [hg]) <;> (try simp only [beq_iff_eq, beq_eq_false_iff_ne, ne_eq, decide_eq_true_eq, decide_eq_false_iff_not, bne_iff_ne, bne_eq_false_iff_eq] at hg) <;> (try (first | simp only [eq_false hg, if_true, if_false] | simp only [eq_true hg, if_true, if_false])) <;> (try simp (disch := first | omega | simp) [wrap_i64, -aseqC, -anyC, c3', d2])) | (with_reducible refine aseq_step ?_; try simp (disch := first | omega | simp) [wrap_i64, -aseqC, -anyC, c3', d2]) | (with_reducible refine any_step' ?_; try simp (disch := first | omega | simp) [wrap_i64, -aseqC, -anyC, c3', d2]) | (with_reducible refine aseq_end ?_; try simp (disch := first | omega | simp) [wrap_i64, -aseqC, -anyC, c3', d2]) | (with_reducible refine any_end' ?_; try simp (disch := first | omega | simp) [wrap_i64, -aseqC, -anyC, c3', d2]) | ((first | with_reducible refine sideG ?_ ?_ | with_reducible refine sideG2 ?_ ?_ | with_reducible refine sideS ?_ ?_ | with_reducible refine sideS2 ?_ ?_ | with_reducible refine sideS3 ?_ ?_ | with_reducible refine sideA ?_ ?_ | with_reducible refine sideA2 ?_ ?_ | with_reducible refine sideA3 ?_ ?_); (first | omega | assumption | (simp; done))) | (refine acall (small13_g) ?_; try simp (disch := first | omega | simp) [wrap_i64, -aseqC, -anyC, c3', d2]) | (refine agives (small13_g) ?_; try simp (disch := first | omega | simp) [wrap_i64, -aseqC, -anyC, c3', d2]) | (refine acallAt (small13_g) ?_; try simp (disch := first | omega | simp) [wrap_i64, -aseqC, -anyC, c3', d2]) | (refine acall (f1) ?_; try simp (disch := first | omega | simp) [wrap_i64, -aseqC, -anyC, c3', d2]) | (refine agives (f1) ?_; try simp (disch := first | omega | simp) [wrap_i64, -aseqC, -anyC, c3', d2]) | (refine acallAt (f1) ?_; try simp (disch := first | omega | simp) [wrap_i64, -aseqC, -anyC, c3', d2]) | (refine acall (f2) ?_; try simp (disch := first | omega | simp) [wrap_i64, -aseqC, -anyC, c3', d2]) | (refine agives (f2) ?_; try simp (disch := first | omega | simp) [wrap_i64, -aseqC, -anyC, c3', d2]) | (refine acallAt (f2) ?_; try simp (disch := first | omega | simp) [wrap_i64, -aseqC, -anyC, c3', d2]) | (refine acall (d1) ?_; try simp (disch := first | omega | simp) [wrap_i64, -aseqC, -anyC, c3', d2]) | (refine agives (d1) ?_; try simp (disch := first | omega | simp) [wrap_i64, -aseqC, -anyC, c3', d2]) | (refine acallAt (d1) ?_; try simp (disch := first | omega | simp) [wrap_i64, -aseqC, -anyC, c3', d2]) | (refine acall (g3) ?_; try simp (disch := first | omega | simp) [wrap_i64, -aseqC, -anyC, c3', d2]) | (refine agives (g3) ?_; try simp (disch := first | omega | simp) [wrap_i64, -aseqC, -anyC, c3', d2]) | (refine acallAt (g3) ?_; try simp (disch := first | omega | simp) [wrap_i64, -aseqC, -anyC, c3', d2]) | (refine acall (g4) ?_; try simp (disch := first | omega | simp) [wrap_i64, -aseqC, -anyC, c3', d2]) | (refine agives (g4) ?_; try simp (disch := first | omega | simp) [wrap_i64, -aseqC, -anyC, c3', d2]) | (refine acallAt (g4) ?_; try simp (disch := first | omega | simp) [wrap_i64, -aseqC, -anyC, c3', d2]) | (refine acall (g5) ?_; try simp (disch := first | omega | simp) [wrap_i64, -aseqC, -anyC, c3', d2]) | (refine agives (g5) ?_; try simp (disch := first | omega | simp) [wrap_i64, -aseqC, -anyC, c3', d2]) | (refine acallAt (g5) ?_; try simp (disch := first | omega | simp) [wrap_i64, -aseqC, -anyC, c3', d2]) | (refine awp_seq_k fun K hK => ?_) | (refine awp_regionC ?_) | (refine awp_anyA true (by kernel_rfl) (by kernel_rfl) ?_) | (refine awp_anyA false (by kernel_rfl) (by kernel_rfl) ?_) | (refine hK _ ?_; clear hK; clear K) | (clear hK; clear K; refine hK _ ?_; clear hK; clear K) | (clear hK; clear K; clear hK; clear K; refine hK _ ?_; clear hK; clear K) | refine awp_block ?_ | (refine awp_condC ?_; simp (disch := first | omega | simp) [wrap_i64, -aseqC, -anyC, c3', d2]) | (refine awp_exit ?_; try simp (disch := first | omega | simp) [wrap_i64, -aseqC, -anyC, c3', d2]) | (refine awp_skip ?_; try simp (disch := first | omega | simp) [wrap_i64, -aseqC, -anyC, c3', d2]) | (refine awp_ret ?_; try simp (disch := first | omega | simp) [wrap_i64, -aseqC, -anyC, c3', d2]))
    | true =>
      rw [hri] at g3; rw [hd hri] at g4
      refine gives_of_awp Tryd.func6 Tryd.ntmps6 rfl rfl (by decide) rfl (by intro n; simp) fun σ n0 hcl hft => ?_
      repeat' (first | ((with_reducible refine aguard (fun hg => ?_) (fun hg => ?_)) <;> (try simp only [hg]) <;> (try simp only [beq_iff_eq, beq_eq_false_iff_ne, ne_eq, decide_eq_true_eq, decide_eq_false_iff_not, bne_iff_ne, bne_eq_false_iff_eq] at hg) <;> (try (first | simp only [eq_false hg, if_true, if_false] | simp only [eq_true hg, if_true, if_false])) <;> (try simp (disch := first | omega | simp) [wrap_i64, -aseqC, -anyC, c3', d2])) | (with_reducible refine aseq_step ?_; try simp (disch := first | omega | simp) [wrap_i64, -aseqC, -anyC, c3', d2]) | (with_reducible refine any_step' ?_; try simp (disch := first | omega | simp) [wrap_i64, -aseqC, -anyC, c3', d2]) | (with_reducible refine aseq_end ?_; try simp (disch := first | omega | simp) [wrap_i64, -aseqC, -anyC, c3', d2]) | (with_reducible refine any_end' ?_; try simp (disch := first | omega | simp) [wrap_i64, -aseqC, -anyC, c3', d2]) | ((first | with_reducible refine sideG ?_ ?_ | with_reducible refine sideG2 ?_ ?_ | with_reducible refine sideS ?_ ?_ | with_reducible refine sideS2 ?_ ?_ | with_reducible refine sideS3 ?_ ?_ | with_reducible refine sideA ?_ ?_ | with_reducible refine sideA2 ?_ ?_ | with_reducible refine sideA3 ?_ ?_); (first | omega | assumption | (simp; done))) | (refine acall (small13_g) ?_; try simp (disch := first | omega | simp) [wrap_i64, -aseqC, -anyC, c3', d2]) | (refine agives (small13_g) ?_; try simp (disch := first | omega | simp) [wrap_i64, -aseqC, -anyC, c3', d2]) | (refine acallAt (small13_g) ?_; try simp (disch := first | omega | simp) [wrap_i64, -aseqC, -anyC, c3', d2]) | (refine acall (f1) ?_; try simp (disch := first | omega | simp) [wrap_i64, -aseqC, -anyC, c3', d2]) | (refine agives (f1) ?_; try simp (disch := first | omega | simp) [wrap_i64, -aseqC, -anyC, c3', d2]) | (refine acallAt (f1) ?_; try simp (disch := first | omega | simp) [wrap_i64, -aseqC, -anyC, c3', d2]) | (refine acall (f2) ?_; try simp (disch := first | omega | simp) [wrap_i64, -aseqC, -anyC, c3', d2]) | (refine agives (f2) ?_; try simp (disch := first | omega | simp) [wrap_i64, -aseqC, -anyC, c3', d2]) | (refine acallAt (f2) ?_; try simp (disch := first | omega | simp) [wrap_i64, -aseqC, -anyC, c3', d2]) | (refine acall (d1) ?_; try simp (disch := first | omega | simp) [wrap_i64, -aseqC, -anyC, c3', d2]) | (refine agives (d1) ?_; try simp (disch := first | omega | simp) [wrap_i64, -aseqC, -anyC, c3', d2]) | (refine acallAt (d1) ?_; try simp (disch := first | omega | simp) [wrap_i64, -aseqC, -anyC, c3', d2]) | (refine acall (g3) ?_; try simp (disch := first | omega | simp) [wrap_i64, -aseqC, -anyC, c3', d2]) | (refine agives (g3) ?_; try simp (disch := first | omega | simp) [wrap_i64, -aseqC, -anyC, c3', d2]) | (refine acallAt (g3) ?_; try simp (disch := first | omega | simp) [wrap_i64, -aseqC, -anyC, c3', d2]) | (refine acall (g4) ?_; try simp (disch := first | omega | simp) [wrap_i64, -aseqC, -anyC, c3', d2]) | (refine agives (g4) ?_; try simp (disch := first | omega | simp) [wrap_i64, -aseqC, -anyC, c3', d2]) | (refine acallAt (g4) ?_; try simp (disch := first | omega | simp) [wrap_i64, -aseqC, -anyC, c3', d2]) | (refine acall (g5) ?_; try simp (disch := first | omega | simp) [wrap_i64, -aseqC, -anyC, c3', d2]) | (refine agives (g5) ?_; try simp (disch := first | omega | simp) [wrap_i64, -aseqC, -anyC, c3', d2]) | (refine acallAt (g5) ?_; try simp (disch := first | omega | simp) [wrap_i64, -aseqC, -anyC, c3', d2]) | (refine awp_seq_k fun K hK => ?_) | (refine awp_regionC ?_) | (refine awp_anyA true (by kernel_rfl) (by kernel_rfl) ?_) | (refine awp_anyA false (by kernel_rfl) (by kernel_rfl) ?_) | (refine hK _ ?_; clear hK; clear K) | (clear hK; clear K; refine hK _ ?_; clear hK; clear K) | (clear hK; clear K; clear hK; clear K; refine hK _ ?_; clear hK; clear K) | refine awp_block ?_ | (refine awp_condC ?_; simp (disch := first | omega | simp) [wrap_i64, -aseqC, -anyC, c3', d2]) | (refine awp_exit ?_; try simp (disch := first | omega | simp) [wrap_i64, -aseqC, -anyC, c3', d2]) | (refine awp_skip ?_; try simp (disch := first | omega | simp) [wrap_i64, -aseqC, -anyC, c3', d2]) | (refine awp_ret ?_; try simp (disch := first | omega | simp) [wrap_i64, -aseqC, -anyC, c3', d2]))
  | true =>
    rw [hf] at g5
    obtain ⟨e1, e2, e3⟩ := fits_len hf
    have e1' : (r.length : Int) = L.length := by omega
    have g6 := row_g r lr'
    rw [e2] at g6
    have g7 := fits_g (r ++ [v]) L (by simp; omega) la'
    rw [fits_off (by simp; omega)] at g7
    simp only [List.map_append, List.map_cons, List.map_nil] at g7
    have b9 : (L.length + 1) * 32 ≤ 140737488355328 := by omega
    have b8 : L.length * 32 ≤ 140737488355328 := by omega
    by_cases hi : L.length = 0 ∨ i < 0 ∨ (L.length : Int) ≤ i
    · refine gives_of_awp Tryd.func6 Tryd.ntmps6 rfl rfl (by decide) rfl (by intro n; simp) fun σ n0 hcl hft => ?_
      repeat' (first | ((with_reducible refine aguard (fun hg => ?_) (fun hg => ?_)) <;> (try simp only [hg]) <;> (try simp only [beq_iff_eq, beq_eq_false_iff_ne, ne_eq, decide_eq_true_eq, decide_eq_false_iff_not, bne_iff_ne, bne_eq_false_iff_eq] at hg) <;> (try (first | simp only [eq_false hg, if_true, if_false] | simp only [eq_true hg, if_true, if_false])) <;> (try simp (disch := first | omega | simp) [wrap_i64, -aseqC, -anyC, c3', d2, e1', e1, b8, b9])) | (with_reducible refine aseq_step ?_; try simp (disch := first | omega | simp) [wrap_i64, -aseqC, -anyC, c3', d2, e1', e1, b8, b9]) | (with_reducible refine any_step' ?_; try simp (disch := first | omega | simp) [wrap_i64, -aseqC, -anyC, c3', d2, e1', e1, b8, b9]) | (with_reducible refine aseq_end ?_; try simp (disch := first | omega | simp) [wrap_i64, -aseqC, -anyC, c3', d2, e1', e1, b8, b9]) | (with_reducible refine any_end' ?_; try simp (disch := first | omega | simp) [wrap_i64, -aseqC, -anyC, c3', d2, e1', e1, b8, b9]) | ((first | with_reducible refine sideG ?_ ?_ | with_reducible refine sideG2 ?_ ?_ | with_reducible refine sideS ?_ ?_ | with_reducible refine sideS2 ?_ ?_ | with_reducible refine sideS3 ?_ ?_ | with_reducible refine sideA ?_ ?_ | with_reducible refine sideA2 ?_ ?_ | with_reducible refine sideA3 ?_ ?_); (first | omega | assumption | (simp; done))) | (refine acall (small13_g) ?_; try simp (disch := first | omega | simp) [wrap_i64, -aseqC, -anyC, c3', d2, e1', e1, b8, b9]) | (refine agives (small13_g) ?_; try simp (disch := first | omega | simp) [wrap_i64, -aseqC, -anyC, c3', d2, e1', e1, b8, b9]) | (refine acallAt (small13_g) ?_; try simp (disch := first | omega | simp) [wrap_i64, -aseqC, -anyC, c3', d2, e1', e1, b8, b9]) | (refine acall (f1) ?_; try simp (disch := first | omega | simp) [wrap_i64, -aseqC, -anyC, c3', d2, e1', e1, b8, b9]) | (refine agives (f1) ?_; try simp (disch := first | omega | simp) [wrap_i64, -aseqC, -anyC, c3', d2, e1', e1, b8, b9]) | (refine acallAt (f1) ?_; try simp (disch := first | omega | simp) [wrap_i64, -aseqC, -anyC, c3', d2, e1', e1, b8, b9]) | (refine acall (f2) ?_; try simp (disch := first | omega | simp) [wrap_i64, -aseqC, -anyC, c3', d2, e1', e1, b8, b9]) | (refine agives (f2) ?_; try simp (disch := first | omega | simp) [wrap_i64, -aseqC, -anyC, c3', d2, e1', e1, b8, b9]) | (refine acallAt (f2) ?_; try simp (disch := first | omega | simp) [wrap_i64, -aseqC, -anyC, c3', d2, e1', e1, b8, b9]) | (refine acall (d1) ?_; try simp (disch := first | omega | simp) [wrap_i64, -aseqC, -anyC, c3', d2, e1', e1, b8, b9]) | (refine agives (d1) ?_; try simp (disch := first | omega | simp) [wrap_i64, -aseqC, -anyC, c3', d2, e1', e1, b8, b9]) | (refine acallAt (d1) ?_; try simp (disch := first | omega | simp) [wrap_i64, -aseqC, -anyC, c3', d2, e1', e1, b8, b9]) | (refine acall (g3) ?_; try simp (disch := first | omega | simp) [wrap_i64, -aseqC, -anyC, c3', d2, e1', e1, b8, b9]) | (refine agives (g3) ?_; try simp (disch := first | omega | simp) [wrap_i64, -aseqC, -anyC, c3', d2, e1', e1, b8, b9]) | (refine acallAt (g3) ?_; try simp (disch := first | omega | simp) [wrap_i64, -aseqC, -anyC, c3', d2, e1', e1, b8, b9]) | (refine acall (g4) ?_; try simp (disch := first | omega | simp) [wrap_i64, -aseqC, -anyC, c3', d2, e1', e1, b8, b9]) | (refine agives (g4) ?_; try simp (disch := first | omega | simp) [wrap_i64, -aseqC, -anyC, c3', d2, e1', e1, b8, b9]) | (refine acallAt (g4) ?_; try simp (disch := first | omega | simp) [wrap_i64, -aseqC, -anyC, c3', d2, e1', e1, b8, b9]) | (refine acall (g5) ?_; try simp (disch := first | omega | simp) [wrap_i64, -aseqC, -anyC, c3', d2, e1', e1, b8, b9]) | (refine agives (g5) ?_; try simp (disch := first | omega | simp) [wrap_i64, -aseqC, -anyC, c3', d2, e1', e1, b8, b9]) | (refine acallAt (g5) ?_; try simp (disch := first | omega | simp) [wrap_i64, -aseqC, -anyC, c3', d2, e1', e1, b8, b9]) | (refine awp_seq_k fun K hK => ?_) | (refine awp_regionC ?_) | (refine hK _ ?_; clear hK; clear K) | (clear hK; clear K; refine hK _ ?_; clear hK; clear K) | (clear hK; clear K; clear hK; clear K; refine hK _ ?_; clear hK; clear K) | refine awp_block ?_ | (refine awp_condC ?_; simp (disch := first | omega | simp) [wrap_i64, -aseqC, -anyC, c3', d2, e1', e1, b8, b9]) | (refine awp_exit ?_; try simp (disch := first | omega | simp) [wrap_i64, -aseqC, -anyC, c3', d2, e1', e1, b8, b9]) | (refine awp_skip ?_; try simp (disch := first | omega | simp) [wrap_i64, -aseqC, -anyC, c3', d2, e1', e1, b8, b9]) | (refine awp_ret ?_; try simp (disch := first | omega | simp) [wrap_i64, -aseqC, -anyC, c3', d2, e1', e1, b8, b9]))
      all_goals first | (exfalso; simp_all; done) | skip
      all_goals
        refine awp_anyK [.cells [.int v.k, .int v.n, .str v.s] 46] [.R, .R, .R, .R, .R, .R, .R, .M, .R, .R, .R, .M, .R, .W, .R, .R, .W, .R, .W, .R] (by kernel_rfl) (by kernel_rfl) (by simp) ?_
        repeat' (first | ((with_reducible refine aguard (fun hg => ?_) (fun hg => ?_)) <;> (try simp only [hg]) <;> (try simp only [beq_iff_eq, beq_eq_false_iff_ne, ne_eq, decide_eq_true_eq, decide_eq_false_iff_not, bne_iff_ne, bne_eq_false_iff_eq] at hg) <;> (try (first | simp only [eq_false hg, if_true, if_false] | simp only [eq_true hg, if_true, if_false])) <;> (try simp (disch := first | omega | simp) [wrap_i64, -aseqC, -anyC, c3', d2, e1', e1, b8, b9])) | (with_reducible refine aseq_step ?_; try simp (disch := first | omega | simp) [wrap_i64, -aseqC, -anyC, c3', d2, e1', e1, b8, b9]) | (with_reducible refine any_step' ?_; try simp (disch := first | omega | simp) [wrap_i64, -aseqC, -anyC, c3', d2, e1', e1, b8, b9]) | (with_reducible refine aseq_end ?_; try simp (disch := first | omega | simp) [wrap_i64, -aseqC, -anyC, c3', d2, e1', e1, b8, b9]) | (with_reducible refine any_end' ?_; try simp (disch := first | omega | simp) [wrap_i64, -aseqC, -anyC, c3', d2, e1', e1, b8, b9]) | ((first | with_reducible refine sideG ?_ ?_ | with_reducible refine sideG2 ?_ ?_ | with_reducible refine sideS ?_ ?_ | with_reducible refine sideS2 ?_ ?_ | with_reducible refine sideS3 ?_ ?_ | with_reducible refine sideA ?_ ?_ | with_reducible refine sideA2 ?_ ?_ | with_reducible refine sideA3 ?_ ?_); (first | omega | assumption | (simp; done))) | (refine acall (g6) ?_; try simp (disch := first | omega | simp) [wrap_i64, -aseqC, -anyC, c3', d2, e1', e1, b8, b9]) | (refine agives (g6) ?_; try simp (disch := first | omega | simp) [wrap_i64, -aseqC, -anyC, c3', d2, e1', e1, b8, b9]) | (refine acallAt (g6) ?_; try simp (disch := first | omega | simp) [wrap_i64, -aseqC, -anyC, c3', d2, e1', e1, b8, b9]) | (refine acall (g7) ?_; try simp (disch := first | omega | simp) [wrap_i64, -aseqC, -anyC, c3', d2, e1', e1, b8, b9]) | (refine agives (g7) ?_; try simp (disch := first | omega | simp) [wrap_i64, -aseqC, -anyC, c3', d2, e1', e1, b8, b9]) | (refine acallAt (g7) ?_; try simp (disch := first | omega | simp) [wrap_i64, -aseqC, -anyC, c3', d2, e1', e1, b8, b9]) | (refine acall (small13_g) ?_; try simp (disch := first | omega | simp) [wrap_i64, -aseqC, -anyC, c3', d2, e1', e1, b8, b9]) | (refine agives (small13_g) ?_; try simp (disch := first | omega | simp) [wrap_i64, -aseqC, -anyC, c3', d2, e1', e1, b8, b9]) | (refine acallAt (small13_g) ?_; try simp (disch := first | omega | simp) [wrap_i64, -aseqC, -anyC, c3', d2, e1', e1, b8, b9]) | (refine awp_seq_k fun K hK => ?_) | (refine awp_regionC ?_) | (refine awp_anyA true (by kernel_rfl) (by kernel_rfl) ?_) | (refine awp_anyA false (by kernel_rfl) (by kernel_rfl) ?_) | (refine hK _ ?_; clear hK; clear K) | (clear hK; clear K; refine hK _ ?_; clear hK; clear K) | (clear hK; clear K; clear hK; clear K; refine hK _ ?_; clear hK; clear K) | refine awp_block ?_ | (refine awp_condC ?_; simp (disch := first | omega | simp) [wrap_i64, -aseqC, -anyC, c3', d2, e1', e1, b8, b9]) | (refine awp_exit ?_; try simp (disch := first | omega | simp) [wrap_i64, -aseqC, -anyC, c3', d2, e1', e1, b8, b9]) | (refine awp_skip ?_; try simp (disch := first | omega | simp) [wrap_i64, -aseqC, -anyC, c3', d2, e1', e1, b8, b9]) | (refine awp_ret ?_; try simp (disch := first | omega | simp) [wrap_i64, -aseqC, -anyC, c3', d2, e1', e1, b8, b9]))
      all_goals first | (exfalso; omega) | skip
    · have i1 : ¬ (L.length : Int) = 0 := by omega
      have i1' : ¬ L.length = 0 := by omega
      have i2 : ¬ i < 0 := by omega
      have i3 : ¬ (L.length : Int) ≤ i := by omega
      obtain ⟨k, rfl⟩ : ∃ k : Nat, i = k := ⟨i.toNat, by omega⟩
      have k1 : k < L.length := by omega
      have k2 : k < r.length := by omega
      have k3 : k ≤ r.length := by omega
      have g8 := row_g (r.set k v) (by simp; omega)
      have g9 := fits_g (r.set k v) L (by simp; omega) la'
      rw [fits_set hf k2 k1] at g9
      have g10 := fits_g (r.take k) L (by simp; omega) la'
      rw [fits_off (by simp; omega)] at g10
      rw [List.map_take] at g10
      rw [List.map_set] at g8 g9
      refine gives_of_awp Tryd.func6 Tryd.ntmps6 rfl rfl (by decide) rfl (by intro n; simp) fun σ n0 hcl hft => ?_
      repeat' (first | ((with_reducible refine aguard (fun hg => ?_) (fun hg => ?_)) <;> (try simp only [hg]) <;> (try simp only [beq_iff_eq, beq_eq_false_iff_ne, ne_eq, decide_eq_true_eq, decide_eq_false_iff_not, bne_iff_ne, bne_eq_false_iff_eq] at hg) <;> (try (first | simp only [eq_false hg, if_true, if_false] | simp only [eq_true hg, if_true, if_false])) <;> (try simp (disch := first | omega | simp) [wrap_i64, -aseqC, -anyC, c3', d2, e1', e1, b8, b9, i1, i1', i2, i3])) | (with_reducible refine aseq_step ?_; try simp (disch := first | omega | simp) [wrap_i64, -aseqC, -anyC, c3', d2, e1', e1, b8, b9, i1, i1', i2, i3]) | (with_reducible refine any_step' ?_; try simp (disch := first | omega | simp) [wrap_i64, -aseqC, -anyC, c3', d2, e1', e1, b8, b9, i1, i1', i2, i3]) | (with_reducible refine aseq_end ?_; try simp (disch := first | omega | simp) [wrap_i64, -aseqC, -anyC, c3', d2, e1', e1, b8, b9, i1, i1', i2, i3]) | (with_reducible refine any_end' ?_; try simp (disch := first | omega | simp) [wrap_i64, -aseqC, -anyC, c3', d2, e1', e1, b8, b9, i1, i1', i2, i3]) | ((first | with_reducible refine sideG ?_ ?_ | with_reducible refine sideG2 ?_ ?_ | with_reducible refine sideS ?_ ?_ | with_reducible refine sideS2 ?_ ?_ | with_reducible refine sideS3 ?_ ?_ | with_reducible refine sideA ?_ ?_ | with_reducible refine sideA2 ?_ ?_ | with_reducible refine sideA3 ?_ ?_); (first | omega | assumption | (simp; done))) | (refine acall (small13_g) ?_; try simp (disch := first | omega | simp) [wrap_i64, -aseqC, -anyC, c3', d2, e1', e1, b8, b9, i1, i1', i2, i3]) | (refine agives (small13_g) ?_; try simp (disch := first | omega | simp) [wrap_i64, -aseqC, -anyC, c3', d2, e1', e1, b8, b9, i1, i1', i2, i3]) | (refine acallAt (small13_g) ?_; try simp (disch := first | omega | simp) [wrap_i64, -aseqC, -anyC, c3', d2, e1', e1, b8, b9, i1, i1', i2, i3]) | (refine acall (f1) ?_; try simp (disch := first | omega | simp) [wrap_i64, -aseqC, -anyC, c3', d2, e1', e1, b8, b9, i1, i1', i2, i3]) | (refine agives (f1) ?_; try simp (disch := first | omega | simp) [wrap_i64, -aseqC, -anyC, c3', d2, e1', e1, b8, b9, i1, i1', i2, i3]) | (refine acallAt (f1) ?_; try simp (disch := first | omega | simp) [wrap_i64, -aseqC, -anyC, c3', d2, e1', e1, b8, b9, i1, i1', i2, i3]) | (refine acall (f2) ?_; try simp (disch := first | omega | simp) [wrap_i64, -aseqC, -anyC, c3', d2, e1', e1, b8, b9, i1, i1', i2, i3]) | (refine agives (f2) ?_; try simp (disch := first | omega | simp) [wrap_i64, -aseqC, -anyC, c3', d2, e1', e1, b8, b9, i1, i1', i2, i3]) | (refine acallAt (f2) ?_; try simp (disch := first | omega | simp) [wrap_i64, -aseqC, -anyC, c3', d2, e1', e1, b8, b9, i1, i1', i2, i3]) | (refine acall (d1) ?_; try simp (disch := first | omega | simp) [wrap_i64, -aseqC, -anyC, c3', d2, e1', e1, b8, b9, i1, i1', i2, i3]) | (refine agives (d1) ?_; try simp (disch := first | omega | simp) [wrap_i64, -aseqC, -anyC, c3', d2, e1', e1, b8, b9, i1, i1', i2, i3]) | (refine acallAt (d1) ?_; try simp (disch := first | omega | simp) [wrap_i64, -aseqC, -anyC, c3', d2, e1', e1, b8, b9, i1, i1', i2, i3]) | (refine acall (g3) ?_; try simp (disch := first | omega | simp) [wrap_i64, -aseqC, -anyC, c3', d2, e1', e1, b8, b9, i1, i1', i2, i3]) | (refine agives (g3) ?_; try simp (disch := first | omega | simp) [wrap_i64, -aseqC, -anyC, c3', d2, e1', e1, b8, b9, i1, i1', i2, i3]) | (refine acallAt (g3) ?_; try simp (disch := first | omega | simp) [wrap_i64, -aseqC, -anyC, c3', d2, e1', e1, b8, b9, i1, i1', i2, i3]) | (refine acall (g4) ?_; try simp (disch := first | omega | simp) [wrap_i64, -aseqC, -anyC, c3', d2, e1', e1, b8, b9, i1, i1', i2, i3]) | (refine agives (g4) ?_; try simp (disch := first | omega | simp) [wrap_i64, -aseqC, -anyC, c3', d2, e1', e1, b8, b9, i1, i1', i2, i3]) | (refine acallAt (g4) ?_; try simp (disch := first | omega | simp) [wrap_i64, -aseqC, -anyC, c3', d2, e1', e1, b8, b9, i1, i1', i2, i3]) | (refine acall (g5) ?_; try simp (disch := first | omega | simp) [wrap_i64, -aseqC, -anyC, c3', d2, e1', e1, b8, b9, i1, i1', i2, i3]) | (refine agives (g5) ?_; try simp (disch := first | omega | simp) [wrap_i64, -aseqC, -anyC, c3', d2, e1', e1, b8, b9, i1, i1', i2, i3]) | (refine acallAt (g5) ?_; try simp (disch := first | omega | simp) [wrap_i64, -aseqC, -anyC, c3', d2, e1', e1, b8, b9, i1, i1', i2, i3]) | (refine awp_seq_k fun K hK => ?_) | (refine awp_regionC ?_) | (refine hK _ ?_; clear hK; clear K) | (clear hK; clear K; refine hK _ ?_; clear hK; clear K) | (clear hK; clear K; clear hK; clear K; refine hK _ ?_; clear hK; clear K) | refine awp_block ?_ | (refine awp_condC ?_; simp (disch := first | omega | simp) [wrap_i64, -aseqC, -anyC, c3', d2, e1', e1, b8, b9, i1, i1', i2, i3]) | (refine awp_exit ?_; try simp (disch := first | omega | simp) [wrap_i64, -aseqC, -anyC, c3', d2, e1', e1, b8, b9, i1, i1', i2, i3]) | (refine awp_skip ?_; try simp (disch := first | omega | simp) [wrap_i64, -aseqC, -anyC, c3', d2, e1', e1, b8, b9, i1, i1', i2, i3]) | (refine awp_ret ?_; try simp (disch := first | omega | simp) [wrap_i64, -aseqC, -anyC, c3', d2, e1', e1, b8, b9, i1, i1', i2, i3]))
      all_goals first | (exfalso; simp_all; done) | skip
      all_goals
        refine awp_anyK [.cells [.int v.k, .int v.n, .str v.s] 46] [.R, .R, .R, .R, .R, .R, .R, .M, .R, .R, .R, .M, .R, .W, .R, .R, .W, .R, .W, .R] (by kernel_rfl) (by kernel_rfl) (by simp) ?_
        repeat' (first | ((with_reducible refine aguard (fun hg => ?_) (fun hg => ?_)) <;> (try simp only [hg]) <;> (try simp only [beq_iff_eq, beq_eq_false_iff_ne, ne_eq, decide_eq_true_eq, decide_eq_false_iff_not, bne_iff_ne, bne_eq_false_iff_eq] at hg) <;> (try (first | simp only [eq_false hg, if_true, if_false] | simp only [eq_true hg, if_true, if_false])) <;> (try simp (disch := first | omega | simp) [wrap_i64, -aseqC, -anyC, c3', d2, e1', e1, b8, b9, i1, i1', i2, i3])) | (with_reducible refine aseq_step ?_; try simp (disch := first | omega | simp) [wrap_i64, -aseqC, -anyC, c3', d2, e1', e1, b8, b9, i1, i1', i2, i3]) | (with_reducible refine any_step' ?_; try simp (disch := first | omega | simp) [wrap_i64, -aseqC, -anyC, c3', d2, e1', e1, b8, b9, i1, i1', i2, i3]) | (with_reducible refine aseq_end ?_; try simp (disch := first | omega | simp) [wrap_i64, -aseqC, -anyC, c3', d2, e1', e1, b8, b9, i1, i1', i2, i3]) | (with_reducible refine any_end' ?_; try simp (disch := first | omega | simp) [wrap_i64, -aseqC, -anyC, c3', d2, e1', e1, b8, b9, i1, i1', i2, i3]) | ((first | with_reducible refine sideG ?_ ?_ | with_reducible refine sideG2 ?_ ?_ | with_reducible refine sideS ?_ ?_ | with_reducible refine sideS2 ?_ ?_ | with_reducible refine sideS3 ?_ ?_ | with_reducible refine sideA ?_ ?_ | with_reducible refine sideA2 ?_ ?_ | with_reducible refine sideA3 ?_ ?_); (first | omega | assumption | (simp; done))) | (refine acall (g6) ?_; try simp (disch := first | omega | simp) [wrap_i64, -aseqC, -anyC, c3', d2, e1', e1, b8, b9, i1, i1', i2, i3]) | (refine agives (g6) ?_; try simp (disch := first | omega | simp) [wrap_i64, -aseqC, -anyC, c3', d2, e1', e1, b8, b9, i1, i1', i2, i3]) | (refine acallAt (g6) ?_; try simp (disch := first | omega | simp) [wrap_i64, -aseqC, -anyC, c3', d2, e1', e1, b8, b9, i1, i1', i2, i3]) | (refine acall (g7) ?_; try simp (disch := first | omega | simp) [wrap_i64, -aseqC, -anyC, c3', d2, e1', e1, b8, b9, i1, i1', i2, i3]) | (refine agives (g7) ?_; try simp (disch := first | omega | simp) [wrap_i64, -aseqC, -anyC, c3', d2, e1', e1, b8, b9, i1, i1', i2, i3]) | (refine acallAt (g7) ?_; try simp (disch := first | omega | simp) [wrap_i64, -aseqC, -anyC, c3', d2, e1', e1, b8, b9, i1, i1', i2, i3]) | (refine acall (small13_g) ?_; try simp (disch := first | omega | simp) [wrap_i64, -aseqC, -anyC, c3', d2, e1', e1, b8, b9, i1, i1', i2, i3]) | (refine agives (small13_g) ?_; try simp (disch := first | omega | simp) [wrap_i64, -aseqC, -anyC, c3', d2, e1', e1, b8, b9, i1, i1', i2, i3]) | (refine acallAt (small13_g) ?_; try simp (disch := first | omega | simp) [wrap_i64, -aseqC, -anyC, c3', d2, e1', e1, b8, b9, i1, i1', i2, i3]) | (refine awp_seq_k fun K hK => ?_) | (refine awp_regionV4 (by rfl) ?_) | (refine awp_regionC ?_) | (refine hK _ ?_; clear hK; clear K) | (clear hK; clear K; refine hK _ ?_; clear hK; clear K) | (clear hK; clear K; clear hK; clear K; refine hK _ ?_; clear hK; clear K) | refine awp_block ?_ | (refine awp_condC ?_; simp (disch := first | omega | simp) [wrap_i64, -aseqC, -anyC, c3', d2, e1', e1, b8, b9, i1, i1', i2, i3]) | (refine awp_exit ?_; try simp (disch := first | omega | simp) [wrap_i64, -aseqC, -anyC, c3', d2, e1', e1, b8, b9, i1, i1', i2, i3]) | (refine awp_skip ?_; try simp (disch := first | omega | simp) [wrap_i64, -aseqC, -anyC, c3', d2, e1', e1, b8, b9, i1, i1', i2, i3]) | (refine awp_ret ?_; try simp (disch := first | omega | simp) [wrap_i64, -aseqC, -anyC, c3', d2, e1', e1, b8, b9, i1, i1', i2, i3]))
        refine awp_freezeR 11 3 (k := L.length) (by simp [e1]) (by rfl) (by simp [e1]) ?_
        repeat' (first | ((with_reducible refine aguard (fun hg => ?_) (fun hg => ?_)) <;> (try simp only [hg]) <;> (try simp only [beq_iff_eq, beq_eq_false_iff_ne, ne_eq, decide_eq_true_eq, decide_eq_false_iff_not, bne_iff_ne, bne_eq_false_iff_eq] at hg) <;> (try (first | simp only [eq_false hg, if_true, if_false] | simp only [eq_true hg, if_true, if_false])) <;> (try simp (disch := first | omega | simp) [wrap_i64, -aseqC, -anyC, k1, k2, k3, e1, e1'])) | (with_reducible refine aseq_step ?_; try simp (disch := first | omega | simp) [wrap_i64, -aseqC, -anyC, k1, k2, k3, e1, e1']) | (with_reducible refine any_step' ?_; try simp (disch := first | omega | simp) [wrap_i64, -aseqC, -anyC, k1, k2, k3, e1, e1']) | (with_reducible refine aseq_end ?_; try simp (disch := first | omega | simp) [wrap_i64, -aseqC, -anyC, k1, k2, k3, e1, e1']) | (with_reducible refine any_end' ?_; try simp (disch := first | omega | simp) [wrap_i64, -aseqC, -anyC, k1, k2, k3, e1, e1']) | ((first | with_reducible refine sideG ?_ ?_ | with_reducible refine sideG2 ?_ ?_ | with_reducible refine sideS ?_ ?_ | with_reducible refine sideS2 ?_ ?_ | with_reducible refine sideS3 ?_ ?_ | with_reducible refine sideA ?_ ?_ | with_reducible refine sideA2 ?_ ?_ | with_reducible refine sideA3 ?_ ?_); (first | omega | assumption | (simp; done))) | (refine acall (g8) ?_; try simp (disch := first | omega | simp) [wrap_i64, -aseqC, -anyC, k1, k2, k3, e1, e1']) | (refine agives (g8) ?_; try simp (disch := first | omega | simp) [wrap_i64, -aseqC, -anyC, k1, k2, k3, e1, e1']) | (refine acallAt (g8) ?_; try simp (disch := first | omega | simp) [wrap_i64, -aseqC, -anyC, k1, k2, k3, e1, e1']) | (refine acall (g9) ?_; try simp (disch := first | omega | simp) [wrap_i64, -aseqC, -anyC, k1, k2, k3, e1, e1']) | (refine agives (g9) ?_; try simp (disch := first | omega | simp) [wrap_i64, -aseqC, -anyC, k1, k2, k3, e1, e1']) | (refine acallAt (g9) ?_; try simp (disch := first | omega | simp) [wrap_i64, -aseqC, -anyC, k1, k2, k3, e1, e1']) | (refine acall (g10) ?_; try simp (disch := first | omega | simp) [wrap_i64, -aseqC, -anyC, k1, k2, k3, e1, e1']) | (refine agives (g10) ?_; try simp (disch := first | omega | simp) [wrap_i64, -aseqC, -anyC, k1, k2, k3, e1, e1']) | (refine acallAt (g10) ?_; try simp (disch := first | omega | simp) [wrap_i64, -aseqC, -anyC, k1, k2, k3, e1, e1']) | (refine awp_seq_k fun K hK => ?_) | (refine awp_regionC ?_) | (refine awp_anyA true (by kernel_rfl) (by kernel_rfl) ?_) | (refine awp_anyA false (by kernel_rfl) (by kernel_rfl) ?_) | (refine hK _ ?_; clear hK; clear K) | (clear hK; clear K; refine hK _ ?_; clear hK; clear K) | (clear hK; clear K; clear hK; clear K; refine hK _ ?_; clear hK; clear K) | refine awp_block ?_ | (refine awp_condC ?_; simp (disch := first | omega | simp) [wrap_i64, -aseqC, -anyC, k1, k2, k3, e1, e1']) | (refine awp_exit ?_; try simp (disch := first | omega | simp) [wrap_i64, -aseqC, -anyC, k1, k2, k3, e1, e1']) | (refine awp_skip ?_; try simp (disch := first | omega | simp) [wrap_i64, -aseqC, -anyC, k1, k2, k3, e1, e1']) | (refine awp_ret ?_; try simp (disch := first | omega | simp) [wrap_i64, -aseqC, -anyC, k1, k2, k3, e1, e1']))
        all_goals first | exact hg (by rw [decide_eq_true (by assumption), Bool.true_and]) | exact hg (by rw [decide_eq_false (by assumption), Bool.false_and]) | (simp_all; done)
end Go.Proofs.YtinmkhgadekabaaDoor
