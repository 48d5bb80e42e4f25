/- What the row's variable holds at a law's entry: the table of names. -/
import Derived.Deep.DeepHandedRow
import Derived.Lib.LaidTab
import Derived.Test.YtnkimlkoijfcpaaGreatDoorGi12
import Derived.Test.YtnkimlkoijfcpaaGreatDoorGi14
import Derived.Test.YtnkimlkoijfcpaaGreatDoorGi15
set_option linter.unusedSimpArgs false
set_option linter.unusedVariables false
namespace Go.Proofs.YtnkimlkoijfcpaaGreatDoor
open Go.ChangeShapes Go.WideShapes Go.ChangeAt Go.RowKit Go.Lib
def namesZ : List ByteArray := qba.map fun v => match v with | .string s => s | _ => ByteArray.empty
theorem glob27 {W : World} {laid : List (String × DataW Unit)} (hl : laidMet Tryz.prog laid W) (h1 : ("errata/code.names", Rows.laid_errata_code_names) ∈ laid) : globsOk (GlobS (St.flat W)) := by
  obtain ⟨g1, t1, c1, f1, p1, a1, b1, d1, e1⟩ := laidMet.reads hl h1
  obtain rfl : g1 = 0 := Option.some.inj (a1.symm.trans (by kernel_rfl))
  obtain rfl : t1 = 197 := Option.some.inj (b1.symm.trans (by kernel_rfl))
  have e2 : (Rows.laid_errata_code_names : DataW Unit) = tabS namesZ := by kernel_rfl
  rw [e2] at e1
  have y1 := cells_of_tabS (n := 23) (e := 9) Tryz.underlying197 Tryz.underlying9 (by kernel_rfl) (by kernel_rfl) e1
  have e3 : (namesZ.map fun z => Value.string z) = qba := by kernel_rfl
  rw [e3] at y1
  refine ⟨⟨(), globS_flat ?_ (by simp [qba])⟩, trivial⟩
  obtain ⟨t, fz, hb⟩ := var_block a1 d1
  exact ⟨t, fz, by rw [hb, ← y1]⟩
section
variable {H : Type} {enc : TypeId × Value → H} {w : World} {sp : Nat → Bool} {hd : Bool}
theorem trods_ints27 (N : Nat) : Trods enc Tryz.prog w sp hd 22 (fun l : List Int => D.sl (l.map D.int)) N := fun n cs x hn h =>
  trods_sl Tryz.underlying22 (sz := 1) (by kernel_rfl) (by omega) (fun _ => rfl) (qdr Tryz.underlying3 N) n cs x (by omega) h
end
theorem ints_av27 (l : List Int) : (D.sl (l.map D.int)).av = .sl (l.map AV.int) := by
  rw [D.av, D.avs_map, List.map_map]; rfl
theorem ints_flat27 {w : World} {l : List Int} {v : Value} (h : Rd w Any (.sl (l.map D.int)) [v]) : RR1 (St.flat w) (.sl (l.map AV.int)) v := by
  have := flat_rc h
  rw [ints_av27] at this
  exact this
end Go.Proofs.YtnkimlkoijfcpaaGreatDoor

/- The arguments of a law, five to seven of them. -/
namespace Go.Proofs.YtnkimlkoijfcpaaGreatDoor
open Go.ChangeShapes Go.WideShapes Go.ChangeAt Go.RowKit Go.Lib
section
variable {H : Type} {enc : TypeId × Value → H} {P : Program} {w : World} {base : Nat} {spare : Nat → Bool} {held : Bool} {t0 t1 t2 t3 t4 t5 t6 : TypeId} {args : Array Value} {ds : List (DataW H)} {ps : List MemPlace}
end
end Go.Proofs.YtnkimlkoijfcpaaGreatDoor

/- What the lifts of layer 26 share. -/
namespace Go.Proofs.YtnkimlkoijfcpaaGreatDoor
open Go.ChangeShapes Go.WideShapes Go.ChangeAt Go.RowKit Go.Lib
theorem fns_flat26 {w : World} {l : List Fn} {v : Value} (h : Rd w Any (.sl (l.map Fn.d)) [v]) : RR1 (St.flat w) (.sl (l.map Fn.av)) v := by
  have := flat_rc h
  rw [fns_av] at this
  exact this
theorem ex_flat26 {w : World} {e : Ex} {cs : List Value} (h : Rd w Any e.d cs) : RR1 (St.flat w) e.av (.agg cs.toArray) := by
  have := flat_rc h
  rw [Ex.d_av, Ex.av_eq, RC] at this
  rw [Ex.av_eq]
  exact ⟨cs, rfl, this⟩
theorem mem_sum26 {α : Type} {g : α → Nat} : ∀ {l : List α} {a : α}, a ∈ l → g a ≤ (l.map g).sum
  | [], _, h => by cases h
  | b :: l, a, h => by
    rw [List.map_cons, List.sum_cons]
    rcases List.mem_cons.1 h with rfl | h
    · omega
    · have := mem_sum26 (g := g) h; omega
end Go.Proofs.YtnkimlkoijfcpaaGreatDoor

/- Regions that draw their order, and write own blocks alone: reads see the caller's blocks, and the own ones that stay. -/
namespace Go.Proofs.YtnkimlkoijfcpaaGreatDoor
open Go.RowKit Go.Lib
theorem wop_callB {P : Program} {s : AS} {f : FuncId} {d : Tmp} {caps : List AV} {args : List Operand} {tys : Array TypeId} {x : AV} {τ : Nat → AB} (hd : s.t d = .bm f caps) (hf : enters P f = true) (hn : ∀ y ∈ args, ∀ l, s.eval y ≠ .tup l) (h : AC P f (caps ++ (args.map s.eval).map AV.pub) s.st fun y τ' => y = x ∧ τ' = τ) :
    WOp P s.eval s.st (.call { callee := .value (.tmp d), args := args.toArray, argTypes := tys }) x τ := by
  intro X a oper ho hS _ hσ hev Q
  have hfn := hev (.tmp d) (by simp [Op.operands, Call.operands])
  change RR X (s.t d) _ at hfn
  rw [hd] at hfn
  change RC X (.bm f caps) [a.eval (.tmp d)] at hfn
  rw [RC] at hfn
  obtain ⟨vs, hv, hcaps⟩ := hfn
  have he : a.eval (.tmp d) = .func (.func f) vs.toArray #[] := by simpa using hv
  have hrun : (execOp a.eval oper).run P X.w = .ok (.enter f (vs ++ args.map a.eval).toArray) X.w := by
    simp [execOp, ho, resolve, he, Deferred.ofValue, invoke, qbx hf]
  have hargs := rrl_ev (a := a) args (fun y hy => hev y (by simp [Op.operands, Call.operands, hy])) hn
  unfold Oper.wp
  rw [hrun]
  refine (h X _ s.nx hS hσ s.fin (hcaps.rrl.append hargs.pub)).mono ?_
  rintro e w' ⟨Y, v, y, rfl, rfl, ⟨rfl, hσ'⟩, hS', hF, hR⟩
  exact ⟨v, Y, rfl, rfl, hS', hF, hR, hσ'⟩
theorem wop_of_fop {P : Program} {s : AS} {o : Op} {x : AV} {nb : Option AB} (h : FOp P s.eval s.st o x (nb.map (s.nx, ·))) : WOp P s.eval s.st o x (s.ext nb).st := by
  intro X a oper ho hS _ hσ hev Q
  refine Oper.wp_mono ?_ (h X a oper ho hS (fun r hr => .inl (by rw [hσ])) hev (fun r ab hr => ?_) Q)
  · rintro a' w' ⟨v, Y, e1, e2, e3, e4, e5, e6⟩
    refine ⟨v, Y, e1, e2, e3, e4, e5, ?_⟩
    rw [e6]
    cases nb with
    | none => exact hσ
    | some ab => rw [(ext_st s ab).1, hσ]; rfl
  · cases nb with
    | none => cases hr
    | some ab => cases hr; rw [hσ]; exact s.fin _ (Nat.le_refl _)
def aevW2 (P : Program) (s : AS) (o : Op) (K : AV → AS → Prop) : Prop :=
  match o with
  | .call { callee := .value (.tmp d), args := ⟨args⟩, argTypes := tys } => match s.t d with
    | .bm f bound => nts (args.map s.eval) = true ∧ enters P f = true ∧ ACall P f (bound ++ (args.map s.eval).map AV.pub) s K
    | _ => aevW P s (.call { callee := .value (.tmp d), args := ⟨args⟩, argTypes := tys }) K
  | .fieldAddr t p f => aevF P s (.fieldAddr t p f) (fun x nb => K x (s.ext nb))
  | .indexAddr t p f => aevF P s (.indexAddr t p f) (fun x nb => K x (s.ext nb))
  | .load t p => aevF P s (.load t p) (fun x nb => K x (s.ext nb))
  | .nilCheck p => aevF P s (.nilCheck p) (fun x nb => K x (s.ext nb))
  | .move p => aevF P s (.move p) (fun x nb => K x (s.ext nb))
  | o => aevW P s o K
theorem aevW2_sound {P : Program} {s : AS} {o : Op} {K : AV → AS → Prop} (h : aevW2 P s o K) : ∃ x s1, WOp P s.eval s.st o x s1.st ∧ (s1.t = s.t ∧ s1.n = s.n ∧ s1.n0 = s.n0) ∧ K x s1 := by
  have hf : ∀ o, aevF P s o (fun x nb => K x (s.ext nb)) → ∃ x s1, WOp P s.eval s.st o x s1.st ∧ (s1.t = s.t ∧ s1.n = s.n ∧ s1.n0 = s.n0) ∧ K x s1 := fun o h => by
    obtain ⟨x, nb, h1, h2⟩ := qcq h
    exact ⟨x, s.ext nb, wop_of_fop h1, by cases nb <;> exact ⟨rfl, rfl, rfl⟩, h2⟩
  unfold aevW2 at h
  split at h
  · split at h
    · obtain ⟨h1, h2, x, s1, h3, h4, h5⟩ := h
      exact ⟨x, s1, wop_callB ‹_› h2 (qck h1) h3, h4, h5⟩
    · exact aevW_sound h
  · exact hf _ h
  · exact hf _ h
  · exact hf _ h
  · exact hf _ h
  · exact hf _ h
  · exact aevW_sound h
def AS.seen (m : List AB) (s : AS) : AS := { s with L := m }
theorem kept_e {m : List AB} {s : AS} {σ0 : Nat → AB} {n0 : Nat} (hσ : s.σ = σ0) (hn : s.n0 = n0) (h : qco m s.L) : ∀ r, loc σ0 n0 m r ≠ .unborn → s.st r = loc σ0 n0 m r := fun r hr => by
  by_cases hlt : r < n0
  · show loc s.σ s.n0 s.L r = _
    unfold loc
    rw [hn, if_pos hlt, if_pos hlt, hσ]
  · have e : loc σ0 n0 m r = loc (fun _ => .unborn) n0 m r := by unfold loc; rw [if_neg hlt, if_neg hlt]
    rw [e] at hr ⊢
    exact kept_of hn h r hr
theorem ext_keeps {m : List AB} {s : AS} {σ0 : Nat → AB} {n0 : Nat} (hke : ∀ r, loc σ0 n0 m r ≠ .unborn → s.st r = loc σ0 n0 m r) (nb : Option AB) : ∀ r, loc σ0 n0 m r ≠ .unborn → (s.ext nb).st r = loc σ0 n0 m r := fun r hr => by
  cases nb with
  | none => exact hke r hr
  | some ab =>
    have h0 := hke r hr
    have hlt : r < s.nx := Nat.lt_of_not_le fun hle => hr (h0.symm.trans (s.fin r hle))
    rw [(ext_st s ab).1]; unfold upd; rw [if_neg (by omega)]; exact h0
section
variable {P : Program}
end
attribute [simp] aevW2
@[simp] theorem seen_mk (m : List AB) (n : Nat) (t : Nat → AV) (σ : Nat → AB) (n0 : Nat) (L : List AB) : (AS.mk n t σ n0 L).seen m = ⟨n, t, σ, n0, m⟩ := rfl
end Go.Proofs.YtnkimlkoijfcpaaGreatDoor

/- append to an empty slice of the call's own, as a slice that the call may write. -/
namespace Go.Proofs.YtnkimlkoijfcpaaGreatDoor
open Go.RowKit Go.Lib
variable {P : Program} {s : AS}
theorem con_thaw {X0 X : St} {a : Act} {w : World} (hc : Con X0 s a w X) {r : Nat} {et : TypeId} {sz : Nat} (hσ : s.st r = .tail 0 et sz) :
    ∃ X', X'.w = X.w ∧ Con X0 ((s.set r .dead).ext (some (.vec [] et sz))) a w X' ∧ Fr X X' ∧ ∀ v, RC X (.gs r []) [v] → RC X' (.own s.nx 0) [v] := by
  have hX : X.σ r = .tail 0 et sz := by rw [hc.σ, hσ]
  have hlt : r < s.nx := Nat.lt_of_not_le fun h => by have := s.fin r h; rw [hσ] at this; cases this
  have hun : X.σ s.nx = .unborn := by rw [hc.σ]; exact s.fin _ (Nat.le_refl _)
  have hrn : r ≠ s.nx := by omega
  have hB := hc.sr.block r
  rw [hX] at hB
  obtain ⟨xs, hown⟩ := hB.2 rfl
  have hxs : xs = [] := List.eq_nil_of_length_eq_zero (by rw [hown.1]; simp)
  subst hxs
  have hbr : X.blk r = (X.μ r).ownBlock := by unfold St.blk; rw [hX]; rfl
  let X' : St := { X with μ := upd X.μ s.nx (X.μ r), σ := upd (upd X.σ r .dead) s.nx (.vec [] et sz) }
  have hσ1 : X'.σ s.nx = .vec [] et sz := by simp [X', upd]
  have hσ2 : X'.σ r = .dead := by simp [X', upd, hrn]
  have hσ3 : ∀ k, k ≠ r → k ≠ s.nx → X'.σ k = X.σ k ∧ X'.μ k = X.μ k := fun k h1 h2 => by simp [X', upd, h1, h2]
  have hμ1 : X'.μ s.nx = X.μ r := by simp [X', upd]
  have hb : ∀ k b, X'.blk k = some b → (k = s.nx ∧ X.blk r = some b) ∨ (k ≠ r ∧ k ≠ s.nx ∧ X.blk k = some b) := fun k b h => by
    unfold St.blk at h
    by_cases h1 : k = s.nx
    · subst h1
      rw [hσ1, hμ1] at h
      exact .inl ⟨rfl, hbr.trans h⟩
    · by_cases h2 : k = r
      · subst h2; rw [hσ2] at h; cases h
      · obtain ⟨e1, e2⟩ := hσ3 k h2 h1
        rw [e1, e2] at h
        exact .inr ⟨h2, h1, h⟩
  have hF : Fr X X' := ⟨rfl, rfl, rfl, Nat.le_refl _, fun _ _ _ => rfl, fun _ _ _ => rfl, fun _ _ h => h, fun b o h => .inl h, fun k => by
    unfold Ver
    by_cases h1 : k = s.nx
    · subst h1; rw [hun]; trivial
    · by_cases h2 : k = r
      · subst h2; rw [hX]; exact .inl hσ2
      · obtain ⟨e1, e2⟩ := hσ3 k h2 h1
        have := (Fr.refl X).ver k
        unfold Ver at this
        rw [e1, e2]; exact this, fun k b h => by
    rcases hb k b h with ⟨-, h⟩ | ⟨-, -, h⟩
    · exact .inr ⟨r, h⟩
    · exact .inr ⟨k, h⟩⟩
  refine ⟨X', rfl, ⟨hc.w, ?_, ⟨fun k => ?_, fun k k' b h1 h2 => ?_, fun k b o h1 h2 => ?_, fun b o h => hc.sr.old b o h, hc.sr.glob.mono fun _ _ _ h => h.fr hF⟩, hc.fr.trans hF, ?_, fun d => ?_, hc.defers, ?_⟩, hF, fun v hv => ?_⟩
  · rw [(ext_st _ _).1, AS.set_st _ _ _ hlt, ← hc.σ]
    have : (s.set r .dead).nx = s.nx := by
      unfold AS.set AS.nx; split <;> simp
    rw [this]
  · by_cases h1 : k = s.nx
    · subst h1; rw [hσ1, hμ1]; exact ⟨fun x hx => by simp at hx, [], hown, by rw [RCs]⟩
    · by_cases h2 : k = r
      · subst h2; rw [hσ2]; trivial
      · obtain ⟨e1, e2⟩ := hσ3 k h2 h1
        exact BR.fr hc.sr hF e1 e2 fun _ _ => rfl
  · rcases hb k b h1 with ⟨rfl, h3⟩ | ⟨h3, h4, h5⟩ <;> rcases hb k' b h2 with ⟨rfl, h6⟩ | ⟨h6, h7, h8⟩
    · rfl
    · exact absurd (hc.sr.alone _ _ b h8 h3) h6
    · exact absurd (hc.sr.alone _ _ b h5 h6) h3
    · exact hc.sr.alone _ _ b h5 h8
  · rcases hb k b h1 with ⟨rfl, h3⟩ | ⟨h3, h4, h5⟩
    · obtain ⟨_, e, s2, h6, h7⟩ := hc.sr.apart r b o h3 h2
      rw [hX] at h6; cases h6
      omega
    · obtain ⟨n2, e, s2, h6, h7⟩ := hc.sr.apart k b o h5 h2
      exact ⟨n2, e, s2, by rw [(hσ3 k h3 h4).1]; exact h6, h7⟩
  · have := (s.set_nx r .dead).1
    show _ = (s.set r .dead).n
    rw [this]; exact hc.size
  · have := (s.set_nx r .dead).2.2
    show RR X' ((s.set r .dead).t d) _
    rw [this]; exact (hc.regs d).fr hF
  · have := (s.set_nx r .dead).2.1
    show Fin _ (s.set r .dead).n0
    rw [this]; exact hc.fin
  · rw [RC] at hv
    obtain ⟨A, cap, b, off, hv1, -, -, -, -, -, hall⟩ := hv
    show RC X' (.own s.nx 0) [v]
    rw [RC]
    have hv2 : v = .slice A 0 cap := by simpa using hv1
    subst hv2
    refine ⟨by rw [hσ1]; simp, _, rfl, ⟨rfl, fun I h => by rw [hσ1] at h; cases h⟩, fun l e2 s2 h => ?_⟩
    rw [hσ1] at h; cases h
    exact ⟨Nat.le_refl _, fun _ => by rw [hμ1]; exact (hall _ _ _ hX).2 rfl⟩
theorem own_core {t : TypeId} {x y : Operand} {r n : Nat} {l ys : List AV} {e : TypeId} {sz by_ : Nat} {yv : AV} {K : AV → AS → Prop} {X0 X : St} {a : Act} {oper : Oper} (ho : oper.op = .call { callee := .builtin .append, args := #[x, y], argTypes := #[t, t] }) (hc : Con X0 s a X.w X)
    (ht : vinfo P t = some (e, sz, by_)) (hx : RC X (.own r n) [a.eval x]) (hn : n = l.length) (hσ : s.st r = .vec l e sz) (hy : RR X yv (a.eval y)) (hyl : yv.list = some ys) (hne : 0 < ys.length)
    (hw : ∀ z ∈ ys, z.width = sz) (h1 : ∀ z ∈ ys, z.elem = true) (hb : (l.length + ys.length) * by_ ≤ 140737488355328) (hK : K (.own r (l.length + ys.length)) (s.set r (.vec (l ++ ys) e sz))) (Q : Exit → Act → World → Prop) :
    oper.wp P a X.w (fun a' w' => ∃ v x s1 X', a' = a.put oper.dst v ∧ K x s1 ∧ Con X0 s1 a w' X' ∧ RR X' x v) Q := by
  subst hn
  rw [RC] at hx
  obtain ⟨-, v0, hv0, -, hall⟩ := hx
  have hX : X.σ r = .vec l e sz := by rw [hc.σ, hσ]
  have hvm : a.eval x = X.μ r := by
    have := (hall _ _ _ hX).2 rfl
    rw [← this]; simpa using hv0
  obtain ⟨A, cap, b, off, hyv', hc1, hc2, hA, hm⟩ := RR.list hyl hy
  obtain rfl := hA hne
  obtain ⟨news, hr2, hcell⟩ := hm.row
  have hB := hc.sr.block r
  rw [hX] at hB
  obtain ⟨hwd, xs, hown, hrs⟩ := hB
  obtain ⟨hu1, i, z, hi, hz, hsz, hby, hzs, hsz0, hby0, -⟩ := qbl ht
  have hlen : l.length + ys.length ≤ 140737488355328 := Nat.le_trans (Nat.le_mul_of_pos_right _ hby0) hb
  have hnl := RCs.len hr2 hw
  have hnc : ∀ j u, news[j]? = some u → X.w.cell? ((⟨b, off, none⟩ : Addr).add j) = some u := fun j u hj => by rw [qbi]; exact hcell.at.get j u hj
  have h63 : l.length + ys.length ≤ maxLen := by unfold maxLen; omega
  subst hsz
  subst hby
  obtain ⟨v2, w2, hrun, hown2, hg, h3, h4⟩ := run_append_own_at (P := P) X.w 0 t oper.type e i z i.size i.bytes hu1 hi hz rfl rfl hzs hsz0 (X.μ r) l.length xs hown ⟨b, off, none⟩ ys.length cap news hnl hnc (RCs.oneCell hr2 h1) h63 hb (Nat.zero_le _)
  have hblk : X.blk r = (X.μ r).ownBlock := by unfold St.blk; rw [hX]; rfl
  have hno : ∀ b2 o, X.blk r = some b2 → ¬ X.S b2 o := fun b2 o h5 h6 => by
    obtain ⟨n2, e2, s2, h7, h8⟩ := hc.sr.apart r b2 o h5 h6
    rw [hX] at h7; cases h7
  have hT : Turns X w2 X.S r (.vec (l ++ ys) e i.size) v2 := by
    refine ⟨by rw [hblk]; exact hg, fun b2 h => ?_, ?_, fun b2 o h5 h6 => absurd h6 (hno b2 o h5), fun _ _ h => h, fun b2 o h => .inl h, fun b2 o h5 h6 => ?_, fun b2 h => (hown2.lt b2 h).2⟩
    · change v2.ownBlock = some b2 at h
      rcases h4 with h4 | h4
      · left; rw [hblk, ← h4, h]
      · right; rw [h4] at h; cases h; exact Nat.le_refl _
    · unfold Ver
      rw [hX]
      exact .inr ⟨l ++ ys, by simp [St.turn, upd], .inl (by simp; omega)⟩
    · exfalso
      change v2.ownBlock = some b2 at h5
      rcases h4 with h4 | h4
      · exact hno b2 o (by rw [hblk, ← h4]; exact h5) h6
      · rw [h4] at h5; cases h5
        exact absurd (hc.sr.old _ o h6) (Nat.lt_irrefl _)
  have hF := turn_fr hc.sr hT
  refine qbj (w' := w2) (v := v2) (by simp [execOp, ho, resolve, invoke, builtin, hvm, hyv', hrun])
    ⟨v2, .own r (l.length + ys.length), _, _, rfl, hK, con_turn (v := v2) hc (by rw [hσ]; simp) hT ⟨fun x hx => ?_, xs ++ news, by rw [List.length_append]; exact hown2, ?_⟩, ?_⟩
  · rcases List.mem_append.1 hx with hx | hx
    · exact hwd x hx
    · exact hw x hx
  · exact RCs.fr hF _ _ (hrs.append hr2)
  · show RC _ (.own r _) [_]
    rw [RC]
    refine ⟨by simp [St.turn, upd], v2, rfl, ⟨?_, fun I h => by simp [St.turn, upd] at h⟩, fun l2 e2 s2 h => ?_⟩
    · rcases hown2.2 with ⟨h5, -⟩ | ⟨g, cap2, cur, h5, -⟩ <;> rw [h5] <;> rfl
    · simp [St.turn, upd] at h
      obtain ⟨rfl, rfl, rfl⟩ := h
      exact ⟨by simp, fun _ => by simp [St.turn, upd]⟩
theorem aseqC_cut {ops : Array Oper} {K K' : AS → Prop} {l2 : List Oper} (hk : ∀ s, K' s → aseq P ops K l2 s) : ∀ {l1 : List Oper} {s : AS}, qq P ops K' l1 s → aseq P ops K (l1 ++ l2) s
  | [], s, h => hk s h
  | o :: l, s, h => by
    rw [qq] at h
    rw [List.cons_append, aseq]
    split at h
    · rename_i b hb
      cases b with
      | true => exact ⟨true, hb, (qcf (h.1 rfl)).mono fun x s1 ⟨h1, h2⟩ => ⟨h1, aseqC_cut hk h2⟩⟩
      | false => exact ⟨false, hb, (h.2 rfl).1, aseqC_cut hk (h.2 rfl).2⟩
    · exact h.elim
def ownApp (P : Program) (ops : Array Oper) (s : AS) (o : Oper) (K : AS → Prop) : Prop :=
  match o.op with
  | .call { callee := .builtin .append, args := ⟨[x, y]⟩, argTypes := ⟨[t, t']⟩ } => t' = t ∧ awant ops o s.t = some true ∧ (match vinfo P t with
    | some (e, sz, by_) => match s.eval x, (s.eval y).list with
      | .gs r [], some ys => s.st r = .tail 0 e sz ∧ 0 < ys.length ∧ AV.wid ys sz ∧ AV.elms ys ∧ ys.length * by_ ≤ 140737488355328 ∧ dstOk o.dst ((s.set r .dead).ext (some (.vec ys e sz))).n ∧ K (((s.set r .dead).ext (some (.vec ys e sz))).put o.dst (.own s.nx ys.length))
      | _, _ => False
    | none => False)
  | _ => False
attribute [simp] ownApp
end Go.Proofs.YtnkimlkoijfcpaaGreatDoor

/- Regions that draw their order, and write own blocks alone; one own block is read ahead of the last writes. -/
namespace Go.Proofs.YtnkimlkoijfcpaaGreatDoor
open Go.RowKit Go.Lib
section
variable {P : Program}
theorem eop_appendO {s : AS} {t : TypeId} {x y : Operand} {r n : Nat} {l ys : List AV} {e : TypeId} {sz by_ : Nat} {K : AV → AS → Prop} (ht : vinfo P t = some (e, sz, by_)) (hx : s.eval x = .own r n) (hσ : s.st r = .vec l e sz) (hn : n = l.length) (hyl : (s.eval y).list = some ys) (hne : 0 < ys.length)
    (hw : ∀ z ∈ ys, z.width = sz) (h1 : ∀ z ∈ ys, z.elem = true) (hb : (l.length + ys.length) * by_ ≤ 140737488355328) (hK : K (.own r (l.length + ys.length)) (s.set r (.vec (l ++ ys) e sz))) :
    EOp P s (.call { callee := .builtin .append, args := #[x, y], argTypes := #[t, t] }) K := by
  intro X0 a w X oper ho hc Q
  have hw0 := hc.w
  subst hw0
  have hx2 := hc.eval x
  rw [hx] at hx2
  exact own_core ho hc ht hx2 hn hσ (hc.eval y) hyl hne hw h1 hb hK Q
theorem eop_appendO0 {s : AS} {t : TypeId} {x y : Operand} {r n : Nat} {l ys : List AV} {e : TypeId} {sz by_ : Nat} {K : AV → AS → Prop} (ht : vinfo P t = some (e, sz, by_)) (hx : s.eval x = .own r n) (hσ : s.st r = .vec l e sz) (hn : n = l.length) (hyl : (s.eval y).list = some ys)
    (hw : ∀ z ∈ ys, z.width = sz) (h1 : ∀ z ∈ ys, z.elem = true) (hb : (l.length + ys.length) * by_ ≤ 140737488355328) (hK : K (.own r (l.length + ys.length)) (s.set r (.vec (l ++ ys) e sz))) :
    EOp P s (.call { callee := .builtin .append, args := #[x, y], argTypes := #[t, t] }) K := by
  cases ys with
  | cons z ys => exact eop_appendO ht hx hσ hn hyl (by simp) hw h1 hb hK
  | nil =>
    intro X0 a w X oper ho hc Q
    have hw0 := hc.w
    subst hw0
    have hx2 := hc.eval x
    rw [hx] at hx2
    have hx3 : RC X (.own r n) [a.eval x] := hx2
    rw [RC] at hx3
    obtain ⟨-, v0, hv0, -, hall⟩ := hx3
    have hX : X.σ r = .vec l e sz := by rw [hc.σ, hσ]
    have hvm : a.eval x = X.μ r := by
      have := (hall _ _ _ hX).2 hn
      rw [← this]; simpa using hv0
    have hB := hc.sr.block r
    rw [hX] at hB
    obtain ⟨hwd, xs, hown, hrs⟩ := hB
    have hsh : ∃ A cap, X.μ r = .slice A l.length cap ∧ l.length ≤ cap := by
      rcases (World.ownsRowF_of hown).2 with ⟨h5, h6⟩ | ⟨g, cap2, cur, fz, h5, -, -, -, h6, -⟩
      · exact ⟨none, 0, by rw [h5, h6], by omega⟩
      · exact ⟨_, cap2, h5, h6⟩
    obtain ⟨A0, cap0, hv, hl0⟩ := hsh
    obtain ⟨A, cap, b, off, hyv', -⟩ := RR.list hyl (hc.eval y)
    obtain ⟨hu1, i, z, hi, -⟩ := qbl ht
    rw [List.append_nil, List.length_nil, Nat.add_zero, AS.set_same hσ] at hK
    refine qbj (w' := X.w) (v := a.eval x) (by rw [List.length_nil] at hyv'; simp [execOp, ho, resolve, invoke, builtin, hvm, hv, hyv', qdp hu1 hi A0 A l.length cap0 cap hl0])
      ⟨a.eval x, .own r l.length, _, _, rfl, hK, hc, by rw [← hn]; exact hx2⟩
theorem fop2_callN {ev : Operand → AV} {σ : Nat → AB} {f : FuncId} {args : List Operand} {tys : Array TypeId} {x : AV} (hf : enters P f = true) (hn : ∀ y ∈ args, ∀ l, ev y ≠ .tup l) (h : Gives P f (.v (.slice none 0 0) :: (args.map ev).map AV.pub) x) :
    FOp2 P ev σ (.call { callee := .value (.func f), args := (.const (.slice none 0 0) :: args).toArray, argTypes := tys }) x none := by
  intro X a oper ho hS ⟨nx, hfin⟩ _ hev _ Q
  have hrun : (execOp a.eval oper).run P X.w = .ok (.enter f (.slice none 0 0 :: args.map a.eval).toArray) X.w := by
    have he : a.eval (.func f) = .func (.func f) #[] #[] := rfl
    have hc : a.eval (.const (.slice none 0 0)) = .slice none 0 0 := rfl
    simp [execOp, ho, resolve, he, hc, Deferred.ofValue, invoke, qbx hf]
  have hargs : RRl X (.v (.slice none 0 0) :: (args.map ev).map AV.pub) (.slice none 0 0 :: args.map a.eval) := by
    refine ⟨_, _, rfl, ?_, (rrl_ev (a := a) args (fun y hy => hev y (by simp [Op.operands, Call.operands, hy])) hn).pub⟩
    show RC X (.v _) [_]
    rw [RC]
  unfold Oper.wp
  rw [hrun]
  refine (h X.σ X _ nx hS rfl hfin hargs).mono ?_
  rintro e w' ⟨Y, v, y, rfl, rfl, ⟨rfl, hσ⟩, hS', hF, hR⟩
  exact ⟨v, Y, rfl, rfl, hS', hF, hR, hσ⟩
def aevM4 (P : Program) (s : AS) (o : Op) (K : AV → Option AB → Prop) : Prop :=
  match o with
  | .buildSlice t n ⟨p :: ps⟩ => match vinfo P t with
    | some (e, sz, _) => n = (p :: ps).length ∧ n * sz ≤ 16777216 ∧ bldS sz 0 ((p :: ps).map fun p => (p.1, s.eval p.2)) ∧ AV.wid ((p :: ps).map fun p => (s.eval p.2).pub) sz ∧ K (.own s.nx n) (some (.vec ((p :: ps).map fun p => (s.eval p.2).pub) e sz))
    | none => False
  | .call { callee := .value (.func f), args := ⟨.const (.slice none 0 0) :: args⟩, .. } => nts (args.map s.eval) = true ∧ enters P f = true ∧ AGives P f (.v (.slice none 0 0) :: (args.map s.eval).map AV.pub) (fun x => K x none)
  | o => aevM P s o K
theorem aevM4_sound {s : AS} {o : Op} {K : AV → Option AB → Prop} (h : aevM4 P s o K) : ∃ x nb, FOp2 P s.eval s.st o x (nb.map (s.nx, ·)) ∧ K x nb := by
  unfold aevM4 at h
  split at h
  · split at h
    · obtain ⟨h1, h2, h3, h4, h5⟩ := h
      exact ⟨_, _, (fop_litVec ‹_› h1 h2 h3 h4).two, h5⟩
    · exact h.elim
  · obtain ⟨h1, h2, x, h3, h4⟩ := h
    exact ⟨x, none, fop2_callN h2 (qck h1) h3, h4⟩
  · exact aevM_sound h
attribute [simp] aevM4
def aevW4 (P : Program) (s : AS) (o : Op) (K : AV → AS → Prop) : Prop :=
  match o with
  | .call { callee := .builtin .append, args := ⟨[x, y]⟩, argTypes := ⟨[t, t']⟩ } => match s.eval x with
    | .own r n => t' = t ∧ (match vinfo P t with
      | some (e, sz, by_) => match s.st r, (s.eval y).list with
        | .vec l e' sz', some ys => e' = e ∧ sz' = sz ∧ n = l.length ∧ AV.wid ys sz ∧ AV.elms ys ∧ (l.length + ys.length) * by_ ≤ 140737488355328 ∧ K (.own r (l.length + ys.length)) (s.set r (.vec (l ++ ys) e sz))
        | _, _ => False
      | none => False)
    | _ => aevW2 P s (.call { callee := .builtin .append, args := ⟨[x, y]⟩, argTypes := ⟨[t, t']⟩ }) K
  | o => aevW2 P s o K
theorem aevW4_sound {s : AS} {o : Op} {K : AV → AS → Prop} (h : aevW4 P s o K) : ∃ x s1, WOp P s.eval s.st o x s1.st ∧ (s1.t = s.t ∧ s1.n = s.n ∧ s1.n0 = s.n0) ∧ K x s1 := by
  unfold aevW4 at h
  split at h
  · rename_i x y t t'
    split at h
    · rename_i r n hx
      obtain ⟨rfl, h⟩ := h
      split at h
      · rename_i e sz by_ ht
        split at h
        · rename_i l e' sz' ys hσ hy
          obtain ⟨rfl, rfl, hn, h3, h4, h5, h6⟩ := h
          have hr := set_lt hσ (by simp)
          refine ⟨_, _, qdj fun s' he hst hnx => ?_, ⟨(s.set_nx r _).2.2, (s.set_nx r _).1, (s.set_nx r _).2.1⟩, h6⟩
          have ex := he x (by simp [Op.operands, Call.operands])
          have ey := he y (by simp [Op.operands, Call.operands])
          refine eop_appendO0 ht (by rw [ex]; exact hx) (by rw [hst]; exact hσ) hn (by rw [ey]; exact hy) h3 h4 h5 ⟨rfl, ?_⟩
          rw [AS.set_st _ _ _ (by rw [hnx]; exact hr), AS.set_st _ _ _ hr, hst]
        · exact h.elim
      · exact h.elim
    · exact aevW2_sound h
  · exact aevW2_sound h
attribute [simp] aevW4
theorem awp_thawR {c : Code} {Q : Exit → AS → Prop} {n n0 : Nat} {t : Nat → AV} {σ : Nat → AB} {L : List AB} (d i : Nat) {et : TypeId} {sz : Nat} (hd : t d = .gs (n0 + i) []) (hL : L[i]? = some (.tail 0 et sz))
    (h : awp P c Q ⟨n, upd t d (.own (n0 + L.length) 0), σ, n0, L.set i .dead ++ [AB.vec [] et sz]⟩) : awp P c Q ⟨n, t, σ, n0, L⟩ := by
  intro X0 a w ⟨X, hc⟩
  have hst : (AS.mk n t σ n0 L).st (n0 + i) = .tail 0 et sz := by
    show loc σ n0 L (n0 + i) = _
    unfold loc
    rw [if_neg (by omega), Nat.add_sub_cancel_left, List.getD_eq_getElem?_getD, hL]; rfl
  obtain ⟨X', hXw, hc', hF, hR⟩ := con_thaw hc hst
  have hset : (AS.mk n t σ n0 L).set (n0 + i) .dead = ⟨n, t, σ, n0, L.set i .dead⟩ := by
    unfold AS.set; dsimp only; rw [if_neg (by omega), Nat.add_sub_cancel_left]
  rw [hset] at hc'
  refine h X0 a w ⟨X', ⟨hc'.w, hc'.σ, hc'.sr, hc'.fr, hc'.size, fun j => ?_, hc'.defers, hc'.fin⟩⟩
  show RR X' (upd t d _ j) _
  unfold upd
  by_cases hj : j = d
  · subst hj
    rw [if_pos rfl]
    have := hc.regs j
    change RR X (t j) _ at this
    rw [hd] at this
    exact hR _ this
  · rw [if_neg hj]; exact hc'.regs j
end
section
variable {P : Program}
structure AnyRaw4 (P : Program) (ops : Array Oper) (l : List Oper) (ks : List RK) (st s1 : Nat → AS) (xs : Nat → AV) (bs : Nat → Bool) (nbs : Nat → Option AB) (κ : Nat → AB) (q : Nat) : Prop where
  kept : ∀ r, κ r ≠ .unborn → ∀ j, j ≤ l.length → (st j).st r = κ r
  eye : ∀ i, i < l.length → ks.getD i .R ≠ .W → (st (i + 1)).st q = (st i).st q
  want : ∀ i o, l[i]? = some o → awant ops o (st i).t = some (bs i)
  dst : ∀ i o, l[i]? = some o → dstOk o.dst (st i).n
  next : ∀ i o, l[i]? = some o → st (i + 1) = (s1 i).put o.dst (xs i)
  same : ∀ i o, l[i]? = some o → (s1 i).t = (st i).t ∧ (s1 i).n = (st i).n ∧ (s1 i).n0 = (st i).n0
  skip : ∀ i o, l[i]? = some o → bs i = false → xs i = .v undef ∧ s1 i = st i ∧ nbs i = none
  opR : ∀ i o, l[i]? = some o → bs i = true → ks.getD i .R = .R → FOp2 P (st i).eval κ o.op (xs i) none ∧ s1 i = st i ∧ nbs i = none
  opN : ∀ i o, l[i]? = some o → bs i = true → ks.getD i .R = .N → FOp2 P (st i).eval (only q (st i).st) o.op (xs i) none ∧ s1 i = st i ∧ nbs i = none
  opM : ∀ i o, l[i]? = some o → bs i = true → ks.getD i .R = .M → FOp2 P (st i).eval (st i).st o.op (xs i) ((nbs i).map ((st i).nx, ·)) ∧ s1 i = (st i).ext (nbs i)
  opW : ∀ i o, l[i]? = some o → bs i = true → (ks.getD i .R).base = .W → WOp P (st i).eval (st i).st o.op (xs i) (s1 i).st ∧ nbs i = none
section
variable {l : List Oper}
theorem raw_steps4 {l : List Oper} {ks : List RK} {st s1 : Nat → AS} {xs : Nat → AV} {bs : Nat → Bool} {nbs : Nat → Option AB} {κ : Nat → AB} {q : Nat} (hB : anyB l ks = true) (h : AnyRaw4 P l.toArray l ks st s1 xs bs nbs κ q) : qbo P l (ks.map RK.base) st s1 xs bs nbs (fun i => if ks.getD i .R = .N then (if bs i = true then only q (st i).st else fun _ => .unborn) else κ) := by
  have pre : ∀ j, j ≤ l.length → (∀ i, i < j → ks.getD i .R ≠ .W) → (st j).st q = (st 0).st q := fun j => by
    induction j with
    | zero => intro _ _; rfl
    | succ j ih =>
      intro hj hk
      rw [h.eye j (by omega) (hk j (by omega)), ih (by omega) fun i hi => hk i (by omega)]
  refine ⟨fun i => ?_, fun i hi hk r hr => ?_, h.want, h.dst, h.next, h.same, h.skip, fun i o ho hb hk => ?_, fun i o ho hb hk => ?_, fun i o ho hb hk => ?_⟩
  · rw [qbu]
    cases ks.getD i .R <;> simp [RK.base]
  · split at hr
    · rename_i hN
      rw [if_pos hN]
      split at hr
      · rename_i hb
        rw [if_pos hb]
        by_cases hrq : r = q
        · subst hrq
          have ei : only r (st i).st r = (st 0).st r := by
            unfold only; rw [if_pos rfl]
            exact pre i (by omega) fun p hp hW => by
              have := ((anyB_n hB hi (j := p) (by omega)).1 hN hW).1; omega
          rw [ei]
          refine ⟨rfl, fun p hp hpW hpi => ?_⟩
          rw [qbu] at hpW
          have hpA : ks.getD p .R = .A := by
            cases hk2 : ks.getD p .R with
            | A => rfl
            | W => exact absurd ((anyB_n hB hi hp).1 hN hk2).2 hpi
            | R => rw [hk2] at hpW; cases hpW
            | M => rw [hk2] at hpW; cases hpW
            | N => rw [hk2] at hpW; cases hpW
          refine pre (p + 1) (by omega) fun p' hp' hW => ?_
          by_cases hpp : p' = p
          · rw [hpp, hpA] at hW; cases hW
          · have := (anyB_n hB hp (j := p') (by omega)).2 hpA hW; omega
        · exact absurd (if_neg hrq) hr
      · exact absurd rfl hr
    · rename_i hN
      rw [if_neg hN]
      exact ⟨h.kept r hr 0 (Nat.zero_le _), fun p hp _ _ => h.kept r hr (p + 1) (by omega)⟩
  · rw [qbu] at hk
    by_cases hN : ks.getD i .R = .N
    · rw [if_pos hN, if_pos hb]
      exact h.opN i o ho hb hN
    · rw [if_neg hN]
      refine h.opR i o ho hb ?_
      cases hk2 : ks.getD i .R with
      | R => rfl
      | M => rw [hk2] at hk; cases hk
      | W => rw [hk2] at hk; cases hk
      | N => exact absurd hk2 hN
      | A => rw [hk2] at hk; cases hk
  · rw [qbu] at hk
    refine h.opM i o ho hb ?_
    cases hk2 : ks.getD i .R with
    | M => rfl
    | R => rw [hk2] at hk; cases hk
    | W => rw [hk2] at hk; cases hk
    | N => rw [hk2] at hk; cases hk
    | A => rw [hk2] at hk; cases hk
  · rw [qbu] at hk
    exact h.opW i o ho hb hk
end
def AS.eyeO (j : Nat) (s : AS) : AS := { s with σ := fun _ => .unborn, L := List.replicate j .unborn ++ [s.L.getD j .unborn] }
theorem eyeO_st {s : AS} {j : Nat} : (s.eyeO j).st = only (s.n0 + j) s.st := by
  funext k
  show loc (fun _ => .unborn) s.n0 (List.replicate j .unborn ++ [s.L.getD j .unborn]) k = _
  unfold loc only
  by_cases hk : k < s.n0
  · rw [if_pos hk, if_neg (by omega)]
  · rw [if_neg hk]
    by_cases hj : k = s.n0 + j
    · rw [if_pos hj]
      subst hj
      show _ = loc s.σ s.n0 s.L (s.n0 + j)
      unfold loc
      rw [if_neg (by omega), Nat.add_sub_cancel_left, List.getD_eq_getElem?_getD, List.getElem?_append_right (by simp)]
      simp
    · rw [if_neg hj]
      by_cases h2 : k - s.n0 < j
      · rw [List.getD_eq_getElem?_getD, List.getElem?_append_left (by simpa using h2), List.getElem?_replicate, if_pos h2]; rfl
      · rw [List.getD_eq_getElem?_getD, List.getElem?_eq_none (by simp; omega)]; rfl
theorem st_own {s : AS} {n0 j : Nat} (h : s.n0 = n0) : s.st (n0 + j) = s.L.getD j .unborn := by
  subst h
  show loc s.σ s.n0 s.L (s.n0 + j) = _
  unfold loc
  rw [if_neg (by omega), Nat.add_sub_cancel_left]
def anyF (P : Program) (ops : Array Oper) (m : List AB) (j : Nat) (K : AS → Prop) : List Oper → List RK → AS → Prop
  | [], _, s => K s
  | o :: l, ks, s => match awant ops o s.t with
    | some b => qbz b (match ks.headD .R with
      | .R => aevF P (s.seen m) o.op (fun x nb => nb = none ∧ dstOk o.dst s.n ∧ anyF P ops m j K l ks.tail (s.put o.dst x))
      | .N => aevF P (s.eyeO j) o.op (fun x nb => nb = none ∧ dstOk o.dst s.n ∧ anyF P ops m j K l ks.tail (s.put o.dst x))
      | .M => aevM4 P s o.op (fun x nb => j < s.L.length ∧ dstOk o.dst s.n ∧ anyF P ops m j K l ks.tail ((s.ext nb).put o.dst x))
      | .A => aevW4 P s o.op (fun x s1 => s1.L.getD j .unborn = s.L.getD j .unborn ∧ dstOk o.dst s.n ∧ qco m s1.L ∧ s1.σ = s.σ ∧ anyF P ops m j K l ks.tail (s1.put o.dst x))
      | .W => aevW4 P s o.op (fun x s1 => dstOk o.dst s.n ∧ qco m s1.L ∧ s1.σ = s.σ ∧ anyF P ops m j K l ks.tail (s1.put o.dst x))) (dstOk o.dst s.n ∧ anyF P ops m j K l ks.tail (s.put o.dst (.v undef)))
    | none => False
theorem anyF_steps {ops : Array Oper} {m : List AB} {j : Nat} {σ0 : Nat → AB} {n0 : Nat} {K : AS → Prop} : ∀ (l : List Oper) (ks : List RK) (s : AS), s.n0 = n0 → s.σ = σ0 → (∀ r, loc σ0 n0 m r ≠ .unborn → s.st r = loc σ0 n0 m r) → anyF P ops m j K l ks s →
    ∃ st s1 xs bs nbs, AnyRaw4 P ops l ks st s1 xs bs nbs (loc σ0 n0 m) (n0 + j) ∧ st 0 = s ∧ K (st l.length)
  | [], ks, s, hn0, hs0, hke, h => by
    refine ⟨fun _ => s, fun _ => s, fun _ => .any, fun _ => true, fun _ => none, ⟨fun r hr j _ => hke r hr, fun _ hi => absurd hi (Nat.not_lt_zero _), ?_, ?_, ?_, ?_, ?_, ?_, ?_, ?_, ?_⟩, rfl, h⟩ <;> (intro i o ho; simp at ho)
  | o :: l, ks, s, hn0, hs0, hke, h => by
    have key : ∀ (x : AV) (b : Bool) (nb : Option AB) (s1 : AS), awant ops o s.t = some b → dstOk o.dst s.n → (s1.t = s.t ∧ s1.n = s.n ∧ s1.n0 = s.n0) → s1.σ = s.σ → (ks.headD .R ≠ .W → s1.st (n0 + j) = s.st (n0 + j)) → (b = false → x = .v undef ∧ s1 = s ∧ nb = none) →
        (b = true → ks.headD .R = .R → FOp2 P s.eval (loc σ0 n0 m) o.op x none ∧ s1 = s ∧ nb = none) → (b = true → ks.headD .R = .N → FOp2 P s.eval (only (n0 + j) s.st) o.op x none ∧ s1 = s ∧ nb = none) → (b = true → ks.headD .R = .M → FOp2 P s.eval s.st o.op x (nb.map (s.nx, ·)) ∧ s1 = s.ext nb) →
        (b = true → (ks.headD .R).base = .W → WOp P s.eval s.st o.op x s1.st ∧ nb = none) → (∀ r, loc σ0 n0 m r ≠ .unborn → s1.st r = loc σ0 n0 m r) → anyF P ops m j K l ks.tail (s1.put o.dst x) →
        ∃ st s1 xs bs nbs, AnyRaw4 P ops (o :: l) ks st s1 xs bs nbs (loc σ0 n0 m) (n0 + j) ∧ st 0 = s ∧ K (st (o :: l).length) := by
      intro x b nb s1 hw hd hsame hss heye hskip hR hN hM hW hke1 hrest
      have hput : (s1.put o.dst x).σ = s1.σ := by cases o.dst <;> rfl
      obtain ⟨st, s1', xs, bs, nbs, hs, h0, hK⟩ := anyF_steps (n0 := n0) (σ0 := σ0) l ks.tail _ (by rw [(qee s1 o.dst x).2.2.2, hsame.2.2]; exact hn0) (by rw [hput, hss]; exact hs0) (fun r hr => by rw [(qee s1 o.dst x).1]; exact hke1 r hr) hrest
      have hks : ∀ i, ks.getD (i + 1) .R = ks.tail.getD i .R := fun i => by cases ks <;> simp
      have hk0 : ks.getD 0 .R = ks.headD .R := by cases ks <;> simp
      refine ⟨fun i => match i with | 0 => s | i + 1 => st i, fun i => match i with | 0 => s1 | i + 1 => s1' i, fun i => match i with | 0 => x | i + 1 => xs i, fun i => match i with | 0 => b | i + 1 => bs i, fun i => match i with | 0 => nb | i + 1 => nbs i, ⟨fun r hr j hj => (match j with | 0 => hke r hr | j + 1 => hs.kept r hr j (by simpa using hj)), fun i hi hk => ?_, ?_, ?_, ?_, ?_, ?_, ?_, ?_, ?_, ?_⟩, rfl, hK⟩
      · cases i with
        | zero => rw [hk0] at hk; show (st 0).st _ = s.st _; rw [h0, (qee s1 o.dst x).1]; exact heye hk
        | succ i => rw [hks] at hk; exact hs.eye i (by simpa using hi) hk
      all_goals (intro i o' ho; cases i)
      · simp at ho; subst ho; exact hw
      · exact hs.want _ o' (by simpa using ho)
      · simp at ho; subst ho; exact hd
      · exact hs.dst _ o' (by simpa using ho)
      · simp at ho; subst ho; exact h0
      · exact hs.next _ o' (by simpa using ho)
      · simp at ho; subst ho; exact hsame
      · exact hs.same _ o' (by simpa using ho)
      · simp at ho; subst ho; exact hskip
      · exact hs.skip _ o' (by simpa using ho)
      · simp at ho; subst ho; rw [hk0]; exact hR
      · rw [hks]; exact hs.opR _ o' (by simpa using ho)
      · simp at ho; subst ho; rw [hk0]; exact hN
      · rw [hks]; exact hs.opN _ o' (by simpa using ho)
      · simp at ho; subst ho; rw [hk0]; exact hM
      · rw [hks]; exact hs.opM _ o' (by simpa using ho)
      · simp at ho; subst ho; rw [hk0]; exact hW
      · rw [hks]; exact hs.opW _ o' (by simpa using ho)
    rw [anyF] at h
    split at h
    · rename_i bb hw
      cases bb with
      | true =>
        replace h := h.1 rfl
        split at h
        · rename_i hk
          obtain ⟨x, nb, h1, rfl, h2, h3⟩ := qcq h
          have e : (s.seen m).st = loc σ0 n0 m := by show loc s.σ s.n0 m = _; rw [hs0, hn0]
          rw [e] at h1
          exact key x true none s hw h2 ⟨rfl, rfl, rfl⟩ rfl (fun _ => rfl) (fun e => by cases e) (fun _ _ => ⟨h1.two, rfl, rfl⟩) (fun _ e => by rw [hk] at e; cases e) (fun _ e => by rw [hk] at e; cases e) (fun _ e => by rw [hk] at e; cases e) hke h3
        · rename_i hk
          obtain ⟨x, nb, h1, rfl, h2, h3⟩ := qcq h
          rw [eyeO_st, hn0] at h1
          exact key x true none s hw h2 ⟨rfl, rfl, rfl⟩ rfl (fun _ => rfl) (fun e => by cases e) (fun _ e => by rw [hk] at e; cases e) (fun _ _ => ⟨h1.two, rfl, rfl⟩) (fun _ e => by rw [hk] at e; cases e) (fun _ e => by rw [hk] at e; cases e) hke h3
        · rename_i hk
          obtain ⟨x, nb, h1, hj, h2, h3⟩ := aevM4_sound h
          refine key x true nb (s.ext nb) hw h2 (by cases nb <;> exact ⟨rfl, rfl, rfl⟩) (by cases nb <;> rfl) (fun _ => ?_) (fun e => by cases e) (fun _ e => by rw [hk] at e; cases e) (fun _ e => by rw [hk] at e; cases e) (fun _ _ => ⟨h1, rfl⟩) (fun _ e => by rw [hk] at e; cases e) (ext_keeps hke nb) h3
          cases nb with
          | none => rfl
          | some ab =>
            rw [(ext_st s ab).1]
            have : n0 + j ≠ s.nx := by unfold AS.nx; omega
            unfold upd; rw [if_neg this]
        · rename_i hk
          obtain ⟨x, s1, h1, h2, h7, h3, h5, h6, h4⟩ := aevW4_sound h
          exact key x true none s1 hw h3 h2 h6 (fun _ => by rw [st_own (h2.2.2.trans hn0), st_own hn0]; exact h7) (fun e => by cases e) (fun _ e => by rw [hk] at e; cases e) (fun _ e => by rw [hk] at e; cases e) (fun _ e => by rw [hk] at e; cases e) (fun _ _ => ⟨h1, rfl⟩) (kept_e (h6.trans hs0) (h2.2.2.trans hn0) h5) h4
        · rename_i hk
          obtain ⟨x, s1, h1, h2, h3, h5, h6, h4⟩ := aevW4_sound h
          exact key x true none s1 hw h3 h2 h6 (fun e => absurd hk e) (fun e => by cases e) (fun _ e => by rw [hk] at e; cases e) (fun _ e => by rw [hk] at e; cases e) (fun _ e => by rw [hk] at e; cases e) (fun _ _ => ⟨h1, rfl⟩) (kept_e (h6.trans hs0) (h2.2.2.trans hn0) h5) h4
      | false =>
        replace h := h.2 rfl
        exact key (.v undef) false none s hw h.1 ⟨rfl, rfl, rfl⟩ rfl (fun _ => rfl) (fun _ => ⟨rfl, rfl, rfl⟩) (fun e => by cases e) (fun e => by cases e) (fun e => by cases e) (fun e => by cases e) hke h.2
    · exact h.elim
theorem awp_anyF {s : AS} {id : Nat} {l : List Oper} {Q : Exit → AS → Prop} (m : List AB) (j : Nat) (ks : List RK) (hm : P.follows .mixedOrders = true) (hB : anyB l ks = true) (h0 : qco m s.L) (h : anyF P l.toArray m j (Q .normal) l ks s) : awp P (.region id l.toArray true) Q s := by
  obtain ⟨st, s1, xs, bs, nbs, hs, rfl, hK⟩ := anyF_steps l ks s rfl rfl (kept_e rfl rfl h0) h
  exact awp_any hm (anyB_ok hB) (raw_steps4 hB hs) hK
end
theorem anyF_step {P : Program} {ops : Array Oper} {m : List AB} {j : Nat} {K : AS → Prop} {o : Oper} {l : List Oper} {ks : List RK} {s : AS} (h : match awant ops o s.t with
    | some b => qbz b (match ks.headD .R with
      | .R => aevF P (s.seen m) o.op (fun x nb => nb = none ∧ dstOk o.dst s.n ∧ anyF P ops m j K l ks.tail (s.put o.dst x))
      | .N => aevF P (s.eyeO j) o.op (fun x nb => nb = none ∧ dstOk o.dst s.n ∧ anyF P ops m j K l ks.tail (s.put o.dst x))
      | .M => aevM4 P s o.op (fun x nb => j < s.L.length ∧ dstOk o.dst s.n ∧ anyF P ops m j K l ks.tail ((s.ext nb).put o.dst x))
      | .A => aevW4 P s o.op (fun x s1 => s1.L.getD j .unborn = s.L.getD j .unborn ∧ dstOk o.dst s.n ∧ qco m s1.L ∧ s1.σ = s.σ ∧ anyF P ops m j K l ks.tail (s1.put o.dst x))
      | .W => aevW4 P s o.op (fun x s1 => dstOk o.dst s.n ∧ qco m s1.L ∧ s1.σ = s.σ ∧ anyF P ops m j K l ks.tail (s1.put o.dst x))) (dstOk o.dst s.n ∧ anyF P ops m j K l ks.tail (s.put o.dst (.v undef)))
    | none => False) : anyF P ops m j K (o :: l) ks s := h
theorem anyF_end {P : Program} {ops : Array Oper} {m : List AB} {j : Nat} {K : AS → Prop} {ks : List RK} {s : AS} (h : K s) : anyF P ops m j K [] ks s := h
@[simp] theorem eyeO_mk (j : Nat) (n : Nat) (t : Nat → AV) (σ : Nat → AB) (n0 : Nat) (L : List AB) : (AS.mk n t σ n0 L).eyeO j = ⟨n, t, fun _ => .unborn, n0, List.replicate j .unborn ++ [L.getD j .unborn]⟩ := rfl
end Go.Proofs.YtnkimlkoijfcpaaGreatDoor

/- An append to a slice of the call's own that is written too, in a region in text order. -/
namespace Go.Proofs.YtnkimlkoijfcpaaGreatDoor
open Go.RowKit Go.Lib
section
variable {P : Program} {s : AS}
def ownApp2 (P : Program) (ops : Array Oper) (s : AS) (o : Oper) (K : AS → Prop) : Prop :=
  match o.op with
  | .call { callee := .builtin .append, args := ⟨[x, y]⟩, argTypes := ⟨[t, t']⟩ } => t' = t ∧ awant ops o s.t = some true ∧ (match vinfo P t with
    | some (e, sz, by_) => match s.eval x, (s.eval y).list with
      | .own r n, some ys => (match s.st r with
        | .vec l e' sz' => e' = e ∧ sz' = sz ∧ n = l.length ∧ AV.wid ys sz ∧ AV.elms ys ∧ (l.length + ys.length) * by_ ≤ 140737488355328 ∧ dstOk o.dst (s.set r (.vec (l ++ ys) e sz)).n ∧ K ((s.set r (.vec (l ++ ys) e sz)).put o.dst (.own r (l.length + ys.length)))
        | _ => False)
      | _, _ => False
    | none => False)
  | _ => False
theorem ownApp2_sound {ops : Array Oper} {K K' : AS → Prop} {o : Oper} {l : List Oper} (hk : ∀ s, K' s → aseq P ops K l s) (h : ownApp2 P ops s o K') : aseq P ops K (o :: l) s := by
  unfold ownApp2 at h
  rw [aseq]
  split at h
  · rename_i x y t t' hop
    obtain ⟨rfl, hwt, h⟩ := h
    refine ⟨true, hwt, ?_⟩
    show EOp P s o.op _
    rw [hop]
    split at h
    · split at h
      · split at h
        · obtain ⟨rfl, rfl, h1, h2, h3, h4, h6, h7⟩ := h
          exact eop_appendO0 ‹_› ‹_› ‹_› h1 ‹_› h2 h3 h4 ⟨h6, hk _ h7⟩
        · exact h.elim
      · exact h.elim
    · exact h.elim
  · exact h.elim
theorem awp_regionW {id : Nat} {l : List Oper} {Q : Exit → AS → Prop} (k : Nat) {o : Oper} (ho : l[k]? = some o) (h : qq P l.toArray (fun s => ownApp2 P l.toArray s o fun s => qq P l.toArray (Q .normal) (l.drop (k + 1)) s) (l.take k) s) : awp P (.region id l.toArray false) Q s := by
  refine qcm ?_
  have h1 : l = l.take k ++ o :: l.drop (k + 1) := by
    have hk := (List.getElem?_eq_some_iff.1 ho)
    obtain ⟨hk, he⟩ := hk
    rw [← he, ← List.drop_eq_getElem_cons hk, List.take_append_drop]
  have h2 : aseq P l.toArray (Q .normal) (l.take k ++ o :: l.drop (k + 1)) s := aseqC_cut (fun s' hs => ownApp2_sound (fun s'' h => qcr h) hs) h
  rw [← h1] at h2; exact h2
attribute [simp] ownApp2
def nilCall (P : Program) (ops : Array Oper) (s : AS) (o : Oper) (K : AS → Prop) : Prop :=
  match o.op with
  | .call { callee := .value (.func f), args := ⟨.const (.slice none 0 0) :: args⟩, .. } => awant ops o s.t = some true ∧ nts (args.map s.eval) = true ∧ enters P f = true ∧ dstOk o.dst s.n ∧ AGives P f (.v (.slice none 0 0) :: (args.map s.eval).map AV.pub) (fun x => K (s.put o.dst x))
  | _ => False
theorem nilCall_sound {ops : Array Oper} {K K' : AS → Prop} {o : Oper} {l : List Oper} (hk : ∀ s, K' s → aseq P ops K l s) (h : nilCall P ops s o K') : aseq P ops K (o :: l) s := by
  unfold nilCall at h
  rw [aseq]
  split at h
  · rename_i f args ty hop
    obtain ⟨hwt, h1, h2, h3, x, h4, h5⟩ := h
    refine ⟨true, hwt, ?_⟩
    show EOp P s o.op _
    rw [hop]
    intro X0 a w X oper ho hc Q
    have hw := hc.w
    subst hw
    refine Oper.wp_mono ?_ (fop2_callN (ev := s.eval) (σ := s.st) (tys := ty) h2 (qck h1) h4 X a oper ho hc.sr ⟨s.nx, by rw [hc.σ]; exact s.fin⟩ (fun r hr => .inl (by rw [hc.σ])) (fun y _ => hc.eval y) (fun r ab e => by cases e) Q)
    rintro a' w' ⟨v, Y, rfl, rfl, hS, hF, hR, hσ⟩
    exact ⟨v, x, s, Y, rfl, ⟨h3, hk _ h5⟩, ⟨rfl, by rw [hσ, hc.σ], hS, hc.fr.trans hF, hc.size, fun d => (hc.regs d).fr hF, hc.defers, hc.fin⟩, hR⟩
  · exact h.elim
theorem awp_regionO {id : Nat} {l : List Oper} {Q : Exit → AS → Prop} (k : Nat) {o : Oper} (ho : l[k]? = some o) (h : qq P l.toArray (fun s => nilCall P l.toArray s o fun s => qq P l.toArray (Q .normal) (l.drop (k + 1)) s) (l.take k) s) : awp P (.region id l.toArray false) Q s := by
  refine qcm ?_
  have h1 : l = l.take k ++ o :: l.drop (k + 1) := by
    obtain ⟨hk, he⟩ := List.getElem?_eq_some_iff.1 ho
    rw [← he, ← List.drop_eq_getElem_cons hk, List.take_append_drop]
  have h2 : aseq P l.toArray (Q .normal) (l.take k ++ o :: l.drop (k + 1)) s := aseqC_cut (fun s' hs => nilCall_sound (fun s'' h => qcr h) hs) h
  rw [← h1] at h2; exact h2
attribute [simp] nilCall
end
end Go.Proofs.YtnkimlkoijfcpaaGreatDoor

/- Calls that hand on growing slices, and give one back: a slice that the caller had begun is made longer. -/
namespace Go.Proofs.YtnkimlkoijfcpaaGreatDoor
open Go.RowKit Go.Lib
section
variable {P : Program} {s : AS}
def aresR (s : AS) (rs : List ResultVar) (x : AV) : Prop := ∃ d, rs = [.tmp d] ∧ s.t d = x ∧ ∀ l, x ≠ .tup l
theorem results_runR {X0 X : St} {a : Act} {w : World} (hc : Con X0 s a w X) {fn : Func} {rs : List ResultVar} (hr : fn.results = rs.toArray) {x : AV} (h : aresR s rs x) : ∃ v, (results fn a.tmps).run P X.w = .ok v X.w ∧ RR X x v := by
  obtain ⟨d, rfl, rfl, -⟩ := h
  exact ⟨a.tmps.getD d undef, by simp [qdh, hr, resV], hc.regs d⟩
theorem ac_of_awpR {f : FuncId} {fn : Func} {c : Code} {rs : List ResultVar} {args : List AV} {σ : Nat → AB} {Q : AV → (Nat → AB) → Prop} (hf : P.funcs[f]? = some fn) (hb : fn.body = some c) (hr : fn.results = rs.toArray) (hlen : rs.length ≤ 4) (ha : args.length ≤ fn.ntmps)
    (h : ∀ n0, Fin σ n0 → (∀ r, (σ r).cl n0) → AV.fitss args → awp P c (fun e s' => (e = .normal ∨ e = .ret) ∧ s'.n0 = n0 ∧ ∃ x, aresR s' rs x ∧ x.cl n0 ∧ (∀ r, r < n0 → (s'.σ r).cl n0) ∧ Q x (cut n0 s'.σ)) { n := fn.ntmps, t := qdk args 0, σ := σ, n0 := n0, L := [] }) : AC P f args σ Q := by
  intro X vals n0 hS hσ hfin hargs
  subst hσ
  have hl : vals.length = args.length := by
    have : ∀ (l : List AV) (vs : List Value), RRl X l vs → vs.length = l.length := fun l => by
      induction l with
      | nil => intro vs h; have : vs = [] := h; subst this; rfl
      | cons x l ih => intro vs h; obtain ⟨v, vs', rfl, -, h2⟩ := h; simp [ih _ h2]
    exact this _ _ hargs
  refine calls_of_wp hf hb (wp_mono (h n0 hfin (fun r => (hS.block r).cl hfin) hargs.fits X { tmps := vals.toArray ++ Array.replicate (fn.ntmps - vals.toArray.size) undef, defers := [] } X.w ⟨X, rfl, ?_, hS, Fr.refl X, ?_, fun d => ?_, rfl, hfin⟩) ?_)
  · funext r
    show X.σ r = loc X.σ n0 [] r
    unfold loc
    split
    · rfl
    · rw [hfin r (by omega)]; rfl
  · show (vals.toArray ++ Array.replicate _ undef).size = fn.ntmps
    rw [Array.size_append, Array.size_replicate, List.size_toArray]; omega
  · have := entry_regs args vals [] (fn.ntmps - vals.toArray.size) hargs d (by simp)
    simpa using this
  · rintro e a' w' ⟨s', ⟨he, hn0, x, hx, hcl, hcσ, hQ⟩, X', hc⟩
    have hw := hc.w
    subst hw
    obtain ⟨v, hv, hR⟩ := results_runR hc hr hx
    have hst : ∀ r, r < n0 → X'.σ r = s'.σ r := fun r hr => by
      rw [hc.σ]
      show loc s'.σ s'.n0 s'.L r = _
      unfold loc
      rw [hn0, if_pos hr]
    have hres : ∃ Y v' x', Ending.returned v = .returned v' ∧ Y.w = X'.w ∧ Q x' Y.σ ∧ SR Y ∧ Fr X Y ∧ RR Y x' v' := by
      refine ⟨X'.cut n0, v, x, rfl, rfl, ?_, hc.sr.cut fun r hr => by rw [hst r hr]; exact hcσ r hr, hc.fr.cut (fun r hr => hfin r hr), hR.cut hcl⟩
      have : (X'.cut n0).σ = Proofs.YtnkimlkoijfcpaaGreatDoor.cut n0 s'.σ := by
        funext r
        show Proofs.YtnkimlkoijfcpaaGreatDoor.cut n0 X'.σ r = _
        unfold Proofs.YtnkimlkoijfcpaaGreatDoor.cut
        split
        · exact hst r ‹_›
        · rfl
      rw [this]; exact hQ
    rcases he with rfl | rfl
    · exact ⟨hc.defers, v, hv, hres⟩
    · exact ⟨hc.defers, v, hv, hres⟩
theorem acR_of_awp {f : FuncId} {fn : Func} {c : Code} {rs : List ResultVar} {args : List AV} {x : AV} {N : Nat} {σ σ' : Nat → AB} (hf : P.funcs[f]? = some fn) (hN : fn.ntmps = N) (hb : fn.body = some c) (hr : fn.results = rs.toArray) (hlen : rs.length ≤ 4) (ha : Nat.ble args.length N = true)
    (h : ∀ n0, Fin σ n0 → (∀ r, (σ r).cl n0) → AV.fitss args → x.cl n0 ∧ Fin σ' n0 ∧ (∀ r, (σ' r).cl n0) ∧ awp P c (fun e s' => (e = .normal ∨ e = .ret) ∧ s'.n0 = n0 ∧ s'.σ = σ' ∧ aresR s' rs x) { n := N, t := qdk args 0, σ := σ, n0 := n0, L := [] }) : AC P f args σ fun y τ => y = x ∧ τ = σ' := by
  subst hN
  refine ac_of_awpR hf hb hr hlen (Nat.le_of_ble_eq_true ha) fun n0 hfin hcl hft => ?_
  obtain ⟨hx, g1, g2, g3⟩ := h n0 hfin hcl hft
  refine qej g3 fun e s' ⟨h1, h2, h3, h4⟩ => ⟨h1, h2, x, h4, hx, fun k _ => by rw [h3]; exact g2 k, rfl, ?_⟩
  funext k
  unfold Proofs.YtnkimlkoijfcpaaGreatDoor.cut
  rw [h3]
  split
  · rfl
  · exact (g1 k (by omega)).symm
theorem eop_callR {f : FuncId} {args : List Operand} {tys : Array TypeId} {x : AV} {s1 : AS} {K : AV → AS → Prop} (hf : enters P f = true) (hn : ∀ y ∈ args, ∀ l, s.eval y ≠ .tup l)
    (h : AC P f (args.map s.eval) s.st fun y τ => y = x ∧ τ = s1.st) (hs : s1.t = s.t ∧ s1.n = s.n ∧ s1.n0 = s.n0) (hK : K x s1) : EOp P s (.call { callee := .value (.func f), args := args.toArray, argTypes := tys }) K := by
  intro X0 a w X oper ho hc Q
  have hw := hc.w
  subst hw
  have hrun : (execOp a.eval oper).run P X.w = .ok (.enter f (args.map a.eval).toArray) X.w := by
    have he : a.eval (.func f) = .func (.func f) #[] #[] := rfl
    simp [execOp, ho, resolve, he, Deferred.ofValue, invoke, qbx hf]
  unfold Oper.wp
  rw [hrun]
  refine (h X (args.map a.eval) s.nx hc.sr hc.σ s.fin (rrl_args hc args hn)).mono ?_
  rintro e w' ⟨Y, v, y, rfl, rfl, ⟨rfl, hσ⟩, hS, hF, hR⟩
  exact ⟨v, y, s1, Y, rfl, hK, ⟨rfl, hσ, hS, hc.fr.trans hF, by rw [hs.2.1]; exact hc.size, fun d => by rw [hs.1]; exact (hc.regs d).fr hF, hc.defers, by rw [hs.2.2]; exact hc.fin⟩, hR⟩
def rawCall (P : Program) (ops : Array Oper) (s : AS) (o : Oper) (K : AS → Prop) : Prop :=
  match o.op with
  | .call { callee := .value (.func f), args := ⟨args⟩, .. } => awant ops o s.t = some true ∧ nts (args.map s.eval) = true ∧ enters P f = true ∧ ACall P f (args.map s.eval) s fun x s1 => dstOk o.dst s1.n ∧ K (s1.put o.dst x)
  | _ => False
theorem rawCall_sound {ops : Array Oper} {K K' : AS → Prop} {o : Oper} {l : List Oper} (hk : ∀ s, K' s → aseq P ops K l s) (h : rawCall P ops s o K') : aseq P ops K (o :: l) s := by
  unfold rawCall at h
  rw [aseq]
  split at h
  · rename_i f args tys hop
    obtain ⟨hwt, hn, hf, x, s1, h1, h2, h3, h4⟩ := h
    refine ⟨true, hwt, ?_⟩
    show EOp P s o.op _
    rw [hop]
    exact eop_callR hf (qck hn) h1 h2 ⟨h3, hk _ h4⟩
  · exact h.elim
theorem awp_regionR {id : Nat} {l : List Oper} {Q : Exit → AS → Prop} (k : Nat) {o : Oper} (ho : l[k]? = some o) (h : qq P l.toArray (fun s => rawCall P l.toArray s o fun s => qq P l.toArray (Q .normal) (l.drop (k + 1)) s) (l.take k) s) : awp P (.region id l.toArray false) Q s := by
  refine qcm ?_
  have h1 : l = l.take k ++ o :: l.drop (k + 1) := by
    have hk := (List.getElem?_eq_some_iff.1 ho)
    obtain ⟨hk, he⟩ := hk
    rw [← he, ← List.drop_eq_getElem_cons hk, List.take_append_drop]
  have h2 : aseq P l.toArray (Q .normal) (l.take k ++ o :: l.drop (k + 1)) s := aseqC_cut (fun s' hs => rawCall_sound (fun s'' h => qcr h) hs) h
  rw [← h1] at h2; exact h2
attribute [simp] rawCall
end
end Go.Proofs.YtnkimlkoijfcpaaGreatDoor

/- The first element with a property, and what loops that look for it know. -/
namespace Go.Proofs.YtnkimlkoijfcpaaGreatDoor
def idxP {α : Type} (p : α → Bool) : List α → Int
  | [] => -1
  | x :: l => if p x then 0 else if idxP p l = -1 then -1 else idxP p l + 1
section
variable {α : Type} {p : α → Bool}
theorem qea (x : α) (l : List α) : idxP p (x :: l) = if p x then 0 else if idxP p l = -1 then -1 else idxP p l + 1 := rfl
theorem idxP_ge : ∀ l : List α, -1 ≤ idxP p l
  | [] => by simp [idxP]
  | x :: l => by
    have := idxP_ge l
    rw [qea]
    split
    · omega
    · split <;> omega
theorem idxP_hit : ∀ {l : List α} {k : Nat} (h : k < l.length), p l[k] = true → (∀ j (h : j < l.length), j < k → p l[j] = false) → idxP p l = k
  | [], k, h, _, _ => by simp at h
  | x :: l, 0, h, h1, _ => by
    have h1' : p x = true := h1
    rw [qea, if_pos h1']; rfl
  | x :: l, k + 1, h, h1, h2 => by
    have h0 : p x = false := h2 0 (by simp) (by omega)
    have hk : k < l.length := by simpa using h
    have ih := idxP_hit (l := l) (k := k) hk (by simpa using h1) fun j hj hjk => by have := h2 (j + 1) (by simpa using hj) (by omega); simpa using this
    rw [qea, if_neg (by rw [h0]; simp), ih, if_neg (by omega)]
    omega
theorem idxP_miss : ∀ {l : List α}, (∀ j (h : j < l.length), p l[j] = false) → idxP p l = -1
  | [], _ => rfl
  | x :: l, h => by
    have h0 : p x = false := h 0 (by simp)
    rw [qea, if_neg (by rw [h0]; simp), idxP_miss (l := l) fun j hj => by have := h (j + 1) (by simpa using hj); simpa using this]
    rfl
theorem idxP_lt {l : List α} {k : Nat} (h : idxP p l = k) : ∃ hk : k < l.length, p l[k] = true ∧ ∀ j (h : j < l.length), j < k → p l[j] = false := by
  induction l generalizing k with
  | nil => simp [idxP] at h
  | cons x l ih =>
    rw [qea] at h
    split at h
    · rename_i hx
      obtain rfl : k = 0 := by omega
      exact ⟨by simp, hx, fun j _ hj => by omega⟩
    · rename_i hx
      split at h
      · omega
      · rename_i hn
        have hge := idxP_ge (p := p) l
        obtain ⟨hk, h1, h2⟩ := ih (k := k - 1) (by omega)
        obtain ⟨k', rfl⟩ : ∃ k', k = k' + 1 := ⟨k - 1, by omega⟩
        refine ⟨by simpa using hk, by simpa using h1, fun j hj hjk => ?_⟩
        cases j with
        | zero => simpa using hx
        | succ j => simpa using h2 j (by simpa using hj) (by omega)
theorem idxP_any (l : List α) : decide (0 ≤ idxP p l) = l.any p := by
  induction l with
  | nil => rfl
  | cons x l ih =>
    have hge := idxP_ge (p := p) l
    rw [List.any_cons, ← ih]
    rw [qea]
    by_cases hx : p x = true
    · rw [if_pos hx, hx]; rfl
    · rw [if_neg hx]
      have : p x = false := by simpa using hx
      rw [this, Bool.false_or]
      split
      · rename_i h; rw [h]
      · exact decide_eq_decide.2 (by omega)
theorem all_hit {l : List α} {k : Nat} (h : k < l.length) (h1 : p l[k] = false) : l.all p = false := by
  rw [Bool.eq_false_iff]; intro h2
  rw [List.all_eq_true] at h2
  have := h2 l[k] (List.getElem_mem h)
  rw [h1] at this; cases this
theorem all_end {l : List α} (h : ∀ j (h : j < l.length), p l[j] = true) : l.all p = true := by
  rw [List.all_eq_true]
  intro x hx
  obtain ⟨j, hj, rfl⟩ := List.getElem_of_mem hx
  exact h j hj
theorem qeg {C : α → Prop} {l : List α} {k : Nat} (h : ∀ j (h : j < l.length), j < k → C l[j]) (hk : ∀ h : k < l.length, C l[k]) : ∀ j (h : j < l.length), j < k + 1 → C l[j] := fun j hj hjk => by
  by_cases he : j = k
  · subst he; exact hk hj
  · exact h j hj (by omega)
theorem upto_all {C : α → Prop} {l : List α} {k : Nat} (h : ∀ j (h : j < l.length), j < k → C l[j]) (hk : ¬ k < l.length) : ∀ j (h : j < l.length), C l[j] := fun j hj => h j hj (by omega)
end
def fillV {α : Type} (f : α → AV) (z : AV) (L : List α) (k : Nat) : List AV := (L.take k).map f ++ List.replicate (L.length - k) z
section
variable {α : Type} {f : α → AV} {z : AV} {L : List α} {k : Nat}
theorem fillV_len (h : k ≤ L.length) : (fillV f z L k).length = L.length := by
  unfold fillV; simp only [List.length_append, List.length_map, List.length_take, List.length_replicate]; omega
theorem fillV_get (h : k < L.length) : (fillV f z L k)[k]? = some z := by
  unfold fillV
  have hl : ((L.take k).map f).length = k := by simp only [List.length_map, List.length_take]; omega
  rw [List.getElem?_append_right (by omega), hl, Nat.sub_self, List.getElem?_replicate, if_pos (by omega)]
theorem fillV_set (h : k < L.length) : (fillV f z L k).set k (f L[k]) = fillV f z L (k + 1) := by
  unfold fillV
  have hl : ((L.take k).map f).length = k := by simp only [List.length_map, List.length_take]; omega
  rw [List.set_append_right _ _ (by omega), hl, Nat.sub_self]
  obtain ⟨m, hm⟩ : ∃ m, L.length - k = m + 1 := ⟨L.length - k - 1, by omega⟩
  rw [hm, List.replicate_succ, List.set_cons_zero, show L.length - (k + 1) = m by omega, List.take_succ_eq_append_getElem h, List.map_append, List.append_assoc]
  rfl
theorem fillV_all : fillV f z L L.length = L.map f := by
  unfold fillV; simp
theorem fillV_zero : fillV f z L 0 = List.replicate L.length z := by
  unfold fillV; simp
theorem fillV_cls {m : Nat} (hf : ∀ x, (f x).cl m) (hz : z.cl m) : AV.cls m (fillV f z L k) := by
  rw [AV.cls_iff]
  intro x hx
  unfold fillV at hx
  rcases List.mem_append.1 hx with h | h
  · obtain ⟨y, -, rfl⟩ := List.mem_map.1 h; exact hf y
  · rw [(List.mem_replicate.1 h).2]; exact hz
end
end Go.Proofs.YtnkimlkoijfcpaaGreatDoor
