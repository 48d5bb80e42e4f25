/- Functions that range, from their bodies; iterators from their bodies; closures over a new variable. -/
import Derived.Test.YtbkkjlcclddpdaaGreatDoorGd11
import Derived.Test.YtbkkjlcclddpdaaGreatDoorGd13
set_option linter.unusedSimpArgs false
set_option linter.unusedVariables false
namespace Go.Proofs.YtbkkjlcclddpdaaGreatDoor
open Go.RowKit Go.Lib
def GivesB (P : Program) (f : FuncId) (args : List AV) (x : Nat → AV) (ab : AB) : Prop := ∀ σ r, σ r = .unborn → AC P f args σ fun y τ => y = x r ∧ τ = upd σ r ab
theorem acallB {P : Program} {f : FuncId} {args : List AV} {s : AS} {K : AV → AS → Prop} {x : Nat → AV} {ab : AB} (h : GivesB P f args x ab) (hK : K (x s.nx) (s.ext (some ab))) : ACall P f args s K :=
  ⟨x s.nx, s.ext (some ab), by rw [(qeo s ab).1]; exact h s.st s.nx (s.fin _ (Nat.le_refl _)), ⟨rfl, rfl, rfl⟩, hK⟩
theorem qgk {P : Program} {f : FuncId} {fn : Func} {c : Code} {rs : List ResultVar} {args : List AV} {cs : List AV} {t : TypeId} {g N : Nat} (i : Nat) (hf : P.funcs[f]? = some fn) (hN : fn.ntmps = N) (hb : fn.body = some c) (hr : fn.results = rs.toArray) (hlen : rs.length ≤ 4) (ha : Nat.ble args.length N = true) (hl : ∀ m, AV.cls m cs)
    (h : ∀ σ n0, (∀ r, (σ r).cl n0) → AV.fitss args → awp P c (fun e' s' => (e' = .normal ∨ e' = .ret) ∧ s'.n0 = n0 ∧ s'.σ = σ ∧ s'.L[i]? = some (.cells cs t) ∧ ares P s' rs (.fn g [.ptr (n0 + i) 0])) { n := N, t := qdq args 0, σ := σ, n0 := n0, L := [] }) : GivesB P f args (fun r => .fn g [.ptr r 0]) (.cells cs t) := by
  intro σ r hu X vals nx0 hS hσ hfin0 hargs
  subst hσ
  subst hN
  obtain ⟨n0, hn0⟩ : ∃ n0, n0 = max nx0 (r + 1) := ⟨_, rfl⟩
  have hfin : Fin X.σ n0 := fun k hk => hfin0 k (by omega)
  have hrn : r < n0 := by omega
  have hlv : vals.length = args.length := rrl_len hargs
  have ha' : args.length ≤ fn.ntmps := Nat.le_of_ble_eq_true ha
  refine calls_of_wp hf hb (wp_mono (CwpA.plain (h X.σ n0 (fun k => (hS.block k).cl hfin) hargs.fits X { tmps := vals.toArray ++ Array.replicate (fn.ntmps - vals.toArray.size) undef, defers := [] } X.w ⟨X, rfl, ?_, hS, Fr.refl X, ?_, fun d => ?_, rfl, hfin⟩)) ?_)
  · funext k
    show X.σ k = loc X.σ n0 [] k
    unfold loc
    split
    · rfl
    · rw [hfin k (by omega)]; rfl
  · show (vals.toArray ++ Array.replicate _ undef).size = fn.ntmps
    rw [Array.size_append, Array.size_replicate, List.size_toArray]; omega
  · have := qfr args vals [] (fn.ntmps - vals.toArray.size) hargs d (by simp)
    simpa using this
  · rintro e' a' w' ⟨s', ⟨he, hn0', hσ', hL, hx⟩, ⟨X', hc⟩, hdf⟩
    have hw := hc.w
    subst hw
    obtain ⟨v, hv, hR⟩ := qgp hc hr hlen hx
    have hstL : ∀ k, k < n0 → X'.σ k = X.σ k := fun k hk => by
      rw [hc.σ]
      show loc s'.σ s'.n0 s'.L k = _
      unfold loc
      rw [hn0', if_pos hk, hσ']
    have hstI : X'.σ (n0 + i) = .cells cs t := by
      rw [hc.σ]
      show loc s'.σ s'.n0 s'.L (n0 + i) = _
      unfold loc
      rw [hn0', if_neg (by omega), Nat.add_sub_cancel_left, List.getD_eq_getElem?_getD, hL]; rfl
    have hC := hc.sr.cut (m := n0) fun k hk => by rw [hstL k hk]; exact (hS.block k).cl hfin
    have hFC := hc.fr.cut (m := n0) fun k hk => hfin k hk
    have hσC : (X'.cut n0).σ = X.σ := by
      funext k
      show Proofs.YtbkkjlcclddpdaaGreatDoor.cut n0 X'.σ k = _
      unfold Proofs.YtbkkjlcclddpdaaGreatDoor.cut
      split
      · exact hstL k ‹_›
      · exact (hfin k (by omega)).symm
    have hBI := hc.sr.block (n0 + i)
    rw [hstI] at hBI
    obtain ⟨b0, xs, hμ0, hheap, hrs⟩ := hBI
    have hblkI : ∀ b, X'.blk (n0 + i) = some b ↔ ptrBlock (X'.μ (n0 + i)) = some b := fun b => by unfold St.blk; rw [hstI]; exact Iff.rfl
    let Y : St := { (X'.cut n0) with μ := upd X'.μ r (X'.μ (n0 + i)), σ := upd X.σ r (.cells cs t) }
    have y1 : Y.σ r = .cells cs t := by simp [Y, upd]
    have y2 : ∀ k, k ≠ r → Y.σ k = (X'.cut n0).σ k ∧ Y.μ k = (X'.cut n0).μ k := fun k hk => by
      rw [hσC]
      constructor
      · simp [Y, upd, hk]
      · simp [Y, upd, hk, St.cut]
    have y3 : Y.μ r = X'.μ (n0 + i) := by simp [Y, upd]
    have yb : ∀ k b, Y.blk k = some b → (k = r ∧ X'.blk (n0 + i) = some b) ∨ (k ≠ r ∧ (X'.cut n0).blk k = some b) := fun k b h => by
      unfold St.blk at h
      by_cases hk : k = r
      · subst hk
        rw [y1, y3] at h
        exact .inl ⟨rfl, (hblkI b).2 h⟩
      · obtain ⟨e1, e2⟩ := y2 k hk
        rw [e1, e2] at h
        exact .inr ⟨hk, h⟩
    have hvr : ∀ k, Ver (X'.cut n0) Y k := fun k => by
      unfold Ver
      by_cases hk : k = r
      · subst hk; rw [hσC, hu]; trivial
      · obtain ⟨e1, e2⟩ := y2 k hk
        have := (Fr.refl (X'.cut n0)).ver k
        unfold Ver at this
        rw [e1, e2]; exact this
    have hcs : ∀ b o cs, qbc (X'.cut n0) b o cs → qbc Y b o cs := fun b o cs => qex (X := X'.cut n0) (Y := Y) rfl rfl
    have hxs : R1s Y cs xs := R1s.vr hcs hvr _ _ (R1s.cut _ _ (hl n0) hrs)
    have hlt : ∀ b, X'.blk (n0 + i) = some b → X.w.heap.size ≤ b ∨ ∃ r', X.blk r' = some b := fun b h => hc.fr.own _ b h
    have hne : ∀ k b, (X'.cut n0).blk k = some b → k < n0 ∧ X'.blk k = some b := fun k b h => St.blk_cut h
    have hSY : SR Y := by
      refine ⟨fun k => ?_, fun k k' b h1 h2 => ?_, fun k b o h1 h2 => ?_, fun b o h => hC.old b o h, hc.sr.glob.mono fun b o cs hg => ⟨qex (X := X') (Y := Y) rfl rfl hg.1, hg.2.1, fun k hk => ?_, hg.2.2.2⟩⟩
      · by_cases hk : k = r
        · subst hk; rw [y1, y3]
          exact ⟨b0, xs, hμ0, hheap, hxs⟩
        · obtain ⟨e1, e2⟩ := y2 k hk
          rw [e1, e2]
          have hb := hC.block k
          generalize (X'.cut n0).σ k = ab at hb
          generalize (X'.cut n0).μ k = vv at hb
          cases ab with
          | cells cs t => obtain ⟨b, vs, h1, h2, h3⟩ := hb; exact ⟨b, vs, h1, h2, R1s.vr hcs hvr _ _ h3⟩
          | vec l e s => obtain ⟨h0, xs, h1, h2⟩ := hb; exact ⟨h0, xs, h1, RCs.vr hcs hvr _ _ h2⟩
          | tail n e s => exact hb
          | obj I => exact hb
          | buf cs e => exact hb
          | susp b o t a => exact ⟨hb.1, hb.2.1, fun d => (hb.2.2 d).vr hcs hvr⟩
          | dead => trivial
          | unborn => trivial
      · rcases yb k b h1 with ⟨rfl, h3⟩ | ⟨h3, h4⟩ <;> rcases yb k' b h2 with ⟨rfl, h6⟩ | ⟨h6, h7⟩
        · rfl
        · obtain ⟨h8, h9⟩ := hne _ _ h7
          have := hc.sr.alone _ _ b h9 h3; omega
        · obtain ⟨h8, h9⟩ := hne _ _ h4
          have := hc.sr.alone _ _ b h9 h6; omega
        · exact hC.alone _ _ b h4 h7
      · rcases yb k b h1 with ⟨rfl, h3⟩ | ⟨h3, h4⟩
        · obtain ⟨_, e2, s2, h6, h7⟩ := hc.sr.apart (n0 + i) b o h3 h2
          rw [hstI] at h6; cases h6
        · obtain ⟨n2, e2, s2, h6, h7⟩ := hC.apart k b o h4 h2
          exact ⟨n2, e2, s2, by rw [(y2 k h3).1]; exact h6, h7⟩
      · rcases yb k b hk with ⟨rfl, h3⟩ | ⟨h3, h4⟩
        · exact hg.2.2.1 _ h3
        · exact hg.2.2.1 k (hne _ _ h4).2
    have hFY : Fr X Y := ⟨hFC.os, hFC.tape, hFC.output, hFC.size, hFC.keep, hFC.keepS, hFC.more, hFC.less, fun k => by
      by_cases hk : k = r
      · subst hk; unfold Ver; rw [hu]; trivial
      · obtain ⟨e1, e2⟩ := y2 k hk
        have := hFC.ver k
        unfold Ver at this ⊢
        rw [e1, e2]; exact this, fun k b h => by
      rcases yb k b h with ⟨rfl, h3⟩ | ⟨h3, h4⟩
      · exact hlt b h3
      · exact hFC.own k b h4⟩
    have hRY : RR Y (.fn g [.ptr r 0]) v := by
      have h1 : RC X' (.fn g [.ptr (n0 + i) 0]) [v] := hR
      rw [RC] at h1
      obtain ⟨vs, h2, h3⟩ := h1
      rw [R1s] at h3
      obtain ⟨u, us, rfl, h4, h5, h6⟩ := h3
      rw [RC] at h5
      obtain ⟨-, b', h7, h8⟩ := h5
      show RC Y _ [v]
      rw [RC]
      refine ⟨u :: us, h2, ?_⟩
      rw [R1s] at h6
      rw [R1s]
      refine ⟨u, us, rfl, h4, ?_, by rw [R1s]; exact h6⟩
      rw [RC]
      exact ⟨⟨cs, t, y1⟩, b', by rw [y3]; exact h7, h8⟩
    have hres : ∃ Y' v' x', Ending.returned v = .returned v' ∧ Y'.w = X'.w ∧ (x' = .fn g [.ptr r 0] ∧ Y'.σ = upd X.σ r (.cells cs t)) ∧ SR Y' ∧ Fr X Y' ∧ RR Y' x' v' := ⟨Y, v, _, rfl, rfl, ⟨rfl, rfl⟩, hSY, hFY, hRY⟩
    rcases he with rfl | rfl
    · exact ⟨hdf, v, hv, hres⟩
    · exact ⟨hdf, v, hv, hres⟩
section
variable {P : Program}
def FEnd (P : Program) (σ : Nat → AB) (n0 : Nat) (rs : List ResultVar) (x : AV) (e : Exit) (ds : List Deferred) (s' : AS) : Prop :=
  (e = .normal ∨ e = .ret) ∧ s'.n0 = n0 ∧ s'.σ = σ ∧ ((ds = [] ∧ ares P s' rs x) ∨ ∃ i D, ds = [markD D] ∧ s'.L[i]? = some (markB D) ∧ ares P { s' with L := s'.L.set i (.susp D (.deferred none) (fun _ => .any) #[]) } rs x)
theorem gives_of_fwp {f : FuncId} {fn : Func} {c : Code} {rs : List ResultVar} {args : List AV} {x : AV} {N : Nat} (hf : P.funcs[f]? = some fn) (hN : fn.ntmps = N) (hb : fn.body = some c) (hr : fn.results = rs.toArray) (hlen : rs.length ≤ 4) (ha : Nat.ble args.length N = true) (hx : ∀ n, x.cl n)
    (h : ∀ σ n0, (∀ r, (σ r).cl n0) → AV.fitss args → fwp P [] c (FEnd P σ n0 rs x) { n := N, t := qdq args 0, σ := σ, n0 := n0, L := [] }) : Gives P f args x := by
  intro σ X vals n0 hS hσ hfin hargs
  subst hσ
  subst hN
  have hlv : vals.length = args.length := rrl_len hargs
  have ha' : args.length ≤ fn.ntmps := Nat.le_of_ble_eq_true ha
  have hcl : ∀ k, (X.σ k).cl n0 := fun k => (hS.block k).cl hfin
  refine (callsIn_wide (n := 0)).1 (callsIn_of_wp_marks (F := Fence.wide) (n := 0) hf hb trivial ?_)
  refine Go.wpIn_mono (h X.σ n0 hcl hargs.fits X { tmps := vals.toArray ++ Array.replicate (fn.ntmps - vals.toArray.size) undef, defers := [] } X.w ⟨X, rfl, ?_, hS, Fr.refl X, ?_, fun d => ?_, rfl, hfin⟩ rfl) ?_
  · funext k
    show X.σ k = loc X.σ n0 [] k
    unfold loc
    split
    · rfl
    · rw [hfin k (by omega)]; rfl
  · show (vals.toArray ++ Array.replicate _ undef).size = fn.ntmps
    rw [Array.size_append, Array.size_replicate, List.size_toArray]; omega
  · have := qfr args vals [] (fn.ntmps - vals.toArray.size) hargs d (by simp)
    simpa using this
  · rintro e a' w' ⟨s', ⟨he, hn0, hσ', hq⟩, X', hc⟩
    have hw := hc.w
    subst hw
    have fin : ∀ (s2 : AS) (X2 : St), Con X s2 a' X2.w X2 → s2.n0 = n0 → s2.σ = X.σ → ares P s2 rs x → ∃ v, (results fn a'.tmps).run P X2.w = .ok v X2.w ∧ ∃ Y v' x', Ending.returned v = .returned v' ∧ Y.w = X2.w ∧ (x' = x ∧ Y.σ = X.σ) ∧ SR Y ∧ Fr X Y ∧ RR Y x' v' := fun s2 X2 hc2 g1 g2 g3 => by
      obtain ⟨v, hv, hR⟩ := qgp hc2 hr hlen g3
      have hst : ∀ k, k < n0 → X2.σ k = X.σ k := fun k hk => by
        rw [hc2.σ]
        show loc s2.σ s2.n0 s2.L k = _
        unfold loc
        rw [g1, if_pos hk, g2]
      refine ⟨v, hv, X2.cut n0, v, x, rfl, rfl, ⟨rfl, ?_⟩, hc2.sr.cut fun k hk => by rw [hst k hk]; exact hcl k, hc2.fr.cut fun k hk => hfin k hk, hR.cut (hx n0)⟩
      funext k
      show Proofs.YtbkkjlcclddpdaaGreatDoor.cut n0 X2.σ k = _
      unfold Proofs.YtbkkjlcclddpdaaGreatDoor.cut
      split
      · exact hst k ‹_›
      · exact (hfin k (by omega)).symm
    have hleave : LeavesInM Fence.wide 0 P fn a'.tmps (fun e w' => ∃ Y v x', e = .returned v ∧ Y.w = w' ∧ (x' = x ∧ Y.σ = X.σ) ∧ SR Y ∧ Fr X Y ∧ RR Y x' v) a'.defers .returning X'.w := by
      rcases hq with ⟨hds, hares⟩ | ⟨i, D, hds, hLi, hares⟩
      · rw [hds]
        exact fin s' X' hc hn0 hσ' hares
      · rw [hds]
        have hst : s'.st (n0 + i) = .susp D (.deferred (some [])) (fun _ => .any) #[] := by
          unfold AS.st
          rw [hn0]
          unfold loc
          rw [if_neg (by omega), Nat.add_sub_cancel_left, List.getD_eq_getElem?_getD, hLi]; rfl
        obtain ⟨hh, -, X2, hc2, -⟩ := con_susp hc hst (.deferred none)
        have hset : s'.set (n0 + i) (.susp D (.deferred none) (fun _ => .any) #[]) = { s' with L := s'.L.set i (.susp D (.deferred none) (fun _ => .any) #[]) } := by
          unfold AS.set
          rw [hn0, if_neg (by omega), Nat.add_sub_cancel_left]
        rw [hset] at hc2
        have hw2 := hc2.w
        refine ⟨by simp, .inl ⟨D, _, rfl, run_takeDeferred hh, ?_⟩⟩
        rw [← hw2] at hc2 ⊢
        exact fin _ X2 hc2 hn0 hσ' hares
    rcases he with rfl | rfl
    · exact hleave
    · exact hleave
theorem iter_of_awp {gf : FuncId} {fn : Func} {c : Code} {caps : List AV} {xs : List (List AV)} {I : Nat → (Nat → AB) → Prop} {go : Nat → (Nat → AB) → Nat → AB} {N : Nat} (hf : P.funcs[gf]? = some fn) (hN : fn.ntmps = N) (hb : fn.body = some c) (hr : fn.results = #[]) (ha : Nat.ble (caps.length + 1) N = true)
    (h : ∀ (l : Nat) (S : Nat → Nat → AB) (m : Nat) (stop : Bool) (n0 : Nat), m ≤ xs.length → (stop = false → m = xs.length) → (stop = true → 0 < m) → (∀ k, k ≤ m → I k (S k)) → (∀ k, k ≤ m → ∀ r, (S k r).cl n0) → (∀ k, k ≤ m → Fin (S k) n0) → AV.fitss caps → AV.cls n0 caps →
      (∀ k (_ : k < m) (hx : k < xs.length) L, AY P l xs[k] (loc (go k (S k)) n0 L) fun y τ => y = .v (.bool (!(stop && decide (k + 1 = m)))) ∧ τ = loc (S (k + 1)) n0 L) →
      awp P c (fun e s' => (e = .normal ∨ e = .ret) ∧ s'.n0 = n0 ∧ s'.σ = S m) { n := N, t := qdq (.v (.func (.yield l) #[] #[]) :: caps) 0, σ := S 0, n0 := n0, L := [] }) : Iter P gf caps xs I go := by
  intro l S m stop hm hs0 hs1 hI hfc hy
  subst hN
  intro X vals nx hS hσ hfin hargs
  refine ac_of_awp (Q := fun _ τ => τ = S m) (rs := []) hf hb hr (by simp) (Nat.le_of_ble_eq_true (by simpa using ha)) (fun n1 hfin1 hcl hft => ?_) X vals nx hS hσ hfin hargs
  have hft2 : AV.fitss caps := by rw [AV.fitss] at hft; exact hft.2
  have hcc : AV.cls n1 caps := by
    obtain ⟨v, vs, -, -, h2⟩ := hargs
    exact RRl.cl (fun r hr => by rw [hσ]; exact hfin1 r hr) h2
  refine qgb (h l S m stop n1 hm hs0 hs1 hI (fun k hk => (hfc n1 k hk hfin1).2) (fun k hk => (hfc n1 k hk hfin1).1) hft2 hcc fun k hk hx L => hy k hk hx n1 L hfin1) fun e s' ⟨h1, h2, h3⟩ => ⟨h1, h2, .tup [], ⟨[], rfl, rfl⟩, by rw [AV.cl, AV.cls]; trivial, fun r _ => by rw [h3]; exact (hfc n1 m (Nat.le_refl _) hfin1).2 r, ?_⟩
  funext r
  show Proofs.YtbkkjlcclddpdaaGreatDoor.cut n1 s'.σ r = _
  unfold Proofs.YtbkkjlcclddpdaaGreatDoor.cut
  rw [h3]
  split
  · rfl
  · exact ((hfc n1 m (Nat.le_refl _) hfin1).1 r (by omega)).symm
theorem updB_set {σ : Nat → AB} {n0 : Nat} {Bs : List AB} (h : ∀ j b, Bs[j]? = some b → σ (n0 + j) = b) (i : Nat) (x : AB) (hi : i < Bs.length) : upd σ (n0 + i) x = updB σ n0 (Bs.set i x) := by
  funext r
  unfold updB upd
  by_cases h1 : r = n0 + i
  · subst h1
    rw [if_pos rfl, if_neg (by omega), Nat.add_sub_cancel_left, List.getElem?_set_self hi]
  · rw [if_neg h1]
    by_cases h2 : r < n0
    · rw [if_pos h2]
    · rw [if_neg h2, List.getElem?_set_ne (by omega)]
      cases hb : Bs[r - n0]? with
      | none => rfl
      | some b =>
        have := h _ _ hb
        rw [show n0 + (r - n0) = r by omega] at this
        exact this
theorem updB_set0 {σ : Nat → AB} {n0 : Nat} {Bs : List AB} (h : ∀ j b, Bs[j]? = some b → σ (n0 + j) = b) (x : AB) (hi : 0 < Bs.length) : upd σ n0 x = updB σ n0 (Bs.set 0 x) := updB_set h 0 x hi
end
end Go.Proofs.YtbkkjlcclddpdaaGreatDoor

/- The columns of a shape that are not right, one by one. -/
namespace Go.Proofs.YtbkkjlcclddpdaaGreatDoor
open Go.RowKit Go.Lib
def unitP (c : Col) : Bool := decide (c.unit.toList = []) || (decide (c.type = 0) && ownP c.unit.toList)
def okC (L : List Col) (i : Nat) (c : Col) : Bool := ownP c.name.toList && !decide (qch c.type = []) && unitP c && decide (findP (L.take i) c.name.toList < 0)
def qbn (L : List Col) : Nat → List Int
  | 0 => []
  | k + 1 => qbn L k ++ (match L[k]? with | some c => if okC L k c then [] else [(k : Int)] | none => [])
theorem wrongs_pre (L : List Col) {j : Nat} : ∀ {k}, j ≤ k → qbn L j <+: qbn L k
  | 0, h => by obtain rfl : j = 0 := by omega
               exact List.prefix_refl _
  | k + 1, h => by
    by_cases he : j = k + 1
    · subst he; exact List.prefix_refl _
    · exact (wrongs_pre L (k := k) (by omega)).trans (by rw [qbn]; exact List.prefix_append _ _)
theorem wrongs_ok {L : List Col} {k : Nat} (h : k < L.length) (hok : okC L k L[k] = true) : qbn L (k + 1) = qbn L k := by
  rw [qbn, List.getElem?_eq_getElem h]; simp [hok]
theorem wrongs_bad {L : List Col} {k : Nat} (h : k < L.length) (hok : okC L k L[k] = false) : qbn L (k + 1) = qbn L k ++ [(k : Int)] := by
  rw [qbn, List.getElem?_eq_getElem h]; simp [hok]
theorem wrongs_get {L : List Col} {k : Nat} (h : k < L.length) (hok : okC L k L[k] = false) : ∃ hj : (qbn L k).length < (qbn L L.length).length, (qbn L L.length)[(qbn L k).length] = (k : Int) := by
  obtain ⟨t, ht⟩ := wrongs_pre L (show k + 1 ≤ L.length by omega)
  rw [wrongs_bad h hok] at ht
  have hlen : (qbn L k).length < (qbn L L.length).length := by rw [← ht]; simp
  refine ⟨hlen, ?_⟩
  simp only [← ht]
  rw [List.getElem_append_left (by simp)]
  simp
theorem wrong_b (L : List Col) : GivesB Tryz.prog 44 [.sl (L.map Col.av)] (fun r => .fn 94 [.ptr r 0]) (.cells [.sl (L.map Col.av)] 35) := by
  refine qgk 0 Tryz.func44 Tryz.ntmps44 rfl rfl (by decide) rfl (by intro m; simp) fun σ n0 hcl hft => ?_
  repeat' (first | ((first | ((with_reducible refine qf (fun hg => ?_) (fun hg => ?_)) <;> (try simp only [hg]) <;> (try simp only [gS] at hg) <;> (try (first | simp only [eq_false hg, gI] | simp only [eq_true hg, gI]))) | refine Stp.m ?_) <;> (try simp (disch := first | omega | simp) [qd, -qg, -ql])) | refine sideA ?_ | refine qc fun K hK => ?_ | refine qa ?_ | refine qe ?_ | refine qb ?_ | (refine hK _ ?_; clear hK K) | clear hK K)
end Go.Proofs.YtbkkjlcclddpdaaGreatDoor

/- The ends of functions that range. -/
namespace Go.Proofs.YtbkkjlcclddpdaaGreatDoor
open Go.RowKit Go.Lib
attribute [simp] argT
theorem fend_mark {P : Program} {σ : Nat → AB} {n n0 : Nat} {t : Nat → AV} {L : List AB} {rs : List ResultVar} {x : AV} {e : Exit} {D : Nat} (i : Nat) (he : e = .normal ∨ e = .ret) (hL : L[i]? = some (markB D)) (h : ares P ⟨n, t, σ, n0, L.set i (.susp D (.deferred none) (fun _ => .any) #[])⟩ rs x) : FEnd P σ n0 rs x e [markD D] ⟨n, t, σ, n0, L⟩ :=
  ⟨he, rfl, rfl, .inr ⟨i, D, rfl, hL, h⟩⟩
end Go.Proofs.YtbkkjlcclddpdaaGreatDoor

/- Walk: whether a shape is right. -/
namespace Go.Proofs.YtbkkjlcclddpdaaGreatDoor
open Go.RowKit Go.Lib
def rightP (L : List Col) : Bool := decide (qbn L L.length = []) && decide (1 ≤ L.length) && decide (L.length ≤ 12)
end Go.Proofs.YtbkkjlcclddpdaaGreatDoor
