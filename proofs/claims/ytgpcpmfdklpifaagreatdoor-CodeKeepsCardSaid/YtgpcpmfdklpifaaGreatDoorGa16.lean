/- Slice literals that grow. -/
import Derived.WideShapes
import Derived.Laws.Strings
import Derived.Test.YtgpcpmfdklpifaaGreatDoorGa1
import Derived.Test.YtgpcpmfdklpifaaGreatDoorGa3
import Derived.Test.YtgpcpmfdklpifaaGreatDoorGa11
import Derived.Test.YtgpcpmfdklpifaaGreatDoorGa13
import Derived.Test.YtgpcpmfdklpifaaGreatDoorGa14
import Derived.Test.YtgpcpmfdklpifaaGreatDoorGa15
set_option linter.unusedSimpArgs false
set_option linter.unusedVariables false
namespace Go.Proofs.YtgpcpmfdklpifaaGreatDoor
open Go.RowKit Go.Lib
theorem EOp.frz {P : Program} {s : AS} {o : Op} {K : AV → AS → Prop} {r n : Nat} {l : List AV} {et : TypeId} {sz : Nat} (h : EOp P s o fun x s1 => x = .own r n ∧ n = l.length ∧ s1.st r = .vec l et sz ∧ K (.gs s1.nx l) ((s1.set r .dead).ext (some (.tail l.length et sz)))) : EOp P s o K := by
  intro X0 a w X oper ho hc Q
  refine Oper.wp_mono ?_ (h X0 a w X oper ho hc Q)
  rintro a' w' ⟨v, x, s1, X', e1, ⟨rfl, hn, hσ, hK⟩, hc', hr⟩
  obtain ⟨X2, hw, hc2, hF, hR⟩ := con_freeze hc' hσ
  exact ⟨v, _, _, X2, e1, hK, hc2, hR v n hn hr⟩
theorem ext_dead (s : AS) (ab cd : AB) : ((s.ext (some ab)).set s.nx .dead).ext (some cd) = (s.ext (some .dead)).ext (some cd) := by
  have h : (s.ext (some ab)).set s.nx .dead = s.ext (some .dead) := by
    unfold AS.set AS.ext AS.nx
    dsimp only
    rw [if_neg (by omega), Nat.add_sub_cancel_left]
    simp
  rw [h]
def aevZ (P : Program) (s : AS) (o : Op) (K : AV → AS → Prop) : Prop :=
  match o with
  | .buildSlice t n ⟨p :: ps⟩ => match vinfo P t with
    | some (e, sz, _) => n = (p :: ps).length ∧ n * sz ≤ 16777216 ∧ bldS sz 0 ((p :: ps).map fun p => (p.1, s.eval p.2)) ∧ AV.wid ((p :: ps).map fun p => (s.eval p.2).pub) sz ∧
        K (.gs (s.n0 + (s.L.length + 1)) ((p :: ps).map fun p => (s.eval p.2).pub)) ((s.ext (some .dead)).ext (some (.tail n e sz)))
    | none => False
  | o => aev P s o K
theorem aevZ_sound {P : Program} {s : AS} {o : Op} {K : AV → AS → Prop} (h : aevZ P s o K) : EOp P s o K := by
  unfold aevZ at h
  split at h
  · rename_i t n p ps
    split at h
    · rename_i e sz _ hv
      obtain ⟨h1, h2, h3, h4, h5⟩ := h
      have hlen : ((p :: ps).map fun p => (s.eval p.2).pub).length = n := by rw [List.length_map, h1]
      refine EOp.frz (r := s.nx) (n := n) (l := (p :: ps).map fun p => (s.eval p.2).pub) (et := e) (sz := sz) (eop_fun (nb := some _) (fop_litVec hv h1 h2 h3 h4) ⟨rfl, hlen.symm, ?_, ?_⟩)
      · show loc s.σ s.n0 (s.L ++ [_]) (s.n0 + s.L.length) = _
        rw [loc_add]; simp
      · rw [ext_dead, hlen]
        have : (s.ext (some (AB.vec ((p :: ps).map fun p => (s.eval p.2).pub) e sz))).nx = s.n0 + (s.L.length + 1) := by
          show s.n0 + (s.L ++ [_]).length = _
          simp
        rw [this]
        exact h5
    · exact h.elim
  · exact qcc h
def aseqZ (P : Program) (ops : Array Oper) (K : AS → Prop) : List Oper → AS → Prop
  | [], s => K s
  | o :: l, s => match awant ops o s.t with
    | some b => qbq b (aevZ P s o.op (fun x s1 => dstOk o.dst s1.n ∧ aseqZ P ops K l (s1.put o.dst x))) (dstOk o.dst s.n ∧ aseqZ P ops K l (s.put o.dst (.v undef)))
    | none => False
theorem aseqZ_sound {P : Program} {ops : Array Oper} {K : AS → Prop} : ∀ {l : List Oper} {s : AS}, aseqZ P ops K l s → aseq P ops K l s
  | [], _, h => h
  | o :: l, s, h => by
    rw [aseqZ] at h
    rw [aseq]
    split at h
    · rename_i b hb
      cases b with
      | true => exact ⟨true, hb, (aevZ_sound (h.1 rfl)).mono fun x s1 ⟨h1, h2⟩ => ⟨h1, aseqZ_sound h2⟩⟩
      | false => exact ⟨false, hb, (h.2 rfl).1, aseqZ_sound (h.2 rfl).2⟩
    · exact h.elim
theorem awp_regionZ {P : Program} {s : AS} {id : Nat} {l : List Oper} {Q : Exit → AS → Prop} (h : aseqZ P l.toArray (Q .normal) l s) : awp P (.region id l.toArray false) Q s := qck (aseqZ_sound h)
theorem aseqZ_step {P : Program} {ops : Array Oper} {K : AS → Prop} {o : Oper} {l : List Oper} {s : AS} (h : match awant ops o s.t with
    | some b => qbq b (aevZ P s o.op (fun x s1 => dstOk o.dst s1.n ∧ aseqZ P ops K l (s1.put o.dst x))) (dstOk o.dst s.n ∧ aseqZ P ops K l (s.put o.dst (.v undef)))
    | none => False) : aseqZ P ops K (o :: l) s := h
theorem aseqZ_end {P : Program} {ops : Array Oper} {K : AS → Prop} {s : AS} (h : K s) : aseqZ P ops K [] s := h
attribute [simp] aevZ
end Go.Proofs.YtgpcpmfdklpifaaGreatDoor

/- Walk of layer 25: the error of an instruction. -/
namespace Go.Proofs.YtgpcpmfdklpifaaGreatDoor
open Go.RowKit Go.Lib
set_option maxHeartbeats 4000000 in
theorem ver_g (x : Ins) (cols types : List Int) (done : List Bool) (hdl : done.length = types.length) (ht : types.length ≤ 1000) (hc : cols.length ≤ 1000000) (σ : Nat → AB) (d : Nat) (hd : σ d = .vec (done.map AV.bool) 4 1) :
    qbu Tryz.prog 43 [x.av, .sl (cols.map AV.int), .sl (types.map AV.int), .own d done.length] σ (.int (verI cols types done x)) := by
  have c0 := formed_g x
  have c1 := ops_g x
  obtain ⟨R, hR⟩ : ∃ R, R = verI cols types done x := ⟨_, rfl⟩
  rw [← hR]
  unfold verI at hR
  cases hf : qbh x
  · rw [hf] at c0 hR
    refine qbe Tryz.func43 Tryz.ntmps43 rfl rfl (by decide) rfl (by intro n; simp) fun n0 hfin hcl hft => ?_
    have hrn := fin_lt hfin hd (by simp)
    repeat' (first | ((first | ((with_reducible refine qo (fun hg => ?_) (fun hg => ?_)) <;> (try simp only [hg]) <;> (try simp only [gS] at hg) <;> (try (first | simp only [eq_false hg, gI] | simp only [eq_true hg, gI]))) | (with_reducible first | refine qc ?_ | refine qb ?_ | refine qi ?_ | refine qh ?_) | refine acall (c0) ?_ | refine qp (c0) ?_ | refine qbv (c0) ?_ | refine qe ?_ | refine qj ?_ | refine qk ?_ | refine qm ?_) <;> (try simp (disch := first | omega | simp) [qg, -qq, -qs, hrn])) | ((with_reducible refine sideT ?_ ?_); first | omega | assumption | (simp; done)) | (refine qf fun K hK => ?_) | (refine qa ?_) | refine ql ?_ | ((first | refine hK _ ?_ | (clear hK K; refine hK _ ?_) | (clear hK K; clear hK K; refine hK _ ?_)); clear hK K) | refine qd ?_)
    rw [hR]; rfl
  rw [hf] at c0 hR
  rw [if_neg (by simp)] at hR
  have hol : (opsP x).length ≤ 3 := by
    have h1 := qci x
    have h2 := qdd x.op
    split at h1 <;> omega
  refine qbe Tryz.func43 Tryz.ntmps43 rfl rfl (by decide) rfl (by intro n; simp) fun n0 hfin hcl hft => ?_
  have hrn := fin_lt hfin hd (by simp)
  have hloc := loc_at hfin hd (by simp)
  have hsz : (1 + (opsP x).length) * 8 ≤ 140737488355328 := by omega
  have c2 : ∀ τ : Nat → AB, (∀ r ∈ opsP x, 0 ≤ r ∧ r < types.length) → τ (n0 + 1) = .cells [.own d done.length] 30 → τ d = .vec (done.map AV.bool) 4 1 →
      qbu Tryz.prog 41 [.sl ((opsP x).map AV.int), .fn 62 [.ptr (n0 + 1) 0]] τ (.bool ((opsP x).any fun r => !done.getD r.toNat false)) := fun τ hr h1 h2 =>
    contI_p (opsP x) _ _ (by kernel_rfl) (n0 + 1) τ h1 (fun r hm => bad_g done r (hr r hm).1 (by rw [hdl]; exact (hr r hm).2) τ (n0 + 1) d h1 h2) (by omega)
  have hpx : parts (exI x) ≤ 1000000 := by
    have h1 : ∀ l : List Int, qbt (l.map qba) = l.length := fun l => by
      induction l with
      | nil => rfl
      | cons r l ih => rw [List.map_cons, qbt, ih]; unfold qba; rw [parts, qbt, List.length_cons]; omega
    unfold exI; rw [parts, h1]; omega
  have c3 : Gives Tryz.prog 63 [.sl [], .sl (cols.map AV.int), .sl (types.map AV.int), .agg [.int x.op, .int x.n, .str x.s, .sl ((opsP x).map fun r => (qba r).av)]] (.tup [.int ((tyI cols types x).getD 0), .bool (tyI cols types x).isSome]) := by
    have h1 := type_g [] cols types (exI x) hpx (by simp)
    unfold exI at h1
    rw [Ex.av_mk, List.map_map] at h1
    exact h1
  repeat' (first | ((first | ((with_reducible refine qo (fun hg => ?_) (fun hg => ?_)) <;> (try simp only [hg]) <;> (try simp only [gS] at hg) <;> (try (first | simp only [eq_false hg, gI] | simp only [eq_true hg, gI]))) | (with_reducible first | refine qc ?_ | refine qb ?_ | refine qi ?_ | refine qh ?_ | refine aseqZ_step ?_ | refine aseqZ_end ?_) | refine acall (c0) ?_ | refine qp (c0) ?_ | refine qbv (c0) ?_ | refine acall (c1) ?_ | refine qp (c1) ?_ | refine qbv (c1) ?_ | refine qe ?_ | refine qj ?_ | refine qk ?_ | refine qm ?_) <;> (try simp (disch := first | omega | simp) [qg, -qq, -qs, hrn, hloc, hsz])) | (with_reducible refine awp_regionZ (id := 4) ?_) | ((with_reducible refine sideT ?_ ?_); first | omega | assumption | (simp; done)) | (refine qf fun K hK => ?_) | (refine qa ?_) | refine ql ?_ | ((first | refine hK _ ?_ | (clear hK K; refine hK _ ?_) | (clear hK K; clear hK K; refine hK _ ?_)); clear hK K) | refine qd ?_)
  obtain ⟨L, hL⟩ : ∃ L, L = x.tgt :: opsP x := ⟨_, rfl⟩
  have hLa : AV.int x.tgt :: (opsP x).map AV.int = L.map AV.int := by rw [hL]; rfl
  have hLl : (opsP x).length + 1 = L.length := by rw [hL]; rfl
  refine qr hcl (fun k : Nat => [(1, .sl (cols.map AV.int)), (2, .sl (types.map AV.int)), (4, .ptr n0 0), (7, .ptr (n0 + 1) 0), (9, .sl ((opsP x).map AV.int)), (26, .gs (n0 + 3) (L.map AV.int)), (27, .int L.length), (28, .int k)])
    (fun _ => [.cells [.int x.op, .int x.tgt, .int x.a, .int x.b, .int x.c, .int x.n, .str x.s] 32, .cells [.own d done.length] 30, .dead, .tail (1 + (opsP x).length) 3 1])
    (fun k => k ≤ L.length ∧ ∀ j (h : j < L.length), j < k → offR types L[j] = false) (fun k => L.length - k) 0 (by simp) (by simp; exact ⟨by omega, hLa, by omega⟩) fun k ⟨hk, he⟩ => ?_
  by_cases hlt : k < L.length
  · have hbad : offR types L[k] = true → 3 = R := fun ho => by
      rw [hR, if_pos]
      rw [← hL]
      exact List.any_eq_true.2 ⟨L[k], List.getElem_mem _, ho⟩
    repeat' (first | ((first | ((with_reducible refine qo (fun hg => ?_) (fun hg => ?_)) <;> (try simp only [hg]) <;> (try simp only [gS] at hg) <;> (try (first | simp only [eq_false hg, gI] | simp only [eq_true hg, gI]))) | (with_reducible first | refine qc ?_ | refine qb ?_ | refine qi ?_ | refine qh ?_) | refine qe ?_ | refine qj ?_ | refine qk ?_ | refine qm ?_) <;> (try simp (disch := first | omega | simp) [qg, -qq, -qs, hrn, hlt])) | ((with_reducible refine sideT ?_ ?_); first | omega | assumption | (simp; done)) | (refine qf fun K hK => ?_) | (refine qa ?_) | refine ql ?_ | ((first | refine hK _ ?_ | (clear hK K; refine hK _ ?_) | (clear hK K; clear hK K; refine hK _ ?_)); clear hK K) | refine qd ?_)
    all_goals
      first
      | exact hbad (by unfold offR; simp; omega)
      | exact ⟨k + 1, ⟨by omega, qcu (C := fun r => offR types r = false) he fun _ => by unfold offR; simp; omega⟩, by omega, by simp; omega⟩
  have hall : ∀ r ∈ L, offR types r = false := fun r hr => by
    obtain ⟨j, hj, rfl⟩ := List.mem_iff_getElem.1 hr
    exact he j hj (by omega)
  have hin : ∀ r ∈ L, 0 ≤ r ∧ r < types.length := fun r hr => by
    have := hall r hr
    unfold offR at this
    simp at this; omega
  rw [if_neg (by rw [Bool.not_eq_true, ← hL, List.any_eq_false]; intro r hr; have := hall r hr; unfold offR at this; rw [this]; simp)] at hR
  have hx0 := hin x.tgt (by rw [hL]; simp)
  have hxs : ∀ r ∈ opsP x, 0 ≤ r ∧ r < types.length := fun r hr => hin r (by rw [hL]; simp [hr])
  have hdn : d < n0 + 4 := by omega
  have hex : ∀ r : Int, (AV.agg [.int 4, .int r, .str ByteArray.empty, .sl []]) = (qba r).av := fun r => by unfold qba; rw [Ex.av_mk]; rfl
  cases hany : (opsP x).any fun r => !done.getD r.toNat false
  · rw [hany] at c2 hR
    repeat' (first | ((first | ((with_reducible refine qo (fun hg => ?_) (fun hg => ?_)) <;> (try simp only [hg]) <;> (try simp only [gS] at hg) <;> (try (first | simp only [eq_false hg, gI] | simp only [eq_true hg, gI]))) | (with_reducible first | refine qc ?_ | refine qb ?_ | refine qi ?_ | refine qh ?_) | refine acall (c2 _ hxs (by simp) (hloc _)) ?_ | refine qp (c2 _ hxs (by simp) (hloc _)) ?_ | refine qbv (c2 _ hxs (by simp) (hloc _)) ?_ | refine qe ?_ | refine qj ?_ | refine qk ?_ | refine qm ?_) <;> (try simp (disch := first | omega | simp) [qg, -qq, -qs, hrn, hlt, hdn])) | ((with_reducible refine sideT ?_ ?_); first | omega | assumption | (simp; done)) | (refine qf fun K hK => ?_) | (refine qa ?_) | refine ql ?_ | ((first | refine hK _ ?_ | (clear hK K; refine hK _ ?_) | (clear hK K; clear hK K; refine hK _ ?_)); clear hK K) | refine qd ?_)
    any_goals (rw [hR, if_pos (by omega)]; done)
    all_goals
      have hncol : ¬ (x.op = 3 ∧ (x.n < 0 ∨ (cols.length : Int) ≤ x.n)) := by omega
      rw [if_neg hncol, if_neg (by simp)] at hR
      refine qw 4 3 36 4 (by rfl) (by rfl) ?_
      refine qr hcl (fun k : Nat => [(1, .sl (cols.map AV.int)), (2, .sl (types.map AV.int)), (4, .ptr n0 0), (12, .ptr (n0 + 4) 0), (66, .sl ((opsP x).map AV.int)), (67, .int (opsP x).length), (68, .int k)])
        (fun k => [.cells [.int x.op, .int x.tgt, .int x.a, .int x.b, .int x.c, .int x.n, .str x.s] 32, .cells [.own d done.length] 30, .dead, .tail (1 + (opsP x).length) 3 1,
          .cells [.int x.op, .int x.n, .str x.s, .gs (n0 + 5) (((opsP x).take k).map fun r => (qba r).av)] 36, .tail k 36 4])
        (fun k => k ≤ (opsP x).length) (fun k => (opsP x).length - k) 0 (by simp) (by simp; omega) fun k hk2 => ?_
      by_cases hlt2 : k < (opsP x).length
      · have htk : ((opsP x).map fun r => (qba r).av).take (k + 1) = ((opsP x).map fun r => (qba r).av).take k ++ [(qba (opsP x)[k]).av] := by
          rw [List.take_succ_eq_append_getElem (by simpa using hlt2), List.getElem_map]
        have hsz2 : (k + 1) * 56 ≤ 140737488355328 := by omega
        repeat' (first | ((first | ((with_reducible refine qo (fun hg => ?_) (fun hg => ?_)) <;> (try simp only [hg]) <;> (try simp only [gS] at hg) <;> (try (first | simp only [eq_false hg, gI] | simp only [eq_true hg, gI]))) | (with_reducible first | refine qc ?_ | refine qb ?_ | refine qi ?_ | refine qh ?_) | refine qe ?_ | refine qj ?_ | refine qk ?_ | refine qm ?_) <;> (try simp (disch := first | omega | simp) [qg, -qq, -qs, hlt2, hex, hsz2, hdn])) | ((with_reducible refine sideT ?_ ?_); first | omega | assumption | (simp; done)) | (refine qf fun K hK => ?_) | (refine qa ?_) | refine ql ?_ | ((first | refine hK _ ?_ | (clear hK K; refine hK _ ?_) | (clear hK K; clear hK K; refine hK _ ?_)); clear hK K) | refine qd ?_)
        exact ⟨k + 1, by omega, by omega, ⟨htk.symm, rfl⟩, by omega, by omega⟩
      · obtain rfl : k = (opsP x).length := by omega
        cases hT : tyI cols types x
        · rw [hT] at c3 hR
          repeat' (first | ((first | ((with_reducible refine qo (fun hg => ?_) (fun hg => ?_)) <;> (try simp only [hg]) <;> (try simp only [gS] at hg) <;> (try (first | simp only [eq_false hg, gI] | simp only [eq_true hg, gI]))) | (with_reducible first | refine qc ?_ | refine qb ?_ | refine qi ?_ | refine qh ?_) | refine acall (c3) ?_ | refine qp (c3) ?_ | refine qbv (c3) ?_ | refine qe ?_ | refine qj ?_ | refine qk ?_ | refine qm ?_) <;> (try simp (disch := first | omega | simp) [qg, -qq, -qs, hlt2, hdn])) | ((with_reducible refine sideT ?_ ?_); first | omega | assumption | (simp; done)) | (refine qf fun K hK => ?_) | (refine qa ?_) | refine ql ?_ | ((first | refine hK _ ?_ | (clear hK K; refine hK _ ?_) | (clear hK K; clear hK K; refine hK _ ?_)); clear hK K) | refine qd ?_)
          rw [hR]; simp
        · rename_i t
          have hgt : types.getD x.tgt.toNat 0 = types[x.tgt.toNat]'(by omega) := by rw [List.getD_eq_getElem?_getD, List.getElem?_eq_getElem (by omega)]; rfl
          rw [hT, hgt] at hR
          rw [hT] at c3
          repeat' (first | ((first | ((with_reducible refine qo (fun hg => ?_) (fun hg => ?_)) <;> (try simp only [hg]) <;> (try simp only [gS] at hg) <;> (try (first | simp only [eq_false hg, gI] | simp only [eq_true hg, gI]))) | (with_reducible first | refine qc ?_ | refine qb ?_ | refine qi ?_ | refine qh ?_) | refine acall (c3) ?_ | refine qp (c3) ?_ | refine qbv (c3) ?_ | refine qe ?_ | refine qj ?_ | refine qk ?_ | refine qm ?_) <;> (try simp (disch := first | omega | simp) [qg, -qq, -qs, hlt2, hdn])) | ((with_reducible refine sideT ?_ ?_); first | omega | assumption | (simp; done)) | (refine qf fun K hK => ?_) | (refine qa ?_) | refine ql ?_ | ((first | refine hK _ ?_ | (clear hK K; refine hK _ ?_) | (clear hK K; clear hK K; refine hK _ ?_)); clear hK K) | refine qd ?_)
          all_goals (rw [hR]; simp_all)
  · rw [hany] at c2 hR
    repeat' (first | ((first | ((with_reducible refine qo (fun hg => ?_) (fun hg => ?_)) <;> (try simp only [hg]) <;> (try simp only [gS] at hg) <;> (try (first | simp only [eq_false hg, gI] | simp only [eq_true hg, gI]))) | (with_reducible first | refine qc ?_ | refine qb ?_ | refine qi ?_ | refine qh ?_) | refine acall (c2 _ hxs (by simp) (hloc _)) ?_ | refine qp (c2 _ hxs (by simp) (hloc _)) ?_ | refine qbv (c2 _ hxs (by simp) (hloc _)) ?_ | refine qe ?_ | refine qj ?_ | refine qk ?_ | refine qm ?_) <;> (try simp (disch := first | omega | simp) [qg, -qq, -qs, hrn, hlt, hdn])) | ((with_reducible refine sideT ?_ ?_); first | omega | assumption | (simp; done)) | (refine qf fun K hK => ?_) | (refine qa ?_) | refine ql ?_ | ((first | refine hK _ ?_ | (clear hK K; refine hK _ ?_) | (clear hK K; clear hK K; refine hK _ ?_)); clear hK K) | refine qd ?_)
    all_goals first | (rw [hR, if_pos (by omega)]; done) | (rw [hR, if_neg (by omega), if_pos rfl]; done)
end Go.Proofs.YtgpcpmfdklpifaaGreatDoor

/- api.Code as an abstract value. -/
namespace Go.Proofs.YtgpcpmfdklpifaaGreatDoor
open Go.RowKit Go.Lib
def Cod.av (x : Cod) : AV := .agg [.sl (x.ins.map Ins.av), .sl (x.types.map AV.int), .int x.out]
@[simp] theorem Cod.av_nt (x : Cod) : x.av.nt = true := rfl
@[simp] theorem Cod.av_sure (x : Cod) : x.av.sure = true := rfl
@[simp] theorem Cod.av_elem (x : Cod) : x.av.elem = true := rfl
@[simp] theorem Cod.av_width (x : Cod) : x.av.width = 3 := rfl
@[simp] theorem Cod.av_pub (x : Cod) : x.av.pub = x.av := by unfold Cod.av; rw [AV.pub]; simp only [AV.pubs_cons, AV.pubs_nil, AV.pub_v, pubV, AV.pub_sl]
@[simp] theorem Cod.av_cells (x : Cod) : x.av.cells = [.sl (x.ins.map Ins.av), .sl (x.types.map AV.int), .int x.out] := rfl
@[simp] theorem Cod.av_fold (x : Cod) : AV.agg [.sl (x.ins.map Ins.av), .sl (x.types.map AV.int), .int x.out] = x.av := rfl
@[simp] theorem Cod.av_val? (x : Cod) : x.av.val? = none := rfl
@[simp] theorem Cod.rd_all (x : Cod) (σ : Nat → AB) : rdAt σ true 3 (.ep x.av 0) = some x.av := rfl
@[simp] theorem Cod.rd_0 (x : Cod) (σ : Nat → AB) (n : Nat) : rdAt σ false n (.ep x.av 0) = some (.sl (x.ins.map Ins.av)) := rfl
@[simp] theorem Cod.rd_1 (x : Cod) (σ : Nat → AB) (n : Nat) : rdAt σ false n (.ep x.av 1) = some (.sl (x.types.map AV.int)) := rfl
@[simp] theorem Cod.rd_2 (x : Cod) (σ : Nat → AB) (n : Nat) : rdAt σ false n (.ep x.av 2) = some (.int x.out) := rfl
@[simp] theorem Cod.av_cl (x : Cod) (m : Nat) : x.av.cl m := by unfold Cod.av; simp [-Cod.av_fold]
@[simp] theorem Cod.avs_cl (l : List Cod) (m : Nat) : AV.cls m (l.map Cod.av) := AV.cls_map (fun f => f.av_cl m) l
@[simp] theorem Cod.avs_wid (l : List Cod) : AV.wid (l.map Cod.av) 3 := AV.wid_map (f := Cod.av) (fun a => a.av_width) l
@[simp] theorem Cod.avs_elms (l : List Cod) : AV.elms (l.map Cod.av) := AV.elms_map (f := Cod.av) (fun a => a.av_elem) l
theorem Cod.d_av (x : Cod) : x.d.av = x.av := by
  simp only [Cod.d, Cod.av, D.av, D.cs, D.avs_map, List.map_map, List.nil_append, List.cons_append, List.append_nil]
  rw [show D.av ∘ Ins.d = Ins.av from funext Ins.d_av]
  try rfl
theorem Cod.ds_av (l : List Cod) : (D.sl (l.map Cod.d)).av = .sl (l.map Cod.av) := by
  rw [D.av, D.avs_map, List.map_map]
  first
  | rfl
  | (congr 1; exact List.map_congr_left fun x _ => x.d_av)
theorem Cod.flat {w : World} {x : Cod} {cs : List Value} (h : Rd w Any x.d cs) : RR1 (St.flat w) x.av (.agg cs.toArray) := by
  have := qdg h
  rw [Cod.d_av, Cod.av, RC] at this
  exact ⟨cs, rfl, this⟩
theorem Cod.flats {w : World} {l : List Cod} {v : Value} (h : Rd w Any (.sl (l.map Cod.d)) [v]) : RR1 (St.flat w) (.sl (l.map Cod.av)) v := by
  have := qdg h
  rw [Cod.ds_av] at this
  exact this
end Go.Proofs.YtgpcpmfdklpifaaGreatDoor

/- Walk of layer 25: Verify. -/
namespace Go.Proofs.YtgpcpmfdklpifaaGreatDoor
open Go.RowKit Go.Lib
theorem vkind_g (t : Int) : Gives Tryz.prog 42 [.int t] (.bool (decide (t < 0) || decide (3 ≤ t))) := by
  refine qn Tryz.func42 Tryz.ntmps42 rfl rfl (by decide) rfl (by intro n; simp) fun σ n0 hcl hft => ?_
  repeat' (first | ((first | ((with_reducible refine qo (fun hg => ?_) (fun hg => ?_)) <;> (try simp only [hg]) <;> (try simp only [gS] at hg) <;> (try (first | simp only [eq_false hg, gI] | simp only [eq_true hg, gI]))) | (with_reducible first | refine qc ?_ | refine qb ?_ | refine qi ?_ | refine qh ?_) | refine qe ?_ | refine qj ?_ | refine qk ?_ | refine qm ?_) <;> (try simp (disch := first | omega | simp) [qg, -qq, -qs])) | ((with_reducible refine sideT ?_ ?_); first | omega | assumption | (simp; done)) | (refine qf fun K hK => ?_) | (refine qa ?_) | refine ql ?_ | ((first | refine hK _ ?_ | (clear hK K; refine hK _ ?_) | (clear hK K; clear hK K; refine hK _ ?_)); clear hK K) | refine qd ?_)
  all_goals simp_all
  all_goals omega
set_option maxHeartbeats 4000000 in
theorem qds (c : Cod) (cols : List Int) (hc : cols.length ≤ 1000000) : Gives Tryz.prog 15 [c.av, .sl (cols.map AV.int)] (.tup [.int (verP c cols).1, .int (verP c cols).2]) := by
  obtain ⟨R, hR⟩ : ∃ R, R = verP c cols := ⟨_, rfl⟩
  rw [← hR]
  unfold verP at hR
  obtain ⟨ins, types, out⟩ := c
  simp only at hR
  by_cases h1 : 1000 < ins.length ∨ 1000 < types.length
  · rw [if_pos h1] at hR
    refine qn Tryz.func15 Tryz.ntmps15 rfl rfl (by decide) rfl (by intro n; simp) fun σ n0 hcl hft => ?_
    repeat' (first | ((first | ((with_reducible refine qo (fun hg => ?_) (fun hg => ?_)) <;> (try simp only [hg]) <;> (try simp only [gS] at hg) <;> (try (first | simp only [eq_false hg, gI] | simp only [eq_true hg, gI]))) | (with_reducible first | refine qc ?_ | refine qb ?_ | refine qi ?_ | refine qh ?_) | refine qe ?_ | refine qj ?_ | refine qk ?_ | refine qm ?_) <;> (try simp (disch := first | omega | simp) [qg, -qq, -qs])) | ((with_reducible refine sideT ?_ ?_); first | omega | assumption | (simp; done)) | (refine qf fun K hK => ?_) | (refine qa ?_) | refine ql ?_ | ((first | refine hK _ ?_ | (clear hK K; refine hK _ ?_) | (clear hK K; clear hK K; refine hK _ ?_)); clear hK K) | refine qd ?_)
    all_goals (rw [hR]; first | (simp; done) | omega)
  rw [if_neg h1] at hR
  have h1a : ¬ (1000 : Int) < ins.length := by omega
  have h1b : ¬ (1000 : Int) < types.length := by omega
  have c1 := contI_n types (fun t => decide (t < 0) || decide (3 ≤ t)) 42 (by kernel_rfl) (fun t _ => vkind_g t) (by omega)
  cases hk : types.any (fun t => decide (t < 0) || decide (3 ≤ t))
  · rw [hk] at c1 hR
    rw [if_neg (by simp)] at hR
    obtain ⟨V, hV⟩ : ∃ V, V = verL cols types ins 0 (List.replicate types.length false) := ⟨_, rfl⟩
    rw [← hV] at hR
    try dsimp only at hR
    have hsz : 1 * types.length ≤ 281474976710656 := by omega
    refine qn Tryz.func15 Tryz.ntmps15 rfl rfl (by decide) rfl (by intro n; simp) fun σ n0 hcl hft => ?_
    repeat' (first | ((first | ((with_reducible refine qo (fun hg => ?_) (fun hg => ?_)) <;> (try simp only [hg]) <;> (try simp only [gS] at hg) <;> (try (first | simp only [eq_false hg, gI] | simp only [eq_true hg, gI]))) | (with_reducible first | refine qc ?_ | refine qb ?_ | refine qi ?_ | refine qh ?_) | refine acall (c1) ?_ | refine qp (c1) ?_ | refine qe ?_ | refine qj ?_ | refine qk ?_ | refine qm ?_) <;> (try simp (disch := first | omega | simp) [qg, -qq, -qs, h1a, h1b, hsz])) | ((with_reducible refine sideT ?_ ?_); first | omega | assumption | (simp; done)) | (refine qf fun K hK => ?_) | (refine qa ?_) | refine ql ?_ | ((first | refine hK _ ?_ | (clear hK K; refine hK _ ?_) | (clear hK K; clear hK K; refine hK _ ?_)); clear hK K) | refine qd ?_)
    refine qr hcl (fun b : Nat × List Bool => [(1, .sl (cols.map AV.int)), (2, .ptr n0 0), (6, .own (n0 + 1) types.length), (28, .sl (ins.map Ins.av)), (29, .int ins.length), (30, .int b.1)])
      (fun b => [.cells [.sl (ins.map Ins.av), .sl (types.map AV.int), .int out] 25, .vec (b.2.map AV.bool) 4 1])
      (fun b => b.1 ≤ ins.length ∧ b.2.length = types.length ∧ V = verL cols types (ins.drop b.1) b.1 b.2) (fun b => ins.length - b.1) (0, List.replicate types.length false) ⟨by omega, by simp, hV⟩ (by simp) fun ⟨k, D⟩ ⟨hk1, hD, hVk⟩ => ?_
    simp only at hk1 hD hVk
    by_cases hlt : k < ins.length
    · have hdr : ins.drop k = ins[k] :: ins.drop (k + 1) := List.drop_eq_getElem_cons hlt
      rw [hdr, verL] at hVk
      have c2 : ∀ τ : Nat → AB, τ (n0 + 1) = .vec (D.map AV.bool) 4 1 → qbu Tryz.prog 43 [ins[k].av, .sl (cols.map AV.int), .sl (types.map AV.int), .own (n0 + 1) types.length] τ (.int (verI cols types D ins[k])) := fun τ h => by
        have := ver_g ins[k] cols types D hD (by omega) hc τ (n0 + 1) h
        rwa [hD] at this
      by_cases hv : verI cols types D ins[k] = 0
      · rw [if_pos hv] at hVk
        rw [hv] at c2
        have hok := verI_ok hv
        have t0 := hok.to0
        have t1 : ins[k].tgt < D.length := by rw [hD]; exact hok.to1
        repeat' (first | ((first | ((with_reducible refine qo (fun hg => ?_) (fun hg => ?_)) <;> (try simp only [hg]) <;> (try simp only [gS] at hg) <;> (try (first | simp only [eq_false hg, gI] | simp only [eq_true hg, gI]))) | (with_reducible first | refine qc ?_ | refine qb ?_ | refine qi ?_ | refine qh ?_) | refine acall (c2 _ (by simp)) ?_ | refine qp (c2 _ (by simp)) ?_ | refine qbv (c2 _ (by simp)) ?_ | refine qe ?_ | refine qj ?_ | refine qk ?_ | refine qm ?_) <;> (try simp (disch := first | omega | simp) [qg, -qq, -qs, hlt, hD, t0, t1])) | ((with_reducible refine sideT ?_ ?_); first | omega | assumption | (simp; done)) | (refine qf fun K hK => ?_) | (refine qa ?_) | refine ql ?_ | ((first | refine hK _ ?_ | (clear hK K; refine hK _ ?_) | (clear hK K; clear hK K; refine hK _ ?_)); clear hK K) | refine qd ?_)
        exact ⟨k + 1, D.set ins[k].tgt.toNat true, ⟨by omega, by rw [List.length_set]; exact hD, hVk⟩, by omega, by rw [List.map_set], by omega⟩
      · rw [if_neg hv] at hVk
        repeat' (first | ((first | ((with_reducible refine qo (fun hg => ?_) (fun hg => ?_)) <;> (try simp only [hg]) <;> (try simp only [gS] at hg) <;> (try (first | simp only [eq_false hg, gI] | simp only [eq_true hg, gI]))) | (with_reducible first | refine qc ?_ | refine qb ?_ | refine qi ?_ | refine qh ?_) | refine acall (c2 _ (by simp)) ?_ | refine qp (c2 _ (by simp)) ?_ | refine qbv (c2 _ (by simp)) ?_ | refine qe ?_ | refine qj ?_ | refine qk ?_ | refine qm ?_) <;> (try simp (disch := first | omega | simp) [qg, -qq, -qs, hlt, hD, hv])) | ((with_reducible refine sideT ?_ ?_); first | omega | assumption | (simp; done)) | (refine qf fun K hK => ?_) | (refine qa ?_) | refine ql ?_ | ((first | refine hK _ ?_ | (clear hK K; refine hK _ ?_) | (clear hK K; clear hK K; refine hK _ ?_)); clear hK K) | refine qd ?_)
        all_goals
          first
          | exact absurd (by assumption) hv
          | (rw [hR, hVk]; dsimp only; rw [if_pos hv]; exact ⟨rfl, rfl⟩)
    · have hVe : V = ((-1, 0), D) := by rw [hVk, List.drop_eq_nil_of_le (by omega)]; rfl
      rw [hVe] at hR
      dsimp only at hR
      rw [if_neg (by simp)] at hR
      have hD' : types.length = D.length := hD.symm
      by_cases ho : out < 0 ∨ (types.length : Int) ≤ out
      · rw [if_pos ho] at hR
        repeat' (first | ((first | ((with_reducible refine qo (fun hg => ?_) (fun hg => ?_)) <;> (try simp only [hg]) <;> (try simp only [gS] at hg) <;> (try (first | simp only [eq_false hg, gI] | simp only [eq_true hg, gI]))) | (with_reducible first | refine qc ?_ | refine qb ?_ | refine qi ?_ | refine qh ?_) | refine qe ?_ | refine qj ?_ | refine qk ?_ | refine qm ?_) <;> (try simp (disch := first | omega | simp) [qg, -qq, -qs, hlt, hD'])) | ((with_reducible refine sideT ?_ ?_); first | omega | assumption | (simp; done)) | (refine qf fun K hK => ?_) | (refine qa ?_) | refine ql ?_ | ((first | refine hK _ ?_ | (clear hK K; refine hK _ ?_) | (clear hK K; clear hK K; refine hK _ ?_)); clear hK K) | refine qd ?_)
        all_goals
          first
          | (rw [hR]; exact ⟨rfl, rfl⟩)
          | (exfalso; omega)
      · rw [if_neg ho] at hR
        have o0 : ¬ out < 0 := by omega
        have o0' : 0 ≤ out := by omega
        have o1 : ¬ (types.length : Int) ≤ out := by omega
        have o2 : out < types.length := by omega
        have o3 : out < D.length := by omega
        have hgd : D.getD out.toNat false = D[out.toNat]'(by omega) := by rw [List.getD_eq_getElem?_getD, List.getElem?_eq_getElem (by omega)]; rfl
        rw [hgd] at hR
        generalize hB : D[out.toNat]'(by omega) = B at hR
        cases B
        · repeat' (first | ((first | ((with_reducible refine qo (fun hg => ?_) (fun hg => ?_)) <;> (try simp only [hg]) <;> (try simp only [gS] at hg) <;> (try (first | simp only [eq_false hg, gI] | simp only [eq_true hg, gI]))) | (with_reducible first | refine qc ?_ | refine qb ?_ | refine qi ?_ | refine qh ?_) | refine qe ?_ | refine qj ?_ | refine qk ?_ | refine qm ?_) <;> (try simp (disch := first | omega | simp) [qg, -qq, -qs, hlt, hD, o0, o0', o1, o2, o3, hB])) | ((with_reducible refine sideT ?_ ?_); first | omega | assumption | (simp; done)) | (refine qf fun K hK => ?_) | (refine qa ?_) | refine ql ?_ | ((first | refine hK _ ?_ | (clear hK K; refine hK _ ?_) | (clear hK K; clear hK K; refine hK _ ?_)); clear hK K) | refine qd ?_)
          rw [hR]; simp
        · repeat' (first | ((first | ((with_reducible refine qo (fun hg => ?_) (fun hg => ?_)) <;> (try simp only [hg]) <;> (try simp only [gS] at hg) <;> (try (first | simp only [eq_false hg, gI] | simp only [eq_true hg, gI]))) | (with_reducible first | refine qc ?_ | refine qb ?_ | refine qi ?_ | refine qh ?_) | refine qe ?_ | refine qj ?_ | refine qk ?_ | refine qm ?_) <;> (try simp (disch := first | omega | simp) [qg, -qq, -qs, hlt, hD, o0, o0', o1, o2, o3, hB])) | ((with_reducible refine sideT ?_ ?_); first | omega | assumption | (simp; done)) | (refine qf fun K hK => ?_) | (refine qa ?_) | refine ql ?_ | ((first | refine hK _ ?_ | (clear hK K; refine hK _ ?_) | (clear hK K; clear hK K; refine hK _ ?_)); clear hK K) | refine qd ?_)
          rw [hR]; simp
  · rw [hk] at c1 hR
    rw [if_pos rfl] at hR
    refine qn Tryz.func15 Tryz.ntmps15 rfl rfl (by decide) rfl (by intro n; simp) fun σ n0 hcl hft => ?_
    repeat' (first | ((first | ((with_reducible refine qo (fun hg => ?_) (fun hg => ?_)) <;> (try simp only [hg]) <;> (try simp only [gS] at hg) <;> (try (first | simp only [eq_false hg, gI] | simp only [eq_true hg, gI]))) | (with_reducible first | refine qc ?_ | refine qb ?_ | refine qi ?_ | refine qh ?_) | refine acall (c1) ?_ | refine qp (c1) ?_ | refine qe ?_ | refine qj ?_ | refine qk ?_ | refine qm ?_) <;> (try simp (disch := first | omega | simp) [qg, -qq, -qs, h1a, h1b])) | ((with_reducible refine sideT ?_ ?_); first | omega | assumption | (simp; done)) | (refine qf fun K hK => ?_) | (refine qa ?_) | refine ql ?_ | ((first | refine hK _ ?_ | (clear hK K; refine hK _ ?_) | (clear hK K; clear hK K; refine hK _ ?_)); clear hK K) | refine qd ?_)
    all_goals (rw [hR]; first | (simp; done) | omega)
end Go.Proofs.YtgpcpmfdklpifaaGreatDoor

/- Walks of chapter 3: right values and rows; of the reference, too. -/
namespace Go.Proofs.YtgpcpmfdklpifaaGreatDoor
open Go.RowKit Go.Lib
def qcx (v : Val) : Bool :=
  if v.k = 0 then Val.eqB v ⟨0, v.n, ⟨#[]⟩⟩
  else if v.k = 1 then Val.eqB v ⟨1, 0, v.s⟩ && decide (v.s.size ≤ 200)
  else Val.eqB v ⟨2, 0, ⟨#[]⟩⟩ || Val.eqB v ⟨2, 1, ⟨#[]⟩⟩
def rowOk (r : List Val) : Bool := decide (r.length ≤ 12) && r.all qcx
theorem rightV_eq (v : Val) : qcx v = if v.k = 0 then decide (v.s.toList = []) else if v.k = 1 then decide (v.n = 0) && decide (v.s.size ≤ 200) else decide (v.k = 2) && (decide (v.n = 0) || decide (v.n = 1)) && decide (v.s.toList = []) := by
  obtain ⟨k, n, s⟩ := v
  have e : (⟨#[]⟩ : ByteArray).toList = [] := by rw [ByteArray.toList_eq]
  unfold qcx
  dsimp only
  by_cases h0 : k = 0
  · subst h0
    rw [if_pos rfl, if_pos rfl]
    rw [Bool.eq_iff_iff]
    simp [Val.eqB, e]
  · rw [if_neg h0, if_neg h0]
    by_cases h1 : k = 1
    · subst h1
      rw [if_pos rfl, if_pos rfl]
      rw [Bool.eq_iff_iff]
      simp [Val.eqB]
    · rw [if_neg h1, if_neg h1]
      rw [Bool.eq_iff_iff]
      simp only [Val.eqB, e, Bool.or_eq_true, Bool.and_eq_true, beq_iff_eq, decide_eq_true_eq]
      constructor
      · rintro (⟨a, b, c⟩ | ⟨a, b, c⟩)
        · exact ⟨⟨a, .inl b⟩, c⟩
        · exact ⟨⟨a, .inr b⟩, c⟩
      · rintro ⟨⟨a, b | b⟩, c⟩
        · exact .inl ⟨a, b, c⟩
        · exact .inr ⟨a, b, c⟩
theorem vint_g (n : Int) : Gives Tryz.prog 36 [.int n] (Val.av ⟨0, n, ⟨#[]⟩⟩) := by
  refine qn Tryz.func36 Tryz.ntmps36 rfl rfl (by decide) rfl (by intro n; simp) fun σ n0 hcl hft => ?_
  repeat' (first | ((first | ((with_reducible refine qo (fun hg => ?_) (fun hg => ?_)) <;> (try simp only [hg]) <;> (try simp only [gS] at hg) <;> (try (first | simp only [eq_false hg, gI] | simp only [eq_true hg, gI]))) | (with_reducible first | refine qc ?_ | refine qb ?_ | refine qi ?_ | refine qh ?_) | refine qe ?_ | refine qj ?_ | refine qk ?_ | refine qm ?_) <;> (try simp (disch := first | omega | simp) [qg, -qq, -qs])) | ((with_reducible refine sideT ?_ ?_); first | omega | assumption | (simp; done)) | (refine qf fun K hK => ?_) | (refine qa ?_) | refine ql ?_ | ((first | refine hK _ ?_ | (clear hK K; refine hK _ ?_) | (clear hK K; clear hK K; refine hK _ ?_)); clear hK K) | refine qd ?_)
  rfl
theorem vtext_g (s : ByteArray) : Gives Tryz.prog 37 [.str s] (Val.av ⟨1, 0, s⟩) := by
  refine qn Tryz.func37 Tryz.ntmps37 rfl rfl (by decide) rfl (by intro n; simp) fun σ n0 hcl hft => ?_
  repeat' (first | ((first | ((with_reducible refine qo (fun hg => ?_) (fun hg => ?_)) <;> (try simp only [hg]) <;> (try simp only [gS] at hg) <;> (try (first | simp only [eq_false hg, gI] | simp only [eq_true hg, gI]))) | (with_reducible first | refine qc ?_ | refine qb ?_ | refine qi ?_ | refine qh ?_) | refine qe ?_ | refine qj ?_ | refine qk ?_ | refine qm ?_) <;> (try simp (disch := first | omega | simp) [qg, -qq, -qs])) | ((with_reducible refine sideT ?_ ?_); first | omega | assumption | (simp; done)) | (refine qf fun K hK => ?_) | (refine qa ?_) | refine ql ?_ | ((first | refine hK _ ?_ | (clear hK K; refine hK _ ?_) | (clear hK K; clear hK K; refine hK _ ?_)); clear hK K) | refine qd ?_)
  rfl
theorem vfalse_g : Gives Tryz.prog 38 [.bool false] (Val.av ⟨2, 0, ⟨#[]⟩⟩) := by
  refine qn Tryz.func38 Tryz.ntmps38 rfl rfl (by decide) rfl (by intro n; simp) fun σ n0 hcl hft => ?_
  repeat' (first | ((first | ((with_reducible refine qo (fun hg => ?_) (fun hg => ?_)) <;> (try simp only [hg]) <;> (try simp only [gS] at hg) <;> (try (first | simp only [eq_false hg, gI] | simp only [eq_true hg, gI]))) | (with_reducible first | refine qc ?_ | refine qb ?_ | refine qi ?_ | refine qh ?_) | refine qe ?_ | refine qj ?_ | refine qk ?_ | refine qm ?_) <;> (try simp (disch := first | omega | simp) [qg, -qq, -qs])) | ((with_reducible refine sideT ?_ ?_); first | omega | assumption | (simp; done)) | (refine qf fun K hK => ?_) | (refine qa ?_) | refine ql ?_ | ((first | refine hK _ ?_ | (clear hK K; refine hK _ ?_) | (clear hK K; clear hK K; refine hK _ ?_)); clear hK K) | refine qd ?_)
  rfl
theorem vtrue_g : Gives Tryz.prog 38 [.bool true] (Val.av ⟨2, 1, ⟨#[]⟩⟩) := by
  refine qn Tryz.func38 Tryz.ntmps38 rfl rfl (by decide) rfl (by intro n; simp) fun σ n0 hcl hft => ?_
  repeat' (first | ((first | ((with_reducible refine qo (fun hg => ?_) (fun hg => ?_)) <;> (try simp only [hg]) <;> (try simp only [gS] at hg) <;> (try (first | simp only [eq_false hg, gI] | simp only [eq_true hg, gI]))) | (with_reducible first | refine qc ?_ | refine qb ?_ | refine qi ?_ | refine qh ?_) | refine qe ?_ | refine qj ?_ | refine qk ?_ | refine qm ?_) <;> (try simp (disch := first | omega | simp) [qg, -qq, -qs])) | ((with_reducible refine sideT ?_ ?_); first | omega | assumption | (simp; done)) | (refine qf fun K hK => ?_) | (refine qa ?_) | refine ql ?_ | ((first | refine hK _ ?_ | (clear hK K; refine hK _ ?_) | (clear hK K; clear hK K; refine hK _ ?_)); clear hK K) | refine qd ?_)
  rfl
theorem vright_g (v : Val) : Gives Tryz.prog 12 [v.av] (.bool (qcx v)) := by
  refine qn Tryz.func12 Tryz.ntmps12 rfl rfl (by decide) rfl (by intro n; simp) fun σ n0 hcl hft => ?_
  repeat' (first | ((first | ((with_reducible refine qo (fun hg => ?_) (fun hg => ?_)) <;> (try simp only [hg]) <;> (try simp only [gS] at hg) <;> (try (first | simp only [eq_false hg, gI] | simp only [eq_true hg, gI]))) | (with_reducible first | refine qc ?_ | refine qb ?_ | refine qi ?_ | refine qh ?_) | refine acall (vint_g _) ?_ | refine qp (vint_g _) ?_ | refine acall (vtext_g _) ?_ | refine qp (vtext_g _) ?_ | refine acall (vfalse_g) ?_ | refine qp (vfalse_g) ?_ | refine acall (vtrue_g) ?_ | refine qp (vtrue_g) ?_ | refine qe ?_ | refine qj ?_ | refine qk ?_ | refine qm ?_) <;> (try simp (disch := first | omega | simp) [qg, -qq, -qs])) | ((with_reducible refine sideT ?_ ?_); first | omega | assumption | (simp; done)) | (refine qf fun K hK => ?_) | (refine qa ?_) | refine ql ?_ | ((first | refine hK _ ?_ | (clear hK K; refine hK _ ?_) | (clear hK K; clear hK K; refine hK _ ?_)); clear hK K) | refine qd ?_)
  all_goals simp_all [qcx] <;> omega
theorem rvright_g (v : Val) : Gives Tryz.prog 73 [v.av] (.bool (qcx v)) := by
  have hR := rightV_eq v
  obtain ⟨R, hR2⟩ : ∃ R, R = qcx v := ⟨_, rfl⟩
  rw [← hR2] at hR ⊢
  clear hR2
  refine qn Tryz.func73 Tryz.ntmps73 rfl rfl (by decide) rfl (by intro n; simp) fun σ n0 hcl hft => ?_
  repeat' (first | ((first | ((with_reducible refine qo (fun hg => ?_) (fun hg => ?_)) <;> (try simp only [hg]) <;> (try simp only [gS] at hg) <;> (try (first | simp only [eq_false hg, gI] | simp only [eq_true hg, gI]))) | (with_reducible first | refine qc ?_ | refine qb ?_ | refine qi ?_ | refine qh ?_) | refine qe ?_ | refine qj ?_ | refine qk ?_ | refine qm ?_) <;> (try simp (disch := first | omega | simp) [qg, -qq, -qs])) | ((with_reducible refine sideT ?_ ?_); first | omega | assumption | (simp; done)) | (refine qf fun K hK => ?_) | (refine qa ?_) | refine ql ?_ | ((first | refine hK _ ?_ | (clear hK K; refine hK _ ?_) | (clear hK K; clear hK K; refine hK _ ?_)); clear hK K) | refine qd ?_)
  all_goals (rw [hR, Bool.eq_iff_iff]; simp_all)
  all_goals first | omega | skip
theorem rall_g (L : List Val) (hL : L.length ≤ 1000000) : Gives Tryz.prog 55 [.sl (L.map Val.av)] (.bool (L.all qcx)) := by
  obtain ⟨R, hR⟩ : ∃ R, R = L.all qcx := ⟨_, rfl⟩
  rw [← hR]
  refine qn Tryz.func55 Tryz.ntmps55 rfl rfl (by decide) rfl (by intro n; simp) fun σ n0 hcl hft => ?_
  repeat' (first | ((first | ((with_reducible refine qo (fun hg => ?_) (fun hg => ?_)) <;> (try simp only [hg]) <;> (try simp only [gS] at hg) <;> (try (first | simp only [eq_false hg, gI] | simp only [eq_true hg, gI]))) | (with_reducible first | refine qc ?_ | refine qb ?_ | refine qi ?_ | refine qh ?_) | refine qe ?_ | refine qj ?_ | refine qk ?_ | refine qm ?_) <;> (try simp (disch := first | omega | simp) [qg, -qq, -qs])) | ((with_reducible refine sideT ?_ ?_); first | omega | assumption | (simp; done)) | (refine qf fun K hK => ?_) | (refine qa ?_) | refine ql ?_ | ((first | refine hK _ ?_ | (clear hK K; refine hK _ ?_) | (clear hK K; clear hK K; refine hK _ ?_)); clear hK K) | refine qd ?_)
  refine qr hcl (fun k : Nat => [(0, .sl (L.map Val.av)), (3, .int k)]) (fun _ => [])
    (fun k => k ≤ L.length ∧ ∀ j (h : j < L.length), j < k → qcx L[j] = true) (fun k => L.length - k) 0 (by simp) (by simp) fun k ⟨hk, he⟩ => ?_
  by_cases hlt : k < L.length
  · have c1 := rvright_g L[k]
    cases hr : qcx L[k] with
    | true =>
      rw [hr] at c1
      repeat' (first | ((first | ((with_reducible refine qo (fun hg => ?_) (fun hg => ?_)) <;> (try simp only [hg]) <;> (try simp only [gS] at hg) <;> (try (first | simp only [eq_false hg, gI] | simp only [eq_true hg, gI]))) | (with_reducible first | refine qc ?_ | refine qb ?_ | refine qi ?_ | refine qh ?_) | refine acall (c1) ?_ | refine qp (c1) ?_ | refine qe ?_ | refine qj ?_ | refine qk ?_ | refine qm ?_) <;> (try simp (disch := first | omega | simp) [qg, -qq, -qs, hlt])) | ((with_reducible refine sideT ?_ ?_); first | omega | assumption | (simp; done)) | (refine qf fun K hK => ?_) | (refine qa ?_) | refine ql ?_ | ((first | refine hK _ ?_ | (clear hK K; refine hK _ ?_) | (clear hK K; clear hK K; refine hK _ ?_)); clear hK K) | refine qd ?_)
      exact ⟨k + 1, ⟨by omega, qcu (C := fun v : Val => qcx v = true) he fun _ => hr⟩, by omega, by simp⟩
    | false =>
      rw [hr] at c1
      repeat' (first | ((first | ((with_reducible refine qo (fun hg => ?_) (fun hg => ?_)) <;> (try simp only [hg]) <;> (try simp only [gS] at hg) <;> (try (first | simp only [eq_false hg, gI] | simp only [eq_true hg, gI]))) | (with_reducible first | refine qc ?_ | refine qb ?_ | refine qi ?_ | refine qh ?_) | refine acall (c1) ?_ | refine qp (c1) ?_ | refine qe ?_ | refine qj ?_ | refine qk ?_ | refine qm ?_) <;> (try simp (disch := first | omega | simp) [qg, -qq, -qs, hlt])) | ((with_reducible refine sideT ?_ ?_); first | omega | assumption | (simp; done)) | (refine qf fun K hK => ?_) | (refine qa ?_) | refine ql ?_ | ((first | refine hK _ ?_ | (clear hK K; refine hK _ ?_) | (clear hK K; clear hK K; refine hK _ ?_)); clear hK K) | refine qd ?_)
      rw [hR, all_hit hlt hr]
  · repeat' (first | ((first | ((with_reducible refine qo (fun hg => ?_) (fun hg => ?_)) <;> (try simp only [hg]) <;> (try simp only [gS] at hg) <;> (try (first | simp only [eq_false hg, gI] | simp only [eq_true hg, gI]))) | (with_reducible first | refine qc ?_ | refine qb ?_ | refine qi ?_ | refine qh ?_) | refine qe ?_ | refine qj ?_ | refine qk ?_ | refine qm ?_) <;> (try simp (disch := first | omega | simp) [qg, -qq, -qs, hlt])) | ((with_reducible refine sideT ?_ ?_); first | omega | assumption | (simp; done)) | (refine qf fun K hK => ?_) | (refine qa ?_) | refine ql ?_ | ((first | refine hK _ ?_ | (clear hK K; refine hK _ ?_) | (clear hK K; clear hK K; refine hK _ ?_)); clear hK K) | refine qd ?_)
    rw [hR, all_end (upto_all (C := fun v : Val => qcx v = true) he hlt)]
theorem rrow_g (L : List Val) (hL : L.length ≤ 1000000) : Gives Tryz.prog 29 [.sl (L.map Val.av)] (.bool (rowOk L)) := by
  unfold rowOk
  by_cases h : L.length ≤ 12
  · have h' : (L.length : Int) ≤ 12 := by omega
    refine qn Tryz.func29 Tryz.ntmps29 rfl rfl (by decide) rfl (by intro n; simp) fun σ n0 hcl hft => ?_
    repeat' (first | ((first | ((with_reducible refine qo (fun hg => ?_) (fun hg => ?_)) <;> (try simp only [hg]) <;> (try simp only [gS] at hg) <;> (try (first | simp only [eq_false hg, gI] | simp only [eq_true hg, gI]))) | (with_reducible first | refine qc ?_ | refine qb ?_ | refine qi ?_ | refine qh ?_) | refine acall (rall_g L hL) ?_ | refine qp (rall_g L hL) ?_ | refine qe ?_ | refine qj ?_ | refine qk ?_ | refine qm ?_) <;> (try simp (disch := first | omega | simp) [qg, -qq, -qs, h, h'])) | ((with_reducible refine sideT ?_ ?_); first | omega | assumption | (simp; done)) | (refine qf fun K hK => ?_) | (refine qa ?_) | refine ql ?_ | ((first | refine hK _ ?_ | (clear hK K; refine hK _ ?_) | (clear hK K; clear hK K; refine hK _ ?_)); clear hK K) | refine qd ?_)
  · have h' : ¬ (L.length : Int) ≤ 12 := by omega
    refine qn Tryz.func29 Tryz.ntmps29 rfl rfl (by decide) rfl (by intro n; simp) fun σ n0 hcl hft => ?_
    repeat' (first | ((first | ((with_reducible refine qo (fun hg => ?_) (fun hg => ?_)) <;> (try simp only [hg]) <;> (try simp only [gS] at hg) <;> (try (first | simp only [eq_false hg, gI] | simp only [eq_true hg, gI]))) | (with_reducible first | refine qc ?_ | refine qb ?_ | refine qi ?_ | refine qh ?_) | refine acall (rall_g L hL) ?_ | refine qp (rall_g L hL) ?_ | refine qe ?_ | refine qj ?_ | refine qk ?_ | refine qm ?_) <;> (try simp (disch := first | omega | simp) [qg, -qq, -qs, h, h'])) | ((with_reducible refine sideT ?_ ?_); first | omega | assumption | (simp; done)) | (refine qf fun K hK => ?_) | (refine qa ?_) | refine ql ?_ | ((first | refine hK _ ?_ | (clear hK K; refine hK _ ?_) | (clear hK K; clear hK K; refine hK _ ?_)); clear hK K) | refine qd ?_)
end Go.Proofs.YtgpcpmfdklpifaaGreatDoor

/- A list that is handed to a function as a slice is no longer than an int tells. -/
namespace Go.Proofs.YtgpcpmfdklpifaaGreatDoor
open Go.RowKit Go.Lib
theorem gives_len {P : Program} {f : FuncId} {l : List AV} {tl : List AV} {x : AV} (h : l.length ≤ 9223372036854775807 → Gives P f (.sl l :: tl) x) : Gives P f (.sl l :: tl) x := by
  intro σ X vals nx hS hσ hF hR
  have hl : l.length ≤ 9223372036854775807 := by
    obtain ⟨v, vs', -, h1, -⟩ := hR
    change RC X (.sl l) [v] at h1
    rw [RC] at h1
    obtain ⟨A, cap, b, off, -, h2, h3, -⟩ := h1
    omega
  exact h hl σ X vals nx hS hσ hF hR
end Go.Proofs.YtgpcpmfdklpifaaGreatDoor
