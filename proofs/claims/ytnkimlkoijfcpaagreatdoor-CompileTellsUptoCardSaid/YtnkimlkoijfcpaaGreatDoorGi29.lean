/- Walks of layer 26: constants and folding, of the reference. -/
import Derived.Test.YtnkimlkoijfcpaaGreatDoorGi24
import Derived.Test.YtnkimlkoijfcpaaGreatDoorGi26
import Derived.Test.YtnkimlkoijfcpaaGreatDoorGi28
set_option linter.unusedSimpArgs false
set_option linter.unusedVariables false
namespace Go.Proofs.YtnkimlkoijfcpaaGreatDoor
open Go.RowKit Go.Lib
theorem rconstant_g (v : Val) : Gives Tryz.prog 27 [v.av] (.tup [(qbg v).av, .bool (decide (v.k = 0 ∨ v.k = 1 ∨ v.k = 2))]) := by
  obtain ⟨k, n, s⟩ := v
  refine qn Tryz.func27 Tryz.ntmps27 rfl rfl (by decide) rfl (by intro n; simp) fun σ n0 hcl hft => ?_
  repeat' (first | ((first | ((with_reducible refine qo (fun hg => ?_) (fun hg => ?_)) <;> (try simp only [hg]) <;> (try simp only [gS] at hg) <;> (try (first | simp only [eq_false hg, gI] | simp only [eq_true hg, gI]))) | (with_reducible first | refine qf ?_ | refine qe ?_ | refine qk ?_ | refine qj ?_) | refine qc ?_ | refine qh ?_ | refine qi ?_ | refine qm ?_) <;> (try simp (disch := first | omega | simp) [qg, -qq, -qr])) | ((with_reducible refine sideT ?_ ?_); first | omega | assumption | (simp; done)) | (refine qd fun K hK => ?_) | (refine qa ?_) | refine ql ?_ | ((first | refine hK _ ?_ | (clear hK K; refine hK _ ?_) | (clear hK K; clear hK K; refine hK _ ?_)); clear hK K) | refine qb ?_)
  all_goals simp_all [qbg, zeroE]
theorem konst_constV {v : Val} (h : qz v) : qcp v = qbg v := by
  unfold qcp qbg
  rcases sound_kind h with hk | hk | hk <;> simp [hk]
theorem consts_are {F : List Fn} {c p : List Int} : ∀ {l : List Ex} {ts : List Int}, tys F c p l = some ts → l.all qx = true →
    ∃ vs : List Val, (∀ v ∈ vs, qz v) ∧ vs.map qcp = l ∧ vs.map Val.k = ts ∧ ∀ call time row params, evs call time row params l = vs
  | [], ts, h, _ => ⟨[], by simp, rfl, by rw [tys] at h; exact Option.some.inj h, fun _ _ _ _ => by rw [evs]⟩
  | x :: l, ts, h, hc => by
    rw [List.all_cons, Bool.and_eq_true] at hc
    obtain ⟨t, us, rfl, g1, g2⟩ := qcb h
    obtain ⟨v, h1, rfl, h3⟩ := qdu hc.1 g1
    obtain ⟨vs, k1, k2, k3, k4⟩ := consts_are g2 hc.2
    refine ⟨v :: vs, fun w hw => ?_, ?_, ?_, fun call time row params => ?_⟩
    · rcases List.mem_cons.1 hw with rfl | hw
      · exact h1
      · exact k1 w hw
    · rw [List.map_cons, konst_constV h1, h3, k2]
    · rw [List.map_cons, k3]
    · rw [evs, k4, ← h3, (qcg h1 F c p).2.1]
set_option maxHeartbeats 4000000 in
theorem reval_const {F : List Fn} {c p : List Int} {o n t : Int} {s : ByteArray} {l : List Ex} (h : ty F c p (.mk o n s l) = some t) (ho : o ≠ 22) (hl : l ≠ []) (hc : l.all qx = true) :
    Gives Tryz.prog 65 [.sl [], (Ex.mk o n s l).av, .int 0, .sl []] (evalP [] 0 [] (.mk o n s l)).av := by
  obtain ⟨ts, h1, h2, rfl, hs, h6, h21⟩ := ty_oper h ho hl
  obtain ⟨vs, k1, rfl, rfl, k4⟩ := consts_are h1 hc
  have hal : vs.length = arO o := by rw [op_len h2, List.length_map]
  have key : ∃ m, Gives Tryz.prog 123 [.sl [], (Ex.mk o 0 s (vs.map qcp)).av, .int 0, .sl (([] : List Val).map Val.av), .sl []] (cntAv (evalP [] 0 [] (.mk o 0 s (vs.map qcp))) m) := by
    unfold evalP
    rw [ev_mk, k4]
    by_cases h211 : o = 21
    · rw [if_pos h211, h211]
      have h3 : vs.length = 3 := by rw [hal, h211]; rfl
      match vs, h3 with
      | [a, b, d], _ => exact rrunI (k1 a (by simp)) (k1 b (by simp)) (k1 d (by simp))
    · rw [if_neg h211]
      have e1 : opV (callN [] 0 ([] : List Fn).length) 0 [] [] o 0 s vs = opR 0 [] o 0 s vs := by
        have a0 : ¬ o = 0 := by omega
        have a1 : ¬ o = 1 := by omega
        have a2 : ¬ o = 2 := by omega
        have a3 : ¬ o = 3 := by omega
        have a4 : ¬ o = 4 := by omega
        have a5 : ¬ o = 5 := by omega
        simp only [opR, opV, a0, a1, a2, a3, a4, a5, ho, if_false]
      rw [e1]
      refine ⟨_, rrunG (fun v hv => konst_g (k1 v hv) 0 []) h211 (by omega) ho (by omega) (fun h3 h5 => ?_) (by rw [hal]; exact arO_le _)⟩
      have hcases : (o = 6 ∨ o = 7 ∨ o = 20) ∨ (8 ≤ o ∧ o ≤ 19) := by omega
      rcases hcases with hq | hq
      · have h1 : vs.length = 1 := by rw [hal]; rcases hq with hq | hq | hq <;> rw [hq] <;> rfl
        match vs, h1 with
        | [a], _ => exact rap1_g _ _ _ _ hq a
      · have h4 : vs.length = 2 := by rw [hal]; unfold arO; rw [if_neg (by omega), if_neg (by omega), if_neg (by omega)]
        match vs, h4 with
        | [a, b], _ =>
          have sa := k1 a (by simp)
          have sb := k1 b (by simp)
          refine rap2_g _ _ _ _ hq a b (fun hc => ?_) (by have := sa.2; have := sb.2; omega)
          refine less_cmp sa sb ?_
          obtain ⟨u, hu⟩ := opcmp_ts h2 (by omega)
          simp at hu
          rw [hu.1, hu.2]
  obtain ⟨m, hm⟩ := key
  generalize evalP [] 0 [] (.mk o 0 s (vs.map qcp)) = V at *
  simp only [List.map_nil, cntAv] at hm
  obtain ⟨vk, vn, vs2⟩ := V
  generalize vs.map qcp = A at *
  clear k1 k4 h1 h2 h hl hc hal
  rw [Ex.av_mk] at hm ⊢
  refine qn Tryz.func65 Tryz.ntmps65 rfl rfl (by decide) rfl (by intro n; simp) fun σ n0 hcl hft => ?_
  repeat' (first | ((first | ((with_reducible refine qo (fun hg => ?_) (fun hg => ?_)) <;> (try simp only [hg]) <;> (try simp only [gS] at hg) <;> (try (first | simp only [eq_false hg, gI] | simp only [eq_true hg, gI]))) | (with_reducible first | refine qf ?_ | refine qe ?_ | refine qk ?_ | refine qj ?_) | refine acall (hm) ?_ | refine qp (hm) ?_ | refine qc ?_ | refine qh ?_ | refine qi ?_ | refine qm ?_) <;> (try simp (disch := first | omega | simp) [qg, -qq, -qr])) | ((with_reducible refine sideT ?_ ?_); first | omega | assumption | (simp; done)) | (refine qd fun K hK => ?_) | (refine qa ?_) | refine ql ?_ | ((first | refine hK _ ?_ | (clear hK K; refine hK _ ?_) | (clear hK K; clear hK K; refine hK _ ?_)); clear hK K) | refine qb ?_)
  all_goals rfl
set_option maxHeartbeats 4000000 in
theorem rtruth26_g (e : Ex) : Gives Tryz.prog 66 [e.av] (.bool (decide (e.op = 2) && decide (e.n = 1))) := by
  obtain ⟨o, n, s, l⟩ := e
  rw [Ex.av_mk]
  obtain ⟨R, hR⟩ : ∃ R, R = (decide ((Ex.mk o n s l).op = 2) && decide ((Ex.mk o n s l).n = 1)) := ⟨_, rfl⟩
  rw [← hR]
  simp only [Ex.op, Ex.n] at hR
  refine qn Tryz.func66 Tryz.ntmps66 rfl rfl (by decide) rfl (by intro n; simp) fun σ n0 hcl hft => ?_
  repeat' (first | ((first | ((with_reducible refine qo (fun hg => ?_) (fun hg => ?_)) <;> (try simp only [hg]) <;> (try simp only [gS] at hg) <;> (try (first | simp only [eq_false hg, gI] | simp only [eq_true hg, gI]))) | (with_reducible first | refine qf ?_ | refine qe ?_ | refine qk ?_ | refine qj ?_) | refine qc ?_ | refine qh ?_ | refine qi ?_ | refine qm ?_) <;> (try simp (disch := first | omega | simp) [qg, -qq, -qr])) | ((with_reducible refine sideT ?_ ?_); first | omega | assumption | (simp; done)) | (refine qd fun K hK => ?_) | (refine qa ?_) | refine ql ?_ | ((first | refine hK _ ?_ | (clear hK K; refine hK _ ?_) | (clear hK K; clear hK K; refine hK _ ?_)); clear hK K) | refine qb ?_)
  all_goals (rw [hR]; simp [*] <;> rfl)
theorem truth_of {F : List Fn} {c p : List Int} {a : Ex} (h : ty F c p a = some 2) (hc : qx a = true) : a.op = 2 := by
  obtain ⟨v, h1, h2, rfl⟩ := qdu hc h
  unfold qbg
  rw [if_neg (by omega), if_neg (by omega), if_pos h2]; rfl
theorem truth_not {a : Ex} (hc : qx a = false) : a.op ≠ 2 := fun h => by
  have := (constE_iff a).2 (.inr (.inr h))
  rw [hc] at this; cases this
def plainL (l : List Ex) (k : Nat) : Bool := decide (0 < l.length) && ((l.map foldE).take k).all qx
theorem plainL_0 (l : List Ex) : plainL l 0 = decide (0 < l.length) := by unfold plainL; simp
theorem plainL_succ {l : List Ex} {k : Nat} (h : k < l.length) : plainL l (k + 1) = (plainL l k && qx (foldE l[k])) := by
  have h2 : k < (l.map foldE).length := by simpa using h
  unfold plainL
  rw [List.take_succ_eq_append_getElem h2, List.all_append, List.all_cons, List.all_nil, Bool.and_true, Bool.and_assoc, List.getElem_map]
theorem take_fold {l : List Ex} {k : Nat} (h : k < l.length) : ((l.map foldE).take (k + 1)).map Ex.av = ((l.map foldE).take k).map Ex.av ++ [(foldE l[k]).av] := by
  have h2 : k < (l.map foldE).length := by simpa using h
  rw [List.take_succ_eq_append_getElem h2, List.map_append, List.map_cons, List.map_nil, List.getElem_map]
set_option maxHeartbeats 8000000 in
theorem rfold_g {F : List Fn} {c p : List Int} (e : Ex) : ∀ {t : Int}, ty F c p e = some t → parts e ≤ 1000000 → Gives Tryz.prog 28 [e.av] (foldE e).av := by
  induction e using Ex.ind with | h o n s l ih => ?_
  intro t ht hp
  have hl : l.length ≤ 1000000 := by rw [parts] at hp; have := qbd l; omega
  have hpl : ∀ x ∈ l, parts x ≤ 1000000 := fun x hx => by rw [parts] at hp; have := qbb l x hx; omega
  have htl : ∀ x ∈ l, ∃ u, ty F c p x = some u := by
    obtain ⟨ts, h1, -⟩ := ty_mk ht
    exact qet l h1
  obtain ⟨ts, hts, htt⟩ := ty_mk ht
  obtain ⟨R, hR⟩ : ∃ R, R = foldE (.mk o n s l) := ⟨_, rfl⟩
  rw [← hR]
  rw [foldE, qdz] at hR
  rw [Ex.av_mk]
  refine qn Tryz.func28 Tryz.ntmps28 rfl rfl (by decide) rfl (by intro n; simp) fun σ n0 hcl hft => ?_
  repeat' (first | ((first | ((with_reducible refine qo (fun hg => ?_) (fun hg => ?_)) <;> (try simp only [hg]) <;> (try simp only [gS] at hg) <;> (try (first | simp only [eq_false hg, gI] | simp only [eq_true hg, gI]))) | (with_reducible first | refine qf ?_ | refine qe ?_ | refine qk ?_ | refine qj ?_) | refine qc ?_ | refine qh ?_ | refine qi ?_ | refine qm ?_) <;> (try simp (disch := first | omega | simp) [qg, -qq, -qr])) | ((with_reducible refine sideT ?_ ?_); first | omega | assumption | (simp; done)) | (refine qd fun K hK => ?_) | (refine qa ?_) | refine ql ?_ | ((first | refine hK _ ?_ | (clear hK K; refine hK _ ?_) | (clear hK K; clear hK K; refine hK _ ?_)); clear hK K) | refine qb ?_)
  refine qbf 2 3 25 4 (by rfl) (by rfl) ?_
  refine qs hcl (fun k : Nat => [(1, .ptr n0 0), (2, .ptr (n0 + 1) 0), (3, .ptr (n0 + 2) 0), (4, .bool (plainL l k)), (5, .int k)])
    (fun k => [.cells [.int o, .int n, .str s, .sl (l.map Ex.av)] 25, .cells [.int 0, .int 0, .str ByteArray.empty, .v (.slice none 0 0)] 25, .cells [.int o, .int n, .str s, .gs (n0 + 3) (((l.map foldE).take k).map Ex.av)] 25, .tail k 25 4])
    (fun k => k ≤ l.length) (fun k => l.length - k) 0 (by simp) (by simp [plainL_0]) fun k hk => ?_
  by_cases hlt : k < l.length
  · obtain ⟨u, hu⟩ := htl l[k] (List.getElem_mem hlt)
    have c1 := ih l[k] (List.getElem_mem hlt) hu (hpl _ (List.getElem_mem hlt))
    have c2 := plain26_g (foldE l[k])
    have f1 := plainL_succ hlt
    have f2 := take_fold hlt
    rw [← List.map_take, ← List.map_take, List.map_map, List.map_map, List.map_take, List.map_take] at f2
    have hml : ((l.map foldE).take k).length = k := by simp; omega
    have hz : (k + 1) * 48 ≤ 140737488355328 := by omega
    cases hpk : plainL l k
    · rw [hpk] at f1
      repeat' (first | ((first | ((with_reducible refine qo (fun hg => ?_) (fun hg => ?_)) <;> (try simp only [hg]) <;> (try simp only [gS] at hg) <;> (try (first | simp only [eq_false hg, gI] | simp only [eq_true hg, gI]))) | (with_reducible first | refine qf ?_ | refine qe ?_ | refine qk ?_ | refine qj ?_) | refine acall (c1) ?_ | refine qp (c1) ?_ | refine acall (c2) ?_ | refine qp (c2) ?_ | refine qc ?_ | refine qh ?_ | refine qi ?_ | refine qm ?_) <;> (try simp (disch := first | omega | simp) [qg, -qq, -qr, hlt, hml, hz])) | ((with_reducible refine sideT ?_ ?_); first | omega | assumption | (simp; done)) | (refine qd fun K hK => ?_) | (refine qa ?_) | refine ql ?_ | ((first | refine hK _ ?_ | (clear hK K; refine hK _ ?_) | (clear hK K; clear hK K; refine hK _ ?_)); clear hK K) | refine qb ?_)
      all_goals exact ⟨k + 1, by omega, by omega, ⟨f2.symm, rfl⟩, f1, rfl⟩
    · rw [hpk, Bool.true_and] at f1
      repeat' (first | ((first | ((with_reducible refine qo (fun hg => ?_) (fun hg => ?_)) <;> (try simp only [hg]) <;> (try simp only [gS] at hg) <;> (try (first | simp only [eq_false hg, gI] | simp only [eq_true hg, gI]))) | (with_reducible first | refine qf ?_ | refine qe ?_ | refine qk ?_ | refine qj ?_) | refine acall (c1) ?_ | refine qp (c1) ?_ | refine acall (c2) ?_ | refine qp (c2) ?_ | refine qc ?_ | refine qh ?_ | refine qi ?_ | refine qm ?_) <;> (try simp (disch := first | omega | simp) [qg, -qq, -qr, hlt, hml, hz])) | ((with_reducible refine sideT ?_ ?_); first | omega | assumption | (simp; done)) | (refine qd fun K hK => ?_) | (refine qa ?_) | refine ql ?_ | ((first | refine hK _ ?_ | (clear hK K; refine hK _ ?_) | (clear hK K; clear hK K; refine hK _ ?_)); clear hK K) | refine qb ?_)
      all_goals exact ⟨k + 1, by omega, by omega, ⟨f2.symm, rfl⟩, f1.symm, rfl⟩
  · obtain rfl : k = l.length := by omega
    have hall0 : plainL l l.length = (decide (0 < l.length) && (l.map foldE).all qx) := by unfold plainL; rw [List.take_of_length_le (by simp)]
    rw [List.take_of_length_le (by simp), hall0]
    obtain ⟨l', hl'⟩ : ∃ l', l' = l.map foldE := ⟨_, rfl⟩
    have hlen : l'.length = l.length := by rw [hl', List.length_map]
    have ht' : ty F c p (.mk o n s l') = some t := by rw [hl', ty, fold_tys hts]; exact htt
    have hp' : parts (Ex.mk o n s l') ≤ 1000000 := by
      rw [parts] at hp ⊢
      have := partsL_map (f := foldE) l fun x _ => fold_parts x
      rw [hl']; omega
    rw [← hl'] at hR ⊢
    clear hl' hall0
    unfold topF at hR
    by_cases ho : o = 22
    · subst ho
      have hR22 : R = .mk 22 n s l' := by
        rw [hR]
        split
        · rename_i h; rw [h]
        · rw [if_neg fun h => h.1 rfl, if_neg (by decide), if_neg (by decide), if_neg (by decide)]
      by_cases hpos : 0 < l.length
      · cases hac : l'.all qx
        · repeat' (first | ((first | ((with_reducible refine qo (fun hg => ?_) (fun hg => ?_)) <;> (try simp only [hg]) <;> (try simp only [gS] at hg) <;> (try (first | simp only [eq_false hg, gI] | simp only [eq_true hg, gI]))) | (with_reducible first | refine qf ?_ | refine qe ?_ | refine qk ?_ | refine qj ?_) | refine qc ?_ | refine qh ?_ | refine qi ?_ | refine qm ?_) <;> (try simp (disch := first | omega | simp) [qg, -qq, -qr, hpos, hac])) | ((with_reducible refine sideT ?_ ?_); first | omega | assumption | (simp; done)) | (refine qd fun K hK => ?_) | (refine qa ?_) | refine ql ?_ | ((first | refine hK _ ?_ | (clear hK K; refine hK _ ?_) | (clear hK K; clear hK K; refine hK _ ?_)); clear hK K) | refine qb ?_)
          all_goals (rw [hR22]; simp)
        · repeat' (first | ((first | ((with_reducible refine qo (fun hg => ?_) (fun hg => ?_)) <;> (try simp only [hg]) <;> (try simp only [gS] at hg) <;> (try (first | simp only [eq_false hg, gI] | simp only [eq_true hg, gI]))) | (with_reducible first | refine qf ?_ | refine qe ?_ | refine qk ?_ | refine qj ?_) | refine qc ?_ | refine qh ?_ | refine qi ?_ | refine qm ?_) <;> (try simp (disch := first | omega | simp) [qg, -qq, -qr, hpos, hac])) | ((with_reducible refine sideT ?_ ?_); first | omega | assumption | (simp; done)) | (refine qd fun K hK => ?_) | (refine qa ?_) | refine ql ?_ | ((first | refine hK _ ?_ | (clear hK K; refine hK _ ?_) | (clear hK K; clear hK K; refine hK _ ?_)); clear hK K) | refine qb ?_)
          all_goals (rw [hR22]; simp)
      · have hl0 : l.length = 0 := by omega
        obtain rfl : l' = [] := List.eq_nil_of_length_eq_zero (by omega)
        repeat' (first | ((first | ((with_reducible refine qo (fun hg => ?_) (fun hg => ?_)) <;> (try simp only [hg]) <;> (try simp only [gS] at hg) <;> (try (first | simp only [eq_false hg, gI] | simp only [eq_true hg, gI]))) | (with_reducible first | refine qf ?_ | refine qe ?_ | refine qk ?_ | refine qj ?_) | refine qc ?_ | refine qh ?_ | refine qi ?_ | refine qm ?_) <;> (try simp (disch := first | omega | simp) [qg, -qq, -qr, hl0])) | ((with_reducible refine sideT ?_ ?_); first | omega | assumption | (simp; done)) | (refine qd fun K hK => ?_) | (refine qa ?_) | refine ql ?_ | ((first | refine hK _ ?_ | (clear hK K; refine hK _ ?_) | (clear hK K; clear hK K; refine hK _ ?_)); clear hK K) | refine qb ?_)
        all_goals (rw [hR22]; simp)
    have ho22 : (o == 22) = false := beq_eq_false_iff_ne.2 ho
    have ho23 : (o != 22) = true := by rw [bne, ho22]; rfl
    by_cases hnil : l' = []
    · subst hnil
      have h6 : o < 6 := by
        by_cases hq : 6 ≤ o
        · obtain ⟨ts2, q1, q2, -⟩ := qds hq ht'
          have q3 := op_len q1
          rw [q2] at q3
          unfold arO at q3
          simp only [List.length_nil] at q3
          split at q3
          · omega
          · split at q3
            · omega
            · split at q3 <;> omega
        · omega
      rw [if_pos rfl] at hR
      have e6 : (o == 6) = false := beq_eq_false_iff_ne.2 (by omega)
      have e17 : (o == 17) = false := beq_eq_false_iff_ne.2 (by omega)
      have e18 : (o == 18) = false := beq_eq_false_iff_ne.2 (by omega)
      have e21 : (o == 21) = false := beq_eq_false_iff_ne.2 (by omega)
      have hl0 : l.length = 0 := hlen.symm
      repeat' (first | ((first | ((with_reducible refine qo (fun hg => ?_) (fun hg => ?_)) <;> (try simp only [hg]) <;> (try simp only [gS] at hg) <;> (try (first | simp only [eq_false hg, gI] | simp only [eq_true hg, gI]))) | (with_reducible first | refine qf ?_ | refine qe ?_ | refine qk ?_ | refine qj ?_) | refine qc ?_ | refine qh ?_ | refine qi ?_ | refine qm ?_) <;> (try simp (disch := first | omega | simp) [qg, -qq, -qr, hl0, ho22, ho23, e6, e17, e18, e21])) | ((with_reducible refine sideT ?_ ?_); first | omega | assumption | (simp; done)) | (refine qd fun K hK => ?_) | (refine qa ?_) | refine ql ?_ | ((first | refine hK _ ?_ | (clear hK K; refine hK _ ?_) | (clear hK K; clear hK K; refine hK _ ?_)); clear hK K) | refine qb ?_)
      all_goals (rw [hR]; simp)
    have hne := hnil
    have hpo2 : 0 < l'.length := List.length_pos_iff.2 hne
    have hpos : 0 < l.length := by omega
    rw [if_neg hne] at hR
    by_cases hall : l'.all qx = true
    · rw [if_pos ⟨ho, hall⟩] at hR
      obtain ⟨-, q1, q2, -⟩ := closed_ok ht' ho hne hall
      have c2 := reval_const ht' ho hne hall
      have c3 := rconstant_g (evalP [] 0 [] (.mk o n s l'))
      rw [decide_eq_true (sound_kind q1), ← hR] at c3
      rw [Ex.av_mk] at c2
      repeat' (first | ((first | ((with_reducible refine qo (fun hg => ?_) (fun hg => ?_)) <;> (try simp only [hg]) <;> (try simp only [gS] at hg) <;> (try (first | simp only [eq_false hg, gI] | simp only [eq_true hg, gI]))) | (with_reducible first | refine qf ?_ | refine qe ?_ | refine qk ?_ | refine qj ?_) | refine acall (c2) ?_ | refine qp (c2) ?_ | refine acall (c3) ?_ | refine qp (c3) ?_ | refine qc ?_ | refine qh ?_ | refine qi ?_ | refine qm ?_) <;> (try simp (disch := first | omega | simp) [qg, -qq, -qr, hall, hpos, ho22, ho23])) | ((with_reducible refine sideT ?_ ?_); first | omega | assumption | (simp; done)) | (refine qd fun K hK => ?_) | (refine qa ?_) | refine ql ?_ | ((first | refine hK _ ?_ | (clear hK K; refine hK _ ?_) | (clear hK K; clear hK K; refine hK _ ?_)); clear hK K) | refine qb ?_)
    · rw [if_neg fun h => hall h.2] at hR
      have hall2 : l'.all qx = false := Bool.eq_false_iff.2 hall
      by_cases h21 : o = 21
      · subst h21
        obtain ⟨ts2, q1, q2, q3⟩ := qds (by omega) ht'
        obtain ⟨a, b, d, rfl⟩ := shape_if ht'
        obtain rfl := op21_ts q1 rfl
        obtain ⟨_, _, e1, hta, -⟩ := qcb q3
        injection e1 with e1 e2
        subst e1 e2
        have cp := plain26_g a
        have ct := rtruth26_g a
        have hpb : parts b ≤ 1000000 := by rw [parts] at hp'; have := qbb [a, b, d] b (by simp); omega
        have cs := rsame_g b d hpb
        rw [if_pos rfl] at hR
        unfold choiceP at hR
        dsimp only at hR
        simp only [Ex.av_mk, List.map_cons, List.map_nil] at *
        cases hca : qx a
        · rw [hca] at cp hR
          rw [decide_eq_false (truth_not hca), Bool.false_and] at ct
          simp at hR
          cases hsm : sameB b d
          · rw [hsm] at cs hR
            repeat' (first | ((first | ((with_reducible refine qo (fun hg => ?_) (fun hg => ?_)) <;> (try simp only [hg]) <;> (try simp only [gS] at hg) <;> (try (first | simp only [eq_false hg, gI] | simp only [eq_true hg, gI]))) | (with_reducible first | refine qf ?_ | refine qe ?_ | refine qk ?_ | refine qj ?_) | refine acall (cp) ?_ | refine qp (cp) ?_ | refine acall (ct) ?_ | refine qp (ct) ?_ | refine acall (cs) ?_ | refine qp (cs) ?_ | refine qc ?_ | refine qh ?_ | refine qi ?_ | refine qm ?_) <;> (try simp (disch := first | omega | simp) [qg, -qq, -qr, hall2, hpos])) | ((with_reducible refine sideT ?_ ?_); first | omega | assumption | (simp; done)) | (refine qd fun K hK => ?_) | (refine qa ?_) | refine ql ?_ | ((first | refine hK _ ?_ | (clear hK K; refine hK _ ?_) | (clear hK K; clear hK K; refine hK _ ?_)); clear hK K) | refine qb ?_)
            all_goals (rw [hR]; simp)
          · rw [hsm] at cs hR
            repeat' (first | ((first | ((with_reducible refine qo (fun hg => ?_) (fun hg => ?_)) <;> (try simp only [hg]) <;> (try simp only [gS] at hg) <;> (try (first | simp only [eq_false hg, gI] | simp only [eq_true hg, gI]))) | (with_reducible first | refine qf ?_ | refine qe ?_ | refine qk ?_ | refine qj ?_) | refine acall (cp) ?_ | refine qp (cp) ?_ | refine acall (ct) ?_ | refine qp (ct) ?_ | refine acall (cs) ?_ | refine qp (cs) ?_ | refine qc ?_ | refine qh ?_ | refine qi ?_ | refine qm ?_) <;> (try simp (disch := first | omega | simp) [qg, -qq, -qr, hall2, hpos])) | ((with_reducible refine sideT ?_ ?_); first | omega | assumption | (simp; done)) | (refine qd fun K hK => ?_) | (refine qa ?_) | refine ql ?_ | ((first | refine hK _ ?_ | (clear hK K; refine hK _ ?_) | (clear hK K; clear hK K; refine hK _ ?_)); clear hK K) | refine qb ?_)
            all_goals (rw [hR]; simp)
        · have ha2 := truth_of hta hca
          rw [hca] at cp hR
          rw [decide_eq_true ha2, Bool.true_and] at ct
          by_cases hn : a.n = 1
          · rw [decide_eq_true hn] at ct
            rw [if_pos (.inl ⟨rfl, hn⟩)] at hR
            repeat' (first | ((first | ((with_reducible refine qo (fun hg => ?_) (fun hg => ?_)) <;> (try simp only [hg]) <;> (try simp only [gS] at hg) <;> (try (first | simp only [eq_false hg, gI] | simp only [eq_true hg, gI]))) | (with_reducible first | refine qf ?_ | refine qe ?_ | refine qk ?_ | refine qj ?_) | refine acall (cp) ?_ | refine qp (cp) ?_ | refine acall (ct) ?_ | refine qp (ct) ?_ | refine acall (cs) ?_ | refine qp (cs) ?_ | refine qc ?_ | refine qh ?_ | refine qi ?_ | refine qm ?_) <;> (try simp (disch := first | omega | simp) [qg, -qq, -qr, hall2, hpos])) | ((with_reducible refine sideT ?_ ?_); first | omega | assumption | (simp; done)) | (refine qd fun K hK => ?_) | (refine qa ?_) | refine ql ?_ | ((first | refine hK _ ?_ | (clear hK K; refine hK _ ?_) | (clear hK K; clear hK K; refine hK _ ?_)); clear hK K) | refine qb ?_)
            all_goals (rw [hR]; done)
          · rw [decide_eq_false hn] at ct
            have hRd : R = d := by
              rw [hR]
              split
              · rename_i h
                rcases h with h | h
                · exact absurd h.2 hn
                · exact sameB_eq h
              · rw [if_pos rfl]
            repeat' (first | ((first | ((with_reducible refine qo (fun hg => ?_) (fun hg => ?_)) <;> (try simp only [hg]) <;> (try simp only [gS] at hg) <;> (try (first | simp only [eq_false hg, gI] | simp only [eq_true hg, gI]))) | (with_reducible first | refine qf ?_ | refine qe ?_ | refine qk ?_ | refine qj ?_) | refine acall (cp) ?_ | refine qp (cp) ?_ | refine acall (ct) ?_ | refine qp (ct) ?_ | refine acall (cs) ?_ | refine qp (cs) ?_ | refine qc ?_ | refine qh ?_ | refine qi ?_ | refine qm ?_) <;> (try simp (disch := first | omega | simp) [qg, -qq, -qr, hall2, hpos])) | ((with_reducible refine sideT ?_ ?_); first | omega | assumption | (simp; done)) | (refine qd fun K hK => ?_) | (refine qa ?_) | refine ql ?_ | ((first | refine hK _ ?_ | (clear hK K; refine hK _ ?_) | (clear hK K; clear hK K; refine hK _ ?_)); clear hK K) | refine qb ?_)
            all_goals (rw [hRd]; done)
      · rw [if_neg h21] at hR
        have h211 : (o == 21) = false := beq_eq_false_iff_ne.2 h21
        by_cases h17 : o = 17 ∨ o = 18
        · rw [if_pos h17] at hR
          obtain ⟨a, b, rfl⟩ := shape_two h17 ht'
          obtain ⟨ts2, q1, q2, q3⟩ := qds (by omega) ht'
          obtain ⟨rfl, -⟩ := op1718_ts q1 h17
          obtain ⟨_, _, e1, hta, q4⟩ := qcb q3
          injection e1 with e1 e2
          subst e1 e2
          obtain ⟨_, _, e1, htb, -⟩ := qcb q4
          injection e1 with e1 e2
          subst e1 e2
          have cpa := plain26_g a
          have cta := rtruth26_g a
          have cpb := plain26_g b
          have ctb := rtruth26_g b
          have hta2 := fun hc => truth_of hta hc
          have htb2 := fun hc => truth_of htb hc
          unfold logicP at hR
          dsimp only at hR
          simp only [Ex.av_mk, List.map_cons, List.map_nil] at *
          rcases h17 with rfl | rfl
          · repeat' (first | ((first | ((with_reducible refine qo (fun hg => ?_) (fun hg => ?_)) <;> (try simp only [hg]) <;> (try simp only [gS] at hg) <;> (try (first | simp only [eq_false hg, gI] | simp only [eq_true hg, gI]))) | (with_reducible first | refine qf ?_ | refine qe ?_ | refine qk ?_ | refine qj ?_) | refine qc ?_ | refine qh ?_ | refine qi ?_ | refine qm ?_) <;> (try simp (disch := first | omega | simp) [qg, -qq, -qr, hall2, hpos])) | ((with_reducible refine sideT ?_ ?_); first | omega | assumption | (simp; done)) | (refine qd fun K hK => ?_) | (refine qa ?_) | refine ql ?_ | ((first | refine hK _ ?_ | (clear hK K; refine hK _ ?_) | (clear hK K; clear hK K; refine hK _ ?_)); clear hK K) | refine qb ?_)
            refine qs hcl (fun k : Nat => [(1, .ptr n0 0), (2, .ptr (n0 + 1) 0), (3, .ptr (n0 + 2) 0), (9, .int k), (60, .int 17)])
              (fun k => [.cells [.int 17, .int n, .str s, .sl (l.map Ex.av)] 25, .cells [.int 0, .int 0, .str ByteArray.empty, .v (.slice none 0 0)] 25, .cells [.int 17, .int n, .str s, .gs (n0 + 3) [a.av, b.av]] 25, .tail l.length 25 4])
              (fun k => k ≤ 2 ∧ (0 < k → qx a = false) ∧ (1 < k → qx b = false)) (fun k => 2 - k) 0 (by simp) (by simp) fun k ⟨hk, h1, h2⟩ => ?_
            match k, hk, h1, h2 with
            | 0, _, _, _ =>
              cases hca : qx a with
              | true =>
                have ha2 := hta2 hca
                rw [hca] at cpa hR
                rw [decide_eq_true ha2, Bool.true_and] at cta
                rw [if_pos rfl] at hR
                by_cases hn : a.n = 1
                · rw [decide_eq_true hn] at cta hR
                  simp at hR
                  repeat' (first | ((first | ((with_reducible refine qo (fun hg => ?_) (fun hg => ?_)) <;> (try simp only [hg]) <;> (try simp only [gS] at hg) <;> (try (first | simp only [eq_false hg, gI] | simp only [eq_true hg, gI]))) | (with_reducible first | refine qf ?_ | refine qe ?_ | refine qk ?_ | refine qj ?_) | refine acall (cpa) ?_ | refine qp (cpa) ?_ | refine acall (cta) ?_ | refine qp (cta) ?_ | refine qc ?_ | refine qh ?_ | refine qi ?_ | refine qm ?_) <;> (try simp (disch := first | omega | simp) [qg, -qq, -qr])) | ((with_reducible refine sideT ?_ ?_); first | omega | assumption | (simp; done)) | (refine qd fun K hK => ?_) | (refine qa ?_) | refine ql ?_ | ((first | refine hK _ ?_ | (clear hK K; refine hK _ ?_) | (clear hK K; clear hK K; refine hK _ ?_)); clear hK K) | refine qb ?_)
                  all_goals (rw [hR]; done)
                · rw [decide_eq_false hn] at cta hR
                  simp at hR
                  repeat' (first | ((first | ((with_reducible refine qo (fun hg => ?_) (fun hg => ?_)) <;> (try simp only [hg]) <;> (try simp only [gS] at hg) <;> (try (first | simp only [eq_false hg, gI] | simp only [eq_true hg, gI]))) | (with_reducible first | refine qf ?_ | refine qe ?_ | refine qk ?_ | refine qj ?_) | refine acall (cpa) ?_ | refine qp (cpa) ?_ | refine acall (cta) ?_ | refine qp (cta) ?_ | refine qc ?_ | refine qh ?_ | refine qi ?_ | refine qm ?_) <;> (try simp (disch := first | omega | simp) [qg, -qq, -qr])) | ((with_reducible refine sideT ?_ ?_); first | omega | assumption | (simp; done)) | (refine qd fun K hK => ?_) | (refine qa ?_) | refine ql ?_ | ((first | refine hK _ ?_ | (clear hK K; refine hK _ ?_) | (clear hK K; clear hK K; refine hK _ ?_)); clear hK K) | refine qb ?_)
                  all_goals (rw [hR]; done)
              | false =>
                rw [hca] at cpa
                repeat' (first | ((first | ((with_reducible refine qo (fun hg => ?_) (fun hg => ?_)) <;> (try simp only [hg]) <;> (try simp only [gS] at hg) <;> (try (first | simp only [eq_false hg, gI] | simp only [eq_true hg, gI]))) | (with_reducible first | refine qf ?_ | refine qe ?_ | refine qk ?_ | refine qj ?_) | refine acall (cpa) ?_ | refine qp (cpa) ?_ | refine qc ?_ | refine qh ?_ | refine qi ?_ | refine qm ?_) <;> (try simp (disch := first | omega | simp) [qg, -qq, -qr])) | ((with_reducible refine sideT ?_ ?_); first | omega | assumption | (simp; done)) | (refine qd fun K hK => ?_) | (refine qa ?_) | refine ql ?_ | ((first | refine hK _ ?_ | (clear hK K; refine hK _ ?_) | (clear hK K; clear hK K; refine hK _ ?_)); clear hK K) | refine qb ?_)
                refine ⟨1, ?_⟩
                simp [hca]
            | 1, _, h1, _ =>
              have hca := h1 (by omega)
              rw [hca, if_neg (by simp)] at hR
              cases hcb : qx b with
              | true =>
                have hb2 := htb2 hcb
                rw [hcb] at cpb hR
                rw [decide_eq_true hb2, Bool.true_and] at ctb
                rw [if_pos rfl] at hR
                by_cases hn : b.n = 1
                · rw [decide_eq_true hn] at ctb hR
                  simp at hR
                  repeat' (first | ((first | ((with_reducible refine qo (fun hg => ?_) (fun hg => ?_)) <;> (try simp only [hg]) <;> (try simp only [gS] at hg) <;> (try (first | simp only [eq_false hg, gI] | simp only [eq_true hg, gI]))) | (with_reducible first | refine qf ?_ | refine qe ?_ | refine qk ?_ | refine qj ?_) | refine acall (cpb) ?_ | refine qp (cpb) ?_ | refine acall (ctb) ?_ | refine qp (ctb) ?_ | refine qc ?_ | refine qh ?_ | refine qi ?_ | refine qm ?_) <;> (try simp (disch := first | omega | simp) [qg, -qq, -qr])) | ((with_reducible refine sideT ?_ ?_); first | omega | assumption | (simp; done)) | (refine qd fun K hK => ?_) | (refine qa ?_) | refine ql ?_ | ((first | refine hK _ ?_ | (clear hK K; refine hK _ ?_) | (clear hK K; clear hK K; refine hK _ ?_)); clear hK K) | refine qb ?_)
                  all_goals (rw [hR]; done)
                · rw [decide_eq_false hn] at ctb hR
                  simp at hR
                  repeat' (first | ((first | ((with_reducible refine qo (fun hg => ?_) (fun hg => ?_)) <;> (try simp only [hg]) <;> (try simp only [gS] at hg) <;> (try (first | simp only [eq_false hg, gI] | simp only [eq_true hg, gI]))) | (with_reducible first | refine qf ?_ | refine qe ?_ | refine qk ?_ | refine qj ?_) | refine acall (cpb) ?_ | refine qp (cpb) ?_ | refine acall (ctb) ?_ | refine qp (ctb) ?_ | refine qc ?_ | refine qh ?_ | refine qi ?_ | refine qm ?_) <;> (try simp (disch := first | omega | simp) [qg, -qq, -qr])) | ((with_reducible refine sideT ?_ ?_); first | omega | assumption | (simp; done)) | (refine qd fun K hK => ?_) | (refine qa ?_) | refine ql ?_ | ((first | refine hK _ ?_ | (clear hK K; refine hK _ ?_) | (clear hK K; clear hK K; refine hK _ ?_)); clear hK K) | refine qb ?_)
                  all_goals (rw [hR]; done)
              | false =>
                rw [hcb] at cpb
                repeat' (first | ((first | ((with_reducible refine qo (fun hg => ?_) (fun hg => ?_)) <;> (try simp only [hg]) <;> (try simp only [gS] at hg) <;> (try (first | simp only [eq_false hg, gI] | simp only [eq_true hg, gI]))) | (with_reducible first | refine qf ?_ | refine qe ?_ | refine qk ?_ | refine qj ?_) | refine acall (cpb) ?_ | refine qp (cpb) ?_ | refine qc ?_ | refine qh ?_ | refine qi ?_ | refine qm ?_) <;> (try simp (disch := first | omega | simp) [qg, -qq, -qr])) | ((with_reducible refine sideT ?_ ?_); first | omega | assumption | (simp; done)) | (refine qd fun K hK => ?_) | (refine qa ?_) | refine ql ?_ | ((first | refine hK _ ?_ | (clear hK K; refine hK _ ?_) | (clear hK K; clear hK K; refine hK _ ?_)); clear hK K) | refine qb ?_)
                refine ⟨2, ?_⟩
                simp [hca, hcb]
            | 2, _, h1, h2 =>
              have hca := h1 (by omega)
              have hcb := h2 (by omega)
              rw [hca, hcb, if_neg (by simp), if_neg (by simp)] at hR
              repeat' (first | ((first | ((with_reducible refine qo (fun hg => ?_) (fun hg => ?_)) <;> (try simp only [hg]) <;> (try simp only [gS] at hg) <;> (try (first | simp only [eq_false hg, gI] | simp only [eq_true hg, gI]))) | (with_reducible first | refine qf ?_ | refine qe ?_ | refine qk ?_ | refine qj ?_) | refine qc ?_ | refine qh ?_ | refine qi ?_ | refine qm ?_) <;> (try simp (disch := first | omega | simp) [qg, -qq, -qr])) | ((with_reducible refine sideT ?_ ?_); first | omega | assumption | (simp; done)) | (refine qd fun K hK => ?_) | (refine qa ?_) | refine ql ?_ | ((first | refine hK _ ?_ | (clear hK K; refine hK _ ?_) | (clear hK K; clear hK K; refine hK _ ?_)); clear hK K) | refine qb ?_)
              all_goals (rw [hR]; simp)
          · repeat' (first | ((first | ((with_reducible refine qo (fun hg => ?_) (fun hg => ?_)) <;> (try simp only [hg]) <;> (try simp only [gS] at hg) <;> (try (first | simp only [eq_false hg, gI] | simp only [eq_true hg, gI]))) | (with_reducible first | refine qf ?_ | refine qe ?_ | refine qk ?_ | refine qj ?_) | refine qc ?_ | refine qh ?_ | refine qi ?_ | refine qm ?_) <;> (try simp (disch := first | omega | simp) [qg, -qq, -qr, hall2, hpos])) | ((with_reducible refine sideT ?_ ?_); first | omega | assumption | (simp; done)) | (refine qd fun K hK => ?_) | (refine qa ?_) | refine ql ?_ | ((first | refine hK _ ?_ | (clear hK K; refine hK _ ?_) | (clear hK K; clear hK K; refine hK _ ?_)); clear hK K) | refine qb ?_)
            refine qs hcl (fun k : Nat => [(1, .ptr n0 0), (2, .ptr (n0 + 1) 0), (3, .ptr (n0 + 2) 0), (9, .int k), (60, .int 18)])
              (fun k => [.cells [.int 18, .int n, .str s, .sl (l.map Ex.av)] 25, .cells [.int 0, .int 0, .str ByteArray.empty, .v (.slice none 0 0)] 25, .cells [.int 18, .int n, .str s, .gs (n0 + 3) [a.av, b.av]] 25, .tail l.length 25 4])
              (fun k => k ≤ 2 ∧ (0 < k → qx a = false) ∧ (1 < k → qx b = false)) (fun k => 2 - k) 0 (by simp) (by simp) fun k ⟨hk, h1, h2⟩ => ?_
            match k, hk, h1, h2 with
            | 0, _, _, _ =>
              cases hca : qx a with
              | true =>
                have ha2 := hta2 hca
                rw [hca] at cpa hR
                rw [decide_eq_true ha2, Bool.true_and] at cta
                rw [if_pos rfl] at hR
                by_cases hn : a.n = 1
                · rw [decide_eq_true hn] at cta hR
                  simp at hR
                  repeat' (first | ((first | ((with_reducible refine qo (fun hg => ?_) (fun hg => ?_)) <;> (try simp only [hg]) <;> (try simp only [gS] at hg) <;> (try (first | simp only [eq_false hg, gI] | simp only [eq_true hg, gI]))) | (with_reducible first | refine qf ?_ | refine qe ?_ | refine qk ?_ | refine qj ?_) | refine acall (cpa) ?_ | refine qp (cpa) ?_ | refine acall (cta) ?_ | refine qp (cta) ?_ | refine qc ?_ | refine qh ?_ | refine qi ?_ | refine qm ?_) <;> (try simp (disch := first | omega | simp) [qg, -qq, -qr])) | ((with_reducible refine sideT ?_ ?_); first | omega | assumption | (simp; done)) | (refine qd fun K hK => ?_) | (refine qa ?_) | refine ql ?_ | ((first | refine hK _ ?_ | (clear hK K; refine hK _ ?_) | (clear hK K; clear hK K; refine hK _ ?_)); clear hK K) | refine qb ?_)
                  all_goals (rw [hR]; done)
                · rw [decide_eq_false hn] at cta hR
                  simp at hR
                  repeat' (first | ((first | ((with_reducible refine qo (fun hg => ?_) (fun hg => ?_)) <;> (try simp only [hg]) <;> (try simp only [gS] at hg) <;> (try (first | simp only [eq_false hg, gI] | simp only [eq_true hg, gI]))) | (with_reducible first | refine qf ?_ | refine qe ?_ | refine qk ?_ | refine qj ?_) | refine acall (cpa) ?_ | refine qp (cpa) ?_ | refine acall (cta) ?_ | refine qp (cta) ?_ | refine qc ?_ | refine qh ?_ | refine qi ?_ | refine qm ?_) <;> (try simp (disch := first | omega | simp) [qg, -qq, -qr])) | ((with_reducible refine sideT ?_ ?_); first | omega | assumption | (simp; done)) | (refine qd fun K hK => ?_) | (refine qa ?_) | refine ql ?_ | ((first | refine hK _ ?_ | (clear hK K; refine hK _ ?_) | (clear hK K; clear hK K; refine hK _ ?_)); clear hK K) | refine qb ?_)
                  all_goals (rw [hR]; done)
              | false =>
                rw [hca] at cpa
                repeat' (first | ((first | ((with_reducible refine qo (fun hg => ?_) (fun hg => ?_)) <;> (try simp only [hg]) <;> (try simp only [gS] at hg) <;> (try (first | simp only [eq_false hg, gI] | simp only [eq_true hg, gI]))) | (with_reducible first | refine qf ?_ | refine qe ?_ | refine qk ?_ | refine qj ?_) | refine acall (cpa) ?_ | refine qp (cpa) ?_ | refine qc ?_ | refine qh ?_ | refine qi ?_ | refine qm ?_) <;> (try simp (disch := first | omega | simp) [qg, -qq, -qr])) | ((with_reducible refine sideT ?_ ?_); first | omega | assumption | (simp; done)) | (refine qd fun K hK => ?_) | (refine qa ?_) | refine ql ?_ | ((first | refine hK _ ?_ | (clear hK K; refine hK _ ?_) | (clear hK K; clear hK K; refine hK _ ?_)); clear hK K) | refine qb ?_)
                refine ⟨1, ?_⟩
                simp [hca]
            | 1, _, h1, _ =>
              have hca := h1 (by omega)
              rw [hca, if_neg (by simp)] at hR
              cases hcb : qx b with
              | true =>
                have hb2 := htb2 hcb
                rw [hcb] at cpb hR
                rw [decide_eq_true hb2, Bool.true_and] at ctb
                rw [if_pos rfl] at hR
                by_cases hn : b.n = 1
                · rw [decide_eq_true hn] at ctb hR
                  simp at hR
                  repeat' (first | ((first | ((with_reducible refine qo (fun hg => ?_) (fun hg => ?_)) <;> (try simp only [hg]) <;> (try simp only [gS] at hg) <;> (try (first | simp only [eq_false hg, gI] | simp only [eq_true hg, gI]))) | (with_reducible first | refine qf ?_ | refine qe ?_ | refine qk ?_ | refine qj ?_) | refine acall (cpb) ?_ | refine qp (cpb) ?_ | refine acall (ctb) ?_ | refine qp (ctb) ?_ | refine qc ?_ | refine qh ?_ | refine qi ?_ | refine qm ?_) <;> (try simp (disch := first | omega | simp) [qg, -qq, -qr])) | ((with_reducible refine sideT ?_ ?_); first | omega | assumption | (simp; done)) | (refine qd fun K hK => ?_) | (refine qa ?_) | refine ql ?_ | ((first | refine hK _ ?_ | (clear hK K; refine hK _ ?_) | (clear hK K; clear hK K; refine hK _ ?_)); clear hK K) | refine qb ?_)
                  all_goals (rw [hR]; done)
                · rw [decide_eq_false hn] at ctb hR
                  simp at hR
                  repeat' (first | ((first | ((with_reducible refine qo (fun hg => ?_) (fun hg => ?_)) <;> (try simp only [hg]) <;> (try simp only [gS] at hg) <;> (try (first | simp only [eq_false hg, gI] | simp only [eq_true hg, gI]))) | (with_reducible first | refine qf ?_ | refine qe ?_ | refine qk ?_ | refine qj ?_) | refine acall (cpb) ?_ | refine qp (cpb) ?_ | refine acall (ctb) ?_ | refine qp (ctb) ?_ | refine qc ?_ | refine qh ?_ | refine qi ?_ | refine qm ?_) <;> (try simp (disch := first | omega | simp) [qg, -qq, -qr])) | ((with_reducible refine sideT ?_ ?_); first | omega | assumption | (simp; done)) | (refine qd fun K hK => ?_) | (refine qa ?_) | refine ql ?_ | ((first | refine hK _ ?_ | (clear hK K; refine hK _ ?_) | (clear hK K; clear hK K; refine hK _ ?_)); clear hK K) | refine qb ?_)
                  all_goals (rw [hR]; done)
              | false =>
                rw [hcb] at cpb
                repeat' (first | ((first | ((with_reducible refine qo (fun hg => ?_) (fun hg => ?_)) <;> (try simp only [hg]) <;> (try simp only [gS] at hg) <;> (try (first | simp only [eq_false hg, gI] | simp only [eq_true hg, gI]))) | (with_reducible first | refine qf ?_ | refine qe ?_ | refine qk ?_ | refine qj ?_) | refine acall (cpb) ?_ | refine qp (cpb) ?_ | refine qc ?_ | refine qh ?_ | refine qi ?_ | refine qm ?_) <;> (try simp (disch := first | omega | simp) [qg, -qq, -qr])) | ((with_reducible refine sideT ?_ ?_); first | omega | assumption | (simp; done)) | (refine qd fun K hK => ?_) | (refine qa ?_) | refine ql ?_ | ((first | refine hK _ ?_ | (clear hK K; refine hK _ ?_) | (clear hK K; clear hK K; refine hK _ ?_)); clear hK K) | refine qb ?_)
                refine ⟨2, ?_⟩
                simp [hca, hcb]
            | 2, _, h1, h2 =>
              have hca := h1 (by omega)
              have hcb := h2 (by omega)
              rw [hca, hcb, if_neg (by simp), if_neg (by simp)] at hR
              repeat' (first | ((first | ((with_reducible refine qo (fun hg => ?_) (fun hg => ?_)) <;> (try simp only [hg]) <;> (try simp only [gS] at hg) <;> (try (first | simp only [eq_false hg, gI] | simp only [eq_true hg, gI]))) | (with_reducible first | refine qf ?_ | refine qe ?_ | refine qk ?_ | refine qj ?_) | refine qc ?_ | refine qh ?_ | refine qi ?_ | refine qm ?_) <;> (try simp (disch := first | omega | simp) [qg, -qq, -qr])) | ((with_reducible refine sideT ?_ ?_); first | omega | assumption | (simp; done)) | (refine qd fun K hK => ?_) | (refine qa ?_) | refine ql ?_ | ((first | refine hK _ ?_ | (clear hK K; refine hK _ ?_) | (clear hK K; clear hK K; refine hK _ ?_)); clear hK K) | refine qb ?_)
              all_goals (rw [hR]; simp)
        · rw [if_neg h17] at hR
          have h171 : (o == 17) = false := beq_eq_false_iff_ne.2 fun e => h17 (.inl e)
          have h172 : (o == 18) = false := beq_eq_false_iff_ne.2 fun e => h17 (.inr e)
          by_cases h6 : o = 6
          · subst h6
            obtain ⟨x, rfl, hx⟩ := shape_not ht'
            rw [if_pos rfl] at hR
            obtain ⟨o2, n2, s2, l2⟩ := x
            unfold notP at hR
            dsimp only at hR
            by_cases h26 : o2 = 6
            · subst h26
              obtain ⟨y, rfl⟩ := hx rfl
              rw [if_pos rfl] at hR
              simp only [Ex.av_mk, List.map_cons, List.map_nil] at *
              repeat' (first | ((first | ((with_reducible refine qo (fun hg => ?_) (fun hg => ?_)) <;> (try simp only [hg]) <;> (try simp only [gS] at hg) <;> (try (first | simp only [eq_false hg, gI] | simp only [eq_true hg, gI]))) | (with_reducible first | refine qf ?_ | refine qe ?_ | refine qk ?_ | refine qj ?_) | refine qc ?_ | refine qh ?_ | refine qi ?_ | refine qm ?_) <;> (try simp (disch := first | omega | simp) [qg, -qq, -qr, hall2, hpos])) | ((with_reducible refine sideT ?_ ?_); first | omega | assumption | (simp; done)) | (refine qd fun K hK => ?_) | (refine qa ?_) | refine ql ?_ | ((first | refine hK _ ?_ | (clear hK K; refine hK _ ?_) | (clear hK K; clear hK K; refine hK _ ?_)); clear hK K) | refine qb ?_)
              all_goals first | (rw [hR]; done) | (rw [hR]; simp; done)
            · rw [if_neg h26] at hR
              have h27 : (o2 == 6) = false := beq_eq_false_iff_ne.2 h26
              simp only [Ex.av_mk, List.map_cons, List.map_nil] at *
              repeat' (first | ((first | ((with_reducible refine qo (fun hg => ?_) (fun hg => ?_)) <;> (try simp only [hg]) <;> (try simp only [gS] at hg) <;> (try (first | simp only [eq_false hg, gI] | simp only [eq_true hg, gI]))) | (with_reducible first | refine qf ?_ | refine qe ?_ | refine qk ?_ | refine qj ?_) | refine qc ?_ | refine qh ?_ | refine qi ?_ | refine qm ?_) <;> (try simp (disch := first | omega | simp) [qg, -qq, -qr, hall2, hpos, h27])) | ((with_reducible refine sideT ?_ ?_); first | omega | assumption | (simp; done)) | (refine qd fun K hK => ?_) | (refine qa ?_) | refine ql ?_ | ((first | refine hK _ ?_ | (clear hK K; refine hK _ ?_) | (clear hK K; clear hK K; refine hK _ ?_)); clear hK K) | refine qb ?_)
              all_goals first | (rw [hR]; done) | (rw [hR]; simp; done)
          · rw [if_neg h6] at hR
            have h61 : (o == 6) = false := beq_eq_false_iff_ne.2 h6
            repeat' (first | ((first | ((with_reducible refine qo (fun hg => ?_) (fun hg => ?_)) <;> (try simp only [hg]) <;> (try simp only [gS] at hg) <;> (try (first | simp only [eq_false hg, gI] | simp only [eq_true hg, gI]))) | (with_reducible first | refine qf ?_ | refine qe ?_ | refine qk ?_ | refine qj ?_) | refine qc ?_ | refine qh ?_ | refine qi ?_ | refine qm ?_) <;> (try simp (disch := first | omega | simp) [qg, -qq, -qr, hall2, hpos, ho22, ho23, h211, h171, h172, h61])) | ((with_reducible refine sideT ?_ ?_); first | omega | assumption | (simp; done)) | (refine qd fun K hK => ?_) | (refine qa ?_) | refine ql ?_ | ((first | refine hK _ ?_ | (clear hK K; refine hK _ ?_) | (clear hK K; clear hK K; refine hK _ ?_)); clear hK K) | refine qb ?_)
            all_goals first | (rw [hR]; done) | (rw [hR]; simp; done)
end Go.Proofs.YtnkimlkoijfcpaaGreatDoor

/- Walks of layer 16: Clone and put, of the reference. -/
namespace Go.Proofs.YtnkimlkoijfcpaaGreatDoor
open Go.RowKit Go.Lib
set_option maxHeartbeats 4000000 in
theorem rclone_g (e : Ex) : parts e ≤ 1000000 → Gives Tryz.prog 190 [e.av] e.av := by
  induction e using Ex.ind with | h o n s l ih => ?_
  intro hb
  have hl : l.length ≤ 1000000 := by rw [parts] at hb; have := qbd l; omega
  refine qn Tryz.func190 Tryz.ntmps190 rfl rfl (by decide) rfl (by intro n; simp) fun σ n0 hcl hft => ?_
  repeat' (first | ((first | ((with_reducible refine qo (fun hg => ?_) (fun hg => ?_)) <;> (try simp only [hg]) <;> (try simp only [gS] at hg) <;> (try (first | simp only [eq_false hg, gI] | simp only [eq_true hg, gI]))) | (with_reducible first | refine qf ?_ | refine qe ?_ | refine qk ?_ | refine qj ?_) | refine qc ?_ | refine qh ?_ | refine qi ?_ | refine qm ?_) <;> (try simp (disch := first | omega | simp) [qg, -qq, -qr])) | ((with_reducible refine sideT ?_ ?_); first | omega | assumption | (simp; done)) | (refine qd fun K hK => ?_) | (refine qa ?_) | refine ql ?_ | ((first | refine hK _ ?_ | (clear hK K; refine hK _ ?_) | (clear hK K; clear hK K; refine hK _ ?_)); clear hK K) | refine qb ?_)
  refine qbf 2 3 25 4 (by rfl) (by rfl) ?_
  refine qs hcl (fun k : Nat => [(1, .ptr n0 0), (2, .ptr (n0 + 1) 0), (3, .ptr (n0 + 2) 0), (4, .int k)])
    (fun k => [.cells [.int o, .int n, .str s, .sl (l.map Ex.av)] 25, .cells [.int 0, .int 0, .str ByteArray.empty, .v (.slice none 0 0)] 25, .cells [.int o, .int n, .str s, .gs (n0 + 3) ((l.take k).map Ex.av)] 25, .tail k 25 4])
    (fun k => k ≤ l.length) (fun k => l.length - k) 0 (by simp) (by simp) fun k hk => ?_
  have hcls : ∀ m k, AV.cls m (List.take k (l.map Ex.av)) := fun m k => by rw [← List.map_take]; exact AV.cls_map (fun e => e.av_cl m) _
  by_cases hlt : k < l.length
  · have hpk : parts l[k] ≤ 1000000 := by rw [parts] at hb; have := qbb l l[k] (List.getElem_mem hlt); omega
    have c1 := ih _ (List.getElem_mem hlt) hpk
    have hlk : min k l.length = k := by omega
    have bs : (k + 1) * 48 ≤ 140737488355328 := by omega
    repeat' (first | ((first | ((with_reducible refine qo (fun hg => ?_) (fun hg => ?_)) <;> (try simp only [hg]) <;> (try simp only [gS] at hg) <;> (try (first | simp only [eq_false hg, gI] | simp only [eq_true hg, gI]))) | (with_reducible first | refine qf ?_ | refine qe ?_ | refine qk ?_ | refine qj ?_) | refine acall (c1) ?_ | refine qp (c1) ?_ | refine qc ?_ | refine qh ?_ | refine qi ?_ | refine qm ?_) <;> (try simp (disch := first | omega | simp) [qg, -qq, -qr, hlt, hlk, bs, hcls])) | (with_reducible refine qdd (id := 5) false (by kernel_rfl) (by kernel_rfl) ?_) | ((with_reducible refine sideT ?_ ?_); first | omega | assumption | (simp; done)) | (refine qd fun K hK => ?_) | (refine qa ?_) | refine ql ?_ | ((first | refine hK _ ?_ | (clear hK K; refine hK _ ?_) | (clear hK K; clear hK K; refine hK _ ?_)); clear hK K) | refine qb ?_)
    exact ⟨k + 1, by omega, by omega, by simp [List.take_add_one, hlt, hcls]⟩
  · obtain rfl : k = l.length := by omega
    rw [List.take_length]
    repeat' (first | ((first | ((with_reducible refine qo (fun hg => ?_) (fun hg => ?_)) <;> (try simp only [hg]) <;> (try simp only [gS] at hg) <;> (try (first | simp only [eq_false hg, gI] | simp only [eq_true hg, gI]))) | (with_reducible first | refine qf ?_ | refine qe ?_ | refine qk ?_ | refine qj ?_) | refine qc ?_ | refine qh ?_ | refine qi ?_ | refine qm ?_) <;> (try simp (disch := first | omega | simp) [qg, -qq, -qr, hlt])) | ((with_reducible refine sideT ?_ ?_); first | omega | assumption | (simp; done)) | (refine qd fun K hK => ?_) | (refine qa ?_) | refine ql ?_ | ((first | refine hK _ ?_ | (clear hK K; refine hK _ ?_) | (clear hK K; clear hK K; refine hK _ ?_)); clear hK K) | refine qb ?_)
set_option maxHeartbeats 4000000 in
theorem rput_g (op : Int) (L : List Ex) (hL : ∀ x ∈ L, parts x ≤ 1000000) (e : Ex) : parts e ≤ 1000000 → Gives Tryz.prog 159 [e.av, .int op, .sl (L.map Ex.av)] (exr (putP op L e)) := by
  induction e using Ex.ind with | h o n s l ih => ?_
  intro hb
  have hl : l.length ≤ 1000000 := by rw [parts] at hb; have := qbd l; omega
  obtain ⟨R, hR⟩ : ∃ R, R = putP op L (.mk o n s l) := ⟨_, rfl⟩
  rw [← hR]
  rw [putP] at hR
  refine qn Tryz.func159 Tryz.ntmps159 rfl rfl (by decide) rfl (by intro n; simp) fun σ n0 hcl hft => ?_
  by_cases ho : o = op
  · have hob : (o == op) = true := beq_iff_eq.2 ho
    rw [if_pos ho] at hR
    by_cases hn : n < 0
    · rw [if_pos hn] at hR
      repeat' (first | ((first | ((with_reducible refine qo (fun hg => ?_) (fun hg => ?_)) <;> (try simp only [hg]) <;> (try simp only [gS] at hg) <;> (try (first | simp only [eq_false hg, gI] | simp only [eq_true hg, gI]))) | (with_reducible first | refine qf ?_ | refine qe ?_ | refine qk ?_ | refine qj ?_) | refine qc ?_ | refine qh ?_ | refine qi ?_ | refine qm ?_) <;> (try simp (disch := first | omega | simp) [qg, -qq, -qr, hob, hn])) | ((with_reducible refine sideT ?_ ?_); first | omega | assumption | (simp; done)) | (refine qd fun K hK => ?_) | (refine qa ?_) | refine ql ?_ | ((first | refine hK _ ?_ | (clear hK K; refine hK _ ?_) | (clear hK K; clear hK K; refine hK _ ?_)); clear hK K) | refine qb ?_)
      all_goals (rw [hR]; simp)
    · rw [if_neg hn] at hR
      by_cases hn2 : n.toNat < L.length
      · have c1 := rclone_g L[n.toNat] (hL _ (List.getElem_mem hn2))
        have hn3 : n < L.length := by omega
        have hn4 : ¬ (L.length : Int) ≤ n := by omega
        rw [List.getElem?_eq_getElem hn2] at hR
        repeat' (first | ((first | ((with_reducible refine qo (fun hg => ?_) (fun hg => ?_)) <;> (try simp only [hg]) <;> (try simp only [gS] at hg) <;> (try (first | simp only [eq_false hg, gI] | simp only [eq_true hg, gI]))) | (with_reducible first | refine qf ?_ | refine qe ?_ | refine qk ?_ | refine qj ?_) | refine acall (c1) ?_ | refine qp (c1) ?_ | refine qc ?_ | refine qh ?_ | refine qi ?_ | refine qm ?_) <;> (try simp (disch := first | omega | simp) [qg, -qq, -qr, hob, hn, hn2, hn3, hn4])) | ((with_reducible refine sideT ?_ ?_); first | omega | assumption | (simp; done)) | (refine qd fun K hK => ?_) | (refine qa ?_) | refine ql ?_ | ((first | refine hK _ ?_ | (clear hK K; refine hK _ ?_) | (clear hK K; clear hK K; refine hK _ ?_)); clear hK K) | refine qb ?_)
        all_goals (rw [hR]; simp)
      · have hn4 : (L.length : Int) ≤ n := by omega
        rw [List.getElem?_eq_none (by omega)] at hR
        repeat' (first | ((first | ((with_reducible refine qo (fun hg => ?_) (fun hg => ?_)) <;> (try simp only [hg]) <;> (try simp only [gS] at hg) <;> (try (first | simp only [eq_false hg, gI] | simp only [eq_true hg, gI]))) | (with_reducible first | refine qf ?_ | refine qe ?_ | refine qk ?_ | refine qj ?_) | refine qc ?_ | refine qh ?_ | refine qi ?_ | refine qm ?_) <;> (try simp (disch := first | omega | simp) [qg, -qq, -qr, hob, hn, hn4])) | ((with_reducible refine sideT ?_ ?_); first | omega | assumption | (simp; done)) | (refine qd fun K hK => ?_) | (refine qa ?_) | refine ql ?_ | ((first | refine hK _ ?_ | (clear hK K; refine hK _ ?_) | (clear hK K; clear hK K; refine hK _ ?_)); clear hK K) | refine qb ?_)
        all_goals (rw [hR]; simp)
  · have hob : (o == op) = false := beq_eq_false_iff_ne.2 ho
    rw [if_neg ho] at hR
    repeat' (first | ((first | ((with_reducible refine qo (fun hg => ?_) (fun hg => ?_)) <;> (try simp only [hg]) <;> (try simp only [gS] at hg) <;> (try (first | simp only [eq_false hg, gI] | simp only [eq_true hg, gI]))) | (with_reducible first | refine qf ?_ | refine qe ?_ | refine qk ?_ | refine qj ?_) | refine qc ?_ | refine qh ?_ | refine qi ?_ | refine qm ?_) <;> (try simp (disch := first | omega | simp) [qg, -qq, -qr, hob])) | ((with_reducible refine sideT ?_ ?_); first | omega | assumption | (simp; done)) | (refine qd fun K hK => ?_) | (refine qa ?_) | refine ql ?_ | ((first | refine hK _ ?_ | (clear hK K; refine hK _ ?_) | (clear hK K; clear hK K; refine hK _ ?_)); clear hK K) | refine qb ?_)
    refine qbf 2 3 25 4 (by rfl) (by rfl) ?_
    refine qs hcl (fun ys : List Ex => [(1, .int op), (2, .sl (L.map Ex.av)), (3, .ptr n0 0), (6, .ptr (n0 + 1) 0), (7, .bool false), (8, .ptr (n0 + 2) 0), (9, .int ys.length)])
      (fun ys => [.cells [.int o, .int n, .str s, .sl (l.map Ex.av)] 25, .cells [.int 0, .int 0, .str ByteArray.empty, .v (.slice none 0 0)] 25, .cells [.int o, .int n, .str s, .gs (n0 + 3) (ys.map Ex.av)] 25, .tail ys.length 25 4])
      (fun ys => ys.length ≤ l.length ∧ putPs op L (l.take ys.length) = some ys) (fun ys => l.length - ys.length) [] (by simp [putPs]) (by simp) fun ys ⟨hk, hys⟩ => ?_
    by_cases hlt : ys.length < l.length
    · have hpk : parts l[ys.length] ≤ 1000000 := by rw [parts] at hb; have := qbb l l[ys.length] (List.getElem_mem hlt); omega
      have c1 := ih _ (List.getElem_mem hlt) hpk
      have bs : (ys.length + 1) * 48 ≤ 140737488355328 := by omega
      cases hx : putP op L l[ys.length] with
      | none =>
        rw [hx] at c1
        rw [putPs_none l (List.getElem_mem hlt) hx] at hR
        repeat' (first | ((first | ((with_reducible refine qo (fun hg => ?_) (fun hg => ?_)) <;> (try simp only [hg]) <;> (try simp only [gS] at hg) <;> (try (first | simp only [eq_false hg, gI] | simp only [eq_true hg, gI]))) | (with_reducible first | refine qf ?_ | refine qe ?_ | refine qk ?_ | refine qj ?_) | refine acall (c1) ?_ | refine qp (c1) ?_ | refine qc ?_ | refine qh ?_ | refine qi ?_ | refine qm ?_) <;> (try simp (disch := first | omega | simp) [qg, -qq, -qr, hlt, bs])) | ((with_reducible refine sideT ?_ ?_); first | omega | assumption | (simp; done)) | (refine qd fun K hK => ?_) | (refine qa ?_) | refine ql ?_ | ((first | refine hK _ ?_ | (clear hK K; refine hK _ ?_) | (clear hK K; clear hK K; refine hK _ ?_)); clear hK K) | refine qb ?_)
        all_goals (rw [hR]; simp)
      | some x =>
        rw [hx] at c1
        have hst : putPs op L (l.take (ys.length + 1)) = some (ys ++ [x]) := by
          rw [List.take_succ_eq_append_getElem hlt]; exact putPs_snoc hx _ hys
        repeat' (first | ((first | ((with_reducible refine qo (fun hg => ?_) (fun hg => ?_)) <;> (try simp only [hg]) <;> (try simp only [gS] at hg) <;> (try (first | simp only [eq_false hg, gI] | simp only [eq_true hg, gI]))) | (with_reducible first | refine qf ?_ | refine qe ?_ | refine qk ?_ | refine qj ?_) | refine acall (c1) ?_ | refine qp (c1) ?_ | refine qc ?_ | refine qh ?_ | refine qi ?_ | refine qm ?_) <;> (try simp (disch := first | omega | simp) [qg, -qq, -qr, hlt, bs])) | ((with_reducible refine sideT ?_ ?_); first | omega | assumption | (simp; done)) | (refine qd fun K hK => ?_) | (refine qa ?_) | refine ql ?_ | ((first | refine hK _ ?_ | (clear hK K; refine hK _ ?_) | (clear hK K; clear hK K; refine hK _ ?_)); clear hK K) | refine qb ?_)
        exact ⟨ys ++ [x], ⟨by simp; omega, by simpa using hst⟩, by simp; omega, by simp⟩
    · have hyl : ys.length = l.length := by omega
      rw [hyl, List.take_length] at hys
      rw [hys] at hR
      repeat' (first | ((first | ((with_reducible refine qo (fun hg => ?_) (fun hg => ?_)) <;> (try simp only [hg]) <;> (try simp only [gS] at hg) <;> (try (first | simp only [eq_false hg, gI] | simp only [eq_true hg, gI]))) | (with_reducible first | refine qf ?_ | refine qe ?_ | refine qk ?_ | refine qj ?_) | refine qc ?_ | refine qh ?_ | refine qi ?_ | refine qm ?_) <;> (try simp (disch := first | omega | simp) [qg, -qq, -qr, hlt])) | ((with_reducible refine sideT ?_ ?_); first | omega | assumption | (simp; done)) | (refine qd fun K hK => ?_) | (refine qa ?_) | refine ql ?_ | ((first | refine hK _ ?_ | (clear hK K; refine hK _ ?_) | (clear hK K; clear hK K; refine hK _ ?_)); clear hK K) | refine qb ?_)
      all_goals (rw [hR]; simp)
end Go.Proofs.YtnkimlkoijfcpaaGreatDoor
