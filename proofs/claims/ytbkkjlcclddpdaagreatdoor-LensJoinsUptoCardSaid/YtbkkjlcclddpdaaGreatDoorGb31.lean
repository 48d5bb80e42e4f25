/- Walk of lens.Back. -/
import Derived.Test.YtbkkjlcclddpdaaGreatDoorGb10
import Derived.Test.YtbkkjlcclddpdaaGreatDoorGb14
import Derived.Test.YtbkkjlcclddpdaaGreatDoorGb18
import Derived.Test.YtbkkjlcclddpdaaGreatDoorGb26
import Derived.Test.YtbkkjlcclddpdaaGreatDoorGb27
import Derived.Test.YtbkkjlcclddpdaaGreatDoorGb30
set_option linter.unusedSimpArgs false
set_option linter.unusedVariables false
namespace Go.Proofs.YtbkkjlcclddpdaaGreatDoor
open Go.RowKit Go.Lib
theorem backL_two (L : List Lens) : ∀ x ∈ backL L, x.length = 2 := fun x hx => by
  unfold backL at hx
  obtain ⟨a, ha, rfl⟩ := List.mem_map.1 hx
  rw [List.mem_range] at ha
  rw [List.getElem?_eq_getElem (by omega)]
  rfl
set_option maxHeartbeats 4000000 in
theorem back_g {l : List Lens} {cols : List Col} {ss : List (List Col)} {row : List Val} (hs : qbg l cols = (ss, 0)) (hl : ∀ x ∈ l, qea x) (h0 : 1 ≤ cols.length) (h1 : cols.length ≤ 12) (hr : qbu row) (hlen : row.length = (shAt ss l.length).length) (R : List Val) (hR : qem l ss row = R) :
    Gives Tryz.prog 30 [.sl (l.map Lens.av), .sl (cols.map Col.av), .sl (row.map Val.av)] (.sl (R.map Val.av)) := by
  have hL : l.length ≤ 60 := by
    unfold qbg at hs
    by_cases h : 60 < l.length
    · rw [if_pos h] at hs; exact absurd (Prod.mk.inj hs).2 (by decide)
    · omega
  have hs' : qv l cols = (ss, 0) := by rw [qbg, if_neg (by omega)] at hs; exact hs
  obtain ⟨hc, hc0⟩ := chain_of hs' h0 h1
  have hbk := bckK_ok hc hl hr hlen
  have c1 := shapes_g l cols (fun x hx => (hl x hx).l) (by omega) h0 h1
  rw [hs] at c1
  have hrl := hc.sz l.length (by omega)
  have c2 := cloR row (by omega) (by omega)
  have hsl := hc.len
  refine gives_of_fwp Tryz.func30 Tryz.ntmps30 rfl rfl (by decide) rfl (by intro n; simp) fun σ n0 hcl hft => ?_
  refine qcw fun K hK => qer ?_
  repeat' (first | ((first | ((with_reducible refine qp (fun hg => ?_) (fun hg => ?_)) <;> (try simp only [hg]) <;> (try simp only [gS] at hg) <;> (try (first | simp only [eq_false hg, gI] | simp only [eq_true hg, gI]))) | (with_reducible first | refine qc ?_ | refine qb ?_ | refine qj ?_ | refine qi ?_) | refine qe ?_ | refine qk ?_ | refine qh ?_ | refine qo ?_) <;> (try simp (disch := first | omega | simp) [qg, -qq, -qu])) | ((with_reducible refine sideT ?_ ?_); first | omega | assumption | (simp; done)) | (refine qf fun K hK => ?_) | (refine qa ?_) | refine ql ?_ | ((first | refine hK _ ?_ | (clear hK K; refine hK _ ?_) | (clear hK K; clear hK K; refine hK _ ?_)); clear hK K) | refine qd ?_)
  refine hK _ _ ?_
  clear hK K
  refine qcw fun K hK => qer ?_
  repeat' (first | ((first | ((with_reducible refine qp (fun hg => ?_) (fun hg => ?_)) <;> (try simp only [hg]) <;> (try simp only [gS] at hg) <;> (try (first | simp only [eq_false hg, gI] | simp only [eq_true hg, gI]))) | (with_reducible first | refine qc ?_ | refine qb ?_ | refine qj ?_ | refine qi ?_) | refine acall (c1) ?_ | refine qn (c1) ?_ | refine acall (c2) ?_ | refine qn (c2) ?_ | refine qe ?_ | refine qk ?_ | refine qh ?_ | refine qo ?_) <;> (try simp (disch := first | omega | simp) [qg, -qq, -qu])) | ((with_reducible refine sideT ?_ ?_); first | omega | assumption | (simp; done)) | (refine qf fun K hK => ?_) | (refine qa ?_) | refine ql ?_ | ((first | refine hK _ ?_ | (clear hK K; refine hK _ ?_) | (clear hK K; clear hK K; refine hK _ ?_)); clear hK K) | refine qd ?_)
  refine hK _ _ ?_
  clear hK K
  refine qcw fun K hK => qer ?_
  repeat' (first | ((first | ((with_reducible refine qp (fun hg => ?_) (fun hg => ?_)) <;> (try simp only [hg]) <;> (try simp only [gS] at hg) <;> (try (first | simp only [eq_false hg, gI] | simp only [eq_true hg, gI]))) | (with_reducible first | refine qc ?_ | refine qb ?_ | refine qj ?_ | refine qi ?_) | refine acall (c1) ?_ | refine qn (c1) ?_ | refine acall (c2) ?_ | refine qn (c2) ?_ | refine qe ?_ | refine qk ?_ | refine qh ?_ | refine qo ?_) <;> (try simp (disch := first | omega | simp) [qg, -qq, -qu])) | ((with_reducible refine sideT ?_ ?_); first | omega | assumption | (simp; done)) | (refine qf fun K hK => ?_) | (refine qa ?_) | refine ql ?_ | ((first | refine hK _ ?_ | (clear hK K; refine hK _ ?_) | (clear hK K; clear hK K; refine hK _ ?_)); clear hK K) | refine qd ?_)
  refine hK _ _ ?_
  clear hK K
  refine qcw fun K hK => ?_
  refine qcw fun K2 hK2 => qer ?_
  repeat' (first | ((first | ((with_reducible refine qp (fun hg => ?_) (fun hg => ?_)) <;> (try simp only [hg]) <;> (try simp only [gS] at hg) <;> (try (first | simp only [eq_false hg, gI] | simp only [eq_true hg, gI]))) | (with_reducible first | refine qc ?_ | refine qb ?_ | refine qj ?_ | refine qi ?_) | refine acallB (back_b l) ?_ | refine qe ?_ | refine qk ?_ | refine qh ?_ | refine qo ?_) <;> (try simp (disch := first | omega | simp) [qg, -qq, -qu])) | ((with_reducible refine sideT ?_ ?_); first | omega | assumption | (simp; done)) | (refine qf fun K hK => ?_) | (refine qa ?_) | refine ql ?_ | ((first | refine hK _ ?_ | (clear hK K; refine hK _ ?_) | (clear hK K; clear hK K; refine hK _ ?_)); clear hK K) | refine qd ?_)
  refine hK2 _ _ ?_
  clear hK2 K2
  refine fwp_block ?_
  have hw := back_it (n0 + 2) l (by omega)
  have hbl := backL_len l
  have hb0 : bckK l ss row (l.length - 0) = row := bckK_end l ss row
  refine fwp_range (psl := [22, 23]) (by rfl) (by kernel_rfl) hw (fun k => [.cells [.sl (ss.map qdh)] 85, .cells [.sl ((bckK l ss row (l.length - k)).map Val.av)] 36, .cells [.sl (l.map Lens.av)] 22]) (fun k => [.cells [.sl (ss.map qdh)] 85, .cells [.sl ((bckK l ss row (l.length - k)).map Val.av)] 36, .cells [.sl (l.map Lens.av)] 22]) l.length false .ret (.inl rfl) (by rw [hb0]) (by omega) (by simp [hbl]) (by simp) hcl (fun _ _ => rfl) (fun _ _ => rfl) (fun _ _ => by simp) (fun _ _ _ => by simp) (fun _ _ _ => rfl) (by decide) (backL_two l) (fun k hk hx σ' σb nx h1 h2 hxc => ?_) ?_
  · obtain ⟨q, hq, rfl⟩ : ∃ q, q < l.length ∧ k = l.length - (q + 1) := ⟨l.length - (k + 1), by omega, by omega⟩
    have e1 : l.length - (l.length - (q + 1)) = q + 1 := by omega
    have e2 : l.length - (l.length - (q + 1) + 1) = q := by omega
    have e3 : (false && decide (l.length - (q + 1) + 1 = l.length)) = false := rfl
    rw [e1] at h1 h2
    rw [e2]
    simp only [backL_get l hq]
    obtain ⟨g3, g4⟩ := hc.ok q hq
    obtain ⟨g1, g2⟩ := hbk (l.length - (q + 1)) (q + 1) (by omega)
    obtain ⟨g5, g6⟩ := hc.sz q (by omega)
    have hqs : q < ss.length := by omega
    have c3 := bck_g (hl _ (List.getElem_mem hq)) g5 g6 g3 (g1.trans (by rw [g4])) g2
    rw [← bckK_pred hq, shAt_eq hqs] at c3
    have a0 := h2.at' 0 _ rfl
    have a1 := h2.at' 1 _ rfl
    have a3 := h2.lt
    simp at a0 a1 a3
    have g3' : n0 < nx := by omega
    have g4' : n0 + 1 < nx := by omega
    have f0 : ∀ L', loc σb nx L' n0 = .cells [.sl (ss.map qdh)] 85 := fun L' => by rw [qdb _ _ _ _ g3']; exact a0
    have f1 : ∀ L', loc σb nx L' (n0 + 1) = .cells [.sl ((bckK l ss row (q + 1)).map Val.av)] 36 := fun L' => by rw [qdb _ _ _ _ g4']; exact a1
    repeat' (first | ((first | ((with_reducible refine qp (fun hg => ?_) (fun hg => ?_)) <;> (try simp only [hg]) <;> (try simp only [gS] at hg) <;> (try (first | simp only [eq_false hg, gI] | simp only [eq_true hg, gI]))) | (with_reducible first | refine qc ?_ | refine qb ?_ | refine qj ?_ | refine qi ?_) | refine acall (c3) ?_ | refine qn (c3) ?_ | refine qe ?_ | refine qk ?_ | refine qh ?_ | refine qo ?_) <;> (try simp (disch := first | omega | simp) [qg, -qq, -qu, f0, f1, g3', g4', hqs, qdh])) | ((with_reducible refine sideT ?_ ?_); first | omega | assumption | (simp; done)) | (refine qf fun K hK => ?_) | (refine qa ?_) | refine ql ?_ | ((first | refine hK _ ?_ | (clear hK K; refine hK _ ?_) | (clear hK K; clear hK K; refine hK _ ?_)); clear hK K) | refine qd ?_)
    exact updB_set h2.at' 1 _ (by simp)
  · intro D
    simp only [Bool.false_eq_true, if_false, FBlock, FThen]
    refine hK _ _ ?_
    clear hK K
    refine qer ?_
    have hend : bckK l ss row 0 = R := hR
    repeat' (first | ((first | ((with_reducible refine qp (fun hg => ?_) (fun hg => ?_)) <;> (try simp only [hg]) <;> (try simp only [gS] at hg) <;> (try (first | simp only [eq_false hg, gI] | simp only [eq_true hg, gI]))) | (with_reducible first | refine qc ?_ | refine qb ?_ | refine qj ?_ | refine qi ?_) | refine qe ?_ | refine qk ?_ | refine qh ?_ | refine qo ?_) <;> (try simp (disch := first | omega | simp) [qg, -qq, -qu])) | ((with_reducible refine sideT ?_ ?_); first | omega | assumption | (simp; done)) | (refine qf fun K hK => ?_) | (refine qa ?_) | refine ql ?_ | ((first | refine hK _ ?_ | (clear hK K; refine hK _ ?_) | (clear hK K; clear hK K; refine hK _ ?_)); clear hK K) | refine qd ?_)
    refine fend_mark 3 (.inr rfl) (by rfl) ?_
    simp [hend]
end Go.Proofs.YtbkkjlcclddpdaaGreatDoor

/- Walks of the reference: right values and rows, comparing, right shapes, Fits, Default. -/
namespace Go.Proofs.YtbkkjlcclddpdaaGreatDoor
open Go.RowKit Go.Lib
theorem rsame_g13 (a b : List Col) (hL : a.length ≤ 1000000) : Gives Tryz.prog 20 [.sl (a.map Col.av), .sl (b.map Col.av)] (.bool (sameC a b)) := by
  obtain ⟨R, hR⟩ : ∃ R, R = sameC a b := ⟨_, rfl⟩
  rw [← hR]
  by_cases hlen : a.length = b.length
  · have hlen' : (a.length : Int) = b.length := by omega
    refine qm Tryz.func20 Tryz.ntmps20 rfl rfl (by decide) rfl (by intro n; simp) fun σ n0 hcl hft => ?_
    repeat' (first | ((first | ((with_reducible refine qp (fun hg => ?_) (fun hg => ?_)) <;> (try simp only [hg]) <;> (try simp only [gS] at hg) <;> (try (first | simp only [eq_false hg, gI] | simp only [eq_true hg, gI]))) | (with_reducible first | refine qc ?_ | refine qb ?_ | refine qj ?_ | refine qi ?_) | refine qe ?_ | refine qk ?_ | refine qh ?_ | refine qo ?_) <;> (try simp (disch := first | omega | simp) [qg, -qq, -qu, hlen'])) | ((with_reducible refine sideT ?_ ?_); first | omega | assumption | (simp; done)) | (refine qf fun K hK => ?_) | (refine qa ?_) | refine ql ?_ | ((first | refine hK _ ?_ | (clear hK K; refine hK _ ?_) | (clear hK K; clear hK K; refine hK _ ?_)); clear hK K) | refine qd ?_)
    refine qbq hcl (fun k : Nat => [(0, .sl (a.map Col.av)), (1, .sl (b.map Col.av)), (5, .int k)]) (fun _ => [])
      (fun k => k ≤ a.length ∧ a.take k = b.take k) (fun k => a.length - k) 0 (by simp [hlen]) (by simp [hlen']) fun k ⟨hk, he⟩ => ?_
    by_cases hlt : k < a.length
    · have hlt2 : k < b.length := by omega
      repeat' (first | ((first | ((with_reducible refine qp (fun hg => ?_) (fun hg => ?_)) <;> (try simp only [hg]) <;> (try simp only [gS] at hg) <;> (try (first | simp only [eq_false hg, gI] | simp only [eq_true hg, gI]))) | (with_reducible first | refine qc ?_ | refine qb ?_ | refine qj ?_ | refine qi ?_) | refine qe ?_ | refine qk ?_ | refine qh ?_ | refine qo ?_) <;> (try simp (disch := first | omega | simp) [qg, -qq, -qu, hlt, hlt2])) | ((with_reducible refine sideT ?_ ?_); first | omega | assumption | (simp; done)) | (refine qf fun K hK => ?_) | (refine qa ?_) | refine ql ?_ | ((first | refine hK _ ?_ | (clear hK K; refine hK _ ?_) | (clear hK K; clear hK K; refine hK _ ?_)); clear hK K) | refine qd ?_)
      all_goals first
        | (have hab : a[k] = b[k] := (Col.eqB_iff _ _).1 hg
           refine ⟨k + 1, ⟨by omega, ?_⟩, by omega, by simp [hlen', qg]⟩
           rw [List.take_succ_eq_append_getElem hlt, List.take_succ_eq_append_getElem hlt2, he, hab])
        | (have hab : a ≠ b := fun e => by subst e; rw [← Bool.not_eq_true, Col.eqB_iff] at hg; exact hg rfl
           rw [hR, ← Bool.not_eq_true, sameC_iff]
           exact hab)
    · have hlt3 : ¬ k < b.length := by omega
      repeat' (first | ((first | ((with_reducible refine qp (fun hg => ?_) (fun hg => ?_)) <;> (try simp only [hg]) <;> (try simp only [gS] at hg) <;> (try (first | simp only [eq_false hg, gI] | simp only [eq_true hg, gI]))) | (with_reducible first | refine qc ?_ | refine qb ?_ | refine qj ?_ | refine qi ?_) | refine qe ?_ | refine qk ?_ | refine qh ?_ | refine qo ?_) <;> (try simp (disch := first | omega | simp) [qg, -qq, -qu, hlt, hlt3])) | ((with_reducible refine sideT ?_ ?_); first | omega | assumption | (simp; done)) | (refine qf fun K hK => ?_) | (refine qa ?_) | refine ql ?_ | ((first | refine hK _ ?_ | (clear hK K; refine hK _ ?_) | (clear hK K; clear hK K; refine hK _ ?_)); clear hK K) | refine qd ?_)
      rw [hR, sameC_iff]
      have h1 : k = a.length := by omega
      subst h1
      rw [List.take_length, hlen, List.take_length] at he
      exact he
  · have hlen' : ¬ (a.length : Int) = b.length := by omega
    have : sameC a b = false := by rw [← Bool.not_eq_true, sameC_iff]; exact fun e => hlen (by rw [e])
    rw [this] at hR; subst hR
    refine qm Tryz.func20 Tryz.ntmps20 rfl rfl (by decide) rfl (by intro n; simp) fun σ n0 hcl hft => ?_
    repeat' (first | ((first | ((with_reducible refine qp (fun hg => ?_) (fun hg => ?_)) <;> (try simp only [hg]) <;> (try simp only [gS] at hg) <;> (try (first | simp only [eq_false hg, gI] | simp only [eq_true hg, gI]))) | (with_reducible first | refine qc ?_ | refine qb ?_ | refine qj ?_ | refine qi ?_) | refine qe ?_ | refine qk ?_ | refine qh ?_ | refine qo ?_) <;> (try simp (disch := first | omega | simp) [qg, -qq, -qu, hlen'])) | ((with_reducible refine sideT ?_ ?_); first | omega | assumption | (simp; done)) | (refine qf fun K hK => ?_) | (refine qa ?_) | refine ql ?_ | ((first | refine hK _ ?_ | (clear hK K; refine hK _ ?_) | (clear hK K; clear hK K; refine hK _ ?_)); clear hK K) | refine qd ?_)
    omega
theorem less_self : ∀ l : List UInt8, Op.bytesLess l l = false
  | [] => rfl
  | c :: l => by simp [Op.bytesLess, less_self l]
theorem rcmp_g (v : Val) : Gives Tryz.prog 119 [v.av, v.av] (.int 0) := by
  have hl := less_self v.s.toList
  refine qm Tryz.func119 Tryz.ntmps119 rfl rfl (by decide) rfl (by intro n; simp) fun σ n0 hcl hft => ?_
  repeat' (first | ((first | ((with_reducible refine qp (fun hg => ?_) (fun hg => ?_)) <;> (try simp only [hg]) <;> (try simp only [gS] at hg) <;> (try (first | simp only [eq_false hg, gI] | simp only [eq_true hg, gI]))) | (with_reducible first | refine qc ?_ | refine qb ?_ | refine qj ?_ | refine qi ?_) | refine qe ?_ | refine qk ?_ | refine qh ?_ | refine qo ?_) <;> (try simp (disch := first | omega | simp) [qg, -qq, -qu, hl])) | ((with_reducible refine sideT ?_ ?_); first | omega | assumption | (simp; done)) | (refine qf fun K hK => ?_) | (refine qa ?_) | refine ql ?_ | ((first | refine hK _ ?_ | (clear hK K; refine hK _ ?_) | (clear hK K; clear hK K; refine hK _ ?_)); clear hK K) | refine qd ?_)
  all_goals first | omega | skip
theorem rcmps_g (L : List Val) (hL : L.length ≤ 1000000) : Gives Tryz.prog 63 [.sl (L.map Val.av), .sl (L.map Val.av)] (.int 0) := by
  refine qm Tryz.func63 Tryz.ntmps63 rfl rfl (by decide) rfl (by intro n; simp) fun σ n0 hcl hft => ?_
  repeat' (first | ((first | ((with_reducible refine qp (fun hg => ?_) (fun hg => ?_)) <;> (try simp only [hg]) <;> (try simp only [gS] at hg) <;> (try (first | simp only [eq_false hg, gI] | simp only [eq_true hg, gI]))) | (with_reducible first | refine qc ?_ | refine qb ?_ | refine qj ?_ | refine qi ?_) | refine qe ?_ | refine qk ?_ | refine qh ?_ | refine qo ?_) <;> (try simp (disch := first | omega | simp) [qg, -qq, -qu])) | ((with_reducible refine sideT ?_ ?_); first | omega | assumption | (simp; done)) | (refine qf fun K hK => ?_) | (refine qa ?_) | refine ql ?_ | ((first | refine hK _ ?_ | (clear hK K; refine hK _ ?_) | (clear hK K; clear hK K; refine hK _ ?_)); clear hK K) | refine qd ?_)
  refine qbq hcl (fun k : Nat => [(0, .sl (L.map Val.av)), (1, .sl (L.map Val.av)), (5, .int k)]) (fun _ => [])
    (fun k => k ≤ L.length) (fun k => L.length - k) 0 (by simp) (by simp) fun k hk => ?_
  by_cases hlt : k < L.length
  · repeat' (first | ((first | ((with_reducible refine qp (fun hg => ?_) (fun hg => ?_)) <;> (try simp only [hg]) <;> (try simp only [gS] at hg) <;> (try (first | simp only [eq_false hg, gI] | simp only [eq_true hg, gI]))) | (with_reducible first | refine qc ?_ | refine qb ?_ | refine qj ?_ | refine qi ?_) | refine acall (rcmp_g _) ?_ | refine qn (rcmp_g _) ?_ | refine qe ?_ | refine qk ?_ | refine qh ?_ | refine qo ?_) <;> (try simp (disch := first | omega | simp) [qg, -qq, -qu, hlt])) | ((with_reducible refine sideT ?_ ?_); first | omega | assumption | (simp; done)) | (refine qf fun K hK => ?_) | (refine qa ?_) | refine ql ?_ | ((first | refine hK _ ?_ | (clear hK K; refine hK _ ?_) | (clear hK K; clear hK K; refine hK _ ?_)); clear hK K) | refine qd ?_)
    exact ⟨k + 1, by omega, by omega, by simp⟩
  · repeat' (first | ((first | ((with_reducible refine qp (fun hg => ?_) (fun hg => ?_)) <;> (try simp only [hg]) <;> (try simp only [gS] at hg) <;> (try (first | simp only [eq_false hg, gI] | simp only [eq_true hg, gI]))) | (with_reducible first | refine qc ?_ | refine qb ?_ | refine qj ?_ | refine qi ?_) | refine qe ?_ | refine qk ?_ | refine qh ?_ | refine qo ?_) <;> (try simp (disch := first | omega | simp) [qg, -qq, -qu, hlt])) | ((with_reducible refine sideT ?_ ?_); first | omega | assumption | (simp; done)) | (refine qf fun K hK => ?_) | (refine qa ?_) | refine ql ?_ | ((first | refine hK _ ?_ | (clear hK K; refine hK _ ?_) | (clear hK K; clear hK K; refine hK _ ?_)); clear hK K) | refine qd ?_)
    all_goals omega
theorem rsame03_g (L : List Val) (hL : L.length ≤ 1000000) : Gives Tryz.prog 29 [.sl (L.map Val.av), .sl (L.map Val.av)] (.bool true) := by
  refine qm Tryz.func29 Tryz.ntmps29 rfl rfl (by decide) rfl (by intro n; simp) fun σ n0 hcl hft => ?_
  repeat' (first | ((first | ((with_reducible refine qp (fun hg => ?_) (fun hg => ?_)) <;> (try simp only [hg]) <;> (try simp only [gS] at hg) <;> (try (first | simp only [eq_false hg, gI] | simp only [eq_true hg, gI]))) | (with_reducible first | refine qc ?_ | refine qb ?_ | refine qj ?_ | refine qi ?_) | refine acall (rcmps_g L hL) ?_ | refine qn (rcmps_g L hL) ?_ | refine qe ?_ | refine qk ?_ | refine qh ?_ | refine qo ?_) <;> (try simp (disch := first | omega | simp) [qg, -qq, -qu])) | ((with_reducible refine sideT ?_ ?_); first | omega | assumption | (simp; done)) | (refine qf fun K hK => ?_) | (refine qa ?_) | refine ql ?_ | ((first | refine hK _ ?_ | (clear hK K; refine hK _ ?_) | (clear hK K; clear hK K; refine hK _ ?_)); clear hK K) | refine qd ?_)
end Go.Proofs.YtbkkjlcclddpdaaGreatDoor

/- Walk of layer 14: the examples of the documentation. -/
namespace Go.Proofs.YtbkkjlcclddpdaaGreatDoor
open Go.RowKit Go.Lib
def exS1 : ByteArray := ⟨#[115, 112, 108, 105, 116, 32, 110, 97, 109, 101, 32, 34, 32, 34, 32, 102, 105, 114, 115, 116, 32, 108, 97, 115, 116, 10]⟩
def exS2 : ByteArray := ⟨#[115, 99, 97, 108, 101, 32, 119, 32, 49, 48, 48, 48, 32, 103, 10]⟩
def exX1 : Lens := ⟨3, ⟨#[110, 97, 109, 101]⟩, ⟨#[102, 105, 114, 115, 116]⟩, ⟨#[108, 97, 115, 116]⟩, ⟨#[32]⟩, 0, ⟨0, 0, ⟨#[]⟩⟩⟩
def exX2 : Lens := ⟨6, ⟨#[119]⟩, ⟨#[103]⟩, ⟨#[]⟩, ⟨#[]⟩, 1000, ⟨0, 0, ⟨#[]⟩⟩⟩
def exC1 : List Col := [⟨⟨#[105, 100]⟩, 0, ⟨#[]⟩⟩, ⟨⟨#[110, 97, 109, 101]⟩, 1, ⟨#[]⟩⟩]
def exC2 : List Col := [⟨⟨#[105, 100]⟩, 0, ⟨#[]⟩⟩, ⟨⟨#[102, 105, 114, 115, 116]⟩, 1, ⟨#[]⟩⟩, ⟨⟨#[108, 97, 115, 116]⟩, 1, ⟨#[]⟩⟩]
def exC3 : List Col := [⟨⟨#[119]⟩, 0, ⟨#[107, 103]⟩⟩]
def exC4 : List Col := [⟨⟨#[119]⟩, 0, ⟨#[103]⟩⟩]
def exR1 : List Val := [⟨0, 7, ⟨#[]⟩⟩, ⟨1, 0, ⟨#[65, 100, 97, 32, 76, 111, 118, 101, 108, 97, 99, 101, 32, 120]⟩⟩]
def exR2 : List Val := [⟨0, 7, ⟨#[]⟩⟩, ⟨1, 0, ⟨#[65, 100, 97]⟩⟩, ⟨1, 0, ⟨#[76, 111, 118, 101, 108, 97, 99, 101, 32, 120]⟩⟩]
def exR3 : List Val := [⟨0, 7, ⟨#[]⟩⟩, ⟨1, 0, ⟨#[65, 100, 97, 32]⟩⟩]
def exR4 : List Val := [⟨0, 7, ⟨#[]⟩⟩, ⟨1, 0, ⟨#[65, 100, 97]⟩⟩, ⟨1, 0, ⟨#[]⟩⟩]
def exR5 : List Val := [⟨0, 7, ⟨#[]⟩⟩, ⟨1, 0, ⟨#[65, 100, 97]⟩⟩]
def exR6 : List Val := [⟨0, 5, ⟨#[]⟩⟩]
def exR7 : List Val := [⟨0, 5000, ⟨#[]⟩⟩]
def exR8 : List Val := [⟨0, 9223372036854775807, ⟨#[]⟩⟩]
theorem exP1 : lparseP exS1.data.toList = ([exX1], true) := by kernel_rfl
theorem exP2 : lparseP exS2.data.toList = ([exX2], true) := by kernel_rfl
theorem exH1 : qbg [exX1] exC1 = ([exC1, exC2], 0) := by kernel_rfl
theorem exH2 : qbg [exX2] exC3 = ([exC3, exC4], 0) := by kernel_rfl
theorem exT1 : toP [exX1] exC1 = (exC2, 0) := by kernel_rfl
theorem exF1 : qcr [exX1] [exC1, exC2] exR1 = exR2 := by kernel_rfl
theorem exB1 : qem [exX1] [exC1, exC2] exR2 = exR1 := by kernel_rfl
theorem exF3 : qcr [exX1] [exC1, exC2] exR3 = exR4 := by kernel_rfl
theorem exB3 : qem [exX1] [exC1, exC2] exR4 = exR5 := by kernel_rfl
theorem exF6 : qcr [exX2] [exC3, exC4] exR6 = exR7 := by kernel_rfl
theorem exL2 : lostP [exX2] [exC3, exC4] 0 = (false, 0, exR8) := by kernel_rfl
theorem exSX1 : qea exX1 := ⟨⟨by decide, by decide, by decide, by decide⟩, ⟨⟨by decide, by decide⟩, by decide⟩⟩
theorem exSX2 : qea exX2 := ⟨⟨by decide, by decide, by decide, by decide⟩, ⟨⟨by decide, by decide⟩, by decide⟩⟩
theorem exSR {l : List Val} (h : l.all (fun v => decide (-9223372036854775808 ≤ v.n) && (decide (v.n ≤ 9223372036854775807) && decide (v.s.size ≤ 300000))) = true) : qbu l := fun v hv => by
  have := List.all_eq_true.1 h v hv
  simp only [Bool.and_eq_true, decide_eq_true_eq] at this
  exact ⟨⟨this.1, this.2.1⟩, this.2.2⟩
theorem exA {x : Lens} (h : qea x) : ∀ y ∈ [x], qea y := fun y hy => by rw [List.mem_singleton] at hy; subst hy; exact h
set_option maxRecDepth 8000 in
set_option maxHeartbeats 8000000 in
theorem small14_g : Gives Tryz.prog 9 [] (.bool true) := by
  have c1 := lparse_g exS1 (by decide)
  have c2 := lparse_g exS2 (by decide)
  rw [exP1] at c1
  rw [exP2] at c2
  have c3 := qeo (row := exR1) exH1 (exA exSX1) (by decide) (by decide) (exSR (by decide)) rfl _ exF1
  have c4 := qeo (row := exR3) exH1 (exA exSX1) (by decide) (by decide) (exSR (by decide)) rfl _ exF3
  have c5 := qeo (row := exR6) exH2 (exA exSX2) (by decide) (by decide) (exSR (by decide)) rfl _ exF6
  have c6 := back_g (row := exR2) exH1 (exA exSX1) (by decide) (by decide) (exSR (by decide)) rfl _ exB1
  have c7 := back_g (row := exR4) exH1 (exA exSX1) (by decide) (by decide) (exSR (by decide)) rfl _ exB3
  have c8 := to_g [exX1] exC1 (fun x hx => (exA exSX1 x hx).l) (by decide) (by decide) (by decide)
  rw [exT1] at c8
  have c9 := lossless_g exH2 (exA exSX2) (by decide) (by decide) _ exL2
  have c10 := rsame03_g exR1 (by decide)
  simp only [exS1, exS2, exC1, exC2, exC3, exR1, exR2, exR3, exR4, exR5, exR6, exR7, exR8, List.map_cons, List.map_nil] at *
  refine qm Tryz.func9 Tryz.ntmps9 rfl rfl (by decide) rfl (by intro n; simp) fun σ n0 hcl hft => ?_
  repeat' (first | ((first | ((with_reducible refine qp (fun hg => ?_) (fun hg => ?_)) <;> (try simp only [hg]) <;> (try simp only [gS] at hg) <;> (try (first | simp only [eq_false hg, gI] | simp only [eq_true hg, gI]))) | (with_reducible first | refine qc ?_ | refine qb ?_ | refine qj ?_ | refine qi ?_) | refine acall (c1) ?_ | refine qn (c1) ?_ | refine acall (c2) ?_ | refine qn (c2) ?_ | refine acall (c3) ?_ | refine qn (c3) ?_ | refine acall (c4) ?_ | refine qn (c4) ?_ | refine acall (c5) ?_ | refine qn (c5) ?_ | refine acall (c6) ?_ | refine qn (c6) ?_ | refine acall (c7) ?_ | refine qn (c7) ?_ | refine acall (c8) ?_ | refine qn (c8) ?_ | refine acall (c9) ?_ | refine qn (c9) ?_ | refine acall (c10) ?_ | refine qn (c10) ?_ | refine qe ?_ | refine qk ?_ | refine qh ?_ | refine qo ?_) <;> (try simp (disch := first | omega | simp) [qg, -qq, -qu])) | ((with_reducible refine sideT ?_ ?_); first | omega | assumption | (simp; done)) | (refine qf fun K hK => ?_) | (refine qa ?_) | refine ql ?_ | ((first | refine hK _ ?_ | (clear hK K; refine hK _ ?_) | (clear hK K; clear hK K; refine hK _ ?_)); clear hK K) | refine qd ?_)
end Go.Proofs.YtbkkjlcclddpdaaGreatDoor

/- A list that is handed to a function as a slice is no longer than an int tells. -/
namespace Go.Proofs.YtbkkjlcclddpdaaGreatDoor
open Go.RowKit Go.Lib
theorem gives_len {P : Program} {f : FuncId} {l : List AV} {tl : List AV} {x : AV} (h : l.length ≤ 9223372036854775807 → Gives P f (.sl l :: tl) x) : Gives P f (.sl l :: tl) x := by
  intro σ X vals nx hS hσ hF hR
  have hl : l.length ≤ 9223372036854775807 := by
    obtain ⟨v, vs', -, h1, -⟩ := hR
    change RC X (.sl l) [v] at h1
    rw [RC] at h1
    obtain ⟨A, cap, b, off, -, h2, h3, -⟩ := h1
    omega
  exact h hl σ X vals nx hS hσ hF hR
end Go.Proofs.YtbkkjlcclddpdaaGreatDoor

/- Walks of the laws of layer 14: bounds, steps and rows that suit. -/
namespace Go.Proofs.YtbkkjlcclddpdaaGreatDoor
open Go.RowKit Go.Lib
def fewX (x : Lens) : Bool := decide (x.a.size ≤ 210) && (decide (x.b.size ≤ 210) && (decide (x.c.size ≤ 210) && (decide (x.sep.size ≤ 210) && decide (x.value.s.size ≤ 210))))
def fewL (l : List Lens) : Bool := l.all fewX && decide (l.length ≤ 20)
theorem fewX_iff {x : Lens} : fewX x = true ↔ x.a.size ≤ 210 ∧ x.b.size ≤ 210 ∧ x.c.size ≤ 210 ∧ x.sep.size ≤ 210 ∧ x.value.s.size ≤ 210 := by
  unfold fewX; simp
set_option maxHeartbeats 4000000 in
theorem few_g14 (l : List Lens) : Gives Tryz.prog 10 [.sl (l.map Lens.av)] (.bool (fewL l)) := by
  obtain ⟨R, hR⟩ : ∃ R, R = fewL l := ⟨_, rfl⟩
  rw [← hR]
  unfold fewL at hR
  refine gives_len fun hlen => ?_
  simp only [List.length_map] at hlen
  refine qm Tryz.func10 Tryz.ntmps10 rfl rfl (by decide) rfl (by intro n; simp) fun σ n0 hcl hft => ?_
  repeat' (first | ((first | ((with_reducible refine qp (fun hg => ?_) (fun hg => ?_)) <;> (try simp only [hg]) <;> (try simp only [gS] at hg) <;> (try (first | simp only [eq_false hg, gI] | simp only [eq_true hg, gI]))) | (with_reducible first | refine qc ?_ | refine qb ?_ | refine qj ?_ | refine qi ?_) | refine qe ?_ | refine qk ?_ | refine qh ?_ | refine qo ?_) <;> (try simp (disch := first | omega | simp) [qg, -qq, -qu])) | ((with_reducible refine sideT ?_ ?_); first | omega | assumption | (simp; done)) | (refine qf fun K hK => ?_) | (refine qa ?_) | refine ql ?_ | ((first | refine hK _ ?_ | (clear hK K; refine hK _ ?_) | (clear hK K; clear hK K; refine hK _ ?_)); clear hK K) | refine qd ?_)
  refine qbq hcl (fun k : Nat => [(0, .sl (l.map Lens.av)), (3, .int k)]) (fun _ => [])
    (fun k => k ≤ l.length ∧ ∀ j (h : j < l.length), j < k → fewX l[j] = true) (fun k => l.length - k) 0 (by simp) (by simp) fun k ⟨hk, he⟩ => ?_
  by_cases hlt : k < l.length
  · cases hs : fewX l[k] with
    | true =>
      obtain ⟨f1, f2, f3, f4, f5⟩ := fewX_iff.1 hs
      have g1 : ¬ (210 : Int) < l[k].a.size := by omega
      have g2 : ¬ (210 : Int) < l[k].b.size := by omega
      have g3 : ¬ (210 : Int) < l[k].c.size := by omega
      have g4 : ¬ (210 : Int) < l[k].sep.size := by omega
      have g5 : ¬ (210 : Int) < l[k].value.s.size := by omega
      repeat' (first | ((first | ((with_reducible refine qp (fun hg => ?_) (fun hg => ?_)) <;> (try simp only [hg]) <;> (try simp only [gS] at hg) <;> (try (first | simp only [eq_false hg, gI] | simp only [eq_true hg, gI]))) | (with_reducible first | refine qc ?_ | refine qb ?_ | refine qj ?_ | refine qi ?_) | refine qe ?_ | refine qk ?_ | refine qh ?_ | refine qo ?_) <;> (try simp (disch := first | omega | simp) [qg, -qq, -qu, hlt, g1, g2, g3, g4, g5])) | ((with_reducible refine sideT ?_ ?_); first | omega | assumption | (simp; done)) | (refine qf fun K hK => ?_) | (refine qa ?_) | refine ql ?_ | ((first | refine hK _ ?_ | (clear hK K; refine hK _ ?_) | (clear hK K; clear hK K; refine hK _ ?_)); clear hK K) | refine qd ?_)
      exact ⟨k + 1, ⟨by omega, qff (C := fun x : Lens => fewX x = true) he fun _ => hs⟩, by omega, by simp⟩
    | false =>
      have hb : l.all fewX = false := by
        rw [List.all_eq_false]
        exact ⟨l[k], List.getElem_mem _, by simp [hs]⟩
      rw [hb] at hR
      have hR' : R = false := hR
      subst hR'
      have no : ¬ (l[k].a.size ≤ 210 ∧ l[k].b.size ≤ 210 ∧ l[k].c.size ≤ 210 ∧ l[k].sep.size ≤ 210 ∧ l[k].value.s.size ≤ 210) := fun h => by
        rw [fewX_iff.2 h] at hs; cases hs
      repeat' (first | ((first | ((with_reducible refine qp (fun hg => ?_) (fun hg => ?_)) <;> (try simp only [hg]) <;> (try simp only [gS] at hg) <;> (try (first | simp only [eq_false hg, gI] | simp only [eq_true hg, gI]))) | (with_reducible first | refine qc ?_ | refine qb ?_ | refine qj ?_ | refine qi ?_) | refine qe ?_ | refine qk ?_ | refine qh ?_ | refine qo ?_) <;> (try simp (disch := first | omega | simp) [qg, -qq, -qu, hlt])) | ((with_reducible refine sideT ?_ ?_); first | omega | assumption | (simp; done)) | (refine qf fun K hK => ?_) | (refine qa ?_) | refine ql ?_ | ((first | refine hK _ ?_ | (clear hK K; refine hK _ ?_) | (clear hK K; clear hK K; refine hK _ ?_)); clear hK K) | refine qd ?_)
      all_goals first | (exfalso; exact no ⟨by omega, by omega, by omega, by omega, by omega⟩) | rfl
  · have hb : l.all fewX = true := by
      rw [List.all_eq_true]
      intro x hx
      obtain ⟨j, hj, rfl⟩ := List.mem_iff_getElem.1 hx
      exact he j hj (by omega)
    rw [hb, Bool.true_and] at hR
    repeat' (first | ((first | ((with_reducible refine qp (fun hg => ?_) (fun hg => ?_)) <;> (try simp only [hg]) <;> (try simp only [gS] at hg) <;> (try (first | simp only [eq_false hg, gI] | simp only [eq_true hg, gI]))) | (with_reducible first | refine qc ?_ | refine qb ?_ | refine qj ?_ | refine qi ?_) | refine qe ?_ | refine qk ?_ | refine qh ?_ | refine qo ?_) <;> (try simp (disch := first | omega | simp) [qg, -qq, -qu, hlt])) | ((with_reducible refine sideT ?_ ?_); first | omega | assumption | (simp; done)) | (refine qf fun K hK => ?_) | (refine qa ?_) | refine ql ?_ | ((first | refine hK _ ?_ | (clear hK K; refine hK _ ?_) | (clear hK K; clear hK K; refine hK _ ?_)); clear hK K) | refine qd ?_)
    all_goals
      rw [hR, Bool.eq_iff_iff]
      simp
      omega
theorem fits_gU (a : List Val) (b : List Col) (hb : b.length ≤ 1000000) : Gives Tryz.prog 24 [.sl (a.map Val.av), .sl (b.map Col.av)] (.bool (fitsC a b)) := by
  by_cases h : a.length ≤ 1000000
  · exact fits_g a b h hb
  · have hne : ¬ a.length = b.length := by omega
    have hne' : ¬ (a.length : Int) = b.length := by omega
    unfold fitsC
    rw [decide_eq_false hne]
    refine qm Tryz.func24 Tryz.ntmps24 rfl rfl (by decide) rfl (by intro n; simp) fun σ n0 hcl hft => ?_
    repeat' (first | ((first | ((with_reducible refine qp (fun hg => ?_) (fun hg => ?_)) <;> (try simp only [hg]) <;> (try simp only [gS] at hg) <;> (try (first | simp only [eq_false hg, gI] | simp only [eq_true hg, gI]))) | (with_reducible first | refine qc ?_ | refine qb ?_ | refine qj ?_ | refine qi ?_) | refine qe ?_ | refine qk ?_ | refine qh ?_ | refine qo ?_) <;> (try simp (disch := first | omega | simp) [qg, -qq, -qu, hne'])) | ((with_reducible refine sideT ?_ ?_); first | omega | assumption | (simp; done)) | (refine qf fun K hK => ?_) | (refine qa ?_) | refine ql ?_ | ((first | refine hK _ ?_ | (clear hK K; refine hK _ ?_) | (clear hK K; clear hK K; refine hK _ ?_)); clear hK K) | refine qd ?_)
    all_goals exact absurd (by assumption) hne'
def suitsL (l : List Lens) (cols : List Col) (row : List Val) : Bool := fewL l && (decide (cols.length ≤ 12) && (rightP cols && (fitsC row cols && decide ((toP l cols).2 = 0))))
theorem few_small {l : List Lens} (h : fewL l = true) : l.length ≤ 20 ∧ ∀ x ∈ l, qcc x ∧ x.value.s.size ≤ 210 := by
  unfold fewL at h
  rw [Bool.and_eq_true, List.all_eq_true, decide_eq_true_eq] at h
  refine ⟨h.2, fun x hx => ?_⟩
  obtain ⟨f1, f2, f3, f4, f5⟩ := fewX_iff.1 (h.1 x hx)
  exact ⟨⟨by omega, by omega, by omega, by omega⟩, f5⟩
set_option maxHeartbeats 4000000 in
theorem suits_g14 (l : List Lens) (cols : List Col) (row : List Val) : Gives Tryz.prog 32 [.sl (l.map Lens.av), .sl (cols.map Col.av), .sl (row.map Val.av)] (.bool (suitsL l cols row)) := by
  have c1 := few_g14 l
  obtain ⟨R, hR⟩ : ∃ R, suitsL l cols row = R := ⟨_, rfl⟩
  rw [hR]
  unfold suitsL at hR
  cases hf : fewL l with
  | false =>
    rw [hf] at c1 hR
    refine qm Tryz.func32 Tryz.ntmps32 rfl rfl (by decide) rfl (by intro n; simp) fun σ n0 hcl hft => ?_
    repeat' (first | ((first | ((with_reducible refine qp (fun hg => ?_) (fun hg => ?_)) <;> (try simp only [hg]) <;> (try simp only [gS] at hg) <;> (try (first | simp only [eq_false hg, gI] | simp only [eq_true hg, gI]))) | (with_reducible first | refine qc ?_ | refine qb ?_ | refine qj ?_ | refine qi ?_) | refine acall (c1) ?_ | refine qn (c1) ?_ | refine qe ?_ | refine qk ?_ | refine qh ?_ | refine qo ?_) <;> (try simp (disch := first | omega | simp) [qg, -qq, -qu])) | ((with_reducible refine sideT ?_ ?_); first | omega | assumption | (simp; done)) | (refine qf fun K hK => ?_) | (refine qa ?_) | refine ql ?_ | ((first | refine hK _ ?_ | (clear hK K; refine hK _ ?_) | (clear hK K; clear hK K; refine hK _ ?_)); clear hK K) | refine qd ?_)
    exact hR.symm
  | true =>
    obtain ⟨hl20, hl⟩ := few_small hf
    rw [hf, Bool.true_and] at hR
    rw [hf] at c1
    by_cases h1 : cols.length ≤ 12
    · have h1a : ¬ (12 : Int) < cols.length := by omega
      rw [decide_eq_true h1, Bool.true_and] at hR
      have c2 := right_gU cols (by omega)
      cases hr : rightP cols with
      | false =>
        rw [hr] at c2 hR
        refine qm Tryz.func32 Tryz.ntmps32 rfl rfl (by decide) rfl (by intro n; simp) fun σ n0 hcl hft => ?_
        repeat' (first | ((first | ((with_reducible refine qp (fun hg => ?_) (fun hg => ?_)) <;> (try simp only [hg]) <;> (try simp only [gS] at hg) <;> (try (first | simp only [eq_false hg, gI] | simp only [eq_true hg, gI]))) | (with_reducible first | refine qc ?_ | refine qb ?_ | refine qj ?_ | refine qi ?_) | refine acall (c1) ?_ | refine qn (c1) ?_ | refine acall (c2) ?_ | refine qn (c2) ?_ | refine qe ?_ | refine qk ?_ | refine qh ?_ | refine qo ?_) <;> (try simp (disch := first | omega | simp) [qg, -qq, -qu, h1a])) | ((with_reducible refine sideT ?_ ?_); first | omega | assumption | (simp; done)) | (refine qf fun K hK => ?_) | (refine qa ?_) | refine ql ?_ | ((first | refine hK _ ?_ | (clear hK K; refine hK _ ?_) | (clear hK K; clear hK K; refine hK _ ?_)); clear hK K) | refine qd ?_)
        exact hR.symm
      | true =>
        rw [hr, Bool.true_and] at hR
        rw [hr] at c2
        have c3 := fits_gU row cols (by omega)
        have hsh := right_iff.1 hr
        cases hft' : fitsC row cols with
        | false =>
          rw [hft'] at c3 hR
          refine qm Tryz.func32 Tryz.ntmps32 rfl rfl (by decide) rfl (by intro n; simp) fun σ n0 hcl hft => ?_
          repeat' (first | ((first | ((with_reducible refine qp (fun hg => ?_) (fun hg => ?_)) <;> (try simp only [hg]) <;> (try simp only [gS] at hg) <;> (try (first | simp only [eq_false hg, gI] | simp only [eq_true hg, gI]))) | (with_reducible first | refine qc ?_ | refine qb ?_ | refine qj ?_ | refine qi ?_) | refine acall (c1) ?_ | refine qn (c1) ?_ | refine acall (c2) ?_ | refine qn (c2) ?_ | refine acall (c3) ?_ | refine qn (c3) ?_ | refine qe ?_ | refine qk ?_ | refine qh ?_ | refine qo ?_) <;> (try simp (disch := first | omega | simp) [qg, -qq, -qu, h1a])) | ((with_reducible refine sideT ?_ ?_); first | omega | assumption | (simp; done)) | (refine qf fun K hK => ?_) | (refine qa ?_) | refine ql ?_ | ((first | refine hK _ ?_ | (clear hK K; refine hK _ ?_) | (clear hK K; clear hK K; refine hK _ ?_)); clear hK K) | refine qd ?_)
          exact hR.symm
        | true =>
          rw [hft', Bool.true_and] at hR
          rw [hft'] at c3
          have c4 := to_g l cols (fun x hx => (hl x hx).1) (by omega) hsh.l0 h1
          by_cases he : (toP l cols).2 = 0
          · rw [decide_eq_true he] at hR
            rw [he] at c4
            refine qm Tryz.func32 Tryz.ntmps32 rfl rfl (by decide) rfl (by intro n; simp) fun σ n0 hcl hft => ?_
            repeat' (first | ((first | ((with_reducible refine qp (fun hg => ?_) (fun hg => ?_)) <;> (try simp only [hg]) <;> (try simp only [gS] at hg) <;> (try (first | simp only [eq_false hg, gI] | simp only [eq_true hg, gI]))) | (with_reducible first | refine qc ?_ | refine qb ?_ | refine qj ?_ | refine qi ?_) | refine acall (c1) ?_ | refine qn (c1) ?_ | refine acall (c2) ?_ | refine qn (c2) ?_ | refine acall (c3) ?_ | refine qn (c3) ?_ | refine acall (c4) ?_ | refine qn (c4) ?_ | refine qe ?_ | refine qk ?_ | refine qh ?_ | refine qo ?_) <;> (try simp (disch := first | omega | simp) [qg, -qq, -qu, h1a])) | ((with_reducible refine sideT ?_ ?_); first | omega | assumption | (simp; done)) | (refine qf fun K hK => ?_) | (refine qa ?_) | refine ql ?_ | ((first | refine hK _ ?_ | (clear hK K; refine hK _ ?_) | (clear hK K; clear hK K; refine hK _ ?_)); clear hK K) | refine qd ?_)
            exact hR.symm
          · rw [decide_eq_false he] at hR
            have he2 : ((toP l cols).2 == 0) = false := by simpa using he
            refine qm Tryz.func32 Tryz.ntmps32 rfl rfl (by decide) rfl (by intro n; simp) fun σ n0 hcl hft => ?_
            repeat' (first | ((first | ((with_reducible refine qp (fun hg => ?_) (fun hg => ?_)) <;> (try simp only [hg]) <;> (try simp only [gS] at hg) <;> (try (first | simp only [eq_false hg, gI] | simp only [eq_true hg, gI]))) | (with_reducible first | refine qc ?_ | refine qb ?_ | refine qj ?_ | refine qi ?_) | refine acall (c1) ?_ | refine qn (c1) ?_ | refine acall (c2) ?_ | refine qn (c2) ?_ | refine acall (c3) ?_ | refine qn (c3) ?_ | refine acall (c4) ?_ | refine qn (c4) ?_ | refine qe ?_ | refine qk ?_ | refine qh ?_ | refine qo ?_) <;> (try simp (disch := first | omega | simp) [qg, -qq, -qu, h1a, he2])) | ((with_reducible refine sideT ?_ ?_); first | omega | assumption | (simp; done)) | (refine qf fun K hK => ?_) | (refine qa ?_) | refine ql ?_ | ((first | refine hK _ ?_ | (clear hK K; refine hK _ ?_) | (clear hK K; clear hK K; refine hK _ ?_)); clear hK K) | refine qd ?_)
            exact hR.symm
    · have h1a : (12 : Int) < cols.length := by omega
      rw [decide_eq_false h1, Bool.false_and] at hR
      refine qm Tryz.func32 Tryz.ntmps32 rfl rfl (by decide) rfl (by intro n; simp) fun σ n0 hcl hft => ?_
      repeat' (first | ((first | ((with_reducible refine qp (fun hg => ?_) (fun hg => ?_)) <;> (try simp only [hg]) <;> (try simp only [gS] at hg) <;> (try (first | simp only [eq_false hg, gI] | simp only [eq_true hg, gI]))) | (with_reducible first | refine qc ?_ | refine qb ?_ | refine qj ?_ | refine qi ?_) | refine acall (c1) ?_ | refine qn (c1) ?_ | refine qe ?_ | refine qk ?_ | refine qh ?_ | refine qo ?_) <;> (try simp (disch := first | omega | simp) [qg, -qq, -qu, h1a])) | ((with_reducible refine sideT ?_ ?_); first | omega | assumption | (simp; done)) | (refine qf fun K hK => ?_) | (refine qa ?_) | refine ql ?_ | ((first | refine hK _ ?_ | (clear hK K; refine hK _ ?_) | (clear hK K; clear hK K; refine hK _ ?_)); clear hK K) | refine qd ?_)
      exact hR.symm
structure Suits (l : List Lens) (cols : List Col) (row : List Val) (ss : List (List Col)) : Prop where
  l20 : l.length ≤ 20
  small : ∀ x ∈ l, qcc x ∧ x.value.s.size ≤ 210
  shape : ShapeOk cols
  fit : FitOk row cols
  ss : qbg l cols = (ss, 0)
theorem suits_of {l : List Lens} {cols : List Col} {row : List Val} (h : suitsL l cols row = true) : ∃ ss, Suits l cols row ss := by
  unfold suitsL at h
  simp only [Bool.and_eq_true, decide_eq_true_eq] at h
  obtain ⟨h1, h2, h3, h4, h5⟩ := h
  obtain ⟨g1, g2⟩ := few_small h1
  have ht : (qbg l cols).2 = 0 := by
    unfold toP at h5
    unfold qbg
    rw [if_neg (by omega)] at h5 ⊢
    by_cases he : (qv l cols).2 = 0
    · exact he
    · rw [if_pos he] at h5; exact h5
  exact ⟨(qbg l cols).1, g1, g2, right_iff.1 h3, (fits_iff.1 h4).1, by rw [← ht]⟩
theorem Suits.pure {l : List Lens} {cols : List Col} {row : List Val} {ss : List (List Col)} (h : Suits l cols row ss) : qv l cols = (ss, 0) := by
  have h1 := h.ss
  have h2 := h.l20
  rwa [qbg, if_neg (by omega)] at h1
theorem Suits.chain {l : List Lens} {cols : List Col} {row : List Val} {ss : List (List Col)} (h : Suits l cols row ss) : Chain l ss ∧ shAt ss 0 = cols := chain_of h.pure h.shape.l0 h.shape.l1
theorem Suits.tgt {l : List Lens} {cols : List Col} {row : List Val} {ss : List (List Col)} (h : Suits l cols row ss) : toP l cols = (shAt ss l.length, 0) := by
  have h2 := h.l20
  unfold toP
  rw [if_neg (by omega), h.pure, if_neg (by simp)]
  rfl
theorem smallR_fit {row : List Val} {L : List Col} (h : FitOk row L) (hi : ∀ v ∈ row, i64 v.n) : qbu row := fun v hv => ⟨hi v hv, by
  rcases rightV_cases (h.vals v hv) with e | ⟨-, e⟩ | e | e
  · rw [e]; show 0 ≤ 300000; omega
  · omega
  · rw [e]; show 0 ≤ 300000; omega
  · rw [e]; show 0 ≤ 300000; omega⟩
end Go.Proofs.YtbkkjlcclddpdaaGreatDoor

/- Layer 14 on plain data: what is kept, and what is lost. -/
namespace Go.Proofs.YtbkkjlcclddpdaaGreatDoor
open Go.RowKit Go.Lib
theorem valAt_set {r : List Val} {i : Nat} (hi : i < r.length) (v : Val) : valAt (r.set i v) i = v := by
  rw [qbj (by rw [List.length_set]; exact hi), List.getElem_set_self]
theorem valAt_mid (A B : List Val) (v : Val) : valAt (A ++ [v] ++ B) A.length = v := by
  rw [qbj (by simp)]
  simp
theorem kind_int {v : Val} (h : qbl v = true) (hk : v.k = 0) : v = ⟨0, v.n, ⟨#[]⟩⟩ := by
  rcases rightV_cases h with e | ⟨e, -⟩ | e | e
  · exact e
  all_goals (rw [e] at hk; exact absurd hk (by first | (show ¬ (1 : Int) = 0; decide) | (show ¬ (2 : Int) = 0; decide)))
theorem kind_bool {v : Val} (h : qbl v = true) (hk : v.k = 2) : v = bitV false ∨ v = bitV true := by
  rcases rightV_cases h with e | ⟨e, -⟩ | e | e
  · rw [e] at hk; exact absurd hk (by show ¬ (0 : Int) = 2; decide)
  · rw [e] at hk; exact absurd hk (by show ¬ (1 : Int) = 2; decide)
  · exact .inl e
  · exact .inr e
theorem itoa_cut {m : Int} (h : i64 m) : (itoa m).take 200 = itoa m := List.take_of_length_le (by have := itoa_length_le m h.1 h.2; omega)
theorem conv_itoa {m : Int} (h : i64 m) (z : Val) : convP (cutV (itoa m)) 0 z = ⟨0, m, ⟨#[]⟩⟩ := by
  have hk : (cutV (itoa m)).k = 1 := rfl
  have hs : intP (cutV (itoa m)).s.data.toList = some m := intP_iff.2 ⟨h, (itoa_cut h).symm⟩
  unfold convP
  rw [hk, if_neg (by decide), if_neg (by decide), if_neg (by decide), if_pos rfl, hs]
theorem conv_kept {v o : Val} {n t : Int} (hv : qbl v = true) (hi : i64 v.n) (hk : v.k = t) (h : t = 2 ∧ (n = 0 ∨ n = 1) ∨ t = 0 ∧ n = 1) : convP (convP v n o) t ⟨t, 0, ⟨#[]⟩⟩ = v := by
  rcases h with ⟨rfl, hn⟩ | ⟨rfl, rfl⟩
  · rcases kind_bool hv hk with rfl | rfl <;> rcases hn with rfl | rfl <;> kernel_rfl
  · have e := kind_int hv hk
    obtain ⟨k, m, s⟩ := v
    have e2 : convP ⟨0, m, ⟨#[]⟩⟩ 1 o = cutV (itoa m) := rfl
    rw [e]
    show convP (convP ⟨0, m, ⟨#[]⟩⟩ 1 o) 0 _ = ⟨0, m, ⟨#[]⟩⟩
    rw [e2, conv_itoa hi]
theorem wrap_in {n : Int} (h : i64 n) : IntKind.i64.wrap n = n := qg h.1 h.2
theorem sep_ne {s : ByteArray} (h : 1 ≤ s.size) : s.data.toList ≠ [] := fun e => by
  have := qdr s
  rw [e] at this; simp at this; omega
end Go.Proofs.YtbkkjlcclddpdaaGreatDoor

/- Lists of steps, one after the other; equal rows, as the reference tells. -/
namespace Go.Proofs.YtbkkjlcclddpdaaGreatDoor
open Go.RowKit Go.Lib
theorem shapes_app : ∀ (a b : List Lens) {cols : List Col} {ss : List (List Col)}, qv (a ++ b) cols = (ss, 0) → ∃ s1 s2, qv a cols = (s1, 0) ∧ qv b (shAt s1 a.length) = (s2, 0) ∧ (∀ k, k ≤ a.length → shAt ss k = shAt s1 k) ∧ (∀ k, k ≤ b.length → shAt ss (a.length + k) = shAt s2 k)
  | [], b, cols, ss, h => ⟨[cols], ss, rfl, h, fun k hk => by
      obtain rfl : k = 0 := by simpa using hk
      exact (shapes_at (l := b) h).1, fun k _ => by simp⟩
  | y :: a, b, cols, ss, h => by
    rw [List.cons_append, qv] at h
    split at h
    · exact absurd (Prod.mk.inj h).2 (by assumption)
    · split at h
      · exact absurd (Prod.mk.inj h).2 (by assumption)
      · rename_i h1 h2
        have h2' : (qv (a ++ b) (oneP y cols).1).2 = 0 := Classical.byContradiction h2
        cases h
        obtain ⟨s1, s2, e1, e2, e3, e4⟩ := shapes_app a b (cols := (oneP y cols).1) (ss := (qv (a ++ b) (oneP y cols).1).1) (by rw [← h2'])
        refine ⟨cols :: s1, s2, ?_, e2, fun k hk => ?_, fun k hk => ?_⟩
        · rw [qv, if_neg h1, e1]; rfl
        · cases k with
          | zero => rfl
          | succ k => exact e3 k (by simpa using hk)
        · have : (y :: a).length + k = (a.length + k) + 1 := by simp; omega
          rw [this]
          exact e4 k hk
theorem toP_of {l : List Lens} {cols : List Col} {ss : List (List Col)} (h : qv l cols = (ss, 0)) (hl : l.length ≤ 60) : toP l cols = (shAt ss l.length, 0) := by
  unfold toP
  rw [if_neg (by omega), h, if_neg (by simp)]
  rfl
theorem shapes2_of {l : List Lens} {cols : List Col} {ss : List (List Col)} (h : qv l cols = (ss, 0)) (hl : l.length ≤ 60) : qbg l cols = (ss, 0) := by
  unfold qbg; rw [if_neg (by omega), h]
theorem fwdAll_congr : ∀ {l : List Lens} {ss tt : List (List Col)} {row : List Val}, (∀ k, k < l.length → shAt ss k = shAt tt k) → qcr l ss row = qcr l tt row
  | [], _, _, _, _ => rfl
  | x :: l, ss, tt, row, h => by
    show qcr l ss.tail (fwdP x (ss.headD []) row) = qcr l tt.tail (fwdP x (tt.headD []) row)
    rw [shAt_0, shAt_0, h 0 (by simp)]
    exact fwdAll_congr fun k hk => by rw [shAt_succ, shAt_succ]; exact h (k + 1) (by simpa using hk)
theorem bckAll_congr : ∀ {l : List Lens} {ss tt : List (List Col)} {row : List Val}, (∀ k, k < l.length → shAt ss k = shAt tt k) → qem l ss row = qem l tt row
  | [], _, _, _, _ => rfl
  | x :: l, ss, tt, row, h => by
    rw [qef, qef, h 0 (by simp), bckAll_congr (ss := ss.tail) (tt := tt.tail) fun k hk => by rw [shAt_succ, shAt_succ]; exact h (k + 1) (by simpa using hk)]
theorem shAt_drop (ss : List (List Col)) (n k : Nat) : shAt (ss.drop n) k = shAt ss (n + k) := by unfold shAt; rw [List.getD_eq_getElem?_getD, List.getElem?_drop, ← List.getD_eq_getElem?_getD]
theorem fwdAll_app : ∀ (a b : List Lens) (ss : List (List Col)) (row : List Val), qcr (a ++ b) ss row = qcr b (ss.drop a.length) (qcr a ss row)
  | [], _, _, _ => rfl
  | x :: a, b, ss, row => by
    show qcr (a ++ b) ss.tail _ = qcr b (ss.drop (a.length + 1)) (qcr a ss.tail _)
    rw [fwdAll_app a b, ← List.drop_one, List.drop_drop, Nat.add_comm]
theorem bckAll_app : ∀ (a b : List Lens) (ss : List (List Col)) (row : List Val), qem (a ++ b) ss row = qem a ss (qem b (ss.drop a.length) row)
  | [], _, _, _ => rfl
  | x :: a, b, ss, row => by
    rw [List.cons_append, qef, qef, bckAll_app a b, ← List.drop_one, List.drop_drop, List.length_cons, Nat.add_comm]
end Go.Proofs.YtbkkjlcclddpdaaGreatDoor
