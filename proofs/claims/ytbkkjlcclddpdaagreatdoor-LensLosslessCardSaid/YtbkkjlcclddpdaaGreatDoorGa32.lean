/- Walk of lens.Back. -/
import Derived.Test.YtbkkjlcclddpdaaGreatDoorCards
import Derived.Test.YtbkkjlcclddpdaaGreatDoorTie
import Derived.SevenTiedAt
import Derived.Stop.Joined
import Derived.Lib.LaidU8
import Derived.HandedShaped
import Derived.Lay
import Derived.LaidMore
import Derived.OpenShut
import Derived.Test.YtbkkjlcclddpdaaGreatDoorProg
import Derived.KernelRfl
import Derived.Test.YtbkkjlcclddpdaaGreatDoorGa1
import Derived.Test.YtbkkjlcclddpdaaGreatDoorGa8
import Derived.Test.YtbkkjlcclddpdaaGreatDoorGa10
import Derived.Test.YtbkkjlcclddpdaaGreatDoorGa14
import Derived.Test.YtbkkjlcclddpdaaGreatDoorGa18
import Derived.Test.YtbkkjlcclddpdaaGreatDoorGa26
import Derived.Test.YtbkkjlcclddpdaaGreatDoorGa27
import Derived.Test.YtbkkjlcclddpdaaGreatDoorGa28
import Derived.Test.YtbkkjlcclddpdaaGreatDoorGa31
set_option linter.unusedSimpArgs false
set_option linter.unusedVariables false
namespace Go.Proofs.YtbkkjlcclddpdaaGreatDoor
open Go.RowKit Go.Lib
theorem backL_two (L : List Lens) : ∀ x ∈ backL L, x.length = 2 := fun x hx => by
  unfold backL at hx
  obtain ⟨a, ha, rfl⟩ := List.mem_map.1 hx
  rw [List.mem_range] at ha
  rw [List.getElem?_eq_getElem (by omega)]
  rfl
set_option maxHeartbeats 4000000 in
theorem back_g {l : List Lens} {cols : List Col} {ss : List (List Col)} {row : List Val} (hs : qbj l cols = (ss, 0)) (hl : ∀ x ∈ l, qdv x) (h0 : 1 ≤ cols.length) (h1 : cols.length ≤ 12) (hr : qbw row) (hlen : row.length = (shAt ss l.length).length) (R : List Val) (hR : qfo l ss row = R) :
    Gives Tryz.prog 30 [.sl (l.map Lens.av), .sl (cols.map Col.av), .sl (row.map Val.av)] (.sl (R.map Val.av)) := by
  have hL : l.length ≤ 60 := by
    unfold qbj at hs
    by_cases h : 60 < l.length
    · rw [if_pos h] at hs; exact absurd (Prod.mk.inj hs).2 (by decide)
    · omega
  have hs' : qv l cols = (ss, 0) := by rw [qbj, if_neg (by omega)] at hs; exact hs
  obtain ⟨hc, hc0⟩ := chain_of hs' h0 h1
  have hbk := bckK_ok hc hl hr hlen
  have c1 := shapes_g l cols (fun x hx => (hl x hx).l) (by omega) h0 h1
  rw [hs] at c1
  have hrl := hc.sz l.length (by omega)
  have c2 := cloR row (by omega) (by omega)
  have hsl := hc.len
  refine gives_of_fwp Tryz.func30 Tryz.ntmps30 rfl rfl (by decide) rfl (by intro n; simp) fun σ n0 hcl hft => ?_
  refine qcy fun K hK => qev ?_
  repeat' (first | ((first | ((with_reducible refine qp (fun hg => ?_) (fun hg => ?_)) <;> (try simp only [hg]) <;> (try simp only [gS] at hg) <;> (try (first | simp only [eq_false hg, gI] | simp only [eq_true hg, gI]))) | (with_reducible first | refine qc ?_ | refine qb ?_ | refine qj ?_ | refine qi ?_) | refine qe ?_ | refine qk ?_ | refine qh ?_ | refine qo ?_) <;> (try simp (disch := first | omega | simp) [qg, -qq, -qu])) | ((with_reducible refine sideT ?_ ?_); first | omega | assumption | (simp; done)) | (refine qf fun K hK => ?_) | (refine qa ?_) | refine ql ?_ | ((first | refine hK _ ?_ | (clear hK K; refine hK _ ?_) | (clear hK K; clear hK K; refine hK _ ?_)); clear hK K) | refine qd ?_)
  refine hK _ _ ?_
  clear hK K
  refine qcy fun K hK => qev ?_
  repeat' (first | ((first | ((with_reducible refine qp (fun hg => ?_) (fun hg => ?_)) <;> (try simp only [hg]) <;> (try simp only [gS] at hg) <;> (try (first | simp only [eq_false hg, gI] | simp only [eq_true hg, gI]))) | (with_reducible first | refine qc ?_ | refine qb ?_ | refine qj ?_ | refine qi ?_) | refine acall (c1) ?_ | refine qn (c1) ?_ | refine acall (c2) ?_ | refine qn (c2) ?_ | refine qe ?_ | refine qk ?_ | refine qh ?_ | refine qo ?_) <;> (try simp (disch := first | omega | simp) [qg, -qq, -qu])) | ((with_reducible refine sideT ?_ ?_); first | omega | assumption | (simp; done)) | (refine qf fun K hK => ?_) | (refine qa ?_) | refine ql ?_ | ((first | refine hK _ ?_ | (clear hK K; refine hK _ ?_) | (clear hK K; clear hK K; refine hK _ ?_)); clear hK K) | refine qd ?_)
  refine hK _ _ ?_
  clear hK K
  refine qcy fun K hK => qev ?_
  repeat' (first | ((first | ((with_reducible refine qp (fun hg => ?_) (fun hg => ?_)) <;> (try simp only [hg]) <;> (try simp only [gS] at hg) <;> (try (first | simp only [eq_false hg, gI] | simp only [eq_true hg, gI]))) | (with_reducible first | refine qc ?_ | refine qb ?_ | refine qj ?_ | refine qi ?_) | refine acall (c1) ?_ | refine qn (c1) ?_ | refine acall (c2) ?_ | refine qn (c2) ?_ | refine qe ?_ | refine qk ?_ | refine qh ?_ | refine qo ?_) <;> (try simp (disch := first | omega | simp) [qg, -qq, -qu])) | ((with_reducible refine sideT ?_ ?_); first | omega | assumption | (simp; done)) | (refine qf fun K hK => ?_) | (refine qa ?_) | refine ql ?_ | ((first | refine hK _ ?_ | (clear hK K; refine hK _ ?_) | (clear hK K; clear hK K; refine hK _ ?_)); clear hK K) | refine qd ?_)
  refine hK _ _ ?_
  clear hK K
  refine qcy fun K hK => ?_
  refine qcy fun K2 hK2 => qev ?_
  repeat' (first | ((first | ((with_reducible refine qp (fun hg => ?_) (fun hg => ?_)) <;> (try simp only [hg]) <;> (try simp only [gS] at hg) <;> (try (first | simp only [eq_false hg, gI] | simp only [eq_true hg, gI]))) | (with_reducible first | refine qc ?_ | refine qb ?_ | refine qj ?_ | refine qi ?_) | refine acallB (back_b l) ?_ | refine qe ?_ | refine qk ?_ | refine qh ?_ | refine qo ?_) <;> (try simp (disch := first | omega | simp) [qg, -qq, -qu])) | ((with_reducible refine sideT ?_ ?_); first | omega | assumption | (simp; done)) | (refine qf fun K hK => ?_) | (refine qa ?_) | refine ql ?_ | ((first | refine hK _ ?_ | (clear hK K; refine hK _ ?_) | (clear hK K; clear hK K; refine hK _ ?_)); clear hK K) | refine qd ?_)
  refine hK2 _ _ ?_
  clear hK2 K2
  refine fwp_block ?_
  have hw := back_it (n0 + 2) l (by omega)
  have hbl := backL_len l
  have hb0 : bckK l ss row (l.length - 0) = row := bckK_end l ss row
  refine fwp_range (psl := [22, 23]) (by rfl) (by kernel_rfl) hw (fun k => [.cells [.sl (ss.map qdl)] 85, .cells [.sl ((bckK l ss row (l.length - k)).map Val.av)] 36, .cells [.sl (l.map Lens.av)] 22]) (fun k => [.cells [.sl (ss.map qdl)] 85, .cells [.sl ((bckK l ss row (l.length - k)).map Val.av)] 36, .cells [.sl (l.map Lens.av)] 22]) l.length false .ret (.inl rfl) (by rw [hb0]) (by omega) (by simp [hbl]) (by simp) hcl (fun _ _ => rfl) (fun _ _ => rfl) (fun _ _ => by simp) (fun _ _ _ => by simp) (fun _ _ _ => rfl) (by decide) (backL_two l) (fun k hk hx σ' σb nx h1 h2 hxc => ?_) ?_
  · obtain ⟨q, hq, rfl⟩ : ∃ q, q < l.length ∧ k = l.length - (q + 1) := ⟨l.length - (k + 1), by omega, by omega⟩
    have e1 : l.length - (l.length - (q + 1)) = q + 1 := by omega
    have e2 : l.length - (l.length - (q + 1) + 1) = q := by omega
    have e3 : (false && decide (l.length - (q + 1) + 1 = l.length)) = false := rfl
    rw [e1] at h1 h2
    rw [e2]
    simp only [backL_get l hq]
    obtain ⟨g3, g4⟩ := hc.ok q hq
    obtain ⟨g1, g2⟩ := hbk (l.length - (q + 1)) (q + 1) (by omega)
    obtain ⟨g5, g6⟩ := hc.sz q (by omega)
    have hqs : q < ss.length := by omega
    have c3 := bck_g (hl _ (List.getElem_mem hq)) g5 g6 g3 (g1.trans (by rw [g4])) g2
    rw [← bckK_pred hq, shAt_eq hqs] at c3
    have a0 := h2.at' 0 _ rfl
    have a1 := h2.at' 1 _ rfl
    have a3 := h2.lt
    simp at a0 a1 a3
    have g3' : n0 < nx := by omega
    have g4' : n0 + 1 < nx := by omega
    have f0 : ∀ L', loc σb nx L' n0 = .cells [.sl (ss.map qdl)] 85 := fun L' => by rw [qdd _ _ _ _ g3']; exact a0
    have f1 : ∀ L', loc σb nx L' (n0 + 1) = .cells [.sl ((bckK l ss row (q + 1)).map Val.av)] 36 := fun L' => by rw [qdd _ _ _ _ g4']; exact a1
    repeat' (first | ((first | ((with_reducible refine qp (fun hg => ?_) (fun hg => ?_)) <;> (try simp only [hg]) <;> (try simp only [gS] at hg) <;> (try (first | simp only [eq_false hg, gI] | simp only [eq_true hg, gI]))) | (with_reducible first | refine qc ?_ | refine qb ?_ | refine qj ?_ | refine qi ?_) | refine acall (c3) ?_ | refine qn (c3) ?_ | refine qe ?_ | refine qk ?_ | refine qh ?_ | refine qo ?_) <;> (try simp (disch := first | omega | simp) [qg, -qq, -qu, f0, f1, g3', g4', hqs, qdl])) | ((with_reducible refine sideT ?_ ?_); first | omega | assumption | (simp; done)) | (refine qf fun K hK => ?_) | (refine qa ?_) | refine ql ?_ | ((first | refine hK _ ?_ | (clear hK K; refine hK _ ?_) | (clear hK K; clear hK K; refine hK _ ?_)); clear hK K) | refine qd ?_)
    exact updB_set h2.at' 1 _ (by simp)
  · intro D
    simp only [Bool.false_eq_true, if_false, FBlock, FThen]
    refine hK _ _ ?_
    clear hK K
    refine qev ?_
    have hend : bckK l ss row 0 = R := hR
    repeat' (first | ((first | ((with_reducible refine qp (fun hg => ?_) (fun hg => ?_)) <;> (try simp only [hg]) <;> (try simp only [gS] at hg) <;> (try (first | simp only [eq_false hg, gI] | simp only [eq_true hg, gI]))) | (with_reducible first | refine qc ?_ | refine qb ?_ | refine qj ?_ | refine qi ?_) | refine qe ?_ | refine qk ?_ | refine qh ?_ | refine qo ?_) <;> (try simp (disch := first | omega | simp) [qg, -qq, -qu])) | ((with_reducible refine sideT ?_ ?_); first | omega | assumption | (simp; done)) | (refine qf fun K hK => ?_) | (refine qa ?_) | refine ql ?_ | ((first | refine hK _ ?_ | (clear hK K; refine hK _ ?_) | (clear hK K; clear hK K; refine hK _ ?_)); clear hK K) | refine qd ?_)
    refine fend_mark 3 (.inr rfl) (by rfl) ?_
    simp [hend]
end Go.Proofs.YtbkkjlcclddpdaaGreatDoor

/- Walks of the reference: right values and rows, comparing, right shapes, Fits, Default. -/
namespace Go.Proofs.YtbkkjlcclddpdaaGreatDoor
open Go.RowKit Go.Lib
theorem rsame_g13 (a b : List Col) (hL : a.length ≤ 1000000) : Gives Tryz.prog 20 [.sl (a.map Col.av), .sl (b.map Col.av)] (.bool (sameC a b)) := by
  obtain ⟨R, hR⟩ : ∃ R, R = sameC a b := ⟨_, rfl⟩
  rw [← hR]
  by_cases hlen : a.length = b.length
  · have hlen' : (a.length : Int) = b.length := by omega
    refine qm Tryz.func20 Tryz.ntmps20 rfl rfl (by decide) rfl (by intro n; simp) fun σ n0 hcl hft => ?_
    repeat' (first | ((first | ((with_reducible refine qp (fun hg => ?_) (fun hg => ?_)) <;> (try simp only [hg]) <;> (try simp only [gS] at hg) <;> (try (first | simp only [eq_false hg, gI] | simp only [eq_true hg, gI]))) | (with_reducible first | refine qc ?_ | refine qb ?_ | refine qj ?_ | refine qi ?_) | refine qe ?_ | refine qk ?_ | refine qh ?_ | refine qo ?_) <;> (try simp (disch := first | omega | simp) [qg, -qq, -qu, hlen'])) | ((with_reducible refine sideT ?_ ?_); first | omega | assumption | (simp; done)) | (refine qf fun K hK => ?_) | (refine qa ?_) | refine ql ?_ | ((first | refine hK _ ?_ | (clear hK K; refine hK _ ?_) | (clear hK K; clear hK K; refine hK _ ?_)); clear hK K) | refine qd ?_)
    refine qbr hcl (fun k : Nat => [(0, .sl (a.map Col.av)), (1, .sl (b.map Col.av)), (5, .int k)]) (fun _ => [])
      (fun k => k ≤ a.length ∧ a.take k = b.take k) (fun k => a.length - k) 0 (by simp [hlen]) (by simp [hlen']) fun k ⟨hk, he⟩ => ?_
    by_cases hlt : k < a.length
    · have hlt2 : k < b.length := by omega
      repeat' (first | ((first | ((with_reducible refine qp (fun hg => ?_) (fun hg => ?_)) <;> (try simp only [hg]) <;> (try simp only [gS] at hg) <;> (try (first | simp only [eq_false hg, gI] | simp only [eq_true hg, gI]))) | (with_reducible first | refine qc ?_ | refine qb ?_ | refine qj ?_ | refine qi ?_) | refine qe ?_ | refine qk ?_ | refine qh ?_ | refine qo ?_) <;> (try simp (disch := first | omega | simp) [qg, -qq, -qu, hlt, hlt2])) | ((with_reducible refine sideT ?_ ?_); first | omega | assumption | (simp; done)) | (refine qf fun K hK => ?_) | (refine qa ?_) | refine ql ?_ | ((first | refine hK _ ?_ | (clear hK K; refine hK _ ?_) | (clear hK K; clear hK K; refine hK _ ?_)); clear hK K) | refine qd ?_)
      all_goals first
        | (have hab : a[k] = b[k] := (Col.eqB_iff _ _).1 hg
           refine ⟨k + 1, ⟨by omega, ?_⟩, by omega, by simp [hlen', qg]⟩
           rw [List.take_succ_eq_append_getElem hlt, List.take_succ_eq_append_getElem hlt2, he, hab])
        | (have hab : a ≠ b := fun e => by subst e; rw [← Bool.not_eq_true, Col.eqB_iff] at hg; exact hg rfl
           rw [hR, ← Bool.not_eq_true, sameC_iff]
           exact hab)
    · have hlt3 : ¬ k < b.length := by omega
      repeat' (first | ((first | ((with_reducible refine qp (fun hg => ?_) (fun hg => ?_)) <;> (try simp only [hg]) <;> (try simp only [gS] at hg) <;> (try (first | simp only [eq_false hg, gI] | simp only [eq_true hg, gI]))) | (with_reducible first | refine qc ?_ | refine qb ?_ | refine qj ?_ | refine qi ?_) | refine qe ?_ | refine qk ?_ | refine qh ?_ | refine qo ?_) <;> (try simp (disch := first | omega | simp) [qg, -qq, -qu, hlt, hlt3])) | ((with_reducible refine sideT ?_ ?_); first | omega | assumption | (simp; done)) | (refine qf fun K hK => ?_) | (refine qa ?_) | refine ql ?_ | ((first | refine hK _ ?_ | (clear hK K; refine hK _ ?_) | (clear hK K; clear hK K; refine hK _ ?_)); clear hK K) | refine qd ?_)
      rw [hR, sameC_iff]
      have h1 : k = a.length := by omega
      subst h1
      rw [List.take_length, hlen, List.take_length] at he
      exact he
  · have hlen' : ¬ (a.length : Int) = b.length := by omega
    have : sameC a b = false := by rw [← Bool.not_eq_true, sameC_iff]; exact fun e => hlen (by rw [e])
    rw [this] at hR; subst hR
    refine qm Tryz.func20 Tryz.ntmps20 rfl rfl (by decide) rfl (by intro n; simp) fun σ n0 hcl hft => ?_
    repeat' (first | ((first | ((with_reducible refine qp (fun hg => ?_) (fun hg => ?_)) <;> (try simp only [hg]) <;> (try simp only [gS] at hg) <;> (try (first | simp only [eq_false hg, gI] | simp only [eq_true hg, gI]))) | (with_reducible first | refine qc ?_ | refine qb ?_ | refine qj ?_ | refine qi ?_) | refine qe ?_ | refine qk ?_ | refine qh ?_ | refine qo ?_) <;> (try simp (disch := first | omega | simp) [qg, -qq, -qu, hlen'])) | ((with_reducible refine sideT ?_ ?_); first | omega | assumption | (simp; done)) | (refine qf fun K hK => ?_) | (refine qa ?_) | refine ql ?_ | ((first | refine hK _ ?_ | (clear hK K; refine hK _ ?_) | (clear hK K; clear hK K; refine hK _ ?_)); clear hK K) | refine qd ?_)
    omega
theorem less_self : ∀ l : List UInt8, Op.bytesLess l l = false
  | [] => rfl
  | c :: l => by simp [Op.bytesLess, less_self l]
theorem rcmp_g (v : Val) : Gives Tryz.prog 119 [v.av, v.av] (.int 0) := by
  have hl := less_self v.s.toList
  refine qm Tryz.func119 Tryz.ntmps119 rfl rfl (by decide) rfl (by intro n; simp) fun σ n0 hcl hft => ?_
  repeat' (first | ((first | ((with_reducible refine qp (fun hg => ?_) (fun hg => ?_)) <;> (try simp only [hg]) <;> (try simp only [gS] at hg) <;> (try (first | simp only [eq_false hg, gI] | simp only [eq_true hg, gI]))) | (with_reducible first | refine qc ?_ | refine qb ?_ | refine qj ?_ | refine qi ?_) | refine qe ?_ | refine qk ?_ | refine qh ?_ | refine qo ?_) <;> (try simp (disch := first | omega | simp) [qg, -qq, -qu, hl])) | ((with_reducible refine sideT ?_ ?_); first | omega | assumption | (simp; done)) | (refine qf fun K hK => ?_) | (refine qa ?_) | refine ql ?_ | ((first | refine hK _ ?_ | (clear hK K; refine hK _ ?_) | (clear hK K; clear hK K; refine hK _ ?_)); clear hK K) | refine qd ?_)
  all_goals first | omega | skip
theorem rcmps_g (L : List Val) (hL : L.length ≤ 1000000) : Gives Tryz.prog 63 [.sl (L.map Val.av), .sl (L.map Val.av)] (.int 0) := by
  refine qm Tryz.func63 Tryz.ntmps63 rfl rfl (by decide) rfl (by intro n; simp) fun σ n0 hcl hft => ?_
  repeat' (first | ((first | ((with_reducible refine qp (fun hg => ?_) (fun hg => ?_)) <;> (try simp only [hg]) <;> (try simp only [gS] at hg) <;> (try (first | simp only [eq_false hg, gI] | simp only [eq_true hg, gI]))) | (with_reducible first | refine qc ?_ | refine qb ?_ | refine qj ?_ | refine qi ?_) | refine qe ?_ | refine qk ?_ | refine qh ?_ | refine qo ?_) <;> (try simp (disch := first | omega | simp) [qg, -qq, -qu])) | ((with_reducible refine sideT ?_ ?_); first | omega | assumption | (simp; done)) | (refine qf fun K hK => ?_) | (refine qa ?_) | refine ql ?_ | ((first | refine hK _ ?_ | (clear hK K; refine hK _ ?_) | (clear hK K; clear hK K; refine hK _ ?_)); clear hK K) | refine qd ?_)
  refine qbr hcl (fun k : Nat => [(0, .sl (L.map Val.av)), (1, .sl (L.map Val.av)), (5, .int k)]) (fun _ => [])
    (fun k => k ≤ L.length) (fun k => L.length - k) 0 (by simp) (by simp) fun k hk => ?_
  by_cases hlt : k < L.length
  · repeat' (first | ((first | ((with_reducible refine qp (fun hg => ?_) (fun hg => ?_)) <;> (try simp only [hg]) <;> (try simp only [gS] at hg) <;> (try (first | simp only [eq_false hg, gI] | simp only [eq_true hg, gI]))) | (with_reducible first | refine qc ?_ | refine qb ?_ | refine qj ?_ | refine qi ?_) | refine acall (rcmp_g _) ?_ | refine qn (rcmp_g _) ?_ | refine qe ?_ | refine qk ?_ | refine qh ?_ | refine qo ?_) <;> (try simp (disch := first | omega | simp) [qg, -qq, -qu, hlt])) | ((with_reducible refine sideT ?_ ?_); first | omega | assumption | (simp; done)) | (refine qf fun K hK => ?_) | (refine qa ?_) | refine ql ?_ | ((first | refine hK _ ?_ | (clear hK K; refine hK _ ?_) | (clear hK K; clear hK K; refine hK _ ?_)); clear hK K) | refine qd ?_)
    exact ⟨k + 1, by omega, by omega, by simp⟩
  · repeat' (first | ((first | ((with_reducible refine qp (fun hg => ?_) (fun hg => ?_)) <;> (try simp only [hg]) <;> (try simp only [gS] at hg) <;> (try (first | simp only [eq_false hg, gI] | simp only [eq_true hg, gI]))) | (with_reducible first | refine qc ?_ | refine qb ?_ | refine qj ?_ | refine qi ?_) | refine qe ?_ | refine qk ?_ | refine qh ?_ | refine qo ?_) <;> (try simp (disch := first | omega | simp) [qg, -qq, -qu, hlt])) | ((with_reducible refine sideT ?_ ?_); first | omega | assumption | (simp; done)) | (refine qf fun K hK => ?_) | (refine qa ?_) | refine ql ?_ | ((first | refine hK _ ?_ | (clear hK K; refine hK _ ?_) | (clear hK K; clear hK K; refine hK _ ?_)); clear hK K) | refine qd ?_)
    all_goals omega
theorem rsame03_g (L : List Val) (hL : L.length ≤ 1000000) : Gives Tryz.prog 29 [.sl (L.map Val.av), .sl (L.map Val.av)] (.bool true) := by
  refine qm Tryz.func29 Tryz.ntmps29 rfl rfl (by decide) rfl (by intro n; simp) fun σ n0 hcl hft => ?_
  repeat' (first | ((first | ((with_reducible refine qp (fun hg => ?_) (fun hg => ?_)) <;> (try simp only [hg]) <;> (try simp only [gS] at hg) <;> (try (first | simp only [eq_false hg, gI] | simp only [eq_true hg, gI]))) | (with_reducible first | refine qc ?_ | refine qb ?_ | refine qj ?_ | refine qi ?_) | refine acall (rcmps_g L hL) ?_ | refine qn (rcmps_g L hL) ?_ | refine qe ?_ | refine qk ?_ | refine qh ?_ | refine qo ?_) <;> (try simp (disch := first | omega | simp) [qg, -qq, -qu])) | ((with_reducible refine sideT ?_ ?_); first | omega | assumption | (simp; done)) | (refine qf fun K hK => ?_) | (refine qa ?_) | refine ql ?_ | ((first | refine hK _ ?_ | (clear hK K; refine hK _ ?_) | (clear hK K; clear hK K; refine hK _ ?_)); clear hK K) | refine qd ?_)
end Go.Proofs.YtbkkjlcclddpdaaGreatDoor

/- Walk of layer 14: the examples of the documentation. -/
namespace Go.Proofs.YtbkkjlcclddpdaaGreatDoor
open Go.RowKit Go.Lib
def exS1 : ByteArray := ⟨#[115, 112, 108, 105, 116, 32, 110, 97, 109, 101, 32, 34, 32, 34, 32, 102, 105, 114, 115, 116, 32, 108, 97, 115, 116, 10]⟩
def exS2 : ByteArray := ⟨#[115, 99, 97, 108, 101, 32, 119, 32, 49, 48, 48, 48, 32, 103, 10]⟩
def exX1 : Lens := ⟨3, ⟨#[110, 97, 109, 101]⟩, ⟨#[102, 105, 114, 115, 116]⟩, ⟨#[108, 97, 115, 116]⟩, ⟨#[32]⟩, 0, ⟨0, 0, ⟨#[]⟩⟩⟩
def exX2 : Lens := ⟨6, ⟨#[119]⟩, ⟨#[103]⟩, ⟨#[]⟩, ⟨#[]⟩, 1000, ⟨0, 0, ⟨#[]⟩⟩⟩
def exC1 : List Col := [⟨⟨#[105, 100]⟩, 0, ⟨#[]⟩⟩, ⟨⟨#[110, 97, 109, 101]⟩, 1, ⟨#[]⟩⟩]
def exC2 : List Col := [⟨⟨#[105, 100]⟩, 0, ⟨#[]⟩⟩, ⟨⟨#[102, 105, 114, 115, 116]⟩, 1, ⟨#[]⟩⟩, ⟨⟨#[108, 97, 115, 116]⟩, 1, ⟨#[]⟩⟩]
def exC3 : List Col := [⟨⟨#[119]⟩, 0, ⟨#[107, 103]⟩⟩]
def exC4 : List Col := [⟨⟨#[119]⟩, 0, ⟨#[103]⟩⟩]
def exR1 : List Val := [⟨0, 7, ⟨#[]⟩⟩, ⟨1, 0, ⟨#[65, 100, 97, 32, 76, 111, 118, 101, 108, 97, 99, 101, 32, 120]⟩⟩]
def exR2 : List Val := [⟨0, 7, ⟨#[]⟩⟩, ⟨1, 0, ⟨#[65, 100, 97]⟩⟩, ⟨1, 0, ⟨#[76, 111, 118, 101, 108, 97, 99, 101, 32, 120]⟩⟩]
def exR3 : List Val := [⟨0, 7, ⟨#[]⟩⟩, ⟨1, 0, ⟨#[65, 100, 97, 32]⟩⟩]
def exR4 : List Val := [⟨0, 7, ⟨#[]⟩⟩, ⟨1, 0, ⟨#[65, 100, 97]⟩⟩, ⟨1, 0, ⟨#[]⟩⟩]
def exR5 : List Val := [⟨0, 7, ⟨#[]⟩⟩, ⟨1, 0, ⟨#[65, 100, 97]⟩⟩]
def exR6 : List Val := [⟨0, 5, ⟨#[]⟩⟩]
def exR7 : List Val := [⟨0, 5000, ⟨#[]⟩⟩]
def exR8 : List Val := [⟨0, 9223372036854775807, ⟨#[]⟩⟩]
theorem exP1 : lparseP exS1.data.toList = ([exX1], true) := by kernel_rfl
theorem exP2 : lparseP exS2.data.toList = ([exX2], true) := by kernel_rfl
theorem exH1 : qbj [exX1] exC1 = ([exC1, exC2], 0) := by kernel_rfl
theorem exH2 : qbj [exX2] exC3 = ([exC3, exC4], 0) := by kernel_rfl
theorem exT1 : toP [exX1] exC1 = (exC2, 0) := by kernel_rfl
theorem exF1 : qeg [exX1] [exC1, exC2] exR1 = exR2 := by kernel_rfl
theorem exB1 : qfo [exX1] [exC1, exC2] exR2 = exR1 := by kernel_rfl
theorem exF3 : qeg [exX1] [exC1, exC2] exR3 = exR4 := by kernel_rfl
theorem exB3 : qfo [exX1] [exC1, exC2] exR4 = exR5 := by kernel_rfl
theorem exF6 : qeg [exX2] [exC3, exC4] exR6 = exR7 := by kernel_rfl
theorem exL2 : lostP [exX2] [exC3, exC4] 0 = (false, 0, exR8) := by kernel_rfl
theorem exSX1 : qdv exX1 := ⟨⟨by decide, by decide, by decide, by decide⟩, ⟨⟨by decide, by decide⟩, by decide⟩⟩
theorem exSX2 : qdv exX2 := ⟨⟨by decide, by decide, by decide, by decide⟩, ⟨⟨by decide, by decide⟩, by decide⟩⟩
theorem exSR {l : List Val} (h : l.all (fun v => decide (-9223372036854775808 ≤ v.n) && (decide (v.n ≤ 9223372036854775807) && decide (v.s.size ≤ 300000))) = true) : qbw l := fun v hv => by
  have := List.all_eq_true.1 h v hv
  simp only [Bool.and_eq_true, decide_eq_true_eq] at this
  exact ⟨⟨this.1, this.2.1⟩, this.2.2⟩
theorem exA {x : Lens} (h : qdv x) : ∀ y ∈ [x], qdv y := fun y hy => by rw [List.mem_singleton] at hy; subst hy; exact h
set_option maxRecDepth 8000 in
set_option maxHeartbeats 8000000 in
theorem small14_g : Gives Tryz.prog 9 [] (.bool true) := by
  have c1 := lparse_g exS1 (by decide)
  have c2 := lparse_g exS2 (by decide)
  rw [exP1] at c1
  rw [exP2] at c2
  have c3 := qes (row := exR1) exH1 (exA exSX1) (by decide) (by decide) (exSR (by decide)) rfl _ exF1
  have c4 := qes (row := exR3) exH1 (exA exSX1) (by decide) (by decide) (exSR (by decide)) rfl _ exF3
  have c5 := qes (row := exR6) exH2 (exA exSX2) (by decide) (by decide) (exSR (by decide)) rfl _ exF6
  have c6 := back_g (row := exR2) exH1 (exA exSX1) (by decide) (by decide) (exSR (by decide)) rfl _ exB1
  have c7 := back_g (row := exR4) exH1 (exA exSX1) (by decide) (by decide) (exSR (by decide)) rfl _ exB3
  have c8 := to_g [exX1] exC1 (fun x hx => (exA exSX1 x hx).l) (by decide) (by decide) (by decide)
  rw [exT1] at c8
  have c9 := lossless_g exH2 (exA exSX2) (by decide) (by decide) _ exL2
  have c10 := rsame03_g exR1 (by decide)
  simp only [exS1, exS2, exC1, exC2, exC3, exR1, exR2, exR3, exR4, exR5, exR6, exR7, exR8, List.map_cons, List.map_nil] at *
  refine qm Tryz.func9 Tryz.ntmps9 rfl rfl (by decide) rfl (by intro n; simp) fun σ n0 hcl hft => ?_
  repeat' (first | ((first | ((with_reducible refine qp (fun hg => ?_) (fun hg => ?_)) <;> (try simp only [hg]) <;> (try simp only [gS] at hg) <;> (try (first | simp only [eq_false hg, gI] | simp only [eq_true hg, gI]))) | (with_reducible first | refine qc ?_ | refine qb ?_ | refine qj ?_ | refine qi ?_) | refine acall (c1) ?_ | refine qn (c1) ?_ | refine acall (c2) ?_ | refine qn (c2) ?_ | refine acall (c3) ?_ | refine qn (c3) ?_ | refine acall (c4) ?_ | refine qn (c4) ?_ | refine acall (c5) ?_ | refine qn (c5) ?_ | refine acall (c6) ?_ | refine qn (c6) ?_ | refine acall (c7) ?_ | refine qn (c7) ?_ | refine acall (c8) ?_ | refine qn (c8) ?_ | refine acall (c9) ?_ | refine qn (c9) ?_ | refine acall (c10) ?_ | refine qn (c10) ?_ | refine qe ?_ | refine qk ?_ | refine qh ?_ | refine qo ?_) <;> (try simp (disch := first | omega | simp) [qg, -qq, -qu])) | ((with_reducible refine sideT ?_ ?_); first | omega | assumption | (simp; done)) | (refine qf fun K hK => ?_) | (refine qa ?_) | refine ql ?_ | ((first | refine hK _ ?_ | (clear hK K; refine hK _ ?_) | (clear hK K; clear hK K; refine hK _ ?_)); clear hK K) | refine qd ?_)
end Go.Proofs.YtbkkjlcclddpdaaGreatDoor

/- A list that is handed to a function as a slice is no longer than an int tells. -/
namespace Go.Proofs.YtbkkjlcclddpdaaGreatDoor
open Go.RowKit Go.Lib
theorem gives_len {P : Program} {f : FuncId} {l : List AV} {tl : List AV} {x : AV} (h : l.length ≤ 9223372036854775807 → Gives P f (.sl l :: tl) x) : Gives P f (.sl l :: tl) x := by
  intro σ X vals nx hS hσ hF hR
  have hl : l.length ≤ 9223372036854775807 := by
    obtain ⟨v, vs', -, h1, -⟩ := hR
    change RC X (.sl l) [v] at h1
    rw [RC] at h1
    obtain ⟨A, cap, b, off, -, h2, h3, -⟩ := h1
    omega
  exact h hl σ X vals nx hS hσ hF hR
end Go.Proofs.YtbkkjlcclddpdaaGreatDoor

/- Walks of the laws of layer 14: bounds, steps and rows that suit. -/
namespace Go.Proofs.YtbkkjlcclddpdaaGreatDoor
open Go.RowKit Go.Lib
def fewX (x : Lens) : Bool := decide (x.a.size ≤ 210) && (decide (x.b.size ≤ 210) && (decide (x.c.size ≤ 210) && (decide (x.sep.size ≤ 210) && decide (x.value.s.size ≤ 210))))
def fewL (l : List Lens) : Bool := l.all fewX && decide (l.length ≤ 20)
theorem fewX_iff {x : Lens} : fewX x = true ↔ x.a.size ≤ 210 ∧ x.b.size ≤ 210 ∧ x.c.size ≤ 210 ∧ x.sep.size ≤ 210 ∧ x.value.s.size ≤ 210 := by
  unfold fewX; simp
set_option maxHeartbeats 4000000 in
theorem few_g14 (l : List Lens) : Gives Tryz.prog 10 [.sl (l.map Lens.av)] (.bool (fewL l)) := by
  obtain ⟨R, hR⟩ : ∃ R, R = fewL l := ⟨_, rfl⟩
  rw [← hR]
  unfold fewL at hR
  refine gives_len fun hlen => ?_
  simp only [List.length_map] at hlen
  refine qm Tryz.func10 Tryz.ntmps10 rfl rfl (by decide) rfl (by intro n; simp) fun σ n0 hcl hft => ?_
  repeat' (first | ((first | ((with_reducible refine qp (fun hg => ?_) (fun hg => ?_)) <;> (try simp only [hg]) <;> (try simp only [gS] at hg) <;> (try (first | simp only [eq_false hg, gI] | simp only [eq_true hg, gI]))) | (with_reducible first | refine qc ?_ | refine qb ?_ | refine qj ?_ | refine qi ?_) | refine qe ?_ | refine qk ?_ | refine qh ?_ | refine qo ?_) <;> (try simp (disch := first | omega | simp) [qg, -qq, -qu])) | ((with_reducible refine sideT ?_ ?_); first | omega | assumption | (simp; done)) | (refine qf fun K hK => ?_) | (refine qa ?_) | refine ql ?_ | ((first | refine hK _ ?_ | (clear hK K; refine hK _ ?_) | (clear hK K; clear hK K; refine hK _ ?_)); clear hK K) | refine qd ?_)
  refine qbr hcl (fun k : Nat => [(0, .sl (l.map Lens.av)), (3, .int k)]) (fun _ => [])
    (fun k => k ≤ l.length ∧ ∀ j (h : j < l.length), j < k → fewX l[j] = true) (fun k => l.length - k) 0 (by simp) (by simp) fun k ⟨hk, he⟩ => ?_
  by_cases hlt : k < l.length
  · cases hs : fewX l[k] with
    | true =>
      obtain ⟨f1, f2, f3, f4, f5⟩ := fewX_iff.1 hs
      have g1 : ¬ (210 : Int) < l[k].a.size := by omega
      have g2 : ¬ (210 : Int) < l[k].b.size := by omega
      have g3 : ¬ (210 : Int) < l[k].c.size := by omega
      have g4 : ¬ (210 : Int) < l[k].sep.size := by omega
      have g5 : ¬ (210 : Int) < l[k].value.s.size := by omega
      repeat' (first | ((first | ((with_reducible refine qp (fun hg => ?_) (fun hg => ?_)) <;> (try simp only [hg]) <;> (try simp only [gS] at hg) <;> (try (first | simp only [eq_false hg, gI] | simp only [eq_true hg, gI]))) | (with_reducible first | refine qc ?_ | refine qb ?_ | refine qj ?_ | refine qi ?_) | refine qe ?_ | refine qk ?_ | refine qh ?_ | refine qo ?_) <;> (try simp (disch := first | omega | simp) [qg, -qq, -qu, hlt, g1, g2, g3, g4, g5])) | ((with_reducible refine sideT ?_ ?_); first | omega | assumption | (simp; done)) | (refine qf fun K hK => ?_) | (refine qa ?_) | refine ql ?_ | ((first | refine hK _ ?_ | (clear hK K; refine hK _ ?_) | (clear hK K; clear hK K; refine hK _ ?_)); clear hK K) | refine qd ?_)
      exact ⟨k + 1, ⟨by omega, qfl (C := fun x : Lens => fewX x = true) he fun _ => hs⟩, by omega, by simp⟩
    | false =>
      have hb : l.all fewX = false := by
        rw [List.all_eq_false]
        exact ⟨l[k], List.getElem_mem _, by simp [hs]⟩
      rw [hb] at hR
      have hR' : R = false := hR
      subst hR'
      have no : ¬ (l[k].a.size ≤ 210 ∧ l[k].b.size ≤ 210 ∧ l[k].c.size ≤ 210 ∧ l[k].sep.size ≤ 210 ∧ l[k].value.s.size ≤ 210) := fun h => by
        rw [fewX_iff.2 h] at hs; cases hs
      repeat' (first | ((first | ((with_reducible refine qp (fun hg => ?_) (fun hg => ?_)) <;> (try simp only [hg]) <;> (try simp only [gS] at hg) <;> (try (first | simp only [eq_false hg, gI] | simp only [eq_true hg, gI]))) | (with_reducible first | refine qc ?_ | refine qb ?_ | refine qj ?_ | refine qi ?_) | refine qe ?_ | refine qk ?_ | refine qh ?_ | refine qo ?_) <;> (try simp (disch := first | omega | simp) [qg, -qq, -qu, hlt])) | ((with_reducible refine sideT ?_ ?_); first | omega | assumption | (simp; done)) | (refine qf fun K hK => ?_) | (refine qa ?_) | refine ql ?_ | ((first | refine hK _ ?_ | (clear hK K; refine hK _ ?_) | (clear hK K; clear hK K; refine hK _ ?_)); clear hK K) | refine qd ?_)
      all_goals first | (exfalso; exact no ⟨by omega, by omega, by omega, by omega, by omega⟩) | rfl
  · have hb : l.all fewX = true := by
      rw [List.all_eq_true]
      intro x hx
      obtain ⟨j, hj, rfl⟩ := List.mem_iff_getElem.1 hx
      exact he j hj (by omega)
    rw [hb, Bool.true_and] at hR
    repeat' (first | ((first | ((with_reducible refine qp (fun hg => ?_) (fun hg => ?_)) <;> (try simp only [hg]) <;> (try simp only [gS] at hg) <;> (try (first | simp only [eq_false hg, gI] | simp only [eq_true hg, gI]))) | (with_reducible first | refine qc ?_ | refine qb ?_ | refine qj ?_ | refine qi ?_) | refine qe ?_ | refine qk ?_ | refine qh ?_ | refine qo ?_) <;> (try simp (disch := first | omega | simp) [qg, -qq, -qu, hlt])) | ((with_reducible refine sideT ?_ ?_); first | omega | assumption | (simp; done)) | (refine qf fun K hK => ?_) | (refine qa ?_) | refine ql ?_ | ((first | refine hK _ ?_ | (clear hK K; refine hK _ ?_) | (clear hK K; clear hK K; refine hK _ ?_)); clear hK K) | refine qd ?_)
    all_goals
      rw [hR, Bool.eq_iff_iff]
      simp
      omega
theorem fits_gU (a : List Val) (b : List Col) (hb : b.length ≤ 1000000) : Gives Tryz.prog 24 [.sl (a.map Val.av), .sl (b.map Col.av)] (.bool (fitsC a b)) := by
  by_cases h : a.length ≤ 1000000
  · exact fits_g a b h hb
  · have hne : ¬ a.length = b.length := by omega
    have hne' : ¬ (a.length : Int) = b.length := by omega
    unfold fitsC
    rw [decide_eq_false hne]
    refine qm Tryz.func24 Tryz.ntmps24 rfl rfl (by decide) rfl (by intro n; simp) fun σ n0 hcl hft => ?_
    repeat' (first | ((first | ((with_reducible refine qp (fun hg => ?_) (fun hg => ?_)) <;> (try simp only [hg]) <;> (try simp only [gS] at hg) <;> (try (first | simp only [eq_false hg, gI] | simp only [eq_true hg, gI]))) | (with_reducible first | refine qc ?_ | refine qb ?_ | refine qj ?_ | refine qi ?_) | refine qe ?_ | refine qk ?_ | refine qh ?_ | refine qo ?_) <;> (try simp (disch := first | omega | simp) [qg, -qq, -qu, hne'])) | ((with_reducible refine sideT ?_ ?_); first | omega | assumption | (simp; done)) | (refine qf fun K hK => ?_) | (refine qa ?_) | refine ql ?_ | ((first | refine hK _ ?_ | (clear hK K; refine hK _ ?_) | (clear hK K; clear hK K; refine hK _ ?_)); clear hK K) | refine qd ?_)
    all_goals exact absurd (by assumption) hne'
def suitsL (l : List Lens) (cols : List Col) (row : List Val) : Bool := fewL l && (decide (cols.length ≤ 12) && (rightP cols && (fitsC row cols && decide ((toP l cols).2 = 0))))
theorem few_small {l : List Lens} (h : fewL l = true) : l.length ≤ 20 ∧ ∀ x ∈ l, qcb x ∧ x.value.s.size ≤ 210 := by
  unfold fewL at h
  rw [Bool.and_eq_true, List.all_eq_true, decide_eq_true_eq] at h
  refine ⟨h.2, fun x hx => ?_⟩
  obtain ⟨f1, f2, f3, f4, f5⟩ := fewX_iff.1 (h.1 x hx)
  exact ⟨⟨by omega, by omega, by omega, by omega⟩, f5⟩
set_option maxHeartbeats 4000000 in
theorem suits_g14 (l : List Lens) (cols : List Col) (row : List Val) : Gives Tryz.prog 32 [.sl (l.map Lens.av), .sl (cols.map Col.av), .sl (row.map Val.av)] (.bool (suitsL l cols row)) := by
  have c1 := few_g14 l
  obtain ⟨R, hR⟩ : ∃ R, suitsL l cols row = R := ⟨_, rfl⟩
  rw [hR]
  unfold suitsL at hR
  cases hf : fewL l with
  | false =>
    rw [hf] at c1 hR
    refine qm Tryz.func32 Tryz.ntmps32 rfl rfl (by decide) rfl (by intro n; simp) fun σ n0 hcl hft => ?_
    repeat' (first | ((first | ((with_reducible refine qp (fun hg => ?_) (fun hg => ?_)) <;> (try simp only [hg]) <;> (try simp only [gS] at hg) <;> (try (first | simp only [eq_false hg, gI] | simp only [eq_true hg, gI]))) | (with_reducible first | refine qc ?_ | refine qb ?_ | refine qj ?_ | refine qi ?_) | refine acall (c1) ?_ | refine qn (c1) ?_ | refine qe ?_ | refine qk ?_ | refine qh ?_ | refine qo ?_) <;> (try simp (disch := first | omega | simp) [qg, -qq, -qu])) | ((with_reducible refine sideT ?_ ?_); first | omega | assumption | (simp; done)) | (refine qf fun K hK => ?_) | (refine qa ?_) | refine ql ?_ | ((first | refine hK _ ?_ | (clear hK K; refine hK _ ?_) | (clear hK K; clear hK K; refine hK _ ?_)); clear hK K) | refine qd ?_)
    exact hR.symm
  | true =>
    obtain ⟨hl20, hl⟩ := few_small hf
    rw [hf, Bool.true_and] at hR
    rw [hf] at c1
    by_cases h1 : cols.length ≤ 12
    · have h1a : ¬ (12 : Int) < cols.length := by omega
      rw [decide_eq_true h1, Bool.true_and] at hR
      have c2 := right_gU cols (by omega)
      cases hr : rightP cols with
      | false =>
        rw [hr] at c2 hR
        refine qm Tryz.func32 Tryz.ntmps32 rfl rfl (by decide) rfl (by intro n; simp) fun σ n0 hcl hft => ?_
        repeat' (first | ((first | ((with_reducible refine qp (fun hg => ?_) (fun hg => ?_)) <;> (try simp only [hg]) <;> (try simp only [gS] at hg) <;> (try (first | simp only [eq_false hg, gI] | simp only [eq_true hg, gI]))) | (with_reducible first | refine qc ?_ | refine qb ?_ | refine qj ?_ | refine qi ?_) | refine acall (c1) ?_ | refine qn (c1) ?_ | refine acall (c2) ?_ | refine qn (c2) ?_ | refine qe ?_ | refine qk ?_ | refine qh ?_ | refine qo ?_) <;> (try simp (disch := first | omega | simp) [qg, -qq, -qu, h1a])) | ((with_reducible refine sideT ?_ ?_); first | omega | assumption | (simp; done)) | (refine qf fun K hK => ?_) | (refine qa ?_) | refine ql ?_ | ((first | refine hK _ ?_ | (clear hK K; refine hK _ ?_) | (clear hK K; clear hK K; refine hK _ ?_)); clear hK K) | refine qd ?_)
        exact hR.symm
      | true =>
        rw [hr, Bool.true_and] at hR
        rw [hr] at c2
        have c3 := fits_gU row cols (by omega)
        have hsh := right_iff.1 hr
        cases hft' : fitsC row cols with
        | false =>
          rw [hft'] at c3 hR
          refine qm Tryz.func32 Tryz.ntmps32 rfl rfl (by decide) rfl (by intro n; simp) fun σ n0 hcl hft => ?_
          repeat' (first | ((first | ((with_reducible refine qp (fun hg => ?_) (fun hg => ?_)) <;> (try simp only [hg]) <;> (try simp only [gS] at hg) <;> (try (first | simp only [eq_false hg, gI] | simp only [eq_true hg, gI]))) | (with_reducible first | refine qc ?_ | refine qb ?_ | refine qj ?_ | refine qi ?_) | refine acall (c1) ?_ | refine qn (c1) ?_ | refine acall (c2) ?_ | refine qn (c2) ?_ | refine acall (c3) ?_ | refine qn (c3) ?_ | refine qe ?_ | refine qk ?_ | refine qh ?_ | refine qo ?_) <;> (try simp (disch := first | omega | simp) [qg, -qq, -qu, h1a])) | ((with_reducible refine sideT ?_ ?_); first | omega | assumption | (simp; done)) | (refine qf fun K hK => ?_) | (refine qa ?_) | refine ql ?_ | ((first | refine hK _ ?_ | (clear hK K; refine hK _ ?_) | (clear hK K; clear hK K; refine hK _ ?_)); clear hK K) | refine qd ?_)
          exact hR.symm
        | true =>
          rw [hft', Bool.true_and] at hR
          rw [hft'] at c3
          have c4 := to_g l cols (fun x hx => (hl x hx).1) (by omega) hsh.l0 h1
          by_cases he : (toP l cols).2 = 0
          · rw [decide_eq_true he] at hR
            rw [he] at c4
            refine qm Tryz.func32 Tryz.ntmps32 rfl rfl (by decide) rfl (by intro n; simp) fun σ n0 hcl hft => ?_
            repeat' (first | ((first | ((with_reducible refine qp (fun hg => ?_) (fun hg => ?_)) <;> (try simp only [hg]) <;> (try simp only [gS] at hg) <;> (try (first | simp only [eq_false hg, gI] | simp only [eq_true hg, gI]))) | (with_reducible first | refine qc ?_ | refine qb ?_ | refine qj ?_ | refine qi ?_) | refine acall (c1) ?_ | refine qn (c1) ?_ | refine acall (c2) ?_ | refine qn (c2) ?_ | refine acall (c3) ?_ | refine qn (c3) ?_ | refine acall (c4) ?_ | refine qn (c4) ?_ | refine qe ?_ | refine qk ?_ | refine qh ?_ | refine qo ?_) <;> (try simp (disch := first | omega | simp) [qg, -qq, -qu, h1a])) | ((with_reducible refine sideT ?_ ?_); first | omega | assumption | (simp; done)) | (refine qf fun K hK => ?_) | (refine qa ?_) | refine ql ?_ | ((first | refine hK _ ?_ | (clear hK K; refine hK _ ?_) | (clear hK K; clear hK K; refine hK _ ?_)); clear hK K) | refine qd ?_)
            exact hR.symm
          · rw [decide_eq_false he] at hR
            have he2 : ((toP l cols).2 == 0) = false := by simpa using he
            refine qm Tryz.func32 Tryz.ntmps32 rfl rfl (by decide) rfl (by intro n; simp) fun σ n0 hcl hft => ?_
            repeat' (first | ((first | ((with_reducible refine qp (fun hg => ?_) (fun hg => ?_)) <;> (try simp only [hg]) <;> (try simp only [gS] at hg) <;> (try (first | simp only [eq_false hg, gI] | simp only [eq_true hg, gI]))) | (with_reducible first | refine qc ?_ | refine qb ?_ | refine qj ?_ | refine qi ?_) | refine acall (c1) ?_ | refine qn (c1) ?_ | refine acall (c2) ?_ | refine qn (c2) ?_ | refine acall (c3) ?_ | refine qn (c3) ?_ | refine acall (c4) ?_ | refine qn (c4) ?_ | refine qe ?_ | refine qk ?_ | refine qh ?_ | refine qo ?_) <;> (try simp (disch := first | omega | simp) [qg, -qq, -qu, h1a, he2])) | ((with_reducible refine sideT ?_ ?_); first | omega | assumption | (simp; done)) | (refine qf fun K hK => ?_) | (refine qa ?_) | refine ql ?_ | ((first | refine hK _ ?_ | (clear hK K; refine hK _ ?_) | (clear hK K; clear hK K; refine hK _ ?_)); clear hK K) | refine qd ?_)
            exact hR.symm
    · have h1a : (12 : Int) < cols.length := by omega
      rw [decide_eq_false h1, Bool.false_and] at hR
      refine qm Tryz.func32 Tryz.ntmps32 rfl rfl (by decide) rfl (by intro n; simp) fun σ n0 hcl hft => ?_
      repeat' (first | ((first | ((with_reducible refine qp (fun hg => ?_) (fun hg => ?_)) <;> (try simp only [hg]) <;> (try simp only [gS] at hg) <;> (try (first | simp only [eq_false hg, gI] | simp only [eq_true hg, gI]))) | (with_reducible first | refine qc ?_ | refine qb ?_ | refine qj ?_ | refine qi ?_) | refine acall (c1) ?_ | refine qn (c1) ?_ | refine qe ?_ | refine qk ?_ | refine qh ?_ | refine qo ?_) <;> (try simp (disch := first | omega | simp) [qg, -qq, -qu, h1a])) | ((with_reducible refine sideT ?_ ?_); first | omega | assumption | (simp; done)) | (refine qf fun K hK => ?_) | (refine qa ?_) | refine ql ?_ | ((first | refine hK _ ?_ | (clear hK K; refine hK _ ?_) | (clear hK K; clear hK K; refine hK _ ?_)); clear hK K) | refine qd ?_)
      exact hR.symm
structure Suits (l : List Lens) (cols : List Col) (row : List Val) (ss : List (List Col)) : Prop where
  l20 : l.length ≤ 20
  small : ∀ x ∈ l, qcb x ∧ x.value.s.size ≤ 210
  shape : qdc cols
  fit : FitOk row cols
  ss : qbj l cols = (ss, 0)
theorem suits_of {l : List Lens} {cols : List Col} {row : List Val} (h : suitsL l cols row = true) : ∃ ss, Suits l cols row ss := by
  unfold suitsL at h
  simp only [Bool.and_eq_true, decide_eq_true_eq] at h
  obtain ⟨h1, h2, h3, h4, h5⟩ := h
  obtain ⟨g1, g2⟩ := few_small h1
  have ht : (qbj l cols).2 = 0 := by
    unfold toP at h5
    unfold qbj
    rw [if_neg (by omega)] at h5 ⊢
    by_cases he : (qv l cols).2 = 0
    · exact he
    · rw [if_pos he] at h5; exact h5
  exact ⟨(qbj l cols).1, g1, g2, right_iff.1 h3, (fits_iff.1 h4).1, by rw [← ht]⟩
theorem Suits.pure {l : List Lens} {cols : List Col} {row : List Val} {ss : List (List Col)} (h : Suits l cols row ss) : qv l cols = (ss, 0) := by
  have h1 := h.ss
  have h2 := h.l20
  rwa [qbj, if_neg (by omega)] at h1
theorem Suits.chain {l : List Lens} {cols : List Col} {row : List Val} {ss : List (List Col)} (h : Suits l cols row ss) : Chain l ss ∧ shAt ss 0 = cols := chain_of h.pure h.shape.l0 h.shape.l1
theorem Suits.tgt {l : List Lens} {cols : List Col} {row : List Val} {ss : List (List Col)} (h : Suits l cols row ss) : toP l cols = (shAt ss l.length, 0) := by
  have h2 := h.l20
  unfold toP
  rw [if_neg (by omega), h.pure, if_neg (by simp)]
  rfl
theorem qff {l : List Lens} {ss : List (List Col)} (hc : Chain l ss) (h0 : qdc (shAt ss 0)) : ∀ k, k ≤ l.length → qdc (shAt ss k)
  | 0, _ => h0
  | k + 1, hk => by
    obtain ⟨h1, h2⟩ := hc.ok k hk
    rw [← h2]; exact step_right (qff hc h0 k (by omega)) h1
theorem chain_fwd {l : List Lens} {ss : List (List Col)} {row : List Val} (hc : Chain l ss) (h0 : qdc (shAt ss 0)) (hf : FitOk row (shAt ss 0)) : ∀ k, k ≤ l.length → FitOk (fwdK l ss row k) (shAt ss k)
  | 0, _ => hf
  | k + 1, hk => by
    obtain ⟨h1, h2⟩ := hc.ok k hk
    rw [fwdK_succ hk, ← h2]
    exact fwd_fits (qff hc h0 k (by omega)) h1 (chain_fwd hc h0 hf k (by omega))
theorem chain_bck {l : List Lens} {ss : List (List Col)} {row : List Val} (hc : Chain l ss) (h0 : qdc (shAt ss 0)) (hf : FitOk row (shAt ss l.length)) : ∀ j k, k + j = l.length → FitOk (bckK l ss row k) (shAt ss k)
  | 0, k, hk => by
    obtain rfl : k = l.length := by omega
    rw [bckK_end]; exact hf
  | j + 1, k, hk => by
    obtain ⟨h1, h2⟩ := hc.ok k (by omega)
    have ih := chain_bck hc h0 hf j (k + 1) (by omega)
    rw [bckK_pred (by omega)]
    rw [← h2] at ih
    exact bck_fits (qff hc h0 k (by omega)) h1 ih
theorem qgf {row : List Val} {L : List Col} (h : FitOk row L) (hi : ∀ v ∈ row, i64 v.n) : qbw row := fun v hv => ⟨hi v hv, by
  rcases rightV_cases (h.vals v hv) with e | ⟨-, e⟩ | e | e
  · rw [e]; show 0 ≤ 300000; omega
  · omega
  · rw [e]; show 0 ≤ 300000; omega
  · rw [e]; show 0 ≤ 300000; omega⟩
end Go.Proofs.YtbkkjlcclddpdaaGreatDoor

/- Walk of the law LensFits. -/
namespace Go.Proofs.YtbkkjlcclddpdaaGreatDoor
open Go.RowKit Go.Lib
theorem sameC_self (L : List Col) : sameC L L = true := (sameC_iff L L).2 rfl
theorem smallX_of {l : List Lens} (h : ∀ x ∈ l, qcb x ∧ x.value.s.size ≤ 210) (hi : ∀ x ∈ l, i64 x.value.n) : ∀ x ∈ l, qdv x := fun x hx => ⟨(h x hx).1, hi x hx, by have := (h x hx).2; omega⟩
set_option maxRecDepth 4000 in
set_option maxHeartbeats 8000000 in
theorem lensFits_g (l : List Lens) (cols : List Col) (row last : List Val) (hlv : ∀ x ∈ l, i64 x.value.n) (hrv : ∀ v ∈ row, i64 v.n) (htv : ∀ v ∈ last, i64 v.n) : Gives Tryz.prog 5 [.sl (l.map Lens.av), .sl (cols.map Col.av), .sl (row.map Val.av), .sl (last.map Val.av)] (.bool true) := by
  have c0 := small14_g
  have c1 := suits_g14 l cols row
  cases hs : suitsL l cols row with
  | false =>
    rw [hs] at c1
    refine qm Tryz.func5 Tryz.ntmps5 rfl rfl (by decide) rfl (by intro n; simp) fun σ n0 hcl hft => ?_
    repeat' (first | ((first | ((with_reducible refine qp (fun hg => ?_) (fun hg => ?_)) <;> (try simp only [hg]) <;> (try simp only [gS] at hg) <;> (try (first | simp only [eq_false hg, gI] | simp only [eq_true hg, gI]))) | (with_reducible first | refine qc ?_ | refine qb ?_ | refine qj ?_ | refine qi ?_) | refine acall (c0) ?_ | refine qn (c0) ?_ | refine acall (c1) ?_ | refine qn (c1) ?_ | refine qe ?_ | refine qk ?_ | refine qh ?_ | refine qo ?_) <;> (try simp (disch := first | omega | simp) [qg, -qq, -qu])) | ((with_reducible refine sideT ?_ ?_); first | omega | assumption | (simp; done)) | (refine qf fun K hK => ?_) | (refine qa ?_) | refine ql ?_ | ((first | refine hK _ ?_ | (clear hK K; refine hK _ ?_) | (clear hK K; clear hK K; refine hK _ ?_)); clear hK K) | refine qd ?_)
  | true =>
    rw [hs] at c1
    obtain ⟨ss, H⟩ := suits_of hs
    obtain ⟨hc, hc0⟩ := H.chain
    have hsx := smallX_of H.small hlv
    have hl20 := H.l20
    have h0 := H.shape.l0
    have h1 := H.shape.l1
    have hS0 : qdc (shAt ss 0) := by rw [hc0]; exact H.shape
    have hF0 : FitOk row (shAt ss 0) := by rw [hc0]; exact H.fit
    have hlen := H.fit.len
    have hsr := qgf H.fit hrv
    have c2 := to_g l cols (fun x hx => (H.small x hx).1) (by omega) h0 h1
    rw [H.tgt] at c2
    obtain ⟨T, hT⟩ : ∃ T, shAt ss l.length = T := ⟨_, rfl⟩
    have hTr : qdc T := by rw [← hT]; exact qff hc hS0 _ (Nat.le_refl _)
    obtain ⟨F, hF⟩ : ∃ F, qeg l ss row = F := ⟨_, rfl⟩
    have hFf : FitOk F T := by rw [← hF, ← hT, ← fwdK_all]; exact chain_fwd hc hS0 hF0 _ (Nat.le_refl _)
    have hFs : qbw F := by rw [← hF, ← fwdK_all]; exact (fwdK_ok hc hsx hsr (by rw [hc0]; exact hlen) _ (Nat.le_refl _)).2
    obtain ⟨B, hB⟩ : ∃ B, qfo l ss F = B := ⟨_, rfl⟩
    have hBf : FitOk B cols := by
      have := chain_bck hc hS0 (row := F) (by rw [hT]; exact hFf) l.length 0 (by omega)
      rw [hc0] at this
      rw [← hB]; exact this
    rw [hT] at c2
    have hTl := hTr.l1
    have c3 := right_gU T (by omega)
    rw [right_iff.2 hTr] at c3
    have c4 := qes H.ss hsx h0 h1 hsr hlen F hF
    have c5 := fits_gU F T (by omega)
    rw [fits_iff.2 ⟨hFf, by omega⟩] at c5
    have c6 := back_g H.ss hsx h0 h1 hFs (by rw [hT]; exact hFf.len) B hB
    have c7 := fits_gU B cols (by omega)
    rw [fits_iff.2 ⟨hBf, by omega⟩] at c7
    have c8 := rsame03_g row (by omega)
    have c9 := rsame_g13 cols cols (by omega)
    rw [sameC_self] at c9
    have c10 := fits_gU last T (by omega)
    have hcl1 : cols.length ≤ 12 := h1
    have hrl1 : row.length ≤ 12 := by omega
    cases hl : fitsC last T with
    | false =>
      rw [hl] at c10
      refine qm Tryz.func5 Tryz.ntmps5 rfl rfl (by decide) rfl (by intro n; simp) fun σ n0 hcl hft => ?_
      repeat' (first | ((first | ((with_reducible refine qp (fun hg => ?_) (fun hg => ?_)) <;> (try simp only [hg]) <;> (try simp only [gS] at hg) <;> (try (first | simp only [eq_false hg, gI] | simp only [eq_true hg, gI]))) | (with_reducible first | refine qc ?_ | refine qb ?_ | refine qj ?_ | refine qi ?_) | refine acall (c0) ?_ | refine qn (c0) ?_ | refine acall (c1) ?_ | refine qn (c1) ?_ | refine acall (c2) ?_ | refine qn (c2) ?_ | refine acall (c3) ?_ | refine qn (c3) ?_ | refine acall (c4) ?_ | refine qn (c4) ?_ | refine acall (c5) ?_ | refine qn (c5) ?_ | refine acall (c6) ?_ | refine qn (c6) ?_ | refine acall (c7) ?_ | refine qn (c7) ?_ | refine acall (c8) ?_ | refine qn (c8) ?_ | refine acall (c9) ?_ | refine qn (c9) ?_ | refine acall (c10) ?_ | refine qn (c10) ?_ | refine qe ?_ | refine qk ?_ | refine qh ?_ | refine qo ?_) <;> (try simp (disch := first | omega | simp) [qg, -qq, -qu])) | ((with_reducible refine sideT ?_ ?_); first | omega | assumption | (simp; done)) | (refine qf fun K hK => ?_) | (refine qa ?_) | refine ql ?_ | ((first | refine hK _ ?_ | (clear hK K; refine hK _ ?_) | (clear hK K; clear hK K; refine hK _ ?_)); clear hK K) | refine qd ?_)
    | true =>
      rw [hl] at c10
      have hLf := (fits_iff.1 hl).1
      obtain ⟨Z, hZ⟩ : ∃ Z, qfo l ss last = Z := ⟨_, rfl⟩
      have hZf : FitOk Z cols := by
        have := chain_bck hc hS0 (row := last) (by rw [hT]; exact hLf) l.length 0 (by omega)
        rw [hc0] at this
        rw [← hZ]; exact this
      have c11 := back_g H.ss hsx h0 h1 (qgf hLf htv) (by rw [hT]; exact hLf.len) Z hZ
      have c12 := fits_gU Z cols (by omega)
      rw [fits_iff.2 ⟨hZf, by omega⟩] at c12
      refine qm Tryz.func5 Tryz.ntmps5 rfl rfl (by decide) rfl (by intro n; simp) fun σ n0 hcl hft => ?_
      repeat' (first | ((first | ((with_reducible refine qp (fun hg => ?_) (fun hg => ?_)) <;> (try simp only [hg]) <;> (try simp only [gS] at hg) <;> (try (first | simp only [eq_false hg, gI] | simp only [eq_true hg, gI]))) | (with_reducible first | refine qc ?_ | refine qb ?_ | refine qj ?_ | refine qi ?_) | refine acall (c0) ?_ | refine qn (c0) ?_ | refine acall (c1) ?_ | refine qn (c1) ?_ | refine acall (c2) ?_ | refine qn (c2) ?_ | refine acall (c3) ?_ | refine qn (c3) ?_ | refine acall (c4) ?_ | refine qn (c4) ?_ | refine acall (c5) ?_ | refine qn (c5) ?_ | refine acall (c6) ?_ | refine qn (c6) ?_ | refine acall (c7) ?_ | refine qn (c7) ?_ | refine acall (c8) ?_ | refine qn (c8) ?_ | refine acall (c9) ?_ | refine qn (c9) ?_ | refine acall (c10) ?_ | refine qn (c10) ?_ | refine acall (c11) ?_ | refine qn (c11) ?_ | refine acall (c12) ?_ | refine qn (c12) ?_ | refine qe ?_ | refine qk ?_ | refine qh ?_ | refine qo ?_) <;> (try simp (disch := first | omega | simp) [qg, -qq, -qu])) | ((with_reducible refine sideT ?_ ?_); first | omega | assumption | (simp; done)) | (refine qf fun K hK => ?_) | (refine qa ?_) | refine ql ?_ | ((first | refine hK _ ?_ | (clear hK K; refine hK _ ?_) | (clear hK K; clear hK K; refine hK _ ?_)); clear hK K) | refine qd ?_)
end Go.Proofs.YtbkkjlcclddpdaaGreatDoor

/- Lifting a law: the arguments' readings, and what the listed variables hold. -/
namespace Go.Proofs.YtbkkjlcclddpdaaGreatDoor
open Go.ChangeShapes Go.WideShapes Go.ChangeAt Go.RowKit Go.Lib
section
variable {H : Type} {enc : TypeId × Value → H}
theorem qdh {a : Assume} {C : Checked} {os : Os} {f : FuncId} {fn : Func} {s : ChangeSpec} {conds : List PathCond} {apart fresh handsOn again : Bool} {X : World → Array Value → Prop}
    (own : ownKnob C.prog.godebug = none) (started : os.Started) (noInit : C.prog.inits.idxOf? f = none) (hfn : C.prog.funcs[f]? = some fn)
    (witness : ∃ (w : World) (tape : Tape) (i : Input), w.os = os ∧ (w.forCall tape i).Shaped C.prog ∧ i.vars = [] ∧ Input.okWide C.prog (w.forCall tape i) .any w.heap.size f i ∧
      ((s.pre enc C.prog fn conds apart (w.forCall tape i).memory i.args ∧ X (w.forCall tape i).memory i.args) ∧ sizedMet enc C.prog fn (OpenSpec.ofChange s) apart (w.forCall tape i).memory i.args) ∧ a.holds C.prog (lone (Frame.enter C.prog f i.args .normal) [] (w.forCall tape i)))
    (hXh : ∀ (w w' : World) (us : Array Value), w.heap = w'.heap → X w us → X w' us)
    (contract : ∀ (W : World) (base : Nat) (args : Array Value) (ds gs : List (DataW H)) (before : List MemPlace),
      (∀ (j : Nat) t v, fn.params[j]? = some t → args[j]? = some v → Value.okWide C.prog W .any base t v) →
      DataW.Whole enc C.prog fn.params.toList s.vars apart W args.toList ds gs before →
      conds.all (PathCond.test C.prog ⟨fn.params.toList, ds, s.plain.varTypes C.prog, gs⟩) = true →
      W.ShapedOpen C.prog → X W args →
      Calls C.prog f args W fun e W' => ∃ v, e = .returned v ∧ s.post enc C.prog fn apart fresh handsOn again W args v W') :
    ReturnsInHanded a C os f .any (fun w args => (s.pre enc C.prog fn conds apart w args ∧ X w args) ∧ sizedMet enc C.prog fn (OpenSpec.ofChange s) apart w args) (s.post enc C.prog fn apart fresh handsOn again) := by
  refine returnsInHanded_of_calls own started noInit witness ?_
  intro w tape i _ hsh _ hok hpre hholds
  obtain ⟨_, _, _, fn', hfn', _, _, _, _, hval⟩ := hok
  have e : fn' = fn := Option.some.inj (hfn'.symm.trans hfn)
  subst e
  obtain ⟨⟨⟨ds, gs, before, hw, hc⟩, hX⟩, -⟩ := hpre
  have hw' := DataW.Whole.of_heap (w' := w.forCall tape i) (by rfl) hw
  refine (contract (w.forCall tape i) w.heap.size i.args ds gs before hval hw' hc hsh (hXh _ _ _ (by rfl) hX)).mono fun e W' ⟨v, he, hp⟩ => ?_
  subst he
  exact ChangeSpec.post_blind hp
end
section
variable {H : Type} {enc : TypeId × Value → H} {w w0 : World} {sp : Nat → Bool} {hd : Bool} {b0 : Nat} {t : TypeId} {v : Value}
end
section
variable {H : Type} {enc : TypeId × Value → H} {P : Program} {w : World} {base : Nat} {spare : Nat → Bool} {held : Bool} {t0 t1 t2 t3 : TypeId} {args : Array Value} {ds : List (DataW H)} {ps : List MemPlace}
theorem trodAll_3_02 (h : DataW.TrodAll enc P w base spare held [t0, t1, t2] args.toList ds ps) :
    ∃ v0 v1 v2 d0 d1 d2 p0 p1 p2, args = #[v0, v1, v2] ∧ ds = [d0, d1, d2] ∧ ps = p0 ++ p1 ++ p2 ∧ DataW.Trod enc P w base spare held t0 v0 d0 p0 ∧ DataW.Trod enc P w base spare held t1 v1 d1 p1 ∧ DataW.Trod enc P w base spare held t2 v2 d2 p2 := by
  obtain ⟨v0, vs0, d0, ds0, p0, q0, hargs, rfl, rfl, h0, r0⟩ := trodAll_cons h
  obtain ⟨v1, vs1, d1, ds1, p1, q1, rfl, rfl, rfl, h1, r1⟩ := trodAll_cons r0
  obtain ⟨v2, vs2, d2, ds2, p2, q2, rfl, rfl, rfl, h2, r2⟩ := trodAll_cons r1
  obtain ⟨rfl, rfl, rfl⟩ := trodAll_nil r2
  exact ⟨v0, v1, v2, d0, d1, d2, p0, p1, p2, by cases args; simp_all, rfl, by simp, h0, h1, h2⟩
theorem trodAll_4_02 (h : DataW.TrodAll enc P w base spare held [t0, t1, t2, t3] args.toList ds ps) :
    ∃ v0 v1 v2 v3 d0 d1 d2 d3 p0 p1 p2 p3, args = #[v0, v1, v2, v3] ∧ ds = [d0, d1, d2, d3] ∧ ps = p0 ++ p1 ++ p2 ++ p3 ∧ DataW.Trod enc P w base spare held t0 v0 d0 p0 ∧ DataW.Trod enc P w base spare held t1 v1 d1 p1 ∧ DataW.Trod enc P w base spare held t2 v2 d2 p2 ∧ DataW.Trod enc P w base spare held t3 v3 d3 p3 := by
  obtain ⟨v0, vs0, d0, ds0, p0, q0, hargs, rfl, rfl, h0, r0⟩ := trodAll_cons h
  obtain ⟨v1, vs1, d1, ds1, p1, q1, rfl, rfl, rfl, h1, r1⟩ := trodAll_cons r0
  obtain ⟨v2, vs2, d2, ds2, p2, q2, rfl, rfl, rfl, h2, r2⟩ := trodAll_cons r1
  obtain ⟨v3, vs3, d3, ds3, p3, q3, rfl, rfl, rfl, h3, r3⟩ := trodAll_cons r2
  obtain ⟨rfl, rfl, rfl⟩ := trodAll_nil r3
  exact ⟨v0, v1, v2, v3, d0, d1, d2, d3, p0, p1, p2, p3, by cases args; simp_all, rfl, by simp, h0, h1, h2, h3⟩
end
theorem iface_of_trod {H : Type} {enc : TypeId × Value → H} {P : Program} {w : World} {base : Nat} {sp : Nat → Bool} {held : Bool} {fuel : Nat} {t : TypeId} {cs : List Value} {d : DataW H} {p : List MemPlace} (hu : (match P.underlying t with | some (.interface _) => true | _ => false) = true)
    (h : DataW.trod enc P w base sp held fuel t cs = some (d, p)) : ∃ x, cs = [x] ∧ (x = .nilIface ∨ ∃ te pe, x = .iface te pe) := by
  cases fuel with
  | zero => simp [DataW.trod] at h
  | succ fuel =>
    cases hu' : P.underlying t with
    | none => rw [hu'] at hu; cases hu
    | some u =>
      rw [hu'] at hu
      cases u <;> first | (cases hu; done) | skip
      simp only [DataW.trod, hu'] at h
      match cs, h with
      | [], h => simp at h
      | [x], h => cases x <;> first | exact ⟨_, rfl, .inl rfl⟩ | exact ⟨_, rfl, .inr ⟨_, _, rfl⟩⟩ | (simp at h; done)
      | _ :: _ :: _, h => simp at h
theorem var_block {P : Program} {w : World} {n : String} {g : Nat} {cs : Array Value} (hg : P.globalNamed n = some g) (h : w.var? P n = some cs) : ∃ t fz, w.heap[g]? = some (.cells cs t fz) := by
  unfold World.var? at h
  rw [hg] at h
  dsimp only [Option.bind] at h
  split at h
  · rename_i cs' t fz he
    cases h
    exact ⟨t, fz, he⟩
  · cases h
theorem globS_flat {w : World} {b : Nat} {cs : List Value} (h : ∃ t fz, w.heap[b]? = some (.cells cs.toArray t fz)) (hne : cs ≠ []) : GlobS (St.flat w) b 0 cs := by
  obtain ⟨t, fz, hb⟩ := h
  refine ⟨qer _ 0 fun j u hj => ⟨?_, ?_⟩, ⟨t, fz, hb⟩, (fun r hr => by cases hr), hne⟩
  · show World.cell? w _ = _
    simp [World.cell?, hb, hj]
  · exact (Array.getElem?_eq_some_iff.1 hb).1
end Go.Proofs.YtbkkjlcclddpdaaGreatDoor

/- Readings of arguments: api.Value. -/
namespace Go.Proofs.YtbkkjlcclddpdaaGreatDoor
open Go.RowKit Go.Lib
section
variable {H : Type} {enc : TypeId × Value → H} {w : World} {sp : Nat → Bool} {hd : Bool}
end
end Go.Proofs.YtbkkjlcclddpdaaGreatDoor

/- Readings of arguments: api.Col. -/
namespace Go.Proofs.YtbkkjlcclddpdaaGreatDoor
open Go.RowKit Go.Lib
section
variable {H : Type} {enc : TypeId × Value → H} {w : World} {sp : Nat → Bool} {hd : Bool}
theorem trods_col (N : Nat) : Trods enc Tryz.prog w sp hd 53 Col.d N := by
  intro n cs x hn h
  obtain ⟨xs, m, rfl, -, hlen, hl2, hf⟩ := DataW.trod_struct Tryz.underlying53 h
  have hc : Tryz.prog.cellsOf 53 = 3 := by kernel_rfl
  rw [hc] at hlen
  obtain ⟨y0, h0⟩ := qch 0 9 0 1 hl2 hf ⟨_, rfl, rfl, rfl⟩ (by kernel_rfl)
  obtain ⟨y1, h1⟩ := qch 1 3 1 1 hl2 hf ⟨_, rfl, rfl, rfl⟩ (by kernel_rfl)
  obtain ⟨y2, h2⟩ := qch 2 9 2 1 hl2 hf ⟨_, rfl, rfl, rfl⟩ (by kernel_rfl)
  obtain ⟨a0, r0⟩ := qfk Tryz.underlying9 (m + 1) m _ _ (by omega) h0
  obtain ⟨a1, r1⟩ := trods_int Tryz.underlying3 (m + 1) m _ _ (by omega) h1
  obtain ⟨a2, r2⟩ := qfk Tryz.underlying9 (m + 1) m _ _ (by omega) h2
  exact ⟨⟨a0, a1, a2⟩, rd_st (qem (k := 1) r0 (qem (k := 1) r1 (qem (k := 1) r2 (rdS_end (by omega)))))⟩
theorem trods_cols (N : Nat) : Trods enc Tryz.prog w sp hd 35 (fun l : List Col => D.sl (l.map Col.d)) N := fun n cs x hn h =>
  trods_sl Tryz.underlying35 (sz := 3) (by kernel_rfl) (by omega) Col.width (trods_col N) n cs x (by omega) h
end
end Go.Proofs.YtbkkjlcclddpdaaGreatDoor

/- Readings of arguments: api.Lens. -/
namespace Go.Proofs.YtbkkjlcclddpdaaGreatDoor
open Go.RowKit Go.Lib
section
variable {H : Type} {enc : TypeId × Value → H} {w : World} {sp : Nat → Bool} {hd : Bool}
end
end Go.Proofs.YtbkkjlcclddpdaaGreatDoor
