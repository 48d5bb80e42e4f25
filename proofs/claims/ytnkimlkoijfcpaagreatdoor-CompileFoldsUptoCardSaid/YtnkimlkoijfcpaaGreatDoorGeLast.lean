/- Walk of layer 26: the law CompileFolds. -/
import Derived.Test.YtnkimlkoijfcpaaGreatDoorGe6
import Derived.Test.YtnkimlkoijfcpaaGreatDoorGe21
import Derived.Test.YtnkimlkoijfcpaaGreatDoorGe28
set_option linter.unusedSimpArgs false
set_option linter.unusedVariables false
namespace Go.Proofs.YtnkimlkoijfcpaaGreatDoor
open Go.RowKit Go.Lib
theorem plain26_g (e : Ex) : Gives Tryz.prog 15 [e.av] (.bool (qbe e)) := by
  obtain ⟨o, n, s, l⟩ := e
  obtain ⟨R, hR⟩ : ∃ R, R = qbe (.mk o n s l) := ⟨_, rfl⟩
  rw [← hR, Ex.av_mk]
  unfold qbe at hR
  simp only [Ex.op] at hR
  refine qo Tryz.func15 Tryz.ntmps15 rfl rfl (by decide) rfl (by intro n; simp) fun σ n0 hcl hft => ?_
  repeat' (first | ((first | ((with_reducible refine qq (fun hg => ?_) (fun hg => ?_)) <;> (try simp only [hg]) <;> (try simp only [gS] at hg) <;> (try (first | simp only [eq_false hg, gI] | simp only [eq_true hg, gI]))) | (with_reducible first | refine qh ?_ | refine qg ?_ | refine ql ?_ | refine qk ?_) | refine qe ?_ | refine qi ?_ | refine qj ?_ | refine qn ?_) <;> (try simp (disch := first | omega | simp) [qc, -qr, -qz])) | ((with_reducible refine sideT ?_ ?_); first | omega | assumption | (simp; done)) | (refine qf fun K hK => ?_) | (refine qa ?_) | (refine qb true (by kernel_rfl) (by kernel_rfl) ?_) | (refine qb false (by kernel_rfl) (by kernel_rfl) ?_) | (refine hK _ ?_; clear hK K) | (clear hK K; refine hK _ ?_; clear hK K) | (clear hK K; clear hK K; refine hK _ ?_; clear hK K) | refine qd ?_)
  all_goals (rw [hR]; first | (simp [*]; done) | (by_cases q : o = 2 <;> simp [*]))
set_option maxRecDepth 100000 in
set_option maxHeartbeats 16000000 in
theorem folds26_g (cols : List Int) (e : Ex) (time : Int) (row : List Val) (hp : parts e ≤ 1000000) (hr : row.length ≤ 1000000) :
    Gives Tryz.prog 3 [.sl (cols.map AV.int), e.av, .int time, .sl (row.map Val.av)] (.bool true) := by
  have csm := small26_g
  have cl := light26_g [] cols e (by simp) (by simp) hp
  simp only [List.map_nil] at cl
  cases hl : light26 [] cols e with
  | false =>
    rw [hl] at cl
    refine qo Tryz.func3 Tryz.ntmps3 rfl rfl (by decide) rfl (by intro n; simp) fun σ n0 hcl hft => ?_
    repeat' (first | ((first | ((with_reducible refine qq (fun hg => ?_) (fun hg => ?_)) <;> (try simp only [hg]) <;> (try simp only [gS] at hg) <;> (try (first | simp only [eq_false hg, gI] | simp only [eq_true hg, gI]))) | (with_reducible first | refine qh ?_ | refine qg ?_ | refine ql ?_ | refine qk ?_) | refine acall (csm) ?_ | refine qp (csm) ?_ | refine qm (csm) ?_ | refine acall (cl) ?_ | refine qp (cl) ?_ | refine qm (cl) ?_ | refine qe ?_ | refine qi ?_ | refine qj ?_ | refine qn ?_) <;> (try simp (disch := first | omega | simp) [qc, -qr, -qz])) | ((with_reducible refine sideT ?_ ?_); first | omega | assumption | (simp; done)) | (refine qf fun K hK => ?_) | (refine qa ?_) | (refine qb true (by kernel_rfl) (by kernel_rfl) ?_) | (refine qb false (by kernel_rfl) (by kernel_rfl) ?_) | (refine hK _ ?_; clear hK K) | (clear hK K; refine hK _ ?_; clear hK K) | (clear hK K; clear hK K; refine hK _ ?_; clear hK K) | refine qd ?_)
  | true =>
  rw [hl] at cl
  obtain ⟨p300, hcols⟩ := slim_le hl
  by_cases hr30 : row.length ≤ 30
  · have hr30b : ¬ (30 : Int) < row.length := by omega
    have ct := type_g [] cols [] e (by omega) (by simp)
    simp only [List.map_nil] at ct
    cases ht : typeP [] cols [] e with
    | none =>
      rw [ht] at ct
      simp only [Option.getD_none, Option.isSome_none] at ct
      refine qo Tryz.func3 Tryz.ntmps3 rfl rfl (by decide) rfl (by intro n; simp) fun σ n0 hcl hft => ?_
      repeat' (first | ((first | ((with_reducible refine qq (fun hg => ?_) (fun hg => ?_)) <;> (try simp only [hg]) <;> (try simp only [gS] at hg) <;> (try (first | simp only [eq_false hg, gI] | simp only [eq_true hg, gI]))) | (with_reducible first | refine qh ?_ | refine qg ?_ | refine ql ?_ | refine qk ?_) | refine acall (csm) ?_ | refine qp (csm) ?_ | refine qm (csm) ?_ | refine acall (cl) ?_ | refine qp (cl) ?_ | refine qm (cl) ?_ | refine acall (ct) ?_ | refine qp (ct) ?_ | refine qm (ct) ?_ | refine qe ?_ | refine qi ?_ | refine qj ?_ | refine qn ?_) <;> (try simp (disch := first | omega | simp) [qc, -qr, -qz, hr30b])) | ((with_reducible refine sideT ?_ ?_); first | omega | assumption | (simp; done)) | (refine qf fun K hK => ?_) | (refine qa ?_) | (refine qb true (by kernel_rfl) (by kernel_rfl) ?_) | (refine qb false (by kernel_rfl) (by kernel_rfl) ?_) | (refine hK _ ?_; clear hK K) | (clear hK K; refine hK _ ?_; clear hK K) | (clear hK K; clear hK K; refine hK _ ?_; clear hK K) | refine qd ?_)
    | some t =>
      rw [ht] at ct
      simp only [Option.getD_some, Option.isSome_some] at ct
      obtain ⟨-, -, h3, h4⟩ := typeP_all ht
      have g1 := (fold_ok e h3).1
      have gv := (fold_ok e h3).2
      have gp := fold_parts e
      have gl := fold_levels e
      have gn := fold_nf e
      have gf := fold_fold e
      have cf := Fold_g e h3 (by omega)
      have cff := Fold_g (foldE e) g1 (by omega)
      rw [gf] at cff
      have cu := type_g [] cols [] (foldE e) (by omega) (by simp)
      have hu : typeP [] cols [] (foldE e) = some t := by rw [typeP_nil, if_neg (by omega), g1]
      rw [hu] at cu
      simp only [Option.getD_some, Option.isSome_some, List.map_nil] at cu
      have cs := rsame_g (foldE e) (foldE e) (by omega)
      have hss : sameB (foldE e) (foldE e) = true := sameB_self _
      rw [hss] at cs
      have cp := rparts_g e (by omega)
      have cq := rparts_g (foldE e) (by omega)
      have cr := reads_g (foldE e) (cols_ok g1 (by omega)) (by omega)
      have cm := timed_g [] (foldE e) (by simp) (wfS_of_ty _ g1) (by simp)
      have cc := plain26_g (foldE e)
      simp only [List.map_nil] at cm
      have hpl := plain_of (foldE e) gn g1
      have fit := fits26_g row cols hr
      have htt : (t != t) = false := by simp
      have hple : ¬ (parts e : Int) < parts (foldE e) := by omega
      have hlr : (qbx (foldE e)).length = 0 → ∀ x, x ∉ qbx (foldE e) := fun h x hx => by rw [List.length_eq_zero_iff.1 h] at hx; cases hx
      have hcase : (qbx (foldE e)).length ≠ 0 ∨ timedP [] (foldE e) = true ∨ qbe (foldE e) = true := by
        by_cases h1 : (qbx (foldE e)).length = 0
        · cases h2 : timedP [] (foldE e) with
          | true => exact .inr (.inl rfl)
          | false => exact .inr (.inr (hpl (hlr h1) h2))
        · exact .inl h1
      generalize qbx (foldE e) = L at *
      generalize timedP [] (foldE e) = tm at *
      generalize qbe (foldE e) = ce at *
      have key : ∀ (k1 : Bool) (k2 : ((L.length : Int) == 0) = k1), (k1 = false ∨ tm = true ∨ ce = true) → ∀ b, Gives Tryz.prog 16 [.sl (row.map Val.av), .sl (cols.map AV.int)] (.bool b) →
          (b = true → ∃ V : Val, Gives Tryz.prog 17 [.sl [], (foldE e).av, .int time, .sl (row.map Val.av)] V.av ∧ Gives Tryz.prog 17 [.sl [], e.av, .int time, .sl (row.map Val.av)] V.av) →
          Gives Tryz.prog 3 [.sl (cols.map AV.int), e.av, .int time, .sl (row.map Val.av)] (.bool true) := fun k1 k2 h b fit hb => by
        clear gf gn gv gl g1 hpl hlr hcase hss
        generalize foldE e = f at *
        cases b with
        | false =>
          clear hb
          rcases h with rfl | rfl | rfl
          · refine qo Tryz.func3 Tryz.ntmps3 rfl rfl (by decide) rfl (by intro n; simp) fun σ n0 hcl hft => ?_
            repeat' (first | ((first | ((with_reducible refine qq (fun hg => ?_) (fun hg => ?_)) <;> (try simp only [hg]) <;> (try simp only [gS] at hg) <;> (try (first | simp only [eq_false hg, gI] | simp only [eq_true hg, gI]))) | (with_reducible first | refine qh ?_ | refine qg ?_ | refine ql ?_ | refine qk ?_) | refine acall (csm) ?_ | refine qp (csm) ?_ | refine qm (csm) ?_ | refine acall (cl) ?_ | refine qp (cl) ?_ | refine qm (cl) ?_ | refine acall (ct) ?_ | refine qp (ct) ?_ | refine qm (ct) ?_ | refine acall (cf) ?_ | refine qp (cf) ?_ | refine qm (cf) ?_ | refine acall (cu) ?_ | refine qp (cu) ?_ | refine qm (cu) ?_ | refine acall (cff) ?_ | refine qp (cff) ?_ | refine qm (cff) ?_ | refine acall (cs) ?_ | refine qp (cs) ?_ | refine qm (cs) ?_ | refine acall (cp) ?_ | refine qp (cp) ?_ | refine qm (cp) ?_ | refine acall (cq) ?_ | refine qp (cq) ?_ | refine qm (cq) ?_ | refine acall (cr) ?_ | refine qp (cr) ?_ | refine qm (cr) ?_ | refine acall (cm) ?_ | refine qp (cm) ?_ | refine qm (cm) ?_ | refine acall (cc) ?_ | refine qp (cc) ?_ | refine qm (cc) ?_ | refine acall (fit) ?_ | refine qp (fit) ?_ | refine qm (fit) ?_ | refine qe ?_ | refine qi ?_ | refine qj ?_ | refine qn ?_) <;> (try simp (disch := first | omega | simp) [qc, -qr, -qz, hr30b, htt, hple, k2])) | ((with_reducible refine sideT ?_ ?_); first | omega | assumption | (simp; done)) | (refine qf fun K hK => ?_) | (refine qa ?_) | (refine qb true (by kernel_rfl) (by kernel_rfl) ?_) | (refine qb false (by kernel_rfl) (by kernel_rfl) ?_) | (refine hK _ ?_; clear hK K) | (clear hK K; refine hK _ ?_; clear hK K) | (clear hK K; clear hK K; refine hK _ ?_; clear hK K) | refine qd ?_)
          · refine qo Tryz.func3 Tryz.ntmps3 rfl rfl (by decide) rfl (by intro n; simp) fun σ n0 hcl hft => ?_
            repeat' (first | ((first | ((with_reducible refine qq (fun hg => ?_) (fun hg => ?_)) <;> (try simp only [hg]) <;> (try simp only [gS] at hg) <;> (try (first | simp only [eq_false hg, gI] | simp only [eq_true hg, gI]))) | (with_reducible first | refine qh ?_ | refine qg ?_ | refine ql ?_ | refine qk ?_) | refine acall (csm) ?_ | refine qp (csm) ?_ | refine qm (csm) ?_ | refine acall (cl) ?_ | refine qp (cl) ?_ | refine qm (cl) ?_ | refine acall (ct) ?_ | refine qp (ct) ?_ | refine qm (ct) ?_ | refine acall (cf) ?_ | refine qp (cf) ?_ | refine qm (cf) ?_ | refine acall (cu) ?_ | refine qp (cu) ?_ | refine qm (cu) ?_ | refine acall (cff) ?_ | refine qp (cff) ?_ | refine qm (cff) ?_ | refine acall (cs) ?_ | refine qp (cs) ?_ | refine qm (cs) ?_ | refine acall (cp) ?_ | refine qp (cp) ?_ | refine qm (cp) ?_ | refine acall (cq) ?_ | refine qp (cq) ?_ | refine qm (cq) ?_ | refine acall (cr) ?_ | refine qp (cr) ?_ | refine qm (cr) ?_ | refine acall (cm) ?_ | refine qp (cm) ?_ | refine qm (cm) ?_ | refine acall (cc) ?_ | refine qp (cc) ?_ | refine qm (cc) ?_ | refine acall (fit) ?_ | refine qp (fit) ?_ | refine qm (fit) ?_ | refine qe ?_ | refine qi ?_ | refine qj ?_ | refine qn ?_) <;> (try simp (disch := first | omega | simp) [qc, -qr, -qz, hr30b, htt, hple, k2])) | ((with_reducible refine sideT ?_ ?_); first | omega | assumption | (simp; done)) | (refine qf fun K hK => ?_) | (refine qa ?_) | (refine qb true (by kernel_rfl) (by kernel_rfl) ?_) | (refine qb false (by kernel_rfl) (by kernel_rfl) ?_) | (refine hK _ ?_; clear hK K) | (clear hK K; refine hK _ ?_; clear hK K) | (clear hK K; clear hK K; refine hK _ ?_; clear hK K) | refine qd ?_)
          · refine qo Tryz.func3 Tryz.ntmps3 rfl rfl (by decide) rfl (by intro n; simp) fun σ n0 hcl hft => ?_
            repeat' (first | ((first | ((with_reducible refine qq (fun hg => ?_) (fun hg => ?_)) <;> (try simp only [hg]) <;> (try simp only [gS] at hg) <;> (try (first | simp only [eq_false hg, gI] | simp only [eq_true hg, gI]))) | (with_reducible first | refine qh ?_ | refine qg ?_ | refine ql ?_ | refine qk ?_) | refine acall (csm) ?_ | refine qp (csm) ?_ | refine qm (csm) ?_ | refine acall (cl) ?_ | refine qp (cl) ?_ | refine qm (cl) ?_ | refine acall (ct) ?_ | refine qp (ct) ?_ | refine qm (ct) ?_ | refine acall (cf) ?_ | refine qp (cf) ?_ | refine qm (cf) ?_ | refine acall (cu) ?_ | refine qp (cu) ?_ | refine qm (cu) ?_ | refine acall (cff) ?_ | refine qp (cff) ?_ | refine qm (cff) ?_ | refine acall (cs) ?_ | refine qp (cs) ?_ | refine qm (cs) ?_ | refine acall (cp) ?_ | refine qp (cp) ?_ | refine qm (cp) ?_ | refine acall (cq) ?_ | refine qp (cq) ?_ | refine qm (cq) ?_ | refine acall (cr) ?_ | refine qp (cr) ?_ | refine qm (cr) ?_ | refine acall (cm) ?_ | refine qp (cm) ?_ | refine qm (cm) ?_ | refine acall (cc) ?_ | refine qp (cc) ?_ | refine qm (cc) ?_ | refine acall (fit) ?_ | refine qp (fit) ?_ | refine qm (fit) ?_ | refine qe ?_ | refine qi ?_ | refine qj ?_ | refine qn ?_) <;> (try simp (disch := first | omega | simp) [qc, -qr, -qz, hr30b, htt, hple, k2])) | ((with_reducible refine sideT ?_ ?_); first | omega | assumption | (simp; done)) | (refine qf fun K hK => ?_) | (refine qa ?_) | (refine qb true (by kernel_rfl) (by kernel_rfl) ?_) | (refine qb false (by kernel_rfl) (by kernel_rfl) ?_) | (refine hK _ ?_; clear hK K) | (clear hK K; refine hK _ ?_; clear hK K) | (clear hK K; clear hK K; refine hK _ ?_; clear hK K) | refine qd ?_)
        | true =>
          obtain ⟨V, v1, v2⟩ := hb rfl
          have hq := val_eq26 V
          rcases h with rfl | rfl | rfl
          · refine qo Tryz.func3 Tryz.ntmps3 rfl rfl (by decide) rfl (by intro n; simp) fun σ n0 hcl hft => ?_
            repeat' (first | ((first | ((with_reducible refine qq (fun hg => ?_) (fun hg => ?_)) <;> (try simp only [hg]) <;> (try simp only [gS] at hg) <;> (try (first | simp only [eq_false hg, gI] | simp only [eq_true hg, gI]))) | (with_reducible first | refine qh ?_ | refine qg ?_ | refine ql ?_ | refine qk ?_) | refine acall (csm) ?_ | refine qp (csm) ?_ | refine qm (csm) ?_ | refine acall (cl) ?_ | refine qp (cl) ?_ | refine qm (cl) ?_ | refine acall (ct) ?_ | refine qp (ct) ?_ | refine qm (ct) ?_ | refine acall (cf) ?_ | refine qp (cf) ?_ | refine qm (cf) ?_ | refine acall (cu) ?_ | refine qp (cu) ?_ | refine qm (cu) ?_ | refine acall (cff) ?_ | refine qp (cff) ?_ | refine qm (cff) ?_ | refine acall (cs) ?_ | refine qp (cs) ?_ | refine qm (cs) ?_ | refine acall (cp) ?_ | refine qp (cp) ?_ | refine qm (cp) ?_ | refine acall (cq) ?_ | refine qp (cq) ?_ | refine qm (cq) ?_ | refine acall (cr) ?_ | refine qp (cr) ?_ | refine qm (cr) ?_ | refine acall (cm) ?_ | refine qp (cm) ?_ | refine qm (cm) ?_ | refine acall (cc) ?_ | refine qp (cc) ?_ | refine qm (cc) ?_ | refine acall (fit) ?_ | refine qp (fit) ?_ | refine qm (fit) ?_ | refine acall (v1) ?_ | refine qp (v1) ?_ | refine qm (v1) ?_ | refine acall (v2) ?_ | refine qp (v2) ?_ | refine qm (v2) ?_ | refine qe ?_ | refine qi ?_ | refine qj ?_ | refine qn ?_) <;> (try simp (disch := first | omega | simp) [qc, -qr, -qz, hr30b, htt, hple, k2, hq])) | ((with_reducible refine sideT ?_ ?_); first | omega | assumption | (simp; done)) | (refine qf fun K hK => ?_) | (refine qa ?_) | (refine qb true (by kernel_rfl) (by kernel_rfl) ?_) | (refine qb false (by kernel_rfl) (by kernel_rfl) ?_) | (refine hK _ ?_; clear hK K) | (clear hK K; refine hK _ ?_; clear hK K) | (clear hK K; clear hK K; refine hK _ ?_; clear hK K) | refine qd ?_)
          · refine qo Tryz.func3 Tryz.ntmps3 rfl rfl (by decide) rfl (by intro n; simp) fun σ n0 hcl hft => ?_
            repeat' (first | ((first | ((with_reducible refine qq (fun hg => ?_) (fun hg => ?_)) <;> (try simp only [hg]) <;> (try simp only [gS] at hg) <;> (try (first | simp only [eq_false hg, gI] | simp only [eq_true hg, gI]))) | (with_reducible first | refine qh ?_ | refine qg ?_ | refine ql ?_ | refine qk ?_) | refine acall (csm) ?_ | refine qp (csm) ?_ | refine qm (csm) ?_ | refine acall (cl) ?_ | refine qp (cl) ?_ | refine qm (cl) ?_ | refine acall (ct) ?_ | refine qp (ct) ?_ | refine qm (ct) ?_ | refine acall (cf) ?_ | refine qp (cf) ?_ | refine qm (cf) ?_ | refine acall (cu) ?_ | refine qp (cu) ?_ | refine qm (cu) ?_ | refine acall (cff) ?_ | refine qp (cff) ?_ | refine qm (cff) ?_ | refine acall (cs) ?_ | refine qp (cs) ?_ | refine qm (cs) ?_ | refine acall (cp) ?_ | refine qp (cp) ?_ | refine qm (cp) ?_ | refine acall (cq) ?_ | refine qp (cq) ?_ | refine qm (cq) ?_ | refine acall (cr) ?_ | refine qp (cr) ?_ | refine qm (cr) ?_ | refine acall (cm) ?_ | refine qp (cm) ?_ | refine qm (cm) ?_ | refine acall (cc) ?_ | refine qp (cc) ?_ | refine qm (cc) ?_ | refine acall (fit) ?_ | refine qp (fit) ?_ | refine qm (fit) ?_ | refine acall (v1) ?_ | refine qp (v1) ?_ | refine qm (v1) ?_ | refine acall (v2) ?_ | refine qp (v2) ?_ | refine qm (v2) ?_ | refine qe ?_ | refine qi ?_ | refine qj ?_ | refine qn ?_) <;> (try simp (disch := first | omega | simp) [qc, -qr, -qz, hr30b, htt, hple, k2, hq])) | ((with_reducible refine sideT ?_ ?_); first | omega | assumption | (simp; done)) | (refine qf fun K hK => ?_) | (refine qa ?_) | (refine qb true (by kernel_rfl) (by kernel_rfl) ?_) | (refine qb false (by kernel_rfl) (by kernel_rfl) ?_) | (refine hK _ ?_; clear hK K) | (clear hK K; refine hK _ ?_; clear hK K) | (clear hK K; clear hK K; refine hK _ ?_; clear hK K) | refine qd ?_)
          · refine qo Tryz.func3 Tryz.ntmps3 rfl rfl (by decide) rfl (by intro n; simp) fun σ n0 hcl hft => ?_
            repeat' (first | ((first | ((with_reducible refine qq (fun hg => ?_) (fun hg => ?_)) <;> (try simp only [hg]) <;> (try simp only [gS] at hg) <;> (try (first | simp only [eq_false hg, gI] | simp only [eq_true hg, gI]))) | (with_reducible first | refine qh ?_ | refine qg ?_ | refine ql ?_ | refine qk ?_) | refine acall (csm) ?_ | refine qp (csm) ?_ | refine qm (csm) ?_ | refine acall (cl) ?_ | refine qp (cl) ?_ | refine qm (cl) ?_ | refine acall (ct) ?_ | refine qp (ct) ?_ | refine qm (ct) ?_ | refine acall (cf) ?_ | refine qp (cf) ?_ | refine qm (cf) ?_ | refine acall (cu) ?_ | refine qp (cu) ?_ | refine qm (cu) ?_ | refine acall (cff) ?_ | refine qp (cff) ?_ | refine qm (cff) ?_ | refine acall (cs) ?_ | refine qp (cs) ?_ | refine qm (cs) ?_ | refine acall (cp) ?_ | refine qp (cp) ?_ | refine qm (cp) ?_ | refine acall (cq) ?_ | refine qp (cq) ?_ | refine qm (cq) ?_ | refine acall (cr) ?_ | refine qp (cr) ?_ | refine qm (cr) ?_ | refine acall (cm) ?_ | refine qp (cm) ?_ | refine qm (cm) ?_ | refine acall (cc) ?_ | refine qp (cc) ?_ | refine qm (cc) ?_ | refine acall (fit) ?_ | refine qp (fit) ?_ | refine qm (fit) ?_ | refine acall (v1) ?_ | refine qp (v1) ?_ | refine qm (v1) ?_ | refine acall (v2) ?_ | refine qp (v2) ?_ | refine qm (v2) ?_ | refine qe ?_ | refine qi ?_ | refine qj ?_ | refine qn ?_) <;> (try simp (disch := first | omega | simp) [qc, -qr, -qz, hr30b, htt, hple, k2, hq])) | ((with_reducible refine sideT ?_ ?_); first | omega | assumption | (simp; done)) | (refine qf fun K hK => ?_) | (refine qa ?_) | (refine qb true (by kernel_rfl) (by kernel_rfl) ?_) | (refine qb false (by kernel_rfl) (by kernel_rfl) ?_) | (refine hK _ ?_; clear hK K) | (clear hK K; refine hK _ ?_; clear hK K) | (clear hK K; clear hK K; refine hK _ ?_; clear hK K) | refine qd ?_)
      refine key _ rfl (by
        rcases hcase with h | h | h
        · left; rw [beq_eq_false_iff_ne]; omega
        · exact .inr (.inl h)
        · exact .inr (.inr h)) _ fit fun hb => ?_
      obtain ⟨f1, f2, f3⟩ := fits26_fit hb
      subst f2
      have v1 := eval_fit_g [] time row (foldE e) t (by simp) (by simp) (by omega) g1 f1
      have v2 := eval_fit_g [] time row e t (by simp) (by simp) (by omega) h3 f1
      have hev : evalP [] time row (foldE e) = evalP [] time row e := by
        unfold evalP
        rw [callN_zero]
        exact gv _ _ _ _ (snd_nil (qbs.of f3))
      rw [hev] at v1
      exact ⟨_, v1, v2⟩
  · have hr30b : (30 : Int) < row.length := by omega
    refine qo Tryz.func3 Tryz.ntmps3 rfl rfl (by decide) rfl (by intro n; simp) fun σ n0 hcl hft => ?_
    repeat' (first | ((first | ((with_reducible refine qq (fun hg => ?_) (fun hg => ?_)) <;> (try simp only [hg]) <;> (try simp only [gS] at hg) <;> (try (first | simp only [eq_false hg, gI] | simp only [eq_true hg, gI]))) | (with_reducible first | refine qh ?_ | refine qg ?_ | refine ql ?_ | refine qk ?_) | refine acall (csm) ?_ | refine qp (csm) ?_ | refine qm (csm) ?_ | refine acall (cl) ?_ | refine qp (cl) ?_ | refine qm (cl) ?_ | refine qe ?_ | refine qi ?_ | refine qj ?_ | refine qn ?_) <;> (try simp (disch := first | omega | simp) [qc, -qr, -qz, hr30b])) | ((with_reducible refine sideT ?_ ?_); first | omega | assumption | (simp; done)) | (refine qf fun K hK => ?_) | (refine qa ?_) | (refine qb true (by kernel_rfl) (by kernel_rfl) ?_) | (refine qb false (by kernel_rfl) (by kernel_rfl) ?_) | (refine hK _ ?_; clear hK K) | (clear hK K; refine hK _ ?_; clear hK K) | (clear hK K; clear hK K; refine hK _ ?_; clear hK K) | refine qd ?_)
end Go.Proofs.YtnkimlkoijfcpaaGreatDoor

/- The law CompileFolds where what it reads is of bulk at most 1048576, lifted: the row and the tied card. (Printed by gen_lift26.py.) -/
namespace Go.Proofs.YtnkimlkoijfcpaaGreatDoor
open Go.ChangeShapes Go.WideShapes Go.ChangeAt Go.RowKit Go.Lib
noncomputable def compileFoldsW (os : Os) : World := World.laidAll Tryz.prog os Rows.compileFoldsUptoRow.laid
def qdd : Array Value := #[.slice .none 0 0, .agg #[.int .i64 0, .int .i64 0, .string ByteArray.empty, .slice .none 0 0], .int .i64 0, .slice .none 0 0]
theorem compileFolds_reads (os : Os) {H : Type} (enc : TypeId × Value → H) : ∃ places, DataW.whole enc Tryz.prog ((compileFoldsW os).forCall (fun _ _ => 0) ⟨#[], qdd, []⟩).memory Tryz.f3.params.toList Rows.compileFoldsSpec.vars false qdd.toList 8 = some ([.nil, .agg [.lit (.int .i64 0), .lit (.int .i64 0), .lit (.string []), .nil], .lit (.int .i64 0), .nil], [], places) :=
  ⟨[], by kernel_rfl⟩
theorem compileFolds_laid (os : Os) : laidMet Tryz.prog Rows.compileFoldsUptoRow.laid ((compileFoldsW os).forCall (fun _ _ => 0) ⟨#[], qdd, []⟩).memory :=
  laidMet_of_run' 8 (by kernel_rfl) (by kernel_rfl)
set_option maxRecDepth 100000 in
theorem compileFolds_lifted (os : Os) (started : os.Started) (H : Type) (enc : TypeId × Value → H) (F : Stop.Interp) :
    ReturnsInHanded {} Tryz.checked os 3 .any ((Rows.OpenSpec.upto Rows.compileFoldsSpec).preRow enc Tryz.prog Tryz.f3 Rows.compileFoldsUptoRow.domain false Rows.compileFoldsUptoRow.laid) (((Rows.OpenSpec.upto Rows.compileFoldsSpec).at F).post enc Tryz.prog Tryz.f3 false true false false) := by
  obtain ⟨places, hx⟩ := compileFolds_reads os enc
  refine returnsInHanded_of_row (C := Tryz.checked) (s := Rows.OpenSpec.upto Rows.compileFoldsSpec) Tryz.own started (by kernel_rfl) Tryz.func3
    (witness_row_at (enc := enc) (C := Tryz.checked) false (compileFoldsW os) qdd (World.laidAll_os _ _ _) (by kernel_rfl) (by kernel_rfl) (by kernel_rfl)
      (OpenSpec.preRow_of_cond 8 hx (by kernel_rfl) (fun k hk => by cases hk; kernel_rfl) (by kernel_rfl) (compileFolds_laid os))) ?_
  intro W base args ds gs before hval0 hW _ hcond _ hlaid _ _
  rw [MakeChecks.laidMetH_plain _ _ _ (by kernel_rfl)] at hlaid
  have hglob := glob27 hlaid (by simp [Rows.compileFoldsUptoRow])
  have hval : ∀ (j : Nat) t v, Tryz.f3.params[j]? = some t → args[j]? = some v → Value.okWide Tryz.prog W .any base t v := hval0
  have hW' := hW
  obtain ⟨p, q, hA0, hV, rfl, hfz, hnd⟩ := hW
  have hA : DataW.TrodAll enc Tryz.prog W 0 (fun _ => true) true Tryz.f3.params.toList args.toList ds p := hA0
  rw [Tryz.params3] at hA hval
  obtain ⟨v0, v1, v2, v3, d0, d1, d2, d3, p0, p1, p2, p3, rfl, rfl, rfl, h0, h1, h2, h3⟩ := trodAll_4_02 hA
  obtain ⟨rfl, rfl⟩ := trodVars_none hV
  have hb0 : Rows.uptoSmall H ([d0, d1, d2, d3] ++ []) = true := hcond _ rfl
  have hb : Rows.uptoBulkAll ([d0, d1, d2, d3] ++ []) ≤ 1048576 := of_decide_eq_true hb0
  simp only [List.append_nil, Rows.uptoBulkAll] at hb
  obtain ⟨x0, r0⟩ := par_sl Tryz.underlying22 (hval 0 _ v0 rfl rfl) h0 trods_ints27
  obtain ⟨x1, cs1, rfl, r1⟩ := par_st Tryz.underlying25 (hval 1 _ v1 rfl rfl) h1 trods_ex
  obtain ⟨x2, rfl, r2⟩ := par_intR Tryz.underlying3 (hval 2 _ v2 rfl rfl)
  obtain ⟨x3, r3⟩ := par_sl Tryz.underlying26 (hval 3 _ v3 rfl rfl) h3 trods_vals
  have s1 : n64 x1 ∧ 5 * parts x1 ≤ Rows.uptoBulk d1 := by
    obtain ⟨k, t⟩ := h1
    exact ex_bulk x1 k cs1 _ r1 t
  have s3 : (∀ v ∈ x3, True) ∧ (x3.map fun _ => 4).sum + 1 ≤ Rows.uptoBulk d3 ∧ x3.length + 1 ≤ Rows.uptoBulk d3 := by
    obtain ⟨A, n, c, rfl⟩ := okWide_slice Tryz.underlying26 (hval 3 _ v3 rfl rfl)
    obtain ⟨k, t⟩ := h3
    exact sl_bulk (Q := fun _ => True) (g := fun _ => 4) Tryz.underlying26 (by kernel_rfl) (by omega) Val.width r3 t fun f _ n c y hr hy => val_bulk f n c y hr hy
  rw [sum_four] at s3
  refine (calls_of_gives (vals := [v0, .agg cs1.toArray, .int .i64 x2, v3]) (folds26_g x0 x1 x2 x3 (by omega) (by omega)) ⟨_, _, rfl, ints_flat27 r0, _, _, rfl, ex_flat26 r1, _, _, rfl, flat_int02, _, _, rfl, Val.flats r3, rfl⟩ hglob).mono ?_
  rintro r W' ⟨rfl, hb⟩
  exact ⟨_, rfl, law_post (P := Tryz.prog) Tryz.laidOut hW' rfl rfl (by kernel_rfl) Tryz.underlying4 (by kernel_rfl) hb⟩
theorem compileFoldsUpto_row : Rows.CompileFoldsUptoSaid :=
  OpenClaim.holds_of_cond 3 Tryz.f3 rfl rfl rfl rfl rfl rfl rfl ⟨rfl, rfl, rfl, rfl, rfl⟩ rfl rfl rfl rfl rfl (by kernel_rfl) Tryz.func3 (by kernel_rfl)
    (of_decide_eq_true (by kernel_rfl)) (by unfold Func.isWrapper; first | (rw [if_pos (by decide +kernel)]; kernel_rfl) | (rw [if_neg (by decide +kernel)]; exact ⟨rfl, rfl⟩))
    (fun os started H enc _ F => by rw [OpenClaim.pre_eq_preRow]; exact compileFolds_lifted os started H enc F)
theorem compileFoldsUpto_holds : Rows.CompileFoldsUptoCardSaid :=
  Claim7.holds_tied_plain_at .later [] _ _ _ _ compileFoldsUpto_row (fun _ h => by cases h) (by kernel_rfl) (fun _ h => by cases h) compileFoldsUpto_row_tie rfl ⟨rfl, rfl⟩ (by kernel_rfl) rfl
    (fun f fn hf hfn => by
      obtain rfl : f = 3 := Option.some.inj ((show Tryz.prog.funcNamed "errata/erratalaw26.CompileFolds" = some 3 by kernel_rfl).symm.trans hf) |>.symm
      obtain rfl : fn = Tryz.f3 := (Option.some.inj (Tryz.func3.symm.trans hfn)).symm
      exact ⟨by kernel_rfl, fun j t ht => by
        rw [Tryz.params3] at ht
        have hm : t ∈ [22, 25, 3, 26] := by simpa using Array.mem_of_getElem? ht
        have hall : ([22, 25, 3, 26].all fun u => !Tryz.prog.wantsStandIn u) = true := by kernel_rfl
        exact (show Tryz.prog.wantsStandIn t = false by simpa using List.all_eq_true.1 hall t hm)⟩)
    (by kernel_rfl)
end Go.Proofs.YtnkimlkoijfcpaaGreatDoor
