/- Walk of layer 25: Verify. -/
import Derived.Test.YtnkakofcejkhiaaDoorProg
import Derived.KernelRfl
import Derived.Test.YtnkakofcejkhiaaDoorRows
import Derived.Test.YtnkakofcejkhiaaDoorCards
import Derived.Test.YtnkakofcejkhiaaDoorTie
import Derived.SevenTiedAt
import Derived.Stop.Joined
import Derived.Lib.LaidU8
import Derived.HandedShaped
import Derived.Lay
import Derived.LaidMore
import Derived.OpenShut
import Derived.WideShapes
import Derived.Laws.Strings
import Derived.Deep.DeepHandedRow
import Derived.Lib.LaidTab
import Derived.Test.YtnkakofcejkhiaaDoorGc1
import Derived.Test.YtnkakofcejkhiaaDoorGc5
import Derived.Test.YtnkakofcejkhiaaDoorGc10
import Derived.Test.YtnkakofcejkhiaaDoorGc11
import Derived.Test.YtnkakofcejkhiaaDoorGc18
import Derived.Test.YtnkakofcejkhiaaDoorGc19
import Derived.Test.YtnkakofcejkhiaaDoorGc21
import Derived.Test.YtnkakofcejkhiaaDoorGc24
import Derived.Test.YtnkakofcejkhiaaDoorGc28
set_option linter.unusedSimpArgs false
set_option linter.unusedVariables false
namespace Go.Proofs.YtnkakofcejkhiaaDoor
open Go.RowKit Go.Lib
theorem vkind_g (t : Int) : Gives Tryd.prog 36 [.int t] (.bool (decide (t < 0) || decide (3 ≤ t))) := by
  refine qn Tryd.func36 Tryd.ntmps36 rfl rfl (by decide) rfl (by intro n; simp) fun σ n0 hcl hft => ?_
  repeat' (first | ((first | ((with_reducible refine qo (fun hg => ?_) (fun hg => ?_)) <;> (try simp only [hg]) <;> (try simp only [gS] at hg) <;> (try (first | simp only [eq_false hg, gI] | simp only [eq_true hg, gI]))) | (with_reducible first | refine qh ?_ | refine qg ?_ | refine ql ?_ | refine qk ?_) | refine qd ?_ | refine qi ?_ | refine qj ?_ | refine qm ?_) <;> (try simp (disch := first | omega | simp) [qf, -qr, -qw])) | ((with_reducible refine sideT ?_ ?_); first | omega | assumption | (simp; done)) | (refine qe fun K hK => ?_) | (refine qa ?_) | (refine qb true (by kernel_rfl) (by kernel_rfl) ?_) | (refine hK _ ?_; clear hK K) | (clear hK K; refine hK _ ?_; clear hK K) | (clear hK K; clear hK K; refine hK _ ?_; clear hK K) | refine qc ?_)
  all_goals simp_all
  all_goals omega
set_option maxHeartbeats 4000000 in
theorem verify_g (c : Cod) (cols : List Int) (hc : cols.length ≤ 1000000) : Gives Tryd.prog 11 [c.av, .sl (cols.map AV.int)] (.tup [.int (verP c cols).1, .int (verP c cols).2]) := by
  obtain ⟨R, hR⟩ : ∃ R, R = verP c cols := ⟨_, rfl⟩
  rw [← hR]
  unfold verP at hR
  obtain ⟨ins, types, out⟩ := c
  simp only at hR
  by_cases h1 : 1000 < ins.length ∨ 1000 < types.length
  · rw [if_pos h1] at hR
    refine qn Tryd.func11 Tryd.ntmps11 rfl rfl (by decide) rfl (by intro n; simp) fun σ n0 hcl hft => ?_
    repeat' (first | ((first | ((with_reducible refine qo (fun hg => ?_) (fun hg => ?_)) <;> (try simp only [hg]) <;> (try simp only [gS] at hg) <;> (try (first | simp only [eq_false hg, gI] | simp only [eq_true hg, gI]))) | (with_reducible first | refine qh ?_ | refine qg ?_ | refine ql ?_ | refine qk ?_) | refine qd ?_ | refine qi ?_ | refine qj ?_ | refine qm ?_) <;> (try simp (disch := first | omega | simp) [qf, -qr, -qw])) | ((with_reducible refine sideT ?_ ?_); first | omega | assumption | (simp; done)) | (refine qe fun K hK => ?_) | (refine qa ?_) | (refine qb true (by kernel_rfl) (by kernel_rfl) ?_) | (refine hK _ ?_; clear hK K) | (clear hK K; refine hK _ ?_; clear hK K) | (clear hK K; clear hK K; refine hK _ ?_; clear hK K) | refine qc ?_)
    all_goals (rw [hR]; first | (simp; done) | omega)
  rw [if_neg h1] at hR
  have h1a : ¬ (1000 : Int) < ins.length := by omega
  have h1b : ¬ (1000 : Int) < types.length := by omega
  have c1 := contI_n types (fun t => decide (t < 0) || decide (3 ≤ t)) 36 (by kernel_rfl) (fun t _ => vkind_g t) (by omega)
  cases hk : types.any (fun t => decide (t < 0) || decide (3 ≤ t))
  · rw [hk] at c1 hR
    rw [if_neg (by simp)] at hR
    obtain ⟨V, hV⟩ : ∃ V, V = verL cols types ins 0 (List.replicate types.length false) := ⟨_, rfl⟩
    rw [← hV] at hR
    try dsimp only at hR
    have hsz : 1 * types.length ≤ 281474976710656 := by omega
    refine qn Tryd.func11 Tryd.ntmps11 rfl rfl (by decide) rfl (by intro n; simp) fun σ n0 hcl hft => ?_
    repeat' (first | ((first | ((with_reducible refine qo (fun hg => ?_) (fun hg => ?_)) <;> (try simp only [hg]) <;> (try simp only [gS] at hg) <;> (try (first | simp only [eq_false hg, gI] | simp only [eq_true hg, gI]))) | (with_reducible first | refine qh ?_ | refine qg ?_ | refine ql ?_ | refine qk ?_) | refine acall (c1) ?_ | refine qq (c1) ?_ | refine qd ?_ | refine qi ?_ | refine qj ?_ | refine qm ?_) <;> (try simp (disch := first | omega | simp) [qf, -qr, -qw, h1a, h1b, hsz])) | ((with_reducible refine sideT ?_ ?_); first | omega | assumption | (simp; done)) | (refine qe fun K hK => ?_) | (refine qa ?_) | (refine qb true (by kernel_rfl) (by kernel_rfl) ?_) | (refine hK _ ?_; clear hK K) | (clear hK K; refine hK _ ?_; clear hK K) | (clear hK K; clear hK K; refine hK _ ?_; clear hK K) | refine qc ?_)
    refine qx hcl (fun b : Nat × List Bool => [(1, .sl (cols.map AV.int)), (2, .ptr n0 0), (6, .own (n0 + 1) types.length), (28, .sl (ins.map Ins.av)), (29, .int ins.length), (30, .int b.1)])
      (fun b => [.cells [.sl (ins.map Ins.av), .sl (types.map AV.int), .int out] 25, .vec (b.2.map AV.bool) 4 1])
      (fun b => b.1 ≤ ins.length ∧ b.2.length = types.length ∧ V = verL cols types (ins.drop b.1) b.1 b.2) (fun b => ins.length - b.1) (0, List.replicate types.length false) ⟨by omega, by simp, hV⟩ (by simp) fun ⟨k, D⟩ ⟨hk1, hD, hVk⟩ => ?_
    simp only at hk1 hD hVk
    by_cases hlt : k < ins.length
    · have hdr : ins.drop k = ins[k] :: ins.drop (k + 1) := List.drop_eq_getElem_cons hlt
      rw [hdr, verL] at hVk
      have c2 : ∀ τ : Nat → AB, τ (n0 + 1) = .vec (D.map AV.bool) 4 1 → qdz Tryd.prog 37 [ins[k].av, .sl (cols.map AV.int), .sl (types.map AV.int), .own (n0 + 1) types.length] τ (.int (verI cols types D ins[k])) := fun τ h => by
        have := ver_g ins[k] cols types D hD (by omega) hc τ (n0 + 1) h
        rwa [hD] at this
      by_cases hv : verI cols types D ins[k] = 0
      · rw [if_pos hv] at hVk
        rw [hv] at c2
        have hok := verI_ok hv
        have t0 := hok.to0
        have t1 : ins[k].to < D.length := by rw [hD]; exact hok.to1
        repeat' (first | ((first | ((with_reducible refine qo (fun hg => ?_) (fun hg => ?_)) <;> (try simp only [hg]) <;> (try simp only [gS] at hg) <;> (try (first | simp only [eq_false hg, gI] | simp only [eq_true hg, gI]))) | (with_reducible first | refine qh ?_ | refine qg ?_ | refine ql ?_ | refine qk ?_) | refine acall (c2 _ (by simp)) ?_ | refine qq (c2 _ (by simp)) ?_ | refine qp (c2 _ (by simp)) ?_ | refine qd ?_ | refine qi ?_ | refine qj ?_ | refine qm ?_) <;> (try simp (disch := first | omega | simp) [qf, -qr, -qw, hlt, hD, t0, t1])) | ((with_reducible refine sideT ?_ ?_); first | omega | assumption | (simp; done)) | (refine qe fun K hK => ?_) | (refine qa ?_) | (refine qb true (by kernel_rfl) (by kernel_rfl) ?_) | (refine qb false (by kernel_rfl) (by kernel_rfl) ?_) | (refine hK _ ?_; clear hK K) | (clear hK K; refine hK _ ?_; clear hK K) | (clear hK K; clear hK K; refine hK _ ?_; clear hK K) | refine qc ?_)
        exact ⟨k + 1, D.set ins[k].to.toNat true, ⟨by omega, by rw [List.length_set]; exact hD, hVk⟩, by omega, by rw [List.map_set], by omega⟩
      · rw [if_neg hv] at hVk
        repeat' (first | ((first | ((with_reducible refine qo (fun hg => ?_) (fun hg => ?_)) <;> (try simp only [hg]) <;> (try simp only [gS] at hg) <;> (try (first | simp only [eq_false hg, gI] | simp only [eq_true hg, gI]))) | (with_reducible first | refine qh ?_ | refine qg ?_ | refine ql ?_ | refine qk ?_) | refine acall (c2 _ (by simp)) ?_ | refine qq (c2 _ (by simp)) ?_ | refine qp (c2 _ (by simp)) ?_ | refine qd ?_ | refine qi ?_ | refine qj ?_ | refine qm ?_) <;> (try simp (disch := first | omega | simp) [qf, -qr, -qw, hlt, hD, hv])) | ((with_reducible refine sideT ?_ ?_); first | omega | assumption | (simp; done)) | (refine qe fun K hK => ?_) | (refine qa ?_) | (refine qb true (by kernel_rfl) (by kernel_rfl) ?_) | (refine qb false (by kernel_rfl) (by kernel_rfl) ?_) | (refine hK _ ?_; clear hK K) | (clear hK K; refine hK _ ?_; clear hK K) | (clear hK K; clear hK K; refine hK _ ?_; clear hK K) | refine qc ?_)
        all_goals
          first
          | exact absurd (by assumption) hv
          | (rw [hR, hVk]; dsimp only; rw [if_pos hv]; exact ⟨rfl, rfl⟩)
    · have hVe : V = ((-1, 0), D) := by rw [hVk, List.drop_eq_nil_of_le (by omega)]; rfl
      rw [hVe] at hR
      dsimp only at hR
      rw [if_neg (by simp)] at hR
      have hD' : types.length = D.length := hD.symm
      by_cases ho : out < 0 ∨ (types.length : Int) ≤ out
      · rw [if_pos ho] at hR
        repeat' (first | ((first | ((with_reducible refine qo (fun hg => ?_) (fun hg => ?_)) <;> (try simp only [hg]) <;> (try simp only [gS] at hg) <;> (try (first | simp only [eq_false hg, gI] | simp only [eq_true hg, gI]))) | (with_reducible first | refine qh ?_ | refine qg ?_ | refine ql ?_ | refine qk ?_) | refine qd ?_ | refine qi ?_ | refine qj ?_ | refine qm ?_) <;> (try simp (disch := first | omega | simp) [qf, -qr, -qw, hlt, hD'])) | ((with_reducible refine sideT ?_ ?_); first | omega | assumption | (simp; done)) | (refine qe fun K hK => ?_) | (refine qa ?_) | (refine qb true (by kernel_rfl) (by kernel_rfl) ?_) | (refine hK _ ?_; clear hK K) | (clear hK K; refine hK _ ?_; clear hK K) | (clear hK K; clear hK K; refine hK _ ?_; clear hK K) | refine qc ?_)
        all_goals
          first
          | (rw [hR]; exact ⟨rfl, rfl⟩)
          | (exfalso; omega)
      · rw [if_neg ho] at hR
        have o0 : ¬ out < 0 := by omega
        have o0' : 0 ≤ out := by omega
        have o1 : ¬ (types.length : Int) ≤ out := by omega
        have o2 : out < types.length := by omega
        have o3 : out < D.length := by omega
        have hgd : D.getD out.toNat false = D[out.toNat]'(by omega) := by rw [List.getD_eq_getElem?_getD, List.getElem?_eq_getElem (by omega)]; rfl
        rw [hgd] at hR
        generalize hB : D[out.toNat]'(by omega) = B at hR
        cases B
        · repeat' (first | ((first | ((with_reducible refine qo (fun hg => ?_) (fun hg => ?_)) <;> (try simp only [hg]) <;> (try simp only [gS] at hg) <;> (try (first | simp only [eq_false hg, gI] | simp only [eq_true hg, gI]))) | (with_reducible first | refine qh ?_ | refine qg ?_ | refine ql ?_ | refine qk ?_) | refine qd ?_ | refine qi ?_ | refine qj ?_ | refine qm ?_) <;> (try simp (disch := first | omega | simp) [qf, -qr, -qw, hlt, hD, o0, o0', o1, o2, o3, hB])) | ((with_reducible refine sideT ?_ ?_); first | omega | assumption | (simp; done)) | (refine qe fun K hK => ?_) | (refine qa ?_) | (refine qb true (by kernel_rfl) (by kernel_rfl) ?_) | (refine qb false (by kernel_rfl) (by kernel_rfl) ?_) | (refine hK _ ?_; clear hK K) | (clear hK K; refine hK _ ?_; clear hK K) | (clear hK K; clear hK K; refine hK _ ?_; clear hK K) | refine qc ?_)
          rw [hR]; simp
        · repeat' (first | ((first | ((with_reducible refine qo (fun hg => ?_) (fun hg => ?_)) <;> (try simp only [hg]) <;> (try simp only [gS] at hg) <;> (try (first | simp only [eq_false hg, gI] | simp only [eq_true hg, gI]))) | (with_reducible first | refine qh ?_ | refine qg ?_ | refine ql ?_ | refine qk ?_) | refine qd ?_ | refine qi ?_ | refine qj ?_ | refine qm ?_) <;> (try simp (disch := first | omega | simp) [qf, -qr, -qw, hlt, hD, o0, o0', o1, o2, o3, hB])) | ((with_reducible refine sideT ?_ ?_); first | omega | assumption | (simp; done)) | (refine qe fun K hK => ?_) | (refine qa ?_) | (refine qb true (by kernel_rfl) (by kernel_rfl) ?_) | (refine qb false (by kernel_rfl) (by kernel_rfl) ?_) | (refine hK _ ?_; clear hK K) | (clear hK K; refine hK _ ?_; clear hK K) | (clear hK K; clear hK K; refine hK _ ?_; clear hK K) | refine qc ?_)
          rw [hR]; simp
  · rw [hk] at c1 hR
    rw [if_pos rfl] at hR
    refine qn Tryd.func11 Tryd.ntmps11 rfl rfl (by decide) rfl (by intro n; simp) fun σ n0 hcl hft => ?_
    repeat' (first | ((first | ((with_reducible refine qo (fun hg => ?_) (fun hg => ?_)) <;> (try simp only [hg]) <;> (try simp only [gS] at hg) <;> (try (first | simp only [eq_false hg, gI] | simp only [eq_true hg, gI]))) | (with_reducible first | refine qh ?_ | refine qg ?_ | refine ql ?_ | refine qk ?_) | refine acall (c1) ?_ | refine qq (c1) ?_ | refine qd ?_ | refine qi ?_ | refine qj ?_ | refine qm ?_) <;> (try simp (disch := first | omega | simp) [qf, -qr, -qw, h1a, h1b])) | ((with_reducible refine sideT ?_ ?_); first | omega | assumption | (simp; done)) | (refine qe fun K hK => ?_) | (refine qa ?_) | (refine qb true (by kernel_rfl) (by kernel_rfl) ?_) | (refine hK _ ?_; clear hK K) | (clear hK K; refine hK _ ?_; clear hK K) | (clear hK K; clear hK K; refine hK _ ?_; clear hK K) | refine qc ?_)
    all_goals (rw [hR]; first | (simp; done) | omega)
end Go.Proofs.YtnkakofcejkhiaaDoor

/- Walk of layer 26: the law CompileMeans. -/
namespace Go.Proofs.YtnkakofcejkhiaaDoor
open Go.RowKit Go.Lib
theorem val_eq26 (v : Val) : aeq Tryd.prog .eql 39 v.av v.av = some true := by
  simp only [aeq, aeqS, Val.q, Val.av, feq, feq1]
  simp
theorem comp_val {F : List Fn} {cols : List Int} {e y : Ex} {t time : Int} {row : List Val} (hOk : ∀ i, i < F.length → okF F i = true) (ht : ty F cols [] e = some t) (hy : qco F e = some y) (g1 : ty [] cols [] y = some t) (hk : row.map Val.k = cols) (hs : ∀ v ∈ row, qbc v) :
    ev (fun _ _ => zeroV) time row [] (foldE y) = evalP F time row e := by
  subst hk
  rw [(fold_ok y g1).2 _ _ _ _ (snd_nil (qbn.of hs)), ← (inline_sem hOk hs ht hy).2]
  unfold evalP
  rw [callN_zero]
set_option maxRecDepth 100000 in
set_option maxHeartbeats 16000000 in
theorem means26_g (F : List Fn) (cols : List Int) (e : Ex) (time : Int) (row : List Val) (hlF : F.length ≤ 2000000) (hF : ∀ f ∈ F, parts f.body ≤ 1000000) (hp : parts e ≤ 1000000) (hr : row.length ≤ 1000000) (hn : n64 e) (hFn : ∀ f ∈ F, n64 f.body) :
    Gives Tryd.prog 7 [.sl (F.map Fn.av), .sl (cols.map AV.int), e.av, .int time, .sl (row.map Val.av)] (.bool true) := by
  have csm := small26_g
  have cl := light26_g F cols e hlF hF hp
  cases hl : light26 F cols e with
  | false =>
    rw [hl] at cl
    refine qn Tryd.func7 Tryd.ntmps7 rfl rfl (by decide) rfl (by intro n; simp) fun σ n0 hcl hft => ?_
    repeat' (first | ((first | ((with_reducible refine qo (fun hg => ?_) (fun hg => ?_)) <;> (try simp only [hg]) <;> (try simp only [gS] at hg) <;> (try (first | simp only [eq_false hg, gI] | simp only [eq_true hg, gI]))) | (with_reducible first | refine qh ?_ | refine qg ?_ | refine ql ?_ | refine qk ?_) | refine acall (csm) ?_ | refine qq (csm) ?_ | refine qp (csm) ?_ | refine acall (cl) ?_ | refine qq (cl) ?_ | refine qp (cl) ?_ | refine qd ?_ | refine qi ?_ | refine qj ?_ | refine qm ?_) <;> (try simp (disch := first | omega | simp) [qf, -qr, -qw])) | ((with_reducible refine sideT ?_ ?_); first | omega | assumption | (simp; done)) | (refine qe fun K hK => ?_) | (refine qa ?_) | (refine qb true (by kernel_rfl) (by kernel_rfl) ?_) | (refine qb false (by kernel_rfl) (by kernel_rfl) ?_) | (refine hK _ ?_; clear hK K) | (clear hK K; refine hK _ ?_; clear hK K) | (clear hK K; clear hK K; refine hK _ ?_; clear hK K) | refine qc ?_)
  | true =>
    rw [hl] at cl
    have hl2 := hl
    unfold light26 slimP at hl2
    simp only [Bool.and_eq_true, decide_eq_true_eq, List.all_eq_true] at hl2
    obtain ⟨hfb, ⟨h25, h30⟩, hlv, h300⟩ := hl2
    have hF3 : ∀ f ∈ F, parts f.body ≤ 300 := fun f hf => by
      have := hfb f hf
      unfold fnB slimP at this
      simp only [Bool.and_eq_true, decide_eq_true_eq] at this
      exact this.1.2
    have cc := Compile_g F cols e (fun f hf => by have := hF3 f hf; omega) (by omega) (by omega) (by omega) hn hFn
    have ct := type_g F cols [] e (by omega) (fun f hf => by have := hF3 f hf; omega)
    simp only [List.map_nil] at ct
    by_cases hr30 : row.length ≤ 30
    · have hr30b : ¬ (30 : Int) < row.length := by omega
      unfold qdh at cc
      cases ht : typeP F cols [] e with
      | none =>
        rw [ht] at cc ct
        simp only [Option.getD_none, Option.isSome_none, zeroCd, Cod.av, List.map_nil] at cc ct
        refine qn Tryd.func7 Tryd.ntmps7 rfl rfl (by decide) rfl (by intro n; simp) fun σ n0 hcl hft => ?_
        repeat' (first | ((first | ((with_reducible refine qo (fun hg => ?_) (fun hg => ?_)) <;> (try simp only [hg]) <;> (try simp only [gS] at hg) <;> (try (first | simp only [eq_false hg, gI] | simp only [eq_true hg, gI]))) | (with_reducible first | refine qh ?_ | refine qg ?_ | refine ql ?_ | refine qk ?_) | refine acall (csm) ?_ | refine qq (csm) ?_ | refine qp (csm) ?_ | refine acall (cl) ?_ | refine qq (cl) ?_ | refine qp (cl) ?_ | refine acall (cc) ?_ | refine qq (cc) ?_ | refine qp (cc) ?_ | refine acall (ct) ?_ | refine qq (ct) ?_ | refine qp (ct) ?_ | refine qd ?_ | refine qi ?_ | refine qj ?_ | refine qm ?_) <;> (try simp (disch := first | omega | simp) [qf, -qr, -qw, hr30b])) | ((with_reducible refine sideT ?_ ?_); first | omega | assumption | (simp; done)) | (refine qe fun K hK => ?_) | (refine qa ?_) | (refine qb true (by kernel_rfl) (by kernel_rfl) ?_) | (refine qb false (by kernel_rfl) (by kernel_rfl) ?_) | (refine hK _ ?_; clear hK K) | (clear hK K; refine hK _ ?_; clear hK K) | (clear hK K; clear hK K; refine hK _ ?_; clear hK K) | refine qc ?_)
      | some t =>
        rw [ht] at cc ct
        simp only [Option.getD_some, Option.isSome_some] at cc ct
        obtain ⟨h1, h2, h3, h4⟩ := typeP_all ht
        cases hy : qco F e with
        | none =>
          rw [hy] at cc
          simp only [zeroCd, Cod.av, List.map_nil] at cc
          refine qn Tryd.func7 Tryd.ntmps7 rfl rfl (by decide) rfl (by intro n; simp) fun σ n0 hcl hft => ?_
          repeat' (first | ((first | ((with_reducible refine qo (fun hg => ?_) (fun hg => ?_)) <;> (try simp only [hg]) <;> (try simp only [gS] at hg) <;> (try (first | simp only [eq_false hg, gI] | simp only [eq_true hg, gI]))) | (with_reducible first | refine qh ?_ | refine qg ?_ | refine ql ?_ | refine qk ?_) | refine acall (csm) ?_ | refine qq (csm) ?_ | refine qp (csm) ?_ | refine acall (cl) ?_ | refine qq (cl) ?_ | refine qp (cl) ?_ | refine acall (cc) ?_ | refine qq (cc) ?_ | refine qp (cc) ?_ | refine acall (ct) ?_ | refine qq (ct) ?_ | refine qp (ct) ?_ | refine qd ?_ | refine qi ?_ | refine qj ?_ | refine qm ?_) <;> (try simp (disch := first | omega | simp) [qf, -qr, -qw, hr30b])) | ((with_reducible refine sideT ?_ ?_); first | omega | assumption | (simp; done)) | (refine qe fun K hK => ?_) | (refine qa ?_) | (refine qb true (by kernel_rfl) (by kernel_rfl) ?_) | (refine qb false (by kernel_rfl) (by kernel_rfl) ?_) | (refine hK _ ?_; clear hK K) | (clear hK K; refine hK _ ?_; clear hK K) | (clear hK K; clear hK K; refine hK _ ?_; clear hK K) | refine qc ?_)
        | some y =>
          rw [hy] at cc
          dsimp only at cc
          obtain ⟨g1, g2, g3, g4, g5⟩ := compile_typ ht hy
          obtain ⟨k1, k2, k3⟩ := comp_typ g3 g4
          have hty : typE cols (foldE y) = t := by
            have := g3.typ
            rw [g5] at this
            exact (Option.some.inj this).symm
          rw [hty] at k3
          have hval := fun time => @comp_val F cols e y t time row h2 h3 hy g1
          simp only [← k2] at hval
          generalize compP (rawP cols (foldE y)) = C at *
          have cv := verify_g C cols (by omega)
          rw [verP_ok.2 k1] at cv
          have o0 := k1.out0
          have o1 := k1.out1
          have cf := fits26_g row cols hr
          have cs := steps_g F e (by omega) (fun f hf => by have := hF3 f hf; omega) (by omega) (wfS_of_ty e h3) (okF_wfS h2)
          generalize stepsP F e = N at *
          have hgt : C.types.getD C.out.toNat 0 = C.types[C.out.toNat]'(by omega) := by rw [List.getD_eq_getElem?_getD, List.getElem?_eq_getElem (by omega)]; rfl
          rw [hgt] at k3
          have htt : (t != t) = false := by simp
          cases hfit : fits26 cols row with
          | false =>
            rw [hfit] at cf
            obtain ⟨ins, types, out⟩ := C
            simp only [Cod.av] at cc cv o0 o1 k3
            refine qn Tryd.func7 Tryd.ntmps7 rfl rfl (by decide) rfl (by intro n; simp) fun σ n0 hcl hft => ?_
            repeat' (first | ((first | ((with_reducible refine qo (fun hg => ?_) (fun hg => ?_)) <;> (try simp only [hg]) <;> (try simp only [gS] at hg) <;> (try (first | simp only [eq_false hg, gI] | simp only [eq_true hg, gI]))) | (with_reducible first | refine qh ?_ | refine qg ?_ | refine ql ?_ | refine qk ?_) | refine acall (csm) ?_ | refine qq (csm) ?_ | refine qp (csm) ?_ | refine acall (cl) ?_ | refine qq (cl) ?_ | refine qp (cl) ?_ | refine acall (cc) ?_ | refine qq (cc) ?_ | refine qp (cc) ?_ | refine acall (ct) ?_ | refine qq (ct) ?_ | refine qp (ct) ?_ | refine acall (cv) ?_ | refine qq (cv) ?_ | refine qp (cv) ?_ | refine acall (cf) ?_ | refine qq (cf) ?_ | refine qp (cf) ?_ | refine qd ?_ | refine qi ?_ | refine qj ?_ | refine qm ?_) <;> (try simp (disch := first | omega | simp) [qf, -qr, -qw, hr30b, o0, o1, k3, htt])) | ((with_reducible refine sideT ?_ ?_); first | omega | assumption | (simp; done)) | (refine qe fun K hK => ?_) | (refine qa ?_) | (refine qb true (by kernel_rfl) (by kernel_rfl) ?_) | (refine qb false (by kernel_rfl) (by kernel_rfl) ?_) | (refine hK _ ?_; clear hK K) | (clear hK K; refine hK _ ?_; clear hK K) | (clear hK K; clear hK K; refine hK _ ?_; clear hK K) | refine qc ?_)
          | true =>
            rw [hfit] at cf
            obtain ⟨f1, f2, f3⟩ := fits26_fit hfit
            have cr := run26_g k1 time f1
            have ce := eval_fit_g F time row e t h2 (fun f hf => by have := hF3 f hf; omega) (by omega) h3 f1
            rw [hval time f2 f3] at cr
            have hq := val_eq26 (evalP F time row e)
            generalize evalP F time row e = V at *
            obtain ⟨ins, types, out⟩ := C
            simp only [Cod.av] at cc cv o0 o1 k3 cr
            by_cases hN : (10000 : Int) < N
            · refine qn Tryd.func7 Tryd.ntmps7 rfl rfl (by decide) rfl (by intro n; simp) fun σ n0 hcl hft => ?_
              repeat' (first | ((first | ((with_reducible refine qo (fun hg => ?_) (fun hg => ?_)) <;> (try simp only [hg]) <;> (try simp only [gS] at hg) <;> (try (first | simp only [eq_false hg, gI] | simp only [eq_true hg, gI]))) | (with_reducible first | refine qh ?_ | refine qg ?_ | refine ql ?_ | refine qk ?_) | refine acall (csm) ?_ | refine qq (csm) ?_ | refine qp (csm) ?_ | refine acall (cl) ?_ | refine qq (cl) ?_ | refine qp (cl) ?_ | refine acall (cc) ?_ | refine qq (cc) ?_ | refine qp (cc) ?_ | refine acall (ct) ?_ | refine qq (ct) ?_ | refine qp (ct) ?_ | refine acall (cv) ?_ | refine qq (cv) ?_ | refine qp (cv) ?_ | refine acall (cf) ?_ | refine qq (cf) ?_ | refine qp (cf) ?_ | refine acall (cs) ?_ | refine qq (cs) ?_ | refine qp (cs) ?_ | refine qd ?_ | refine qi ?_ | refine qj ?_ | refine qm ?_) <;> (try simp (disch := first | omega | simp) [qf, -qr, -qw, hr30b, o0, o1, k3, htt, hN])) | ((with_reducible refine sideT ?_ ?_); first | omega | assumption | (simp; done)) | (refine qe fun K hK => ?_) | (refine qa ?_) | (refine qb true (by kernel_rfl) (by kernel_rfl) ?_) | (refine qb false (by kernel_rfl) (by kernel_rfl) ?_) | (refine hK _ ?_; clear hK K) | (clear hK K; refine hK _ ?_; clear hK K) | (clear hK K; clear hK K; refine hK _ ?_; clear hK K) | refine qc ?_)
            · refine qn Tryd.func7 Tryd.ntmps7 rfl rfl (by decide) rfl (by intro n; simp) fun σ n0 hcl hft => ?_
              repeat' (first | ((first | ((with_reducible refine qo (fun hg => ?_) (fun hg => ?_)) <;> (try simp only [hg]) <;> (try simp only [gS] at hg) <;> (try (first | simp only [eq_false hg, gI] | simp only [eq_true hg, gI]))) | (with_reducible first | refine qh ?_ | refine qg ?_ | refine ql ?_ | refine qk ?_) | refine acall (csm) ?_ | refine qq (csm) ?_ | refine qp (csm) ?_ | refine acall (cl) ?_ | refine qq (cl) ?_ | refine qp (cl) ?_ | refine acall (cc) ?_ | refine qq (cc) ?_ | refine qp (cc) ?_ | refine acall (ct) ?_ | refine qq (ct) ?_ | refine qp (ct) ?_ | refine acall (cv) ?_ | refine qq (cv) ?_ | refine qp (cv) ?_ | refine acall (cf) ?_ | refine qq (cf) ?_ | refine qp (cf) ?_ | refine acall (cs) ?_ | refine qq (cs) ?_ | refine qp (cs) ?_ | refine acall (cr) ?_ | refine qq (cr) ?_ | refine qp (cr) ?_ | refine acall (ce) ?_ | refine qq (ce) ?_ | refine qp (ce) ?_ | refine qd ?_ | refine qi ?_ | refine qj ?_ | refine qm ?_) <;> (try simp (disch := first | omega | simp) [qf, -qr, -qw, hr30b, o0, o1, k3, htt, hN, hq])) | ((with_reducible refine sideT ?_ ?_); first | omega | assumption | (simp; done)) | (refine qe fun K hK => ?_) | (refine qa ?_) | (refine qb true (by kernel_rfl) (by kernel_rfl) ?_) | (refine qb false (by kernel_rfl) (by kernel_rfl) ?_) | (refine hK _ ?_; clear hK K) | (clear hK K; refine hK _ ?_; clear hK K) | (clear hK K; clear hK K; refine hK _ ?_; clear hK K) | refine qc ?_)
    · have hr30b : (30 : Int) < row.length := by omega
      refine qn Tryd.func7 Tryd.ntmps7 rfl rfl (by decide) rfl (by intro n; simp) fun σ n0 hcl hft => ?_
      repeat' (first | ((first | ((with_reducible refine qo (fun hg => ?_) (fun hg => ?_)) <;> (try simp only [hg]) <;> (try simp only [gS] at hg) <;> (try (first | simp only [eq_false hg, gI] | simp only [eq_true hg, gI]))) | (with_reducible first | refine qh ?_ | refine qg ?_ | refine ql ?_ | refine qk ?_) | refine acall (csm) ?_ | refine qq (csm) ?_ | refine qp (csm) ?_ | refine acall (cl) ?_ | refine qq (cl) ?_ | refine qp (cl) ?_ | refine qd ?_ | refine qi ?_ | refine qj ?_ | refine qm ?_) <;> (try simp (disch := first | omega | simp) [qf, -qr, -qw, hr30b])) | ((with_reducible refine sideT ?_ ?_); first | omega | assumption | (simp; done)) | (refine qe fun K hK => ?_) | (refine qa ?_) | (refine qb true (by kernel_rfl) (by kernel_rfl) ?_) | (refine qb false (by kernel_rfl) (by kernel_rfl) ?_) | (refine hK _ ?_; clear hK K) | (clear hK K; refine hK _ ?_; clear hK K) | (clear hK K; clear hK K; refine hK _ ?_; clear hK K) | refine qc ?_)
end Go.Proofs.YtnkakofcejkhiaaDoor

/- Readings of arguments: api.Value. -/
namespace Go.Proofs.YtnkakofcejkhiaaDoor
open Go.RowKit Go.Lib
section
variable {H : Type} {enc : TypeId × Value → H} {w : World} {sp : Nat → Bool} {hd : Bool}
theorem trods_val (N : Nat) : Trods enc Tryd.prog w sp hd 39 Val.d N := by
  intro n cs x hn h
  obtain ⟨xs, m, rfl, -, hlen, hl2, hf⟩ := DataW.trod_struct Tryd.underlying39 h
  have hc : Tryd.prog.cellsOf 39 = 3 := by kernel_rfl
  rw [hc] at hlen
  obtain ⟨y0, h0⟩ := qbv 0 3 0 1 hl2 hf ⟨_, rfl, rfl, rfl⟩ (by kernel_rfl)
  obtain ⟨y1, h1⟩ := qbv 1 3 1 1 hl2 hf ⟨_, rfl, rfl, rfl⟩ (by kernel_rfl)
  obtain ⟨y2, h2⟩ := qbv 2 9 2 1 hl2 hf ⟨_, rfl, rfl, rfl⟩ (by kernel_rfl)
  obtain ⟨a0, r0⟩ := qdt Tryd.underlying3 (m + 1) m _ _ (by omega) h0
  obtain ⟨a1, r1⟩ := qdt Tryd.underlying3 (m + 1) m _ _ (by omega) h1
  obtain ⟨a2, r2⟩ := trods_str Tryd.underlying9 (m + 1) m _ _ (by omega) h2
  exact ⟨⟨a0, a1, a2⟩, rd_st (qdq (k := 1) r0 (qdq (k := 1) r1 (qdq (k := 1) r2 (rdS_end (by omega)))))⟩
theorem trods_vals (N : Nat) : Trods enc Tryd.prog w sp hd 33 (fun l : List Val => D.sl (l.map Val.d)) N := fun n cs x hn h =>
  trods_sl Tryd.underlying33 (sz := 3) (by kernel_rfl) (by omega) Val.width (trods_val N) n cs x (by omega) h
end
end Go.Proofs.YtnkakofcejkhiaaDoor

/- Readings of the statement's arguments of layer 16. -/
namespace Go.Proofs.YtnkakofcejkhiaaDoor
open Go.RowKit Go.Lib
section
variable {H : Type} {enc : TypeId × Value → H} {w : World} {sp : Nat → Bool} {hd : Bool}
theorem trods_ex : ∀ N : Nat, Trods enc Tryd.prog w sp hd 52 Ex.d N := by
  intro N
  induction N with
  | zero => intro n cs x hn; omega
  | succ N ih =>
    intro n cs x hn h
    obtain ⟨xs, m, rfl, -, hlen, hl2, hf⟩ := DataW.trod_struct Tryd.underlying52 h
    have hc3 : Tryd.prog.cellsOf 3 = 1 := by kernel_rfl
    have hc9 : Tryd.prog.cellsOf 9 = 1 := by kernel_rfl
    have hcl : Tryd.prog.cellsOf 50 = 1 := by kernel_rfl
    have hc : Tryd.prog.cellsOf 52 = 4 := by kernel_rfl
    rw [hc] at hlen
    obtain ⟨y0, h0⟩ := qbv 0 3 0 1 hl2 hf ⟨_, rfl, rfl, rfl⟩ hc3
    obtain ⟨y1, h1⟩ := qbv 1 3 1 1 hl2 hf ⟨_, rfl, rfl, rfl⟩ hc3
    obtain ⟨y2, h2⟩ := qbv 2 9 2 1 hl2 hf ⟨_, rfl, rfl, rfl⟩ hc9
    obtain ⟨y3, h3⟩ := qbv 3 50 3 1 hl2 hf ⟨_, rfl, rfl, rfl⟩ hcl
    obtain ⟨a0, r0⟩ := qdt Tryd.underlying3 (m + 1) m _ _ (by omega) h0
    obtain ⟨a1, r1⟩ := qdt Tryd.underlying3 (m + 1) m _ _ (by omega) h1
    obtain ⟨a2, r2⟩ := trods_str Tryd.underlying9 (m + 1) m _ _ (by omega) h2
    obtain ⟨a3, r3⟩ := trods_sl Tryd.underlying50 hc (by omega) Ex.width ih m _ _ (by omega) h3
    refine ⟨.mk a0 a1 a2 a3, ?_⟩
    rw [Ex.d, Ex.ds_map]
    exact rd_st (qdq (k := 1) r0 (qdq (k := 1) r1 (qdq (k := 1) r2 (qdq (k := 1) r3 (rdS_end (by omega))))))
theorem trods_ints (N : Nat) : Trods enc Tryd.prog w sp hd 23 (fun l : List Int => D.sl (l.map D.int)) N := fun n cs x hn h =>
  trods_sl Tryd.underlying23 (sz := 1) (by kernel_rfl) (by omega) (fun _ => rfl) (qdt Tryd.underlying3 N) n cs x (by omega) h
theorem trods_fn (N : Nat) : Trods enc Tryd.prog w sp hd 90 Fn.d N := by
  intro n cs x hn h
  obtain ⟨xs, m, rfl, -, hlen, hl2, hf⟩ := DataW.trod_struct Tryd.underlying90 h
  have hc3 : Tryd.prog.cellsOf 3 = 1 := by kernel_rfl
  have hc9 : Tryd.prog.cellsOf 9 = 1 := by kernel_rfl
  have hcl : Tryd.prog.cellsOf 23 = 1 := by kernel_rfl
  have hce : Tryd.prog.cellsOf 52 = 4 := by kernel_rfl
  have hc : Tryd.prog.cellsOf 90 = 7 := by kernel_rfl
  rw [hc] at hlen
  obtain ⟨y0, h0⟩ := qbv 0 9 0 1 hl2 hf ⟨_, rfl, rfl, rfl⟩ hc9
  obtain ⟨y1, h1⟩ := qbv 1 23 1 1 hl2 hf ⟨_, rfl, rfl, rfl⟩ hcl
  obtain ⟨y2, h2⟩ := qbv 2 3 2 1 hl2 hf ⟨_, rfl, rfl, rfl⟩ hc3
  obtain ⟨y3, h3⟩ := qbv 3 52 3 4 hl2 hf ⟨_, rfl, rfl, rfl⟩ hce
  obtain ⟨a0, r0⟩ := trods_str Tryd.underlying9 (m + 1) m _ _ (by omega) h0
  obtain ⟨a1, r1⟩ := trods_ints (m + 1) m _ _ (by omega) h1
  obtain ⟨a2, r2⟩ := qdt Tryd.underlying3 (m + 1) m _ _ (by omega) h2
  obtain ⟨a3, r3⟩ := trods_ex (m + 1) m _ _ (by omega) h3
  exact ⟨⟨a0, a1, a2, a3⟩, rd_st (qdq (k := 1) r0 (qdq (k := 1) r1 (qdq (k := 1) r2 (qdq (k := 4) r3 (rdS_end (by omega))))))⟩
theorem trods_fns (N : Nat) : Trods enc Tryd.prog w sp hd 61 (fun l : List Fn => D.sl (l.map Fn.d)) N := fun n cs x hn h =>
  trods_sl Tryd.underlying61 (sz := 7) (by kernel_rfl) (by omega) Fn.width (trods_fn N) n cs x (by omega) h
end
end Go.Proofs.YtnkakofcejkhiaaDoor

/- What the bound of an '..Upto' statement gives: few parts, few values; and numbers that are ints. -/
namespace Go.Proofs.YtnkakofcejkhiaaDoor
open Go.RowKit Go.Lib
theorem bulk_one {H : Type} (d : DataW H) : 1 ≤ Rows.uptoBulk d := by
  cases d with
  | lit l => cases l <;> simp [Rows.uptoBulk]
  | nil => simp [Rows.uptoBulk]
  | ptr d => simp [Rows.uptoBulk]
  | slice elems spare => simp [Rows.uptoBulk]
  | agg parts => simp [Rows.uptoBulk]
  | iface t d => simp [Rows.uptoBulk]
  | map entries => simp [Rows.uptoBulk]
  | held h => simp [Rows.uptoBulk]
theorem bulk_len {H : Type} (l : List (DataW H)) : l.length ≤ Rows.uptoBulkAll l := by
  induction l with
  | nil => simp [Rows.uptoBulkAll]
  | cons x r ih => have := bulk_one x; simp only [Rows.uptoBulkAll, List.length_cons]; omega
theorem bulk_sum {α : Type} {H : Type} {g : α → Nat} : ∀ {l : List α} {E : List (DataW H)}, l.length = E.length → (∀ i (h : i < l.length) (h2 : i < E.length), g l[i] ≤ Rows.uptoBulk E[i]) → (l.map g).sum ≤ Rows.uptoBulkAll E
  | [], _, _, _ => by simp
  | a :: l, [], h, _ => by simp at h
  | a :: l, d :: E, h, hg => by
    have h1 := hg 0 (by simp) (by simp)
    have h2 := bulk_sum (l := l) (E := E) (by simpa using h) fun i hi hi2 => hg (i + 1) (by simpa using hi) (by simpa using hi2)
    simp only [List.getElem_cons_zero] at h1
    simp only [List.map_cons, List.sum_cons, Rows.uptoBulkAll]
    omega
theorem cellsAt_eq {w : World} {b : Nat} : ∀ {cs cs' : List Value} {off : Nat}, qbf w b off cs → qbf w b off cs' → cs.length = cs'.length → cs = cs'
  | [], [], _, _, _, _ => rfl
  | [], _ :: _, _, _, _, h => by simp at h
  | _ :: _, [], _, _, _, h => by simp at h
  | v :: cs, v' :: cs', off, h1, h2, h => by
    have e1 : v = v' := by have := h1.1.symm.trans h2.1; exact Option.some.inj this
    rw [e1, cellsAt_eq h1.2 h2.2 (by simpa using h)]
theorem cells_len {w : World} {base : Nat} {a : Addr} {n : Nat} {cs : List Value} (h : w.cells? base a n = some cs) : cs.length = n := by
  unfold World.cells? at h
  split at h
  · have := mapM_some_length h
    simpa using this
  · cases h
section
variable {H : Type} {enc : TypeId × Value → H} {P : Program} {w : World} {sp : Nat → Bool} {hd : Bool}
theorem sl_bulk {t e : TypeId} {α : Type} {f : α → D} {sz n : Nat} {Q : α → Prop} {g : α → Nat} {l : List α} {cs : List Value} {x : DataW H × List MemPlace} (ht : P.underlying t = some (.slice e)) (hc : P.cellsOf e = sz) (hsz : 0 < sz) (hw : ∀ x, (f x).width = sz)
    (hr : Rd w Any (.sl (l.map f)) cs) (h : DataW.trod enc P w 0 sp hd n t cs = some x)
    (hel : ∀ a ∈ l, ∀ n c y, Rd w Any (f a) c → DataW.trod enc P w 0 sp hd n e c = some y → Q a ∧ g a ≤ Rows.uptoBulk y.1) :
    (∀ a ∈ l, Q a) ∧ (l.map g).sum + 1 ≤ Rows.uptoBulk x.1 ∧ l.length + 1 ≤ Rows.uptoBulk x.1 := by
  rw [Rd] at hr
  obtain ⟨A, cap', b, off, rfl, -, -, hA, hm⟩ := hr
  rw [List.length_map] at hA h
  rcases DataW.trod_slice ht h with ⟨h1, rfl⟩ | ⟨a, len, cap, elems, rest, m, rfl, h1, rfl, -, -, -, hlen, hel2, -, -⟩
  · have : l.length = 0 := by
      injection h1 with h2 _
      injection h2
    obtain rfl := List.eq_nil_of_length_eq_zero this
    simp [Rows.uptoBulk]
  · have h2 : Value.slice A l.length cap' = Value.slice (some a) len cap := by simpa using h1
    injection h2 with h3 h4 h5
    have hlen2 : l.length = elems.length := by rw [hlen]; omega
    have key : ∀ i (hi : i < l.length) (hi2 : i < elems.length), Q l[i] ∧ g l[i] ≤ Rows.uptoBulk elems[i].1 := fun i hi hi2 => by
      have h6 := hel2 i (by omega)
      rw [hc, List.getElem?_eq_getElem hi2] at h6
      obtain ⟨cs', h7, h8⟩ := Option.bind_eq_some_iff.1 h6
      obtain ⟨h9, h10⟩ := cells_open h7 hsz
      obtain ⟨c2, h11, h12⟩ := RdM.get (sz := sz) _ b off hm (fun d hd => by obtain ⟨a, -, rfl⟩ := List.mem_map.1 hd; exact hw a) i (by simpa using hi)
      rw [List.getElem_map] at h12
      obtain ⟨hAe, -⟩ := hA (by omega)
      rw [h3] at hAe
      obtain rfl : a = ⟨b, off, none⟩ := Option.some.inj hAe
      have e1 : c2 = cs' := cellsAt_eq h11 (by rw [qbm] at h10; exact h10) (by
        rw [Rd.length _ _ h12, hw]
        exact (cells_len h7).symm)
      subst e1
      exact hel _ (List.getElem_mem hi) _ _ _ h12 h8
    refine ⟨fun a ha => ?_, ?_, ?_⟩
    · obtain ⟨i, hi, rfl⟩ := List.mem_iff_getElem.1 ha
      exact (key i hi (by omega)).1
    · have := bulk_sum (g := g) (l := l) (E := elems.map (·.1)) (by simpa using hlen2) fun i hi hi2 => by
        rw [List.getElem_map]; exact (key i hi (by simpa using hi2)).2
      simp only [Rows.uptoBulk]; omega
    · have := bulk_len (elems.map (·.1))
      rw [List.length_map] at this
      simp only [Rows.uptoBulk]; omega
theorem qfa {fs : Array Field} {n : Nat} {cs : List Value} {xs : List (DataW H × List MemPlace)} (i : Nat) (T : TypeId) (o k : Nat)
    (hf : ∀ (i : Nat) (f : Field), fs[i]? = some f → DataW.trod enc P w 0 sp hd n f.type ((cs.drop f.offset).take (P.cellsOf f.type)) = xs[i]?)
    (hi : ∃ f : Field, fs[i]? = some f ∧ f.type = T ∧ f.offset = o) (hk : P.cellsOf T = k) : DataW.trod enc P w 0 sp hd n T ((cs.drop o).take k) = xs[i]? := by
  obtain ⟨f, hi, rfl, rfl⟩ := hi
  subst hk
  exact hf i f hi
theorem ex_bulk : ∀ (e : Ex) (n : Nat) (cs : List Value) (x : DataW H × List MemPlace), Rd w Any e.d cs → DataW.trod enc Tryd.prog w 0 sp hd n 52 cs = some x → n64 e ∧ 5 * parts e ≤ Rows.uptoBulk x.1 := fun e => by
  induction e using Ex.ind with
  | h o nn s l ih =>
    intro n cs x hr h
    obtain ⟨A, cap, b, off, rfl, hl1, hl2, hl3, hm⟩ := Ex.open hr
    simp only [Ex.args, Ex.op, Ex.n, Ex.s] at hl1 hl2 hl3 hm h
    have hsl : Rd w Any (.sl (l.map Ex.d)) [.slice A l.length cap] := by
      rw [Rd]; exact ⟨A, cap, b, off, by rw [List.length_map], by rw [List.length_map]; exact hl1, hl2, by rw [List.length_map]; exact hl3, hm⟩
    obtain ⟨xs, m, rfl, rfl, hlen, hx4, hf⟩ := DataW.trod_struct Tryd.underlying52 h
    have hc3 : Tryd.prog.cellsOf 3 = 1 := by kernel_rfl
    have hc9 : Tryd.prog.cellsOf 9 = 1 := by kernel_rfl
    have hcl : Tryd.prog.cellsOf 50 = 1 := by kernel_rfl
    have hc : Tryd.prog.cellsOf 52 = 4 := by kernel_rfl
    have hx4' : xs.length = 4 := hx4
    match xs, hx4' with
    | [y0, y1, y2, y3], _ =>
      have h1 : DataW.trod enc Tryd.prog w 0 sp hd m 3 [.int .i64 nn] = some y1 := qfa 1 3 1 1 hf ⟨_, rfl, rfl, rfl⟩ hc3
      have h2 : DataW.trod enc Tryd.prog w 0 sp hd m 9 [.string s] = some y2 := qfa 2 9 2 1 hf ⟨_, rfl, rfl, rfl⟩ hc9
      have h3 : DataW.trod enc Tryd.prog w 0 sp hd m 50 [.slice A l.length cap] = some y3 := qfa 3 50 3 1 hf ⟨_, rfl, rfl, rfl⟩ hcl
      obtain ⟨k, hk1, -, hk2⟩ := DataW.trod_int Tryd.underlying3 h1
      obtain ⟨s2, hs1, -, hs2⟩ := DataW.trod_string Tryd.underlying9 h2
      obtain rfl : nn = k := by simpa using hk1
      obtain rfl : s = s2 := by simpa using hs1
      obtain ⟨g1, g2, -⟩ := sl_bulk (Q := n64) (g := fun e => 5 * parts e) Tryd.underlying50 hc (by omega) Ex.width hsl h3 fun a ha n c y hr hy => ih a ha n c y hr hy
      have hi : I64 nn := by
        have e1 : IntKind.i64.min = -9223372036854775808 := by decide
        have e2 : IntKind.i64.max = 9223372036854775807 := by decide
        simpa [Lit.wf, e1, e2, I64] using hk2
      refine ⟨qcq.2 ⟨⟨hi, by unfold maxLen at hs2; omega⟩, g1⟩, ?_⟩
      have hp : ∀ l : List Ex, (l.map fun e => 5 * parts e).sum = 5 * qu l := fun l => by
        induction l with
        | nil => rw [qu]; rfl
        | cons a l ih => rw [List.map_cons, List.sum_cons, qu, ih]; omega
      rw [hp] at g2
      have b0 := bulk_one y0.1
      have b1 := bulk_one y1.1
      have b2 := bulk_one y2.1
      rw [parts]
      simp only [List.map_cons, List.map_nil, Rows.uptoBulk, Rows.uptoBulkAll]
      omega
theorem fn_bulk (f : Fn) (n : Nat) (cs : List Value) (x : DataW H × List MemPlace) (hr : Rd w Any f.d cs) (h : DataW.trod enc Tryd.prog w 0 sp hd n 90 cs = some x) : n64 f.body ∧ 5 * parts f.body ≤ Rows.uptoBulk x.1 := by
  have hb : Rd w Any f.body.d ((cs.drop 3).take 4) := by
    obtain ⟨A1, cap1, b1, off1, A2, cap2, b2, off2, rfl, -, -, -, -, g1, g2, g3, g4⟩ := Fn.open hr
    exact Ex.mk_rd g1 g2 g3 g4
  obtain ⟨xs, m, rfl, rfl, hlen, hx4, hf⟩ := DataW.trod_struct Tryd.underlying90 h
  have hce : Tryd.prog.cellsOf 52 = 4 := by kernel_rfl
  have hx4' : xs.length = 4 := hx4
  match xs, hx4' with
  | [y0, y1, y2, y3], _ =>
    have h3 : DataW.trod enc Tryd.prog w 0 sp hd m 52 ((cs.drop 3).take 4) = some y3 := qfa 3 52 3 4 hf ⟨_, rfl, rfl, rfl⟩ hce
    obtain ⟨g1, g2⟩ := ex_bulk f.body m _ y3 hb h3
    refine ⟨g1, ?_⟩
    simp only [List.map_cons, List.map_nil, Rows.uptoBulk, Rows.uptoBulkAll]
    omega
theorem val_bulk (v : Val) (n : Nat) (cs : List Value) (x : DataW H × List MemPlace) (_hr : Rd w Any v.d cs) (h : DataW.trod enc Tryd.prog w 0 sp hd n 39 cs = some x) : True ∧ 4 ≤ Rows.uptoBulk x.1 := by
  obtain ⟨xs, m, rfl, rfl, hlen, hx3, hf⟩ := DataW.trod_struct Tryd.underlying39 h
  have hx3' : xs.length = 3 := hx3
  have := bulk_len (xs.map (·.1))
  rw [List.length_map] at this
  refine ⟨trivial, ?_⟩
  simp only [Rows.uptoBulk]; omega
end
end Go.Proofs.YtnkakofcejkhiaaDoor

/- Lifting a law: the arguments' readings, and what the listed variables hold. -/
namespace Go.Proofs.YtnkakofcejkhiaaDoor
open Go.ChangeShapes Go.WideShapes Go.ChangeAt Go.RowKit Go.Lib
section
variable {H : Type} {enc : TypeId × Value → H}
end
theorem flat_int02 {w : World} {n : Int} : RR1 (St.flat w) (.int n) (.int .i64 n) := by
  show RC _ _ _
  rw [RC]
section
variable {H : Type} {enc : TypeId × Value → H} {w w0 : World} {sp : Nat → Bool} {hd : Bool} {b0 : Nat} {t : TypeId} {v : Value}
theorem par_intR {P : Program} (ht : P.underlying t = some (.int .i64)) (hval : Value.okWide P w0 .any b0 t v) : ∃ n, v = .int .i64 n ∧ (-9223372036854775808 ≤ n ∧ n ≤ 9223372036854775807) := by
  obtain ⟨n, rfl⟩ := okWide_int ht hval
  refine ⟨n, rfl, ?_⟩
  unfold Value.okWide at hval
  rw [ht] at hval
  dsimp only at hval
  unfold Cell.okWide at hval
  rw [ht] at hval
  dsimp only at hval
  unfold Cell.ok at hval
  rw [ht] at hval
  exact ⟨hval.2.1, hval.2.2⟩
end
section
variable {H : Type} {enc : TypeId × Value → H} {P : Program} {w : World} {base : Nat} {spare : Nat → Bool} {held : Bool} {t0 t1 t2 t3 : TypeId} {args : Array Value} {ds : List (DataW H)} {ps : List MemPlace}
end
theorem var_block {P : Program} {w : World} {n : String} {g : Nat} {cs : Array Value} (hg : P.globalNamed n = some g) (h : w.var? P n = some cs) : ∃ t fz, w.heap[g]? = some (.cells cs t fz) := by
  unfold World.var? at h
  rw [hg] at h
  dsimp only [Option.bind] at h
  split at h
  · rename_i cs' t fz he
    cases h
    exact ⟨t, fz, he⟩
  · cases h
theorem globS_flat {w : World} {b : Nat} {cs : List Value} (h : ∃ t fz, w.heap[b]? = some (.cells cs.toArray t fz)) (hne : cs ≠ []) : GlobS (St.flat w) b 0 cs := by
  obtain ⟨t, fz, hb⟩ := h
  refine ⟨qee _ 0 fun j u hj => ⟨?_, ?_⟩, ⟨t, fz, hb⟩, (fun r hr => by cases hr), hne⟩
  · show World.cell? w _ = _
    simp [World.cell?, hb, hj]
  · exact (Array.getElem?_eq_some_iff.1 hb).1
def tabS {H : Type} (zs : List ByteArray) : DataW H := .agg (zs.map fun z => .lit (.string z.data.toList))
theorem cells_of_tabS {H : Type} {enc : TypeId × Value → H} {P : Program} {w : World} {base : Nat} {sp : Nat → Bool} {held : Bool} {fuel : Nat} {t e : TypeId} {n : Nat} {cs : List Value} {zs : List ByteArray} {p : List MemPlace}
    (ht : P.underlying t = some (.array n e)) (he : P.underlying e = some .string) (hce : P.cellsOf e = 1) (hct : P.cellsOf t = n)
    (h : DataW.trod enc P w base sp held fuel t cs = some (tabS zs, p)) : cs = zs.map fun z => Value.string z := by
  obtain ⟨xs, m, rfl, hx, hl, hxl, hf⟩ := DataW.trod_array ht h
  rw [hct] at hl
  have hxs : xs.map (·.1) = zs.map fun z => (DataW.lit (.string z.data.toList) : DataW H) := by
    have := congrArg Prod.fst hx
    simpa [tabS] using this.symm
  have hzl : zs.length = n := by
    have := congrArg List.length hxs
    simp at this
    omega
  apply List.ext_getElem?
  intro i
  by_cases hi : i < n
  · have hi2 := hf i hi
    rw [List.getElem?_eq_getElem (by omega)] at hi2
    obtain ⟨s, hc, hxi, -⟩ := DataW.trod_string he hi2
    rw [hce, Nat.mul_one] at hc
    have h1 : cs[i]? = some (.string s) := by
      have := congrArg (·[0]?) hc
      simpa [List.getElem?_take, List.getElem?_drop] using this
    have h2 : (xs.map (·.1))[i]? = some (DataW.lit (.string s.data.toList) : DataW H) := by
      rw [List.getElem?_map, List.getElem?_eq_getElem (by omega), hxi]; rfl
    rw [hxs] at h2
    simp only [List.getElem?_map, Option.map_eq_some_iff, DataW.lit.injEq, Lit.string.injEq] at h2
    obtain ⟨z', hz', hzz⟩ := h2
    have hz3 : z' = s := by
      cases z'; cases s; simp at hzz; rw [hzz]
    subst hz3
    simp [h1, hz']
  · rw [List.getElem?_eq_none (by omega), List.getElem?_eq_none (by simp; omega)]
end Go.Proofs.YtnkakofcejkhiaaDoor

/- api.Delta as an abstract value. -/
namespace Go.Proofs.YtnkakofcejkhiaaDoor
open Go.RowKit Go.Lib
def Delta.av (x : Delta) : AV := .agg [.int x.time, .sl (x.row.map Val.av), .int x.n]
@[simp] theorem Delta.av_nt (x : Delta) : x.av.nt = true := rfl
@[simp] theorem Delta.av_sure (x : Delta) : x.av.sure = true := rfl
@[simp] theorem Delta.av_elem (x : Delta) : x.av.elem = true := rfl
@[simp] theorem Delta.av_width (x : Delta) : x.av.width = 3 := rfl
@[simp] theorem Delta.av_pub (x : Delta) : x.av.pub = x.av := by unfold Delta.av; rw [AV.pub]; simp only [AV.pubs_cons, AV.pubs_nil, AV.pub_v, pubV, AV.pub_sl]
@[simp] theorem Delta.av_cells (x : Delta) : x.av.cells = [.int x.time, .sl (x.row.map Val.av), .int x.n] := rfl
@[simp] theorem Delta.av_fold (x : Delta) : AV.agg [.int x.time, .sl (x.row.map Val.av), .int x.n] = x.av := rfl
@[simp] theorem Delta.av_val? (x : Delta) : x.av.val? = none := rfl
@[simp] theorem Delta.rd_all (x : Delta) (σ : Nat → AB) : rdAt σ true 3 (.ep x.av 0) = some x.av := rfl
@[simp] theorem Delta.rd_0 (x : Delta) (σ : Nat → AB) (n : Nat) : rdAt σ false n (.ep x.av 0) = some (.int x.time) := rfl
@[simp] theorem Delta.rd_1 (x : Delta) (σ : Nat → AB) (n : Nat) : rdAt σ false n (.ep x.av 1) = some (.sl (x.row.map Val.av)) := rfl
@[simp] theorem Delta.rd_2 (x : Delta) (σ : Nat → AB) (n : Nat) : rdAt σ false n (.ep x.av 2) = some (.int x.n) := rfl
@[simp] theorem Delta.av_cl (x : Delta) (m : Nat) : x.av.cl m := by unfold Delta.av; simp [-Delta.av_fold]
@[simp] theorem Delta.avs_cl (l : List Delta) (m : Nat) : AV.cls m (l.map Delta.av) := AV.cls_map (fun f => f.av_cl m) l
@[simp] theorem Delta.avs_wid (l : List Delta) : AV.wid (l.map Delta.av) 3 := AV.wid_map (f := Delta.av) (fun a => a.av_width) l
@[simp] theorem Delta.avs_elms (l : List Delta) : AV.elms (l.map Delta.av) := AV.elms_map (f := Delta.av) (fun a => a.av_elem) l
theorem Delta.d_av (x : Delta) : x.d.av = x.av := by
  simp only [Delta.d, Delta.av, D.av, D.cs, D.avs_map, List.map_map, List.nil_append, List.cons_append, List.append_nil]
  rw [show D.av ∘ Val.d = Val.av from funext Val.d_av]
  try rfl
theorem Delta.ds_av (l : List Delta) : (D.sl (l.map Delta.d)).av = .sl (l.map Delta.av) := by
  rw [D.av, D.avs_map, List.map_map]
  first
  | rfl
  | (congr 1; exact List.map_congr_left fun x _ => x.d_av)
theorem Delta.flat {w : World} {x : Delta} {cs : List Value} (h : Rd w Any x.d cs) : RR1 (St.flat w) x.av (.agg cs.toArray) := by
  have := qdn h
  rw [Delta.d_av, Delta.av, RC] at this
  exact ⟨cs, rfl, this⟩
theorem Delta.flats {w : World} {l : List Delta} {v : Value} (h : Rd w Any (.sl (l.map Delta.d)) [v]) : RR1 (St.flat w) (.sl (l.map Delta.av)) v := by
  have := qdn h
  rw [Delta.ds_av] at this
  exact this
end Go.Proofs.YtnkakofcejkhiaaDoor

/- Readings of arguments: api.Delta. -/
namespace Go.Proofs.YtnkakofcejkhiaaDoor
open Go.RowKit Go.Lib
section
variable {H : Type} {enc : TypeId × Value → H} {w : World} {sp : Nat → Bool} {hd : Bool}
end
end Go.Proofs.YtnkakofcejkhiaaDoor

/- Readings of arguments: api.Ins. -/
namespace Go.Proofs.YtnkakofcejkhiaaDoor
open Go.RowKit Go.Lib
section
variable {H : Type} {enc : TypeId × Value → H} {w : World} {sp : Nat → Bool} {hd : Bool}
end
end Go.Proofs.YtnkakofcejkhiaaDoor

/- Readings of arguments: api.Code. -/
namespace Go.Proofs.YtnkakofcejkhiaaDoor
open Go.RowKit Go.Lib
section
variable {H : Type} {enc : TypeId × Value → H} {w : World} {sp : Nat → Bool} {hd : Bool}
end
end Go.Proofs.YtnkakofcejkhiaaDoor

/- What the row's variable holds at a law's entry: the table of names. -/
namespace Go.Proofs.YtnkakofcejkhiaaDoor
open Go.ChangeShapes Go.WideShapes Go.ChangeAt Go.RowKit Go.Lib
def namesZ : List ByteArray := qbe.map fun v => match v with | .string s => s | _ => ByteArray.empty
theorem glob27 {W : World} {laid : List (String × DataW Unit)} (hl : laidMet Tryd.prog laid W) (h1 : ("errata/code.names", Rows.laid_errata_code_names) ∈ laid) : globsOk (GlobS (St.flat W)) := by
  obtain ⟨g1, t1, c1, f1, p1, a1, b1, d1, e1⟩ := laidMet.reads hl h1
  obtain rfl : g1 = 0 := Option.some.inj (a1.symm.trans (by kernel_rfl))
  obtain rfl : t1 = 151 := Option.some.inj (b1.symm.trans (by kernel_rfl))
  have e2 : (Rows.laid_errata_code_names : DataW Unit) = tabS namesZ := by kernel_rfl
  rw [e2] at e1
  have y1 := cells_of_tabS (n := 23) (e := 9) Tryd.underlying151 Tryd.underlying9 (by kernel_rfl) (by kernel_rfl) e1
  have e3 : (namesZ.map fun z => Value.string z) = qbe := by kernel_rfl
  rw [e3] at y1
  refine ⟨⟨(), globS_flat ?_ (by simp [qbe])⟩, trivial⟩
  obtain ⟨t, fz, hb⟩ := var_block a1 d1
  exact ⟨t, fz, by rw [hb, ← y1]⟩
section
variable {H : Type} {enc : TypeId × Value → H} {w : World} {sp : Nat → Bool} {hd : Bool}
theorem trods_ints27 (N : Nat) : Trods enc Tryd.prog w sp hd 23 (fun l : List Int => D.sl (l.map D.int)) N := fun n cs x hn h =>
  trods_sl Tryd.underlying23 (sz := 1) (by kernel_rfl) (by omega) (fun _ => rfl) (qdt Tryd.underlying3 N) n cs x (by omega) h
end
theorem ints_av27 (l : List Int) : (D.sl (l.map D.int)).av = .sl (l.map AV.int) := by
  rw [D.av, D.avs_map, List.map_map]; rfl
theorem ints_flat27 {w : World} {l : List Int} {v : Value} (h : Rd w Any (.sl (l.map D.int)) [v]) : RR1 (St.flat w) (.sl (l.map AV.int)) v := by
  have := qdn h
  rw [ints_av27] at this
  exact this
end Go.Proofs.YtnkakofcejkhiaaDoor

/- The arguments of a law, five to seven of them. -/
namespace Go.Proofs.YtnkakofcejkhiaaDoor
open Go.ChangeShapes Go.WideShapes Go.ChangeAt Go.RowKit Go.Lib
section
variable {H : Type} {enc : TypeId × Value → H} {P : Program} {w : World} {base : Nat} {spare : Nat → Bool} {held : Bool} {t0 t1 t2 t3 t4 t5 t6 : TypeId} {args : Array Value} {ds : List (DataW H)} {ps : List MemPlace}
theorem trodAll_5_02 (h : DataW.TrodAll enc P w base spare held [t0, t1, t2, t3, t4] args.toList ds ps) :
    ∃ v0 v1 v2 v3 v4 d0 d1 d2 d3 d4 p0 p1 p2 p3 p4, args = #[v0, v1, v2, v3, v4] ∧ ds = [d0, d1, d2, d3, d4] ∧ ps = p0 ++ p1 ++ p2 ++ p3 ++ p4 ∧ DataW.Trod enc P w base spare held t0 v0 d0 p0 ∧ DataW.Trod enc P w base spare held t1 v1 d1 p1 ∧ DataW.Trod enc P w base spare held t2 v2 d2 p2 ∧ DataW.Trod enc P w base spare held t3 v3 d3 p3 ∧ DataW.Trod enc P w base spare held t4 v4 d4 p4 := by
  obtain ⟨v0, vs0, d0, ds0, p0, q0, hargs, rfl, rfl, h0, r0⟩ := trodAll_cons h
  obtain ⟨v1, vs1, d1, ds1, p1, q1, rfl, rfl, rfl, h1, r1⟩ := trodAll_cons r0
  obtain ⟨v2, vs2, d2, ds2, p2, q2, rfl, rfl, rfl, h2, r2⟩ := trodAll_cons r1
  obtain ⟨v3, vs3, d3, ds3, p3, q3, rfl, rfl, rfl, h3, r3⟩ := trodAll_cons r2
  obtain ⟨v4, vs4, d4, ds4, p4, q4, rfl, rfl, rfl, h4, r4⟩ := trodAll_cons r3
  obtain ⟨rfl, rfl, rfl⟩ := trodAll_nil r4
  exact ⟨v0, v1, v2, v3, v4, d0, d1, d2, d3, d4, p0, p1, p2, p3, p4, by cases args; simp_all, rfl, by simp, h0, h1, h2, h3, h4⟩
end
end Go.Proofs.YtnkakofcejkhiaaDoor

/- The law CompileMeans where what it reads is of bulk at most 1048576, lifted: the row and the tied card. -/
namespace Go.Proofs.YtnkakofcejkhiaaDoor
open Go.ChangeShapes Go.WideShapes Go.ChangeAt Go.RowKit Go.Lib
theorem fns_flat26 {w : World} {l : List Fn} {v : Value} (h : Rd w Any (.sl (l.map Fn.d)) [v]) : RR1 (St.flat w) (.sl (l.map Fn.av)) v := by
  have := qdn h
  rw [fns_av] at this
  exact this
theorem ex_flat26 {w : World} {e : Ex} {cs : List Value} (h : Rd w Any e.d cs) : RR1 (St.flat w) e.av (.agg cs.toArray) := by
  have := qdn h
  rw [Ex.d_av, Ex.av_eq, RC] at this
  rw [Ex.av_eq]
  exact ⟨cs, rfl, this⟩
theorem mem_sum26 {α : Type} {g : α → Nat} : ∀ {l : List α} {a : α}, a ∈ l → g a ≤ (l.map g).sum
  | [], _, h => by cases h
  | b :: l, a, h => by
    rw [List.map_cons, List.sum_cons]
    rcases List.mem_cons.1 h with rfl | h
    · omega
    · have := mem_sum26 (g := g) h; omega
theorem sum_four : ∀ {α : Type} (l : List α), (l.map fun _ => 4).sum = 4 * l.length
  | _, [] => rfl
  | _, _ :: l => by rw [List.map_cons, List.sum_cons, sum_four l, List.length_cons]; omega
noncomputable def means26W (os : Os) : World := World.laidAll Tryd.prog os Rows.compileMeansUptoRow.laid
def means26A : Array Value := #[.slice .none 0 0, .slice .none 0 0, .agg #[.int .i64 0, .int .i64 0, .string ByteArray.empty, .slice .none 0 0], .int .i64 0, .slice .none 0 0]
theorem means26_reads (os : Os) {H : Type} (enc : TypeId × Value → H) : ∃ places, DataW.whole enc Tryd.prog ((means26W os).forCall (fun _ _ => 0) ⟨#[], means26A, []⟩).memory Tryd.f7.params.toList Rows.compileMeansSpec.vars false means26A.toList 8 = some ([.nil, .nil, .agg [.lit (.int .i64 0), .lit (.int .i64 0), .lit (.string []), .nil], .lit (.int .i64 0), .nil], [], places) :=
  ⟨[], by kernel_rfl⟩
theorem means26_laid (os : Os) : laidMet Tryd.prog Rows.compileMeansUptoRow.laid ((means26W os).forCall (fun _ _ => 0) ⟨#[], means26A, []⟩).memory :=
  laidMet_of_run' 8 (by kernel_rfl) (by kernel_rfl)
set_option maxRecDepth 100000 in
theorem means26_lifted (os : Os) (started : os.Started) (H : Type) (enc : TypeId × Value → H) (F : Stop.Interp) :
    ReturnsInHanded {} Tryd.checked os 7 .any ((Rows.OpenSpec.upto Rows.compileMeansSpec).preRow enc Tryd.prog Tryd.f7 Rows.compileMeansUptoRow.domain false Rows.compileMeansUptoRow.laid) (((Rows.OpenSpec.upto Rows.compileMeansSpec).at F).post enc Tryd.prog Tryd.f7 false true false false) := by
  obtain ⟨places, hx⟩ := means26_reads os enc
  refine returnsInHanded_of_row (C := Tryd.checked) (s := Rows.OpenSpec.upto Rows.compileMeansSpec) Tryd.own started (by kernel_rfl) Tryd.func7
    (witness_row_at (enc := enc) (C := Tryd.checked) false (means26W os) means26A (World.laidAll_os _ _ _) (by kernel_rfl) (by kernel_rfl) (by kernel_rfl)
      (OpenSpec.preRow_of_cond 8 hx (by kernel_rfl) (fun k hk => by cases hk; kernel_rfl) (by kernel_rfl) (means26_laid os))) ?_
  intro W base args ds gs before hval0 hW _ hcond _ hlaid _ _
  rw [MakeChecks.laidMetH_plain _ _ _ (by kernel_rfl)] at hlaid
  have hglob := glob27 hlaid (by simp [Rows.compileMeansUptoRow])
  have hval : ∀ (j : Nat) t v, Tryd.f7.params[j]? = some t → args[j]? = some v → Value.okWide Tryd.prog W .any base t v := hval0
  have hW' := hW
  obtain ⟨p, q, hA0, hV, rfl, hfz, hnd⟩ := hW
  have hA : DataW.TrodAll enc Tryd.prog W 0 (fun _ => true) true Tryd.f7.params.toList args.toList ds p := hA0
  rw [Tryd.params7] at hA hval
  obtain ⟨v0, v1, v2, v3, v4, d0, d1, d2, d3, d4, p0, p1, p2, p3, p4, rfl, rfl, rfl, h0, h1, h2, h3, h4⟩ := trodAll_5_02 hA
  obtain ⟨rfl, rfl⟩ := trodVars_none hV
  have hb0 : Rows.uptoSmall H ([d0, d1, d2, d3, d4] ++ []) = true := hcond _ rfl
  have hb : Rows.uptoBulkAll ([d0, d1, d2, d3, d4] ++ []) ≤ 1048576 := of_decide_eq_true hb0
  simp only [List.append_nil, Rows.uptoBulkAll] at hb
  obtain ⟨x0, r0⟩ := par_sl Tryd.underlying61 (hval 0 _ v0 rfl rfl) h0 trods_fns
  obtain ⟨x1, r1⟩ := par_sl Tryd.underlying23 (hval 1 _ v1 rfl rfl) h1 trods_ints27
  obtain ⟨x2, cs2, rfl, r2⟩ := par_st Tryd.underlying52 (hval 2 _ v2 rfl rfl) h2 trods_ex
  obtain ⟨x3, rfl, r3⟩ := par_intR Tryd.underlying3 (hval 3 _ v3 rfl rfl)
  obtain ⟨x4, r4⟩ := par_sl Tryd.underlying33 (hval 4 _ v4 rfl rfl) h4 trods_vals
  have s0 : (∀ f ∈ x0, n64 f.body) ∧ (x0.map fun f => 5 * parts f.body).sum + 1 ≤ Rows.uptoBulk d0 ∧ x0.length + 1 ≤ Rows.uptoBulk d0 := by
    obtain ⟨A, n, c, rfl⟩ := okWide_slice Tryd.underlying61 (hval 0 _ v0 rfl rfl)
    obtain ⟨k, t⟩ := h0
    exact sl_bulk (Q := fun f => n64 f.body) (g := fun f => 5 * parts f.body) Tryd.underlying61 (by kernel_rfl) (by omega) Fn.width r0 t fun f _ n c y hr hy => fn_bulk f n c y hr hy
  have s2 : n64 x2 ∧ 5 * parts x2 ≤ Rows.uptoBulk d2 := by
    obtain ⟨k, t⟩ := h2
    exact ex_bulk x2 k cs2 _ r2 t
  have s4 : (∀ v ∈ x4, True) ∧ (x4.map fun _ => 4).sum + 1 ≤ Rows.uptoBulk d4 ∧ x4.length + 1 ≤ Rows.uptoBulk d4 := by
    obtain ⟨A, n, c, rfl⟩ := okWide_slice Tryd.underlying33 (hval 4 _ v4 rfl rfl)
    obtain ⟨k, t⟩ := h4
    exact sl_bulk (Q := fun _ => True) (g := fun _ => 4) Tryd.underlying33 (by kernel_rfl) (by omega) Val.width r4 t fun f _ n c y hr hy => val_bulk f n c y hr hy
  rw [sum_four] at s4
  refine (calls_of_gives (vals := [v0, v1, .agg cs2.toArray, .int .i64 x3, v4]) (means26_g x0 x1 x2 x3 x4 (by omega) (fun f hf => by
    have := mem_sum26 (g := fun f : Fn => 5 * parts f.body) hf; omega) (by omega) (by omega) s2.1 s0.1) ⟨_, _, rfl, fns_flat26 r0, _, _, rfl, ints_flat27 r1, _, _, rfl, ex_flat26 r2, _, _, rfl, flat_int02, _, _, rfl, Val.flats r4, rfl⟩ hglob).mono ?_
  rintro r W' ⟨rfl, hb⟩
  exact ⟨_, rfl, law_post (P := Tryd.prog) Tryd.laidOut hW' rfl rfl (by kernel_rfl) Tryd.underlying4 (by kernel_rfl) hb⟩
theorem compileMeansUpto_row : Rows.CompileMeansUptoSaid :=
  OpenClaim.holds_of_cond 7 Tryd.f7 rfl rfl rfl rfl rfl rfl rfl ⟨rfl, rfl, rfl, rfl, rfl⟩ rfl rfl rfl rfl rfl (by kernel_rfl) Tryd.func7 (by kernel_rfl)
    (of_decide_eq_true (by kernel_rfl)) (by unfold Func.isWrapper; first | (rw [if_pos (by decide +kernel)]; kernel_rfl) | (rw [if_neg (by decide +kernel)]; exact ⟨rfl, rfl⟩))
    (fun os started H enc _ F => by rw [OpenClaim.pre_eq_preRow]; exact means26_lifted os started H enc F)
theorem compileMeansUpto_holds : Rows.CompileMeansUptoCardSaid :=
  Claim7.holds_tied_plain_at .later [] _ _ _ _ compileMeansUpto_row (fun _ h => by cases h) (by kernel_rfl) (fun _ h => by cases h) compileMeansUpto_row_tie rfl ⟨rfl, rfl⟩ (by kernel_rfl) rfl
    (fun f fn hf hfn => by
      obtain rfl : f = 7 := Option.some.inj ((show Tryd.prog.funcNamed "errata/erratalaw26.CompileMeans" = some 7 by kernel_rfl).symm.trans hf) |>.symm
      obtain rfl : fn = Tryd.f7 := (Option.some.inj (Tryd.func7.symm.trans hfn)).symm
      exact ⟨by kernel_rfl, fun j t ht => by
        rw [Tryd.params7] at ht
        have hm : t ∈ [61, 23, 52, 3, 33] := by simpa using Array.mem_of_getElem? ht
        have hall : ([61, 23, 52, 3, 33].all fun u => !Tryd.prog.wantsStandIn u) = true := by kernel_rfl
        exact (show Tryd.prog.wantsStandIn t = false by simpa using List.all_eq_true.1 hall t hm)⟩)
    (by kernel_rfl)
end Go.Proofs.YtnkakofcejkhiaaDoor
