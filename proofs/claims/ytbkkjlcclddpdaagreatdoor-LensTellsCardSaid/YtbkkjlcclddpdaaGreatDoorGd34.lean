/- Walk of layer 14: the examples of the documentation. -/
import Derived.Test.YtbkkjlcclddpdaaGreatDoorGd6
import Derived.Test.YtbkkjlcclddpdaaGreatDoorGd10
import Derived.Test.YtbkkjlcclddpdaaGreatDoorGd24
import Derived.Test.YtbkkjlcclddpdaaGreatDoorGd30
import Derived.Test.YtbkkjlcclddpdaaGreatDoorGd31
import Derived.Test.YtbkkjlcclddpdaaGreatDoorGd32
import Derived.Test.YtbkkjlcclddpdaaGreatDoorGd33
set_option linter.unusedSimpArgs false
set_option linter.unusedVariables false
namespace Go.Proofs.YtbkkjlcclddpdaaGreatDoor
open Go.RowKit Go.Lib
def exS1 : ByteArray := ⟨#[115, 112, 108, 105, 116, 32, 110, 97, 109, 101, 32, 34, 32, 34, 32, 102, 105, 114, 115, 116, 32, 108, 97, 115, 116, 10]⟩
def exS2 : ByteArray := ⟨#[115, 99, 97, 108, 101, 32, 119, 32, 49, 48, 48, 48, 32, 103, 10]⟩
def exX1 : Lens := ⟨3, ⟨#[110, 97, 109, 101]⟩, ⟨#[102, 105, 114, 115, 116]⟩, ⟨#[108, 97, 115, 116]⟩, ⟨#[32]⟩, 0, ⟨0, 0, ⟨#[]⟩⟩⟩
def exX2 : Lens := ⟨6, ⟨#[119]⟩, ⟨#[103]⟩, ⟨#[]⟩, ⟨#[]⟩, 1000, ⟨0, 0, ⟨#[]⟩⟩⟩
def exC1 : List Col := [⟨⟨#[105, 100]⟩, 0, ⟨#[]⟩⟩, ⟨⟨#[110, 97, 109, 101]⟩, 1, ⟨#[]⟩⟩]
def exC2 : List Col := [⟨⟨#[105, 100]⟩, 0, ⟨#[]⟩⟩, ⟨⟨#[102, 105, 114, 115, 116]⟩, 1, ⟨#[]⟩⟩, ⟨⟨#[108, 97, 115, 116]⟩, 1, ⟨#[]⟩⟩]
def exC3 : List Col := [⟨⟨#[119]⟩, 0, ⟨#[107, 103]⟩⟩]
def exC4 : List Col := [⟨⟨#[119]⟩, 0, ⟨#[103]⟩⟩]
def exR1 : List Val := [⟨0, 7, ⟨#[]⟩⟩, ⟨1, 0, ⟨#[65, 100, 97, 32, 76, 111, 118, 101, 108, 97, 99, 101, 32, 120]⟩⟩]
def exR2 : List Val := [⟨0, 7, ⟨#[]⟩⟩, ⟨1, 0, ⟨#[65, 100, 97]⟩⟩, ⟨1, 0, ⟨#[76, 111, 118, 101, 108, 97, 99, 101, 32, 120]⟩⟩]
def exR3 : List Val := [⟨0, 7, ⟨#[]⟩⟩, ⟨1, 0, ⟨#[65, 100, 97, 32]⟩⟩]
def exR4 : List Val := [⟨0, 7, ⟨#[]⟩⟩, ⟨1, 0, ⟨#[65, 100, 97]⟩⟩, ⟨1, 0, ⟨#[]⟩⟩]
def exR5 : List Val := [⟨0, 7, ⟨#[]⟩⟩, ⟨1, 0, ⟨#[65, 100, 97]⟩⟩]
def exR6 : List Val := [⟨0, 5, ⟨#[]⟩⟩]
def exR7 : List Val := [⟨0, 5000, ⟨#[]⟩⟩]
def exR8 : List Val := [⟨0, 9223372036854775807, ⟨#[]⟩⟩]
theorem exP1 : lparseP exS1.data.toList = ([exX1], true) := by kernel_rfl
theorem exP2 : lparseP exS2.data.toList = ([exX2], true) := by kernel_rfl
theorem exH1 : qbe [exX1] exC1 = ([exC1, exC2], 0) := by kernel_rfl
theorem exH2 : qbe [exX2] exC3 = ([exC3, exC4], 0) := by kernel_rfl
theorem exT1 : toP [exX1] exC1 = (exC2, 0) := by kernel_rfl
theorem exF1 : qfg [exX1] [exC1, exC2] exR1 = exR2 := by kernel_rfl
theorem exB1 : bckAll [exX1] [exC1, exC2] exR2 = exR1 := by kernel_rfl
theorem exF3 : qfg [exX1] [exC1, exC2] exR3 = exR4 := by kernel_rfl
theorem exB3 : bckAll [exX1] [exC1, exC2] exR4 = exR5 := by kernel_rfl
theorem exF6 : qfg [exX2] [exC3, exC4] exR6 = exR7 := by kernel_rfl
theorem exL2 : lostP [exX2] [exC3, exC4] 0 = (false, 0, exR8) := by kernel_rfl
theorem exSX1 : qdv exX1 := ⟨⟨by decide, by decide, by decide, by decide⟩, ⟨⟨by decide, by decide⟩, by decide⟩⟩
theorem exSX2 : qdv exX2 := ⟨⟨by decide, by decide, by decide, by decide⟩, ⟨⟨by decide, by decide⟩, by decide⟩⟩
theorem exSR {l : List Val} (h : l.all (fun v => decide (-9223372036854775808 ≤ v.n) && (decide (v.n ≤ 9223372036854775807) && decide (v.s.size ≤ 300000))) = true) : qbv l := fun v hv => by
  have := List.all_eq_true.1 h v hv
  simp only [Bool.and_eq_true, decide_eq_true_eq] at this
  exact ⟨⟨this.1, this.2.1⟩, this.2.2⟩
theorem exA {x : Lens} (h : qdv x) : ∀ y ∈ [x], qdv y := fun y hy => by rw [List.mem_singleton] at hy; subst hy; exact h
set_option maxRecDepth 8000 in
set_option maxHeartbeats 8000000 in
theorem small14_g : Gives Tryz.prog 9 [] (.bool true) := by
  have c1 := lparse_g exS1 (by decide)
  have c2 := lparse_g exS2 (by decide)
  rw [exP1] at c1
  rw [exP2] at c2
  have c3 := forward_g (row := exR1) exH1 (exA exSX1) (by decide) (by decide) (exSR (by decide)) rfl _ exF1
  have c4 := forward_g (row := exR3) exH1 (exA exSX1) (by decide) (by decide) (exSR (by decide)) rfl _ exF3
  have c5 := forward_g (row := exR6) exH2 (exA exSX2) (by decide) (by decide) (exSR (by decide)) rfl _ exF6
  have c6 := back_g (row := exR2) exH1 (exA exSX1) (by decide) (by decide) (exSR (by decide)) rfl _ exB1
  have c7 := back_g (row := exR4) exH1 (exA exSX1) (by decide) (by decide) (exSR (by decide)) rfl _ exB3
  have c8 := to_g [exX1] exC1 (fun x hx => (exA exSX1 x hx).l) (by decide) (by decide) (by decide)
  rw [exT1] at c8
  have c9 := lossless_g exH2 (exA exSX2) (by decide) (by decide) _ exL2
  have c10 := rsame03_g exR1 (by decide)
  simp only [exS1, exS2, exC1, exC2, exC3, exR1, exR2, exR3, exR4, exR5, exR6, exR7, exR8, List.map_cons, List.map_nil] at *
  refine qh Tryz.func9 Tryz.ntmps9 fun σ n0 hcl hft => ?_
  repeat' (first | ((first | ((with_reducible refine qf (fun hg => ?_) (fun hg => ?_)) <;> (try simp only [hg]) <;> (try simp only [gS] at hg) <;> (try (first | simp only [eq_false hg, gI] | simp only [eq_true hg, gI]))) | refine Stp.m ?_ | refine qi ?_ | refine agH ?_) <;> (try simp (disch := first | omega | simp) [qd, -qg, -ql])) | refine sideA ?_ | refine qc fun K hK => ?_ | refine qa ?_ | refine qe ?_ | refine qb ?_ | (refine hK _ ?_; clear hK K) | clear hK K)
end Go.Proofs.YtbkkjlcclddpdaaGreatDoor

/- A list that is handed to a function as a slice is no longer than an int tells. -/
namespace Go.Proofs.YtbkkjlcclddpdaaGreatDoor
open Go.RowKit Go.Lib
theorem gives_len {P : Program} {f : FuncId} {l : List AV} {tl : List AV} {x : AV} (h : l.length ≤ 9223372036854775807 → Gives P f (.sl l :: tl) x) : Gives P f (.sl l :: tl) x := by
  intro σ X vals nx hS hσ hF hR
  have hl : l.length ≤ 9223372036854775807 := by
    obtain ⟨v, vs', -, h1, -⟩ := hR
    change RC X (.sl l) [v] at h1
    rw [RC] at h1
    obtain ⟨A, cap, b, off, -, h2, h3, -⟩ := h1
    omega
  exact h hl σ X vals nx hS hσ hF hR
end Go.Proofs.YtbkkjlcclddpdaaGreatDoor

/- Walks of the laws of layer 14: bounds, steps and rows that suit. -/
namespace Go.Proofs.YtbkkjlcclddpdaaGreatDoor
open Go.RowKit Go.Lib
def fewX (x : Lens) : Bool := decide (x.a.size ≤ 210) && (decide (x.b.size ≤ 210) && (decide (x.c.size ≤ 210) && (decide (x.sep.size ≤ 210) && decide (x.value.s.size ≤ 210))))
def fewL (l : List Lens) : Bool := l.all fewX && decide (l.length ≤ 20)
theorem fewX_iff {x : Lens} : fewX x = true ↔ x.a.size ≤ 210 ∧ x.b.size ≤ 210 ∧ x.c.size ≤ 210 ∧ x.sep.size ≤ 210 ∧ x.value.s.size ≤ 210 := by
  unfold fewX; simp
set_option maxHeartbeats 4000000 in
theorem few_g14 (l : List Lens) : Gives Tryz.prog 10 [.sl (l.map Lens.av)] (.bool (fewL l)) := by
  obtain ⟨R, hR⟩ : ∃ R, R = fewL l := ⟨_, rfl⟩
  rw [← hR]
  unfold fewL at hR
  refine gives_len fun hlen => ?_
  simp only [List.length_map] at hlen
  refine qh Tryz.func10 Tryz.ntmps10 fun σ n0 hcl hft => ?_
  repeat' (first | ((first | ((with_reducible refine qf (fun hg => ?_) (fun hg => ?_)) <;> (try simp only [hg]) <;> (try simp only [gS] at hg) <;> (try (first | simp only [eq_false hg, gI] | simp only [eq_true hg, gI]))) | refine Stp.m ?_) <;> (try simp (disch := first | omega | simp) [qd, -qg, -ql])) | refine sideA ?_ | refine qc fun K hK => ?_ | refine qa ?_ | refine qe ?_ | refine qb ?_ | (refine hK _ ?_; clear hK K) | clear hK K)
  refine qt hcl (fun k : Nat => [(0, .sl (l.map Lens.av)), (3, .int k)]) (fun _ => [])
    (fun k => k ≤ l.length ∧ ∀ j (h : j < l.length), j < k → fewX l[j] = true) (fun k => l.length - k) 0 (by simp) (by simp) fun k ⟨hk, he⟩ => ?_
  by_cases hlt : k < l.length
  · cases hs : fewX l[k] with
    | true =>
      obtain ⟨f1, f2, f3, f4, f5⟩ := fewX_iff.1 hs
      have g1 : ¬ (210 : Int) < l[k].a.size := by omega
      have g2 : ¬ (210 : Int) < l[k].b.size := by omega
      have g3 : ¬ (210 : Int) < l[k].c.size := by omega
      have g4 : ¬ (210 : Int) < l[k].sep.size := by omega
      have g5 : ¬ (210 : Int) < l[k].value.s.size := by omega
      repeat' (first | ((first | ((with_reducible refine qf (fun hg => ?_) (fun hg => ?_)) <;> (try simp only [hg]) <;> (try simp only [gS] at hg) <;> (try (first | simp only [eq_false hg, gI] | simp only [eq_true hg, gI]))) | refine Stp.m ?_) <;> (try simp (disch := first | omega | simp) [qd, -qg, -ql, hlt, g1, g2, g3, g4, g5])) | refine sideA ?_ | refine qc fun K hK => ?_ | refine qa ?_ | refine qe ?_ | refine qb ?_ | (refine hK _ ?_; clear hK K) | clear hK K)
      exact ⟨k + 1, ⟨by omega, qfc (C := fun x : Lens => fewX x = true) he fun _ => hs⟩, by omega, by simp⟩
    | false =>
      have hb : l.all fewX = false := by
        rw [List.all_eq_false]
        exact ⟨l[k], List.getElem_mem _, by simp [hs]⟩
      rw [hb] at hR
      have hR' : R = false := hR
      subst hR'
      have no : ¬ (l[k].a.size ≤ 210 ∧ l[k].b.size ≤ 210 ∧ l[k].c.size ≤ 210 ∧ l[k].sep.size ≤ 210 ∧ l[k].value.s.size ≤ 210) := fun h => by
        rw [fewX_iff.2 h] at hs; cases hs
      repeat' (first | ((first | ((with_reducible refine qf (fun hg => ?_) (fun hg => ?_)) <;> (try simp only [hg]) <;> (try simp only [gS] at hg) <;> (try (first | simp only [eq_false hg, gI] | simp only [eq_true hg, gI]))) | refine Stp.m ?_) <;> (try simp (disch := first | omega | simp) [qd, -qg, -ql, hlt])) | refine sideA ?_ | refine qc fun K hK => ?_ | refine qa ?_ | refine qe ?_ | refine qb ?_ | (refine hK _ ?_; clear hK K) | clear hK K)
      all_goals first | (exfalso; exact no ⟨by omega, by omega, by omega, by omega, by omega⟩) | rfl
  · have hb : l.all fewX = true := by
      rw [List.all_eq_true]
      intro x hx
      obtain ⟨j, hj, rfl⟩ := List.mem_iff_getElem.1 hx
      exact he j hj (by omega)
    rw [hb, Bool.true_and] at hR
    repeat' (first | ((first | ((with_reducible refine qf (fun hg => ?_) (fun hg => ?_)) <;> (try simp only [hg]) <;> (try simp only [gS] at hg) <;> (try (first | simp only [eq_false hg, gI] | simp only [eq_true hg, gI]))) | refine Stp.m ?_) <;> (try simp (disch := first | omega | simp) [qd, -qg, -ql, hlt])) | refine sideA ?_ | refine qc fun K hK => ?_ | refine qa ?_ | refine qe ?_ | refine qb ?_ | (refine hK _ ?_; clear hK K) | clear hK K)
    all_goals
      rw [hR, Bool.eq_iff_iff]
      simp
      omega
theorem fits_gU (a : List Val) (b : List Col) (hb : b.length ≤ 1000000) : Gives Tryz.prog 24 [.sl (a.map Val.av), .sl (b.map Col.av)] (.bool (fitsC a b)) := by
  by_cases h : a.length ≤ 1000000
  · exact fits_g a b h hb
  · have hne : ¬ a.length = b.length := by omega
    have hne' : ¬ (a.length : Int) = b.length := by omega
    unfold fitsC
    rw [decide_eq_false hne]
    refine qh Tryz.func24 Tryz.ntmps24 fun σ n0 hcl hft => ?_
    repeat' (first | ((first | ((with_reducible refine qf (fun hg => ?_) (fun hg => ?_)) <;> (try simp only [hg]) <;> (try simp only [gS] at hg) <;> (try (first | simp only [eq_false hg, gI] | simp only [eq_true hg, gI]))) | refine Stp.m ?_) <;> (try simp (disch := first | omega | simp) [qd, -qg, -ql, hne'])) | refine sideA ?_ | refine qc fun K hK => ?_ | refine qa ?_ | refine qe ?_ | refine qb ?_ | (refine hK _ ?_; clear hK K) | clear hK K)
    all_goals exact absurd (by assumption) hne'
theorem few_small {l : List Lens} (h : fewL l = true) : l.length ≤ 20 ∧ ∀ x ∈ l, qbq x ∧ x.value.s.size ≤ 210 := by
  unfold fewL at h
  rw [Bool.and_eq_true, List.all_eq_true, decide_eq_true_eq] at h
  refine ⟨h.2, fun x hx => ?_⟩
  obtain ⟨f1, f2, f3, f4, f5⟩ := fewX_iff.1 (h.1 x hx)
  exact ⟨⟨by omega, by omega, by omega, by omega⟩, f5⟩
structure Suits (l : List Lens) (cols : List Col) (row : List Val) (ss : List (List Col)) : Prop where
  l20 : l.length ≤ 20
  small : ∀ x ∈ l, qbq x ∧ x.value.s.size ≤ 210
  shape : qdp cols
  fit : FitOk row cols
  ss : qbe l cols = (ss, 0)
theorem Suits.pure {l : List Lens} {cols : List Col} {row : List Val} {ss : List (List Col)} (h : Suits l cols row ss) : qn l cols = (ss, 0) := by
  have h1 := h.ss
  have h2 := h.l20
  rwa [qbe, if_neg (by omega)] at h1
theorem qdk {l : List Lens} {ss : List (List Col)} (hc : Chain l ss) (h0 : qdp (shAt ss 0)) : ∀ k, k ≤ l.length → qdp (shAt ss k)
  | 0, _ => h0
  | k + 1, hk => by
    obtain ⟨h1, h2⟩ := hc.ok k hk
    rw [← h2]; exact step_right (qdk hc h0 k (by omega)) h1
theorem chain_fwd {l : List Lens} {ss : List (List Col)} {row : List Val} (hc : Chain l ss) (h0 : qdp (shAt ss 0)) (hf : FitOk row (shAt ss 0)) : ∀ k, k ≤ l.length → FitOk (fwdK l ss row k) (shAt ss k)
  | 0, _ => hf
  | k + 1, hk => by
    obtain ⟨h1, h2⟩ := hc.ok k hk
    rw [fwdK_succ hk, ← h2]
    exact fwd_fits (qdk hc h0 k (by omega)) h1 (chain_fwd hc h0 hf k (by omega))
theorem chain_bck {l : List Lens} {ss : List (List Col)} {row : List Val} (hc : Chain l ss) (h0 : qdp (shAt ss 0)) (hf : FitOk row (shAt ss l.length)) : ∀ j k, k + j = l.length → FitOk (bckK l ss row k) (shAt ss k)
  | 0, k, hk => by
    obtain rfl : k = l.length := by omega
    rw [bckK_end]; exact hf
  | j + 1, k, hk => by
    obtain ⟨h1, h2⟩ := hc.ok k (by omega)
    have ih := chain_bck hc h0 hf j (k + 1) (by omega)
    rw [bckK_pred (by omega)]
    rw [← h2] at ih
    exact bck_fits (qdk hc h0 k (by omega)) h1 ih
theorem smallR_fit {row : List Val} {L : List Col} (h : FitOk row L) (hi : ∀ v ∈ row, i64 v.n) : qbv row := fun v hv => ⟨hi v hv, by
  rcases rightV_cases (h.vals v hv) with e | ⟨-, e⟩ | e | e
  · rw [e]; show 0 ≤ 300000; omega
  · omega
  · rw [e]; show 0 ≤ 300000; omega
  · rw [e]; show 0 ≤ 300000; omega⟩
end Go.Proofs.YtbkkjlcclddpdaaGreatDoor

/- A slice that could grow, from now on only read. -/
namespace Go.Proofs.YtbkkjlcclddpdaaGreatDoor
open Go.RowKit Go.Lib
theorem awp_pubR {P : Program} {c : Code} {Q : Exit → AS → Prop} {n n0 : Nat} {t : Nat → AV} {σ : Nat → AB} {L : List AB} (d : Nat) {r : Nat} {l : List AV} (hd : t d = .gs r l)
    (h : awp P c Q ⟨n, upd t d (.sl l), σ, n0, L⟩) : awp P c Q ⟨n, t, σ, n0, L⟩ := by
  intro X0 a w ⟨X, hc⟩
  refine h X0 a w ⟨X, ⟨hc.w, hc.σ, hc.sr, hc.fr, hc.size, fun k => ?_, hc.defers, hc.fin⟩⟩
  show RR X (upd t d _ k) _
  unfold upd
  by_cases hk : k = d
  · subst hk
    rw [if_pos rfl]
    have h1 := hc.regs k
    change RR X (t k) _ at h1
    rw [hd] at h1
    have h2 : RC X (.gs r l) [_] := h1
    have h3 := RC.pub1 (x := .gs r l) rfl h2
    rw [AV.pub] at h3
    exact h3
  · rw [if_neg hk]; exact hc.regs k
end Go.Proofs.YtbkkjlcclddpdaaGreatDoor

/- Walk of layer 14's reference: To. -/
namespace Go.Proofs.YtbkkjlcclddpdaaGreatDoor
open Go.RowKit Go.Lib
set_option maxHeartbeats 8000000 in
theorem rto_g (l : List Lens) (cols : List Col) (hl : ∀ x ∈ l, qbq x) (hL : l.length ≤ 1000000) (hS : qdp cols) : Gives Tryz.prog 23 [.sl (l.map Lens.av), .sl (cols.map Col.av)] (.tup [.sl ((toP l cols).1.map Col.av), .int (toP l cols).2]) := by
  obtain ⟨R, hR⟩ : ∃ R, R = toP l cols := ⟨_, rfl⟩
  rw [← hR]
  unfold toP at hR
  have l0 := hS.l0
  have l1 := hS.l1
  by_cases h60 : 60 < l.length
  · rw [if_pos h60] at hR
    subst hR
    have h60' : (60 : Int) < l.length := by omega
    refine qh Tryz.func23 Tryz.ntmps23 fun σ n0 hcl hft => ?_
    repeat' (first | ((first | ((with_reducible refine qf (fun hg => ?_) (fun hg => ?_)) <;> (try simp only [hg]) <;> (try simp only [gS] at hg) <;> (try (first | simp only [eq_false hg, gI] | simp only [eq_true hg, gI]))) | refine Stp.m ?_) <;> (try simp (disch := first | omega | simp) [qd, -qg, -ql, h60'])) | refine sideA ?_ | refine qc fun K hK => ?_ | refine qa ?_ | refine qe ?_ | refine qb ?_ | (refine hK _ ?_; clear hK K) | clear hK K)
  · rw [if_neg h60] at hR
    have h60' : ¬ (60 : Int) < l.length := by omega
    refine qh Tryz.func23 Tryz.ntmps23 fun σ n0 hcl hft => ?_
    repeat' (first | ((first | ((with_reducible refine qf (fun hg => ?_) (fun hg => ?_)) <;> (try simp only [hg]) <;> (try simp only [gS] at hg) <;> (try (first | simp only [eq_false hg, gI] | simp only [eq_true hg, gI]))) | refine Stp.m ?_) <;> (try simp (disch := first | omega | simp) [qd, -qg, -ql, h60'])) | refine sideA ?_ | refine qc fun K hK => ?_ | refine qa ?_ | refine qe ?_ | refine qb ?_ | (refine hK _ ?_; clear hK K) | clear hK K)
    refine awp_pubR 1 (by rfl) ?_
    refine qt hcl (fun k : Nat => [(0, .sl (l.map Lens.av)), (1, .sl (((qn (l.take k) cols).1.getLastD cols).map Col.av)), (6, .int k)]) (fun _ => [.tail cols.length 53 3])
      (fun k => k ≤ l.length ∧ (qn (l.take k) cols).2 = 0) (fun k => l.length - k) 0 ⟨by omega, by simp [qn]⟩ (by simp [qn]) fun k ⟨hk, he⟩ => ?_
    obtain ⟨ss, hss⟩ : ∃ ss, ss = (qn (l.take k) cols).1 := ⟨_, rfl⟩
    have hsk : qn (l.take k) cols = (ss, 0) := by rw [hss, ← he]
    rw [← hss]
    obtain ⟨hlen, hsz⟩ := qfw hsk
    obtain ⟨hch, hc0⟩ := chain_of hsk l0 l1
    have hsr := qdk hch (by rw [hc0]; exact hS) k (by rw [List.length_take]; omega)
    rw [List.length_take, Nat.min_eq_left hk] at hlen
    have hks : k < ss.length := by omega
    have hlast : ss.getLastD cols = ss[k] := by
      rw [List.getLastD_eq_getLast?, List.getLast?_eq_getElem?, hlen, Nat.add_sub_cancel, List.getElem?_eq_getElem hks]; rfl
    rw [shAt_eq hks] at hsr
    by_cases hlt : k < l.length
    · have hsn := shapes_snoc l[k] (l.take k) cols ss hsk
      rw [hlast, ← List.take_succ_eq_append_getElem hlt] at hsn
      rw [hlast]
      have c2 := rone_g l[k] ss[k] (hl _ (List.getElem_mem hlt)) hsr
      by_cases he2 : (oneP l[k] ss[k]).2 = 0
      · rw [if_neg (by simpa using he2)] at hsn
        rw [he2] at c2
        repeat' (first | ((first | ((with_reducible refine qf (fun hg => ?_) (fun hg => ?_)) <;> (try simp only [hg]) <;> (try simp only [gS] at hg) <;> (try (first | simp only [eq_false hg, gI] | simp only [eq_true hg, gI]))) | refine Stp.m ?_ | refine qi ?_ | refine agH ?_) <;> (try simp (disch := first | omega | simp) [qd, -qg, -ql, hlt])) | refine sideA ?_ | refine qc fun K hK => ?_ | refine qa ?_ | refine qe ?_ | refine qb ?_ | (refine hK _ ?_; clear hK K) | clear hK K)
        exact ⟨k + 1, ⟨by omega, by rw [hsn]⟩, by omega, by rw [hsn]; simp⟩
      · rw [if_pos he2] at hsn
        have he3 : ((oneP l[k] ss[k]).2 != 0) = true := by simpa using he2
        have hfin := shapes_pre (l.take (k + 1)) (l.drop (k + 1)) cols (by rw [hsn]; exact he2)
        rw [List.take_append_drop, hsn] at hfin
        rw [hfin] at hR
        rw [if_pos he2] at hR
        subst hR
        repeat' (first | ((first | ((with_reducible refine qf (fun hg => ?_) (fun hg => ?_)) <;> (try simp only [hg]) <;> (try simp only [gS] at hg) <;> (try (first | simp only [eq_false hg, gI] | simp only [eq_true hg, gI]))) | refine Stp.m ?_ | refine qi ?_ | refine agH ?_) <;> (try simp (disch := first | omega | simp) [qd, -qg, -ql, hlt, he3])) | refine sideA ?_ | refine qc fun K hK => ?_ | refine qa ?_ | refine qe ?_ | refine qb ?_ | (refine hK _ ?_; clear hK K) | clear hK K)
    · obtain rfl : k = l.length := by omega
      rw [List.take_length] at hsk
      rw [hsk, if_neg (by simp), List.getD_eq_getElem?_getD, List.getElem?_eq_getElem hks] at hR
      subst hR
      rw [hlast]
      repeat' (first | ((first | ((with_reducible refine qf (fun hg => ?_) (fun hg => ?_)) <;> (try simp only [hg]) <;> (try simp only [gS] at hg) <;> (try (first | simp only [eq_false hg, gI] | simp only [eq_true hg, gI]))) | refine Stp.m ?_) <;> (try simp (disch := first | omega | simp) [qd, -qg, -ql, hlt])) | refine sideA ?_ | refine qc fun K hK => ?_ | refine qa ?_ | refine qe ?_ | refine qb ?_ | (refine hK _ ?_; clear hK K) | clear hK K)
end Go.Proofs.YtbkkjlcclddpdaaGreatDoor

/- Walks of layer 14's reference: a row through a step, and back. -/
namespace Go.Proofs.YtbkkjlcclddpdaaGreatDoor
open Go.RowKit Go.Lib
def convOk (v : Val) (to : Int) : Prop := 0 ≤ to ∧ to < 3 ∧ (to = 1 → v.k = 0 ∨ v.n = 0 ∨ v.n = 1)
section
variable {x : Lens} {L : List Col} {row : List Val} (hx : qdv x) (h1 : L.length ≤ 12) (h : qeh x L) (hr : qbv row)
include hx h1 h hr
set_option maxRecDepth 4000 in
set_option maxHeartbeats 8000000 in
theorem rfwd_g (hlen : row.length = L.length) (hcv : x.op = 5 → ∀ i (hi : i < row.length), findP L x.a.toList = i → convOk row[i] x.n) (R : List Val) (hR : fwdP x L row = R) :
    Gives Tryz.prog 60 [x.av, .sl (L.map Col.av), .sl (row.map Val.av)] (.sl (R.map Val.av)) := by
  have c2 := qem L x.a (by omega)
  have cs := fun (i : Nat) (hi : i < row.length) (v : Val) => rput_g row [v] i (i + 1) (by omega) (by omega) (by omega) (by show 1 ≤ 1000; omega) (row.set i v) (set_td hi)
  have hcast : ∀ i : Nat, ((i + 1 : Nat) : Int) = (i : Int) + 1 := fun i => by simp
  simp only [hcast] at cs
  unfold fwdP at hR
  dsimp only at hR
  cases h
  case add ho ha hn hl hS hu hv =>
    have c3 := rput_g row [x.value] row.length row.length (Nat.le_refl _) (Nat.le_refl _) (by omega) (by show 1 ≤ 1000; omega) (row ++ [x.value]) (by rw [List.take_length, List.drop_length, List.append_nil])
    rw [if_pos ho] at hR
    subst hR
    refine qh Tryz.func60 Tryz.ntmps60 fun σ n0 hcl hft => ?_
    repeat' (first | ((first | ((with_reducible refine qf (fun hg => ?_) (fun hg => ?_)) <;> (try simp only [hg]) <;> (try simp only [gS] at hg) <;> (try (first | simp only [eq_false hg, gI] | simp only [eq_true hg, gI]))) | refine Stp.m ?_ | refine qi ?_ | refine agH ?_) <;> (try simp (disch := first | omega | simp) [qd, -qg, -ql, qba ho])) | refine sideA ?_ | refine qc fun K hK => ?_ | refine qa ?_ | refine qe ?_ | refine qb ?_ | (refine hK _ ?_; clear hK K) | clear hK K)
  case drop i hi ho h hk hl hS hv =>
    have hi2 : i < row.length := by omega
    have e1 : (findP L x.a.toList).toNat = i := by rw [h.find]; omega
    rw [h.find] at c2
    have c3 := rput_g row [] i (i + 1) (by omega) (by omega) (by omega) (by show 0 ≤ 1000; omega) _ (erase_td row i)
    rw [hcast] at c3
    rw [if_neg (by omega), if_pos ho, e1] at hR
    subst hR
    refine qh Tryz.func60 Tryz.ntmps60 fun σ n0 hcl hft => ?_
    repeat' (first | ((first | ((with_reducible refine qf (fun hg => ?_) (fun hg => ?_)) <;> (try simp only [hg]) <;> (try simp only [gS] at hg) <;> (try (first | simp only [eq_false hg, gI] | simp only [eq_true hg, gI]))) | refine Stp.m ?_ | refine qi ?_ | refine agH ?_) <;> (try simp (disch := first | omega | simp) [qd, -qg, -ql, qba ho])) | refine sideA ?_ | refine qc fun K hK => ?_ | refine qa ?_ | refine qe ?_ | refine qb ?_ | (refine hK _ ?_; clear hK K) | clear hK K)
  case rename i hi ho h hb hb2 hS =>
    rw [h.find] at c2
    have c3 := rput_g row [] 0 0 (by omega) (by omega) (by omega) (by show 0 ≤ 1000; omega) row (by simp)
    rw [if_neg (by omega), if_neg (by omega), if_neg (by omega), if_neg (by omega), if_neg (by omega), if_neg (by omega)] at hR
    subst hR
    refine qh Tryz.func60 Tryz.ntmps60 fun σ n0 hcl hft => ?_
    repeat' (first | ((first | ((with_reducible refine qf (fun hg => ?_) (fun hg => ?_)) <;> (try simp only [hg]) <;> (try simp only [gS] at hg) <;> (try (first | simp only [eq_false hg, gI] | simp only [eq_true hg, gI]))) | refine Stp.m ?_ | refine qi ?_ | refine agH ?_) <;> (try simp (disch := first | omega | simp) [qd, -qg, -ql, qba ho])) | refine sideA ?_ | refine qc fun K hK => ?_ | refine qa ?_ | refine qe ?_ | refine qb ?_ | (refine hK _ ?_; clear hK K) | clear hK K)
  case split i hi ho h hk hb hc hs hbc hb2 hc2 hl hS =>
    have hi2 : i < row.length := by omega
    have e1 : (findP L x.a.toList).toNat = i := by rw [h.find]; omega
    rw [h.find] at c2
    have hsv := (qbd hr hi2).s
    have c4 := rsplit_g row[i].s x.sep (by omega) hx.l.sep (by omega)
    rw [if_neg (by omega), if_neg (by omega), if_pos ho, e1, qbi hi2] at hR
    have c3 := rput_g row (splitL2 row[i].s.data.toList x.sep.data.toList) i (i + 1) (by omega) (by omega) (by omega) (by show 2 ≤ 1000; omega) R hR
    rw [hcast] at c3
    generalize splitL2 row[i].s.data.toList x.sep.data.toList = Z at *
    refine qh Tryz.func60 Tryz.ntmps60 fun σ n0 hcl hft => ?_
    repeat' (first | ((first | ((with_reducible refine qf (fun hg => ?_) (fun hg => ?_)) <;> (try simp only [hg]) <;> (try simp only [gS] at hg) <;> (try (first | simp only [eq_false hg, gI] | simp only [eq_true hg, gI]))) | refine Stp.m ?_ | refine qi ?_ | refine agH ?_) <;> (try simp (disch := first | omega | simp) [qd, -qg, -ql, qba ho, hi2])) | refine sideA ?_ | refine qc fun K hK => ?_ | refine qa ?_ | refine qe ?_ | refine qb ?_ | (refine hK _ ?_; clear hK K) | clear hK K)
  case join i k hi hk ho h hkf hkn hik ti tk hc hs hc2 hS =>
    have hi2 : i < row.length := by omega
    have hk2 : k < row.length := by omega
    have e1 : (findP L x.a.toList).toNat = i := by rw [h.find]; omega
    have e2 : (findP L x.b.toList).toNat = k := by rw [hkf]; omega
    have c5 := qem L x.b (by omega)
    rw [h.find] at c2
    rw [hkf] at c5
    have hsv := (qbd hr hi2).s
    have hsk := (qbd hr hk2).s
    have hss := hx.l.sep
    have hsz : (row[i].s ++ x.sep ++ row[k].s).size = row[i].s.size + x.sep.size + row[k].s.size := by rw [ByteArray.size_append, ByteArray.size_append]
    have hsz1 : (row[i].s ++ x.sep).size = row[i].s.size + x.sep.size := by rw [ByteArray.size_append]
    have c4 := rtext_g (row[i].s ++ x.sep ++ row[k].s) (by omega)
    have hdt : (row[i].s ++ x.sep ++ row[k].s).data.toList = row[i].s.data.toList ++ x.sep.data.toList ++ row[k].s.data.toList := by simp
    rw [hdt] at c4
    rw [if_neg (by omega), if_neg (by omega), if_neg (by omega), if_pos ho, e1, e2, qbi hi2, qbi hk2] at hR
    generalize cutV (row[i].s.data.toList ++ x.sep.data.toList ++ row[k].s.data.toList) = V at *
    have c3 := cs i hi2 V
    obtain ⟨Z, hZ⟩ : ∃ Z, row.set i V = Z := ⟨_, rfl⟩
    have hzl : Z.length = row.length := by rw [← hZ, List.length_set]
    rw [hZ] at c3 hR
    have c6 := rput_g Z [] k (k + 1) (by omega) (by omega) (by omega) (by show 0 ≤ 1000; omega) R (by rw [erase_td, hR])
    rw [hcast] at c6
    refine qh Tryz.func60 Tryz.ntmps60 fun σ n0 hcl hft => ?_
    repeat' (first | ((first | ((with_reducible refine qf (fun hg => ?_) (fun hg => ?_)) <;> (try simp only [hg]) <;> (try simp only [gS] at hg) <;> (try (first | simp only [eq_false hg, gI] | simp only [eq_true hg, gI]))) | refine Stp.m ?_ | refine qi ?_ | refine agH ?_) <;> (try simp (disch := first | omega | simp) [qd, -qg, -ql, qba ho, hi2, hk2, hsz1])) | refine sideA ?_ | refine qc fun K hK => ?_ | refine qa ?_ | refine qe ?_ | refine qb ?_ | (refine hK _ ?_; clear hK K) | clear hK K)
  case retype i hi ho h hn0 hn3 hv hk ht hS =>
    have hi2 : i < row.length := by omega
    have e1 : (findP L x.a.toList).toNat = i := by rw [h.find]; omega
    obtain ⟨q0, q1, q2⟩ := hcv ho i hi2 h.find
    rw [h.find] at c2
    have hsv := qbd hr hi2
    have c4 := rconv_g row[i] x.n x.value hsv.n (by have := hsv.s; omega) ⟨q0, q1⟩ q2
    rw [if_neg (by omega), if_neg (by omega), if_neg (by omega), if_neg (by omega), if_pos ho, e1, qbi hi2] at hR
    generalize convP row[i] x.n x.value = V at *
    have c3 := cs i hi2 V
    rw [hR] at c3
    refine qh Tryz.func60 Tryz.ntmps60 fun σ n0 hcl hft => ?_
    repeat' (first | ((first | ((with_reducible refine qf (fun hg => ?_) (fun hg => ?_)) <;> (try simp only [hg]) <;> (try simp only [gS] at hg) <;> (try (first | simp only [eq_false hg, gI] | simp only [eq_true hg, gI]))) | refine Stp.m ?_ | refine qi ?_ | refine agH ?_) <;> (try simp (disch := first | omega | simp) [qd, -qg, -ql, qba ho, hi2])) | refine sideA ?_ | refine qc fun K hK => ?_ | refine qa ?_ | refine qe ?_ | refine qb ?_ | (refine hK _ ?_; clear hK K) | clear hK K)
  case scale i hi ho h ht hn hu hS =>
    have hi2 : i < row.length := by omega
    have e1 : (findP L x.a.toList).toNat = i := by rw [h.find]; omega
    rw [h.find] at c2
    rw [if_neg (by omega), if_neg (by omega), if_neg (by omega), if_neg (by omega), if_neg (by omega), if_pos ho, e1, qbi hi2] at hR
    have c3 := cs i hi2 ⟨0, IntKind.i64.wrap (row[i].n * x.n), ⟨#[]⟩⟩
    rw [hR] at c3
    refine qh Tryz.func60 Tryz.ntmps60 fun σ n0 hcl hft => ?_
    repeat' (first | ((first | ((with_reducible refine qf (fun hg => ?_) (fun hg => ?_)) <;> (try simp only [hg]) <;> (try simp only [gS] at hg) <;> (try (first | simp only [eq_false hg, gI] | simp only [eq_true hg, gI]))) | refine Stp.m ?_ | refine qi ?_ | refine agH ?_) <;> (try simp (disch := first | omega | simp) [qd, -qg, -ql, qba ho, hi2])) | refine sideA ?_ | refine qc fun K hK => ?_ | refine qa ?_ | refine qe ?_ | refine qb ?_ | (refine hK _ ?_; clear hK K) | clear hK K)
end
end Go.Proofs.YtbkkjlcclddpdaaGreatDoor

/- Walks of layer 14's reference: a row back through a step. -/
namespace Go.Proofs.YtbkkjlcclddpdaaGreatDoor
open Go.RowKit Go.Lib
section
variable {x : Lens} {L : List Col} {row : List Val} (hx : qdv x) (h1 : L.length ≤ 12) (h : qeh x L) (hr : qbv row)
include hx h1 h hr
set_option maxRecDepth 4000 in
set_option maxHeartbeats 8000000 in
theorem rbck_g (hrl : row.length ≤ 13) (hlen : row.length = (oneP x L).1.length) (hcv : x.op = 5 → ∀ i (hi : i < row.length) (hL : i < L.length), findP L x.a.toList = i → convOk row[i] L[i].type) (R : List Val) (hR : bckP x L row = R) :
    Gives Tryz.prog 66 [x.av, .sl (L.map Col.av), .sl (row.map Val.av)] (.sl (R.map Val.av)) := by
  obtain ⟨g0, g1, g3, g4, g2⟩ := step_len h
  have c2 := qem L x.a (by omega)
  have cs := fun (i : Nat) (hi : i < row.length) (v : Val) => rput_g row [v] i (i + 1) (by omega) (by omega) (by omega) (by show 1 ≤ 1000; omega) (row.set i v) (set_td hi)
  have hcast : ∀ i : Nat, ((i + 1 : Nat) : Int) = (i : Int) + 1 := fun i => by simp
  have hcast2 : ∀ i : Nat, ((i + 2 : Nat) : Int) = (i : Int) + 2 := fun i => by simp
  simp only [hcast] at cs
  unfold bckP at hR
  dsimp only at hR
  cases h
  case add ho ha hn hl hS hu hv =>
    have := g0 ho
    have c3 := rput_g row [] (row.length - 1) row.length (by omega) (Nat.le_refl _) (by omega) (by show 0 ≤ 1000; omega) (row.take (row.length - 1)) (by rw [List.drop_length, List.append_nil, List.append_nil])
    have e3 : ((row.length - 1 : Nat) : Int) = (row.length : Int) - 1 := by omega
    rw [e3] at c3
    rw [if_pos ho] at hR
    rw [hR] at c3
    refine qh Tryz.func66 Tryz.ntmps66 fun σ n0 hcl hft => ?_
    repeat' (first | ((first | ((with_reducible refine qf (fun hg => ?_) (fun hg => ?_)) <;> (try simp only [hg]) <;> (try simp only [gS] at hg) <;> (try (first | simp only [eq_false hg, gI] | simp only [eq_true hg, gI]))) | refine Stp.m ?_ | refine qi ?_ | refine agH ?_) <;> (try simp (disch := first | omega | simp) [qd, -qg, -ql, qba ho])) | refine sideA ?_ | refine qc fun K hK => ?_ | refine qa ?_ | refine qe ?_ | refine qb ?_ | (refine hK _ ?_; clear hK K) | clear hK K)
  case drop i hi ho h hk hl hS hv =>
    have := g1 ho
    have e1 : (findP L x.a.toList).toNat = i := by rw [h.find]; omega
    rw [h.find] at c2
    have c3 := rput_g row [x.value] i i (by omega) (by omega) (by omega) (by show 1 ≤ 1000; omega) _ rfl
    rw [if_neg (by omega), if_pos ho, e1] at hR
    rw [hR] at c3
    refine qh Tryz.func66 Tryz.ntmps66 fun σ n0 hcl hft => ?_
    repeat' (first | ((first | ((with_reducible refine qf (fun hg => ?_) (fun hg => ?_)) <;> (try simp only [hg]) <;> (try simp only [gS] at hg) <;> (try (first | simp only [eq_false hg, gI] | simp only [eq_true hg, gI]))) | refine Stp.m ?_ | refine qi ?_ | refine agH ?_) <;> (try simp (disch := first | omega | simp) [qd, -qg, -ql, qba ho])) | refine sideA ?_ | refine qc fun K hK => ?_ | refine qa ?_ | refine qe ?_ | refine qb ?_ | (refine hK _ ?_; clear hK K) | clear hK K)
  case rename i hi ho h hb hb2 hS =>
    have := g2 (.inl ho)
    rw [h.find] at c2
    have c3 := rput_g row [] 0 0 (by omega) (by omega) (by omega) (by show 0 ≤ 1000; omega) row (by simp)
    rw [if_neg (by omega), if_neg (by omega), if_neg (by omega), if_neg (by omega), if_neg (by omega), if_neg (by omega)] at hR
    subst hR
    refine qh Tryz.func66 Tryz.ntmps66 fun σ n0 hcl hft => ?_
    repeat' (first | ((first | ((with_reducible refine qf (fun hg => ?_) (fun hg => ?_)) <;> (try simp only [hg]) <;> (try simp only [gS] at hg) <;> (try (first | simp only [eq_false hg, gI] | simp only [eq_true hg, gI]))) | refine Stp.m ?_ | refine qi ?_ | refine agH ?_) <;> (try simp (disch := first | omega | simp) [qd, -qg, -ql, qba ho])) | refine sideA ?_ | refine qc fun K hK => ?_ | refine qa ?_ | refine qe ?_ | refine qb ?_ | (refine hK _ ?_; clear hK K) | clear hK K)
  case split i hi ho h hk hb hc hs hbc hb2 hc2 hl hS =>
    have := g3 ho
    have hi2 : i < row.length := by omega
    have hi3 : i + 1 < row.length := by omega
    have e1 : (findP L x.a.toList).toNat = i := by rw [h.find]; omega
    rw [h.find] at c2
    have hsv := (qbd hr hi2).s
    have hsw := (qbd hr hi3).s
    have hss := hx.l.sep
    rw [if_neg (by omega), if_neg (by omega), if_pos ho, e1, qbi hi2, qbi hi3] at hR
    have t1 : ((i : Int) + 1).toNat = i + 1 := by omega
    have n1 : ¬ (i : Int) + 1 < 0 := by omega
    have c3 := fun V => rput_g row [V] i (i + 2) (by omega) (by omega) (by omega) (by show 1 ≤ 1000; omega) _ rfl
    simp only [hcast2] at c3
    by_cases he : row[i + 1].s.toList = []
    · have he' : (row[i + 1].s.toList != []) = false := by rw [he]; rfl
      have he2 : row[i + 1].s.toList.isEmpty = true := by rw [he]; rfl
      rw [if_pos he, List.append_nil] at hR
      have c4 := rtext_g row[i].s (by omega)
      generalize cutV row[i].s.data.toList = V at *
      have c5 := c3 V
      rw [hR] at c5
      clear c3
      refine qh Tryz.func66 Tryz.ntmps66 fun σ n0 hcl hft => ?_
      repeat' (first | ((first | ((with_reducible refine qf (fun hg => ?_) (fun hg => ?_)) <;> (try simp only [hg]) <;> (try simp only [gS] at hg) <;> (try (first | simp only [eq_false hg, gI] | simp only [eq_true hg, gI]))) | refine Stp.m ?_ | refine qi ?_ | refine agH ?_) <;> (try simp (disch := first | omega | simp) [qd, -qg, -ql, qba ho, hi2, hi3, t1, n1, he', he2])) | refine sideA ?_ | refine qc fun K hK => ?_ | refine qa ?_ | refine qe ?_ | refine qb ?_ | (refine hK _ ?_; clear hK K) | clear hK K)
    · have he' : (row[i + 1].s.toList != []) = true := by rw [bne_iff_ne]; exact he
      have he2 : row[i + 1].s.toList.isEmpty = false := by cases hq : row[i + 1].s.toList with | nil => exact absurd hq he | cons a b => rfl
      rw [if_neg he] at hR
      have hsz : (row[i].s ++ x.sep ++ row[i + 1].s).size = row[i].s.size + x.sep.size + row[i + 1].s.size := by rw [ByteArray.size_append, ByteArray.size_append]
      have hsz1 : (row[i].s ++ x.sep).size = row[i].s.size + x.sep.size := by rw [ByteArray.size_append]
      have c4 := rtext_g (row[i].s ++ x.sep ++ row[i + 1].s) (by omega)
      have hdt : (row[i].s ++ x.sep ++ row[i + 1].s).data.toList = row[i].s.data.toList ++ (x.sep.data.toList ++ row[i + 1].s.data.toList) := by simp
      rw [hdt] at c4
      generalize cutV (row[i].s.data.toList ++ (x.sep.data.toList ++ row[i + 1].s.data.toList)) = V at *
      have c5 := c3 V
      rw [hR] at c5
      clear c3
      refine qh Tryz.func66 Tryz.ntmps66 fun σ n0 hcl hft => ?_
      repeat' (first | ((first | ((with_reducible refine qf (fun hg => ?_) (fun hg => ?_)) <;> (try simp only [hg]) <;> (try simp only [gS] at hg) <;> (try (first | simp only [eq_false hg, gI] | simp only [eq_true hg, gI]))) | refine Stp.m ?_ | refine qi ?_ | refine agH ?_) <;> (try simp (disch := first | omega | simp) [qd, -qg, -ql, qba ho, hi2, hi3, t1, n1, he', he2, hsz1])) | refine sideA ?_ | refine qc fun K hK => ?_ | refine qa ?_ | refine qe ?_ | refine qb ?_ | (refine hK _ ?_; clear hK K) | clear hK K)
  case join i k hi hk ho h hkf hkn hik ti tk hc hs hc2 hS =>
    have := g4 ho
    have e1 : (findP L x.a.toList).toNat = i := by rw [h.find]; omega
    have e2 : (findP L x.b.toList).toNat = k := by rw [hkf]; omega
    have c5 := qem L x.b (by omega)
    rw [h.find] at c2
    rw [hkf] at c5
    rw [if_neg (by omega), if_neg (by omega), if_neg (by omega), if_pos ho, e1, e2] at hR
    obtain ⟨a, ha⟩ : ∃ a, a = if k < i then i - 1 else i := ⟨_, rfl⟩
    rw [← ha] at hR
    have hai : a < row.length := by rw [ha]; split <;> omega
    have hsv := (qbd hr hai).s
    have c4 := rsplit_g row[a].s x.sep (by omega) hx.l.sep (by omega)
    rw [qbi hai] at hR
    unfold splitL2 at c4
    generalize qdf row[a].s.data.toList x.sep.data.toList = SP at *
    obtain ⟨A, B⟩ := SP
    dsimp only at hR c4
    simp only [List.map_cons, List.map_nil] at c4
    have c3 := cs a hai A
    obtain ⟨Z, hZ⟩ : ∃ Z, row.set a A = Z := ⟨_, rfl⟩
    have hzl : Z.length = row.length := by rw [← hZ, List.length_set]
    rw [hZ] at c3 hR
    have c6 := rput_g Z [B] k k (by omega) (by omega) (by omega) (by show 1 ≤ 1000; omega) R hR
    by_cases hki : k < i
    · have hki' : (k : Int) < i := by omega
      rw [if_pos hki] at ha
      have hae : (a : Int) = (i : Int) - 1 := by omega
      have hat : ((i : Int) - 1).toNat = a := by omega
      have hnn : ¬ (i : Int) - 1 < 0 := by omega
      have e9 : (i : Int) - 1 + 1 = i := by omega
      rw [hae, e9] at c3
      refine qh Tryz.func66 Tryz.ntmps66 fun σ n0 hcl hft => ?_
      repeat' (first | ((first | ((with_reducible refine qf (fun hg => ?_) (fun hg => ?_)) <;> (try simp only [hg]) <;> (try simp only [gS] at hg) <;> (try (first | simp only [eq_false hg, gI] | simp only [eq_true hg, gI]))) | refine Stp.m ?_ | refine qi ?_ | refine agH ?_) <;> (try simp (disch := first | omega | simp) [qd, -qg, -ql, qba ho, hai, hki', hat, hnn])) | refine sideA ?_ | refine qc fun K hK => ?_ | refine qa ?_ | refine qe ?_ | refine qb ?_ | (refine hK _ ?_; clear hK K) | clear hK K)
    · have hki' : ¬ (k : Int) < i := by omega
      rw [if_neg hki] at ha
      subst ha
      refine qh Tryz.func66 Tryz.ntmps66 fun σ n0 hcl hft => ?_
      repeat' (first | ((first | ((with_reducible refine qf (fun hg => ?_) (fun hg => ?_)) <;> (try simp only [hg]) <;> (try simp only [gS] at hg) <;> (try (first | simp only [eq_false hg, gI] | simp only [eq_true hg, gI]))) | refine Stp.m ?_ | refine qi ?_ | refine agH ?_) <;> (try simp (disch := first | omega | simp) [qd, -qg, -ql, qba ho, hai, hki'])) | refine sideA ?_ | refine qc fun K hK => ?_ | refine qa ?_ | refine qe ?_ | refine qb ?_ | (refine hK _ ?_; clear hK K) | clear hK K)
  case retype i hi ho h hn0 hn3 hv hk ht hS =>
    have := g2 (.inr (.inl ho))
    have hi2 : i < row.length := by omega
    have e1 : (findP L x.a.toList).toNat = i := by rw [h.find]; omega
    obtain ⟨q0, q1, q2⟩ := hcv ho i hi2 hi h.find
    rw [h.find] at c2
    have hsv := qbd hr hi2
    have c4 := rconv_g row[i] L[i].type ⟨L[i].type, 0, ⟨#[]⟩⟩ hsv.n (by have := hsv.s; omega) ⟨q0, q1⟩ q2
    rw [if_neg (by omega), if_neg (by omega), if_neg (by omega), if_neg (by omega), if_pos ho, e1, qbi hi2, qbu hi] at hR
    generalize convP row[i] L[i].type ⟨L[i].type, 0, ⟨#[]⟩⟩ = V at *
    have c3 := cs i hi2 V
    rw [hR] at c3
    refine qh Tryz.func66 Tryz.ntmps66 fun σ n0 hcl hft => ?_
    repeat' (first | ((first | ((with_reducible refine qf (fun hg => ?_) (fun hg => ?_)) <;> (try simp only [hg]) <;> (try simp only [gS] at hg) <;> (try (first | simp only [eq_false hg, gI] | simp only [eq_true hg, gI]))) | refine Stp.m ?_ | refine qi ?_ | refine agH ?_) <;> (try simp (disch := first | omega | simp) [qd, -qg, -ql, qba ho, hi2, hi])) | refine sideA ?_ | refine qc fun K hK => ?_ | refine qa ?_ | refine qe ?_ | refine qb ?_ | (refine hK _ ?_; clear hK K) | clear hK K)
  case scale i hi ho h ht hn hu hS =>
    have := g2 (.inr (.inr ho))
    have hi2 : i < row.length := by omega
    have e1 : (findP L x.a.toList).toNat = i := by rw [h.find]; omega
    rw [h.find] at c2
    rw [if_neg (by omega), if_neg (by omega), if_neg (by omega), if_neg (by omega), if_neg (by omega), if_pos ho, e1, qbi hi2] at hR
    have c3 := cs i hi2 ⟨0, IntKind.i64.wrap (row[i].n.tdiv x.n), ⟨#[]⟩⟩
    rw [hR] at c3
    refine qh Tryz.func66 Tryz.ntmps66 fun σ n0 hcl hft => ?_
    repeat' (first | ((first | ((with_reducible refine qf (fun hg => ?_) (fun hg => ?_)) <;> (try simp only [hg]) <;> (try simp only [gS] at hg) <;> (try (first | simp only [eq_false hg, gI] | simp only [eq_true hg, gI]))) | refine Stp.m ?_ | refine qi ?_ | refine agH ?_) <;> (try simp (disch := first | omega | simp) [qd, -qg, -ql, qba ho, hi2, hn])) | refine sideA ?_ | refine qc fun K hK => ?_ | refine qa ?_ | refine qe ?_ | refine qb ?_ | (refine hK _ ?_; clear hK K) | clear hK K)
end
end Go.Proofs.YtbkkjlcclddpdaaGreatDoor

/- Walks of layer 14's reference: Forward, Back. -/
namespace Go.Proofs.YtbkkjlcclddpdaaGreatDoor
open Go.RowKit Go.Lib
theorem conv_fit {v : Val} {c : Col} {t : Int} (hv : qbh v = true) (hk : v.k = c.type) (h0 : 0 ≤ t) (h3 : t < 3) (hne : c.type ≠ t) : convOk v t := by
  refine ⟨h0, h3, fun h1 => ?_⟩
  rcases rightV_cases hv with e | ⟨e, -⟩ | e | e
  · left; rw [e]
  · have : v.k = 1 := by rw [e]
    exact absurd (hk.symm.trans (this.trans h1.symm)) hne
  · right; left; rw [e]; rfl
  · right; right; rw [e]; rfl
theorem fit_at {row : List Val} {L : List Col} (h : FitOk row L) {i : Nat} (hi : i < row.length) (hL : i < L.length) : row[i].k = L[i].type ∧ qbh row[i] = true := by
  have hk := h.kinds
  have e : (row.map Val.k)[i]'(by simpa using hi) = (L.map Col.type)[i]'(by simpa using hL) := by simp only [hk]
  simp only [List.getElem_map] at e
  exact ⟨e, h.vals _ (List.getElem_mem hi)⟩
section
variable {l : List Lens} {cols : List Col} {ss : List (List Col)} {row : List Val} (hc : Chain l ss) (hc0 : shAt ss 0 = cols) (hs : qn l cols = (ss, 0)) (hS : qdp cols) (hl : ∀ x ∈ l, qdv x) (hL : l.length ≤ 60)
include hc hc0 hs hS hl hL
theorem conv_fwd (hf : FitOk row cols) {k : Nat} (hk : k < l.length) : l[k].op = 5 → ∀ i (hi : i < (fwdK l ss row k).length), findP (shAt ss k) l[k].a.toList = i → convOk (fwdK l ss row k)[i] l[k].n := fun ho i hi hfi => by
  have _u := And.intro hs (And.intro hl hL)
  have hF := chain_fwd hc (by rw [hc0]; exact hS) (row := row) (by rw [hc0]; exact hf) k (by omega)
  obtain ⟨g1, -⟩ := hc.ok k hk
  cases g1
  case retype j hj ho2 h hn0 hn3 hv hkv ht hR =>
    obtain rfl : i = j := by have := h.find; omega
    obtain ⟨e1, e2⟩ := fit_at hF hi hj
    exact conv_fit e2 e1 hn0 hn3 ht
  all_goals omega
set_option maxHeartbeats 4000000 in
theorem rforward_g (hf : FitOk row cols) (hr : qbv row) (R : List Val) (hR : qfg l ss row = R) :
    Gives Tryz.prog 26 [.sl (l.map Lens.av), .sl (cols.map Col.av), .sl (row.map Val.av)] (.sl (R.map Val.av)) := by
  have hlen := hf.len
  have hrow : row.length ≤ 12 := by have := hS.l1; omega
  have hk := fwdK_ok hc hl hr (by rw [hc0]; exact hlen)
  have hsr := qdk hc (by rw [hc0]; exact hS)
  have hsl := hc.len
  refine qh Tryz.func26 Tryz.ntmps26 fun σ n0 hcl hft => ?_
  repeat' (first | ((first | ((with_reducible refine qf (fun hg => ?_) (fun hg => ?_)) <;> (try simp only [hg]) <;> (try simp only [gS] at hg) <;> (try (first | simp only [eq_false hg, gI] | simp only [eq_true hg, gI]))) | refine Stp.m ?_) <;> (try simp (disch := first | omega | simp) [qd, -qg, -ql])) | refine sideA ?_ | refine qc fun K hK => ?_ | refine qa ?_ | refine qe ?_ | refine qb ?_ | (refine hK _ ?_; clear hK K) | clear hK K)
  refine awp_pubR 2 (by rfl) ?_
  refine qt hcl (fun k : Nat => [(0, .sl (l.map Lens.av)), (1, .sl ((shAt ss k).map Col.av)), (2, .sl ((fwdK l ss row k).map Val.av)), (7, .int k)]) (fun _ => [.tail row.length 27 3])
    (fun k => k ≤ l.length) (fun k => l.length - k) 0 (by omega) (by simp [fwdK, qfg, hc0]) fun k hkl => ?_
  by_cases hlt : k < l.length
  · obtain ⟨g1, g2⟩ := hk k hkl
    obtain ⟨g3, g4⟩ := hc.ok k hlt
    obtain ⟨g5, g6⟩ := hc.sz k hkl
    have hsk := hsr k hkl
    have c3 := rfwd_g (hl _ (List.getElem_mem hlt)) g6 g3 g2 g1 (conv_fwd hc hc0 hs hS hl hL hf hlt) _ rfl
    rw [← fwdK_succ hlt] at c3
    have c4 := rone_g l[k] (shAt ss k) (hl _ (List.getElem_mem hlt)).l hsk
    rw [g4] at c4
    repeat' (first | ((first | ((with_reducible refine qf (fun hg => ?_) (fun hg => ?_)) <;> (try simp only [hg]) <;> (try simp only [gS] at hg) <;> (try (first | simp only [eq_false hg, gI] | simp only [eq_true hg, gI]))) | refine Stp.m ?_ | refine qi ?_ | refine agH ?_) <;> (try simp (disch := first | omega | simp) [qd, -qg, -ql, hlt])) | refine sideA ?_ | refine qc fun K hK => ?_ | refine qa ?_ | refine qe ?_ | refine qb ?_ | (refine hK _ ?_; clear hK K) | clear hK K)
    exact ⟨k + 1, by omega, by omega, by simp⟩
  · obtain rfl : k = l.length := by omega
    rw [fwdK_all, hR]
    repeat' (first | ((first | ((with_reducible refine qf (fun hg => ?_) (fun hg => ?_)) <;> (try simp only [hg]) <;> (try simp only [gS] at hg) <;> (try (first | simp only [eq_false hg, gI] | simp only [eq_true hg, gI]))) | refine Stp.m ?_) <;> (try simp (disch := first | omega | simp) [qd, -qg, -ql, hlt])) | refine sideA ?_ | refine qc fun K hK => ?_ | refine qa ?_ | refine qe ?_ | refine qb ?_ | (refine hK _ ?_; clear hK K) | clear hK K)
theorem take_shapes {k : Nat} (hk : k ≤ l.length) : toP (l.take k) cols = (shAt ss k, 0) := by
  have _u := And.intro hc0 (And.intro hS hl)
  have h1 : ∀ (l : List Lens) (cols : List Col) (ss : List (List Col)) (k : Nat), qn l cols = (ss, 0) → k ≤ l.length → qn (l.take k) cols = (ss.take (k + 1), 0) := fun l => by
    clear hk hL hl hS hs hc0 hc
    induction l with
    | nil =>
      intro cols ss k h hk
      obtain rfl : k = 0 := by simpa using hk
      rw [qn] at h
      cases h
      rfl
    | cons y l ih =>
      intro cols ss k h hk
      cases k with
      | zero =>
        rw [qn] at h
        split at h
        · exact absurd (Prod.mk.inj h).2 (by assumption)
        · split at h
          · exact absurd (Prod.mk.inj h).2 (by assumption)
          · cases h; rfl
      | succ k =>
        rw [qn] at h
        split at h
        · exact absurd (Prod.mk.inj h).2 (by assumption)
        · split at h
          · exact absurd (Prod.mk.inj h).2 (by assumption)
          · rename_i h1 h2
            have h2' : (qn l (oneP y cols).1).2 = 0 := Classical.byContradiction h2
            cases h
            have := ih (oneP y cols).1 (qn l (oneP y cols).1).1 k (by rw [← h2']) (by simpa using hk)
            rw [List.take_succ_cons, qn, if_neg h1, this, if_neg (by simp)]
            rfl
  have h2 := h1 l cols ss k hs hk
  unfold toP
  rw [if_neg (by rw [List.length_take]; omega), h2, if_neg (by simp)]
  have hsl := hc.len
  have e : (l.take k).length = k := by rw [List.length_take]; omega
  rw [e]
  unfold shAt
  rw [List.getD_eq_getElem?_getD, List.getD_eq_getElem?_getD, List.getElem?_take_of_lt (by omega)]
theorem conv_bck (hf : FitOk row (shAt ss l.length)) {k : Nat} (hk : k < l.length) : l[k].op = 5 → ∀ i (hi : i < (bckK l ss row (k + 1)).length) (hL2 : i < (shAt ss k).length), findP (shAt ss k) l[k].a.toList = i → convOk (bckK l ss row (k + 1))[i] (shAt ss k)[i].type := fun ho i hi hL2 hfi => by
  have _u := And.intro hs (And.intro hl hL)
  have hF := chain_bck hc (by rw [hc0]; exact hS) (row := row) hf (l.length - (k + 1)) (k + 1) (by omega)
  obtain ⟨g1, g4⟩ := hc.ok k hk
  have hsk := qdk hc (by rw [hc0]; exact hS) k (by omega)
  cases g1
  case retype j hj ho2 h hn0 hn3 hv hkv ht hR =>
    obtain rfl : i = j := by have := h.find; omega
    have hl2 := hF.len
    have hL3 : i < (shAt ss (k + 1)).length := by omega
    obtain ⟨e1, e2⟩ := fit_at hF hi hL3
    have e3 : (shAt ss (k + 1))[i].type = l[k].n := by
      have : (shAt ss (k + 1)) = (shAt ss k).set i ⟨(shAt ss k)[i].name, l[k].n, ⟨#[]⟩⟩ := by rw [← g4, hR]
      simp [this]
    have hck := hsk.cols _ (List.getElem_mem hj)
    exact conv_fit (c := (shAt ss (k + 1))[i]) e2 e1 hck.k0 hck.k1 (by rw [e3]; exact fun e => ht e.symm)
  all_goals omega
set_option maxHeartbeats 4000000 in
theorem rback_k (hf : FitOk row (shAt ss l.length)) (hr : qbv row) : ∀ k, k ≤ l.length → Gives Tryz.prog 31 [.sl ((l.take k).map Lens.av), .sl (cols.map Col.av), .sl ((bckK l ss row k).map Val.av)] (.sl ((bckK l ss row 0).map Val.av)) := fun k => by
  have hbk := bckK_ok hc hl hr hf.len
  induction k with
  | zero =>
    intro _
    have hb := (hbk l.length 0 (by omega)).1
    have := (hc.sz 0 (by omega)).2
    obtain ⟨Z, hZ⟩ : ∃ Z, bckK l ss row 0 = Z := ⟨_, rfl⟩
    rw [hZ] at hb ⊢
    have hzl : Z.length ≤ 12 := by omega
    refine qh Tryz.func31 Tryz.ntmps31 fun σ n0 hcl hft => ?_
    repeat' (first | ((first | ((with_reducible refine qf (fun hg => ?_) (fun hg => ?_)) <;> (try simp only [hg]) <;> (try simp only [gS] at hg) <;> (try (first | simp only [eq_false hg, gI] | simp only [eq_true hg, gI]))) | refine Stp.m ?_) <;> (try simp (disch := first | omega | simp) [qd, -qg, -ql])) | refine sideA ?_ | refine qc fun K hK => ?_ | refine qa ?_ | refine qe ?_ | refine qb ?_ | (refine hK _ ?_; clear hK K) | clear hK K)
  | succ k ih =>
    intro hk
    have ih := ih (by omega)
    obtain ⟨g1, g2⟩ := hbk (l.length - (k + 1)) (k + 1) (by omega)
    obtain ⟨g3, g4⟩ := hc.ok k (by omega)
    obtain ⟨g5, g6⟩ := hc.sz k (by omega)
    obtain ⟨g7, g8⟩ := hc.sz (k + 1) (by omega)
    have c1 := rto_g (l.take k) cols (fun x hx => (hl x (List.mem_of_mem_take hx)).l) (by rw [List.length_take]; omega) hS
    rw [take_shapes hc hc0 hs hS hl hL (by omega)] at c1
    have c2 := rbck_g (hl _ (List.getElem_mem (by omega))) g6 g3 g2 (by omega) (by rw [g4]; exact g1) (conv_bck hc hc0 hs hS hl hL hf (by omega)) _ rfl
    rw [← bckK_pred (by omega)] at c2
    have hlk : (l.take (k + 1)).length = k + 1 := by rw [List.length_take]; omega
    have hne : ((k : Int) + 1 == 0) = false := by rw [beq_eq_false_iff_ne]; omega
    have hek : (l.take (k + 1))[k]? = some l[k] := by rw [List.getElem?_take_of_lt (by omega), List.getElem?_eq_getElem (by omega)]
    have ht : ((l.take (k + 1)).map Lens.av).take k = (l.take k).map Lens.av := by rw [← List.map_take, List.take_take, Nat.min_eq_left (by omega)]
    obtain ⟨Lk, hLk⟩ : ∃ Lk, l.take (k + 1) = Lk := ⟨_, rfl⟩
    rw [hLk] at hlk hek ht ⊢
    have hkL : k < Lk.length := by omega
    have hekL : Lk[k] = l[k] := by rw [List.getElem?_eq_getElem hkL] at hek; exact Option.some.inj hek
    have hlki : (Lk.length : Int) = (k : Int) + 1 := by omega
    have t1 : ((k : Int) + 1 - 1) = k := by omega
    rw [← ht] at ih c1
    refine qh Tryz.func31 Tryz.ntmps31 fun σ n0 hcl hft => ?_
    repeat' (first | ((first | ((with_reducible refine qf (fun hg => ?_) (fun hg => ?_)) <;> (try simp only [hg]) <;> (try simp only [gS] at hg) <;> (try (first | simp only [eq_false hg, gI] | simp only [eq_true hg, gI]))) | refine Stp.m ?_ | refine qi ?_ | refine agH ?_) <;> (try simp (disch := first | omega | simp) [qd, -qg, -ql, hlki, hne, hkL, hekL])) | refine sideA ?_ | refine qc fun K hK => ?_ | refine qa ?_ | refine qe ?_ | refine qb ?_ | (refine hK _ ?_; clear hK K) | clear hK K)
end
end Go.Proofs.YtbkkjlcclddpdaaGreatDoor
