/- Walks of the laws of layer 26: the examples, and the bounds. -/
import Derived.Test.YtnkimlkoijfcpaaGreatDoorGe6
import Derived.Test.YtnkimlkoijfcpaaGreatDoorGe7
import Derived.Test.YtnkimlkoijfcpaaGreatDoorGe10
import Derived.Test.YtnkimlkoijfcpaaGreatDoorGe11
import Derived.Test.YtnkimlkoijfcpaaGreatDoorGe15
import Derived.Test.YtnkimlkoijfcpaaGreatDoorGe20
import Derived.Test.YtnkimlkoijfcpaaGreatDoorGe21
import Derived.Test.YtnkimlkoijfcpaaGreatDoorGe22
import Derived.Test.YtnkimlkoijfcpaaGreatDoorGe23
import Derived.Test.YtnkimlkoijfcpaaGreatDoorGe25
import Derived.Test.YtnkimlkoijfcpaaGreatDoorGe27
set_option linter.unusedSimpArgs false
set_option linter.unusedVariables false
namespace Go.Proofs.YtnkimlkoijfcpaaGreatDoor
open Go.RowKit Go.Lib
theorem col26_g (n : Int) : Gives Tryz.prog 35 [.int n] (Ex.mk 3 n ByteArray.empty []).av := by
  refine qo Tryz.func35 Tryz.ntmps35 rfl rfl (by decide) rfl (by intro n; simp) fun σ n0 hcl hft => ?_
  repeat' (first | ((first | ((with_reducible refine qq (fun hg => ?_) (fun hg => ?_)) <;> (try simp only [hg]) <;> (try simp only [gS] at hg) <;> (try (first | simp only [eq_false hg, gI] | simp only [eq_true hg, gI]))) | (with_reducible first | refine qh ?_ | refine qg ?_ | refine ql ?_ | refine qk ?_) | refine qe ?_ | refine qi ?_ | refine qj ?_ | refine qn ?_) <;> (try simp (disch := first | omega | simp) [qc, -qr, -qz])) | ((with_reducible refine sideT ?_ ?_); first | omega | assumption | (simp; done)) | (refine qf fun K hK => ?_) | (refine qa ?_) | (refine qb true (by kernel_rfl) (by kernel_rfl) ?_) | (refine hK _ ?_; clear hK K) | (clear hK K; refine hK _ ?_; clear hK K) | (clear hK K; clear hK K; refine hK _ ?_; clear hK K) | refine qd ?_)
theorem two26_g (op : Int) (a b : Ex) : Gives Tryz.prog 34 [.int op, a.av, b.av] (Ex.mk op 0 ByteArray.empty [a, b]).av := by
  refine qo Tryz.func34 Tryz.ntmps34 rfl rfl (by decide) rfl (by intro n; simp) fun σ n0 hcl hft => ?_
  repeat' (first | ((first | ((with_reducible refine qq (fun hg => ?_) (fun hg => ?_)) <;> (try simp only [hg]) <;> (try simp only [gS] at hg) <;> (try (first | simp only [eq_false hg, gI] | simp only [eq_true hg, gI]))) | (with_reducible first | refine qh ?_ | refine qg ?_ | refine ql ?_ | refine qk ?_) | refine qe ?_ | refine qi ?_ | refine qj ?_ | refine qn ?_) <;> (try simp (disch := first | omega | simp) [qc, -qr, -qz])) | ((with_reducible refine sideT ?_ ?_); first | omega | assumption | (simp; done)) | (refine qf fun K hK => ?_) | (refine qa ?_) | (refine qb true (by kernel_rfl) (by kernel_rfl) ?_) | (refine hK _ ?_; clear hK K) | (clear hK K; refine hK _ ?_; clear hK K) | (clear hK K; clear hK K; refine hK _ ?_; clear hK K) | refine qd ?_)
set_option maxHeartbeats 4000000 in
theorem ops26_g (c : Cod) (l : List Int) (hl : l.length ≤ 1000000) (hc : c.ins.length ≤ 1000000) : Gives Tryz.prog 36 [c.av, .sl (l.map AV.int)] (.bool (decide (c.ins.map Ins.op = l))) := by
  obtain ⟨ins, types, out⟩ := c
  simp only at *
  by_cases hlen : ins.length = l.length
  · have hlenI : (ins.length : Int) = l.length := by omega
    refine qo Tryz.func36 Tryz.ntmps36 rfl rfl (by decide) rfl (by intro n; simp) fun σ n0 hcl hft => ?_
    repeat' (first | ((first | ((with_reducible refine qq (fun hg => ?_) (fun hg => ?_)) <;> (try simp only [hg]) <;> (try simp only [gS] at hg) <;> (try (first | simp only [eq_false hg, gI] | simp only [eq_true hg, gI]))) | (with_reducible first | refine qh ?_ | refine qg ?_ | refine ql ?_ | refine qk ?_) | refine qe ?_ | refine qi ?_ | refine qj ?_ | refine qn ?_) <;> (try simp (disch := first | omega | simp) [qc, -qr, -qz, hlen, hlenI])) | ((with_reducible refine sideT ?_ ?_); first | omega | assumption | (simp; done)) | (refine qf fun K hK => ?_) | (refine qa ?_) | (refine qb true (by kernel_rfl) (by kernel_rfl) ?_) | (refine qb false (by kernel_rfl) (by kernel_rfl) ?_) | (refine hK _ ?_; clear hK K) | (clear hK K; refine hK _ ?_; clear hK K) | (clear hK K; clear hK K; refine hK _ ?_; clear hK K) | refine qd ?_)
    refine qbc hcl (fun k : Nat => [(1, .sl (l.map AV.int)), (2, .ptr n0 0), (5, .int k)]) (fun _ => [.cells [.sl (ins.map Ins.av), .sl (types.map AV.int), .int out] 45])
      (fun k => k ≤ l.length ∧ ∀ j (h : j < ins.length) (h2 : j < l.length), j < k → ins[j].op = l[j]) (fun k => l.length - k) 0 (by simp) (by simp) fun k ⟨hk, he⟩ => ?_
    by_cases hlt : k < l.length
    · have hlt2 : k < ins.length := by omega
      by_cases heq : ins[k].op = l[k]
      · repeat' (first | ((first | ((with_reducible refine qq (fun hg => ?_) (fun hg => ?_)) <;> (try simp only [hg]) <;> (try simp only [gS] at hg) <;> (try (first | simp only [eq_false hg, gI] | simp only [eq_true hg, gI]))) | (with_reducible first | refine qh ?_ | refine qg ?_ | refine ql ?_ | refine qk ?_) | refine qe ?_ | refine qi ?_ | refine qj ?_ | refine qn ?_) <;> (try simp (disch := first | omega | simp) [qc, -qr, -qz, hlt, hlt2, heq])) | ((with_reducible refine sideT ?_ ?_); first | omega | assumption | (simp; done)) | (refine qf fun K hK => ?_) | (refine qa ?_) | (refine qb true (by kernel_rfl) (by kernel_rfl) ?_) | (refine qb false (by kernel_rfl) (by kernel_rfl) ?_) | (refine hK _ ?_; clear hK K) | (clear hK K; refine hK _ ?_; clear hK K) | (clear hK K; clear hK K; refine hK _ ?_; clear hK K) | refine qd ?_)
        all_goals first | exact absurd heq (by assumption) | exact ⟨k + 1, ⟨by omega, fun j h h2 hj => by
          by_cases hjk : j = k
          · subst hjk; exact heq
          · exact he j h h2 (by omega)⟩, by omega, by simp⟩
      · have : ¬ ins.map Ins.op = l := fun e => heq (by subst e; simp)
        repeat' (first | ((first | ((with_reducible refine qq (fun hg => ?_) (fun hg => ?_)) <;> (try simp only [hg]) <;> (try simp only [gS] at hg) <;> (try (first | simp only [eq_false hg, gI] | simp only [eq_true hg, gI]))) | (with_reducible first | refine qh ?_ | refine qg ?_ | refine ql ?_ | refine qk ?_) | refine qe ?_ | refine qi ?_ | refine qj ?_ | refine qn ?_) <;> (try simp (disch := first | omega | simp) [qc, -qr, -qz, hlt, hlt2, heq])) | ((with_reducible refine sideT ?_ ?_); first | omega | assumption | (simp; done)) | (refine qf fun K hK => ?_) | (refine qa ?_) | (refine qb true (by kernel_rfl) (by kernel_rfl) ?_) | (refine qb false (by kernel_rfl) (by kernel_rfl) ?_) | (refine hK _ ?_; clear hK K) | (clear hK K; refine hK _ ?_; clear hK K) | (clear hK K; clear hK K; refine hK _ ?_; clear hK K) | refine qd ?_)
        all_goals first | exact absurd (by assumption) heq | (simp [this]; done)
    · have : ins.map Ins.op = l := by
        apply List.ext_getElem (by simpa using hlen)
        intro i h1 h2
        rw [List.getElem_map]; exact he i _ h2 (by omega)
      repeat' (first | ((first | ((with_reducible refine qq (fun hg => ?_) (fun hg => ?_)) <;> (try simp only [hg]) <;> (try simp only [gS] at hg) <;> (try (first | simp only [eq_false hg, gI] | simp only [eq_true hg, gI]))) | (with_reducible first | refine qh ?_ | refine qg ?_ | refine ql ?_ | refine qk ?_) | refine qe ?_ | refine qi ?_ | refine qj ?_ | refine qn ?_) <;> (try simp (disch := first | omega | simp) [qc, -qr, -qz, hlt])) | ((with_reducible refine sideT ?_ ?_); first | omega | assumption | (simp; done)) | (refine qf fun K hK => ?_) | (refine qa ?_) | (refine qb true (by kernel_rfl) (by kernel_rfl) ?_) | (refine qb false (by kernel_rfl) (by kernel_rfl) ?_) | (refine hK _ ?_; clear hK K) | (clear hK K; refine hK _ ?_; clear hK K) | (clear hK K; clear hK K; refine hK _ ?_; clear hK K) | refine qd ?_)
      all_goals (simp [this])
  · have hne : ¬ ins.map Ins.op = l := fun e => hlen (by subst e; simp)
    have hlenI : ¬ (ins.length : Int) = l.length := by omega
    refine qo Tryz.func36 Tryz.ntmps36 rfl rfl (by decide) rfl (by intro n; simp) fun σ n0 hcl hft => ?_
    repeat' (first | ((first | ((with_reducible refine qq (fun hg => ?_) (fun hg => ?_)) <;> (try simp only [hg]) <;> (try simp only [gS] at hg) <;> (try (first | simp only [eq_false hg, gI] | simp only [eq_true hg, gI]))) | (with_reducible first | refine qh ?_ | refine qg ?_ | refine ql ?_ | refine qk ?_) | refine qe ?_ | refine qi ?_ | refine qj ?_ | refine qn ?_) <;> (try simp (disch := first | omega | simp) [qc, -qr, -qz, hlenI, hne])) | ((with_reducible refine sideT ?_ ?_); first | omega | assumption | (simp; done)) | (refine qf fun K hK => ?_) | (refine qa ?_) | (refine qb true (by kernel_rfl) (by kernel_rfl) ?_) | (refine qb false (by kernel_rfl) (by kernel_rfl) ?_) | (refine hK _ ?_; clear hK K) | (clear hK K; refine hK _ ?_; clear hK K) | (clear hK K; clear hK K; refine hK _ ?_; clear hK K) | refine qd ?_)
    all_goals first | exact absurd (by assumption) hlenI | (simp [hne]; done)
def ex26a : Ex := .mk 8 0 ByteArray.empty [.mk 3 0 ByteArray.empty [], .mk 10 0 ByteArray.empty [.mk 0 2 ByteArray.empty [], .mk 0 3 ByteArray.empty []]]
def ex26s : Ex := .mk 8 0 ByteArray.empty [.mk 3 0 ByteArray.empty [], .mk 0 1 ByteArray.empty []]
def ex26b : Ex := .mk 10 0 ByteArray.empty [ex26s, ex26s]
def ex26c : Ex := .mk 21 0 ByteArray.empty [.mk 2 1 ByteArray.empty [], .mk 3 0 ByteArray.empty [], .mk 0 5 ByteArray.empty []]
def ex26d : Ex := .mk 8 0 ByteArray.empty [.mk 3 1 ByteArray.empty [], .mk 0 1 ByteArray.empty []]
theorem com26a : qdr [] [0, 1] ex26a = (⟨[⟨3, 0, 0, 0, 0, 0, ByteArray.empty⟩, ⟨0, 1, 0, 0, 0, 6, ByteArray.empty⟩, ⟨8, 0, 0, 1, 0, 0, ByteArray.empty⟩], [0, 0], 0⟩, 0) := by kernel_rfl
theorem com26b : qdr [] [0, 1] ex26b = (⟨[⟨3, 0, 0, 0, 0, 0, ByteArray.empty⟩, ⟨0, 1, 0, 0, 0, 1, ByteArray.empty⟩, ⟨8, 0, 0, 1, 0, 0, ByteArray.empty⟩, ⟨10, 0, 0, 0, 0, 0, ByteArray.empty⟩], [0, 0], 0⟩, 0) := by kernel_rfl
theorem com26c : qdr [] [0, 1] ex26c = (⟨[⟨3, 0, 0, 0, 0, 0, ByteArray.empty⟩], [0], 0⟩, 0) := by kernel_rfl
theorem com26d : qdr [] [0, 1] ex26d = (⟨[], [], 0⟩, 13) := by kernel_rfl
theorem n64_small : n64 ex26a ∧ n64 ex26b ∧ n64 ex26c ∧ n64 ex26d := by
  have h0 : ByteArray.empty.size ≤ 9223372036854775807 := by decide
  refine ⟨?_, ?_, ?_, ?_⟩ <;> simp [ex26a, ex26b, ex26c, ex26d, ex26s, qcn, NS, I64, h0]
theorem small26_g : Gives Tryz.prog 7 [] (.bool true) := by
  obtain ⟨na, nb, nc, nd⟩ := n64_small
  have ca := Compile_g [] [0, 1] ex26a (by simp) (by simp) (by simp) (by decide) na (by simp)
  have cb := Compile_g [] [0, 1] ex26b (by simp) (by simp) (by simp) (by decide) nb (by simp)
  have cc := Compile_g [] [0, 1] ex26c (by simp) (by simp) (by simp) (by decide) nc (by simp)
  have cd := Compile_g [] [0, 1] ex26d (by simp) (by simp) (by simp) (by decide) nd (by simp)
  rw [com26a] at ca
  rw [com26b] at cb
  rw [com26c] at cc
  rw [com26d] at cd
  have o1 := ops26_g ⟨[⟨3, 0, 0, 0, 0, 0, ByteArray.empty⟩, ⟨0, 1, 0, 0, 0, 6, ByteArray.empty⟩, ⟨8, 0, 0, 1, 0, 0, ByteArray.empty⟩], [0, 0], 0⟩ [3, 0, 8] (by simp) (by simp)
  have o2 := ops26_g ⟨[⟨3, 0, 0, 0, 0, 0, ByteArray.empty⟩, ⟨0, 1, 0, 0, 0, 1, ByteArray.empty⟩, ⟨8, 0, 0, 1, 0, 0, ByteArray.empty⟩, ⟨10, 0, 0, 0, 0, 0, ByteArray.empty⟩], [0, 0], 0⟩ [3, 0, 8, 10] (by simp) (by simp)
  have o3 := ops26_g ⟨[⟨3, 0, 0, 0, 0, 0, ByteArray.empty⟩], [0], 0⟩ [3] (by simp) (by simp)
  simp only [ex26a, ex26b, ex26c, ex26d, ex26s, Ex.av_mk, List.map_cons, List.map_nil, Cod.av, Ins.av] at ca cb cc cd o1 o2 o3
  simp at o1 o2 o3
  have w1 := col26_g 0
  have w2 := col26_g 1
  have v1 := two26_g 10 (.mk 0 2 ByteArray.empty []) (.mk 0 3 ByteArray.empty [])
  have v2 := two26_g 8 (.mk 3 0 ByteArray.empty []) (.mk 10 0 ByteArray.empty [.mk 0 2 ByteArray.empty [], .mk 0 3 ByteArray.empty []])
  have v3 := two26_g 8 (.mk 3 0 ByteArray.empty []) (.mk 0 1 ByteArray.empty [])
  have v4 := two26_g 10 ex26s ex26s
  have v5 := two26_g 8 (.mk 3 1 ByteArray.empty []) (.mk 0 1 ByteArray.empty [])
  simp only [ex26s, Ex.av_mk, List.map_cons, List.map_nil] at w1 w2 v1 v2 v3 v4 v5
  refine qo Tryz.func7 Tryz.ntmps7 rfl rfl (by decide) rfl (by intro n; simp) fun σ n0 hcl hft => ?_
  repeat' (first | ((first | ((with_reducible refine qq (fun hg => ?_) (fun hg => ?_)) <;> (try simp only [hg]) <;> (try simp only [gS] at hg) <;> (try (first | simp only [eq_false hg, gI] | simp only [eq_true hg, gI]))) | (with_reducible first | refine qh ?_ | refine qg ?_ | refine ql ?_ | refine qk ?_) | refine acall (w1) ?_ | refine qp (w1) ?_ | refine qm (w1) ?_ | refine acall (w2) ?_ | refine qp (w2) ?_ | refine qm (w2) ?_ | refine acall (v1) ?_ | refine qp (v1) ?_ | refine qm (v1) ?_ | refine acall (v2) ?_ | refine qp (v2) ?_ | refine qm (v2) ?_ | refine acall (v3) ?_ | refine qp (v3) ?_ | refine qm (v3) ?_ | refine acall (v4) ?_ | refine qp (v4) ?_ | refine qm (v4) ?_ | refine acall (v5) ?_ | refine qp (v5) ?_ | refine qm (v5) ?_ | refine acall (ca) ?_ | refine qp (ca) ?_ | refine qm (ca) ?_ | refine acall (cb) ?_ | refine qp (cb) ?_ | refine qm (cb) ?_ | refine acall (cc) ?_ | refine qp (cc) ?_ | refine qm (cc) ?_ | refine acall (cd) ?_ | refine qp (cd) ?_ | refine qm (cd) ?_ | refine acall (o1) ?_ | refine qp (o1) ?_ | refine qm (o1) ?_ | refine acall (o2) ?_ | refine qp (o2) ?_ | refine qm (o2) ?_ | refine acall (o3) ?_ | refine qp (o3) ?_ | refine qm (o3) ?_ | refine qe ?_ | refine qi ?_ | refine qj ?_ | refine qn ?_) <;> (try simp (disch := first | omega | simp) [qc, -qr, -qz])) | ((with_reducible refine sideT ?_ ?_); first | omega | assumption | (simp; done)) | (refine qf fun K hK => ?_) | (refine qa ?_) | (refine qb true (by kernel_rfl) (by kernel_rfl) ?_) | (refine qb false (by kernel_rfl) (by kernel_rfl) ?_) | (refine hK _ ?_; clear hK K) | (clear hK K; refine hK _ ?_; clear hK K) | (clear hK K; clear hK K; refine hK _ ?_; clear hK K) | refine qd ?_)
end Go.Proofs.YtnkimlkoijfcpaaGreatDoor

/- Walks of the laws of layer 26: running a program. -/
namespace Go.Proofs.YtnkimlkoijfcpaaGreatDoor
open Go.RowKit Go.Lib
theorem callN_zero (time : Int) (m : Nat) : callN [] time m = fun _ _ => zeroV := by
  funext i vs; exact callN_nil time m i vs
end Go.Proofs.YtnkimlkoijfcpaaGreatDoor

/- Contracts of Steps, as abstract ones. -/
namespace Go.Proofs.YtnkimlkoijfcpaaGreatDoor
open Go.RowKit Go.Lib
end Go.Proofs.YtnkimlkoijfcpaaGreatDoor

/- Layer 27 on plain data: batches that fit; the columns of a program. -/
namespace Go.Proofs.YtnkimlkoijfcpaaGreatDoor
open Go.RowKit Go.Lib
theorem rightV_sound {v : Val} (h : rightV v = true) : qba v := by
  rw [rightV_eq] at h
  unfold qba okV
  by_cases h0 : v.k = 0
  · rw [if_pos h0] at h ⊢
    refine ⟨h, ?_⟩
    have h1 : v.s.toList = [] := by simpa using h
    have h2 : v.s.size = 0 := by rw [Lib.size_eq, ← ByteArray.toList_eq, h1]; rfl
    omega
  · rw [if_neg h0] at h ⊢
    by_cases h1 : v.k = 1
    · rw [if_pos h1] at h ⊢
      simp only [Bool.and_eq_true, decide_eq_true_eq] at h ⊢
      exact ⟨⟨h.1, by omega⟩, h.2⟩
    · rw [if_neg h1] at h ⊢
      refine ⟨h, ?_⟩
      simp only [Bool.and_eq_true, decide_eq_true_eq] at h
      have h2 : v.s.size = 0 := by rw [Lib.size_eq, ← ByteArray.toList_eq, h.2]; rfl
      omega
end Go.Proofs.YtnkimlkoijfcpaaGreatDoor

/- Walks of the laws of layer 26: the bounds. -/
namespace Go.Proofs.YtnkimlkoijfcpaaGreatDoor
open Go.RowKit Go.Lib
def slimP (e : Ex) : Bool := decide (levels e ≤ 20) && decide (parts e ≤ 300)
def fnB (f : Fn) : Bool := slimP f.body && decide (f.params.length ≤ 20)
def light26 (F : List Fn) (cols : List Int) (e : Ex) : Bool := F.all fnB && (decide (F.length ≤ 25) && decide (cols.length ≤ 30) && slimP e)
theorem slim26_g (e : Ex) (hp : parts e ≤ 1000000) : Gives Tryz.prog 37 [e.av] (.bool (slimP e)) := by
  have h1 := qdl e
  have c1 := rlevels_g e (by omega)
  have c2 := rparts_g e hp
  obtain ⟨R, hR⟩ : ∃ R, R = slimP e := ⟨_, rfl⟩
  rw [← hR]
  unfold slimP at hR
  refine qo Tryz.func37 Tryz.ntmps37 rfl rfl (by decide) rfl (by intro n; simp) fun σ n0 hcl hft => ?_
  repeat' (first | ((first | ((with_reducible refine qq (fun hg => ?_) (fun hg => ?_)) <;> (try simp only [hg]) <;> (try simp only [gS] at hg) <;> (try (first | simp only [eq_false hg, gI] | simp only [eq_true hg, gI]))) | (with_reducible first | refine qh ?_ | refine qg ?_ | refine ql ?_ | refine qk ?_) | refine acall (c1) ?_ | refine qp (c1) ?_ | refine qm (c1) ?_ | refine acall (c2) ?_ | refine qp (c2) ?_ | refine qm (c2) ?_ | refine qe ?_ | refine qi ?_ | refine qj ?_ | refine qn ?_) <;> (try simp (disch := first | omega | simp) [qc, -qr, -qz])) | ((with_reducible refine sideT ?_ ?_); first | omega | assumption | (simp; done)) | (refine qf fun K hK => ?_) | (refine qa ?_) | (refine qb true (by kernel_rfl) (by kernel_rfl) ?_) | (refine qb false (by kernel_rfl) (by kernel_rfl) ?_) | (refine hK _ ?_; clear hK K) | (clear hK K; refine hK _ ?_; clear hK K) | (clear hK K; clear hK K; refine hK _ ?_; clear hK K) | refine qd ?_)
  all_goals (rw [hR]; simp_all; try omega)
theorem light26_g (F : List Fn) (cols : List Int) (e : Ex) (hlF : F.length ≤ 2000000) (hF : ∀ f ∈ F, parts f.body ≤ 1000000) (hp : parts e ≤ 1000000) : Gives Tryz.prog 8 [.sl (F.map Fn.av), .sl (cols.map AV.int), e.av] (.bool (light26 F cols e)) := by
  have c2 := slim26_g e hp
  obtain ⟨R, hR⟩ : ∃ R, R = light26 F cols e := ⟨_, rfl⟩
  rw [← hR]
  unfold light26 at hR
  refine qo Tryz.func8 Tryz.ntmps8 rfl rfl (by decide) rfl (by intro n; simp) fun σ n0 hcl hft => ?_
  repeat' (first | ((first | ((with_reducible refine qq (fun hg => ?_) (fun hg => ?_)) <;> (try simp only [hg]) <;> (try simp only [gS] at hg) <;> (try (first | simp only [eq_false hg, gI] | simp only [eq_true hg, gI]))) | (with_reducible first | refine qh ?_ | refine qg ?_ | refine ql ?_ | refine qk ?_) | refine qe ?_ | refine qi ?_ | refine qj ?_ | refine qn ?_) <;> (try simp (disch := first | omega | simp) [qc, -qr, -qz])) | ((with_reducible refine sideT ?_ ?_); first | omega | assumption | (simp; done)) | (refine qf fun K hK => ?_) | (refine qa ?_) | (refine qb true (by kernel_rfl) (by kernel_rfl) ?_) | (refine qb false (by kernel_rfl) (by kernel_rfl) ?_) | (refine hK _ ?_; clear hK K) | (clear hK K; refine hK _ ?_; clear hK K) | (clear hK K; clear hK K; refine hK _ ?_; clear hK K) | refine qd ?_)
  refine qbc hcl (fun k : Nat => [(0, .sl (F.map Fn.av)), (1, .sl (cols.map AV.int)), (5, .ptr n0 0), (7, .int k)]) (fun _ => [.cells [.int e.op, .int e.n, .str e.s, .sl (e.args.map Ex.av)] 25])
    (fun k => k ≤ F.length ∧ ∀ j (h : j < F.length), j < k → fnB F[j] = true) (fun k => F.length - k) 0 (by simp) (by simp) fun k ⟨hk, he⟩ => ?_
  by_cases hlt : k < F.length
  · have c1 := slim26_g F[k].body (hF _ (List.getElem_mem hlt))
    cases hb : fnB F[k] with
    | true =>
      have hb2 := hb
      unfold fnB at hb2
      simp only [Bool.and_eq_true, decide_eq_true_eq] at hb2
      rw [hb2.1] at c1
      have hp20 : ¬ (20 : Int) < F[k].params.length := by omega
      repeat' (first | ((first | ((with_reducible refine qq (fun hg => ?_) (fun hg => ?_)) <;> (try simp only [hg]) <;> (try simp only [gS] at hg) <;> (try (first | simp only [eq_false hg, gI] | simp only [eq_true hg, gI]))) | (with_reducible first | refine qh ?_ | refine qg ?_ | refine ql ?_ | refine qk ?_) | refine acall (c1) ?_ | refine qp (c1) ?_ | refine qm (c1) ?_ | refine qe ?_ | refine qi ?_ | refine qj ?_ | refine qn ?_) <;> (try simp (disch := first | omega | simp) [qc, -qr, -qz, hlt, hp20])) | ((with_reducible refine sideT ?_ ?_); first | omega | assumption | (simp; done)) | (refine qf fun K hK => ?_) | (refine qa ?_) | (refine qb true (by kernel_rfl) (by kernel_rfl) ?_) | (refine qb false (by kernel_rfl) (by kernel_rfl) ?_) | (refine hK _ ?_; clear hK K) | (clear hK K; refine hK _ ?_; clear hK K) | (clear hK K; clear hK K; refine hK _ ?_; clear hK K) | refine qd ?_)
      all_goals first | (exfalso; omega) | exact ⟨k + 1, ⟨by omega, upto_succ (C := fun f : Fn => fnB f = true) he fun _ => hb⟩, by omega, by simp⟩
    | false =>
      have hR0 : R = false := by rw [hR, all_hit hlt hb, Bool.false_and]
      unfold fnB at hb
      cases hs : slimP F[k].body with
      | true =>
        rw [hs] at c1 hb
        have hp20 : (20 : Int) < F[k].params.length := by simp at hb; omega
        repeat' (first | ((first | ((with_reducible refine qq (fun hg => ?_) (fun hg => ?_)) <;> (try simp only [hg]) <;> (try simp only [gS] at hg) <;> (try (first | simp only [eq_false hg, gI] | simp only [eq_true hg, gI]))) | (with_reducible first | refine qh ?_ | refine qg ?_ | refine ql ?_ | refine qk ?_) | refine acall (c1) ?_ | refine qp (c1) ?_ | refine qm (c1) ?_ | refine qe ?_ | refine qi ?_ | refine qj ?_ | refine qn ?_) <;> (try simp (disch := first | omega | simp) [qc, -qr, -qz, hlt, hp20])) | ((with_reducible refine sideT ?_ ?_); first | omega | assumption | (simp; done)) | (refine qf fun K hK => ?_) | (refine qa ?_) | (refine qb true (by kernel_rfl) (by kernel_rfl) ?_) | (refine qb false (by kernel_rfl) (by kernel_rfl) ?_) | (refine hK _ ?_; clear hK K) | (clear hK K; refine hK _ ?_; clear hK K) | (clear hK K; clear hK K; refine hK _ ?_; clear hK K) | refine qd ?_)
        all_goals first | (exfalso; omega) | exact hR0.symm | (rw [hR0]; done)
      | false =>
        rw [hs] at c1
        repeat' (first | ((first | ((with_reducible refine qq (fun hg => ?_) (fun hg => ?_)) <;> (try simp only [hg]) <;> (try simp only [gS] at hg) <;> (try (first | simp only [eq_false hg, gI] | simp only [eq_true hg, gI]))) | (with_reducible first | refine qh ?_ | refine qg ?_ | refine ql ?_ | refine qk ?_) | refine acall (c1) ?_ | refine qp (c1) ?_ | refine qm (c1) ?_ | refine qe ?_ | refine qi ?_ | refine qj ?_ | refine qn ?_) <;> (try simp (disch := first | omega | simp) [qc, -qr, -qz, hlt])) | ((with_reducible refine sideT ?_ ?_); first | omega | assumption | (simp; done)) | (refine qf fun K hK => ?_) | (refine qa ?_) | (refine qb true (by kernel_rfl) (by kernel_rfl) ?_) | (refine qb false (by kernel_rfl) (by kernel_rfl) ?_) | (refine hK _ ?_; clear hK K) | (clear hK K; refine hK _ ?_; clear hK K) | (clear hK K; clear hK K; refine hK _ ?_; clear hK K) | refine qd ?_)
        all_goals first | exact hR0.symm | (rw [hR0]; done)
  · obtain rfl : k = F.length := by omega
    have hall : F.all fnB = true := all_end fun j h => he j h (by omega)
    rw [hall, Bool.true_and] at hR
    repeat' (first | ((first | ((with_reducible refine qq (fun hg => ?_) (fun hg => ?_)) <;> (try simp only [hg]) <;> (try simp only [gS] at hg) <;> (try (first | simp only [eq_false hg, gI] | simp only [eq_true hg, gI]))) | (with_reducible first | refine qh ?_ | refine qg ?_ | refine ql ?_ | refine qk ?_) | refine acall (c2) ?_ | refine qp (c2) ?_ | refine qm (c2) ?_ | refine qe ?_ | refine qi ?_ | refine qj ?_ | refine qn ?_) <;> (try simp (disch := first | omega | simp) [qc, -qr, -qz, hlt])) | ((with_reducible refine sideT ?_ ?_); first | omega | assumption | (simp; done)) | (refine qf fun K hK => ?_) | (refine qa ?_) | (refine qb true (by kernel_rfl) (by kernel_rfl) ?_) | (refine qb false (by kernel_rfl) (by kernel_rfl) ?_) | (refine hK _ ?_; clear hK K) | (clear hK K; refine hK _ ?_; clear hK K) | (clear hK K; clear hK K; refine hK _ ?_; clear hK K) | refine qd ?_)
    all_goals (rw [hR]; simp_all; try omega)
def fits26 (cols : List Int) (row : List Val) : Bool := row.all rightV && decide (row.map Val.k = cols)
theorem fits26_fit {cols : List Int} {r : List Val} (h : fits26 cols r = true) : qbs cols r ∧ r.map Val.k = cols ∧ ∀ v ∈ r, qba v := by
  unfold fits26 at h
  simp only [Bool.and_eq_true, decide_eq_true_eq, List.all_eq_true] at h
  have hs := fun v hv => rightV_sound (h.1 v hv)
  refine ⟨?_, h.2, hs⟩
  rw [← h.2]; exact qbs.of hs
set_option maxHeartbeats 4000000 in
theorem fits26_g (row : List Val) (cols : List Int) (hr : row.length ≤ 1000000) : Gives Tryz.prog 16 [.sl (row.map Val.av), .sl (cols.map AV.int)] (.bool (fits26 cols row)) := by
  obtain ⟨R, hR⟩ : ∃ R, R = fits26 cols row := ⟨_, rfl⟩
  rw [← hR]
  unfold fits26 at hR
  by_cases hlen : row.length = cols.length
  · have hlenI : (row.length : Int) = cols.length := by omega
    have hlenB : ((row.length : Int) != cols.length) = false := by simp [hlenI]
    refine qo Tryz.func16 Tryz.ntmps16 rfl rfl (by decide) rfl (by intro n; simp) fun σ n0 hcl hft => ?_
    repeat' (first | ((first | ((with_reducible refine qq (fun hg => ?_) (fun hg => ?_)) <;> (try simp only [hg]) <;> (try simp only [gS] at hg) <;> (try (first | simp only [eq_false hg, gI] | simp only [eq_true hg, gI]))) | (with_reducible first | refine qh ?_ | refine qg ?_ | refine ql ?_ | refine qk ?_) | refine qe ?_ | refine qi ?_ | refine qj ?_ | refine qn ?_) <;> (try simp (disch := first | omega | simp) [qc, -qr, -qz, hlenI, hlenB])) | ((with_reducible refine sideT ?_ ?_); first | omega | assumption | (simp; done)) | (refine qf fun K hK => ?_) | (refine qa ?_) | (refine qb true (by kernel_rfl) (by kernel_rfl) ?_) | (refine qb false (by kernel_rfl) (by kernel_rfl) ?_) | (refine hK _ ?_; clear hK K) | (clear hK K; refine hK _ ?_; clear hK K) | (clear hK K; clear hK K; refine hK _ ?_; clear hK K) | refine qd ?_)
    refine qbc hcl (fun k : Nat => [(0, .sl (row.map Val.av)), (1, .sl (cols.map AV.int)), (5, .int k)]) (fun _ => [])
      (fun k => k ≤ row.length ∧ ∀ j (h : j < row.length) (h2 : j < cols.length), j < k → rightV row[j] = true ∧ row[j].k = cols[j]) (fun k => row.length - k) 0 (by simp) (by simp) fun k ⟨hk, he⟩ => ?_
    by_cases hlt : k < row.length
    · have hlt2 : k < cols.length := by omega
      have c1 := vright_g row[k]
      by_cases hkk : row[k].k = cols[k]
      · have hkb : (row[k].k != cols[k]) = false := by simp [hkk]
        cases hb : rightV row[k] with
        | true =>
          rw [hb] at c1
          repeat' (first | ((first | ((with_reducible refine qq (fun hg => ?_) (fun hg => ?_)) <;> (try simp only [hg]) <;> (try simp only [gS] at hg) <;> (try (first | simp only [eq_false hg, gI] | simp only [eq_true hg, gI]))) | (with_reducible first | refine qh ?_ | refine qg ?_ | refine ql ?_ | refine qk ?_) | refine acall (c1) ?_ | refine qp (c1) ?_ | refine qm (c1) ?_ | refine qe ?_ | refine qi ?_ | refine qj ?_ | refine qn ?_) <;> (try simp (disch := first | omega | simp) [qc, -qr, -qz, hlt, hlt2, hkk, hkb])) | ((with_reducible refine sideT ?_ ?_); first | omega | assumption | (simp; done)) | (refine qf fun K hK => ?_) | (refine qa ?_) | (refine qb true (by kernel_rfl) (by kernel_rfl) ?_) | (refine qb false (by kernel_rfl) (by kernel_rfl) ?_) | (refine hK _ ?_; clear hK K) | (clear hK K; refine hK _ ?_; clear hK K) | (clear hK K; clear hK K; refine hK _ ?_; clear hK K) | refine qd ?_)
          exact ⟨k + 1, ⟨by omega, fun j h h2 hj => by
            by_cases hjk : j = k
            · subst hjk; exact ⟨hb, hkk⟩
            · exact he j h h2 (by omega)⟩, by omega, by omega⟩
        | false =>
          have hR0 : R = false := by rw [hR, all_hit hlt hb, Bool.false_and]
          rw [hb] at c1
          repeat' (first | ((first | ((with_reducible refine qq (fun hg => ?_) (fun hg => ?_)) <;> (try simp only [hg]) <;> (try simp only [gS] at hg) <;> (try (first | simp only [eq_false hg, gI] | simp only [eq_true hg, gI]))) | (with_reducible first | refine qh ?_ | refine qg ?_ | refine ql ?_ | refine qk ?_) | refine acall (c1) ?_ | refine qp (c1) ?_ | refine qm (c1) ?_ | refine qe ?_ | refine qi ?_ | refine qj ?_ | refine qn ?_) <;> (try simp (disch := first | omega | simp) [qc, -qr, -qz, hlt, hlt2, hkk, hkb])) | ((with_reducible refine sideT ?_ ?_); first | omega | assumption | (simp; done)) | (refine qf fun K hK => ?_) | (refine qa ?_) | (refine qb true (by kernel_rfl) (by kernel_rfl) ?_) | (refine qb false (by kernel_rfl) (by kernel_rfl) ?_) | (refine hK _ ?_; clear hK K) | (clear hK K; refine hK _ ?_; clear hK K) | (clear hK K; clear hK K; refine hK _ ?_; clear hK K) | refine qd ?_)
          all_goals exact hR0
      · have hkb : (row[k].k != cols[k]) = true := by simp [hkk]
        have hR0 : R = false := by
          rw [hR, Bool.and_eq_false_iff]; right
          refine decide_eq_false fun e => hkk ?_
          subst e; simp
        repeat' (first | ((first | ((with_reducible refine qq (fun hg => ?_) (fun hg => ?_)) <;> (try simp only [hg]) <;> (try simp only [gS] at hg) <;> (try (first | simp only [eq_false hg, gI] | simp only [eq_true hg, gI]))) | (with_reducible first | refine qh ?_ | refine qg ?_ | refine ql ?_ | refine qk ?_) | refine qe ?_ | refine qi ?_ | refine qj ?_ | refine qn ?_) <;> (try simp (disch := first | omega | simp) [qc, -qr, -qz, hlt, hlt2, hkb])) | ((with_reducible refine sideT ?_ ?_); first | omega | assumption | (simp; done)) | (refine qf fun K hK => ?_) | (refine qa ?_) | (refine qb true (by kernel_rfl) (by kernel_rfl) ?_) | (refine qb false (by kernel_rfl) (by kernel_rfl) ?_) | (refine hK _ ?_; clear hK K) | (clear hK K; refine hK _ ?_; clear hK K) | (clear hK K; clear hK K; refine hK _ ?_; clear hK K) | refine qd ?_)
        all_goals exact hR0
    · have hR1 : R = true := by
        rw [hR, all_end fun j h => (he j h (by omega) (by omega)).1, Bool.true_and]
        refine decide_eq_true (List.ext_getElem (by simpa using hlen) fun i h1 h2 => ?_)
        rw [List.getElem_map]; exact (he i (by simpa using h1) h2 (by simp at h1; omega)).2
      repeat' (first | ((first | ((with_reducible refine qq (fun hg => ?_) (fun hg => ?_)) <;> (try simp only [hg]) <;> (try simp only [gS] at hg) <;> (try (first | simp only [eq_false hg, gI] | simp only [eq_true hg, gI]))) | (with_reducible first | refine qh ?_ | refine qg ?_ | refine ql ?_ | refine qk ?_) | refine qe ?_ | refine qi ?_ | refine qj ?_ | refine qn ?_) <;> (try simp (disch := first | omega | simp) [qc, -qr, -qz, hlt])) | ((with_reducible refine sideT ?_ ?_); first | omega | assumption | (simp; done)) | (refine qf fun K hK => ?_) | (refine qa ?_) | (refine qb true (by kernel_rfl) (by kernel_rfl) ?_) | (refine qb false (by kernel_rfl) (by kernel_rfl) ?_) | (refine hK _ ?_; clear hK K) | (clear hK K; refine hK _ ?_; clear hK K) | (clear hK K; clear hK K; refine hK _ ?_; clear hK K) | refine qd ?_)
      all_goals (rw [hR1]; done)
  · have hlenI : ¬ (row.length : Int) = cols.length := by omega
    have hR0 : R = false := by
      rw [hR, Bool.and_eq_false_iff]; right
      refine decide_eq_false fun e => hlen ?_
      subst e; simp
    refine qo Tryz.func16 Tryz.ntmps16 rfl rfl (by decide) rfl (by intro n; simp) fun σ n0 hcl hft => ?_
    repeat' (first | ((first | ((with_reducible refine qq (fun hg => ?_) (fun hg => ?_)) <;> (try simp only [hg]) <;> (try simp only [gS] at hg) <;> (try (first | simp only [eq_false hg, gI] | simp only [eq_true hg, gI]))) | (with_reducible first | refine qh ?_ | refine qg ?_ | refine ql ?_ | refine qk ?_) | refine qe ?_ | refine qi ?_ | refine qj ?_ | refine qn ?_) <;> (try simp (disch := first | omega | simp) [qc, -qr, -qz, hlenI])) | ((with_reducible refine sideT ?_ ?_); first | omega | assumption | (simp; done)) | (refine qf fun K hK => ?_) | (refine qa ?_) | (refine qb true (by kernel_rfl) (by kernel_rfl) ?_) | (refine qb false (by kernel_rfl) (by kernel_rfl) ?_) | (refine hK _ ?_; clear hK K) | (clear hK K; refine hK _ ?_; clear hK K) | (clear hK K; clear hK K; refine hK _ ?_; clear hK K) | refine qd ?_)
    all_goals first | exact absurd (by assumption) hlenI | (rw [hR0]; done)
end Go.Proofs.YtnkimlkoijfcpaaGreatDoor

/- Layer 26 on plain data: Compact keeps the type of the result. -/
namespace Go.Proofs.YtnkimlkoijfcpaaGreatDoor
open Go.RowKit Go.Lib
end Go.Proofs.YtnkimlkoijfcpaaGreatDoor

/- Walk of layer 25: whether an instruction is formed. -/
namespace Go.Proofs.YtnkimlkoijfcpaaGreatDoor
open Go.RowKit Go.Lib
end Go.Proofs.YtnkimlkoijfcpaaGreatDoor

/- Walks: slices.IndexFunc and ContainsFunc at ints, with a closure over one variable, or over none. -/
namespace Go.Proofs.YtnkimlkoijfcpaaGreatDoor
open Go.RowKit Go.Lib
end Go.Proofs.YtnkimlkoijfcpaaGreatDoor

/- Walk of layer 25: the error of an instruction. -/
namespace Go.Proofs.YtnkimlkoijfcpaaGreatDoor
open Go.RowKit Go.Lib
def offR (types : List Int) (r : Int) : Bool := decide (r < 0) || decide ((types.length : Int) ≤ r)
end Go.Proofs.YtnkimlkoijfcpaaGreatDoor

/- Slice literals that grow. -/
namespace Go.Proofs.YtnkimlkoijfcpaaGreatDoor
open Go.RowKit Go.Lib
def aevZ (P : Program) (s : AS) (o : Op) (K : AV → AS → Prop) : Prop :=
  match o with
  | .buildSlice t n ⟨p :: ps⟩ => match vinfo P t with
    | some (e, sz, _) => n = (p :: ps).length ∧ n * sz ≤ 16777216 ∧ bldS sz 0 ((p :: ps).map fun p => (p.1, s.eval p.2)) ∧ AV.wid ((p :: ps).map fun p => (s.eval p.2).pub) sz ∧
        K (.gs (s.n0 + (s.L.length + 1)) ((p :: ps).map fun p => (s.eval p.2).pub)) ((s.ext (some .dead)).ext (some (.tail n e sz)))
    | none => False
  | o => aev P s o K
attribute [simp] aevZ
end Go.Proofs.YtnkimlkoijfcpaaGreatDoor

/- Walk of layer 25: the error of an instruction. -/
namespace Go.Proofs.YtnkimlkoijfcpaaGreatDoor
open Go.RowKit Go.Lib
end Go.Proofs.YtnkimlkoijfcpaaGreatDoor

/- Walk of layer 25: Verify. -/
namespace Go.Proofs.YtnkimlkoijfcpaaGreatDoor
open Go.RowKit Go.Lib
end Go.Proofs.YtnkimlkoijfcpaaGreatDoor

/- Layer 26: the value of a program that was compiled. -/
namespace Go.Proofs.YtnkimlkoijfcpaaGreatDoor
open Go.RowKit Go.Lib
theorem val_eq26 (v : Val) : aeq Tryz.prog .eql 39 v.av v.av = some true := by
  simp only [aeq, aeqS, Val.q, Val.av, feq, feq1]
  simp
end Go.Proofs.YtnkimlkoijfcpaaGreatDoor

/- Layer 26 on plain data: what Compile returns for an ExIf, without functions. -/
namespace Go.Proofs.YtnkimlkoijfcpaaGreatDoor
open Go.RowKit Go.Lib
theorem typeP_nil {cols : List Int} {e : Ex} : typeP [] cols [] e = if levels e > 12 then none else ty [] cols [] e := by
  unfold typeP
  rw [if_pos (by decide)]
  rfl
end Go.Proofs.YtnkimlkoijfcpaaGreatDoor

/- Layer 26: programs of expressions without functions. -/
namespace Go.Proofs.YtnkimlkoijfcpaaGreatDoor
open Go.RowKit Go.Lib
theorem slim_le {cols : List Int} {e : Ex} (h : light26 [] cols e = true) : parts e ≤ 300 ∧ cols.length ≤ 30 := by
  unfold light26 slimP at h
  simp only [Bool.and_eq_true, decide_eq_true_eq] at h
  exact ⟨h.2.2.2, h.2.1.2⟩
end Go.Proofs.YtnkimlkoijfcpaaGreatDoor

/- Walk: the columns that an expression reads, of the program (expr.Reads). -/
namespace Go.Proofs.YtnkimlkoijfcpaaGreatDoor
open Go.RowKit Go.Lib Go.Maps Go.Sort Go.Shelf
mutual
theorem reads_pre (x : Int) : ∀ e : Ex, x ∈ qbx e ↔ ∃ y ∈ pre e, y.op = 3 ∧ y.n = x
  | .mk o n s l => by
    rw [qbx, qeg, reads_preL x l, pre]
    constructor
    · rintro (h | ⟨y, hy, h⟩)
      · split at h
        · rename_i ho
          rw [List.mem_singleton] at h
          exact ⟨.mk o n s l, List.mem_cons_self .., ho, h.symm⟩
        · cases h
      · exact ⟨y, List.mem_cons_of_mem _ hy, h⟩
    · rintro ⟨y, hy, h1, h2⟩
      rcases List.mem_cons.1 hy with rfl | hy
      · change o = 3 at h1
        rw [if_pos h1]
        exact .inl (by rw [← h2]; exact List.mem_cons_self ..)
      · exact .inr ⟨y, hy, h1, h2⟩
theorem reads_preL (x : Int) : ∀ l : List Ex, (∃ e ∈ l, x ∈ qbx e) ↔ ∃ y ∈ preL l, y.op = 3 ∧ y.n = x
  | [] => by rw [preL]; simp
  | e :: l => by
    rw [preL]
    constructor
    · rintro ⟨z, hz, h⟩
      rcases List.mem_cons.1 hz with hz | hz
      · rw [hz] at h
        obtain ⟨y, hy, h⟩ := (reads_pre x e).1 h
        exact ⟨y, List.mem_append.2 (.inl hy), h⟩
      · obtain ⟨y, hy, h⟩ := (reads_preL x l).1 ⟨z, hz, h⟩
        exact ⟨y, List.mem_append.2 (.inr hy), h⟩
    · rintro ⟨y, hy, h⟩
      rcases List.mem_append.1 hy with hy | hy
      · exact ⟨e, by simp, (reads_pre x e).2 ⟨y, hy, h⟩⟩
      · obtain ⟨z, hz, h⟩ := (reads_preL x l).2 ⟨y, hy, h⟩
        exact ⟨z, by simp [hz], h⟩
end
theorem up_pair : ∀ l : List Int, Up l → l.Pairwise (· < ·)
  | [], _ => .nil
  | a :: l, h => by rw [Up] at h; exact .cons h.1 (up_pair l h.2)
theorem sorted_keys {e : Ex} {D : DataW Unit} {m n : Nat} {w : World} {R : Value → Option (DataW Unit × List MemPlace)} (hown : w.ownsMap Tryz.prog 3 R m n D) (hD : ∀ x : Int, has D (.int .i64 x) = true ↔ ∃ y ∈ pre e, y.op = 3 ∧ y.n = x) {ss : List Int} (hp : ss.Perm (intKeys D)) :
    ss.mergeSort (fun x y => decide (x ≤ y)) = qbx e ∧ ss.length = (qbx e).length := by
  obtain ⟨es, h1, hpw, _⟩ := hown.entries keyed_int
  obtain ⟨es', h2, hko⟩ := hown.keysOf
  obtain rfl : es = es' := by rw [h1] at h2; simpa using h2
  subst h1
  have hpair := up_pair _ (readsP_up e)
  have h3 : (qbx e).Perm (intKeys (.map es)) := perm_intKeys hpw (fun p hp => by obtain ⟨v, hv⟩ := hko p hp; obtain ⟨x, _, hx, _⟩ := Maps.keyOf_i64 Tryz.underlying3 hv; exact ⟨x, hx⟩) (hpair.imp fun h => by omega) (fun x => by rw [reads_pre, hD])
  have h4 := hp.trans h3.symm
  refine ⟨(mergeSort_of_perm_i h4).trans ?_, h4.length_eq⟩
  exact List.mergeSort_of_pairwise (hpair.imp fun h => by simp only [leI, decide_eq_true_eq]; omega)
theorem sortsA (m : Nat) : AnyZI.SortsIn Tryz.prog Tryz.sortedA_ren Fence.wide m :=
  ⟨fun blk off cap ss W hH hblk hsz => callsIn_wide.2 (AnyM.slices_Sort_int Tryz.sortA blk off cap ss W hH hblk hsz),
   fun p cap W => callsIn_wide.2 (AnyM.slices_Sort_int_none Tryz.sortA p cap W)⟩
theorem keys_any (mb : Option Nat) (W : World) : Calls Tryz.prog 48 #[.map mb] W fun e w' => e = .returned (.func (.func 93) #[] #[.pointer (some ⟨W.heap.size, 0, none⟩)]) ∧ w' = W.alloc (.cells #[.map mb] 86) :=
  (callsIn_wide (n := 5)).1 (AnyZI.keys_in Tryz.keysA Fence.wide 5 trivial rfl mb W)
theorem sorted_any {H : Type} (b nn : Nat) (D0 : DataW H) (R : Value → Option (DataW H × List MemPlace)) (w : World) (hown : w.ownsMap Tryz.prog 3 R b nn D0) (hmax : Maps.size D0 ≤ maxLen) (hbytes : Maps.size D0 * 8 ≤ 140737488355328) :
    Calls Tryz.prog 47 #[.func (.func 93) #[] #[.pointer (some ⟨w.heap.size, 0, none⟩)]] (w.alloc (.cells #[.map (some b)] 86)) fun e w' => ∃ (v : Value) (ss : List Int), e = .returned v ∧ ss.Perm (intKeys D0) ∧
      w'.ownsRow (w.heap.size + 1) 3 1 v ss.length ((ss.mergeSort (fun x y => decide (x ≤ y))).map encZ) ∧ Ext (w.alloc (.cells #[.map (some b)] 86)) w' := by
  have hbl := hown.lt
  have hseq : SeqGives Fence.wide 2 Tryz.prog 93 #[.pointer (some ⟨w.heap.size, 0, none⟩)] encZ (fun ss => ss.Perm (intKeys D0)) (Maps.size D0) (w.alloc (.cells #[.map (some b)] 86)) :=
    AnyZI.keys_gives (ρ := Tryz.keysA_ren) { Tryz.keysA with } Fence.wide _ trivial rfl (by omega) w.heap.size b nn D0 _ (by simp) (by simp) (by
      obtain ⟨es, clock, hb, Ft, hs, hD⟩ := hown
      exact ⟨es, clock, (Below.heap_alloc _ _ b hbl).trans hb, Ft, hs, hD⟩)
  have cS := AnyZI.sorted_in Tryz.sortedA Fence.wide 5 trivial trivial trivial trivial rfl (by omega) (sortsA _) (enters_of Tryz.func59 (by kernel_rfl) rfl) 93 #[.pointer (some ⟨w.heap.size, 0, none⟩)] trivial (enters_of Tryz.func93 (by kernel_rfl) rfl) _ _ hmax hbytes _ hseq
  change CallsIn _ _ Tryz.prog 47 _ _ _ at cS
  refine callsIn_wide.1 (cS.mono ?_)
  rintro e w' ⟨v, ss, rfl, hS, hrow, hnil, hb⟩
  have hrow2 : w'.ownsRow (w.alloc (.cells #[.map (some b)] 86)).heap.size 3 1 v ss.length ((ss.mergeSort (fun x y => decide (x ≤ y))).map encZ) := hrow
  exact ⟨v, ss, rfl, hS, by simpa using hrow2, hb⟩
set_option maxRecDepth 100000 in
set_option maxHeartbeats 2000000 in
theorem reads_any (e : Ex) (hok : colsOk e) (hbd : parts e ≤ 1000000) (S : Nat → Prop) (cs : List Value) (w : World) (hr0 : Rd w S e.d cs) :
    Calls Tryz.prog 13 #[.agg cs.toArray] w fun r w' => ∃ v, r = .returned v ∧ w'.ownsRow w.heap.size 3 1 v (qbx e).length ((qbx e).map encZ) ∧ Ext w w' := by
  have hr := ex_bound e _ hr0
  obtain ⟨A, cap, b, off, rfl, hl1, hl2, hl3, hm⟩ := Ex.open hr
  have hmm := @run_makeMap Tryz.prog
  have hr' := Lib.hid hr; have hok' := Lib.hid hok
  clear hr hm hl3 hok hr0
  go_enter Tryz.func13, Tryz.ntmps13
  go_wp2_with fail
  generalize hWe : World.alloc (World.alloc (World.alloc w _) _) _ = W
  have hWs : W.heap.size = w.heap.size + 3 := by rw [← hWe]; clear hWe; go_simp
  have hwW : Ext w W := by rw [← hWe]; exact (by repeat' first | exact Ext.refl _ | assumption | apply Ext.alloc | apply Ext.drew | apply Ext.drewN | (refine Ext.trans ?_ (by assumption)))
  have hI : RInv (w.heap.size + 1) (w.heap.size + 1 + 1) [] W := by
    rw [← hWe]
    clear hWe
    refine ⟨⟨.map [], ?_, fun x => by simp [has]⟩, by go_simp⟩
    have := World.ownsMap_made (w.alloc (.cells #[.int .i64 e.op, .int .i64 e.n, .string e.s, .slice A e.args.length cap] 25)) Tryz.prog 3 (plainElem (H := Unit) Tryz.prog 4)
    have h2 := this.alloc (.cells #[.map (some (w.heap.size + 1))] 86)
    simpa using h2
  clear hWe
  refine (walk_readsB 1000000 #[.pointer (some ⟨w.heap.size + 1 + 1, 0, none⟩)] (w.heap.size + 1) (fun b => b < w.heap.size) (fun b hb => by omega) (RInv (w.heap.size + 1) (w.heap.size + 1 + 1)) colsOk colsOk_args (read_part _ _ _ (by omega)) (fun L w o h => h.alloc o) e [] _ W (by simpa using hbd) hok'.out hI (hr'.out.ext hwW) (by omega)).mono ?_
  rintro r w1 ⟨⟨v, rfl⟩, hI2, hg⟩
  obtain ⟨⟨D, hown, hD⟩, hp⟩ := hI2
  rw [List.nil_append] at hown hD
  have hp' := Lib.hid hp; have hown' := Lib.hid hown; have hD' := Lib.hid hD
  have he1 : Ext w w1 := ⟨hg.os.trans hwW.os, hg.tape.trans hwW.tape, hg.output.trans hwW.output, Nat.le_trans hwW.size hg.size, fun k hk => (hg.block k (Nat.lt_of_lt_of_le hk hwW.size) (fun h => by have := Option.some.inj h; omega)).trans (hwW.block k hk)⟩
  clear hI hwW hown hD hg
  go_wp2_with fail
  refine (keys_any _ _).mono ?_
  rintro r w2 ⟨rfl, rfl⟩
  go_wp2_with fail
  have hsz := hown'.out.size_le
  have hpl := pre_len e
  refine (sorted_any (w.heap.size + 1) _ D _ w1 hown'.out (by unfold maxLen; omega) (by omega)).mono ?_
  rintro r w3 ⟨u, ss, rfl, hperm, hrow, he3⟩
  obtain ⟨k1, k2⟩ := sorted_keys hown'.out hD'.out hperm
  rw [k1, k2] at hrow
  have he4 : Ext w w3 := (he1.alloc _).trans he3
  have hrow' : w3.ownsRow w.heap.size 3 1 u (qbx e).length ((qbx e).map encZ) := ownsRow_base_a hrow (by have := he1.size; omega)
  clear hp k1 k2 hrow he3 hsz
  go_wp2_with fail
  go_ret
  exact ⟨u, rfl, hrow', he4⟩
theorem reads_g (e : Ex) (hok : colsOk e) (hbd : parts e ≤ 1000000) : Gives Tryz.prog 13 [e.av] (.sl ((qbx e).map AV.int)) :=
  gives_of fun X vals ha => by
    obtain ⟨v0, _, rfl, h0, h3⟩ := ha
    cases h3
    obtain ⟨cs, rfl, hr⟩ := arg_ex h0
    refine (reads_any e hok hbd Any cs X.w hr).mono ?_
    rintro r w' ⟨v, rfl, hrow, he⟩
    refine ⟨he, v, rfl, ?_⟩
    have hR : Rd w' (fun b => X.w.heap.size ≤ b ∧ b < w'.heap.size) (.sl ((qbx e).map D.int)) [v] :=
      own_ints (S := fun b => X.w.heap.size ≤ b ∧ b < w'.heap.size) hrow (fun b hb => hrow.lt b hb)
    have := later_rc (X := X) hR
    rw [ints_av] at this
    exact this
end Go.Proofs.YtnkimlkoijfcpaaGreatDoor

/- The columns of a typed expression are few. -/
namespace Go.Proofs.YtnkimlkoijfcpaaGreatDoor
open Go.RowKit Go.Lib
theorem cols_ok {F : List Fn} {c p : List Int} {e : Ex} {t : Int} (ht : ty F c p e = some t) (hc : c.length ≤ 1000000) : colsOk e := fun y hy ho => by
  have := reads_lt e ht y.n ((reads_pre y.n e).2 ⟨y, hy, ho, rfl⟩)
  have h1 : IntKind.i64.min = -9223372036854775808 := by decide
  have h2 : IntKind.i64.max = 9223372036854775807 := by decide
  simp [Lit.wf, h1, h2]
  omega
end Go.Proofs.YtnkimlkoijfcpaaGreatDoor

/- Contracts of Timed, as abstract ones. -/
namespace Go.Proofs.YtnkimlkoijfcpaaGreatDoor
open Go.RowKit Go.Lib
theorem timed_g (F : List Fn) (e : Ex) (hlen : F.length ≤ 1000000) (hwf : wfS F.length e = true) (hwF : ∀ i (h : i < F.length), wfS i F[i].body = true) : Gives Tryz.prog 14 [.sl (F.map Fn.av), e.av] (.bool (timedP F e)) :=
  gives_v fun X vals ha => by
    obtain ⟨v0, _, rfl, h0, v1, _, rfl, h1, h3⟩ := ha
    cases h3
    obtain ⟨cs, rfl, hr⟩ := arg_ex h1
    exact Timed_any F e Any Any v0 cs X.w (arg_fns h0) hr hlen hwf hwF
end Go.Proofs.YtnkimlkoijfcpaaGreatDoor

/- The contract of the reference's Same, as an abstract one. -/
namespace Go.Proofs.YtnkimlkoijfcpaaGreatDoor
open Go.RowKit Go.Lib
theorem rsame_g (a e : Ex) (he : parts a ≤ 1000000) : Gives Tryz.prog 11 [a.av, e.av] (.bool (sameB a e)) :=
  gives_v fun X vals ha => by
    obtain ⟨v0, _, rfl, h0, v1, _, rfl, h1, h3⟩ := ha
    cases h3
    obtain ⟨cs, rfl, hr⟩ := arg_ex h0
    obtain ⟨cs1, rfl, hr1⟩ := arg_ex h1
    exact rsame_any a e Any Any cs cs1 X.w hr hr1 he
end Go.Proofs.YtnkimlkoijfcpaaGreatDoor
