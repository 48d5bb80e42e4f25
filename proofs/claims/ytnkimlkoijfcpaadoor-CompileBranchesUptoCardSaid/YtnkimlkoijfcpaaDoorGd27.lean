/- Walks of the laws of layer 26: the examples, and the bounds. -/
import Derived.Test.YtnkimlkoijfcpaaDoorGd5
import Derived.Test.YtnkimlkoijfcpaaDoorGd7
import Derived.Test.YtnkimlkoijfcpaaDoorGd10
import Derived.Test.YtnkimlkoijfcpaaDoorGd14
import Derived.Test.YtnkimlkoijfcpaaDoorGd19
import Derived.Test.YtnkimlkoijfcpaaDoorGd20
import Derived.Test.YtnkimlkoijfcpaaDoorGd21
import Derived.Test.YtnkimlkoijfcpaaDoorGd24
import Derived.Test.YtnkimlkoijfcpaaDoorGd26
set_option linter.unusedSimpArgs false
set_option linter.unusedVariables false
namespace Go.Proofs.YtnkimlkoijfcpaaDoor
open Go.RowKit Go.Lib
theorem col26_g (n : Int) : Gives Tryd.prog 13 [.int n] (Ex.mk 3 n ByteArray.empty []).av := by
  refine qo Tryd.func13 Tryd.ntmps13 rfl rfl (by decide) rfl (by intro n; simp) fun σ n0 hcl hft => ?_
  repeat' (first | ((first | ((with_reducible refine qq (fun hg => ?_) (fun hg => ?_)) <;> (try simp only [hg]) <;> (try simp only [gS] at hg) <;> (try (first | simp only [eq_false hg, gI] | simp only [eq_true hg, gI]))) | (with_reducible first | refine qh ?_ | refine qg ?_ | refine ql ?_ | refine qk ?_) | refine qe ?_ | refine qi ?_ | refine qj ?_ | refine qm ?_) <;> (try simp (disch := first | omega | simp) [qc, -qr, -qba])) | ((with_reducible refine sideT ?_ ?_); first | omega | assumption | (simp; done)) | (refine qf fun K hK => ?_) | (refine qa ?_) | (refine qb true (by kernel_rfl) (by kernel_rfl) ?_) | (refine hK _ ?_; clear hK K) | (clear hK K; refine hK _ ?_; clear hK K) | (clear hK K; clear hK K; refine hK _ ?_; clear hK K) | refine qd ?_)
theorem two26_g (op : Int) (a b : Ex) : Gives Tryd.prog 12 [.int op, a.av, b.av] (Ex.mk op 0 ByteArray.empty [a, b]).av := by
  refine qo Tryd.func12 Tryd.ntmps12 rfl rfl (by decide) rfl (by intro n; simp) fun σ n0 hcl hft => ?_
  repeat' (first | ((first | ((with_reducible refine qq (fun hg => ?_) (fun hg => ?_)) <;> (try simp only [hg]) <;> (try simp only [gS] at hg) <;> (try (first | simp only [eq_false hg, gI] | simp only [eq_true hg, gI]))) | (with_reducible first | refine qh ?_ | refine qg ?_ | refine ql ?_ | refine qk ?_) | refine qe ?_ | refine qi ?_ | refine qj ?_ | refine qm ?_) <;> (try simp (disch := first | omega | simp) [qc, -qr, -qba])) | ((with_reducible refine sideT ?_ ?_); first | omega | assumption | (simp; done)) | (refine qf fun K hK => ?_) | (refine qa ?_) | (refine qb true (by kernel_rfl) (by kernel_rfl) ?_) | (refine hK _ ?_; clear hK K) | (clear hK K; refine hK _ ?_; clear hK K) | (clear hK K; clear hK K; refine hK _ ?_; clear hK K) | refine qd ?_)
set_option maxHeartbeats 4000000 in
theorem ops26_g (c : Cod) (l : List Int) (hl : l.length ≤ 1000000) (hc : c.ins.length ≤ 1000000) : Gives Tryd.prog 14 [c.av, .sl (l.map AV.int)] (.bool (decide (c.ins.map Ins.op = l))) := by
  obtain ⟨ins, types, out⟩ := c
  simp only at *
  by_cases hlen : ins.length = l.length
  · have hlenI : (ins.length : Int) = l.length := by omega
    refine qo Tryd.func14 Tryd.ntmps14 rfl rfl (by decide) rfl (by intro n; simp) fun σ n0 hcl hft => ?_
    repeat' (first | ((first | ((with_reducible refine qq (fun hg => ?_) (fun hg => ?_)) <;> (try simp only [hg]) <;> (try simp only [gS] at hg) <;> (try (first | simp only [eq_false hg, gI] | simp only [eq_true hg, gI]))) | (with_reducible first | refine qh ?_ | refine qg ?_ | refine ql ?_ | refine qk ?_) | refine qe ?_ | refine qi ?_ | refine qj ?_ | refine qm ?_) <;> (try simp (disch := first | omega | simp) [qc, -qr, -qba, hlen, hlenI])) | ((with_reducible refine sideT ?_ ?_); first | omega | assumption | (simp; done)) | (refine qf fun K hK => ?_) | (refine qa ?_) | (refine qb true (by kernel_rfl) (by kernel_rfl) ?_) | (refine qb false (by kernel_rfl) (by kernel_rfl) ?_) | (refine hK _ ?_; clear hK K) | (clear hK K; refine hK _ ?_; clear hK K) | (clear hK K; clear hK K; refine hK _ ?_; clear hK K) | refine qd ?_)
    refine qz hcl (fun k : Nat => [(1, .sl (l.map AV.int)), (2, .ptr n0 0), (5, .int k)]) (fun _ => [.cells [.sl (ins.map Ins.av), .sl (types.map AV.int), .int out] 31])
      (fun k => k ≤ l.length ∧ ∀ j (h : j < ins.length) (h2 : j < l.length), j < k → ins[j].op = l[j]) (fun k => l.length - k) 0 (by simp) (by simp) fun k ⟨hk, he⟩ => ?_
    by_cases hlt : k < l.length
    · have hlt2 : k < ins.length := by omega
      by_cases heq : ins[k].op = l[k]
      · repeat' (first | ((first | ((with_reducible refine qq (fun hg => ?_) (fun hg => ?_)) <;> (try simp only [hg]) <;> (try simp only [gS] at hg) <;> (try (first | simp only [eq_false hg, gI] | simp only [eq_true hg, gI]))) | (with_reducible first | refine qh ?_ | refine qg ?_ | refine ql ?_ | refine qk ?_) | refine qe ?_ | refine qi ?_ | refine qj ?_ | refine qm ?_) <;> (try simp (disch := first | omega | simp) [qc, -qr, -qba, hlt, hlt2, heq])) | ((with_reducible refine sideT ?_ ?_); first | omega | assumption | (simp; done)) | (refine qf fun K hK => ?_) | (refine qa ?_) | (refine qb true (by kernel_rfl) (by kernel_rfl) ?_) | (refine qb false (by kernel_rfl) (by kernel_rfl) ?_) | (refine hK _ ?_; clear hK K) | (clear hK K; refine hK _ ?_; clear hK K) | (clear hK K; clear hK K; refine hK _ ?_; clear hK K) | refine qd ?_)
        all_goals first | exact absurd heq (by assumption) | exact ⟨k + 1, ⟨by omega, fun j h h2 hj => by
          by_cases hjk : j = k
          · subst hjk; exact heq
          · exact he j h h2 (by omega)⟩, by omega, by simp⟩
      · have : ¬ ins.map Ins.op = l := fun e => heq (by subst e; simp)
        repeat' (first | ((first | ((with_reducible refine qq (fun hg => ?_) (fun hg => ?_)) <;> (try simp only [hg]) <;> (try simp only [gS] at hg) <;> (try (first | simp only [eq_false hg, gI] | simp only [eq_true hg, gI]))) | (with_reducible first | refine qh ?_ | refine qg ?_ | refine ql ?_ | refine qk ?_) | refine qe ?_ | refine qi ?_ | refine qj ?_ | refine qm ?_) <;> (try simp (disch := first | omega | simp) [qc, -qr, -qba, hlt, hlt2, heq])) | ((with_reducible refine sideT ?_ ?_); first | omega | assumption | (simp; done)) | (refine qf fun K hK => ?_) | (refine qa ?_) | (refine qb true (by kernel_rfl) (by kernel_rfl) ?_) | (refine qb false (by kernel_rfl) (by kernel_rfl) ?_) | (refine hK _ ?_; clear hK K) | (clear hK K; refine hK _ ?_; clear hK K) | (clear hK K; clear hK K; refine hK _ ?_; clear hK K) | refine qd ?_)
        all_goals first | exact absurd (by assumption) heq | (simp [this]; done)
    · have : ins.map Ins.op = l := by
        apply List.ext_getElem (by simpa using hlen)
        intro i h1 h2
        rw [List.getElem_map]; exact he i _ h2 (by omega)
      repeat' (first | ((first | ((with_reducible refine qq (fun hg => ?_) (fun hg => ?_)) <;> (try simp only [hg]) <;> (try simp only [gS] at hg) <;> (try (first | simp only [eq_false hg, gI] | simp only [eq_true hg, gI]))) | (with_reducible first | refine qh ?_ | refine qg ?_ | refine ql ?_ | refine qk ?_) | refine qe ?_ | refine qi ?_ | refine qj ?_ | refine qm ?_) <;> (try simp (disch := first | omega | simp) [qc, -qr, -qba, hlt])) | ((with_reducible refine sideT ?_ ?_); first | omega | assumption | (simp; done)) | (refine qf fun K hK => ?_) | (refine qa ?_) | (refine qb true (by kernel_rfl) (by kernel_rfl) ?_) | (refine qb false (by kernel_rfl) (by kernel_rfl) ?_) | (refine hK _ ?_; clear hK K) | (clear hK K; refine hK _ ?_; clear hK K) | (clear hK K; clear hK K; refine hK _ ?_; clear hK K) | refine qd ?_)
      all_goals (simp [this])
  · have hne : ¬ ins.map Ins.op = l := fun e => hlen (by subst e; simp)
    have hlenI : ¬ (ins.length : Int) = l.length := by omega
    refine qo Tryd.func14 Tryd.ntmps14 rfl rfl (by decide) rfl (by intro n; simp) fun σ n0 hcl hft => ?_
    repeat' (first | ((first | ((with_reducible refine qq (fun hg => ?_) (fun hg => ?_)) <;> (try simp only [hg]) <;> (try simp only [gS] at hg) <;> (try (first | simp only [eq_false hg, gI] | simp only [eq_true hg, gI]))) | (with_reducible first | refine qh ?_ | refine qg ?_ | refine ql ?_ | refine qk ?_) | refine qe ?_ | refine qi ?_ | refine qj ?_ | refine qm ?_) <;> (try simp (disch := first | omega | simp) [qc, -qr, -qba, hlenI, hne])) | ((with_reducible refine sideT ?_ ?_); first | omega | assumption | (simp; done)) | (refine qf fun K hK => ?_) | (refine qa ?_) | (refine qb true (by kernel_rfl) (by kernel_rfl) ?_) | (refine qb false (by kernel_rfl) (by kernel_rfl) ?_) | (refine hK _ ?_; clear hK K) | (clear hK K; refine hK _ ?_; clear hK K) | (clear hK K; clear hK K; refine hK _ ?_; clear hK K) | refine qd ?_)
    all_goals first | exact absurd (by assumption) hlenI | (simp [hne]; done)
def ex26a : Ex := .mk 8 0 ByteArray.empty [.mk 3 0 ByteArray.empty [], .mk 10 0 ByteArray.empty [.mk 0 2 ByteArray.empty [], .mk 0 3 ByteArray.empty []]]
def ex26s : Ex := .mk 8 0 ByteArray.empty [.mk 3 0 ByteArray.empty [], .mk 0 1 ByteArray.empty []]
def ex26b : Ex := .mk 10 0 ByteArray.empty [ex26s, ex26s]
def ex26c : Ex := .mk 21 0 ByteArray.empty [.mk 2 1 ByteArray.empty [], .mk 3 0 ByteArray.empty [], .mk 0 5 ByteArray.empty []]
def ex26d : Ex := .mk 8 0 ByteArray.empty [.mk 3 1 ByteArray.empty [], .mk 0 1 ByteArray.empty []]
theorem com26a : qbn [] [0, 1] ex26a = (⟨[⟨3, 0, 0, 0, 0, 0, ByteArray.empty⟩, ⟨0, 1, 0, 0, 0, 6, ByteArray.empty⟩, ⟨8, 0, 0, 1, 0, 0, ByteArray.empty⟩], [0, 0], 0⟩, 0) := by kernel_rfl
theorem com26b : qbn [] [0, 1] ex26b = (⟨[⟨3, 0, 0, 0, 0, 0, ByteArray.empty⟩, ⟨0, 1, 0, 0, 0, 1, ByteArray.empty⟩, ⟨8, 0, 0, 1, 0, 0, ByteArray.empty⟩, ⟨10, 0, 0, 0, 0, 0, ByteArray.empty⟩], [0, 0], 0⟩, 0) := by kernel_rfl
theorem com26c : qbn [] [0, 1] ex26c = (⟨[⟨3, 0, 0, 0, 0, 0, ByteArray.empty⟩], [0], 0⟩, 0) := by kernel_rfl
theorem com26d : qbn [] [0, 1] ex26d = (⟨[], [], 0⟩, 13) := by kernel_rfl
theorem n64_small : n64 ex26a ∧ n64 ex26b ∧ n64 ex26c ∧ n64 ex26d := by
  have h0 : ByteArray.empty.size ≤ 9223372036854775807 := by decide
  refine ⟨?_, ?_, ?_, ?_⟩ <;> simp [ex26a, ex26b, ex26c, ex26d, ex26s, qcf, NS, I64, h0]
theorem small26_g : Gives Tryd.prog 4 [] (.bool true) := by
  obtain ⟨na, nb, nc, nd⟩ := n64_small
  have ca := qcn [] [0, 1] ex26a (by simp) (by simp) (by simp) (by decide) na (by simp)
  have cb := qcn [] [0, 1] ex26b (by simp) (by simp) (by simp) (by decide) nb (by simp)
  have cc := qcn [] [0, 1] ex26c (by simp) (by simp) (by simp) (by decide) nc (by simp)
  have cd := qcn [] [0, 1] ex26d (by simp) (by simp) (by simp) (by decide) nd (by simp)
  rw [com26a] at ca
  rw [com26b] at cb
  rw [com26c] at cc
  rw [com26d] at cd
  have o1 := ops26_g ⟨[⟨3, 0, 0, 0, 0, 0, ByteArray.empty⟩, ⟨0, 1, 0, 0, 0, 6, ByteArray.empty⟩, ⟨8, 0, 0, 1, 0, 0, ByteArray.empty⟩], [0, 0], 0⟩ [3, 0, 8] (by simp) (by simp)
  have o2 := ops26_g ⟨[⟨3, 0, 0, 0, 0, 0, ByteArray.empty⟩, ⟨0, 1, 0, 0, 0, 1, ByteArray.empty⟩, ⟨8, 0, 0, 1, 0, 0, ByteArray.empty⟩, ⟨10, 0, 0, 0, 0, 0, ByteArray.empty⟩], [0, 0], 0⟩ [3, 0, 8, 10] (by simp) (by simp)
  have o3 := ops26_g ⟨[⟨3, 0, 0, 0, 0, 0, ByteArray.empty⟩], [0], 0⟩ [3] (by simp) (by simp)
  simp only [ex26a, ex26b, ex26c, ex26d, ex26s, Ex.av_mk, List.map_cons, List.map_nil, Cod.av, Ins.av] at ca cb cc cd o1 o2 o3
  simp at o1 o2 o3
  have w1 := col26_g 0
  have w2 := col26_g 1
  have v1 := two26_g 10 (.mk 0 2 ByteArray.empty []) (.mk 0 3 ByteArray.empty [])
  have v2 := two26_g 8 (.mk 3 0 ByteArray.empty []) (.mk 10 0 ByteArray.empty [.mk 0 2 ByteArray.empty [], .mk 0 3 ByteArray.empty []])
  have v3 := two26_g 8 (.mk 3 0 ByteArray.empty []) (.mk 0 1 ByteArray.empty [])
  have v4 := two26_g 10 ex26s ex26s
  have v5 := two26_g 8 (.mk 3 1 ByteArray.empty []) (.mk 0 1 ByteArray.empty [])
  simp only [ex26s, Ex.av_mk, List.map_cons, List.map_nil] at w1 w2 v1 v2 v3 v4 v5
  refine qo Tryd.func4 Tryd.ntmps4 rfl rfl (by decide) rfl (by intro n; simp) fun σ n0 hcl hft => ?_
  repeat' (first | ((first | ((with_reducible refine qq (fun hg => ?_) (fun hg => ?_)) <;> (try simp only [hg]) <;> (try simp only [gS] at hg) <;> (try (first | simp only [eq_false hg, gI] | simp only [eq_true hg, gI]))) | (with_reducible first | refine qh ?_ | refine qg ?_ | refine ql ?_ | refine qk ?_) | refine acall (w1) ?_ | refine qp (w1) ?_ | refine qn (w1) ?_ | refine acall (w2) ?_ | refine qp (w2) ?_ | refine qn (w2) ?_ | refine acall (v1) ?_ | refine qp (v1) ?_ | refine qn (v1) ?_ | refine acall (v2) ?_ | refine qp (v2) ?_ | refine qn (v2) ?_ | refine acall (v3) ?_ | refine qp (v3) ?_ | refine qn (v3) ?_ | refine acall (v4) ?_ | refine qp (v4) ?_ | refine qn (v4) ?_ | refine acall (v5) ?_ | refine qp (v5) ?_ | refine qn (v5) ?_ | refine acall (ca) ?_ | refine qp (ca) ?_ | refine qn (ca) ?_ | refine acall (cb) ?_ | refine qp (cb) ?_ | refine qn (cb) ?_ | refine acall (cc) ?_ | refine qp (cc) ?_ | refine qn (cc) ?_ | refine acall (cd) ?_ | refine qp (cd) ?_ | refine qn (cd) ?_ | refine acall (o1) ?_ | refine qp (o1) ?_ | refine qn (o1) ?_ | refine acall (o2) ?_ | refine qp (o2) ?_ | refine qn (o2) ?_ | refine acall (o3) ?_ | refine qp (o3) ?_ | refine qn (o3) ?_ | refine qe ?_ | refine qi ?_ | refine qj ?_ | refine qm ?_) <;> (try simp (disch := first | omega | simp) [qc, -qr, -qba])) | ((with_reducible refine sideT ?_ ?_); first | omega | assumption | (simp; done)) | (refine qf fun K hK => ?_) | (refine qa ?_) | (refine qb true (by kernel_rfl) (by kernel_rfl) ?_) | (refine qb false (by kernel_rfl) (by kernel_rfl) ?_) | (refine hK _ ?_; clear hK K) | (clear hK K; refine hK _ ?_; clear hK K) | (clear hK K; clear hK K; refine hK _ ?_; clear hK K) | refine qd ?_)
end Go.Proofs.YtnkimlkoijfcpaaDoor

/- Walks of the laws of layer 26: running a program. -/
namespace Go.Proofs.YtnkimlkoijfcpaaDoor
open Go.RowKit Go.Lib
theorem constVs_ty {cols : List Int} : ∀ {l : List Val}, (∀ v ∈ l, qbc v) → tys [] cols [] (l.map qbf) = some (l.map Val.k)
  | [], _ => by rw [List.map_nil, tys]; rfl
  | v :: l, h => by
    rw [List.map_cons, tys, (qbq (h v (by simp)) [] cols []).1, constVs_ty fun x hx => h x (by simp [hx])]; rfl
theorem constVs_ev {call : Int → List Val → Val} {time : Int} {row params : List Val} : ∀ {l : List Val}, (∀ v ∈ l, qbc v) → evs call time row params (l.map qbf) = l
  | [], _ => by rw [List.map_nil, evs]
  | v :: l, h => by
    rw [List.map_cons, evs, (qbq (h v (by simp)) [] [] []).2.1 call time row params, constVs_ev fun x hx => h x (by simp [hx])]
theorem callN_zero (time : Int) (m : Nat) : callN [] time m = fun _ _ => zeroV := by
  funext i vs; exact callN_nil time m i vs
theorem evalI26_g {cols types : List Int} {done : List Bool} {x : Ins} (hx : InsOk cols types done x) {regs : List Val} (hr : qdv types done regs) (time : Int) {row : List Val} (hrow : qbo cols row) :
    Gives Tryd.prog 8 [.sl [], (Ex.mk x.op x.n x.s ((argsI regs x).map qbf)).av, .int time, .sl (row.map Val.av)] (opI time row x (argsI regs x)).av := by
  obtain ⟨hk, hs⟩ := hr.args hx
  have htl := hx.tail
  rw [← hk] at htl
  have hal : (argsI regs x).length ≤ 3 := by
    unfold argsI; rw [List.length_map]
    have := opsP_len x; have := arO_le x.op; split at * <;> omega
  have hty : ty [] cols [] (.mk x.op x.n x.s ((argsI regs x).map qbf)) = some (types.getD x.to.toNat 0) := by
    rw [ty, constVs_ty hs]
    dsimp only
    rw [← htl]
    unfold tailT leafT
    simp only [if_neg hx.op.2.2]
  have hp : parts (Ex.mk x.op x.n x.s ((argsI regs x).map qbf)) ≤ 1000000 := by
    have : ∀ l : List Val, qu (l.map qbf) = l.length := fun l => by
      induction l with
      | nil => rw [List.map_nil, qu]; rfl
      | cons v l ih => rw [List.map_cons, qu, ih, (const_parts v).1, List.length_cons]; omega
    rw [parts, this]; omega
  have hev : evalP [] time row (.mk x.op x.n x.s ((argsI regs x).map qbf)) = opI time row x (argsI regs x) := by
    unfold evalP opI
    rw [ev, constVs_ev hs, callN_zero]
  have c := qea [] time row (.mk x.op x.n x.s ((argsI regs x).map qbf)) _ (by simp) (by simp) hp hty hrow
  rw [hev] at c
  exact c
set_option maxRecDepth 100000 in
set_option maxHeartbeats 16000000 in
theorem run26_g {c : Cod} {cols : List Int} (h : CodOk c cols) (time : Int) {row : List Val} (hrow : qbo cols row) : Gives Tryd.prog 9 [c.av, .int time, .sl (row.map Val.av)] (valC c time row).av := by
  have hni := h.ni
  have hnt := h.nt
  have hout0 := h.out0
  have hout1 := h.out1
  obtain ⟨G, hG⟩ : ∃ G : Nat → List Val, G = fun k => regsI time row (c.ins.take k) (List.replicate c.types.length zeroV) := ⟨_, rfl⟩
  have G0 : G 0 = List.replicate c.types.length zeroV := by rw [hG]; rfl
  have G1 : ∀ k (hk : k < c.ins.length), G (k + 1) = (G k).set c.ins[k].to.toNat (opI time row c.ins[k] (argsI (G k) c.ins[k])) := fun k hk => by
    rw [hG]; dsimp only; rw [List.take_succ_eq_append_getElem hk, regsI_snoc]; rfl
  have GL : ∀ k, k ≤ c.ins.length → (G k).length = c.types.length := fun k => by
    induction k with
    | zero => intro _; rw [G0]; simp
    | succ k ih => intro hk; rw [G1 k (by omega), List.length_set, ih (by omega)]
  have GO : ∀ k (hk : k < c.ins.length), qdv c.types (doneL (c.ins.take k) (List.replicate c.types.length false)) (G k) := fun k hk => by
    rw [hG]; exact AllOk.regs hrow time _ (AllOk.take c.ins k _ h.all) (regsOk_start c.types)
  have GE : valC c time row = (G c.ins.length).getD c.out.toNat zeroV := by rw [hG]; simp [valC]
  have hx : ∀ k (hk : k < c.ins.length), InsOk cols c.types (doneL (c.ins.take k) (List.replicate c.types.length false)) c.ins[k] := fun k hk => AllOk.at c.ins k _ hk h.all
  generalize valC c time row = V at *
  clear hG
  obtain ⟨ins, types, out⟩ := c
  simp only at *
  have hsz : 32 * types.length ≤ 281474976710656 := by omega
  refine qo Tryd.func9 Tryd.ntmps9 rfl rfl (by decide) rfl (by intro n; simp) fun σ n0 hcl hft => ?_
  repeat' (first | ((first | ((with_reducible refine qq (fun hg => ?_) (fun hg => ?_)) <;> (try simp only [hg]) <;> (try simp only [gS] at hg) <;> (try (first | simp only [eq_false hg, gI] | simp only [eq_true hg, gI]))) | (with_reducible first | refine qh ?_ | refine qg ?_ | refine ql ?_ | refine qk ?_) | refine qe ?_ | refine qi ?_ | refine qj ?_ | refine qm ?_) <;> (try simp (disch := first | omega | simp) [qc, -qr, -qba, hsz])) | ((with_reducible refine sideT ?_ ?_); first | omega | assumption | (simp; done)) | (refine qf fun K hK => ?_) | (refine qa ?_) | (refine qb true (by kernel_rfl) (by kernel_rfl) ?_) | (refine qb false (by kernel_rfl) (by kernel_rfl) ?_) | (refine hK _ ?_; clear hK K) | (clear hK K; refine hK _ ?_; clear hK K) | (clear hK K; clear hK K; refine hK _ ?_; clear hK K) | refine qd ?_)
  refine qz hcl (fun k : Nat => [(1, .int time), (2, .sl (row.map Val.av)), (3, .ptr n0 0), (6, .ptr (n0 + 1) 0), (7, .own (n0 + 2) types.length), (8, .int k)])
    (fun k => [.cells [.sl (ins.map Ins.av), .sl (types.map AV.int), .int out] 31, .cells [.int 0, .int 0, .str ByteArray.empty] 37, .vec ((G k).map Val.av) 37 3])
    (fun k => k ≤ ins.length) (fun k => ins.length - k) 0 (by omega) (by simp [G0, zeroV, Val.av, -Val.av_fold]) fun k hk => ?_
  by_cases hlt : k < ins.length
  · have hxk := hx k hlt
    have c1 := ops_g ins[k]
    have c2 := evalI26_g hxk (GO k hlt) time hrow
    have g1 := G1 k hlt
    have gl := GL k (by omega)
    have hto0 := hxk.to0
    have hto1 : ins[k].to < types.length := hxk.to1
    have hxa := hxk.args
    have hol : (opsP ins[k]).length ≤ 3 := by have := opsP_len ins[k]; have := arO_le ins[k].op; split at * <;> omega
    have hag : argsI (G k) ins[k] = (opsP ins[k]).map fun r => (G k).getD r.toNat zeroV := rfl
    generalize hV : opI time row ins[k] (argsI (G k) ins[k]) = W at *
    rw [hag] at c2
    generalize opsP ins[k] = ops at *
    rw [Ex.av_mk, List.map_map, List.map_map] at c2
    repeat' (first | ((first | ((with_reducible refine qq (fun hg => ?_) (fun hg => ?_)) <;> (try simp only [hg]) <;> (try simp only [gS] at hg) <;> (try (first | simp only [eq_false hg, gI] | simp only [eq_true hg, gI]))) | (with_reducible first | refine qh ?_ | refine qg ?_ | refine ql ?_ | refine qk ?_) | refine acall (c1) ?_ | refine qp (c1) ?_ | refine qn (c1) ?_ | refine qe ?_ | refine qi ?_ | refine qj ?_ | refine qm ?_) <;> (try simp (disch := first | omega | simp) [qc, -qr, -qba, hlt])) | ((with_reducible refine sideT ?_ ?_); first | omega | assumption | (simp; done)) | (refine qf fun K hK => ?_) | (refine qa ?_) | (refine qb true (by kernel_rfl) (by kernel_rfl) ?_) | (refine qb false (by kernel_rfl) (by kernel_rfl) ?_) | (refine hK _ ?_; clear hK K) | (clear hK K; refine hK _ ?_; clear hK K) | (clear hK K; clear hK K; refine hK _ ?_; clear hK K) | refine qd ?_)
    obtain ⟨PA, hPA⟩ : ∃ PA, PA = ops.map ((Ex.av ∘ qbf) ∘ fun r => (G k).getD r.toNat zeroV) := ⟨_, rfl⟩
    have hPl : PA.length = ops.length := by rw [hPA, List.length_map]
    have hPj : ∀ j (hj : j < ops.length) (hj2 : j < PA.length), PA[j] = (qbf ((G k).getD ops[j].toNat zeroV)).av := fun j hj hj2 => by subst hPA; simp
    have hPc : ∀ m j, AV.cls m (PA.take j) := fun m j => by rw [hPA]; exact AV.cls_take (AV.cls_map (fun r => Ex.av_cl _ _) ops) j
    have hPw : ∀ j, AV.wid (PA.take j) 4 := fun j => by rw [hPA, ← List.map_take]; exact AV.wid_map (fun r => Ex.av_width _) _
    rw [← hPA] at c2
    clear hPA
    refine qci 4 3 25 4 (by rfl) (by rfl) ?_
    refine qz hcl (fun j : Nat => [(1, .int time), (2, .sl (row.map Val.av)), (3, .ptr n0 0), (6, .ptr (n0 + 1) 0), (7, .own (n0 + 2) types.length), (8, .int k), (9, .ptr (n0 + 3) 0), (10, .ptr (n0 + 4) 0), (11, .sl (ops.map AV.int)), (12, .int j)])
      (fun j => [.cells [.sl (ins.map Ins.av), .sl (types.map AV.int), .int out] 31, .cells [.int 0, .int 0, .str ByteArray.empty] 37, .vec ((G k).map Val.av) 37 3,
        .cells [.int ins[k].op, .int ins[k].to, .int ins[k].a, .int ins[k].b, .int ins[k].c, .int ins[k].n, .str ins[k].s] 47, .cells [.int ins[k].op, .int ins[k].n, .str ins[k].s, .gs (n0 + 5) (PA.take j)] 25, .tail j 25 4])
      (fun j => j ≤ ops.length) (fun j => ops.length - j) 0 (by omega) (by simp) fun j hj => ?_
    have hpc := fun m => hPc m j
    have hpw := hPw j
    by_cases hlt2 : j < ops.length
    · have hj2 : j < PA.length := by omega
      obtain ⟨r0, r1, -⟩ := hxa ops[j] (List.getElem_mem _)
      have c3 := Constant_g ((G k).getD ops[j].toNat zeroV)
      have hgj : (G k).getD ops[j].toNat zeroV = (G k)[ops[j].toNat]'(by omega) := by rw [List.getD_eq_getElem?_getD, List.getElem?_eq_getElem (by omega)]; rfl
      have htk : PA.take (j + 1) = PA.take j ++ [(qbf ((G k).getD ops[j].toNat zeroV)).av] := by rw [List.take_succ_eq_append_getElem hj2, hPj j hlt2 hj2]
      rw [hgj] at c3 htk
      have hsz2 : (j + 1) * 56 ≤ 140737488355328 := by omega
      have hml : min j PA.length = j := by omega
      have r2 : ¬ ops[j] < 0 := by omega
      have r3 : ¬ (types.length : Int) ≤ ops[j] := by omega
      have hva : ((G k)[ops[j].toNat]'(by omega)).av = .agg [.int ((G k)[ops[j].toNat]'(by omega)).k, .int ((G k)[ops[j].toNat]'(by omega)).n, .str ((G k)[ops[j].toNat]'(by omega)).s] := rfl
      rw [hva] at c3
      generalize hb : decide (((G k)[ops[j].toNat]'(by omega)).k = 0 ∨ ((G k)[ops[j].toNat]'(by omega)).k = 1 ∨ ((G k)[ops[j].toNat]'(by omega)).k = 2) = bb at c3
      repeat' (first | ((first | ((with_reducible refine qq (fun hg => ?_) (fun hg => ?_)) <;> (try simp only [hg]) <;> (try simp only [gS] at hg) <;> (try (first | simp only [eq_false hg, gI] | simp only [eq_true hg, gI]))) | (with_reducible first | refine qh ?_ | refine qg ?_ | refine ql ?_ | refine qk ?_) | refine acall (c3) ?_ | refine qp (c3) ?_ | refine qn (c3) ?_ | refine qe ?_ | refine qi ?_ | refine qj ?_ | refine qm ?_) <;> (try simp (disch := first | omega | simp) [qc, -qr, -qba, hlt2, gl, r0, r1, r2, r3, hsz2, hpw, hml, -Val.av_fold, hva])) | ((with_reducible refine sideT ?_ ?_); first | omega | assumption | (simp; done)) | (refine qf fun K hK => ?_) | (refine qa ?_) | (refine qb true (by kernel_rfl) (by kernel_rfl) ?_) | (refine qb false (by kernel_rfl) (by kernel_rfl) ?_) | (refine hK _ ?_; clear hK K) | (clear hK K; refine hK _ ?_; clear hK K) | (clear hK K; clear hK K; refine hK _ ?_; clear hK K) | refine qd ?_)
      exact ⟨j + 1, by omega, by omega, ⟨htk.symm, rfl⟩, hPc _ _, by omega⟩
    · obtain rfl : j = ops.length := by omega
      rw [List.take_of_length_le (by omega)] at hpc hpw ⊢
      have hto2 : ¬ (types.length : Int) ≤ ins[k].to := by omega
      repeat' (first | ((first | ((with_reducible refine qq (fun hg => ?_) (fun hg => ?_)) <;> (try simp only [hg]) <;> (try simp only [gS] at hg) <;> (try (first | simp only [eq_false hg, gI] | simp only [eq_true hg, gI]))) | (with_reducible first | refine qh ?_ | refine qg ?_ | refine ql ?_ | refine qk ?_) | refine acall (c2) ?_ | refine qp (c2) ?_ | refine qn (c2) ?_ | refine qe ?_ | refine qi ?_ | refine qj ?_ | refine qm ?_) <;> (try simp (disch := first | omega | simp) [qc, -qr, -qba, hlt2, gl, hto0, hto1, hto2, hpc])) | ((with_reducible refine sideT ?_ ?_); first | omega | assumption | (simp; done)) | (refine qf fun K hK => ?_) | (refine qa ?_) | (refine qb true (by kernel_rfl) (by kernel_rfl) ?_) | (refine qb false (by kernel_rfl) (by kernel_rfl) ?_) | (refine hK _ ?_; clear hK K) | (clear hK K; refine hK _ ?_; clear hK K) | (clear hK K; clear hK K; refine hK _ ?_; clear hK K) | refine qd ?_)
      refine ⟨k + 1, by omega, by omega, ?_, by omega⟩
      rw [g1]; simp [List.map_set]
  · obtain rfl : k = ins.length := by omega
    have gl := GL ins.length (Nat.le_refl _)
    have hgj : (G ins.length).getD out.toNat zeroV = (G ins.length)[out.toNat]'(by omega) := by rw [List.getD_eq_getElem?_getD, List.getElem?_eq_getElem (by omega)]; rfl
    rw [hgj] at GE
    have o1 : ¬ out < 0 := by omega
    have o2 : ¬ (types.length : Int) ≤ out := by omega
    have o3 : out < types.length := by omega
    have o4 : 0 ≤ out := by omega
    have hva : ((G ins.length)[out.toNat]'(by omega)).av = .agg [.int ((G ins.length)[out.toNat]'(by omega)).k, .int ((G ins.length)[out.toNat]'(by omega)).n, .str ((G ins.length)[out.toNat]'(by omega)).s] := rfl
    repeat' (first | ((first | ((with_reducible refine qq (fun hg => ?_) (fun hg => ?_)) <;> (try simp only [hg]) <;> (try simp only [gS] at hg) <;> (try (first | simp only [eq_false hg, gI] | simp only [eq_true hg, gI]))) | (with_reducible first | refine qh ?_ | refine qg ?_ | refine ql ?_ | refine qk ?_) | refine qe ?_ | refine qi ?_ | refine qj ?_ | refine qm ?_) <;> (try simp (disch := first | omega | simp) [qc, -qr, -qba, hlt, gl, o1, o2, o3, o4, -Val.av_fold, hva])) | ((with_reducible refine sideT ?_ ?_); first | omega | assumption | (simp; done)) | (refine qf fun K hK => ?_) | (refine qa ?_) | (refine qb true (by kernel_rfl) (by kernel_rfl) ?_) | (refine qb false (by kernel_rfl) (by kernel_rfl) ?_) | (refine hK _ ?_; clear hK K) | (clear hK K; refine hK _ ?_; clear hK K) | (clear hK K; clear hK K; refine hK _ ?_; clear hK K) | refine qd ?_)
    all_goals (rw [GE]; rfl)
end Go.Proofs.YtnkimlkoijfcpaaDoor

/- Contracts of Steps, as abstract ones. -/
namespace Go.Proofs.YtnkimlkoijfcpaaDoor
open Go.RowKit Go.Lib
end Go.Proofs.YtnkimlkoijfcpaaDoor

/- Layer 27 on plain data: batches that fit; the columns of a program. -/
namespace Go.Proofs.YtnkimlkoijfcpaaDoor
open Go.RowKit Go.Lib
theorem rightV_sound {v : Val} (h : rightV v = true) : qbc v := by
  rw [rightV_eq] at h
  unfold qbc okV
  by_cases h0 : v.k = 0
  · rw [if_pos h0] at h ⊢
    refine ⟨h, ?_⟩
    have h1 : v.s.toList = [] := by simpa using h
    have h2 : v.s.size = 0 := by rw [Lib.size_eq, ← ByteArray.toList_eq, h1]; rfl
    omega
  · rw [if_neg h0] at h ⊢
    by_cases h1 : v.k = 1
    · rw [if_pos h1] at h ⊢
      simp only [Bool.and_eq_true, decide_eq_true_eq] at h ⊢
      exact ⟨⟨h.1, by omega⟩, h.2⟩
    · rw [if_neg h1] at h ⊢
      refine ⟨h, ?_⟩
      simp only [Bool.and_eq_true, decide_eq_true_eq] at h
      have h2 : v.s.size = 0 := by rw [Lib.size_eq, ← ByteArray.toList_eq, h.2]; rfl
      omega
end Go.Proofs.YtnkimlkoijfcpaaDoor

/- Walks of the laws of layer 26: the bounds. -/
namespace Go.Proofs.YtnkimlkoijfcpaaDoor
open Go.RowKit Go.Lib
def slimP (e : Ex) : Bool := decide (levels e ≤ 20) && decide (parts e ≤ 300)
def fnB (f : Fn) : Bool := slimP f.body && decide (f.params.length ≤ 20)
def light26 (F : List Fn) (cols : List Int) (e : Ex) : Bool := F.all fnB && (decide (F.length ≤ 25) && decide (cols.length ≤ 30) && slimP e)
theorem slim26_g (e : Ex) (hp : parts e ≤ 1000000) : Gives Tryd.prog 15 [e.av] (.bool (slimP e)) := by
  have h1 := qdn e
  have c1 := rlevels_g e (by omega)
  have c2 := rparts_g e hp
  obtain ⟨R, hR⟩ : ∃ R, R = slimP e := ⟨_, rfl⟩
  rw [← hR]
  unfold slimP at hR
  refine qo Tryd.func15 Tryd.ntmps15 rfl rfl (by decide) rfl (by intro n; simp) fun σ n0 hcl hft => ?_
  repeat' (first | ((first | ((with_reducible refine qq (fun hg => ?_) (fun hg => ?_)) <;> (try simp only [hg]) <;> (try simp only [gS] at hg) <;> (try (first | simp only [eq_false hg, gI] | simp only [eq_true hg, gI]))) | (with_reducible first | refine qh ?_ | refine qg ?_ | refine ql ?_ | refine qk ?_) | refine acall (c1) ?_ | refine qp (c1) ?_ | refine qn (c1) ?_ | refine acall (c2) ?_ | refine qp (c2) ?_ | refine qn (c2) ?_ | refine qe ?_ | refine qi ?_ | refine qj ?_ | refine qm ?_) <;> (try simp (disch := first | omega | simp) [qc, -qr, -qba])) | ((with_reducible refine sideT ?_ ?_); first | omega | assumption | (simp; done)) | (refine qf fun K hK => ?_) | (refine qa ?_) | (refine qb true (by kernel_rfl) (by kernel_rfl) ?_) | (refine qb false (by kernel_rfl) (by kernel_rfl) ?_) | (refine hK _ ?_; clear hK K) | (clear hK K; refine hK _ ?_; clear hK K) | (clear hK K; clear hK K; refine hK _ ?_; clear hK K) | refine qd ?_)
  all_goals (rw [hR]; simp_all; try omega)
theorem light26_g (F : List Fn) (cols : List Int) (e : Ex) (hlF : F.length ≤ 2000000) (hF : ∀ f ∈ F, parts f.body ≤ 1000000) (hp : parts e ≤ 1000000) : Gives Tryd.prog 5 [.sl (F.map Fn.av), .sl (cols.map AV.int), e.av] (.bool (light26 F cols e)) := by
  have c2 := slim26_g e hp
  obtain ⟨R, hR⟩ : ∃ R, R = light26 F cols e := ⟨_, rfl⟩
  rw [← hR]
  unfold light26 at hR
  refine qo Tryd.func5 Tryd.ntmps5 rfl rfl (by decide) rfl (by intro n; simp) fun σ n0 hcl hft => ?_
  repeat' (first | ((first | ((with_reducible refine qq (fun hg => ?_) (fun hg => ?_)) <;> (try simp only [hg]) <;> (try simp only [gS] at hg) <;> (try (first | simp only [eq_false hg, gI] | simp only [eq_true hg, gI]))) | (with_reducible first | refine qh ?_ | refine qg ?_ | refine ql ?_ | refine qk ?_) | refine qe ?_ | refine qi ?_ | refine qj ?_ | refine qm ?_) <;> (try simp (disch := first | omega | simp) [qc, -qr, -qba])) | ((with_reducible refine sideT ?_ ?_); first | omega | assumption | (simp; done)) | (refine qf fun K hK => ?_) | (refine qa ?_) | (refine qb true (by kernel_rfl) (by kernel_rfl) ?_) | (refine qb false (by kernel_rfl) (by kernel_rfl) ?_) | (refine hK _ ?_; clear hK K) | (clear hK K; refine hK _ ?_; clear hK K) | (clear hK K; clear hK K; refine hK _ ?_; clear hK K) | refine qd ?_)
  refine qz hcl (fun k : Nat => [(0, .sl (F.map Fn.av)), (1, .sl (cols.map AV.int)), (5, .ptr n0 0), (7, .int k)]) (fun _ => [.cells [.int e.op, .int e.n, .str e.s, .sl (e.args.map Ex.av)] 25])
    (fun k => k ≤ F.length ∧ ∀ j (h : j < F.length), j < k → fnB F[j] = true) (fun k => F.length - k) 0 (by simp) (by simp) fun k ⟨hk, he⟩ => ?_
  by_cases hlt : k < F.length
  · have c1 := slim26_g F[k].body (hF _ (List.getElem_mem hlt))
    cases hb : fnB F[k] with
    | true =>
      have hb2 := hb
      unfold fnB at hb2
      simp only [Bool.and_eq_true, decide_eq_true_eq] at hb2
      rw [hb2.1] at c1
      have hp20 : ¬ (20 : Int) < F[k].params.length := by omega
      repeat' (first | ((first | ((with_reducible refine qq (fun hg => ?_) (fun hg => ?_)) <;> (try simp only [hg]) <;> (try simp only [gS] at hg) <;> (try (first | simp only [eq_false hg, gI] | simp only [eq_true hg, gI]))) | (with_reducible first | refine qh ?_ | refine qg ?_ | refine ql ?_ | refine qk ?_) | refine acall (c1) ?_ | refine qp (c1) ?_ | refine qn (c1) ?_ | refine qe ?_ | refine qi ?_ | refine qj ?_ | refine qm ?_) <;> (try simp (disch := first | omega | simp) [qc, -qr, -qba, hlt, hp20])) | ((with_reducible refine sideT ?_ ?_); first | omega | assumption | (simp; done)) | (refine qf fun K hK => ?_) | (refine qa ?_) | (refine qb true (by kernel_rfl) (by kernel_rfl) ?_) | (refine qb false (by kernel_rfl) (by kernel_rfl) ?_) | (refine hK _ ?_; clear hK K) | (clear hK K; refine hK _ ?_; clear hK K) | (clear hK K; clear hK K; refine hK _ ?_; clear hK K) | refine qd ?_)
      all_goals first | (exfalso; omega) | exact ⟨k + 1, ⟨by omega, upto_succ (C := fun f : Fn => fnB f = true) he fun _ => hb⟩, by omega, by simp⟩
    | false =>
      have hR0 : R = false := by rw [hR, all_hit hlt hb, Bool.false_and]
      unfold fnB at hb
      cases hs : slimP F[k].body with
      | true =>
        rw [hs] at c1 hb
        have hp20 : (20 : Int) < F[k].params.length := by simp at hb; omega
        repeat' (first | ((first | ((with_reducible refine qq (fun hg => ?_) (fun hg => ?_)) <;> (try simp only [hg]) <;> (try simp only [gS] at hg) <;> (try (first | simp only [eq_false hg, gI] | simp only [eq_true hg, gI]))) | (with_reducible first | refine qh ?_ | refine qg ?_ | refine ql ?_ | refine qk ?_) | refine acall (c1) ?_ | refine qp (c1) ?_ | refine qn (c1) ?_ | refine qe ?_ | refine qi ?_ | refine qj ?_ | refine qm ?_) <;> (try simp (disch := first | omega | simp) [qc, -qr, -qba, hlt, hp20])) | ((with_reducible refine sideT ?_ ?_); first | omega | assumption | (simp; done)) | (refine qf fun K hK => ?_) | (refine qa ?_) | (refine qb true (by kernel_rfl) (by kernel_rfl) ?_) | (refine qb false (by kernel_rfl) (by kernel_rfl) ?_) | (refine hK _ ?_; clear hK K) | (clear hK K; refine hK _ ?_; clear hK K) | (clear hK K; clear hK K; refine hK _ ?_; clear hK K) | refine qd ?_)
        all_goals first | (exfalso; omega) | exact hR0.symm | (rw [hR0]; done)
      | false =>
        rw [hs] at c1
        repeat' (first | ((first | ((with_reducible refine qq (fun hg => ?_) (fun hg => ?_)) <;> (try simp only [hg]) <;> (try simp only [gS] at hg) <;> (try (first | simp only [eq_false hg, gI] | simp only [eq_true hg, gI]))) | (with_reducible first | refine qh ?_ | refine qg ?_ | refine ql ?_ | refine qk ?_) | refine acall (c1) ?_ | refine qp (c1) ?_ | refine qn (c1) ?_ | refine qe ?_ | refine qi ?_ | refine qj ?_ | refine qm ?_) <;> (try simp (disch := first | omega | simp) [qc, -qr, -qba, hlt])) | ((with_reducible refine sideT ?_ ?_); first | omega | assumption | (simp; done)) | (refine qf fun K hK => ?_) | (refine qa ?_) | (refine qb true (by kernel_rfl) (by kernel_rfl) ?_) | (refine qb false (by kernel_rfl) (by kernel_rfl) ?_) | (refine hK _ ?_; clear hK K) | (clear hK K; refine hK _ ?_; clear hK K) | (clear hK K; clear hK K; refine hK _ ?_; clear hK K) | refine qd ?_)
        all_goals first | exact hR0.symm | (rw [hR0]; done)
  · obtain rfl : k = F.length := by omega
    have hall : F.all fnB = true := all_end fun j h => he j h (by omega)
    rw [hall, Bool.true_and] at hR
    repeat' (first | ((first | ((with_reducible refine qq (fun hg => ?_) (fun hg => ?_)) <;> (try simp only [hg]) <;> (try simp only [gS] at hg) <;> (try (first | simp only [eq_false hg, gI] | simp only [eq_true hg, gI]))) | (with_reducible first | refine qh ?_ | refine qg ?_ | refine ql ?_ | refine qk ?_) | refine acall (c2) ?_ | refine qp (c2) ?_ | refine qn (c2) ?_ | refine qe ?_ | refine qi ?_ | refine qj ?_ | refine qm ?_) <;> (try simp (disch := first | omega | simp) [qc, -qr, -qba, hlt])) | ((with_reducible refine sideT ?_ ?_); first | omega | assumption | (simp; done)) | (refine qf fun K hK => ?_) | (refine qa ?_) | (refine qb true (by kernel_rfl) (by kernel_rfl) ?_) | (refine qb false (by kernel_rfl) (by kernel_rfl) ?_) | (refine hK _ ?_; clear hK K) | (clear hK K; refine hK _ ?_; clear hK K) | (clear hK K; clear hK K; refine hK _ ?_; clear hK K) | refine qd ?_)
    all_goals (rw [hR]; simp_all; try omega)
def fits26 (cols : List Int) (row : List Val) : Bool := row.all rightV && decide (row.map Val.k = cols)
theorem fits26_fit {cols : List Int} {r : List Val} (h : fits26 cols r = true) : qbo cols r ∧ r.map Val.k = cols ∧ ∀ v ∈ r, qbc v := by
  unfold fits26 at h
  simp only [Bool.and_eq_true, decide_eq_true_eq, List.all_eq_true] at h
  have hs := fun v hv => rightV_sound (h.1 v hv)
  refine ⟨?_, h.2, hs⟩
  rw [← h.2]; exact qbo.of hs
set_option maxHeartbeats 4000000 in
theorem fits26_g (row : List Val) (cols : List Int) (hr : row.length ≤ 1000000) : Gives Tryd.prog 7 [.sl (row.map Val.av), .sl (cols.map AV.int)] (.bool (fits26 cols row)) := by
  obtain ⟨R, hR⟩ : ∃ R, R = fits26 cols row := ⟨_, rfl⟩
  rw [← hR]
  unfold fits26 at hR
  by_cases hlen : row.length = cols.length
  · have hlenI : (row.length : Int) = cols.length := by omega
    have hlenB : ((row.length : Int) != cols.length) = false := by simp [hlenI]
    refine qo Tryd.func7 Tryd.ntmps7 rfl rfl (by decide) rfl (by intro n; simp) fun σ n0 hcl hft => ?_
    repeat' (first | ((first | ((with_reducible refine qq (fun hg => ?_) (fun hg => ?_)) <;> (try simp only [hg]) <;> (try simp only [gS] at hg) <;> (try (first | simp only [eq_false hg, gI] | simp only [eq_true hg, gI]))) | (with_reducible first | refine qh ?_ | refine qg ?_ | refine ql ?_ | refine qk ?_) | refine qe ?_ | refine qi ?_ | refine qj ?_ | refine qm ?_) <;> (try simp (disch := first | omega | simp) [qc, -qr, -qba, hlenI, hlenB])) | ((with_reducible refine sideT ?_ ?_); first | omega | assumption | (simp; done)) | (refine qf fun K hK => ?_) | (refine qa ?_) | (refine qb true (by kernel_rfl) (by kernel_rfl) ?_) | (refine qb false (by kernel_rfl) (by kernel_rfl) ?_) | (refine hK _ ?_; clear hK K) | (clear hK K; refine hK _ ?_; clear hK K) | (clear hK K; clear hK K; refine hK _ ?_; clear hK K) | refine qd ?_)
    refine qz hcl (fun k : Nat => [(0, .sl (row.map Val.av)), (1, .sl (cols.map AV.int)), (5, .int k)]) (fun _ => [])
      (fun k => k ≤ row.length ∧ ∀ j (h : j < row.length) (h2 : j < cols.length), j < k → rightV row[j] = true ∧ row[j].k = cols[j]) (fun k => row.length - k) 0 (by simp) (by simp) fun k ⟨hk, he⟩ => ?_
    by_cases hlt : k < row.length
    · have hlt2 : k < cols.length := by omega
      have c1 := vright_g row[k]
      by_cases hkk : row[k].k = cols[k]
      · have hkb : (row[k].k != cols[k]) = false := by simp [hkk]
        cases hb : rightV row[k] with
        | true =>
          rw [hb] at c1
          repeat' (first | ((first | ((with_reducible refine qq (fun hg => ?_) (fun hg => ?_)) <;> (try simp only [hg]) <;> (try simp only [gS] at hg) <;> (try (first | simp only [eq_false hg, gI] | simp only [eq_true hg, gI]))) | (with_reducible first | refine qh ?_ | refine qg ?_ | refine ql ?_ | refine qk ?_) | refine acall (c1) ?_ | refine qp (c1) ?_ | refine qn (c1) ?_ | refine qe ?_ | refine qi ?_ | refine qj ?_ | refine qm ?_) <;> (try simp (disch := first | omega | simp) [qc, -qr, -qba, hlt, hlt2, hkk, hkb])) | ((with_reducible refine sideT ?_ ?_); first | omega | assumption | (simp; done)) | (refine qf fun K hK => ?_) | (refine qa ?_) | (refine qb true (by kernel_rfl) (by kernel_rfl) ?_) | (refine qb false (by kernel_rfl) (by kernel_rfl) ?_) | (refine hK _ ?_; clear hK K) | (clear hK K; refine hK _ ?_; clear hK K) | (clear hK K; clear hK K; refine hK _ ?_; clear hK K) | refine qd ?_)
          exact ⟨k + 1, ⟨by omega, fun j h h2 hj => by
            by_cases hjk : j = k
            · subst hjk; exact ⟨hb, hkk⟩
            · exact he j h h2 (by omega)⟩, by omega, by omega⟩
        | false =>
          have hR0 : R = false := by rw [hR, all_hit hlt hb, Bool.false_and]
          rw [hb] at c1
          repeat' (first | ((first | ((with_reducible refine qq (fun hg => ?_) (fun hg => ?_)) <;> (try simp only [hg]) <;> (try simp only [gS] at hg) <;> (try (first | simp only [eq_false hg, gI] | simp only [eq_true hg, gI]))) | (with_reducible first | refine qh ?_ | refine qg ?_ | refine ql ?_ | refine qk ?_) | refine acall (c1) ?_ | refine qp (c1) ?_ | refine qn (c1) ?_ | refine qe ?_ | refine qi ?_ | refine qj ?_ | refine qm ?_) <;> (try simp (disch := first | omega | simp) [qc, -qr, -qba, hlt, hlt2, hkk, hkb])) | ((with_reducible refine sideT ?_ ?_); first | omega | assumption | (simp; done)) | (refine qf fun K hK => ?_) | (refine qa ?_) | (refine qb true (by kernel_rfl) (by kernel_rfl) ?_) | (refine qb false (by kernel_rfl) (by kernel_rfl) ?_) | (refine hK _ ?_; clear hK K) | (clear hK K; refine hK _ ?_; clear hK K) | (clear hK K; clear hK K; refine hK _ ?_; clear hK K) | refine qd ?_)
          all_goals exact hR0
      · have hkb : (row[k].k != cols[k]) = true := by simp [hkk]
        have hR0 : R = false := by
          rw [hR, Bool.and_eq_false_iff]; right
          refine decide_eq_false fun e => hkk ?_
          subst e; simp
        repeat' (first | ((first | ((with_reducible refine qq (fun hg => ?_) (fun hg => ?_)) <;> (try simp only [hg]) <;> (try simp only [gS] at hg) <;> (try (first | simp only [eq_false hg, gI] | simp only [eq_true hg, gI]))) | (with_reducible first | refine qh ?_ | refine qg ?_ | refine ql ?_ | refine qk ?_) | refine qe ?_ | refine qi ?_ | refine qj ?_ | refine qm ?_) <;> (try simp (disch := first | omega | simp) [qc, -qr, -qba, hlt, hlt2, hkb])) | ((with_reducible refine sideT ?_ ?_); first | omega | assumption | (simp; done)) | (refine qf fun K hK => ?_) | (refine qa ?_) | (refine qb true (by kernel_rfl) (by kernel_rfl) ?_) | (refine qb false (by kernel_rfl) (by kernel_rfl) ?_) | (refine hK _ ?_; clear hK K) | (clear hK K; refine hK _ ?_; clear hK K) | (clear hK K; clear hK K; refine hK _ ?_; clear hK K) | refine qd ?_)
        all_goals exact hR0
    · have hR1 : R = true := by
        rw [hR, all_end fun j h => (he j h (by omega) (by omega)).1, Bool.true_and]
        refine decide_eq_true (List.ext_getElem (by simpa using hlen) fun i h1 h2 => ?_)
        rw [List.getElem_map]; exact (he i (by simpa using h1) h2 (by simp at h1; omega)).2
      repeat' (first | ((first | ((with_reducible refine qq (fun hg => ?_) (fun hg => ?_)) <;> (try simp only [hg]) <;> (try simp only [gS] at hg) <;> (try (first | simp only [eq_false hg, gI] | simp only [eq_true hg, gI]))) | (with_reducible first | refine qh ?_ | refine qg ?_ | refine ql ?_ | refine qk ?_) | refine qe ?_ | refine qi ?_ | refine qj ?_ | refine qm ?_) <;> (try simp (disch := first | omega | simp) [qc, -qr, -qba, hlt])) | ((with_reducible refine sideT ?_ ?_); first | omega | assumption | (simp; done)) | (refine qf fun K hK => ?_) | (refine qa ?_) | (refine qb true (by kernel_rfl) (by kernel_rfl) ?_) | (refine qb false (by kernel_rfl) (by kernel_rfl) ?_) | (refine hK _ ?_; clear hK K) | (clear hK K; refine hK _ ?_; clear hK K) | (clear hK K; clear hK K; refine hK _ ?_; clear hK K) | refine qd ?_)
      all_goals (rw [hR1]; done)
  · have hlenI : ¬ (row.length : Int) = cols.length := by omega
    have hR0 : R = false := by
      rw [hR, Bool.and_eq_false_iff]; right
      refine decide_eq_false fun e => hlen ?_
      subst e; simp
    refine qo Tryd.func7 Tryd.ntmps7 rfl rfl (by decide) rfl (by intro n; simp) fun σ n0 hcl hft => ?_
    repeat' (first | ((first | ((with_reducible refine qq (fun hg => ?_) (fun hg => ?_)) <;> (try simp only [hg]) <;> (try simp only [gS] at hg) <;> (try (first | simp only [eq_false hg, gI] | simp only [eq_true hg, gI]))) | (with_reducible first | refine qh ?_ | refine qg ?_ | refine ql ?_ | refine qk ?_) | refine qe ?_ | refine qi ?_ | refine qj ?_ | refine qm ?_) <;> (try simp (disch := first | omega | simp) [qc, -qr, -qba, hlenI])) | ((with_reducible refine sideT ?_ ?_); first | omega | assumption | (simp; done)) | (refine qf fun K hK => ?_) | (refine qa ?_) | (refine qb true (by kernel_rfl) (by kernel_rfl) ?_) | (refine qb false (by kernel_rfl) (by kernel_rfl) ?_) | (refine hK _ ?_; clear hK K) | (clear hK K; refine hK _ ?_; clear hK K) | (clear hK K; clear hK K; refine hK _ ?_; clear hK K) | refine qd ?_)
    all_goals first | exact absurd (by assumption) hlenI | (rw [hR0]; done)
end Go.Proofs.YtnkimlkoijfcpaaDoor

/- Layer 26 on plain data: Compact keeps the type of the result. -/
namespace Go.Proofs.YtnkimlkoijfcpaaDoor
open Go.RowKit Go.Lib
theorem last_keep : ∀ (l : List Ins) (i0 : Nat) (last : List Nat) (r : Nat), (∀ j (h : j < l.length), l[j].to.toNat ≠ r) → (lastL l i0 last).getD r 0 = last.getD r 0
  | [], _, _, _, _ => rfl
  | y :: l, k, last, r, h => by
    rw [lastL, last_keep l _ _ _ fun j hj => h (j + 1) (by simpa using hj), qx, if_neg (fun e => h 0 (by simp) e.1)]
theorem last_to : ∀ (l : List Ins) (i0 : Nat) (last : List Nat) (r : Nat), r < last.length → (∃ i, ∃ h : i < l.length, l[i].to.toNat = r) → ∃ j, ∃ h : j < l.length, (lastL l i0 last).getD r 0 = i0 + j ∧ l[j].to.toNat = r
  | [], _, _, _, _, ⟨_, h, _⟩ => absurd h (by simp)
  | x :: l, i0, last, r, hr, ⟨i, hi, he⟩ => by
    by_cases hex : ∃ i, ∃ h : i < l.length, l[i].to.toNat = r
    · obtain ⟨j, hj, h1, h2⟩ := last_to l (i0 + 1) (last.set x.to.toNat i0) r (by simpa using hr) hex
      exact ⟨j + 1, by simpa using hj, by rw [lastL, h1]; omega, by simpa using h2⟩
    · have hx : x.to.toNat = r := by
        cases i with
        | zero => simpa using he
        | succ i => exact absurd ⟨i, by simpa using hi, by simpa using he⟩ hex
      refine ⟨0, by simp, ?_, by simpa using hx⟩
      rw [lastL, last_keep l _ _ _ fun j hj e => hex ⟨j, hj, e⟩, qx, if_pos ⟨hx, by rw [hx]; exact hr⟩]; rfl
theorem done_some26 : ∀ (l : List Ins) (done : List Bool) (r : Nat), (doneL l done).getD r false = true → done.getD r false = false → ∃ i, ∃ h : i < l.length, l[i].to.toNat = r
  | [], done, r, h1, h2 => by rw [doneL] at h1; rw [h1] at h2; cases h2
  | x :: l, done, r, h1, h2 => by
    by_cases hx : x.to.toNat = r
    · exact ⟨0, by simp, hx⟩
    · rw [doneL] at h1
      obtain ⟨i, hi, h⟩ := done_some26 l _ r h1 (by rw [qx, if_neg (fun e => hx e.1)]; exact h2)
      exact ⟨i + 1, by simpa using hi, h⟩
theorem nodes_x : ∀ (l : List Ins) (i : Nat) (last : List Nat) (k : Nat), ((nodes l i last)[k]?).map Nd.x = l[k]?
  | [], _, _, k => by rw [nodes]; simp
  | x :: l, i, last, 0 => by rw [nodes]; rfl
  | x :: l, i, last, k + 1 => by rw [nodes, List.getElem?_cons_succ, List.getElem?_cons_succ, nodes_x l]
theorem root_to {c : Cod} {cols : List Int} (h : CodOk c cols) : ∃ d, (qy c)[rootC c]? = some d ∧ d.x.to.toNat = c.out.toNat := by
  have o0 := h.out0
  have o1 := h.out1
  obtain ⟨j, hj, h1, h2⟩ := last_to c.ins 0 (List.replicate c.types.length 0) c.out.toNat (by simp; omega) (done_some26 c.ins _ _ h.out2 (by rw [List.getD_eq_getElem?_getD, List.getElem?_replicate]; split <;> rfl))
  have hr : rootC c = j := by unfold rootC; rw [h1]; omega
  have hx := nodes_x c.ins 0 (List.replicate c.types.length 0) j
  rw [List.getElem?_eq_getElem hj] at hx
  rw [hr]
  cases hd : (qy c)[j]? with
  | none => unfold qy at hd; rw [hd] at hx; cases hx
  | some d =>
    unfold qy at hd
    rw [hd] at hx
    have hx2 : d.x = c.ins[j] := Option.some.inj hx
    exact ⟨d, rfl, by rw [hx2]; exact h2⟩
theorem comp_type {c : Cod} {cols : List Int} (h : CodOk c cols) : (compP c).types.getD (compP c).out.toNat 0 = c.types.getD c.out.toNat 0 := by
  obtain ⟨h1, -, -, h4, h5, -⟩ := comp_all_ok h 0 []
  obtain ⟨ht, -, -⟩ := trim_ok h 0 []
  obtain ⟨a, ha, ha2⟩ := root_to h1
  obtain ⟨b, hb, hb2⟩ := root_to ht
  have hk : ((qy (compP c)).map (keyN (compP c).types))[rootC (compP c)]? = ((qy (trimP c)).map (keyN (trimP c).types))[rootC (trimP c)]? := by rw [h5, h4]
  rw [List.getElem?_map, List.getElem?_map, ha, hb] at hk
  have hk2 := Option.some.inj hk
  unfold keyN at hk2
  simp only [Prod.mk.injEq] at hk2
  rw [ha2, hb2] at hk2
  exact hk2.2.2.2.2
theorem comp_typ {cols : List Int} {f : Ex} (h : TypE cols f) (hp : parts f ≤ 1000) : CodOk (compP (rawP cols f)) cols ∧ (∀ time row, valC (compP (rawP cols f)) time row = ev (fun _ _ => zeroV) time row [] f) ∧ (compP (rawP cols f)).types.getD (compP (rawP cols f)).out.toNat 0 = typE cols f := by
  obtain ⟨h1, h2, h3⟩ := raw_ok h hp
  refine ⟨(comp_ok h1 0 []).1, fun time row => ?_, by rw [comp_type h1]; exact h3⟩
  rw [(comp_ok h1 time row).2.1, h2]
end Go.Proofs.YtnkimlkoijfcpaaDoor

/- Walk of layer 25: whether an instruction is formed. -/
namespace Go.Proofs.YtnkimlkoijfcpaaDoor
open Go.RowKit Go.Lib
end Go.Proofs.YtnkimlkoijfcpaaDoor

/- Walks: slices.IndexFunc and ContainsFunc at ints, with a closure over one variable, or over none. -/
namespace Go.Proofs.YtnkimlkoijfcpaaDoor
open Go.RowKit Go.Lib
end Go.Proofs.YtnkimlkoijfcpaaDoor

/- Walk of layer 25: the error of an instruction. -/
namespace Go.Proofs.YtnkimlkoijfcpaaDoor
open Go.RowKit Go.Lib
def offR (types : List Int) (r : Int) : Bool := decide (r < 0) || decide ((types.length : Int) ≤ r)
end Go.Proofs.YtnkimlkoijfcpaaDoor

/- Slice literals that grow. -/
namespace Go.Proofs.YtnkimlkoijfcpaaDoor
open Go.RowKit Go.Lib
def aevZ (P : Program) (s : AS) (o : Op) (K : AV → AS → Prop) : Prop :=
  match o with
  | .buildSlice t n ⟨p :: ps⟩ => match vinfo P t with
    | some (e, sz, _) => n = (p :: ps).length ∧ n * sz ≤ 16777216 ∧ bldS sz 0 ((p :: ps).map fun p => (p.1, s.eval p.2)) ∧ AV.wid ((p :: ps).map fun p => (s.eval p.2).pub) sz ∧
        K (.gs (s.n0 + (s.L.length + 1)) ((p :: ps).map fun p => (s.eval p.2).pub)) ((s.ext (some .dead)).ext (some (.tail n e sz)))
    | none => False
  | o => aev P s o K
attribute [simp] aevZ
end Go.Proofs.YtnkimlkoijfcpaaDoor

/- Walk of layer 25: the error of an instruction. -/
namespace Go.Proofs.YtnkimlkoijfcpaaDoor
open Go.RowKit Go.Lib
end Go.Proofs.YtnkimlkoijfcpaaDoor

/- Walk of layer 25: Verify. -/
namespace Go.Proofs.YtnkimlkoijfcpaaDoor
open Go.RowKit Go.Lib
end Go.Proofs.YtnkimlkoijfcpaaDoor

/- Layer 26: the value of a program that was compiled. -/
namespace Go.Proofs.YtnkimlkoijfcpaaDoor
open Go.RowKit Go.Lib
theorem comp_val {F : List Fn} {cols : List Int} {e y : Ex} {t time : Int} {row : List Val} (hOk : ∀ i, i < F.length → okF F i = true) (ht : ty F cols [] e = some t) (hy : qcd F e = some y) (g1 : ty [] cols [] y = some t) (hk : row.map Val.k = cols) (hs : ∀ v ∈ row, qbc v) :
    ev (fun _ _ => zeroV) time row [] (foldE y) = evalP F time row e := by
  subst hk
  rw [(fold_ok y g1).2 _ _ _ _ (snd_nil (qbo.of hs)), ← (inline_sem hOk hs ht hy).2]
  unfold evalP
  rw [callN_zero]
end Go.Proofs.YtnkimlkoijfcpaaDoor
