/- Walks of layer 27: the machine, and Run. -/
import Derived.Test.YtnkimlkoijfcpaaGreatDoorGf5
import Derived.Test.YtnkimlkoijfcpaaGreatDoorGf15
import Derived.Test.YtnkimlkoijfcpaaGreatDoorGf18
import Derived.Test.YtnkimlkoijfcpaaGreatDoorGf20
import Derived.Test.YtnkimlkoijfcpaaGreatDoorGf24
import Derived.Test.YtnkimlkoijfcpaaGreatDoorGf27
import Derived.Test.YtnkimlkoijfcpaaGreatDoorGf28
set_option linter.unusedSimpArgs false
set_option linter.unusedVariables false
namespace Go.Proofs.YtnkimlkoijfcpaaGreatDoor
open Go.RowKit Go.Lib
structure Mach (σ : Nat → AB) (m v : Nat) (L : List Delta) (regs : List AV) : Prop where
  hm : σ m = .cells [.sl (L.map Delta.av), .own v regs.length] 167
  hv : σ v = .vec regs 26 1
theorem Mach.upto {σ τ : Nat → AB} {m v : Nat} {L : List Delta} {regs : List AV} (h : Mach σ m v L regs) (hu : Upto σ τ) : Mach τ m v L regs := ⟨hu.at h.hm (by simp), hu.at h.hv (by simp)⟩
theorem Upto.trans {σ τ υ : Nat → AB} (h : Upto σ τ) (h2 : Upto τ υ) : Upto σ υ := fun r hr => by
  rw [h2 r (by rw [h r hr]; exact hr), h r hr]
theorem fin_un {σ : Nat → AB} {n0 r : Nat} (hfin : Fin σ n0) (h : σ r ≠ .unborn) : r < n0 := Nat.lt_of_not_le fun hn => h (hfin r hn)
def Caps (σ : Nat → AB) (caps : List AV) : Prop := ∀ n0, Fin σ n0 → AV.cls n0 caps
set_option maxHeartbeats 4000000 in
theorem column_g {σ : Nat → AB} {m v f : Nat} {L : List Delta} {regs : List AV} (hM : Mach σ m v L regs) (hf : enters Tryz.prog f = true) (caps : List AV) (hcap : Caps σ caps) (hL : L.length ≤ 1000000) (G : Delta → Val)
    (h : ∀ τ, Upto σ τ → ∀ i (h : i < L.length), qbh Tryz.prog f (.int i :: caps) τ (G L[i]).av) : qbh Tryz.prog 169 [.ptr m 0, .fn f caps] σ (.sl (L.map fun d => (G d).av)) := by
  have hsz : 32 * L.length ≤ 281474976710656 := by omega
  refine qw Tryz.func169 Tryz.ntmps169 rfl rfl (by decide) rfl (by intro n; simp) fun n0 hfin hcl hft => ?_
  have hl1 := qbo hfin hM.hm (by simp)
  have hmn := qcs hfin hM.hm (by simp)
  have hvn := qcs hfin hM.hv (by simp)
  have hcc := hcap n0 hfin
  repeat' (first | ((first | ((with_reducible refine qo (fun hg => ?_) (fun hg => ?_)) <;> (try simp only [hg]) <;> (try simp only [gS] at hg) <;> (try (first | simp only [eq_false hg, gI] | simp only [eq_true hg, gI]))) | (with_reducible first | refine qg ?_ | refine qf ?_ | refine ql ?_ | refine qk ?_) | refine qd ?_ | refine qi ?_ | refine qj ?_ | refine qm ?_) <;> (try simp (disch := first | omega | simp) [qh, -qq, -qs, hl1, hsz, hmn, hvn, hcc])) | ((with_reducible refine sideT ?_ ?_); first | omega | assumption | (simp; done)) | (refine qe fun K hK => ?_) | (refine qa ?_) | (refine qb true (by kernel_rfl) (by kernel_rfl) ?_) | (refine qb false (by kernel_rfl) (by kernel_rfl) ?_) | (refine hK _ ?_; clear hK K) | (clear hK K; refine hK _ ?_; clear hK K) | (clear hK K; clear hK K; refine hK _ ?_; clear hK K) | refine qc ?_)
  refine qt hcl (fun k : Nat => [(1, .fn f caps), (5, .own n0 L.length), (17, .int L.length), (18, .int k)]) (fun k => [.vec (fillV (fun d => (G d).av) zeroV.av L k) 39 3])
    (fun k => k ≤ L.length) (fun k => L.length - k) 0 (by simp) (by simp [fillV_zero, zeroV, Val.av, -Val.av_fold]; exact AV.cls_mono (by omega) _ hcc) fun k hk => ?_
  by_cases hlt : k < L.length
  · have c1 := h _ (upto_loc hfin [.vec (fillV (fun d => (G d).av) zeroV.av L k) 39 3]) k hlt
    have hfl : (fillV (fun d => (G d).av) zeroV.av L k).length = L.length := fillV_len (by omega)
    have hge : (fillV (fun d => (G d).av) zeroV.av L k)[k]'(by rw [hfl]; exact hlt) = .agg [.int 0, .int 0, .str ByteArray.empty] := by
      have := fillV_get (f := fun d => (G d).av) (z := zeroV.av) hlt
      rw [List.getElem?_eq_getElem (by rw [hfl]; exact hlt)] at this
      injection this with this
    have hst := fillV_set (f := fun d => (G d).av) (z := zeroV.av) hlt
    have hcc1 : AV.cls (n0 + 1) caps := AV.cls_mono (by omega) _ hcc
    repeat' (first | ((first | ((with_reducible refine qo (fun hg => ?_) (fun hg => ?_)) <;> (try simp only [hg]) <;> (try simp only [gS] at hg) <;> (try (first | simp only [eq_false hg, gI] | simp only [eq_true hg, gI]))) | (with_reducible first | refine qg ?_ | refine qf ?_ | refine ql ?_ | refine qk ?_) | refine acall (c1) ?_ | refine qp (c1) ?_ | refine qr (c1) ?_ | refine qd ?_ | refine qi ?_ | refine qj ?_ | refine qm ?_) <;> (try simp (disch := first | omega | simp) [qh, -qq, -qs, hlt, hcc, hcc1, hf, hfl, hge])) | ((with_reducible refine sideT ?_ ?_); first | omega | assumption | (simp; done)) | (refine qe fun K hK => ?_) | (refine qa ?_) | (refine qb true (by kernel_rfl) (by kernel_rfl) ?_) | (refine qb false (by kernel_rfl) (by kernel_rfl) ?_) | (refine hK _ ?_; clear hK K) | (clear hK K; refine hK _ ?_; clear hK K) | (clear hK K; clear hK K; refine hK _ ?_; clear hK K) | refine qc ?_)
    exact ⟨k + 1, by omega, by omega, hst, fillV_cls (fun x => (G x).av_cl _) (Val.av_cl _ _), by omega⟩
  · obtain rfl : k = L.length := by omega
    rw [fillV_all]
    refine awp_freezeR 5 0 (k := L.length) (by simp) (by rfl) (by simp) ?_
    repeat' (first | ((first | ((with_reducible refine qo (fun hg => ?_) (fun hg => ?_)) <;> (try simp only [hg]) <;> (try simp only [gS] at hg) <;> (try (first | simp only [eq_false hg, gI] | simp only [eq_true hg, gI]))) | (with_reducible first | refine qg ?_ | refine qf ?_ | refine ql ?_ | refine qk ?_) | refine qd ?_ | refine qi ?_ | refine qj ?_ | refine qm ?_) <;> (try simp (disch := first | omega | simp) [qh, -qq, -qs, hlt])) | ((with_reducible refine sideT ?_ ?_); first | omega | assumption | (simp; done)) | (refine qe fun K hK => ?_) | (refine qa ?_) | (refine qb true (by kernel_rfl) (by kernel_rfl) ?_) | (refine qb false (by kernel_rfl) (by kernel_rfl) ?_) | (refine hK _ ?_; clear hK K) | (clear hK K; refine hK _ ?_; clear hK K) | (clear hK K; clear hK K; refine hK _ ?_; clear hK K) | refine qc ?_)
theorem caps_of {σ : Nat → AB} {l : List Nat} (h : ∀ r ∈ l, σ r ≠ .unborn) : Caps σ (l.map fun r => AV.ptr r 0) := fun n0 hfin => AV.cls_iff.2 fun x hx => by
  obtain ⟨r, hr, rfl⟩ := List.mem_map.1 hx
  have := fin_un hfin (h r hr)
  simpa using this
section
variable {σ : Nat → AB} {m v : Nat} {L : List Delta} {regs : List AV} {x : Ins}
set_option maxHeartbeats 4000000 in
theorem source_g (hM : Mach σ m v L regs) (hL : L.length ≤ 1000000) (hop : x.op = 0 ∨ x.op = 1 ∨ x.op = 2 ∨ x.op = 3 ∨ x.op = 5) (hc : x.op = 3 → ∀ d ∈ L, 0 ≤ x.n ∧ x.n < d.row.length) :
    qbh Tryz.prog 133 [.ptr m 0, x.av] σ (.sl (L.map fun d => (opI d.time d.row x []).av)) := by
  refine qw Tryz.func133 Tryz.ntmps133 rfl rfl (by decide) rfl (by intro n; simp) fun n0 hfin hcl hft => ?_
  have hmn := qcs hfin hM.hm (by simp)
  have hvn := qcs hfin hM.hv (by simp)
  have hu := upto_loc hfin [.cells [.ptr m 0] 164, .cells [.int x.op, .int x.to, .int x.a, .int x.b, .int x.c, .int x.n, .str x.s] 78]
  have hM2 := hM.upto hu
  have c1 := column_g hM2 (f := 170) (by kernel_rfl) _ (caps_of (l := [n0 + 1, n0]) (by simp)) hL (fun d => opI d.time d.row x []) fun τ ht i hi =>
    source1_g (ht.at (r := n0 + 1) (by simp) (by simp)) (ht.at (r := n0) (by simp) (by simp)) (hM2.upto ht).hm hi hop fun h3 => hc h3 _ (List.getElem_mem _)
  repeat' (first | ((first | ((with_reducible refine qo (fun hg => ?_) (fun hg => ?_)) <;> (try simp only [hg]) <;> (try simp only [gS] at hg) <;> (try (first | simp only [eq_false hg, gI] | simp only [eq_true hg, gI]))) | (with_reducible first | refine qg ?_ | refine qf ?_ | refine ql ?_ | refine qk ?_) | refine acall (c1) ?_ | refine qp (c1) ?_ | refine qr (c1) ?_ | refine qd ?_ | refine qi ?_ | refine qj ?_ | refine qm ?_) <;> (try simp (disch := first | omega | simp) [qh, -qq, -qs, hmn, hvn])) | ((with_reducible refine sideT ?_ ?_); first | omega | assumption | (simp; done)) | (refine qe fun K hK => ?_) | (refine qa ?_) | (refine qb true (by kernel_rfl) (by kernel_rfl) ?_) | (refine qb false (by kernel_rfl) (by kernel_rfl) ?_) | (refine hK _ ?_; clear hK K) | (clear hK K; refine hK _ ?_; clear hK K) | (clear hK K; clear hK K; refine hK _ ?_; clear hK K) | refine qc ?_)
set_option maxHeartbeats 4000000 in
theorem one_g (hM : Mach σ m v L regs) (hL : L.length ≤ 1000000) (hop : x.op = 6 ∨ x.op = 7 ∨ x.op = 20) {gA : Delta → Val} (zA : 0 ≤ x.a) (hA : regs[x.a.toNat]? = some (.sl ((L.map gA).map Val.av))) :
    qbh Tryz.prog 134 [.ptr m 0, x.av] σ (.sl (L.map fun d => (opI d.time d.row x [gA d]).av)) := by
  obtain ⟨A, eA⟩ : ∃ A, A = L.map gA := ⟨_, rfl⟩
  rw [← eA] at hA
  have lA : A.length = L.length := by rw [eA, List.length_map]
  have iA : ∀ i (h : i < L.length), A[i]'(by omega) = gA L[i] := fun i h => by subst eA; rw [List.getElem_map]
  have qA : x.a < regs.length := by have := (List.getElem?_eq_some_iff.1 hA).1; omega
  have rA : regs[x.a.toNat]'(by omega) = .sl (A.map Val.av) := (List.getElem?_eq_some_iff.1 hA).2
  refine qw Tryz.func134 Tryz.ntmps134 rfl rfl (by decide) rfl (by intro n; simp) fun n0 hfin hcl hft => ?_
  have hmn := qcs hfin hM.hm (by simp)
  have hvn := qcs hfin hM.hv (by simp)
  have hl1 := qbo hfin hM.hm (by simp)
  have hl2 := qbo hfin hM.hv (by simp)
  have hu := upto_loc hfin [.cells [.int x.op, .int x.to, .int x.a, .int x.b, .int x.c, .int x.n, .str x.s] 78, .cells [.sl (A.map Val.av)] 26]
  have hM2 := hM.upto hu
  have c1 := column_g hM2 (f := 171) (by kernel_rfl) _ (caps_of (l := [n0, n0 + 1]) (by simp)) hL (fun d => opI d.time d.row x [gA d]) fun τ ht i hi => by
    have := one1_g (A := A) (ht.at (r := n0) (by simp) (by simp)) (ht.at (r := n0 + 1) (by simp) (by simp)) (i := i) (by omega) hop L[i].time L[i].row
    rw [iA i hi] at this
    exact this
  repeat' (first | ((first | ((with_reducible refine qo (fun hg => ?_) (fun hg => ?_)) <;> (try simp only [hg]) <;> (try simp only [gS] at hg) <;> (try (first | simp only [eq_false hg, gI] | simp only [eq_true hg, gI]))) | (with_reducible first | refine qg ?_ | refine qf ?_ | refine ql ?_ | refine qk ?_) | refine acall (c1) ?_ | refine qp (c1) ?_ | refine qr (c1) ?_ | refine qd ?_ | refine qi ?_ | refine qj ?_ | refine qm ?_) <;> (try simp (disch := first | omega | simp) [qh, -qq, -qs, hl1, hl2, hmn, hvn, zA, qA, rA])) | ((with_reducible refine sideT ?_ ?_); first | omega | assumption | (simp; done)) | (refine qe fun K hK => ?_) | (refine qa ?_) | (refine qb true (by kernel_rfl) (by kernel_rfl) ?_) | (refine qb false (by kernel_rfl) (by kernel_rfl) ?_) | (refine hK _ ?_; clear hK K) | (clear hK K; refine hK _ ?_; clear hK K) | (clear hK K; clear hK K; refine hK _ ?_; clear hK K) | refine qc ?_)
set_option maxHeartbeats 4000000 in
theorem two_g (hM : Mach σ m v L regs) (hL : L.length ≤ 1000000) (hop : 8 ≤ x.op ∧ x.op ≤ 19) {gA : Delta → Val} (zA : 0 ≤ x.a) (hA : regs[x.a.toNat]? = some (.sl ((L.map gA).map Val.av))) {gB : Delta → Val} (zB : 0 ≤ x.b) (hB : regs[x.b.toNat]? = some (.sl ((L.map gB).map Val.av))) (hs : ∀ d ∈ L, (gA d).s.size + (gB d).s.size ≤ 1000) :
    qbh Tryz.prog 135 [.ptr m 0, x.av] σ (.sl (L.map fun d => (opI d.time d.row x [gA d, gB d]).av)) := by
  obtain ⟨A, eA⟩ : ∃ A, A = L.map gA := ⟨_, rfl⟩
  rw [← eA] at hA
  have lA : A.length = L.length := by rw [eA, List.length_map]
  have iA : ∀ i (h : i < L.length), A[i]'(by omega) = gA L[i] := fun i h => by subst eA; rw [List.getElem_map]
  have qA : x.a < regs.length := by have := (List.getElem?_eq_some_iff.1 hA).1; omega
  have rA : regs[x.a.toNat]'(by omega) = .sl (A.map Val.av) := (List.getElem?_eq_some_iff.1 hA).2
  obtain ⟨B, eB⟩ : ∃ B, B = L.map gB := ⟨_, rfl⟩
  rw [← eB] at hB
  have lB : B.length = L.length := by rw [eB, List.length_map]
  have iB : ∀ i (h : i < L.length), B[i]'(by omega) = gB L[i] := fun i h => by subst eB; rw [List.getElem_map]
  have qB : x.b < regs.length := by have := (List.getElem?_eq_some_iff.1 hB).1; omega
  have rB : regs[x.b.toNat]'(by omega) = .sl (B.map Val.av) := (List.getElem?_eq_some_iff.1 hB).2
  refine qw Tryz.func135 Tryz.ntmps135 rfl rfl (by decide) rfl (by intro n; simp) fun n0 hfin hcl hft => ?_
  have hmn := qcs hfin hM.hm (by simp)
  have hvn := qcs hfin hM.hv (by simp)
  have hl1 := qbo hfin hM.hm (by simp)
  have hl2 := qbo hfin hM.hv (by simp)
  have hu := upto_loc hfin [.cells [.int x.op, .int x.to, .int x.a, .int x.b, .int x.c, .int x.n, .str x.s] 78, .cells [.sl (A.map Val.av)] 26, .cells [.sl (B.map Val.av)] 26]
  have hM2 := hM.upto hu
  have c1 := column_g hM2 (f := 172) (by kernel_rfl) _ (caps_of (l := [n0, n0 + 1, n0 + 2]) (by simp)) hL (fun d => opI d.time d.row x [gA d, gB d]) fun τ ht i hi => by
    have := two1_g (A := A) (B := B) (ht.at (r := n0) (by simp) (by simp)) (ht.at (r := n0 + 1) (by simp) (by simp)) (ht.at (r := n0 + 2) (by simp) (by simp)) (i := i) (by omega) (by omega) hop (by rw [iA i hi, iB i hi]; exact hs _ (List.getElem_mem _)) L[i].time L[i].row
    rw [iA i hi, iB i hi] at this
    exact this
  repeat' (first | ((first | ((with_reducible refine qo (fun hg => ?_) (fun hg => ?_)) <;> (try simp only [hg]) <;> (try simp only [gS] at hg) <;> (try (first | simp only [eq_false hg, gI] | simp only [eq_true hg, gI]))) | (with_reducible first | refine qg ?_ | refine qf ?_ | refine ql ?_ | refine qk ?_ | refine anyE_step ?_ | refine anyE_end ?_) | refine acall (c1) ?_ | refine qp (c1) ?_ | refine qr (c1) ?_ | refine qd ?_ | refine qi ?_ | refine qj ?_ | refine qm ?_) <;> (try simp (disch := first | omega | simp) [qh, -qq, -qs, hl1, hl2, hmn, hvn, zA, qA, rA, zB, qB, rB])) | (with_reducible refine awp_anyE (id := 1) [.cells [.int x.op, .int x.to, .int x.a, .int x.b, .int x.c, .int x.n, .str x.s] 78] [.R, .R, .R, .R, .R, .R, .R, .R, .R, .R, .R, .R, .R, .R, .R, .R, .M, .M, .W, .W] (by kernel_rfl) (by kernel_rfl) (by simp) ?_) | ((with_reducible refine sideT ?_ ?_); first | omega | assumption | (simp; done)) | (refine qe fun K hK => ?_) | (refine qa ?_) | (refine qb true (by kernel_rfl) (by kernel_rfl) ?_) | (refine qb false (by kernel_rfl) (by kernel_rfl) ?_) | (refine hK _ ?_; clear hK K) | (clear hK K; refine hK _ ?_; clear hK K) | (clear hK K; clear hK K; refine hK _ ?_; clear hK K) | refine qc ?_)
set_option maxHeartbeats 4000000 in
theorem three_g (hM : Mach σ m v L regs) (hL : L.length ≤ 1000000) (hop : x.op = 21) {gA : Delta → Val} (zA : 0 ≤ x.a) (hA : regs[x.a.toNat]? = some (.sl ((L.map gA).map Val.av))) {gB : Delta → Val} (zB : 0 ≤ x.b) (hB : regs[x.b.toNat]? = some (.sl ((L.map gB).map Val.av))) {gC : Delta → Val} (zC : 0 ≤ x.c) (hC : regs[x.c.toNat]? = some (.sl ((L.map gC).map Val.av))) :
    qbh Tryz.prog 136 [.ptr m 0, x.av] σ (.sl (L.map fun d => (opI d.time d.row x [gA d, gB d, gC d]).av)) := by
  obtain ⟨A, eA⟩ : ∃ A, A = L.map gA := ⟨_, rfl⟩
  rw [← eA] at hA
  have lA : A.length = L.length := by rw [eA, List.length_map]
  have iA : ∀ i (h : i < L.length), A[i]'(by omega) = gA L[i] := fun i h => by subst eA; rw [List.getElem_map]
  have qA : x.a < regs.length := by have := (List.getElem?_eq_some_iff.1 hA).1; omega
  have rA : regs[x.a.toNat]'(by omega) = .sl (A.map Val.av) := (List.getElem?_eq_some_iff.1 hA).2
  obtain ⟨B, eB⟩ : ∃ B, B = L.map gB := ⟨_, rfl⟩
  rw [← eB] at hB
  have lB : B.length = L.length := by rw [eB, List.length_map]
  have iB : ∀ i (h : i < L.length), B[i]'(by omega) = gB L[i] := fun i h => by subst eB; rw [List.getElem_map]
  have qB : x.b < regs.length := by have := (List.getElem?_eq_some_iff.1 hB).1; omega
  have rB : regs[x.b.toNat]'(by omega) = .sl (B.map Val.av) := (List.getElem?_eq_some_iff.1 hB).2
  obtain ⟨C, eC⟩ : ∃ C, C = L.map gC := ⟨_, rfl⟩
  rw [← eC] at hC
  have lC : C.length = L.length := by rw [eC, List.length_map]
  have iC : ∀ i (h : i < L.length), C[i]'(by omega) = gC L[i] := fun i h => by subst eC; rw [List.getElem_map]
  have qC : x.c < regs.length := by have := (List.getElem?_eq_some_iff.1 hC).1; omega
  have rC : regs[x.c.toNat]'(by omega) = .sl (C.map Val.av) := (List.getElem?_eq_some_iff.1 hC).2
  refine qw Tryz.func136 Tryz.ntmps136 rfl rfl (by decide) rfl (by intro n; simp) fun n0 hfin hcl hft => ?_
  have hmn := qcs hfin hM.hm (by simp)
  have hvn := qcs hfin hM.hv (by simp)
  have hl1 := qbo hfin hM.hm (by simp)
  have hl2 := qbo hfin hM.hv (by simp)
  have hu := upto_loc hfin [.cells [.int x.op, .int x.to, .int x.a, .int x.b, .int x.c, .int x.n, .str x.s] 78, .cells [.sl (A.map Val.av)] 26, .cells [.sl (B.map Val.av)] 26, .cells [.sl (C.map Val.av)] 26]
  have hM2 := hM.upto hu
  have c1 := column_g hM2 (f := 174) (by kernel_rfl) _ (caps_of (l := [n0 + 1, n0 + 2, n0 + 3]) (by simp)) hL (fun d => opI d.time d.row x [gA d, gB d, gC d]) fun τ ht i hi => by
    have := three1_g (A := A) (B := B) (C := C) (ht.at (r := n0 + 1) (by simp) (by simp)) (ht.at (r := n0 + 2) (by simp) (by simp)) (ht.at (r := n0 + 3) (by simp) (by simp)) (i := i) (by omega) (by omega) (by omega)
    rw [iA i hi, iB i hi, iC i hi] at this
    unfold opI
    rw [if_pos hop]
    exact this
  repeat' (first | ((first | ((with_reducible refine qo (fun hg => ?_) (fun hg => ?_)) <;> (try simp only [hg]) <;> (try simp only [gS] at hg) <;> (try (first | simp only [eq_false hg, gI] | simp only [eq_true hg, gI]))) | (with_reducible first | refine qg ?_ | refine qf ?_ | refine ql ?_ | refine qk ?_ | refine anyE_step ?_ | refine anyE_end ?_) | refine acall (c1) ?_ | refine qp (c1) ?_ | refine qr (c1) ?_ | refine qd ?_ | refine qi ?_ | refine qj ?_ | refine qm ?_) <;> (try simp (disch := first | omega | simp) [qh, -qq, -qs, hl1, hl2, hmn, hvn, zA, qA, rA, zB, qB, rB, zC, qC, rC])) | (with_reducible refine awp_anyE (id := 1) [.cells [.int x.op, .int x.to, .int x.a, .int x.b, .int x.c, .int x.n, .str x.s] 78] [.R, .R, .R, .R, .R, .R, .R, .R, .R, .R, .R, .R, .R, .R, .R, .R, .R, .R, .R, .R, .R, .R, .R, .R, .M, .M, .M, .W, .W, .W] (by kernel_rfl) (by kernel_rfl) (by simp) ?_) | ((with_reducible refine sideT ?_ ?_); first | omega | assumption | (simp; done)) | (refine qe fun K hK => ?_) | (refine qa ?_) | (refine qb true (by kernel_rfl) (by kernel_rfl) ?_) | (refine qb false (by kernel_rfl) (by kernel_rfl) ?_) | (refine hK _ ?_; clear hK K) | (clear hK K; refine hK _ ?_; clear hK K) | (clear hK K; clear hK K; refine hK _ ?_; clear hK K) | refine qc ?_)
end
end Go.Proofs.YtnkimlkoijfcpaaGreatDoor

/- Walks of layer 27: run, Run. -/
namespace Go.Proofs.YtnkimlkoijfcpaaGreatDoor
open Go.RowKit Go.Lib
def kindF (n : Nat) : Nat := if n = 0 then 133 else if n = 1 then 134 else if n = 2 then 135 else 136
theorem ar_ops {x : Ins} (h : qbj x = true) : (opsP x).length = arO x.op := by
  rw [opsP_len, if_pos (form_op h)]
theorem ops1 {x : Ins} (h : qbj x = true) (ha : arO x.op = 1) : opsP x = [x.a] := by unfold opsP; rw [if_pos (form_op h), ha]; rfl
theorem ops2 {x : Ins} (h : qbj x = true) (ha : arO x.op = 2) : opsP x = [x.a, x.b] := by unfold opsP; rw [if_pos (form_op h), ha]; rfl
theorem ops3 {x : Ins} (h : qbj x = true) (ha : arO x.op = 3) : opsP x = [x.a, x.b, x.c] := by unfold opsP; rw [if_pos (form_op h), ha]; rfl
theorem ops0 {x : Ins} (h : qbj x = true) (ha : arO x.op = 0) : opsP x = [] := by unfold opsP; rw [if_pos (form_op h), ha]; rfl
theorem fit_len {cols : List Int} {R : List Val} (h : qbn cols R) : cols.length ≤ R.length := by
  obtain ⟨R0, R1, rfl, rfl, -⟩ := h
  simp
theorem kind_g {σ : Nat → AB} {m v : Nat} {L : List Delta} {regs : List AV} {x : Ins} {cols types : List Int} {done : List Bool} (hM : Mach σ m v L regs) (hL : L.length ≤ 1000000) (hx : InsOk cols types done x) (Rg : Delta → List Val)
    (hregs : ∀ r ∈ opsP x, regs[r.toNat]? = some (.sl ((L.map fun d => (Rg d).getD r.toNat zeroV).map Val.av))) (hs : ∀ d ∈ L, RegsOk types done (Rg d)) (hrow : ∀ d ∈ L, qbn cols d.row) :
    qbh Tryz.prog (kindF (arO x.op)) [.ptr m 0, x.av] σ (.sl (L.map fun d => (opI d.time d.row x (argsI (Rg d) x)).av)) := by
  have hop := hx.op
  have har : arO x.op = 0 ∨ arO x.op = 1 ∨ arO x.op = 2 ∨ arO x.op = 3 := by have := arO_le x.op; omega
  rcases har with h | h | h | h
  · have ho := ops0 hx.form h
    have hops : x.op = 0 ∨ x.op = 1 ∨ x.op = 2 ∨ x.op = 3 ∨ x.op = 5 := by unfold arO at h; split at h; omega; split at h; omega; split at h <;> omega
    rw [h]
    have hA : ∀ d, argsI (Rg d) x = [] := fun d => by unfold argsI; rw [ho]; rfl
    simp only [hA]
    exact source_g hM hL hops fun h3 d hd => by
      have := hx.col h3
      have := fit_len (hrow d hd)
      omega
  · have ho := ops1 hx.form h
    have hops : x.op = 6 ∨ x.op = 7 ∨ x.op = 20 := by unfold arO at h; split at h; omega; split at h; omega; split at h <;> omega
    rw [h]
    have hA : ∀ d, argsI (Rg d) x = [(Rg d).getD x.a.toNat zeroV] := fun d => by unfold argsI; rw [ho]; rfl
    simp only [hA]
    exact one_g hM hL hops (hx.args x.a (by rw [ho]; simp)).1 (hregs x.a (by rw [ho]; simp))
  · have ho := ops2 hx.form h
    have hops : 8 ≤ x.op ∧ x.op ≤ 19 := by unfold arO at h; split at h; omega; split at h; omega; split at h <;> omega
    rw [h]
    have hA : ∀ d, argsI (Rg d) x = [(Rg d).getD x.a.toNat zeroV, (Rg d).getD x.b.toNat zeroV] := fun d => by unfold argsI; rw [ho]; rfl
    simp only [hA]
    refine two_g hM hL hops (hx.args x.a (by rw [ho]; simp)).1 (hregs x.a (by rw [ho]; simp)) (hx.args x.b (by rw [ho]; simp)).1 (hregs x.b (by rw [ho]; simp)) fun d hd => ?_
    have h1 := ((hs d hd).2.2 x.a.toNat (hx.args x.a (by rw [ho]; simp)).2.2).2.2
    have h2 := ((hs d hd).2.2 x.b.toNat (hx.args x.b (by rw [ho]; simp)).2.2).2.2
    omega
  · have ho := ops3 hx.form h
    have hops : x.op = 21 := by unfold arO at h; split at h; omega; split at h; omega; split at h <;> omega
    rw [h]
    have hA : ∀ d, argsI (Rg d) x = [(Rg d).getD x.a.toNat zeroV, (Rg d).getD x.b.toNat zeroV, (Rg d).getD x.c.toNat zeroV] := fun d => by unfold argsI; rw [ho]; rfl
    simp only [hA]
    exact three_g hM hL hops (hx.args x.a (by rw [ho]; simp)).1 (hregs x.a (by rw [ho]; simp)) (hx.args x.b (by rw [ho]; simp)).1 (hregs x.b (by rw [ho]; simp)) (hx.args x.c (by rw [ho]; simp)).1 (hregs x.c (by rw [ho]; simp))
def ColV (a : AV) : Prop := a = .v (.slice none 0 0) ∨ ∃ V : List Val, a = .sl (V.map Val.av)
theorem colV_cl {regs : List AV} (h : ∀ a ∈ regs, ColV a) (n : Nat) : AV.cls n regs := AV.cls_iff.2 fun a ha => by
  rcases h a ha with rfl | ⟨V, rfl⟩ <;> simp
theorem clone_g (l : List Val) (hl : l.length ≤ 1000000) : Gives Tryz.prog 124 [.sl (l.map Val.av)] (.sl (l.map Val.av)) := by
  have hsz : l.length * 32 ≤ 140737488355328 := by omega
  refine qn Tryz.func124 Tryz.ntmps124 rfl rfl (by decide) rfl (by intro n; simp) fun σ n0 hcl hft => ?_
  repeat' (first | ((first | ((with_reducible refine qo (fun hg => ?_) (fun hg => ?_)) <;> (try simp only [hg]) <;> (try simp only [gS] at hg) <;> (try (first | simp only [eq_false hg, gI] | simp only [eq_true hg, gI]))) | (with_reducible first | refine qg ?_ | refine qf ?_ | refine ql ?_ | refine qk ?_ | refine aseqN_step ?_ | refine aseqN_end ?_) | refine qd ?_ | refine qi ?_ | refine qj ?_ | refine qm ?_) <;> (try simp (disch := first | omega | simp) [qh, -qq, -qs, hsz])) | (with_reducible refine awp_regionN (id := 1) ?_) | ((with_reducible refine sideT ?_ ?_); first | omega | assumption | (simp; done)) | (with_reducible refine nil_split ?_ (fun hnil => ?_); try simp only [hnil]) | (refine qe fun K hK => ?_) | (refine qa ?_) | (refine qb true (by kernel_rfl) (by kernel_rfl) ?_) | (refine qb false (by kernel_rfl) (by kernel_rfl) ?_) | (refine hK _ ?_; clear hK K) | (clear hK K; refine hK _ ?_; clear hK K) | (clear hK K; clear hK K; refine hK _ ?_; clear hK K) | refine qc ?_)
  all_goals simp_all
set_option maxHeartbeats 4000000 in
theorem run_g {c : Cod} {cols : List Int} (h : CodOk c cols) (L : List Delta) (hL : L.length ≤ 1000000) (hrow : ∀ d ∈ L, qbn cols d.row) : Gives Tryz.prog 85 [c.av, .sl (L.map Delta.av)] (.sl ((runD c L).map Val.av)) := by
  have c9 := clone_g (runD c L) (by unfold runD; rw [List.length_map]; exact hL)
  obtain ⟨ins, types, out⟩ := c
  have hsz : 24 * types.length ≤ 281474976710656 := by have := h.nt; simp only at this; omega
  have hni := h.ni
  simp only at hni
  refine qn Tryz.func85 Tryz.ntmps85 rfl rfl (by decide) rfl (by intro n; simp) fun σ n0 hcl hft => ?_
  have hbm : ∀ n : Nat, n ≤ 3 → [AV.bm 133 [.ptr (n0 + 2) 0]].length = 1 := fun _ _ => rfl
  repeat' (first | ((first | ((with_reducible refine qo (fun hg => ?_) (fun hg => ?_)) <;> (try simp only [hg]) <;> (try simp only [gS] at hg) <;> (try (first | simp only [eq_false hg, gI] | simp only [eq_true hg, gI]))) | (with_reducible first | refine qg ?_ | refine qf ?_ | refine ql ?_ | refine qk ?_) | refine qd ?_ | refine qi ?_ | refine qj ?_ | refine qm ?_) <;> (try simp (disch := first | omega | simp) [qh, -qq, -qs, hsz])) | ((with_reducible refine sideT ?_ ?_); first | omega | assumption | (simp; done)) | (refine qe fun K hK => ?_) | (refine qa ?_) | (refine qb true (by kernel_rfl) (by kernel_rfl) ?_) | (refine qb false (by kernel_rfl) (by kernel_rfl) ?_) | (refine hK _ ?_; clear hK K) | (clear hK K; refine hK _ ?_; clear hK K) | (clear hK K; clear hK K; refine hK _ ?_; clear hK K) | refine qc ?_)
  refine qt hcl (fun b : Nat × List AV => [(2, .ptr n0 0), (5, .ptr (n0 + 2) 0), (6, .sl [.bm 133 [.ptr (n0 + 2) 0], .bm 134 [.ptr (n0 + 2) 0], .bm 135 [.ptr (n0 + 2) 0], .bm 136 [.ptr (n0 + 2) 0]]), (26, .sl (ins.map Ins.av)), (27, .int ins.length), (28, .int b.1)])
    (fun b => [.cells [.sl (ins.map Ins.av), .sl (types.map AV.int), .int out] 45, .vec b.2 26 1, .cells [.sl (L.map Delta.av), .own (n0 + 1) types.length] 167])
    (fun b => b.1 ≤ ins.length ∧ b.2.length = types.length ∧ (∀ a ∈ b.2, ColV a) ∧ ∀ r : Nat, (doneL (ins.take b.1) (List.replicate types.length false)).getD r false = true → b.2[r]? = some (.sl ((colD L (ins.take b.1) types.length r).map Val.av)))
    (fun b => ins.length - b.1) (0, List.replicate types.length (.v (.slice none 0 0))) ⟨by omega, by simp, fun a ha => .inl (List.mem_replicate.1 ha).2, fun r hr => (no_done hr).elim⟩ (by simp) fun ⟨k, G⟩ ⟨hk1, hG, hCol, hR⟩ => ?_
  simp only at hk1 hG hCol hR
  have hcl1 : ∀ n, AV.cls n G := colV_cl hCol
  by_cases hlt : k < ins.length
  · have hx := AllOk.at ins k _ hlt h.all
    have hM : Mach (loc σ n0 [.cells [.sl (ins.map Ins.av), .sl (types.map AV.int), .int out] 45, .vec G 26 1, .cells [.sl (L.map Delta.av), .own (n0 + 1) types.length] 167, .cells [.int ins[k].op, .int ins[k].to, .int ins[k].a, .int ins[k].b, .int ins[k].c, .int ins[k].n, .str ins[k].s] 78]) (n0 + 2) (n0 + 1) L G := ⟨by simp [hG], by simp⟩
    have c1 := kind_g hM hL hx (fun d => regsI d.time d.row (ins.take k) (List.replicate types.length zeroV)) (fun r hr => hR r.toNat (hx.args r hr).2.2)
      (fun d hd => AllOk.regs (hrow d hd) d.time (ins.take k) (AllOk.take ins k _ h.all) (regsOk_start types)) hrow
    have c2 := ops_g ins[k]
    have hol := ar_ops hx.form
    have t0 := hx.to0
    have t1 : ins[k].to < types.length := hx.to1
    have har : arO ins[k].op = 0 ∨ arO ins[k].op = 1 ∨ arO ins[k].op = 2 ∨ arO ins[k].op = 3 := by have := arO_le ins[k].op; omega
    have hti : tinfo Tryz.prog 168 = some (false, 1) := by kernel_rfl
    have hrd : ∀ (τ : Nat → AB) (f : Nat) (l : List AV), rdAt τ false 1 (.ep (.bm f l) 0) = some (.bm f l) := fun _ _ _ => rfl
    have fin : ∃ a b, (a ≤ ins.length ∧ b.length = types.length ∧ (∀ x ∈ b, ColV x) ∧ ∀ r : Nat, (doneL (ins.take a) (List.replicate types.length false)).getD r false = true → b[r]? = some (.sl ((colD L (ins.take a) types.length r).map Val.av))) ∧ ins.length - a < ins.length - k ∧
        G.set ins[k].to.toNat (.sl (L.map fun d => (opI d.time d.row ins[k] (argsI (regsI d.time d.row (ins.take k) (List.replicate types.length zeroV)) ins[k])).av)) = b ∧ (k : Int) + 1 = a := by
      have htk : ins.take (k + 1) = ins.take k ++ [ins[k]] := List.take_succ_eq_append_getElem hlt
      have hRl : ∀ d : Delta, (regsI d.time d.row (ins.take k) (List.replicate types.length zeroV)).length = types.length := fun d => by
        have : ∀ (l : List Ins) (R : List Val), (regsI d.time d.row l R).length = R.length := fun l => by
          induction l with
          | nil => intro R; rfl
          | cons x l ih => intro R; show (regsI d.time d.row l (stepI d.time d.row R x)).length = _; rw [ih]; unfold stepI; rw [List.length_set]
        rw [this]; simp
      refine ⟨k + 1, _, ⟨by omega, by rw [List.length_set]; exact hG, fun a ha => ?_, fun r hr => ?_⟩, by omega, rfl, by omega⟩
      · rcases List.mem_or_eq_of_mem_set ha with ha | rfl
        · exact hCol a ha
        · exact .inr ⟨L.map fun d => opI d.time d.row ins[k] (argsI (regsI d.time d.row (ins.take k) (List.replicate types.length zeroV)) ins[k]), by rw [List.map_map]; rfl⟩
      · rw [htk, doneL_snoc, qx] at hr
        have hcol : ∀ r, colD L (ins.take (k + 1)) types.length r = L.map fun d => if ins[k].to.toNat = r then opI d.time d.row ins[k] (argsI (regsI d.time d.row (ins.take k) (List.replicate types.length zeroV)) ins[k]) else (regsI d.time d.row (ins.take k) (List.replicate types.length zeroV)).getD r zeroV := fun r => by
          unfold colD
          refine List.map_congr_left fun d _ => ?_
          rw [htk, regsI_snoc, stepI, qx]
          by_cases he : ins[k].to.toNat = r
          · rw [if_pos ⟨he, by rw [hRl]; omega⟩, if_pos he]
          · rw [if_neg (fun h => he h.1), if_neg he]
        rw [hcol r]
        by_cases he : ins[k].to.toNat = r
        · subst he
          rw [List.getElem?_set_self (by omega)]
          simp only [if_true]
          rw [List.map_map]; rfl
        · rw [if_neg (fun h => he h.1)] at hr
          rw [List.getElem?_set_ne he, hR r hr]
          simp only [he, if_false]
          rfl
    rcases har with ha | ha | ha | ha <;> rcases hCol _ (List.getElem_mem (show ins[k].to.toNat < G.length by omega)) with hgv | ⟨V, hgv⟩
    all_goals
      rw [ha] at hol c1
      repeat' (first | ((first | ((with_reducible refine qo (fun hg => ?_) (fun hg => ?_)) <;> (try simp only [hg]) <;> (try simp only [gS] at hg) <;> (try (first | simp only [eq_false hg, gI] | simp only [eq_true hg, gI]))) | (with_reducible first | refine qg ?_ | refine qf ?_ | refine ql ?_ | refine qk ?_ | refine anyE_step ?_ | refine anyE_end ?_) | refine acall (c2) ?_ | refine qp (c2) ?_ | refine qr (c2) ?_ | refine acall (c1) ?_ | refine qp (c1) ?_ | refine qr (c1) ?_ | refine qd ?_ | refine qi ?_ | refine qj ?_ | refine qm ?_) <;> (try simp (disch := first | omega | simp) [qh, -qq, -qs, hlt, hG, hol, t0, t1, hcl1, hti, hrd, hgv])) | (with_reducible refine awp_anyE (id := 6) [.cells [.sl (ins.map Ins.av), .sl (types.map AV.int), .int out] 45, .unborn, .cells [.sl (L.map Delta.av), .own (n0 + 1) types.length] 167, .cells [.int ins[k].op, .int ins[k].to, .int ins[k].a, .int ins[k].b, .int ins[k].c, .int ins[k].n, .str ins[k].s] 78] [.R, .R, .R, .R, .R, .R, .R, .R, .M, .R, .R, .R, .R, .W, .W, .W] (by kernel_rfl) (by kernel_rfl) (by simp) ?_) | ((with_reducible refine sideT ?_ ?_); first | omega | assumption | (simp; done)) | (refine qe fun K hK => ?_) | (refine qa ?_) | (refine qb true (by kernel_rfl) (by kernel_rfl) ?_) | (refine qb false (by kernel_rfl) (by kernel_rfl) ?_) | (refine hK _ ?_; clear hK K) | (clear hK K; refine hK _ ?_; clear hK K) | (clear hK K; clear hK K; refine hK _ ?_; clear hK K) | refine qc ?_)
      obtain ⟨a, b, ⟨f1, f2, f3, f4⟩, f5, f6, f7⟩ := fin
      exact ⟨a, b, ⟨f1, f2, f3, fun r hr => f4 r (by rw [List.getD_eq_getElem?_getD]; exact hr)⟩, f5, f6, colV_cl f3 _, f7⟩
  · obtain rfl : k = ins.length := by omega
    rw [List.take_length] at hR
    have ho : G[out.toNat]? = some (.sl ((runD ⟨ins, types, out⟩ L).map Val.av)) := hR out.toNat h.out2
    have o0 : 0 ≤ out := h.out0
    have o1 : out < types.length := h.out1
    have ho2 : G[out.toNat]'(by omega) = .sl ((runD ⟨ins, types, out⟩ L).map Val.av) := (List.getElem?_eq_some_iff.1 ho).2
    repeat' (first | ((first | ((with_reducible refine qo (fun hg => ?_) (fun hg => ?_)) <;> (try simp only [hg]) <;> (try simp only [gS] at hg) <;> (try (first | simp only [eq_false hg, gI] | simp only [eq_true hg, gI]))) | (with_reducible first | refine qg ?_ | refine qf ?_ | refine ql ?_ | refine qk ?_) | refine acall (c9) ?_ | refine qp (c9) ?_ | refine qr (c9) ?_ | refine qd ?_ | refine qi ?_ | refine qj ?_ | refine qm ?_) <;> (try simp (disch := first | omega | simp) [qh, -qq, -qs, hlt, hG, hcl1, o0, o1, ho2])) | ((with_reducible refine sideT ?_ ?_); first | omega | assumption | (simp; done)) | (refine qe fun K hK => ?_) | (refine qa ?_) | (refine qb true (by kernel_rfl) (by kernel_rfl) ?_) | (refine qb false (by kernel_rfl) (by kernel_rfl) ?_) | (refine hK _ ?_; clear hK K) | (clear hK K; refine hK _ ?_; clear hK K) | (clear hK K; clear hK K; refine hK _ ?_; clear hK K) | refine qc ?_)
end Go.Proofs.YtnkimlkoijfcpaaGreatDoor

/- Walks of layer 27: which batches fit. -/
namespace Go.Proofs.YtnkimlkoijfcpaaGreatDoor
open Go.RowKit Go.Lib
theorem fitRow_at {cols : List Int} {r : List Val} (hl : r.length = cols.length) (hr : rowOk r = true) {k : Nat} (hk : k < cols.length) (h : r[k].k ≠ cols[k]) : qby cols r = false := by
  unfold qby
  have : r.map Val.k ≠ cols := fun e => h (by
    have h2 : (r.map Val.k)[k]'(by simp; omega) = cols[k] := by simp [e]
    rw [List.getElem_map] at h2
    exact h2)
  simp [this]
theorem fitRow_all {cols : List Int} {r : List Val} (hl : r.length = cols.length) (hr : rowOk r = true) (h : ∀ k (hk : k < cols.length), r[k].k = cols[k]) : qby cols r = true := by
  unfold qby
  have : r.map Val.k = cols := by
    apply List.ext_getElem (by simp [hl])
    intro i h1 h2
    rw [List.getElem_map]
    exact h i h2
  simp [this, hl, hr]
theorem fitRow_len {cols : List Int} {r : List Val} (h : r.length ≠ cols.length) : qby cols r = false := by unfold qby; simp [h]
theorem fitRow_row {cols : List Int} {r : List Val} (h : rowOk r = false) : qby cols r = false := by unfold qby; simp [h]
set_option maxHeartbeats 4000000 in
theorem fits_g (cols : List Int) (L : List Delta) (hc : cols.length ≤ 1000000) (hL : L.length ≤ 1000000) (hr : ∀ d ∈ L, d.row.length ≤ 1000000) : Gives Tryz.prog 84 [.sl (cols.map AV.int), .sl (L.map Delta.av)] (.bool (fitsD cols L)) := by
  obtain ⟨R, hR⟩ : ∃ R, R = fitsD cols L := ⟨_, rfl⟩
  rw [← hR]
  unfold fitsD at hR
  refine qn Tryz.func84 Tryz.ntmps84 rfl rfl (by decide) rfl (by intro n; simp) fun σ n0 hcl hft => ?_
  repeat' (first | ((first | ((with_reducible refine qo (fun hg => ?_) (fun hg => ?_)) <;> (try simp only [hg]) <;> (try simp only [gS] at hg) <;> (try (first | simp only [eq_false hg, gI] | simp only [eq_true hg, gI]))) | (with_reducible first | refine qg ?_ | refine qf ?_ | refine ql ?_ | refine qk ?_) | refine qd ?_ | refine qi ?_ | refine qj ?_ | refine qm ?_) <;> (try simp (disch := first | omega | simp) [qh, -qq, -qs])) | ((with_reducible refine sideT ?_ ?_); first | omega | assumption | (simp; done)) | (refine qe fun K hK => ?_) | (refine qa ?_) | (refine qb true (by kernel_rfl) (by kernel_rfl) ?_) | (refine hK _ ?_; clear hK K) | (clear hK K; refine hK _ ?_; clear hK K) | (clear hK K; clear hK K; refine hK _ ?_; clear hK K) | refine qc ?_)
  refine qt hcl (fun k : Nat => [(0, .sl (cols.map AV.int)), (9, .sl (L.map Delta.av)), (10, .int L.length), (11, .int k)]) (fun _ => [])
    (fun k => k ≤ L.length ∧ ∀ j (h : j < L.length), j < k → qby cols L[j].row = true) (fun k => L.length - k) 0 (by simp) (by simp) fun k ⟨hk, he⟩ => ?_
  by_cases hlt : k < L.length
  · have hbad : qby cols L[k].row = false → R = false := fun h => by
      rw [hR, all_hit hlt h]
    have hnext : qby cols L[k].row = true → ∃ b', (b' ≤ L.length ∧ ∀ j (h : j < L.length), j < b' → qby cols L[j].row = true) ∧ L.length - b' < L.length - k ∧ (k : Int) + 1 = b' := fun h =>
      ⟨k + 1, ⟨by omega, qdd (C := fun d : Delta => qby cols d.row = true) he fun _ => h⟩, by omega, by omega⟩
    have c1 := row_g L[k].row (hr _ (List.getElem_mem _))
    by_cases hl : L[k].row.length = cols.length
    · cases hro : rowOk L[k].row
      · rw [hro] at c1
        have hb := hbad (fitRow_row hro)
        repeat' (first | ((first | ((with_reducible refine qo (fun hg => ?_) (fun hg => ?_)) <;> (try simp only [hg]) <;> (try simp only [gS] at hg) <;> (try (first | simp only [eq_false hg, gI] | simp only [eq_true hg, gI]))) | (with_reducible first | refine qg ?_ | refine qf ?_ | refine ql ?_ | refine qk ?_) | refine acall (c1) ?_ | refine qp (c1) ?_ | refine qd ?_ | refine qi ?_ | refine qj ?_ | refine qm ?_) <;> (try simp (disch := first | omega | simp) [qh, -qq, -qs, hlt, hl])) | ((with_reducible refine sideT ?_ ?_); first | omega | assumption | (simp; done)) | (refine qe fun K hK => ?_) | (refine qa ?_) | (refine qb true (by kernel_rfl) (by kernel_rfl) ?_) | (refine hK _ ?_; clear hK K) | (clear hK K; refine hK _ ?_; clear hK K) | (clear hK K; clear hK K; refine hK _ ?_; clear hK K) | refine qc ?_)
        exact hb
      · rw [hro] at c1
        repeat' (first | ((first | ((with_reducible refine qo (fun hg => ?_) (fun hg => ?_)) <;> (try simp only [hg]) <;> (try simp only [gS] at hg) <;> (try (first | simp only [eq_false hg, gI] | simp only [eq_true hg, gI]))) | (with_reducible first | refine qg ?_ | refine qf ?_ | refine ql ?_ | refine qk ?_) | refine acall (c1) ?_ | refine qp (c1) ?_ | refine qd ?_ | refine qi ?_ | refine qj ?_ | refine qm ?_) <;> (try simp (disch := first | omega | simp) [qh, -qq, -qs, hlt, hl])) | ((with_reducible refine sideT ?_ ?_); first | omega | assumption | (simp; done)) | (refine qe fun K hK => ?_) | (refine qa ?_) | (refine qb true (by kernel_rfl) (by kernel_rfl) ?_) | (refine hK _ ?_; clear hK K) | (clear hK K; refine hK _ ?_; clear hK K) | (clear hK K; clear hK K; refine hK _ ?_; clear hK K) | refine qc ?_)
        refine qt hcl (fun i : Nat => [(0, .sl (cols.map AV.int)), (6, .ptr n0 0), (9, .sl (L.map Delta.av)), (10, .int L.length), (11, .int k), (27, .sl (cols.map AV.int)), (28, .int cols.length), (29, .int i)]) (fun _ => [.cells [.int L[k].time, .sl (L[k].row.map Val.av), .int L[k].n] 72])
          (fun i => i ≤ cols.length ∧ ∀ j (h : j < cols.length), j < i → L[k].row[j].k = cols[j]) (fun i => cols.length - i) 0 (by simp) (by simp) fun i ⟨hi, hei⟩ => ?_
        by_cases hlt2 : i < cols.length
        · have hi2 : i < L[k].row.length := by omega
          by_cases hkk : L[k].row[i].k = cols[i]
          · repeat' (first | ((first | ((with_reducible refine qo (fun hg => ?_) (fun hg => ?_)) <;> (try simp only [hg]) <;> (try simp only [gS] at hg) <;> (try (first | simp only [eq_false hg, gI] | simp only [eq_true hg, gI]))) | (with_reducible first | refine qg ?_ | refine qf ?_ | refine ql ?_ | refine qk ?_) | refine qd ?_ | refine qi ?_ | refine qj ?_ | refine qm ?_) <;> (try simp (disch := first | omega | simp) [qh, -qq, -qs, hlt2, hi2, hkk])) | ((with_reducible refine sideT ?_ ?_); first | omega | assumption | (simp; done)) | (refine qe fun K hK => ?_) | (refine qa ?_) | (refine qb true (by kernel_rfl) (by kernel_rfl) ?_) | (refine qb false (by kernel_rfl) (by kernel_rfl) ?_) | (refine hK _ ?_; clear hK K) | (clear hK K; refine hK _ ?_; clear hK K) | (clear hK K; clear hK K; refine hK _ ?_; clear hK K) | refine qc ?_)
            exact ⟨i + 1, ⟨by omega, fun j hj hji => by
              by_cases hji2 : j = i
              · subst hji2; exact hkk
              · exact hei j hj (by omega)⟩, by omega, by omega⟩
          · have hb := hbad (fitRow_at hl hro hlt2 hkk)
            repeat' (first | ((first | ((with_reducible refine qo (fun hg => ?_) (fun hg => ?_)) <;> (try simp only [hg]) <;> (try simp only [gS] at hg) <;> (try (first | simp only [eq_false hg, gI] | simp only [eq_true hg, gI]))) | (with_reducible first | refine qg ?_ | refine qf ?_ | refine ql ?_ | refine qk ?_) | refine qd ?_ | refine qi ?_ | refine qj ?_ | refine qm ?_) <;> (try simp (disch := first | omega | simp) [qh, -qq, -qs, hlt2, hi2, hkk])) | ((with_reducible refine sideT ?_ ?_); first | omega | assumption | (simp; done)) | (refine qe fun K hK => ?_) | (refine qa ?_) | (refine qb true (by kernel_rfl) (by kernel_rfl) ?_) | (refine hK _ ?_; clear hK K) | (clear hK K; refine hK _ ?_; clear hK K) | (clear hK K; clear hK K; refine hK _ ?_; clear hK K) | refine qc ?_)
            all_goals first | exact hb | exact absurd (by assumption) hkk
        · have hn := hnext (fitRow_all hl hro fun j hj => hei j hj (by omega))
          repeat' (first | ((first | ((with_reducible refine qo (fun hg => ?_) (fun hg => ?_)) <;> (try simp only [hg]) <;> (try simp only [gS] at hg) <;> (try (first | simp only [eq_false hg, gI] | simp only [eq_true hg, gI]))) | (with_reducible first | refine qg ?_ | refine qf ?_ | refine ql ?_ | refine qk ?_) | refine qd ?_ | refine qi ?_ | refine qj ?_ | refine qm ?_) <;> (try simp (disch := first | omega | simp) [qh, -qq, -qs, hlt2])) | ((with_reducible refine sideT ?_ ?_); first | omega | assumption | (simp; done)) | (refine qe fun K hK => ?_) | (refine qa ?_) | (refine qb true (by kernel_rfl) (by kernel_rfl) ?_) | (refine hK _ ?_; clear hK K) | (clear hK K; refine hK _ ?_; clear hK K) | (clear hK K; clear hK K; refine hK _ ?_; clear hK K) | refine qc ?_)
          exact hn
    · have hb := hbad (fitRow_len hl)
      repeat' (first | ((first | ((with_reducible refine qo (fun hg => ?_) (fun hg => ?_)) <;> (try simp only [hg]) <;> (try simp only [gS] at hg) <;> (try (first | simp only [eq_false hg, gI] | simp only [eq_true hg, gI]))) | (with_reducible first | refine qg ?_ | refine qf ?_ | refine ql ?_ | refine qk ?_) | refine qd ?_ | refine qi ?_ | refine qj ?_ | refine qm ?_) <;> (try simp (disch := first | omega | simp) [qh, -qq, -qs, hlt, hl])) | ((with_reducible refine sideT ?_ ?_); first | omega | assumption | (simp; done)) | (refine qe fun K hK => ?_) | (refine qa ?_) | (refine qb true (by kernel_rfl) (by kernel_rfl) ?_) | (refine hK _ ?_; clear hK K) | (clear hK K; refine hK _ ?_; clear hK K) | (clear hK K; clear hK K; refine hK _ ?_; clear hK K) | refine qc ?_)
      all_goals first | exact hb | (exfalso; omega)
  · repeat' (first | ((first | ((with_reducible refine qo (fun hg => ?_) (fun hg => ?_)) <;> (try simp only [hg]) <;> (try simp only [gS] at hg) <;> (try (first | simp only [eq_false hg, gI] | simp only [eq_true hg, gI]))) | (with_reducible first | refine qg ?_ | refine qf ?_ | refine ql ?_ | refine qk ?_) | refine qd ?_ | refine qi ?_ | refine qj ?_ | refine qm ?_) <;> (try simp (disch := first | omega | simp) [qh, -qq, -qs, hlt])) | ((with_reducible refine sideT ?_ ?_); first | omega | assumption | (simp; done)) | (refine qe fun K hK => ?_) | (refine qa ?_) | (refine qb true (by kernel_rfl) (by kernel_rfl) ?_) | (refine qb false (by kernel_rfl) (by kernel_rfl) ?_) | (refine hK _ ?_; clear hK K) | (clear hK K; refine hK _ ?_; clear hK K) | (clear hK K; clear hK K; refine hK _ ?_; clear hK K) | refine qc ?_)
    rw [hR, all_end (qep (C := fun d : Delta => qby cols d.row = true) he hlt)]
end Go.Proofs.YtnkimlkoijfcpaaGreatDoor

/- Walks of layer 27: Run and Work. -/
namespace Go.Proofs.YtnkimlkoijfcpaaGreatDoor
open Go.RowKit Go.Lib
set_option maxHeartbeats 4000000 in
theorem Run_g (c : Cod) (cols : List Int) (L : List Delta) (hc : cols.length ≤ 1000000) (hL : L.length ≤ 1000000) (hr : ∀ d ∈ L, d.row.length ≤ 1000000) :
    Gives Tryz.prog 33 [c.av, .sl (cols.map AV.int), .sl (L.map Delta.av)] (.tup [.sl ((runP c cols L).1.map Val.av), .int (runP c cols L).2]) := by
  have c1 := verify_g c cols hc
  have c2 := fits_g cols L hc hL hr
  obtain ⟨R, hR⟩ : ∃ R, R = runP c cols L := ⟨_, rfl⟩
  rw [← hR]
  unfold runP at hR
  by_cases hv : (verP c cols).2 = 0
  · rw [if_neg (by omega)] at hR
    rw [hv] at c1
    cases hf : fitsD cols L
    · rw [hf] at c2 hR
      rw [if_pos rfl] at hR
      refine qn Tryz.func33 Tryz.ntmps33 rfl rfl (by decide) rfl (by intro n; simp) fun σ n0 hcl hft => ?_
      repeat' (first | ((first | ((with_reducible refine qo (fun hg => ?_) (fun hg => ?_)) <;> (try simp only [hg]) <;> (try simp only [gS] at hg) <;> (try (first | simp only [eq_false hg, gI] | simp only [eq_true hg, gI]))) | (with_reducible first | refine qg ?_ | refine qf ?_ | refine ql ?_ | refine qk ?_) | refine acall (c1) ?_ | refine qp (c1) ?_ | refine acall (c2) ?_ | refine qp (c2) ?_ | refine qd ?_ | refine qi ?_ | refine qj ?_ | refine qm ?_) <;> (try simp (disch := first | omega | simp) [qh, -qq, -qs])) | ((with_reducible refine sideT ?_ ?_); first | omega | assumption | (simp; done)) | (refine qe fun K hK => ?_) | (refine qa ?_) | (refine qb true (by kernel_rfl) (by kernel_rfl) ?_) | (refine hK _ ?_; clear hK K) | (clear hK K; refine hK _ ?_; clear hK K) | (clear hK K; clear hK K; refine hK _ ?_; clear hK K) | refine qc ?_)
      all_goals (rw [hR]; simp)
    · rw [hf] at c2 hR
      rw [if_neg (by simp)] at hR
      have c3 := run_g (verP_ok.1 hv) L hL fun d hd => fitsD_mem hf hd
      rw [hR]
      refine qn Tryz.func33 Tryz.ntmps33 rfl rfl (by decide) rfl (by intro n; simp) fun σ n0 hcl hft => ?_
      repeat' (first | ((first | ((with_reducible refine qo (fun hg => ?_) (fun hg => ?_)) <;> (try simp only [hg]) <;> (try simp only [gS] at hg) <;> (try (first | simp only [eq_false hg, gI] | simp only [eq_true hg, gI]))) | (with_reducible first | refine qg ?_ | refine qf ?_ | refine ql ?_ | refine qk ?_) | refine acall (c1) ?_ | refine qp (c1) ?_ | refine acall (c2) ?_ | refine qp (c2) ?_ | refine acall (c3) ?_ | refine qp (c3) ?_ | refine qd ?_ | refine qi ?_ | refine qj ?_ | refine qm ?_) <;> (try simp (disch := first | omega | simp) [qh, -qq, -qs])) | ((with_reducible refine sideT ?_ ?_); first | omega | assumption | (simp; done)) | (refine qe fun K hK => ?_) | (refine qa ?_) | (refine qb true (by kernel_rfl) (by kernel_rfl) ?_) | (refine hK _ ?_; clear hK K) | (clear hK K; refine hK _ ?_; clear hK K) | (clear hK K; clear hK K; refine hK _ ?_; clear hK K) | refine qc ?_)
  · rw [if_pos hv] at hR
    rw [hR]
    refine qn Tryz.func33 Tryz.ntmps33 rfl rfl (by decide) rfl (by intro n; simp) fun σ n0 hcl hft => ?_
    repeat' (first | ((first | ((with_reducible refine qo (fun hg => ?_) (fun hg => ?_)) <;> (try simp only [hg]) <;> (try simp only [gS] at hg) <;> (try (first | simp only [eq_false hg, gI] | simp only [eq_true hg, gI]))) | (with_reducible first | refine qg ?_ | refine qf ?_ | refine ql ?_ | refine qk ?_) | refine acall (c1) ?_ | refine qp (c1) ?_ | refine qd ?_ | refine qi ?_ | refine qj ?_ | refine qm ?_) <;> (try simp (disch := first | omega | simp) [qh, -qq, -qs, hv])) | ((with_reducible refine sideT ?_ ?_); first | omega | assumption | (simp; done)) | (refine qe fun K hK => ?_) | (refine qa ?_) | (refine qb true (by kernel_rfl) (by kernel_rfl) ?_) | (refine hK _ ?_; clear hK K) | (clear hK K; refine hK _ ?_; clear hK K) | (clear hK K; clear hK K; refine hK _ ?_; clear hK K) | refine qc ?_)
    all_goals exact absurd (by assumption) hv
set_option maxHeartbeats 4000000 in
theorem work_g (c : Cod) (rows : Int) (hr : rows ≤ 9223372036854775807) (hn : c.ins.length ≤ 1000000) : Gives Tryz.prog 71 [c.av, .int rows] (.int (workP c rows)) := by
  obtain ⟨R, hR⟩ : ∃ R, R = workP c rows := ⟨_, rfl⟩
  rw [← hR]
  unfold workP at hR
  by_cases h1 : rows ≤ 0 ∨ c.ins.length = 0
  · rw [if_pos h1] at hR
    subst hR
    refine qn Tryz.func71 Tryz.ntmps71 rfl rfl (by decide) rfl (by intro n; simp) fun σ n0 hcl hft => ?_
    repeat' (first | ((first | ((with_reducible refine qo (fun hg => ?_) (fun hg => ?_)) <;> (try simp only [hg]) <;> (try simp only [gS] at hg) <;> (try (first | simp only [eq_false hg, gI] | simp only [eq_true hg, gI]))) | (with_reducible first | refine qg ?_ | refine qf ?_ | refine ql ?_ | refine qk ?_) | refine qd ?_ | refine qi ?_ | refine qj ?_ | refine qm ?_) <;> (try simp (disch := first | omega | simp) [qh, -qq, -qs])) | ((with_reducible refine sideT ?_ ?_); first | omega | assumption | (simp; done)) | (refine qe fun K hK => ?_) | (refine qa ?_) | (refine qb true (by kernel_rfl) (by kernel_rfl) ?_) | (refine hK _ ?_; clear hK K) | (clear hK K; refine hK _ ?_; clear hK K) | (clear hK K; clear hK K; refine hK _ ?_; clear hK K) | refine qc ?_)
    all_goals first | rfl | omega
  · rw [if_neg h1] at hR
    have h2 : ¬ rows ≤ 0 := by omega
    have h3 : ¬ c.ins.length = 0 := by omega
    have h4 : ¬ (c.ins.length : Int) = 0 := by omega
    have hd : (1099511627776 : Int).tdiv (c.ins.length : Int) = 1099511627776 / (c.ins.length : Int) := Int.tdiv_eq_ediv_of_nonneg (by omega)
    have hq0 : 0 ≤ 1099511627776 / (c.ins.length : Int) := Int.ediv_nonneg (by omega) (by omega)
    have hq1 : 1099511627776 / (c.ins.length : Int) ≤ 1099511627776 := Int.ediv_le_self _ (by omega)
    have hq2 : (c.ins.length : Int) * (1099511627776 / (c.ins.length : Int)) ≤ 1099511627776 := Int.mul_ediv_self_le (by omega)
    generalize hq : 1099511627776 / (c.ins.length : Int) = q at *
    by_cases h5 : q < rows
    · rw [if_pos h5] at hR
      subst hR
      refine qn Tryz.func71 Tryz.ntmps71 rfl rfl (by decide) rfl (by intro n; simp) fun σ n0 hcl hft => ?_
      repeat' (first | ((first | ((with_reducible refine qo (fun hg => ?_) (fun hg => ?_)) <;> (try simp only [hg]) <;> (try simp only [gS] at hg) <;> (try (first | simp only [eq_false hg, gI] | simp only [eq_true hg, gI]))) | (with_reducible first | refine qg ?_ | refine qf ?_ | refine ql ?_ | refine qk ?_) | refine qd ?_ | refine qi ?_ | refine qj ?_ | refine qm ?_) <;> (try simp (disch := first | omega | simp) [qh, -qq, -qs, h2, h3, h4, hd, h5])) | ((with_reducible refine sideT ?_ ?_); first | omega | assumption | (simp; done)) | (refine qe fun K hK => ?_) | (refine qa ?_) | (refine qb true (by kernel_rfl) (by kernel_rfl) ?_) | (refine hK _ ?_; clear hK K) | (clear hK K; refine hK _ ?_; clear hK K) | (clear hK K; clear hK K; refine hK _ ?_; clear hK K) | refine qc ?_)
      all_goals (exfalso; omega)
    · rw [if_neg h5] at hR
      have hm0 : 0 ≤ (c.ins.length : Int) * rows := Int.mul_nonneg (by omega) (by omega)
      have hm : (c.ins.length : Int) * rows ≤ 1099511627776 := Int.le_trans (Int.mul_le_mul_of_nonneg_left (by omega) (by omega)) hq2
      subst hR
      refine qn Tryz.func71 Tryz.ntmps71 rfl rfl (by decide) rfl (by intro n; simp) fun σ n0 hcl hft => ?_
      repeat' (first | ((first | ((with_reducible refine qo (fun hg => ?_) (fun hg => ?_)) <;> (try simp only [hg]) <;> (try simp only [gS] at hg) <;> (try (first | simp only [eq_false hg, gI] | simp only [eq_true hg, gI]))) | (with_reducible first | refine qg ?_ | refine qf ?_ | refine ql ?_ | refine qk ?_) | refine qd ?_ | refine qi ?_ | refine qj ?_ | refine qm ?_) <;> (try simp (disch := first | omega | simp) [qh, -qq, -qs, h2, h3, h4, hd, h5])) | ((with_reducible refine sideT ?_ ?_); first | omega | assumption | (simp; done)) | (refine qe fun K hK => ?_) | (refine qa ?_) | (refine qb true (by kernel_rfl) (by kernel_rfl) ?_) | (refine hK _ ?_; clear hK K) | (clear hK K; refine hK _ ?_; clear hK K) | (clear hK K; clear hK K; refine hK _ ?_; clear hK K) | refine qc ?_)
      all_goals (exfalso; omega)
end Go.Proofs.YtnkimlkoijfcpaaGreatDoor
