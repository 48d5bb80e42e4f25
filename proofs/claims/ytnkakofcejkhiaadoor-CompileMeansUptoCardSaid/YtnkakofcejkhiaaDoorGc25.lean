/- Walk of layer 25: sources. -/
import Derived.Test.YtnkakofcejkhiaaDoorGc6
import Derived.Test.YtnkakofcejkhiaaDoorGc10
import Derived.Test.YtnkakofcejkhiaaDoorGc21
import Derived.Test.YtnkakofcejkhiaaDoorGc24
set_option linter.unusedSimpArgs false
set_option linter.unusedVariables false
namespace Go.Proofs.YtnkakofcejkhiaaDoor
open Go.RowKit Go.Lib
def natAv (l : List Nat) : List AV := l.map fun k : Nat => AV.int (k : Int)
def srcAv (ds : List Nd) : List AV := ds.map fun d => AV.sl (natAv d.src)
@[simp] theorem natAv_len (l : List Nat) : (natAv l).length = l.length := by simp [natAv]
@[simp] theorem srcAv_len (l : List Nd) : (srcAv l).length = l.length := by simp [srcAv]
@[simp] theorem natAv_get (l : List Nat) (i : Nat) (h : i < (natAv l).length) : (natAv l)[i] = AV.int (l[i]'(by simpa using h)) := by simp [natAv]
@[simp] theorem srcAv_get (l : List Nd) (i : Nat) (h : i < (srcAv l).length) : (srcAv l)[i] = AV.sl (natAv (l[i]'(by simpa using h)).src) := by simp [srcAv]
@[simp] theorem natAv_get? (l : List Nat) (i : Nat) : (natAv l)[i]? = (l[i]?).map fun k : Nat => AV.int (k : Int) := by simp [natAv]
@[simp] theorem srcAv_get? (l : List Nd) (i : Nat) : (srcAv l)[i]? = (l[i]?).map fun d : Nd => AV.sl (natAv d.src) := by simp [srcAv]
@[simp] theorem natAv_cl (l : List Nat) (m : Nat) : AV.cls m (natAv l) := AV.cls_map (f := fun k : Nat => AV.int (k : Int)) (fun _ => by simp) l
@[simp] theorem natAv_wid (l : List Nat) : AV.wid (natAv l) 1 := AV.wid_map (f := fun k : Nat => AV.int (k : Int)) (fun _ => rfl) l
@[simp] theorem natAv_elms (l : List Nat) : AV.elms (natAv l) := AV.elms_map (f := fun k : Nat => AV.int (k : Int)) (fun _ => rfl) l
@[simp] theorem srcAv_cl (l : List Nd) (m : Nat) : AV.cls m (srcAv l) := AV.cls_map (f := fun d : Nd => AV.sl (natAv d.src)) (fun d => by simp) l
@[simp] theorem srcAv_wid (l : List Nd) : AV.wid (srcAv l) 1 := AV.wid_map (f := fun d : Nd => AV.sl (natAv d.src)) (fun _ => rfl) l
@[simp] theorem srcAv_elms (l : List Nd) : AV.elms (srcAv l) := AV.elms_map (f := fun d : Nd => AV.sl (natAv d.src)) (fun _ => rfl) l
set_option maxHeartbeats 4000000 in
theorem sources_g {c : Cod} {cols : List Int} (h : CodOk c cols) : Gives Tryd.prog 46 [c.av] (.tup [.sl (srcAv (qba c)), .int (rootC c)]) := by
  unfold qba rootC
  obtain ⟨ins, types, out⟩ := c
  have hni := h.ni
  have hnt := h.nt
  simp only at hni hnt
  have hsz : 8 * types.length ≤ 281474976710656 := by omega
  have hsz1 : 1 * types.length ≤ 281474976710656 := by omega
  have hal := h.all
  have o0 : 0 ≤ out := h.out0
  have o1 : out < types.length := h.out1
  have o2 := h.out2
  simp only at hal o2
  simp only
  refine qn Tryd.func46 Tryd.ntmps46 rfl rfl (by decide) rfl (by intro n; simp) fun σ n0 hcl hft => ?_
  repeat' (first | ((first | ((with_reducible refine qo (fun hg => ?_) (fun hg => ?_)) <;> (try simp only [hg]) <;> (try simp only [gS] at hg) <;> (try (first | simp only [eq_false hg, gI] | simp only [eq_true hg, gI]))) | (with_reducible first | refine qh ?_ | refine qg ?_ | refine ql ?_ | refine qk ?_) | refine qd ?_ | refine qi ?_ | refine qj ?_ | refine qm ?_) <;> (try simp (disch := first | omega | simp) [qf, -qr, -qw, hsz, hsz1])) | ((with_reducible refine sideT ?_ ?_); first | omega | assumption | (simp; done)) | (refine qe fun K hK => ?_) | (refine qa ?_) | (refine qb true (by kernel_rfl) (by kernel_rfl) ?_) | (refine hK _ ?_; clear hK K) | (clear hK K; refine hK _ ?_; clear hK K) | (clear hK K; clear hK K; refine hK _ ?_; clear hK K) | refine qc ?_)
  refine qx hcl (fun b : Nat × List Int => [(1, .ptr n0 0), (4, .own (n0 + 1) types.length), (16, .own (n0 + 1) types.length), (17, .int types.length), (18, .int b.1)])
    (fun b => [.cells [.sl (ins.map Ins.av), .sl (types.map AV.int), .int out] 25, .vec (b.2.map AV.int) 3 1])
    (fun b => b.1 ≤ types.length ∧ b.2.length = types.length) (fun b => types.length - b.1) (0, List.replicate types.length 0) ⟨by omega, by simp⟩ (by simp) fun ⟨k, G⟩ ⟨hk, hG⟩ => ?_
  simp only at hk hG
  by_cases hlt : k < types.length
  · repeat' (first | ((first | ((with_reducible refine qo (fun hg => ?_) (fun hg => ?_)) <;> (try simp only [hg]) <;> (try simp only [gS] at hg) <;> (try (first | simp only [eq_false hg, gI] | simp only [eq_true hg, gI]))) | (with_reducible first | refine qh ?_ | refine qg ?_ | refine ql ?_ | refine qk ?_) | refine qd ?_ | refine qi ?_ | refine qj ?_ | refine qm ?_) <;> (try simp (disch := first | omega | simp) [qf, -qr, -qw, hlt, hG])) | ((with_reducible refine sideT ?_ ?_); first | omega | assumption | (simp; done)) | (refine qe fun K hK => ?_) | (refine qa ?_) | (refine qb true (by kernel_rfl) (by kernel_rfl) ?_) | (refine qb false (by kernel_rfl) (by kernel_rfl) ?_) | (refine hK _ ?_; clear hK K) | (clear hK K; refine hK _ ?_; clear hK K) | (clear hK K; clear hK K; refine hK _ ?_; clear hK K) | refine qc ?_)
    exact ⟨k + 1, G.set k (-1), ⟨by omega, by rw [List.length_set]; exact hG⟩, by omega, by rw [List.map_set], by omega⟩
  · repeat' (first | ((first | ((with_reducible refine qo (fun hg => ?_) (fun hg => ?_)) <;> (try simp only [hg]) <;> (try simp only [gS] at hg) <;> (try (first | simp only [eq_false hg, gI] | simp only [eq_true hg, gI]))) | (with_reducible first | refine qh ?_ | refine qg ?_ | refine ql ?_ | refine qk ?_) | refine qd ?_ | refine qi ?_ | refine qj ?_ | refine qm ?_) <;> (try simp (disch := first | omega | simp) [qf, -qr, -qw, hlt, hG])) | ((with_reducible refine sideT ?_ ?_); first | omega | assumption | (simp; done)) | (refine qe fun K hK => ?_) | (refine qa ?_) | (refine qb true (by kernel_rfl) (by kernel_rfl) ?_) | (refine qb false (by kernel_rfl) (by kernel_rfl) ?_) | (refine hK _ ?_; clear hK K) | (clear hK K; refine hK _ ?_; clear hK K) | (clear hK K; clear hK K; refine hK _ ?_; clear hK K) | refine qc ?_)
    refine awp_adoptR 6 23 1 (by simp) ?_
    refine qx hcl (fun b : Nat × List Int => [(1, .ptr n0 0), (4, .own (n0 + 1) types.length), (6, .gs (n0 + 2) (srcAv (nodes (ins.take b.1) 0 (List.replicate types.length 0)))), (26, .sl (ins.map Ins.av)), (27, .int ins.length), (28, .int b.1)])
      (fun b => [.cells [.sl (ins.map Ins.av), .sl (types.map AV.int), .int out] 25, .vec (b.2.map AV.int) 3 1, .tail b.1 23 1])
      (fun b => b.1 ≤ ins.length ∧ b.2.length = types.length ∧ ∀ r : Nat, (doneL (ins.take b.1) (List.replicate types.length false)).getD r false = true → b.2[r]? = some ((lastL (ins.take b.1) 0 (List.replicate types.length 0)).getD r 0 : Int))
      (fun b => ins.length - b.1) (0, G) ⟨by omega, hG, fun r hr => (no_done hr).elim⟩ (by simp [nodes, srcAv]) fun ⟨k, G⟩ ⟨hk, hG, hR⟩ => ?_
    simp only at hk hG hR
    by_cases hlt2 : k < ins.length
    · have hx := AllOk.at ins k _ hlt2 hal
      have c2 := ops_g ins[k]
      have t0 := hx.to0
      have t1 : ins[k].to < types.length := hx.to1
      repeat' (first | ((first | ((with_reducible refine qo (fun hg => ?_) (fun hg => ?_)) <;> (try simp only [hg]) <;> (try simp only [gS] at hg) <;> (try (first | simp only [eq_false hg, gI] | simp only [eq_true hg, gI]))) | (with_reducible first | refine qh ?_ | refine qg ?_ | refine ql ?_ | refine qk ?_) | refine acall (c2) ?_ | refine qq (c2) ?_ | refine qd ?_ | refine qi ?_ | refine qj ?_ | refine qm ?_) <;> (try simp (disch := first | omega | simp) [qf, -qr, -qw, hlt2, hG])) | ((with_reducible refine sideT ?_ ?_); first | omega | assumption | (simp; done)) | (refine qe fun K hK => ?_) | (refine qa ?_) | (refine qb true (by kernel_rfl) (by kernel_rfl) ?_) | (refine hK _ ?_; clear hK K) | (clear hK K; refine hK _ ?_; clear hK K) | (clear hK K; clear hK K; refine hK _ ?_; clear hK K) | refine qc ?_)
      refine awp_adoptR 9 3 1 (by simp) ?_
      have htk : ins.take (k + 1) = ins.take k ++ [ins[k]] := List.take_succ_eq_append_getElem hlt2
      have hxa := hx.args
      have hol : (opsP ins[k]).length ≤ 3 := by rw [qev]; split <;> first | exact arO_le _ | omega
      generalize hops : opsP ins[k] = ops at *
      have hnew : nodes (ins.take (k + 1)) 0 (List.replicate types.length 0) = nodes (ins.take k) 0 (List.replicate types.length 0) ++ [⟨ins[k], ops.map fun r => (lastL (ins.take k) 0 (List.replicate types.length 0)).getD r.toNat 0⟩] := by rw [htk, nodes_snoc, hops]
      have hstep : ∀ r : Nat, (doneL (ins.take (k + 1)) (List.replicate types.length false)).getD r false = true → (G.set ins[k].to.toNat k)[r]? = some ((lastL (ins.take (k + 1)) 0 (List.replicate types.length 0)).getD r 0 : Int) := fun r hr => by
        rw [htk, doneL_snoc, qy] at hr
        rw [htk, lastL_snoc, qy, List.length_take, lastL_len, List.length_replicate]
        by_cases he : ins[k].to.toNat = r
        · subst he
          rw [List.getElem?_set_self (by omega), if_pos ⟨rfl, by omega⟩]
          congr 1; omega
        · rw [if_neg (fun h => he h.1)] at hr ⊢
          rw [List.getElem?_set_ne he]
          exact hR r hr
      generalize hLN : lastL (ins.take k) 0 (List.replicate types.length 0) = LN at *
      generalize hND : nodes (ins.take k) 0 (List.replicate types.length 0) = ND at *
      have hNl : ND.length = k := by rw [← hND, qcg, List.length_take]; omega
      obtain ⟨S, hS⟩ : ∃ S, S = ops.map fun r => LN.getD r.toNat 0 := ⟨_, rfl⟩
      have hSl : S.length = ops.length := by rw [hS, List.length_map]
      have hSj : ∀ j (h : j < ops.length), S[j]'(by omega) = LN.getD ops[j].toNat 0 := fun j h => by simp [hS]
      rw [← hS] at hnew
      clear hS
      refine qx hcl (fun j : Nat => [(1, .ptr n0 0), (4, .own (n0 + 1) types.length), (6, .gs (n0 + 2) (srcAv ND)), (7, .int k), (8, .ptr (n0 + 3) 0), (9, .gs (n0 + 4) (natAv (S.take j))), (26, .sl (ins.map Ins.av)), (27, .int ins.length), (28, .int k), (34, .sl (ops.map AV.int)), (35, .int ops.length), (36, .int j)])
        (fun j => [.cells [.sl (ins.map Ins.av), .sl (types.map AV.int), .int out] 25, .vec (G.map AV.int) 3 1, .tail k 23 1, .cells [.int ins[k].op, .int ins[k].to, .int ins[k].a, .int ins[k].b, .int ins[k].c, .int ins[k].n, .str ins[k].s] 68, .tail j 3 1])
        (fun j => j ≤ ops.length) (fun j => ops.length - j) 0 (by omega) (by simp [natAv]) fun j hj => ?_
      by_cases hlt3 : j < ops.length
      · obtain ⟨r0, r1, r2⟩ := hxa ops[j] (List.getElem_mem _)
        have hg0 := hR _ r2
        have hg : G[ops[j].toNat]'(by omega) = ((S[j]'(by omega) : Nat) : Int) := by rw [hSj j hlt3]; exact (List.getElem?_eq_some_iff.1 hg0).2
        have hsn : natAv (S.take (j + 1)) = natAv (S.take j) ++ [.int (S[j]'(by omega) : Nat)] := by
          unfold natAv; rw [List.take_succ_eq_append_getElem (by omega), List.map_append]; rfl
        repeat' (first | ((first | ((with_reducible refine qo (fun hg => ?_) (fun hg => ?_)) <;> (try simp only [hg]) <;> (try simp only [gS] at hg) <;> (try (first | simp only [eq_false hg, gI] | simp only [eq_true hg, gI]))) | (with_reducible first | refine qh ?_ | refine qg ?_ | refine ql ?_ | refine qk ?_) | refine qd ?_ | refine qi ?_ | refine qj ?_ | refine qm ?_) <;> (try simp (disch := first | omega | simp) [qf, -qr, -qw, hlt3, hG, r0, r1, hg])) | ((with_reducible refine sideT ?_ ?_); first | omega | assumption | (simp; done)) | (refine qe fun K hK => ?_) | (refine qa ?_) | (refine qb true (by kernel_rfl) (by kernel_rfl) ?_) | (refine hK _ ?_; clear hK K) | (clear hK K; refine hK _ ?_; clear hK K) | (clear hK K; clear hK K; refine hK _ ?_; clear hK K) | refine qc ?_)
        refine ⟨j + 1, by omega, by omega, ?_⟩
        rw [hsn]; simp
      · obtain rfl : j = ops.length := by omega
        rw [List.take_of_length_le (by omega)]
        repeat' (first | ((first | ((with_reducible refine qo (fun hg => ?_) (fun hg => ?_)) <;> (try simp only [hg]) <;> (try simp only [gS] at hg) <;> (try (first | simp only [eq_false hg, gI] | simp only [eq_true hg, gI]))) | (with_reducible first | refine qh ?_ | refine qg ?_ | refine ql ?_ | refine qk ?_) | refine qd ?_ | refine qi ?_ | refine qj ?_ | refine qm ?_) <;> (try simp (disch := first | omega | simp) [qf, -qr, -qw, hlt3, hG, t0, t1])) | ((with_reducible refine sideT ?_ ?_); first | omega | assumption | (simp; done)) | (refine qe fun K hK => ?_) | (refine qa ?_) | (refine qb true (by kernel_rfl) (by kernel_rfl) ?_) | (refine hK _ ?_; clear hK K) | (clear hK K; refine hK _ ?_; clear hK K) | (clear hK K; clear hK K; refine hK _ ?_; clear hK K) | refine qc ?_)
        refine ⟨k + 1, G.set ins[k].to.toNat k, ⟨by omega, by rw [List.length_set]; exact hG, hstep⟩, by omega, ?_⟩
        rw [hnew]; simp [srcAv, List.map_set, hNl]
    · obtain rfl : k = ins.length := by omega
      rw [List.take_length] at hR
      have hg0 := hR _ o2
      have hg : G[out.toNat]'(by omega) = ((lastL ins 0 (List.replicate types.length 0)).getD out.toNat 0 : Int) := (List.getElem?_eq_some_iff.1 hg0).2
      rw [List.take_length]
      repeat' (first | ((first | ((with_reducible refine qo (fun hg => ?_) (fun hg => ?_)) <;> (try simp only [hg]) <;> (try simp only [gS] at hg) <;> (try (first | simp only [eq_false hg, gI] | simp only [eq_true hg, gI]))) | (with_reducible first | refine qh ?_ | refine qg ?_ | refine ql ?_ | refine qk ?_) | refine qd ?_ | refine qi ?_ | refine qj ?_ | refine qm ?_) <;> (try simp (disch := first | omega | simp) [qf, -qr, -qw, hlt2, hG, o0, o1, hg])) | ((with_reducible refine sideT ?_ ?_); first | omega | assumption | (simp; done)) | (refine qe fun K hK => ?_) | (refine qa ?_) | (refine qb true (by kernel_rfl) (by kernel_rfl) ?_) | (refine hK _ ?_; clear hK K) | (clear hK K; refine hK _ ?_; clear hK K) | (clear hK K; clear hK K; refine hK _ ?_; clear hK K) | refine qc ?_)
end Go.Proofs.YtnkakofcejkhiaaDoor

/- A slice beside nil: what is not empty is not nil; what is empty may be. -/
namespace Go.Proofs.YtnkakofcejkhiaaDoor
open Go.RowKit Go.Lib
theorem eop_nil {P : Program} {s : AS} {op : BinOp} {t u : TypeId} {x y : Operand} {l : List AV} {K : AV → AS → Prop} (hop : op = .eql ∨ op = .neq) (ht : (einfo P t).isSome = true) (hx : (s.eval x).list = some l) (hy : s.eval y = .v (.slice none 0 0)) (hK : ∀ b : Bool, (b = true → l = []) → K (.v (.bool (if op = .eql then b else !b))) s) :
    EOp P s (.binOp op t x y u) K := by
  intro X0 a w X oper ho hc Q
  have hw := hc.w
  subst hw
  have h1 := hc.eval x
  have h2 := hc.eval y
  rw [hy, RR.v] at h2
  obtain ⟨e, he⟩ : ∃ e, P.underlying t = some (.slice e) := by
    unfold einfo at ht
    split at ht
    · exact ⟨_, ‹_›⟩
    · cases ht
  have key : ∃ A n cap, a.eval x = .slice A n cap ∧ (0 < l.length → A.isNone = false) := by
    cases hev : s.eval x <;> rw [hev] at hx <;> try (cases hx; done)
    · cases hx
      rw [hev] at h1
      have h3 : RC X (.sl l) [a.eval x] := h1
      rw [RC] at h3
      obtain ⟨A, cap, b, off, e1, -, -, h4, -⟩ := h3
      simp at e1
      exact ⟨A, _, cap, e1, fun h => by rw [h4 h]; rfl⟩
    · rename_i r _
      cases hx
      rw [hev] at h1
      have h3 : RC X (.gs r l) [a.eval x] := h1
      rw [RC] at h3
      obtain ⟨A, cap, b, off, e1, -, -, h4, -⟩ := h3
      simp at e1
      exact ⟨A, _, cap, e1, fun h => by rw [h4 h]; rfl⟩
  obtain ⟨A, n, cap, hA, hn⟩ := key
  have hrun : (execOp a.eval oper).run P X.w = .ok (.value (.bool (if op = .eql then A.isNone else !A.isNone))) X.w := by
    have hq : ∀ w, (Op.equal t (.slice A n cap) (.slice none 0 0)).run P w = .ok A.isNone w := fun w => by
      unfold Op.equal
      rw [show Op.maxDepth = 9999 + 1 from rfl, Op.equalIn]
      cases A <;> simp [underlying, he]
    rcases hop with rfl | rfl
    · simp [execOp, ho, hA, h2, eqGuard, binOp, hq]
    · simp [execOp, ho, hA, h2, eqGuard, binOp, hq]
  refine qbq hrun ⟨_, _, s, X, rfl, hK A.isNone fun h => ?_, hc, RR.v.2 rfl⟩
  cases l with
  | nil => rfl
  | cons z zs => rw [hn (by simp)] at h; cases h
def aevN (P : Program) (s : AS) (o : Op) (K : AV → AS → Prop) : Prop :=
  match o with
  | .binOp op t x y u => match (s.eval x).list, s.eval y with
    | some l, .v (.slice none 0 0) => (op = .eql ∨ op = .neq) ∧ (einfo P t).isSome = true ∧ ∀ b : Bool, (b = true → l = []) → K (.v (.bool (if op = .eql then b else !b))) s
    | _, _ => aev P s (.binOp op t x y u) K
  | o => aev P s o K
theorem aevN_sound {P : Program} {s : AS} {o : Op} {K : AV → AS → Prop} (h : aevN P s o K) : EOp P s o K := by
  unfold aevN at h
  split at h
  · split at h
    · exact eop_nil h.1 h.2.1 ‹_› ‹_› h.2.2
    · exact qcs h
  · exact qcs h
def aseqN (P : Program) (ops : Array Oper) (K : AS → Prop) : List Oper → AS → Prop
  | [], s => K s
  | o :: l, s => match awant ops o s.t with
    | some b => qbp b (aevN P s o.op (fun x s1 => dstOk o.dst s1.n ∧ aseqN P ops K l (s1.put o.dst x))) (dstOk o.dst s.n ∧ aseqN P ops K l (s.put o.dst (.v undef)))
    | none => False
theorem aseqN_sound {P : Program} {ops : Array Oper} {K : AS → Prop} : ∀ {l : List Oper} {s : AS}, aseqN P ops K l s → aseq P ops K l s
  | [], _, h => h
  | o :: l, s, h => by
    rw [aseqN] at h
    rw [aseq]
    split at h
    · rename_i b hb
      cases b with
      | true => exact ⟨true, hb, (aevN_sound (h.1 rfl)).mono fun x s1 ⟨h1, h2⟩ => ⟨h1, aseqN_sound h2⟩⟩
      | false => exact ⟨false, hb, (h.2 rfl).1, aseqN_sound (h.2 rfl).2⟩
    · exact h.elim
theorem awp_regionN {P : Program} {s : AS} {id : Nat} {l : List Oper} {Q : Exit → AS → Prop} (h : aseqN P l.toArray (Q .normal) l s) : awp P (.region id l.toArray false) Q s := qeb (aseqN_sound h)
theorem aseqN_step {P : Program} {ops : Array Oper} {K : AS → Prop} {o : Oper} {l : List Oper} {s : AS} (h : match awant ops o s.t with
    | some b => qbp b (aevN P s o.op (fun x s1 => dstOk o.dst s1.n ∧ aseqN P ops K l (s1.put o.dst x))) (dstOk o.dst s.n ∧ aseqN P ops K l (s.put o.dst (.v undef)))
    | none => False) : aseqN P ops K (o :: l) s := h
theorem aseqN_end {P : Program} {ops : Array Oper} {K : AS → Prop} {s : AS} (h : K s) : aseqN P ops K [] s := h
theorem nil_split {P : Program} {ops : Array Oper} {K : AS → Prop} {l : List Oper} {s s' : AS} {C : Prop} (h1 : aseqN P ops K l s) (h2 : C → aseqN P ops K l s') : aseqN P ops K l s ∧ (C → aseqN P ops K l s') := ⟨h1, h2⟩
attribute [simp] aevN
end Go.Proofs.YtnkakofcejkhiaaDoor

/- Walks of layer 25: Needed, Trim. -/
namespace Go.Proofs.YtnkakofcejkhiaaDoor
open Go.RowKit Go.Lib
theorem cls_set {m : Nat} {l : List AV} {x : AV} {i : Nat} (h : AV.cls m l) (hx : x.cl m) : AV.cls m (l.set i x) := AV.cls_iff.2 fun y hy => by
  rcases List.mem_or_eq_of_mem_set hy with hy | rfl
  · exact AV.cls_iff.1 h y hy
  · exact hx
theorem setAll_snoc (need : List Bool) (l : List Nat) (k : Nat) : qch need (l ++ [k]) = (qch need l).set k true := by unfold qch; rw [List.foldl_append]; rfl
theorem trimI_snoc (need : List Bool) : ∀ (l : List Ins) (x : Ins) (i : Nat), trimI need (l ++ [x]) i = trimI need l i ++ if need.getD (i + l.length) false then [x] else []
  | [], x, i => by rw [List.nil_append, trimI, trimI]; simp [trimI]
  | y :: l, x, i => by
    rw [List.cons_append, trimI, trimI, trimI_snoc need l, List.length_cons, show i + 1 + l.length = i + (l.length + 1) by omega]
    cases need.getD i false <;> simp
theorem trimI_le (need : List Bool) : ∀ (l : List Ins) (i : Nat), (trimI need l i).length ≤ l.length
  | [], _ => by simp [trimI]
  | y :: l, i => by have := trimI_le need l (i + 1); rw [trimI]; split <;> simp <;> omega
theorem nodes_src : ∀ (l : List Ins) (i : Nat) (last : List Nat), ∀ d ∈ nodes l i last, d.src.length ≤ 3
  | [], _, _, d, hd => by cases hd
  | x :: l, i, last, d, hd => by
    rw [nodes] at hd
    rcases List.mem_cons.1 hd with rfl | hd
    · rw [List.length_map, qev]; split <;> first | exact arO_le _ | omega
    · exact nodes_src l _ _ d hd
set_option maxRecDepth 10000 in
set_option maxHeartbeats 4000000 in
theorem needed_g {c : Cod} {cols : List Int} (h : CodOk c cols) : Gives Tryd.prog 45 [c.av] (.sl ((needP (qba c) (rootC c)).map AV.bool)) := by
  have c1 := sources_g h
  have hro := (h.val_res 0 []).1
  have hdl : (qba c).length = c.ins.length := by unfold qba; exact qcg _ _ _
  have hea := h.early
  have hs3 : ∀ d ∈ qba c, d.src.length ≤ 3 := nodes_src _ _ _
  have hni := h.ni
  obtain ⟨R, hR⟩ : ∃ R, R = needP (qba c) (rootC c) := ⟨_, rfl⟩
  rw [← hR]
  unfold needP at hR
  generalize qba c = ds at *
  generalize rootC c = root at *
  obtain ⟨ins, types, out⟩ := c
  simp only at hro hdl hni
  have hsz1 : 1 * ins.length ≤ 281474976710656 := by omega
  refine qn Tryd.func45 Tryd.ntmps45 rfl rfl (by decide) rfl (by intro n; simp) fun σ n0 hcl hft => ?_
  repeat' (first | ((first | ((with_reducible refine qo (fun hg => ?_) (fun hg => ?_)) <;> (try simp only [hg]) <;> (try simp only [gS] at hg) <;> (try (first | simp only [eq_false hg, gI] | simp only [eq_true hg, gI]))) | (with_reducible first | refine qh ?_ | refine qg ?_ | refine ql ?_ | refine qk ?_) | refine acall (c1) ?_ | refine qq (c1) ?_ | refine qd ?_ | refine qi ?_ | refine qj ?_ | refine qm ?_) <;> (try simp (disch := first | omega | simp) [qf, -qr, -qw, hsz1, hro])) | ((with_reducible refine sideT ?_ ?_); first | omega | assumption | (simp; done)) | (refine qe fun K hK => ?_) | (refine qa ?_) | (refine qb true (by kernel_rfl) (by kernel_rfl) ?_) | (refine hK _ ?_; clear hK K) | (clear hK K; refine hK _ ?_; clear hK K) | (clear hK K; clear hK K; refine hK _ ?_; clear hK K) | refine qc ?_)
  refine qx hcl (fun b : Nat × Int × List Bool => [(3, .sl (srcAv ds)), (5, .own (n0 + 1) ins.length), (6, .int b.2.1)])
    (fun b => [.cells [.sl (ins.map Ins.av), .sl (types.map AV.int), .int out] 25, .vec (b.2.2.map AV.bool) 4 1])
    (fun b => b.1 ≤ ins.length ∧ b.2.1 = (b.1 : Int) - 1 ∧ b.2.2.length = ins.length ∧ R = needI ds b.1 b.2.2) (fun b => b.1) (ins.length, (ins.length : Int) - 1, (List.replicate ins.length false).set root true)
    ⟨by omega, rfl, by simp, by rw [hR, hdl]⟩ (by simp [AV.cls_map]; exact cls_set (AV.cls_replicate (by simp)) (by simp)) fun ⟨k, i, G⟩ ⟨hk, hi, hG, hRk⟩ => ?_
  simp only at hk hi hG hRk
  by_cases hi0 : 0 ≤ i
  · obtain ⟨m, rfl⟩ : ∃ m : Nat, i = m := ⟨i.toNat, by omega⟩
    obtain rfl : k = m + 1 := by omega
    have hm : m < ins.length := by omega
    have hmd : m < ds.length := by omega
    have hGm : G.getD m false = G[m]'(by omega) := by rw [List.getD_eq_getElem?_getD, List.getElem?_eq_getElem (by omega)]; rfl
    rw [needI, hGm] at hRk
    cases hg : G[m]'(by omega)
    · rw [hg, if_neg (by simp)] at hRk
      repeat' (first | ((first | ((with_reducible refine qo (fun hg => ?_) (fun hg => ?_)) <;> (try simp only [hg]) <;> (try simp only [gS] at hg) <;> (try (first | simp only [eq_false hg, gI] | simp only [eq_true hg, gI]))) | (with_reducible first | refine qh ?_ | refine qg ?_ | refine ql ?_ | refine qk ?_) | refine qd ?_ | refine qi ?_ | refine qj ?_ | refine qm ?_) <;> (try simp (disch := first | omega | simp) [qf, -qr, -qw, hG, hm, hg])) | ((with_reducible refine sideT ?_ ?_); first | omega | assumption | (simp; done)) | (refine qe fun K hK => ?_) | (refine qa ?_) | (refine qb true (by kernel_rfl) (by kernel_rfl) ?_) | (refine hK _ ?_; clear hK K) | (clear hK K; refine hK _ ?_; clear hK K) | (clear hK K; clear hK K; refine hK _ ?_; clear hK K) | refine qc ?_)
      exact ⟨m, (m : Int) - 1, G, ⟨by omega, rfl, hG, hRk⟩, by omega, rfl, rfl⟩
    · rw [hg, if_pos rfl] at hRk
      have hsd : (ds.getD m ⟨⟨0, 0, 0, 0, 0, 0, ByteArray.empty⟩, []⟩).src = ds[m].src := by rw [List.getD_eq_getElem?_getD, List.getElem?_eq_getElem hmd]; rfl
      have hse : ∀ k ∈ ds[m].src, k < m := fun k hk => hea m hmd k (by unfold srcOf; rw [hsd]; exact hk)
      rw [hsd] at hRk
      have hsl3 := hs3 ds[m] (List.getElem_mem _)
      generalize hsrc : ds[m].src = src at *
      repeat' (first | ((first | ((with_reducible refine qo (fun hg => ?_) (fun hg => ?_)) <;> (try simp only [hg]) <;> (try simp only [gS] at hg) <;> (try (first | simp only [eq_false hg, gI] | simp only [eq_true hg, gI]))) | (with_reducible first | refine qh ?_ | refine qg ?_ | refine ql ?_ | refine qk ?_) | refine qd ?_ | refine qi ?_ | refine qj ?_ | refine qm ?_) <;> (try simp (disch := first | omega | simp) [qf, -qr, -qw, hG, hm, hg, hmd, hsrc])) | ((with_reducible refine sideT ?_ ?_); first | omega | assumption | (simp; done)) | (refine qe fun K hK => ?_) | (refine qa ?_) | (refine qb true (by kernel_rfl) (by kernel_rfl) ?_) | (refine hK _ ?_; clear hK K) | (clear hK K; refine hK _ ?_; clear hK K) | (clear hK K; clear hK K; refine hK _ ?_; clear hK K) | refine qc ?_)
      refine qx hcl (fun j : Nat => [(3, .sl (srcAv ds)), (5, .own (n0 + 1) ins.length), (6, .int m), (37, .sl (natAv src)), (38, .int src.length), (39, .int j)])
        (fun j => [.cells [.sl (ins.map Ins.av), .sl (types.map AV.int), .int out] 25, .vec ((qch G (src.take j)).map AV.bool) 4 1])
        (fun j => j ≤ src.length) (fun j => src.length - j) 0 (by omega) (by simp [qch]) fun j hj => ?_
      have hsl : (qch G (src.take j)).length = ins.length := by rw [qck]; exact hG
      by_cases hlt : j < src.length
      · have hs1 := hse src[j] (List.getElem_mem _)
        have hs2 : src[j] < ins.length := by omega
        have hsn : qch G (src.take (j + 1)) = (qch G (src.take j)).set src[j] true := by rw [List.take_succ_eq_append_getElem hlt, setAll_snoc]
        repeat' (first | ((first | ((with_reducible refine qo (fun hg => ?_) (fun hg => ?_)) <;> (try simp only [hg]) <;> (try simp only [gS] at hg) <;> (try (first | simp only [eq_false hg, gI] | simp only [eq_true hg, gI]))) | (with_reducible first | refine qh ?_ | refine qg ?_ | refine ql ?_ | refine qk ?_) | refine qd ?_ | refine qi ?_ | refine qj ?_ | refine qm ?_) <;> (try simp (disch := first | omega | simp) [qf, -qr, -qw, hlt, hsl, hs2])) | ((with_reducible refine sideT ?_ ?_); first | omega | assumption | (simp; done)) | (refine qe fun K hK => ?_) | (refine qa ?_) | (refine qb true (by kernel_rfl) (by kernel_rfl) ?_) | (refine hK _ ?_; clear hK K) | (clear hK K; refine hK _ ?_; clear hK K) | (clear hK K; clear hK K; refine hK _ ?_; clear hK K) | refine qc ?_)
        refine ⟨j + 1, by omega, by omega, ?_⟩
        rw [hsn]; simp [List.map_set]
      · obtain rfl : j = src.length := by omega
        rw [List.take_length] at hsl ⊢
        repeat' (first | ((first | ((with_reducible refine qo (fun hg => ?_) (fun hg => ?_)) <;> (try simp only [hg]) <;> (try simp only [gS] at hg) <;> (try (first | simp only [eq_false hg, gI] | simp only [eq_true hg, gI]))) | (with_reducible first | refine qh ?_ | refine qg ?_ | refine ql ?_ | refine qk ?_) | refine qd ?_ | refine qi ?_ | refine qj ?_ | refine qm ?_) <;> (try simp (disch := first | omega | simp) [qf, -qr, -qw, hlt])) | ((with_reducible refine sideT ?_ ?_); first | omega | assumption | (simp; done)) | (refine qe fun K hK => ?_) | (refine qa ?_) | (refine qb true (by kernel_rfl) (by kernel_rfl) ?_) | (refine hK _ ?_; clear hK K) | (clear hK K; refine hK _ ?_; clear hK K) | (clear hK K; clear hK K; refine hK _ ?_; clear hK K) | refine qc ?_)
        exact ⟨m, (m : Int) - 1, qch G src, ⟨by omega, rfl, hsl, hRk⟩, by omega, rfl, rfl⟩
  · obtain rfl : k = 0 := by omega
    rw [needI] at hRk
    subst hRk
    refine awp_freezeR 5 1 (k := ins.length) (by simp) (by rfl) (by simp [hG]) ?_
    repeat' (first | ((first | ((with_reducible refine qo (fun hg => ?_) (fun hg => ?_)) <;> (try simp only [hg]) <;> (try simp only [gS] at hg) <;> (try (first | simp only [eq_false hg, gI] | simp only [eq_true hg, gI]))) | (with_reducible first | refine qh ?_ | refine qg ?_ | refine ql ?_ | refine qk ?_) | refine qd ?_ | refine qi ?_ | refine qj ?_ | refine qm ?_) <;> (try simp (disch := first | omega | simp) [qf, -qr, -qw, hi0])) | ((with_reducible refine sideT ?_ ?_); first | omega | assumption | (simp; done)) | (refine qe fun K hK => ?_) | (refine qa ?_) | (refine qb true (by kernel_rfl) (by kernel_rfl) ?_) | (refine hK _ ?_; clear hK K) | (clear hK K; refine hK _ ?_; clear hK K) | (clear hK K; clear hK K; refine hK _ ?_; clear hK K) | refine qc ?_)
set_option maxRecDepth 100000 in
theorem cloneI_g (l : List Int) (hl : l.length ≤ 1000000) : Gives Tryd.prog 44 [.sl (l.map AV.int)] (.sl (l.map AV.int)) := by
  have hsz : l.length * 8 ≤ 140737488355328 := by omega
  refine qn Tryd.func44 Tryd.ntmps44 rfl rfl (by decide) rfl (by intro n; simp) fun σ n0 hcl hft => ?_
  repeat' (first | ((first | ((with_reducible refine qo (fun hg => ?_) (fun hg => ?_)) <;> (try simp only [hg]) <;> (try simp only [gS] at hg) <;> (try (first | simp only [eq_false hg, gI] | simp only [eq_true hg, gI]))) | (with_reducible first | refine qh ?_ | refine qg ?_ | refine ql ?_ | refine qk ?_ | refine aseqN_step ?_ | refine aseqN_end ?_) | refine qd ?_ | refine qi ?_ | refine qj ?_ | refine qm ?_) <;> (try simp (disch := first | omega | simp) [qf, -qr, -qw, hsz])) | (with_reducible refine awp_regionN (id := 1) ?_) | ((with_reducible refine sideT ?_ ?_); first | omega | assumption | (simp; done)) | (with_reducible refine nil_split ?_ (fun hnil => ?_); try simp only [hnil]) | (refine qe fun K hK => ?_) | (refine qa ?_) | (refine qb true (by kernel_rfl) (by kernel_rfl) ?_) | (refine qb false (by kernel_rfl) (by kernel_rfl) ?_) | (refine hK _ ?_; clear hK K) | (clear hK K; refine hK _ ?_; clear hK K) | (clear hK K; clear hK K; refine hK _ ?_; clear hK K) | refine qc ?_)
  all_goals simp_all
set_option maxHeartbeats 4000000 in
theorem trim_g {c : Cod} {cols : List Int} (h : CodOk c cols) : Gives Tryd.prog 21 [c.av] (trimP c).av := by
  have c1 := needed_g h
  have hnt := h.nt
  have c2 := cloneI_g c.types (by omega)
  have hni := h.ni
  have hnl : (needP (qba c) (rootC c)).length = c.ins.length := by rw [needP_len]; unfold qba; exact qcg _ _ _
  unfold trimP
  generalize needP (qba c) (rootC c) = need at *
  obtain ⟨ins, types, out⟩ := c
  simp only at hnt hni hnl c2
  refine qn Tryd.func21 Tryd.ntmps21 rfl rfl (by decide) rfl (by intro n; simp) fun σ n0 hcl hft => ?_
  repeat' (first | ((first | ((with_reducible refine qo (fun hg => ?_) (fun hg => ?_)) <;> (try simp only [hg]) <;> (try simp only [gS] at hg) <;> (try (first | simp only [eq_false hg, gI] | simp only [eq_true hg, gI]))) | (with_reducible first | refine qh ?_ | refine qg ?_ | refine ql ?_ | refine qk ?_) | refine acall (c2) ?_ | refine qq (c2) ?_ | refine acall (c1) ?_ | refine qq (c1) ?_ | refine qd ?_ | refine qi ?_ | refine qj ?_ | refine qm ?_) <;> (try simp (disch := first | omega | simp) [qf, -qr, -qw])) | ((with_reducible refine sideT ?_ ?_); first | omega | assumption | (simp; done)) | (refine qe fun K hK => ?_) | (refine qa ?_) | (refine qb true (by kernel_rfl) (by kernel_rfl) ?_) | (refine hK _ ?_; clear hK K) | (clear hK K; refine hK _ ?_; clear hK K) | (clear hK K; clear hK K; refine hK _ ?_; clear hK K) | refine qc ?_)
  refine qca 2 0 68 7 (by rfl) (by rfl) ?_
  obtain ⟨F, hF⟩ : ∃ F : Nat → List Ins, F = fun k => trimI need (ins.take k) 0 := ⟨_, rfl⟩
  have F0 : F 0 = [] := by rw [hF]; rfl
  have F1 : ∀ k (h : k < ins.length), F (k + 1) = F k ++ if need[k]'(by omega) then [ins[k]] else [] := fun k h => by
    have hg : need.getD k false = need[k]'(by omega) := by rw [List.getD_eq_getElem?_getD, List.getElem?_eq_getElem (by omega)]; rfl
    rw [hF]; dsimp only
    rw [List.take_succ_eq_append_getElem h, trimI_snoc, Nat.zero_add, List.length_take, Nat.min_eq_left (by omega), hg]
  have F2 : F ins.length = trimI need ins 0 := by rw [hF]; dsimp only; rw [List.take_length]
  have FL : ∀ k, (F k).length ≤ ins.length := fun k => by
    rw [hF]; have := trimI_le need (ins.take k) 0; rw [List.length_take] at this; dsimp only; omega
  clear hF
  refine qx hcl (fun k : Nat => [(1, .ptr n0 0), (2, .ptr (n0 + 1) 0), (3, .ptr (n0 + 2) 0), (13, .sl (need.map AV.bool)), (14, .int need.length), (15, .int k)])
    (fun k => [.cells [.sl (ins.map Ins.av), .sl (types.map AV.int), .int out] 25, .cells [.v (.slice none 0 0), .v (.slice none 0 0), .int 0] 25, .cells [.gs (n0 + 3) ((F k).map Ins.av), .sl (types.map AV.int), .int out] 25, .tail (F k).length 68 7])
    (fun k => k ≤ ins.length) (fun k => ins.length - k) 0 (by omega) (by simp [F0]) fun k hk => ?_
  by_cases hlt : k < ins.length
  · have hlt2 : k < need.length := by omega
    have f1 := F1 k hlt
    have fl := FL k
    have hz : ((F k).length + 1) * 56 ≤ 140737488355328 := by omega
    cases hnk : need[k]'(by omega)
    · rw [hnk] at f1
      repeat' (first | ((first | ((with_reducible refine qo (fun hg => ?_) (fun hg => ?_)) <;> (try simp only [hg]) <;> (try simp only [gS] at hg) <;> (try (first | simp only [eq_false hg, gI] | simp only [eq_true hg, gI]))) | (with_reducible first | refine qh ?_ | refine qg ?_ | refine ql ?_ | refine qk ?_) | refine qd ?_ | refine qi ?_ | refine qj ?_ | refine qm ?_) <;> (try simp (disch := first | omega | simp) [qf, -qr, -qw, hlt, hlt2, hnk, hz])) | (with_reducible refine qb (id := 6) false (by kernel_rfl) (by kernel_rfl) ?_) | ((with_reducible refine sideT ?_ ?_); first | omega | assumption | (simp; done)) | (refine qe fun K hK => ?_) | (refine qa ?_) | (refine qb true (by kernel_rfl) (by kernel_rfl) ?_) | (refine qb false (by kernel_rfl) (by kernel_rfl) ?_) | (refine hK _ ?_; clear hK K) | (clear hK K; refine hK _ ?_; clear hK K) | (clear hK K; clear hK K; refine hK _ ?_; clear hK K) | refine qc ?_)
      all_goals first | (refine ⟨k + 1, by omega, by omega, ?_⟩; rw [f1]; simp; done) | (exfalso; simp_all; done)
    · rw [hnk] at f1
      repeat' (first | ((first | ((with_reducible refine qo (fun hg => ?_) (fun hg => ?_)) <;> (try simp only [hg]) <;> (try simp only [gS] at hg) <;> (try (first | simp only [eq_false hg, gI] | simp only [eq_true hg, gI]))) | (with_reducible first | refine qh ?_ | refine qg ?_ | refine ql ?_ | refine qk ?_) | refine qd ?_ | refine qi ?_ | refine qj ?_ | refine qm ?_) <;> (try simp (disch := first | omega | simp) [qf, -qr, -qw, hlt, hlt2, hnk, hz])) | (with_reducible refine qb (id := 6) false (by kernel_rfl) (by kernel_rfl) ?_) | ((with_reducible refine sideT ?_ ?_); first | omega | assumption | (simp; done)) | (refine qe fun K hK => ?_) | (refine qa ?_) | (refine qb true (by kernel_rfl) (by kernel_rfl) ?_) | (refine qb false (by kernel_rfl) (by kernel_rfl) ?_) | (refine hK _ ?_; clear hK K) | (clear hK K; refine hK _ ?_; clear hK K) | (clear hK K; clear hK K; refine hK _ ?_; clear hK K) | refine qc ?_)
      all_goals first | (refine ⟨k + 1, by omega, by omega, ?_⟩; rw [f1]; simp; done) | (exfalso; simp_all; done)
  · have hlt2 : ¬ k < need.length := by omega
    obtain rfl : k = ins.length := by omega
    repeat' (first | ((first | ((with_reducible refine qo (fun hg => ?_) (fun hg => ?_)) <;> (try simp only [hg]) <;> (try simp only [gS] at hg) <;> (try (first | simp only [eq_false hg, gI] | simp only [eq_true hg, gI]))) | (with_reducible first | refine qh ?_ | refine qg ?_ | refine ql ?_ | refine qk ?_) | refine qd ?_ | refine qi ?_ | refine qj ?_ | refine qm ?_) <;> (try simp (disch := first | omega | simp) [qf, -qr, -qw, hlt2])) | ((with_reducible refine sideT ?_ ?_); first | omega | assumption | (simp; done)) | (refine qe fun K hK => ?_) | (refine qa ?_) | (refine qb true (by kernel_rfl) (by kernel_rfl) ?_) | (refine hK _ ?_; clear hK K) | (clear hK K; refine hK _ ?_; clear hK K) | (clear hK K; clear hK K; refine hK _ ?_; clear hK K) | refine qc ?_)
    rw [F2]; rfl
end Go.Proofs.YtnkakofcejkhiaaDoor

/- append to an empty slice of the call's own, as a slice that the call may write. -/
namespace Go.Proofs.YtnkakofcejkhiaaDoor
open Go.RowKit Go.Lib
variable {P : Program} {s : AS}
theorem con_thaw {X0 X : St} {a : Act} {w : World} (hc : Con X0 s a w X) {r : Nat} {et : TypeId} {sz : Nat} (hσ : s.st r = .tail 0 et sz) :
    ∃ X', X'.w = X.w ∧ Con X0 ((s.set r .dead).ext (some (.vec [] et sz))) a w X' ∧ Fr X X' ∧ ∀ v, RC X (.gs r []) [v] → RC X' (.own s.nx 0) [v] := by
  have hX : X.σ r = .tail 0 et sz := by rw [hc.σ, hσ]
  have hlt : r < s.nx := Nat.lt_of_not_le fun h => by have := s.fin r h; rw [hσ] at this; cases this
  have hun : X.σ s.nx = .unborn := by rw [hc.σ]; exact s.fin _ (Nat.le_refl _)
  have hrn : r ≠ s.nx := by omega
  have hB := hc.sr.block r
  rw [hX] at hB
  obtain ⟨xs, hown⟩ := hB.2 rfl
  have hxs : xs = [] := List.eq_nil_of_length_eq_zero (by rw [hown.1]; simp)
  subst hxs
  have hbr : X.blk r = (X.μ r).ownBlock := by unfold St.blk; rw [hX]; rfl
  let X' : St := { X with μ := upd X.μ s.nx (X.μ r), σ := upd (upd X.σ r .dead) s.nx (.vec [] et sz) }
  have hσ1 : X'.σ s.nx = .vec [] et sz := by simp [X', upd]
  have hσ2 : X'.σ r = .dead := by simp [X', upd, hrn]
  have hσ3 : ∀ k, k ≠ r → k ≠ s.nx → X'.σ k = X.σ k ∧ X'.μ k = X.μ k := fun k h1 h2 => by simp [X', upd, h1, h2]
  have hμ1 : X'.μ s.nx = X.μ r := by simp [X', upd]
  have hb : ∀ k b, X'.blk k = some b → (k = s.nx ∧ X.blk r = some b) ∨ (k ≠ r ∧ k ≠ s.nx ∧ X.blk k = some b) := fun k b h => by
    unfold St.blk at h
    by_cases h1 : k = s.nx
    · subst h1
      rw [hσ1, hμ1] at h
      exact .inl ⟨rfl, hbr.trans h⟩
    · by_cases h2 : k = r
      · subst h2; rw [hσ2] at h; cases h
      · obtain ⟨e1, e2⟩ := hσ3 k h2 h1
        rw [e1, e2] at h
        exact .inr ⟨h2, h1, h⟩
  have hF : Fr X X' := ⟨rfl, rfl, rfl, Nat.le_refl _, fun _ _ _ => rfl, fun _ _ _ => rfl, fun _ _ h => h, fun b o h => .inl h, fun k => by
    unfold Ver
    by_cases h1 : k = s.nx
    · subst h1; rw [hun]; trivial
    · by_cases h2 : k = r
      · subst h2; rw [hX]; exact .inl hσ2
      · obtain ⟨e1, e2⟩ := hσ3 k h2 h1
        have := (Fr.refl X).ver k
        unfold Ver at this
        rw [e1, e2]; exact this, fun k b h => by
    rcases hb k b h with ⟨-, h⟩ | ⟨-, -, h⟩
    · exact .inr ⟨r, h⟩
    · exact .inr ⟨k, h⟩⟩
  refine ⟨X', rfl, ⟨hc.w, ?_, ⟨fun k => ?_, fun k k' b h1 h2 => ?_, fun k b o h1 h2 => ?_, fun b o h => hc.sr.old b o h, hc.sr.glob.mono fun _ _ _ h => h.fr hF⟩, hc.fr.trans hF, ?_, fun d => ?_, hc.defers, ?_⟩, hF, fun v hv => ?_⟩
  · rw [(ext_st _ _).1, AS.set_st _ _ _ hlt, ← hc.σ]
    have : (s.set r .dead).nx = s.nx := by
      unfold AS.set AS.nx; split <;> simp
    rw [this]
  · by_cases h1 : k = s.nx
    · subst h1; rw [hσ1, hμ1]; exact ⟨fun x hx => by simp at hx, [], hown, by rw [RCs]⟩
    · by_cases h2 : k = r
      · subst h2; rw [hσ2]; trivial
      · obtain ⟨e1, e2⟩ := hσ3 k h2 h1
        exact BR.fr hc.sr hF e1 e2 fun _ _ => rfl
  · rcases hb k b h1 with ⟨rfl, h3⟩ | ⟨h3, h4, h5⟩ <;> rcases hb k' b h2 with ⟨rfl, h6⟩ | ⟨h6, h7, h8⟩
    · rfl
    · exact absurd (hc.sr.alone _ _ b h8 h3) h6
    · exact absurd (hc.sr.alone _ _ b h5 h6) h3
    · exact hc.sr.alone _ _ b h5 h8
  · rcases hb k b h1 with ⟨rfl, h3⟩ | ⟨h3, h4, h5⟩
    · obtain ⟨_, e, s2, h6, h7⟩ := hc.sr.apart r b o h3 h2
      rw [hX] at h6; cases h6
      omega
    · obtain ⟨n2, e, s2, h6, h7⟩ := hc.sr.apart k b o h5 h2
      exact ⟨n2, e, s2, by rw [(hσ3 k h3 h4).1]; exact h6, h7⟩
  · have := (s.set_nx r .dead).1
    show _ = (s.set r .dead).n
    rw [this]; exact hc.size
  · have := (s.set_nx r .dead).2.2
    show RR X' ((s.set r .dead).t d) _
    rw [this]; exact (hc.regs d).fr hF
  · have := (s.set_nx r .dead).2.1
    show Fin _ (s.set r .dead).n0
    rw [this]; exact hc.fin
  · rw [RC] at hv
    obtain ⟨A, cap, b, off, hv1, -, -, -, -, -, hall⟩ := hv
    show RC X' (.own s.nx 0) [v]
    rw [RC]
    have hv2 : v = .slice A 0 cap := by simpa using hv1
    subst hv2
    refine ⟨by rw [hσ1]; simp, _, rfl, ⟨rfl, fun I h => by rw [hσ1] at h; cases h⟩, fun l e2 s2 h => ?_⟩
    rw [hσ1] at h; cases h
    exact ⟨Nat.le_refl _, fun _ => by rw [hμ1]; exact (hall _ _ _ hX).2 rfl⟩
theorem own_core {t : TypeId} {x y : Operand} {r n : Nat} {l ys : List AV} {e : TypeId} {sz by_ : Nat} {yv : AV} {K : AV → AS → Prop} {X0 X : St} {a : Act} {oper : Oper} (ho : oper.op = .call { callee := .builtin .append, args := #[x, y], argTypes := #[t, t] }) (hc : Con X0 s a X.w X)
    (ht : vinfo P t = some (e, sz, by_)) (hx : RC X (.own r n) [a.eval x]) (hn : n = l.length) (hσ : s.st r = .vec l e sz) (hy : RR X yv (a.eval y)) (hyl : yv.list = some ys) (hne : 0 < ys.length)
    (hw : ∀ z ∈ ys, z.width = sz) (h1 : ∀ z ∈ ys, z.elem = true) (hb : (l.length + ys.length) * by_ ≤ 140737488355328) (hK : K (.own r (l.length + ys.length)) (s.set r (.vec (l ++ ys) e sz))) (Q : Exit → Act → World → Prop) :
    oper.wp P a X.w (fun a' w' => ∃ v x s1 X', a' = a.put oper.dst v ∧ K x s1 ∧ Con X0 s1 a w' X' ∧ RR X' x v) Q := by
  subst hn
  rw [RC] at hx
  obtain ⟨-, v0, hv0, -, hall⟩ := hx
  have hX : X.σ r = .vec l e sz := by rw [hc.σ, hσ]
  have hvm : a.eval x = X.μ r := by
    have := (hall _ _ _ hX).2 rfl
    rw [← this]; simpa using hv0
  obtain ⟨A, cap, b, off, hyv', hc1, hc2, hA, hm⟩ := RR.list hyl hy
  obtain rfl := hA hne
  obtain ⟨news, hr2, hcell⟩ := hm.row
  have hB := hc.sr.block r
  rw [hX] at hB
  obtain ⟨hwd, xs, hown, hrs⟩ := hB
  obtain ⟨hu1, i, z, hi, hz, hsz, hby, hzs, hsz0, hby0, -⟩ := qcb ht
  have hlen : l.length + ys.length ≤ 140737488355328 := Nat.le_trans (Nat.le_mul_of_pos_right _ hby0) hb
  have hnl := RCs.len hr2 hw
  have hnc : ∀ j u, news[j]? = some u → X.w.cell? ((⟨b, off, none⟩ : Addr).add j) = some u := fun j u hj => by rw [qbm]; exact hcell.at.get j u hj
  have h63 : l.length + ys.length ≤ maxLen := by unfold maxLen; omega
  subst hsz
  subst hby
  obtain ⟨v2, w2, hrun, hown2, hg, h3, h4⟩ := run_append_own_at (P := P) X.w 0 t oper.type e i z i.size i.bytes hu1 hi hz rfl rfl hzs hsz0 (X.μ r) l.length xs hown ⟨b, off, none⟩ ys.length cap news hnl hnc (RCs.oneCell hr2 h1) h63 hb (Nat.zero_le _)
  have hblk : X.blk r = (X.μ r).ownBlock := by unfold St.blk; rw [hX]; rfl
  have hno : ∀ b2 o, X.blk r = some b2 → ¬ X.S b2 o := fun b2 o h5 h6 => by
    obtain ⟨n2, e2, s2, h7, h8⟩ := hc.sr.apart r b2 o h5 h6
    rw [hX] at h7; cases h7
  have hT : Turns X w2 X.S r (.vec (l ++ ys) e i.size) v2 := by
    refine ⟨by rw [hblk]; exact hg, fun b2 h => ?_, ?_, fun b2 o h5 h6 => absurd h6 (hno b2 o h5), fun _ _ h => h, fun b2 o h => .inl h, fun b2 o h5 h6 => ?_, fun b2 h => (hown2.lt b2 h).2⟩
    · change v2.ownBlock = some b2 at h
      rcases h4 with h4 | h4
      · left; rw [hblk, ← h4, h]
      · right; rw [h4] at h; cases h; exact Nat.le_refl _
    · unfold Ver
      rw [hX]
      exact .inr ⟨l ++ ys, by simp [St.turn, upd], .inl (by simp; omega)⟩
    · exfalso
      change v2.ownBlock = some b2 at h5
      rcases h4 with h4 | h4
      · exact hno b2 o (by rw [hblk, ← h4]; exact h5) h6
      · rw [h4] at h5; cases h5
        exact absurd (hc.sr.old _ o h6) (Nat.lt_irrefl _)
  have hF := turn_fr hc.sr hT
  refine qbq (w' := w2) (v := v2) (by simp [execOp, ho, resolve, invoke, builtin, hvm, hyv', hrun])
    ⟨v2, .own r (l.length + ys.length), _, _, rfl, hK, con_turn (v := v2) hc (by rw [hσ]; simp) hT ⟨fun x hx => ?_, xs ++ news, by rw [List.length_append]; exact hown2, ?_⟩, ?_⟩
  · rcases List.mem_append.1 hx with hx | hx
    · exact hwd x hx
    · exact hw x hx
  · exact RCs.fr hF _ _ (hrs.append hr2)
  · show RC _ (.own r _) [_]
    rw [RC]
    refine ⟨by simp [St.turn, upd], v2, rfl, ⟨?_, fun I h => by simp [St.turn, upd] at h⟩, fun l2 e2 s2 h => ?_⟩
    · rcases hown2.2 with ⟨h5, -⟩ | ⟨g, cap2, cur, h5, -⟩ <;> rw [h5] <;> rfl
    · simp [St.turn, upd] at h
      obtain ⟨rfl, rfl, rfl⟩ := h
      exact ⟨by simp, fun _ => by simp [St.turn, upd]⟩
def ownApp (P : Program) (ops : Array Oper) (s : AS) (o : Oper) (K : AS → Prop) : Prop :=
  match o.op with
  | .call { callee := .builtin .append, args := ⟨[x, y]⟩, argTypes := ⟨[t, t']⟩ } => t' = t ∧ awant ops o s.t = some true ∧ (match vinfo P t with
    | some (e, sz, by_) => match s.eval x, (s.eval y).list with
      | .gs r [], some ys => s.st r = .tail 0 e sz ∧ 0 < ys.length ∧ AV.wid ys sz ∧ AV.elms ys ∧ ys.length * by_ ≤ 140737488355328 ∧ dstOk o.dst ((s.set r .dead).ext (some (.vec ys e sz))).n ∧ K (((s.set r .dead).ext (some (.vec ys e sz))).put o.dst (.own s.nx ys.length))
      | _, _ => False
    | none => False)
  | _ => False
attribute [simp] ownApp
end Go.Proofs.YtnkakofcejkhiaaDoor
