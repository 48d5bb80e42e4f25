/- Inline, of the program. -/
import Derived.Test.YtnkimlkoijfcpaaGreatDoorGh2
import Derived.Test.YtnkimlkoijfcpaaGreatDoorGh3
import Derived.Test.YtnkimlkoijfcpaaGreatDoorGh4
import Derived.Test.YtnkimlkoijfcpaaGreatDoorGh5
import Derived.Test.YtnkimlkoijfcpaaGreatDoorGh14
import Derived.Test.YtnkimlkoijfcpaaGreatDoorGh15
import Derived.Test.YtnkimlkoijfcpaaGreatDoorGh16
import Derived.Test.YtnkimlkoijfcpaaGreatDoorGh21
set_option linter.unusedSimpArgs false
set_option linter.unusedVariables false
namespace Go.Proofs.YtnkimlkoijfcpaaGreatDoor
open Go.RowKit Go.Lib
theorem incr_ac (e : Ex) (k : Int) (hk : 0 ≤ k ∧ k ≤ 1000000000000) (r : Nat) (σ : Nat → AB) (hσ : σ r = .cells [.int k] 3) : AC Tryz.prog 112 [e.av, .ptr r 0] σ fun y τ => y = .tup [] ∧ τ = upd σ r (.cells [.int (k + 1)] 3) := by
  refine acS_of_awp Tryz.func112 Tryz.ntmps112 rfl rfl (by decide) rfl (by intro n; simp) (by intro n; simp) ?_ fun n0 hrn hcl hft => ?_
  · rw [hσ]; simp
  have hl : ∀ L, loc σ n0 L r = .cells [.int k] 3 := fun L => by rw [qed _ _ _ _ hrn, hσ]
  repeat (first | (refine qe fun K hK => ?_) | (refine qb ?_; simp (disch := first | omega | simp) [qf, hl, hrn]) | (refine hK _ ?_; clear hK; clear K) | (clear hK; clear K; refine hK _ ?_; clear hK; clear K) | (clear hK; clear K; clear hK; clear K; refine hK _ ?_; clear hK; clear K) | refine qc ?_ | (refine qd ?_; simp (disch := first | omega | simp) [qf, hl, hrn]) | (refine qi ?_; simp (disch := first | omega | simp)) | (refine qj ?_; simp (disch := first | omega | simp)) | (refine qm ?_; simp (disch := first | omega | simp)))
theorem walk_parts (e : Ex) : ∀ (k : Int) (r : Nat) (σ : Nat → AB), 0 ≤ k → k + parts e ≤ 1000000000000 → σ r = .cells [.int k] 3 → AC Tryz.prog 45 [e.av, .fn 112 [.ptr r 0]] σ fun y τ => y = .tup [] ∧ τ = upd σ r (.cells [.int (k + parts e)] 3) := by
  induction e using Ex.ind with | h o n s l ih => ?_
  intro k r σ h0 hk hσ
  refine acS_of_awp Tryz.func45 Tryz.ntmps45 rfl rfl (by decide) rfl (by intro n; simp) (by intro n; simp) ?_ fun n0 hrn hcl hft => ?_
  · rw [hσ]; simp
  have hl : ∀ L, loc σ n0 L r = .cells [.int k] 3 := fun L => by rw [qed _ _ _ _ hrn, hσ]
  have hp : parts (.mk o n s l) = qv l + 1 := by rw [parts]
  have hll := qbh l
  rw [hp] at hk ⊢
  have hc := incr_ac (.mk o n s l) k ⟨h0, by omega⟩ r _ (hl [.cells [.int o, .int n, .str s, .sl (l.map Ex.av)] 25])
  rw [Ex.av_mk] at hc
  repeat (first | (refine qe fun K hK => ?_) | (refine qb ?_; simp (disch := first | omega | simp) [qf]) | (refine hK _ ?_; clear hK; clear K) | (clear hK; clear K; refine hK _ ?_; clear hK; clear K) | (clear hK; clear K; clear hK; clear K; refine hK _ ?_; clear hK; clear K) | refine qc ?_ | (refine qd ?_; simp (disch := first | omega | simp) [qf]) | (refine qi ?_; simp (disch := first | omega | simp)) | (refine qj ?_; simp (disch := first | omega | simp)) | (refine qm ?_; simp (disch := first | omega | simp)))
  refine acallS r _ hc (by simp [hl]) ?_
  simp (disch := first | omega | simp) [qf]
  repeat (first | (refine qe fun K hK => ?_) | (refine qb ?_; simp (disch := first | omega | simp) [qf]) | (refine hK _ ?_; clear hK; clear K) | (clear hK; clear K; refine hK _ ?_; clear hK; clear K) | (clear hK; clear K; clear hK; clear K; refine hK _ ?_; clear hK; clear K) | refine qc ?_ | (refine qd ?_; simp (disch := first | omega | simp) [qf]) | (refine qi ?_; simp (disch := first | omega | simp)) | (refine qj ?_; simp (disch := first | omega | simp)) | (refine qm ?_; simp (disch := first | omega | simp)))
  refine awp_loopS (fun j : Nat => upd σ r (.cells [.int (k + 1 + qv (l.take j))] 3)) (fun j => [(1, .fn 112 [.ptr r 0]), (2, .ptr n0 0), (10, .sl (l.map Ex.av)), (11, .int l.length), (12, .int j)]) (fun _ => [.cells [.int o, .int n, .str s, .sl (l.map Ex.av)] 25]) (fun j => j ≤ l.length) (fun j => l.length - j) 0 (fun j _ => upd_cl hcl (by simp)) (by simp) ⟨fun q _ => by simp [qv], by simp [hrn]; omega⟩ (upd_cl hcl (by simp)) fun j hj => ?_
  by_cases hlt : j < l.length
  · have htk := qcr l j hlt
    have htl := qbd l (j + 1)
    repeat (first | (refine qe fun K hK => ?_) | (refine qb ?_; simp (disch := first | omega | simp) [qf, hlt]) | (refine hK _ ?_; clear hK; clear K) | (clear hK; clear K; refine hK _ ?_; clear hK; clear K) | (clear hK; clear K; clear hK; clear K; refine hK _ ?_; clear hK; clear K) | refine qc ?_ | (refine qd ?_; simp (disch := first | omega | simp) [qf, hlt]) | (refine qi ?_; simp (disch := first | omega | simp)) | (refine qj ?_; simp (disch := first | omega | simp)) | (refine qm ?_; simp (disch := first | omega | simp)))
    have hst : ∀ L, loc (upd σ r (.cells [.int (k + 1 + qv (l.take j))] 3)) n0 L r = .cells [.int (k + 1 + qv (l.take j))] 3 := fun L => by rw [qed _ _ _ _ hrn]; simp [upd]
    refine acallS r _ (ih l[j] (List.getElem_mem hlt) _ r _ (by omega) (by omega) (hst _)) (by simp [hst]) ?_
    simp (disch := first | omega | simp) [qf, hrn]
    repeat (first | (refine qe fun K hK => ?_) | (refine qb ?_; simp (disch := first | omega | simp) [qf]) | (refine hK _ ?_; clear hK; clear K) | (clear hK; clear K; refine hK _ ?_; clear hK; clear K) | (clear hK; clear K; clear hK; clear K; refine hK _ ?_; clear hK; clear K) | refine qc ?_ | (refine qd ?_; simp (disch := first | omega | simp) [qf]) | (refine qi ?_; simp (disch := first | omega | simp)) | (refine qj ?_; simp (disch := first | omega | simp)) | (refine qm ?_; simp (disch := first | omega | simp)))
    refine ⟨upd_cl hcl (by simp), j + 1, by omega, by omega, ⟨fun q _ => ?_, by simp; omega⟩⟩
    rw [htk, show k + 1 + (qv (l.take j) : Int) + parts l[j] = k + 1 + ((qv (l.take j) + parts l[j] : Nat) : Int) by omega]
  · have hjl : j = l.length := by omega
    subst hjl
    rw [List.take_length]
    repeat (first | (refine qe fun K hK => ?_) | (refine qb ?_; simp (disch := first | omega | simp) [qf]) | (refine hK _ ?_; clear hK; clear K) | (clear hK; clear K; refine hK _ ?_; clear hK; clear K) | (clear hK; clear K; clear hK; clear K; refine hK _ ?_; clear hK; clear K) | refine qc ?_ | (refine qd ?_; simp (disch := first | omega | simp) [qf]) | (refine qi ?_; simp (disch := first | omega | simp)) | (refine qj ?_; simp (disch := first | omega | simp)) | (refine qm ?_; simp (disch := first | omega | simp)))
    rw [show k + 1 + (qv l : Int) = k + ((qv l : Int) + 1) by omega]
@[simp] def bodyA (o : Option Ex) : AV := .agg [.int (o.getD zeroE).op, .int (o.getD zeroE).n, .str (o.getD zeroE).s, .sl ((o.getD zeroE).args.map Ex.av), .bool o.isSome]
@[simp] theorem bodies_cls (l : List (Option Ex)) (m : Nat) : AV.cls m (l.map bodyA) := AV.cls_map (fun f => by simp [-Ex.av_fold]) l
@[simp] theorem bodies_wid (l : List (Option Ex)) : AV.wid (l.map bodyA) 5 := AV.wid_map (f := bodyA) (fun a => rfl) l
@[simp] theorem bodies_elms (l : List (Option Ex)) : AV.elms (l.map bodyA) := AV.elms_map (f := bodyA) (fun a => rfl) l
set_option maxHeartbeats 1000000 in
theorem inline_g (bs : List (Option Ex)) (hbs : ∀ b ∈ bs, parts (b.getD zeroE) ≤ 1000) (e : Ex) : parts e ≤ 1000 → wfS bs.length e = true →
    Gives Tryz.prog 54 [e.av, .sl (bs.map bodyA)] (bodyA (inlE bs e)) := by
  induction e using Ex.ind with | h o n s l ih => ?_
  intro hpb hwf
  have hl : l.length ≤ 999 := by rw [parts] at hpb; have := qbh l; omega
  rw [wfS, wfSL_all] at hwf
  simp only [Bool.and_eq_true, List.all_eq_true, Bool.or_eq_true, Bool.not_eq_true', decide_eq_false_iff_not, decide_eq_true_eq] at hwf
  obtain ⟨⟨-, hw2⟩, hw3⟩ := hwf
  obtain ⟨R, hR⟩ : ∃ R, R = inlE bs (.mk o n s l) := ⟨_, rfl⟩
  rw [← hR]
  refine qn Tryz.func54 Tryz.ntmps54 rfl rfl (by decide) rfl (by intro n; simp) fun σ n0 hcl hft => ?_
  repeat (first | (refine qe fun K hK => ?_) | (refine qb ?_; simp (disch := first | omega | simp) [qf]) | (refine hK _ ?_; clear hK; clear K) | (clear hK; clear K; refine hK _ ?_; clear hK; clear K) | (clear hK; clear K; clear hK; clear K; refine hK _ ?_; clear hK; clear K) | refine qc ?_ | (refine qd ?_; simp (disch := first | omega | simp) [qf]) | (refine qi ?_; simp (disch := first | omega | simp)) | (refine qj ?_; simp (disch := first | omega | simp)) | (refine qm ?_; simp (disch := first | omega | simp)))
  refine qcf 2 3 25 4 (by rfl) (by rfl) ?_
  refine qu hcl (fun ys : List Ex => [(1, .sl (bs.map bodyA)), (2, .ptr n0 0), (4, .ptr (n0 + 1) 0), (5, .ptr (n0 + 2) 0), (19, .sl (l.map Ex.av)), (20, .int l.length), (21, .int ys.length)]) (fun ys => [.cells [.int o, .int n, .str s, .sl (l.map Ex.av)] 25, .cells [.int 0, .int 0, .str ByteArray.empty, .v (.slice none 0 0), .bool false] 103, .cells [.int o, .int n, .str s, .gs (n0 + 3) (ys.map Ex.av)] 25, .tail ys.length 25 4])
    (fun ys => ∃ k, k ≤ l.length ∧ ys.length = k ∧ inlL bs (l.take k) = some ys) (fun ys => l.length - ys.length) [] (by exact ⟨0, by omega, rfl, by rw [List.take_zero, inlL]⟩) (by simp) fun ys hys => ?_
  obtain ⟨k, hk, rfl, hys⟩ := hys
  by_cases hlt : ys.length < l.length
  · have hpk : parts l[ys.length] ≤ 1000 := by rw [parts] at hpb; have := qbe l l[ys.length] (List.getElem_mem hlt); omega
    have hc := ih _ (List.getElem_mem hlt) hpk (hw3 _ (List.getElem_mem hlt))
    cases hx : inlE bs l[ys.length] with
    | none =>
      obtain rfl : R = none := by rw [hR, inlE, inlL_none l (List.getElem_mem hlt) hx]
      rw [hx] at hc
      repeat' (first | ((first | ((with_reducible refine qo (fun hg => ?_) (fun hg => ?_)) <;> (try simp only [hg]) <;> (try simp only [gS] at hg) <;> (try (first | simp only [eq_false hg, gI] | simp only [eq_true hg, gI]))) | (with_reducible first | refine qh ?_ | refine qg ?_ | refine ql ?_ | refine qk ?_) | refine acall (hc) ?_ | refine qr (hc) ?_ | refine qp (hc) ?_ | refine qd ?_ | refine qi ?_ | refine qj ?_ | refine qm ?_) <;> (try simp (disch := first | omega | simp) [qf, -qq, -qs, hlt])) | ((with_reducible refine sideT ?_ ?_); first | omega | assumption | (simp; done)) | (refine qe fun K hK => ?_) | (refine qb ?_) | (refine qa true (by kernel_rfl) (by kernel_rfl) ?_) | (refine qa false (by kernel_rfl) (by kernel_rfl) ?_) | (refine hK _ ?_; clear hK K) | (clear hK K; refine hK _ ?_; clear hK K) | (clear hK K; clear hK K; refine hK _ ?_; clear hK K) | refine qc ?_)
    | some y =>
      rw [hx] at hc
      have hsz : (ys.length + 1) * 64 ≤ 140737488355328 := by omega
      repeat' (first | ((first | ((with_reducible refine qo (fun hg => ?_) (fun hg => ?_)) <;> (try simp only [hg]) <;> (try simp only [gS] at hg) <;> (try (first | simp only [eq_false hg, gI] | simp only [eq_true hg, gI]))) | (with_reducible first | refine qh ?_ | refine qg ?_ | refine ql ?_ | refine qk ?_) | refine acall (hc) ?_ | refine qr (hc) ?_ | refine qp (hc) ?_ | refine qd ?_ | refine qi ?_ | refine qj ?_ | refine qm ?_) <;> (try simp (disch := first | omega | simp) [qf, -qq, -qs, hlt, hsz])) | ((with_reducible refine sideT ?_ ?_); first | omega | assumption | (simp; done)) | (refine qe fun K hK => ?_) | (refine qb ?_) | (refine qa true (by kernel_rfl) (by kernel_rfl) ?_) | (refine qa false (by kernel_rfl) (by kernel_rfl) ?_) | (refine hK _ ?_; clear hK K) | (clear hK K; refine hK _ ?_; clear hK K) | (clear hK K; clear hK K; refine hK _ ?_; clear hK K) | refine qc ?_)
      refine ⟨ys ++ [y], ⟨_, ?_, rfl, ?_⟩, by simp; omega, by simp⟩
      · simp; omega
      rw [List.length_append, List.length_singleton, List.take_succ_eq_append_getElem hlt]
      exact inlL_snoc hx _ hys
  · have hyl : ys.length = l.length := by omega
    rw [hyl, List.take_length] at hys
    have hyp : ∀ y ∈ ys, parts y ≤ 1000 := fun y hy => by
      obtain ⟨e, -, he⟩ := inlL_mem l hys y hy
      exact inlE_parts he
    have tail : ∀ (Z : Ex) (NP : Nat), parts Z = NP → NP ≤ 1000000 → R = fitX Z → (1000 < NP → R = none) ∧ (¬ 1000 < NP → R = some Z) := fun Z NP h1 _ h2 => by
      rw [h2, fitX, h1]
      exact ⟨fun h => if_pos h, fun h => if_neg h⟩
    by_cases ho : o = 22
    · subst ho
      obtain ⟨h0, h1⟩ := hw2.resolve_left (by simp)
      have hn : n.toNat < bs.length := by omega
      cases hb : bs[n.toNat] with
      | none =>
        obtain rfl : R = none := by rw [hR, inlE, hys]; dsimp only; rw [if_pos ⟨rfl, h0, h1⟩, List.getD_eq_getElem?_getD, List.getElem?_eq_getElem hn, hb]; rfl
        repeat (first | (refine qe fun K hK => ?_) | (refine qb ?_; simp (disch := first | omega | simp) [qf, hyl, h0, h1, hb]) | (refine hK _ ?_; clear hK; clear K) | (clear hK; clear K; refine hK _ ?_; clear hK; clear K) | (clear hK; clear K; clear hK; clear K; refine hK _ ?_; clear hK; clear K) | refine qc ?_ | (refine qd ?_; simp (disch := first | omega | simp) [qf, hyl, h0, h1, hb]) | (refine qi ?_; simp (disch := first | omega | simp)) | (refine qj ?_; simp (disch := first | omega | simp)) | (refine qm ?_; simp (disch := first | omega | simp)))
      | some b =>
        have hRb : R = fitX ((putP 4 ys b).getD zeroE) := by rw [hR, inlE, hys]; dsimp only; rw [if_pos ⟨rfl, h0, h1⟩, List.getD_eq_getElem?_getD, List.getElem?_eq_getElem hn, hb]; rfl
        have hpb2 : parts b ≤ 1000 := hbs (some b) (by rw [← hb]; exact List.getElem_mem hn)
        have hpp : parts ((putP 4 ys b).getD zeroE) ≤ 1000000 := by
          cases hput : putP 4 ys b with
          | none => decide
          | some x => have h2 := putP_parts (K := 1000) (by omega) hyp b hput; have : parts b * 1000 ≤ 1000 * 1000 := Nat.mul_le_mul_right _ hpb2; show parts x ≤ _; omega
        have hcall := put_g 4 ys (fun x hx => by have := hyp x hx; omega) b (by omega)
        obtain ⟨Z, hZ⟩ : ∃ Z, Z = (putP 4 ys b).getD zeroE := ⟨_, rfl⟩
        have hcall2 : Gives Tryz.prog 111 [b.av, .int 4, .sl (ys.map Ex.av)] (.tup [Z.av, .bool (putP 4 ys b).isSome]) := by rw [hZ]; exact hcall
        rw [← hZ] at hRb hpp
        obtain ⟨t1, t2⟩ := tail Z _ rfl hpp hRb
        repeat' (first | ((first | ((with_reducible refine qo (fun hg => ?_) (fun hg => ?_)) <;> (try simp only [hg]) <;> (try simp only [gS] at hg) <;> (try (first | simp only [eq_false hg, gI] | simp only [eq_true hg, gI]))) | (with_reducible first | refine qh ?_ | refine qg ?_ | refine ql ?_ | refine qk ?_) | refine acall (hcall2) ?_ | refine qr (hcall2) ?_ | refine qp (hcall2) ?_ | refine qd ?_ | refine qi ?_ | refine qj ?_ | refine qm ?_) <;> (try simp (disch := first | omega | simp) [qf, -qq, -qs, hyl, h0, h1, hb])) | ((with_reducible refine sideT ?_ ?_); first | omega | assumption | (simp; done)) | (refine qe fun K hK => ?_) | (refine qb ?_) | (refine qa true (by kernel_rfl) (by kernel_rfl) ?_) | (refine qa false (by kernel_rfl) (by kernel_rfl) ?_) | (refine hK _ ?_; clear hK K) | (clear hK K; refine hK _ ?_; clear hK K) | (clear hK K; clear hK K; refine hK _ ?_; clear hK K) | refine qc ?_)
        refine acallS (n0 + 5) _ (walk_parts Z 0 (n0 + 5) _ (by omega) (by omega) (by simp)) (by simp) ?_
        generalize parts Z = NP at *
        by_cases hbig : 1000 < NP
        · obtain rfl := t1 hbig
          have hbig' : (1000 : Int) < NP := by omega
          simp (disch := first | omega | simp) [qf]
          repeat (first | (refine qe fun K hK => ?_) | (refine qb ?_; simp (disch := first | omega | simp) [qf, hbig']) | (refine hK _ ?_; clear hK; clear K) | (clear hK; clear K; refine hK _ ?_; clear hK; clear K) | (clear hK; clear K; clear hK; clear K; refine hK _ ?_; clear hK; clear K) | refine qc ?_ | (refine qd ?_; simp (disch := first | omega | simp) [qf, hbig']) | (refine qi ?_; simp (disch := first | omega | simp)) | (refine qj ?_; simp (disch := first | omega | simp)) | (refine qm ?_; simp (disch := first | omega | simp)))
          exact ⟨rfl, rfl, rfl, rfl⟩
        · obtain rfl := t2 hbig
          have hbig' : ¬ (1000 : Int) < NP := by omega
          simp (disch := first | omega | simp) [qf]
          repeat (first | (refine qe fun K hK => ?_) | (refine qb ?_; simp (disch := first | omega | simp) [qf, hbig']) | (refine hK _ ?_; clear hK; clear K) | (clear hK; clear K; refine hK _ ?_; clear hK; clear K) | (clear hK; clear K; clear hK; clear K; refine hK _ ?_; clear hK; clear K) | refine qc ?_ | (refine qd ?_; simp (disch := first | omega | simp) [qf, hbig']) | (refine qi ?_; simp (disch := first | omega | simp)) | (refine qj ?_; simp (disch := first | omega | simp)) | (refine qm ?_; simp (disch := first | omega | simp)))
    · have hRb : R = fitX (.mk o n s ys) := by rw [hR, inlE, hys]; dsimp only; rw [if_neg (fun h => ho h.1)]
      have hpp : parts (.mk o n s ys) ≤ 1000000 := by
        have h2 := partsL_bound (K := 1000) ys hyp
        have : ys.length * 1000 ≤ 999 * 1000 := Nat.mul_le_mul_right _ (by omega)
        rw [parts]; omega
      generalize hZ : Ex.mk o n s ys = Z at *
      have hZf : AV.agg [.int o, .int n, .str s, .sl (ys.map Ex.av)] = Z.av := by rw [← hZ, Ex.av_mk]
      have hZo : Z.op = o ∧ Z.n = n ∧ Z.s = s ∧ Z.args = ys := by rw [← hZ]; exact ⟨rfl, rfl, rfl, rfl⟩
      obtain ⟨t1, t2⟩ := tail Z _ rfl hpp hRb
      have h22 : (o == 22) = false := by simp [ho]
      repeat (first | (refine qe fun K hK => ?_) | (refine qb ?_; simp (disch := first | omega | simp) [qf, hyl, h22]) | (refine hK _ ?_; clear hK; clear K) | (clear hK; clear K; refine hK _ ?_; clear hK; clear K) | (clear hK; clear K; clear hK; clear K; refine hK _ ?_; clear hK; clear K) | refine qc ?_ | (refine qd ?_; simp (disch := first | omega | simp) [qf, hyl, h22]) | (refine qi ?_; simp (disch := first | omega | simp)) | (refine qj ?_; simp (disch := first | omega | simp)) | (refine qm ?_; simp (disch := first | omega | simp)))
      refine acallS (n0 + 4) _ (by rw [hZf]; exact walk_parts Z 0 (n0 + 4) _ (by omega) (by omega) (by simp)) (by simp) ?_
      generalize parts Z = NP at *
      by_cases hbig : 1000 < NP
      · obtain rfl := t1 hbig
        have hbig' : (1000 : Int) < NP := by omega
        simp (disch := first | omega | simp) [qf]
        repeat (first | (refine qe fun K hK => ?_) | (refine qb ?_; simp (disch := first | omega | simp) [qf, hbig']) | (refine hK _ ?_; clear hK; clear K) | (clear hK; clear K; refine hK _ ?_; clear hK; clear K) | (clear hK; clear K; clear hK; clear K; refine hK _ ?_; clear hK; clear K) | refine qc ?_ | (refine qd ?_; simp (disch := first | omega | simp) [qf, hbig']) | (refine qi ?_; simp (disch := first | omega | simp)) | (refine qj ?_; simp (disch := first | omega | simp)) | (refine qm ?_; simp (disch := first | omega | simp)))
        exact ⟨rfl, rfl, rfl, rfl⟩
      · obtain rfl := t2 hbig
        have hbig' : ¬ (1000 : Int) < NP := by omega
        simp (disch := first | omega | simp) [qf]
        repeat (first | (refine qe fun K hK => ?_) | (refine qb ?_; simp (disch := first | omega | simp) [qf, hbig', hZo]) | (refine hK _ ?_; clear hK; clear K) | (clear hK; clear K; refine hK _ ?_; clear hK; clear K) | (clear hK; clear K; clear hK; clear K; refine hK _ ?_; clear hK; clear K) | refine qc ?_ | (refine qd ?_; simp (disch := first | omega | simp) [qf, hbig', hZo]) | (refine qi ?_; simp (disch := first | omega | simp)) | (refine qj ?_; simp (disch := first | omega | simp)) | (refine qm ?_; simp (disch := first | omega | simp)))
        exact ⟨hZo.1.symm, hZo.2.1.symm, hZo.2.2.1.symm, by rw [hZo.2.2.2]⟩
set_option maxHeartbeats 1000000 in
theorem Inline_g (F : List Fn) (hF : ∀ f ∈ F, parts f.body ≤ 1000) (hlF : F.length ≤ 1000) (hwF : ∀ i (h : i < F.length), wfS i F[i].body = true) (e : Ex) (he : parts e ≤ 1000) (hwf : wfS F.length e = true) :
    Gives Tryz.prog 19 [.sl (F.map Fn.av), e.av] (exr (qcb F e)) := by
  obtain ⟨R, hR⟩ : ∃ R, R = qcb F e := ⟨_, rfl⟩
  rw [← hR]
  refine qn Tryz.func19 Tryz.ntmps19 rfl rfl (by decide) rfl (by intro n; simp) fun σ n0 hcl hft => ?_
  repeat (first | (refine qe fun K hK => ?_) | (refine qb ?_; simp (disch := first | omega | simp) [qf]) | (refine hK _ ?_; clear hK; clear K) | (clear hK; clear K; refine hK _ ?_; clear hK; clear K) | (clear hK; clear K; clear hK; clear K; refine hK _ ?_; clear hK; clear K) | refine qc ?_ | (refine qd ?_; simp (disch := first | omega | simp) [qf]) | (refine qi ?_; simp (disch := first | omega | simp)) | (refine qj ?_; simp (disch := first | omega | simp)) | (refine qm ?_; simp (disch := first | omega | simp)))
  refine qcg 6 103 5 (by simp) ?_
  simp only [List.length_append, List.length_cons, List.length_nil, Nat.zero_add, Nat.reduceAdd, List.cons_append, List.nil_append]
  refine qu hcl (fun k : Nat => [(3, .ptr n0 0), (4, .ptr (n0 + 1) 0), (6, .gs (n0 + 2) ((inlB [] (F.take k)).map bodyA)), (10, .sl (F.map Fn.av)), (11, .int F.length), (12, .int k)]) (fun k => [.cells [.int e.op, .int e.n, .str e.s, .sl (e.args.map Ex.av)] 25, .cells [.int 0, .int 0, .str ByteArray.empty, .v (.slice none 0 0)] 25, .tail k 103 5])
    (fun k => k ≤ F.length) (fun k => F.length - k) 0 (by simp) (by simp [inlB]) fun k hk => ?_
  have hlen : (inlB [] (F.take k)).length = k := by rw [inlB_len]; simp; omega
  have hbs := inlB_parts (F.take k)
  have hsn : ∀ (h : k < F.length), inlB [] (F.take (k + 1)) = inlB [] (F.take k) ++ [inlE (inlB [] (F.take k)) F[k].body] := fun h => by rw [List.take_succ_eq_append_getElem h, inlB_snoc]
  have hfin : k = F.length → qcb F e = match inlE (inlB [] (F.take k)) e with
      | some x => if 12 < levels x then none else some x
      | none => none := fun h => by rw [h, List.take_length]; rfl
  generalize inlB [] (F.take k) = bs at *
  have hcall := fun e he hw => inline_g bs hbs e he hw
  by_cases hlt : k < F.length
  · repeat (first | (refine qe fun K hK => ?_) | (refine qb ?_; simp (disch := first | omega | simp) [qf, hlt]) | (refine hK _ ?_; clear hK; clear K) | (clear hK; clear K; refine hK _ ?_; clear hK; clear K) | (clear hK; clear K; clear hK; clear K; refine hK _ ?_; clear hK; clear K) | refine qc ?_ | (refine qd ?_; simp (disch := first | omega | simp) [qf, hlt]) | (refine qi ?_; simp (disch := first | omega | simp)) | (refine qj ?_; simp (disch := first | omega | simp)) | (refine qm ?_; simp (disch := first | omega | simp)))
    refine acall (hcall F[k].body (hF _ (List.getElem_mem hlt)) (by rw [hlen]; exact hwF k hlt)) ?_
    simp (disch := first | omega | simp) [qf, hlen]
    refine ⟨by omega, ?_⟩
    repeat (first | (refine qe fun K hK => ?_) | (refine qb ?_; simp (disch := first | omega | simp) [qf]) | (refine hK _ ?_; clear hK; clear K) | (clear hK; clear K; refine hK _ ?_; clear hK; clear K) | (clear hK; clear K; clear hK; clear K; refine hK _ ?_; clear hK; clear K) | refine qc ?_ | (refine qd ?_; simp (disch := first | omega | simp) [qf]) | (refine qi ?_; simp (disch := first | omega | simp)) | (refine qj ?_; simp (disch := first | omega | simp)) | (refine qm ?_; simp (disch := first | omega | simp)))
    refine ⟨k + 1, by omega, by omega, ?_⟩
    rw [hsn hlt]
    simp
  · have hkl : k = F.length := by omega
    have hRR := hR.trans (hfin hkl)
    have hc := hcall e he (by rw [hlen, hkl]; exact hwf)
    have hlv : levels ((inlE bs e).getD zeroE) ≤ 1000000 := by
      cases hx : inlE bs e with
      | none => show levels zeroE ≤ _; decide
      | some y => have := inlE_parts hx; have := qeb y; show levels y ≤ _; omega
    have hlvg := levels_g _ hlv
    subst hkl
    cases hx : inlE bs e with
    | none =>
      rw [hx] at hc
      obtain rfl : R = none := by rw [hRR, hx]
      repeat' (first | ((first | ((with_reducible refine qo (fun hg => ?_) (fun hg => ?_)) <;> (try simp only [hg]) <;> (try simp only [gS] at hg) <;> (try (first | simp only [eq_false hg, gI] | simp only [eq_true hg, gI]))) | (with_reducible first | refine qh ?_ | refine qg ?_ | refine ql ?_ | refine qk ?_) | refine acall (hc) ?_ | refine qr (hc) ?_ | refine qp (hc) ?_ | refine qd ?_ | refine qi ?_ | refine qj ?_ | refine qm ?_) <;> (try simp (disch := first | omega | simp) [qf, -qq, -qs])) | ((with_reducible refine sideT ?_ ?_); first | omega | assumption | (simp; done)) | (refine qe fun K hK => ?_) | (refine qb ?_) | (refine qa true (by kernel_rfl) (by kernel_rfl) ?_) | (refine qa false (by kernel_rfl) (by kernel_rfl) ?_) | (refine hK _ ?_; clear hK K) | (clear hK K; refine hK _ ?_; clear hK K) | (clear hK K; clear hK K; refine hK _ ?_; clear hK K) | refine qc ?_)
    | some y =>
      rw [hx] at hRR hlvg hc
      replace hlvg : Gives Tryz.prog 55 [y.av] (.int (levels y)) := hlvg
      by_cases h12 : 12 < levels y
      · obtain rfl : R = none := by rw [hRR]; dsimp only; rw [if_pos h12]
        have h12' : (12 : Int) < levels y := by omega
        repeat' (first | ((first | ((with_reducible refine qo (fun hg => ?_) (fun hg => ?_)) <;> (try simp only [hg]) <;> (try simp only [gS] at hg) <;> (try (first | simp only [eq_false hg, gI] | simp only [eq_true hg, gI]))) | (with_reducible first | refine qh ?_ | refine qg ?_ | refine ql ?_ | refine qk ?_) | refine acall (hc) ?_ | refine qr (hc) ?_ | refine qp (hc) ?_ | refine acall (hlvg) ?_ | refine qr (hlvg) ?_ | refine qp (hlvg) ?_ | refine qd ?_ | refine qi ?_ | refine qj ?_ | refine qm ?_) <;> (try simp (disch := first | omega | simp) [qf, -qq, -qs, h12'])) | ((with_reducible refine sideT ?_ ?_); first | omega | assumption | (simp; done)) | (refine qe fun K hK => ?_) | (refine qb ?_) | (refine qa true (by kernel_rfl) (by kernel_rfl) ?_) | (refine qa false (by kernel_rfl) (by kernel_rfl) ?_) | (refine hK _ ?_; clear hK K) | (clear hK K; refine hK _ ?_; clear hK K) | (clear hK K; clear hK K; refine hK _ ?_; clear hK K) | refine qc ?_)
      · obtain rfl : R = some y := by rw [hRR]; dsimp only; rw [if_neg h12]
        have h12' : ¬ (12 : Int) < levels y := by omega
        repeat' (first | ((first | ((with_reducible refine qo (fun hg => ?_) (fun hg => ?_)) <;> (try simp only [hg]) <;> (try simp only [gS] at hg) <;> (try (first | simp only [eq_false hg, gI] | simp only [eq_true hg, gI]))) | (with_reducible first | refine qh ?_ | refine qg ?_ | refine ql ?_ | refine qk ?_) | refine acall (hc) ?_ | refine qr (hc) ?_ | refine qp (hc) ?_ | refine acall (hlvg) ?_ | refine qr (hlvg) ?_ | refine qp (hlvg) ?_ | refine qd ?_ | refine qi ?_ | refine qj ?_ | refine qm ?_) <;> (try simp (disch := first | omega | simp) [qf, -qq, -qs, h12'])) | ((with_reducible refine sideT ?_ ?_); first | omega | assumption | (simp; done)) | (refine qe fun K hK => ?_) | (refine qb ?_) | (refine qa true (by kernel_rfl) (by kernel_rfl) ?_) | (refine qa false (by kernel_rfl) (by kernel_rfl) ?_) | (refine hK _ ?_; clear hK K) | (clear hK K; refine hK _ ?_; clear hK K) | (clear hK K; clear hK K; refine hK _ ?_; clear hK K) | refine qc ?_)
end Go.Proofs.YtnkimlkoijfcpaaGreatDoor

/- Tables of the program: the address of an element of a global array, and what stands there. -/
namespace Go.Proofs.YtnkimlkoijfcpaaGreatDoor
open Go.RowKit Go.Lib
section
variable {P : Program} {ev : Operand → AV} {σ : Nat → AB}
theorem fop_indexG {t e : TypeId} {n g : Nat} {p i : Operand} {ik : IntKind} {k : Int} {ag : Bool} {sz : Nat} (ht : P.underlying t = some (.array n e)) (hs : tinfo P e = some (ag, sz)) (hp : ev p = .v (.pointer (some ⟨g, 0, none⟩))) (hi : ev i = .v (.int ik k)) (h0 : 0 ≤ k) (h1 : k < n) :
    FOp P ev σ (.indexAddr t p i) (.v (.pointer (some ⟨g, k.toNat * sz, none⟩))) none := FOp.of fun X a oper ho hS hsub hev => by
  have h := hev p (by simp [Op.operands])
  have h2 := hev i (by simp [Op.operands])
  rw [hp, RR.v] at h; rw [hi, RR.v] at h2
  refine ⟨.pointer (some ⟨g, k.toNat * sz, none⟩), ?_, RR.v.2 rfl⟩
  have := (qbt hs X.w).2
  simp [execOp, ho, h, h2, Instr.indexAt, Instr.sureAddr, asIntOf, underlying, ht, h0, h1, this, qbi]
theorem fop_loadG {t : TypeId} {p : Operand} {g o n : Nat} {cs : List Value} {v : Value} (ht : tinfo P t = some (false, n)) (hp : ev p = .v (.pointer (some ⟨g, o, none⟩))) (hg : gtab g = some cs) (hv : cs[o]? = some v) :
    FOp P ev σ (.load t p) (.v v) none := FOp.of fun X a oper ho hS hsub hev => by
  have h := hev p (by simp [Op.operands])
  rw [hp, RR.v] at h
  have hG := gtab_ok hS.glob hg
  have hc := hG.1.at.get o v hv
  rw [Nat.zero_add] at hc
  refine ⟨v, ?_, RR.v.2 rfl⟩
  have h1 : (loadVar t ⟨g, o, none⟩).run P X.w = .ok v X.w := by simp [loadVar, (qbt ht X.w).1, hc]
  simp [execOp, ho, h, Instr.loadAt, Instr.sureAddr, h1]
end
def aevG (P : Program) (s : AS) (o : Op) (K : AV → AS → Prop) : Prop :=
  match o with
  | .indexAddr t p i => match P.underlying t with
    | some (.array n e) => match tinfo P e, s.eval p, s.eval i with
      | some (_, sz), .v (.pointer (some ⟨g, 0, none⟩)), .v (.int _ k) => 0 ≤ k ∧ k < n ∧ K (.v (.pointer (some ⟨g, k.toNat * sz, none⟩))) s
      | _, _, _ => False
    | _ => aev P s (.indexAddr t p i) K
  | .load t p => match s.eval p with
    | .v (.pointer (some ⟨g, o, none⟩)) => match tinfo P t, gtab g with
      | some (false, _), some cs => match cs[o]? with
        | some v => K (.v v) s
        | none => False
      | _, _ => False
    | _ => aev P s (.load t p) K
  | o => aev P s o K
theorem aevG_sound {P : Program} {s : AS} {o : Op} {K : AV → AS → Prop} (h : aevG P s o K) : EOp P s o K := by
  unfold aevG at h
  split at h
  · split at h
    · split at h
      · exact eop_fun (nb := none) (fop_indexG ‹_› ‹_› ‹_› ‹_› h.1 h.2.1) h.2.2
      · exact h.elim
    · exact qcj h
  · split at h
    · split at h
      · split at h
        · exact eop_fun (nb := none) (fop_loadG ‹_› ‹_› ‹_› ‹_›) h
        · exact h.elim
      · exact h.elim
    · exact qcj h
  · exact qcj h
def aseqG (P : Program) (ops : Array Oper) (K : AS → Prop) : List Oper → AS → Prop
  | [], s => K s
  | o :: l, s => match awant ops o s.t with
    | some b => qbn b (aevG P s o.op (fun x s1 => dstOk o.dst s1.n ∧ aseqG P ops K l (s1.put o.dst x))) (dstOk o.dst s.n ∧ aseqG P ops K l (s.put o.dst (.v undef)))
    | none => False
theorem aseqG_sound {P : Program} {ops : Array Oper} {K : AS → Prop} : ∀ {l : List Oper} {s : AS}, aseqG P ops K l s → aseq P ops K l s
  | [], _, h => h
  | o :: l, s, h => by
    rw [aseqG] at h
    rw [aseq]
    split at h
    · rename_i b hb
      cases b with
      | true => exact ⟨true, hb, (aevG_sound (h.1 rfl)).mono fun x s1 ⟨h1, h2⟩ => ⟨h1, aseqG_sound h2⟩⟩
      | false => exact ⟨false, hb, (h.2 rfl).1, aseqG_sound (h.2 rfl).2⟩
    · exact h.elim
theorem awp_regionG {P : Program} {s : AS} {id : Nat} {l : List Oper} {Q : Exit → AS → Prop} (h : aseqG P l.toArray (Q .normal) l s) : awp P (.region id l.toArray false) Q s := qde (aseqG_sound h)
theorem aseqG_step {P : Program} {ops : Array Oper} {K : AS → Prop} {o : Oper} {l : List Oper} {s : AS} (h : match awant ops o s.t with
    | some b => qbn b (aevG P s o.op (fun x s1 => dstOk o.dst s1.n ∧ aseqG P ops K l (s1.put o.dst x))) (dstOk o.dst s.n ∧ aseqG P ops K l (s.put o.dst (.v undef)))
    | none => False) : aseqG P ops K (o :: l) s := h
theorem aseqG_end {P : Program} {ops : Array Oper} {K : AS → Prop} {s : AS} (h : K s) : aseqG P ops K [] s := h
attribute [simp] aevG
end Go.Proofs.YtnkimlkoijfcpaaGreatDoor

/- Walks of layer 25: operations, operands, and whether an instruction is formed. -/
namespace Go.Proofs.YtnkimlkoijfcpaaGreatDoor
open Go.RowKit Go.Lib
theorem isOp_g (o : Int) : Gives Tryz.prog 145 [.int o] (.bool (opOk o)) := by
  by_cases h : 0 ≤ o ∧ o < 23
  · have h2 : o = 0 ∨ o = 1 ∨ o = 2 ∨ o = 3 ∨ o = 4 ∨ o = 5 ∨ o = 6 ∨ o = 7 ∨ o = 8 ∨ o = 9 ∨ o = 10 ∨ o = 11 ∨ o = 12 ∨ o = 13 ∨ o = 14 ∨ o = 15 ∨ o = 16 ∨ o = 17 ∨ o = 18 ∨ o = 19 ∨ o = 20 ∨ o = 21 ∨ o = 22 := by omega
    clear h
    rcases h2 with rfl | rfl | rfl | rfl | rfl | rfl | rfl | rfl | rfl | rfl | rfl | rfl | rfl | rfl | rfl | rfl | rfl | rfl | rfl | rfl | rfl | rfl | rfl
    all_goals
      refine qn Tryz.func145 Tryz.ntmps145 rfl rfl (by decide) rfl (by intro n; simp) fun σ n0 hcl hft => ?_
      repeat' (first | ((first | ((with_reducible refine qo (fun hg => ?_) (fun hg => ?_)) <;> (try simp only [hg]) <;> (try simp only [gS] at hg) <;> (try (first | simp only [eq_false hg, gI] | simp only [eq_true hg, gI]))) | (with_reducible first | refine qh ?_ | refine qg ?_ | refine ql ?_ | refine qk ?_ | refine aseqG_step ?_ | refine aseqG_end ?_) | refine qd ?_ | refine qi ?_ | refine qj ?_ | refine qm ?_) <;> (try simp (disch := first | omega | simp) [qf, -qq, -qs])) | (with_reducible refine awp_regionG (id := 1) ?_) | ((with_reducible refine sideT ?_ ?_); first | omega | assumption | (simp; done)) | (refine qe fun K hK => ?_) | (refine qb ?_) | (refine qa true (by kernel_rfl) (by kernel_rfl) ?_) | (refine qa false (by kernel_rfl) (by kernel_rfl) ?_) | (refine hK _ ?_; clear hK K) | (clear hK K; refine hK _ ?_; clear hK K) | (clear hK K; clear hK K; refine hK _ ?_; clear hK K) | refine qc ?_)
      try rfl
  · have hf : opOk o = false := by unfold opOk; simp; omega
    rw [hf]
    by_cases h0 : 0 ≤ o
    · have h1 : ¬ o < 23 := by omega
      refine qn Tryz.func145 Tryz.ntmps145 rfl rfl (by decide) rfl (by intro n; simp) fun σ n0 hcl hft => ?_
      repeat' (first | ((first | ((with_reducible refine qo (fun hg => ?_) (fun hg => ?_)) <;> (try simp only [hg]) <;> (try simp only [gS] at hg) <;> (try (first | simp only [eq_false hg, gI] | simp only [eq_true hg, gI]))) | (with_reducible first | refine qh ?_ | refine qg ?_ | refine ql ?_ | refine qk ?_ | refine aseqG_step ?_ | refine aseqG_end ?_) | refine qd ?_ | refine qi ?_ | refine qj ?_ | refine qm ?_) <;> (try simp (disch := first | omega | simp) [qf, -qq, -qs, h0, h1])) | (with_reducible refine awp_regionG (id := 1) ?_) | ((with_reducible refine sideT ?_ ?_); first | omega | assumption | (simp; done)) | (refine qe fun K hK => ?_) | (refine qb ?_) | (refine qa true (by kernel_rfl) (by kernel_rfl) ?_) | (refine qa false (by kernel_rfl) (by kernel_rfl) ?_) | (refine hK _ ?_; clear hK K) | (clear hK K; refine hK _ ?_; clear hK K) | (clear hK K; clear hK K; refine hK _ ?_; clear hK K) | refine qc ?_)
    · refine qn Tryz.func145 Tryz.ntmps145 rfl rfl (by decide) rfl (by intro n; simp) fun σ n0 hcl hft => ?_
      repeat' (first | ((first | ((with_reducible refine qo (fun hg => ?_) (fun hg => ?_)) <;> (try simp only [hg]) <;> (try simp only [gS] at hg) <;> (try (first | simp only [eq_false hg, gI] | simp only [eq_true hg, gI]))) | (with_reducible first | refine qh ?_ | refine qg ?_ | refine ql ?_ | refine qk ?_ | refine aseqG_step ?_ | refine aseqG_end ?_) | refine qd ?_ | refine qi ?_ | refine qj ?_ | refine qm ?_) <;> (try simp (disch := first | omega | simp) [qf, -qq, -qs, h0])) | (with_reducible refine awp_regionG (id := 1) ?_) | ((with_reducible refine sideT ?_ ?_); first | omega | assumption | (simp; done)) | (refine qe fun K hK => ?_) | (refine qb ?_) | (refine qa true (by kernel_rfl) (by kernel_rfl) ?_) | (refine qa false (by kernel_rfl) (by kernel_rfl) ?_) | (refine hK _ ?_; clear hK K) | (clear hK K; refine hK _ ?_; clear hK K) | (clear hK K; clear hK K; refine hK _ ?_; clear hK K) | refine qc ?_)
theorem arity_g (o : Int) : Gives Tryz.prog 146 [.int o] (.int (arO o)) := by
  obtain ⟨R, hR⟩ : ∃ R, R = arO o := ⟨_, rfl⟩
  rw [← hR]
  unfold arO at hR
  refine qn Tryz.func146 Tryz.ntmps146 rfl rfl (by decide) rfl (by intro n; simp) fun σ n0 hcl hft => ?_
  repeat' (first | ((first | ((with_reducible refine qo (fun hg => ?_) (fun hg => ?_)) <;> (try simp only [hg]) <;> (try simp only [gS] at hg) <;> (try (first | simp only [eq_false hg, gI] | simp only [eq_true hg, gI]))) | (with_reducible first | refine qh ?_ | refine qg ?_ | refine ql ?_ | refine qk ?_) | refine qd ?_ | refine qi ?_ | refine qj ?_ | refine qm ?_) <;> (try simp (disch := first | omega | simp) [qf, -qq, -qs])) | ((with_reducible refine sideT ?_ ?_); first | omega | assumption | (simp; done)) | (refine qe fun K hK => ?_) | (refine qb ?_) | (refine qa true (by kernel_rfl) (by kernel_rfl) ?_) | (refine qa false (by kernel_rfl) (by kernel_rfl) ?_) | (refine hK _ ?_; clear hK K) | (clear hK K; refine hK _ ?_; clear hK K) | (clear hK K; clear hK K; refine hK _ ?_; clear hK K) | refine qc ?_)
  all_goals (subst hR; simp_all)
theorem ops_g (x : Ins) : Gives Tryz.prog 114 [x.av] (.sl ((opsP x).map AV.int)) := by
  have c1 := isOp_g x.op
  have c2 := arity_g x.op
  have hle := arO_le x.op
  unfold opsP
  generalize opOk x.op = b at *
  generalize arO x.op = n at *
  have hcl : ∀ m, AV.cls m ([AV.int x.a, .int x.b, .int x.c].take n) := fun m => AV.cls_take (by simp) n
  cases b
  · refine qn Tryz.func114 Tryz.ntmps114 rfl rfl (by decide) rfl (by intro n; simp) fun σ n0 hcl hft => ?_
    repeat' (first | ((first | ((with_reducible refine qo (fun hg => ?_) (fun hg => ?_)) <;> (try simp only [hg]) <;> (try simp only [gS] at hg) <;> (try (first | simp only [eq_false hg, gI] | simp only [eq_true hg, gI]))) | (with_reducible first | refine qh ?_ | refine qg ?_ | refine ql ?_ | refine qk ?_) | refine acall (c1) ?_ | refine qr (c1) ?_ | refine qp (c1) ?_ | refine qd ?_ | refine qi ?_ | refine qj ?_ | refine qm ?_) <;> (try simp (disch := first | omega | simp) [qf, -qq, -qs])) | ((with_reducible refine sideT ?_ ?_); first | omega | assumption | (simp; done)) | (refine qe fun K hK => ?_) | (refine qb ?_) | (refine qa true (by kernel_rfl) (by kernel_rfl) ?_) | (refine qa false (by kernel_rfl) (by kernel_rfl) ?_) | (refine hK _ ?_; clear hK K) | (clear hK K; refine hK _ ?_; clear hK K) | (clear hK K; clear hK K; refine hK _ ?_; clear hK K) | refine qc ?_)
  · refine qn Tryz.func114 Tryz.ntmps114 rfl rfl (by decide) rfl (by intro n; simp) fun σ n0 hcl hft => ?_
    repeat' (first | ((first | ((with_reducible refine qo (fun hg => ?_) (fun hg => ?_)) <;> (try simp only [hg]) <;> (try simp only [gS] at hg) <;> (try (first | simp only [eq_false hg, gI] | simp only [eq_true hg, gI]))) | (with_reducible first | refine qh ?_ | refine qg ?_ | refine ql ?_ | refine qk ?_) | refine acall (c1) ?_ | refine qr (c1) ?_ | refine qp (c1) ?_ | refine acall (c2) ?_ | refine qr (c2) ?_ | refine qp (c2) ?_ | refine qd ?_ | refine qi ?_ | refine qj ?_ | refine qm ?_) <;> (try simp (disch := first | omega | simp) [qf, -qq, -qs])) | ((with_reducible refine sideT ?_ ?_); first | omega | assumption | (simp; done)) | (refine qe fun K hK => ?_) | (refine qb ?_) | (refine qa true (by kernel_rfl) (by kernel_rfl) ?_) | (refine qa false (by kernel_rfl) (by kernel_rfl) ?_) | (refine hK _ ?_; clear hK K) | (clear hK K; refine hK _ ?_; clear hK K) | (clear hK K; clear hK K; refine hK _ ?_; clear hK K) | refine qc ?_)
    all_goals first | exact hcl _ | simp_all
end Go.Proofs.YtnkimlkoijfcpaaGreatDoor

/- Walk of layer 25: sources. -/
namespace Go.Proofs.YtnkimlkoijfcpaaGreatDoor
open Go.RowKit Go.Lib
def natAv (l : List Nat) : List AV := l.map fun k : Nat => AV.int (k : Int)
def srcAv (ds : List Nd) : List AV := ds.map fun d => AV.sl (natAv d.src)
@[simp] theorem natAv_len (l : List Nat) : (natAv l).length = l.length := by simp [natAv]
@[simp] theorem srcAv_len (l : List Nd) : (srcAv l).length = l.length := by simp [srcAv]
@[simp] theorem natAv_get (l : List Nat) (i : Nat) (h : i < (natAv l).length) : (natAv l)[i] = AV.int (l[i]'(by simpa using h)) := by simp [natAv]
@[simp] theorem srcAv_get (l : List Nd) (i : Nat) (h : i < (srcAv l).length) : (srcAv l)[i] = AV.sl (natAv (l[i]'(by simpa using h)).src) := by simp [srcAv]
@[simp] theorem natAv_get? (l : List Nat) (i : Nat) : (natAv l)[i]? = (l[i]?).map fun k : Nat => AV.int (k : Int) := by simp [natAv]
@[simp] theorem srcAv_get? (l : List Nd) (i : Nat) : (srcAv l)[i]? = (l[i]?).map fun d : Nd => AV.sl (natAv d.src) := by simp [srcAv]
@[simp] theorem natAv_cl (l : List Nat) (m : Nat) : AV.cls m (natAv l) := AV.cls_map (f := fun k : Nat => AV.int (k : Int)) (fun _ => by simp) l
@[simp] theorem natAv_wid (l : List Nat) : AV.wid (natAv l) 1 := AV.wid_map (f := fun k : Nat => AV.int (k : Int)) (fun _ => rfl) l
@[simp] theorem natAv_elms (l : List Nat) : AV.elms (natAv l) := AV.elms_map (f := fun k : Nat => AV.int (k : Int)) (fun _ => rfl) l
@[simp] theorem srcAv_cl (l : List Nd) (m : Nat) : AV.cls m (srcAv l) := AV.cls_map (f := fun d : Nd => AV.sl (natAv d.src)) (fun d => by simp) l
@[simp] theorem srcAv_wid (l : List Nd) : AV.wid (srcAv l) 1 := AV.wid_map (f := fun d : Nd => AV.sl (natAv d.src)) (fun _ => rfl) l
@[simp] theorem srcAv_elms (l : List Nd) : AV.elms (srcAv l) := AV.elms_map (f := fun d : Nd => AV.sl (natAv d.src)) (fun _ => rfl) l
set_option maxHeartbeats 4000000 in
theorem sources_g {c : Cod} {cols : List Int} (h : CodOk c cols) : Gives Tryz.prog 58 [c.av] (.tup [.sl (srcAv (qy c)), .int (rootC c)]) := by
  unfold qy rootC
  obtain ⟨ins, types, out⟩ := c
  have hni := h.ni
  have hnt := h.nt
  simp only at hni hnt
  have hsz : 8 * types.length ≤ 281474976710656 := by omega
  have hsz1 : 1 * types.length ≤ 281474976710656 := by omega
  have hal := h.all
  have o0 : 0 ≤ out := h.out0
  have o1 : out < types.length := h.out1
  have o2 := h.out2
  simp only at hal o2
  simp only
  refine qn Tryz.func58 Tryz.ntmps58 rfl rfl (by decide) rfl (by intro n; simp) fun σ n0 hcl hft => ?_
  repeat' (first | ((first | ((with_reducible refine qo (fun hg => ?_) (fun hg => ?_)) <;> (try simp only [hg]) <;> (try simp only [gS] at hg) <;> (try (first | simp only [eq_false hg, gI] | simp only [eq_true hg, gI]))) | (with_reducible first | refine qh ?_ | refine qg ?_ | refine ql ?_ | refine qk ?_) | refine qd ?_ | refine qi ?_ | refine qj ?_ | refine qm ?_) <;> (try simp (disch := first | omega | simp) [qf, -qq, -qs, hsz, hsz1])) | ((with_reducible refine sideT ?_ ?_); first | omega | assumption | (simp; done)) | (refine qe fun K hK => ?_) | (refine qb ?_) | (refine qa true (by kernel_rfl) (by kernel_rfl) ?_) | (refine hK _ ?_; clear hK K) | (clear hK K; refine hK _ ?_; clear hK K) | (clear hK K; clear hK K; refine hK _ ?_; clear hK K) | refine qc ?_)
  refine qu hcl (fun b : Nat × List Int => [(1, .ptr n0 0), (4, .own (n0 + 1) types.length), (16, .own (n0 + 1) types.length), (17, .int types.length), (18, .int b.1)])
    (fun b => [.cells [.sl (ins.map Ins.av), .sl (types.map AV.int), .int out] 45, .vec (b.2.map AV.int) 3 1])
    (fun b => b.1 ≤ types.length ∧ b.2.length = types.length) (fun b => types.length - b.1) (0, List.replicate types.length 0) ⟨by omega, by simp⟩ (by simp) fun ⟨k, G⟩ ⟨hk, hG⟩ => ?_
  simp only at hk hG
  by_cases hlt : k < types.length
  · repeat' (first | ((first | ((with_reducible refine qo (fun hg => ?_) (fun hg => ?_)) <;> (try simp only [hg]) <;> (try simp only [gS] at hg) <;> (try (first | simp only [eq_false hg, gI] | simp only [eq_true hg, gI]))) | (with_reducible first | refine qh ?_ | refine qg ?_ | refine ql ?_ | refine qk ?_) | refine qd ?_ | refine qi ?_ | refine qj ?_ | refine qm ?_) <;> (try simp (disch := first | omega | simp) [qf, -qq, -qs, hlt, hG])) | ((with_reducible refine sideT ?_ ?_); first | omega | assumption | (simp; done)) | (refine qe fun K hK => ?_) | (refine qb ?_) | (refine qa true (by kernel_rfl) (by kernel_rfl) ?_) | (refine qa false (by kernel_rfl) (by kernel_rfl) ?_) | (refine hK _ ?_; clear hK K) | (clear hK K; refine hK _ ?_; clear hK K) | (clear hK K; clear hK K; refine hK _ ?_; clear hK K) | refine qc ?_)
    exact ⟨k + 1, G.set k (-1), ⟨by omega, by rw [List.length_set]; exact hG⟩, by omega, by rw [List.map_set], by omega⟩
  · repeat' (first | ((first | ((with_reducible refine qo (fun hg => ?_) (fun hg => ?_)) <;> (try simp only [hg]) <;> (try simp only [gS] at hg) <;> (try (first | simp only [eq_false hg, gI] | simp only [eq_true hg, gI]))) | (with_reducible first | refine qh ?_ | refine qg ?_ | refine ql ?_ | refine qk ?_) | refine qd ?_ | refine qi ?_ | refine qj ?_ | refine qm ?_) <;> (try simp (disch := first | omega | simp) [qf, -qq, -qs, hlt, hG])) | ((with_reducible refine sideT ?_ ?_); first | omega | assumption | (simp; done)) | (refine qe fun K hK => ?_) | (refine qb ?_) | (refine qa true (by kernel_rfl) (by kernel_rfl) ?_) | (refine qa false (by kernel_rfl) (by kernel_rfl) ?_) | (refine hK _ ?_; clear hK K) | (clear hK K; refine hK _ ?_; clear hK K) | (clear hK K; clear hK K; refine hK _ ?_; clear hK K) | refine qc ?_)
    refine qcg 6 22 1 (by simp) ?_
    refine qu hcl (fun b : Nat × List Int => [(1, .ptr n0 0), (4, .own (n0 + 1) types.length), (6, .gs (n0 + 2) (srcAv (nodes (ins.take b.1) 0 (List.replicate types.length 0)))), (26, .sl (ins.map Ins.av)), (27, .int ins.length), (28, .int b.1)])
      (fun b => [.cells [.sl (ins.map Ins.av), .sl (types.map AV.int), .int out] 45, .vec (b.2.map AV.int) 3 1, .tail b.1 22 1])
      (fun b => b.1 ≤ ins.length ∧ b.2.length = types.length ∧ ∀ r : Nat, (doneL (ins.take b.1) (List.replicate types.length false)).getD r false = true → b.2[r]? = some ((lastL (ins.take b.1) 0 (List.replicate types.length 0)).getD r 0 : Int))
      (fun b => ins.length - b.1) (0, G) ⟨by omega, hG, fun r hr => (no_done hr).elim⟩ (by simp [nodes, srcAv]) fun ⟨k, G⟩ ⟨hk, hG, hR⟩ => ?_
    simp only at hk hG hR
    by_cases hlt2 : k < ins.length
    · have hx := AllOk.at ins k _ hlt2 hal
      have c2 := ops_g ins[k]
      have t0 := hx.to0
      have t1 : ins[k].to < types.length := hx.to1
      repeat' (first | ((first | ((with_reducible refine qo (fun hg => ?_) (fun hg => ?_)) <;> (try simp only [hg]) <;> (try simp only [gS] at hg) <;> (try (first | simp only [eq_false hg, gI] | simp only [eq_true hg, gI]))) | (with_reducible first | refine qh ?_ | refine qg ?_ | refine ql ?_ | refine qk ?_) | refine acall (c2) ?_ | refine qr (c2) ?_ | refine qd ?_ | refine qi ?_ | refine qj ?_ | refine qm ?_) <;> (try simp (disch := first | omega | simp) [qf, -qq, -qs, hlt2, hG])) | ((with_reducible refine sideT ?_ ?_); first | omega | assumption | (simp; done)) | (refine qe fun K hK => ?_) | (refine qb ?_) | (refine qa true (by kernel_rfl) (by kernel_rfl) ?_) | (refine hK _ ?_; clear hK K) | (clear hK K; refine hK _ ?_; clear hK K) | (clear hK K; clear hK K; refine hK _ ?_; clear hK K) | refine qc ?_)
      refine qcg 9 3 1 (by simp) ?_
      have htk : ins.take (k + 1) = ins.take k ++ [ins[k]] := List.take_succ_eq_append_getElem hlt2
      have hxa := hx.args
      have hol : (opsP ins[k]).length ≤ 3 := by rw [opsP_len]; split <;> first | exact arO_le _ | omega
      generalize hops : opsP ins[k] = ops at *
      have hnew : nodes (ins.take (k + 1)) 0 (List.replicate types.length 0) = nodes (ins.take k) 0 (List.replicate types.length 0) ++ [⟨ins[k], ops.map fun r => (lastL (ins.take k) 0 (List.replicate types.length 0)).getD r.toNat 0⟩] := by rw [htk, nodes_snoc, hops]
      have hstep : ∀ r : Nat, (doneL (ins.take (k + 1)) (List.replicate types.length false)).getD r false = true → (G.set ins[k].to.toNat k)[r]? = some ((lastL (ins.take (k + 1)) 0 (List.replicate types.length 0)).getD r 0 : Int) := fun r hr => by
        rw [htk, doneL_snoc, qx] at hr
        rw [htk, lastL_snoc, qx, List.length_take, lastL_len, List.length_replicate]
        by_cases he : ins[k].to.toNat = r
        · subst he
          rw [List.getElem?_set_self (by omega), if_pos ⟨rfl, by omega⟩]
          congr 1; omega
        · rw [if_neg (fun h => he h.1)] at hr ⊢
          rw [List.getElem?_set_ne he]
          exact hR r hr
      generalize hLN : lastL (ins.take k) 0 (List.replicate types.length 0) = LN at *
      generalize hND : nodes (ins.take k) 0 (List.replicate types.length 0) = ND at *
      have hNl : ND.length = k := by rw [← hND, qbs, List.length_take]; omega
      obtain ⟨S, hS⟩ : ∃ S, S = ops.map fun r => LN.getD r.toNat 0 := ⟨_, rfl⟩
      have hSl : S.length = ops.length := by rw [hS, List.length_map]
      have hSj : ∀ j (h : j < ops.length), S[j]'(by omega) = LN.getD ops[j].toNat 0 := fun j h => by simp [hS]
      rw [← hS] at hnew
      clear hS
      refine qu hcl (fun j : Nat => [(1, .ptr n0 0), (4, .own (n0 + 1) types.length), (6, .gs (n0 + 2) (srcAv ND)), (7, .int k), (8, .ptr (n0 + 3) 0), (9, .gs (n0 + 4) (natAv (S.take j))), (26, .sl (ins.map Ins.av)), (27, .int ins.length), (28, .int k), (34, .sl (ops.map AV.int)), (35, .int ops.length), (36, .int j)])
        (fun j => [.cells [.sl (ins.map Ins.av), .sl (types.map AV.int), .int out] 45, .vec (G.map AV.int) 3 1, .tail k 22 1, .cells [.int ins[k].op, .int ins[k].to, .int ins[k].a, .int ins[k].b, .int ins[k].c, .int ins[k].n, .str ins[k].s] 78, .tail j 3 1])
        (fun j => j ≤ ops.length) (fun j => ops.length - j) 0 (by omega) (by simp [natAv]) fun j hj => ?_
      by_cases hlt3 : j < ops.length
      · obtain ⟨r0, r1, r2⟩ := hxa ops[j] (List.getElem_mem _)
        have hg0 := hR _ r2
        have hg : G[ops[j].toNat]'(by omega) = ((S[j]'(by omega) : Nat) : Int) := by rw [hSj j hlt3]; exact (List.getElem?_eq_some_iff.1 hg0).2
        have hsn : natAv (S.take (j + 1)) = natAv (S.take j) ++ [.int (S[j]'(by omega) : Nat)] := by
          unfold natAv; rw [List.take_succ_eq_append_getElem (by omega), List.map_append]; rfl
        repeat' (first | ((first | ((with_reducible refine qo (fun hg => ?_) (fun hg => ?_)) <;> (try simp only [hg]) <;> (try simp only [gS] at hg) <;> (try (first | simp only [eq_false hg, gI] | simp only [eq_true hg, gI]))) | (with_reducible first | refine qh ?_ | refine qg ?_ | refine ql ?_ | refine qk ?_) | refine qd ?_ | refine qi ?_ | refine qj ?_ | refine qm ?_) <;> (try simp (disch := first | omega | simp) [qf, -qq, -qs, hlt3, hG, r0, r1, hg])) | ((with_reducible refine sideT ?_ ?_); first | omega | assumption | (simp; done)) | (refine qe fun K hK => ?_) | (refine qb ?_) | (refine qa true (by kernel_rfl) (by kernel_rfl) ?_) | (refine hK _ ?_; clear hK K) | (clear hK K; refine hK _ ?_; clear hK K) | (clear hK K; clear hK K; refine hK _ ?_; clear hK K) | refine qc ?_)
        refine ⟨j + 1, by omega, by omega, ?_⟩
        rw [hsn]; simp
      · obtain rfl : j = ops.length := by omega
        rw [List.take_of_length_le (by omega)]
        repeat' (first | ((first | ((with_reducible refine qo (fun hg => ?_) (fun hg => ?_)) <;> (try simp only [hg]) <;> (try simp only [gS] at hg) <;> (try (first | simp only [eq_false hg, gI] | simp only [eq_true hg, gI]))) | (with_reducible first | refine qh ?_ | refine qg ?_ | refine ql ?_ | refine qk ?_) | refine qd ?_ | refine qi ?_ | refine qj ?_ | refine qm ?_) <;> (try simp (disch := first | omega | simp) [qf, -qq, -qs, hlt3, hG, t0, t1])) | ((with_reducible refine sideT ?_ ?_); first | omega | assumption | (simp; done)) | (refine qe fun K hK => ?_) | (refine qb ?_) | (refine qa true (by kernel_rfl) (by kernel_rfl) ?_) | (refine hK _ ?_; clear hK K) | (clear hK K; refine hK _ ?_; clear hK K) | (clear hK K; clear hK K; refine hK _ ?_; clear hK K) | refine qc ?_)
        refine ⟨k + 1, G.set ins[k].to.toNat k, ⟨by omega, by rw [List.length_set]; exact hG, hstep⟩, by omega, ?_⟩
        rw [hnew]; simp [srcAv, List.map_set, hNl]
    · obtain rfl : k = ins.length := by omega
      rw [List.take_length] at hR
      have hg0 := hR _ o2
      have hg : G[out.toNat]'(by omega) = ((lastL ins 0 (List.replicate types.length 0)).getD out.toNat 0 : Int) := (List.getElem?_eq_some_iff.1 hg0).2
      rw [List.take_length]
      repeat' (first | ((first | ((with_reducible refine qo (fun hg => ?_) (fun hg => ?_)) <;> (try simp only [hg]) <;> (try simp only [gS] at hg) <;> (try (first | simp only [eq_false hg, gI] | simp only [eq_true hg, gI]))) | (with_reducible first | refine qh ?_ | refine qg ?_ | refine ql ?_ | refine qk ?_) | refine qd ?_ | refine qi ?_ | refine qj ?_ | refine qm ?_) <;> (try simp (disch := first | omega | simp) [qf, -qq, -qs, hlt2, hG, o0, o1, hg])) | ((with_reducible refine sideT ?_ ?_); first | omega | assumption | (simp; done)) | (refine qe fun K hK => ?_) | (refine qb ?_) | (refine qa true (by kernel_rfl) (by kernel_rfl) ?_) | (refine hK _ ?_; clear hK K) | (clear hK K; refine hK _ ?_; clear hK K) | (clear hK K; clear hK K; refine hK _ ?_; clear hK K) | refine qc ?_)
end Go.Proofs.YtnkimlkoijfcpaaGreatDoor

/- A slice beside nil: what is not empty is not nil; what is empty may be. -/
namespace Go.Proofs.YtnkimlkoijfcpaaGreatDoor
open Go.RowKit Go.Lib
theorem eop_nil {P : Program} {s : AS} {op : BinOp} {t u : TypeId} {x y : Operand} {l : List AV} {K : AV → AS → Prop} (hop : op = .eql ∨ op = .neq) (ht : (einfo P t).isSome = true) (hx : (s.eval x).list = some l) (hy : s.eval y = .v (.slice none 0 0)) (hK : ∀ b : Bool, (b = true → l = []) → K (.v (.bool (if op = .eql then b else !b))) s) :
    EOp P s (.binOp op t x y u) K := by
  intro X0 a w X oper ho hc Q
  have hw := hc.w
  subst hw
  have h1 := hc.eval x
  have h2 := hc.eval y
  rw [hy, RR.v] at h2
  obtain ⟨e, he⟩ : ∃ e, P.underlying t = some (.slice e) := by
    unfold einfo at ht
    split at ht
    · exact ⟨_, ‹_›⟩
    · cases ht
  have key : ∃ A n cap, a.eval x = .slice A n cap ∧ (0 < l.length → A.isNone = false) := by
    cases hev : s.eval x <;> rw [hev] at hx <;> try (cases hx; done)
    · cases hx
      rw [hev] at h1
      have h3 : RC X (.sl l) [a.eval x] := h1
      rw [RC] at h3
      obtain ⟨A, cap, b, off, e1, -, -, h4, -⟩ := h3
      simp at e1
      exact ⟨A, _, cap, e1, fun h => by rw [h4 h]; rfl⟩
    · rename_i r _
      cases hx
      rw [hev] at h1
      have h3 : RC X (.gs r l) [a.eval x] := h1
      rw [RC] at h3
      obtain ⟨A, cap, b, off, e1, -, -, h4, -⟩ := h3
      simp at e1
      exact ⟨A, _, cap, e1, fun h => by rw [h4 h]; rfl⟩
  obtain ⟨A, n, cap, hA, hn⟩ := key
  have hrun : (execOp a.eval oper).run P X.w = .ok (.value (.bool (if op = .eql then A.isNone else !A.isNone))) X.w := by
    have hq : ∀ w, (Op.equal t (.slice A n cap) (.slice none 0 0)).run P w = .ok A.isNone w := fun w => by
      unfold Op.equal
      rw [show Op.maxDepth = 9999 + 1 from rfl, Op.equalIn]
      cases A <;> simp [underlying, he]
    rcases hop with rfl | rfl
    · simp [execOp, ho, hA, h2, eqGuard, binOp, hq]
    · simp [execOp, ho, hA, h2, eqGuard, binOp, hq]
  refine qbj hrun ⟨_, _, s, X, rfl, hK A.isNone fun h => ?_, hc, RR.v.2 rfl⟩
  cases l with
  | nil => rfl
  | cons z zs => rw [hn (by simp)] at h; cases h
def aevN (P : Program) (s : AS) (o : Op) (K : AV → AS → Prop) : Prop :=
  match o with
  | .binOp op t x y u => match (s.eval x).list, s.eval y with
    | some l, .v (.slice none 0 0) => (op = .eql ∨ op = .neq) ∧ (einfo P t).isSome = true ∧ ∀ b : Bool, (b = true → l = []) → K (.v (.bool (if op = .eql then b else !b))) s
    | _, _ => aev P s (.binOp op t x y u) K
  | o => aev P s o K
theorem aevN_sound {P : Program} {s : AS} {o : Op} {K : AV → AS → Prop} (h : aevN P s o K) : EOp P s o K := by
  unfold aevN at h
  split at h
  · split at h
    · exact eop_nil h.1 h.2.1 ‹_› ‹_› h.2.2
    · exact qcj h
  · exact qcj h
def aseqN (P : Program) (ops : Array Oper) (K : AS → Prop) : List Oper → AS → Prop
  | [], s => K s
  | o :: l, s => match awant ops o s.t with
    | some b => qbn b (aevN P s o.op (fun x s1 => dstOk o.dst s1.n ∧ aseqN P ops K l (s1.put o.dst x))) (dstOk o.dst s.n ∧ aseqN P ops K l (s.put o.dst (.v undef)))
    | none => False
theorem aseqN_sound {P : Program} {ops : Array Oper} {K : AS → Prop} : ∀ {l : List Oper} {s : AS}, aseqN P ops K l s → aseq P ops K l s
  | [], _, h => h
  | o :: l, s, h => by
    rw [aseqN] at h
    rw [aseq]
    split at h
    · rename_i b hb
      cases b with
      | true => exact ⟨true, hb, (aevN_sound (h.1 rfl)).mono fun x s1 ⟨h1, h2⟩ => ⟨h1, aseqN_sound h2⟩⟩
      | false => exact ⟨false, hb, (h.2 rfl).1, aseqN_sound (h.2 rfl).2⟩
    · exact h.elim
theorem awp_regionN {P : Program} {s : AS} {id : Nat} {l : List Oper} {Q : Exit → AS → Prop} (h : aseqN P l.toArray (Q .normal) l s) : awp P (.region id l.toArray false) Q s := qde (aseqN_sound h)
theorem aseqN_step {P : Program} {ops : Array Oper} {K : AS → Prop} {o : Oper} {l : List Oper} {s : AS} (h : match awant ops o s.t with
    | some b => qbn b (aevN P s o.op (fun x s1 => dstOk o.dst s1.n ∧ aseqN P ops K l (s1.put o.dst x))) (dstOk o.dst s.n ∧ aseqN P ops K l (s.put o.dst (.v undef)))
    | none => False) : aseqN P ops K (o :: l) s := h
theorem aseqN_end {P : Program} {ops : Array Oper} {K : AS → Prop} {s : AS} (h : K s) : aseqN P ops K [] s := h
theorem nil_split {P : Program} {ops : Array Oper} {K : AS → Prop} {l : List Oper} {s s' : AS} {C : Prop} (h1 : aseqN P ops K l s) (h2 : C → aseqN P ops K l s') : aseqN P ops K l s ∧ (C → aseqN P ops K l s') := ⟨h1, h2⟩
attribute [simp] aevN
end Go.Proofs.YtnkimlkoijfcpaaGreatDoor
