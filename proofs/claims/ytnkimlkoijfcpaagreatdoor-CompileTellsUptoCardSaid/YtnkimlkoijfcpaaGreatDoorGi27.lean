/- Inline, of the program. -/
import Derived.Test.YtnkimlkoijfcpaaGreatDoorGi2
import Derived.Test.YtnkimlkoijfcpaaGreatDoorGi3
import Derived.Test.YtnkimlkoijfcpaaGreatDoorGi4
import Derived.Test.YtnkimlkoijfcpaaGreatDoorGi5
import Derived.Test.YtnkimlkoijfcpaaGreatDoorGi9
import Derived.Test.YtnkimlkoijfcpaaGreatDoorGi14
import Derived.Test.YtnkimlkoijfcpaaGreatDoorGi15
import Derived.Test.YtnkimlkoijfcpaaGreatDoorGi16
import Derived.Test.YtnkimlkoijfcpaaGreatDoorGi17
import Derived.Test.YtnkimlkoijfcpaaGreatDoorGi19
import Derived.Test.YtnkimlkoijfcpaaGreatDoorGi21
import Derived.Test.YtnkimlkoijfcpaaGreatDoorGi24
import Derived.Test.YtnkimlkoijfcpaaGreatDoorGi25
import Derived.Test.YtnkimlkoijfcpaaGreatDoorGi26
set_option linter.unusedSimpArgs false
set_option linter.unusedVariables false
namespace Go.Proofs.YtnkimlkoijfcpaaGreatDoor
open Go.RowKit Go.Lib
theorem incr_ac (e : Ex) (k : Int) (hk : 0 ≤ k ∧ k ≤ 1000000000000) (r : Nat) (σ : Nat → AB) (hσ : σ r = .cells [.int k] 3) : AC Tryz.prog 112 [e.av, .ptr r 0] σ fun y τ => y = .tup [] ∧ τ = upd σ r (.cells [.int (k + 1)] 3) := by
  refine acS_of_awp Tryz.func112 Tryz.ntmps112 rfl rfl (by decide) rfl (by intro n; simp) (by intro n; simp) ?_ fun n0 hrn hcl hft => ?_
  · rw [hσ]; simp
  have hl : ∀ L, loc σ n0 L r = .cells [.int k] 3 := fun L => by rw [qec _ _ _ _ hrn, hσ]
  repeat (first | (refine qd fun K hK => ?_) | (refine qa ?_; simp (disch := first | omega | simp) [qg, hl, hrn]) | (refine hK _ ?_; clear hK; clear K) | (clear hK; clear K; refine hK _ ?_; clear hK; clear K) | (clear hK; clear K; clear hK; clear K; refine hK _ ?_; clear hK; clear K) | refine qb ?_ | (refine qc ?_; simp (disch := first | omega | simp) [qg, hl, hrn]) | (refine qh ?_; simp (disch := first | omega | simp)) | (refine qi ?_; simp (disch := first | omega | simp)) | (refine qm ?_; simp (disch := first | omega | simp)))
theorem walk_parts (e : Ex) : ∀ (k : Int) (r : Nat) (σ : Nat → AB), 0 ≤ k → k + parts e ≤ 1000000000000 → σ r = .cells [.int k] 3 → AC Tryz.prog 45 [e.av, .fn 112 [.ptr r 0]] σ fun y τ => y = .tup [] ∧ τ = upd σ r (.cells [.int (k + parts e)] 3) := by
  induction e using Ex.ind with | h o n s l ih => ?_
  intro k r σ h0 hk hσ
  refine acS_of_awp Tryz.func45 Tryz.ntmps45 rfl rfl (by decide) rfl (by intro n; simp) (by intro n; simp) ?_ fun n0 hrn hcl hft => ?_
  · rw [hσ]; simp
  have hl : ∀ L, loc σ n0 L r = .cells [.int k] 3 := fun L => by rw [qec _ _ _ _ hrn, hσ]
  have hp : parts (.mk o n s l) = qu l + 1 := by rw [parts]
  have hll := qbd l
  rw [hp] at hk ⊢
  have hc := incr_ac (.mk o n s l) k ⟨h0, by omega⟩ r _ (hl [.cells [.int o, .int n, .str s, .sl (l.map Ex.av)] 25])
  rw [Ex.av_mk] at hc
  repeat (first | (refine qd fun K hK => ?_) | (refine qa ?_; simp (disch := first | omega | simp) [qg]) | (refine hK _ ?_; clear hK; clear K) | (clear hK; clear K; refine hK _ ?_; clear hK; clear K) | (clear hK; clear K; clear hK; clear K; refine hK _ ?_; clear hK; clear K) | refine qb ?_ | (refine qc ?_; simp (disch := first | omega | simp) [qg]) | (refine qh ?_; simp (disch := first | omega | simp)) | (refine qi ?_; simp (disch := first | omega | simp)) | (refine qm ?_; simp (disch := first | omega | simp)))
  refine acallS r _ hc (by simp [hl]) ?_
  simp (disch := first | omega | simp) [qg]
  repeat (first | (refine qd fun K hK => ?_) | (refine qa ?_; simp (disch := first | omega | simp) [qg]) | (refine hK _ ?_; clear hK; clear K) | (clear hK; clear K; refine hK _ ?_; clear hK; clear K) | (clear hK; clear K; clear hK; clear K; refine hK _ ?_; clear hK; clear K) | refine qb ?_ | (refine qc ?_; simp (disch := first | omega | simp) [qg]) | (refine qh ?_; simp (disch := first | omega | simp)) | (refine qi ?_; simp (disch := first | omega | simp)) | (refine qm ?_; simp (disch := first | omega | simp)))
  refine awp_loopS (fun j : Nat => upd σ r (.cells [.int (k + 1 + qu (l.take j))] 3)) (fun j => [(1, .fn 112 [.ptr r 0]), (2, .ptr n0 0), (10, .sl (l.map Ex.av)), (11, .int l.length), (12, .int j)]) (fun _ => [.cells [.int o, .int n, .str s, .sl (l.map Ex.av)] 25]) (fun j => j ≤ l.length) (fun j => l.length - j) 0 (fun j _ => upd_cl hcl (by simp)) (by simp) ⟨fun q _ => by simp [qu], by simp [hrn]; omega⟩ (upd_cl hcl (by simp)) fun j hj => ?_
  by_cases hlt : j < l.length
  · have htk := qdn l j hlt
    have htl := qbh l (j + 1)
    repeat (first | (refine qd fun K hK => ?_) | (refine qa ?_; simp (disch := first | omega | simp) [qg, hlt]) | (refine hK _ ?_; clear hK; clear K) | (clear hK; clear K; refine hK _ ?_; clear hK; clear K) | (clear hK; clear K; clear hK; clear K; refine hK _ ?_; clear hK; clear K) | refine qb ?_ | (refine qc ?_; simp (disch := first | omega | simp) [qg, hlt]) | (refine qh ?_; simp (disch := first | omega | simp)) | (refine qi ?_; simp (disch := first | omega | simp)) | (refine qm ?_; simp (disch := first | omega | simp)))
    have hst : ∀ L, loc (upd σ r (.cells [.int (k + 1 + qu (l.take j))] 3)) n0 L r = .cells [.int (k + 1 + qu (l.take j))] 3 := fun L => by rw [qec _ _ _ _ hrn]; simp [upd]
    refine acallS r _ (ih l[j] (List.getElem_mem hlt) _ r _ (by omega) (by omega) (hst _)) (by simp [hst]) ?_
    simp (disch := first | omega | simp) [qg, hrn]
    repeat (first | (refine qd fun K hK => ?_) | (refine qa ?_; simp (disch := first | omega | simp) [qg]) | (refine hK _ ?_; clear hK; clear K) | (clear hK; clear K; refine hK _ ?_; clear hK; clear K) | (clear hK; clear K; clear hK; clear K; refine hK _ ?_; clear hK; clear K) | refine qb ?_ | (refine qc ?_; simp (disch := first | omega | simp) [qg]) | (refine qh ?_; simp (disch := first | omega | simp)) | (refine qi ?_; simp (disch := first | omega | simp)) | (refine qm ?_; simp (disch := first | omega | simp)))
    refine ⟨upd_cl hcl (by simp), j + 1, by omega, by omega, ⟨fun q _ => ?_, by simp; omega⟩⟩
    rw [htk, show k + 1 + (qu (l.take j) : Int) + parts l[j] = k + 1 + ((qu (l.take j) + parts l[j] : Nat) : Int) by omega]
  · have hjl : j = l.length := by omega
    subst hjl
    rw [List.take_length]
    repeat (first | (refine qd fun K hK => ?_) | (refine qa ?_; simp (disch := first | omega | simp) [qg]) | (refine hK _ ?_; clear hK; clear K) | (clear hK; clear K; refine hK _ ?_; clear hK; clear K) | (clear hK; clear K; clear hK; clear K; refine hK _ ?_; clear hK; clear K) | refine qb ?_ | (refine qc ?_; simp (disch := first | omega | simp) [qg]) | (refine qh ?_; simp (disch := first | omega | simp)) | (refine qi ?_; simp (disch := first | omega | simp)) | (refine qm ?_; simp (disch := first | omega | simp)))
    rw [show k + 1 + (qu l : Int) = k + ((qu l : Int) + 1) by omega]
@[simp] def bodyA (o : Option Ex) : AV := .agg [.int (o.getD zeroE).op, .int (o.getD zeroE).n, .str (o.getD zeroE).s, .sl ((o.getD zeroE).args.map Ex.av), .bool o.isSome]
@[simp] theorem bodies_cls (l : List (Option Ex)) (m : Nat) : AV.cls m (l.map bodyA) := AV.cls_map (fun f => by simp [-Ex.av_fold]) l
@[simp] theorem bodies_wid (l : List (Option Ex)) : AV.wid (l.map bodyA) 5 := AV.wid_map (f := bodyA) (fun a => rfl) l
@[simp] theorem bodies_elms (l : List (Option Ex)) : AV.elms (l.map bodyA) := AV.elms_map (f := bodyA) (fun a => rfl) l
set_option maxHeartbeats 1000000 in
theorem inline_g (bs : List (Option Ex)) (hbs : ∀ b ∈ bs, parts (b.getD zeroE) ≤ 1000) (e : Ex) : parts e ≤ 1000 → wfS bs.length e = true →
    Gives Tryz.prog 54 [e.av, .sl (bs.map bodyA)] (bodyA (inlE bs e)) := by
  induction e using Ex.ind with | h o n s l ih => ?_
  intro hpb hwf
  have hl : l.length ≤ 999 := by rw [parts] at hpb; have := qbd l; omega
  rw [wfS, wfSL_all] at hwf
  simp only [Bool.and_eq_true, List.all_eq_true, Bool.or_eq_true, Bool.not_eq_true', decide_eq_false_iff_not, decide_eq_true_eq] at hwf
  obtain ⟨⟨-, hw2⟩, hw3⟩ := hwf
  obtain ⟨R, hR⟩ : ∃ R, R = inlE bs (.mk o n s l) := ⟨_, rfl⟩
  rw [← hR]
  refine qn Tryz.func54 Tryz.ntmps54 rfl rfl (by decide) rfl (by intro n; simp) fun σ n0 hcl hft => ?_
  repeat (first | (refine qd fun K hK => ?_) | (refine qa ?_; simp (disch := first | omega | simp) [qg]) | (refine hK _ ?_; clear hK; clear K) | (clear hK; clear K; refine hK _ ?_; clear hK; clear K) | (clear hK; clear K; clear hK; clear K; refine hK _ ?_; clear hK; clear K) | refine qb ?_ | (refine qc ?_; simp (disch := first | omega | simp) [qg]) | (refine qh ?_; simp (disch := first | omega | simp)) | (refine qi ?_; simp (disch := first | omega | simp)) | (refine qm ?_; simp (disch := first | omega | simp)))
  refine qbf 2 3 25 4 (by rfl) (by rfl) ?_
  refine qs hcl (fun ys : List Ex => [(1, .sl (bs.map bodyA)), (2, .ptr n0 0), (4, .ptr (n0 + 1) 0), (5, .ptr (n0 + 2) 0), (19, .sl (l.map Ex.av)), (20, .int l.length), (21, .int ys.length)]) (fun ys => [.cells [.int o, .int n, .str s, .sl (l.map Ex.av)] 25, .cells [.int 0, .int 0, .str ByteArray.empty, .v (.slice none 0 0), .bool false] 103, .cells [.int o, .int n, .str s, .gs (n0 + 3) (ys.map Ex.av)] 25, .tail ys.length 25 4])
    (fun ys => ∃ k, k ≤ l.length ∧ ys.length = k ∧ inlL bs (l.take k) = some ys) (fun ys => l.length - ys.length) [] (by exact ⟨0, by omega, rfl, by rw [List.take_zero, inlL]⟩) (by simp) fun ys hys => ?_
  obtain ⟨k, hk, rfl, hys⟩ := hys
  by_cases hlt : ys.length < l.length
  · have hpk : parts l[ys.length] ≤ 1000 := by rw [parts] at hpb; have := qbb l l[ys.length] (List.getElem_mem hlt); omega
    have hc := ih _ (List.getElem_mem hlt) hpk (hw3 _ (List.getElem_mem hlt))
    cases hx : inlE bs l[ys.length] with
    | none =>
      obtain rfl : R = none := by rw [hR, inlE, inlL_none l (List.getElem_mem hlt) hx]
      rw [hx] at hc
      repeat' (first | ((first | ((with_reducible refine qo (fun hg => ?_) (fun hg => ?_)) <;> (try simp only [hg]) <;> (try simp only [gS] at hg) <;> (try (first | simp only [eq_false hg, gI] | simp only [eq_true hg, gI]))) | (with_reducible first | refine qf ?_ | refine qe ?_ | refine qk ?_ | refine qj ?_) | refine acall (hc) ?_ | refine qp (hc) ?_ | refine qc ?_ | refine qh ?_ | refine qi ?_ | refine qm ?_) <;> (try simp (disch := first | omega | simp) [qg, -qq, -qr, hlt])) | ((with_reducible refine sideT ?_ ?_); first | omega | assumption | (simp; done)) | (refine qd fun K hK => ?_) | (refine qa ?_) | refine ql ?_ | ((first | refine hK _ ?_ | (clear hK K; refine hK _ ?_) | (clear hK K; clear hK K; refine hK _ ?_)); clear hK K) | refine qb ?_)
    | some y =>
      rw [hx] at hc
      have hsz : (ys.length + 1) * 64 ≤ 140737488355328 := by omega
      repeat' (first | ((first | ((with_reducible refine qo (fun hg => ?_) (fun hg => ?_)) <;> (try simp only [hg]) <;> (try simp only [gS] at hg) <;> (try (first | simp only [eq_false hg, gI] | simp only [eq_true hg, gI]))) | (with_reducible first | refine qf ?_ | refine qe ?_ | refine qk ?_ | refine qj ?_) | refine acall (hc) ?_ | refine qp (hc) ?_ | refine qc ?_ | refine qh ?_ | refine qi ?_ | refine qm ?_) <;> (try simp (disch := first | omega | simp) [qg, -qq, -qr, hlt, hsz])) | ((with_reducible refine sideT ?_ ?_); first | omega | assumption | (simp; done)) | (refine qd fun K hK => ?_) | (refine qa ?_) | refine ql ?_ | ((first | refine hK _ ?_ | (clear hK K; refine hK _ ?_) | (clear hK K; clear hK K; refine hK _ ?_)); clear hK K) | refine qb ?_)
      refine ⟨ys ++ [y], ⟨_, ?_, rfl, ?_⟩, by simp; omega, by simp⟩
      · simp; omega
      rw [List.length_append, List.length_singleton, List.take_succ_eq_append_getElem hlt]
      exact inlL_snoc hx _ hys
  · have hyl : ys.length = l.length := by omega
    rw [hyl, List.take_length] at hys
    have hyp : ∀ y ∈ ys, parts y ≤ 1000 := fun y hy => by
      obtain ⟨e, -, he⟩ := inlL_mem l hys y hy
      exact qcs he
    have tail : ∀ (Z : Ex) (NP : Nat), parts Z = NP → NP ≤ 1000000 → R = fitX Z → (1000 < NP → R = none) ∧ (¬ 1000 < NP → R = some Z) := fun Z NP h1 _ h2 => by
      rw [h2, fitX, h1]
      exact ⟨fun h => if_pos h, fun h => if_neg h⟩
    by_cases ho : o = 22
    · subst ho
      obtain ⟨h0, h1⟩ := hw2.resolve_left (by simp)
      have hn : n.toNat < bs.length := by omega
      cases hb : bs[n.toNat] with
      | none =>
        obtain rfl : R = none := by rw [hR, inlE, hys]; dsimp only; rw [if_pos ⟨rfl, h0, h1⟩, List.getD_eq_getElem?_getD, List.getElem?_eq_getElem hn, hb]; rfl
        repeat (first | (refine qd fun K hK => ?_) | (refine qa ?_; simp (disch := first | omega | simp) [qg, hyl, h0, h1, hb]) | (refine hK _ ?_; clear hK; clear K) | (clear hK; clear K; refine hK _ ?_; clear hK; clear K) | (clear hK; clear K; clear hK; clear K; refine hK _ ?_; clear hK; clear K) | refine qb ?_ | (refine qc ?_; simp (disch := first | omega | simp) [qg, hyl, h0, h1, hb]) | (refine qh ?_; simp (disch := first | omega | simp)) | (refine qi ?_; simp (disch := first | omega | simp)) | (refine qm ?_; simp (disch := first | omega | simp)))
      | some b =>
        have hRb : R = fitX ((putP 4 ys b).getD zeroE) := by rw [hR, inlE, hys]; dsimp only; rw [if_pos ⟨rfl, h0, h1⟩, List.getD_eq_getElem?_getD, List.getElem?_eq_getElem hn, hb]; rfl
        have hpb2 : parts b ≤ 1000 := hbs (some b) (by rw [← hb]; exact List.getElem_mem hn)
        have hpp : parts ((putP 4 ys b).getD zeroE) ≤ 1000000 := by
          cases hput : putP 4 ys b with
          | none => decide
          | some x => have h2 := putP_parts (K := 1000) (by omega) hyp b hput; have : parts b * 1000 ≤ 1000 * 1000 := Nat.mul_le_mul_right _ hpb2; show parts x ≤ _; omega
        have hcall := put_g 4 ys (fun x hx => by have := hyp x hx; omega) b (by omega)
        obtain ⟨Z, hZ⟩ : ∃ Z, Z = (putP 4 ys b).getD zeroE := ⟨_, rfl⟩
        have hcall2 : Gives Tryz.prog 111 [b.av, .int 4, .sl (ys.map Ex.av)] (.tup [Z.av, .bool (putP 4 ys b).isSome]) := by rw [hZ]; exact hcall
        rw [← hZ] at hRb hpp
        obtain ⟨t1, t2⟩ := tail Z _ rfl hpp hRb
        repeat' (first | ((first | ((with_reducible refine qo (fun hg => ?_) (fun hg => ?_)) <;> (try simp only [hg]) <;> (try simp only [gS] at hg) <;> (try (first | simp only [eq_false hg, gI] | simp only [eq_true hg, gI]))) | (with_reducible first | refine qf ?_ | refine qe ?_ | refine qk ?_ | refine qj ?_) | refine acall (hcall2) ?_ | refine qp (hcall2) ?_ | refine qc ?_ | refine qh ?_ | refine qi ?_ | refine qm ?_) <;> (try simp (disch := first | omega | simp) [qg, -qq, -qr, hyl, h0, h1, hb])) | ((with_reducible refine sideT ?_ ?_); first | omega | assumption | (simp; done)) | (refine qd fun K hK => ?_) | (refine qa ?_) | refine ql ?_ | ((first | refine hK _ ?_ | (clear hK K; refine hK _ ?_) | (clear hK K; clear hK K; refine hK _ ?_)); clear hK K) | refine qb ?_)
        refine acallS (n0 + 5) _ (walk_parts Z 0 (n0 + 5) _ (by omega) (by omega) (by simp)) (by simp) ?_
        generalize parts Z = NP at *
        by_cases hbig : 1000 < NP
        · obtain rfl := t1 hbig
          have hbig' : (1000 : Int) < NP := by omega
          simp (disch := first | omega | simp) [qg]
          repeat (first | (refine qd fun K hK => ?_) | (refine qa ?_; simp (disch := first | omega | simp) [qg, hbig']) | (refine hK _ ?_; clear hK; clear K) | (clear hK; clear K; refine hK _ ?_; clear hK; clear K) | (clear hK; clear K; clear hK; clear K; refine hK _ ?_; clear hK; clear K) | refine qb ?_ | (refine qc ?_; simp (disch := first | omega | simp) [qg, hbig']) | (refine qh ?_; simp (disch := first | omega | simp)) | (refine qi ?_; simp (disch := first | omega | simp)) | (refine qm ?_; simp (disch := first | omega | simp)))
          exact ⟨rfl, rfl, rfl, rfl⟩
        · obtain rfl := t2 hbig
          have hbig' : ¬ (1000 : Int) < NP := by omega
          simp (disch := first | omega | simp) [qg]
          repeat (first | (refine qd fun K hK => ?_) | (refine qa ?_; simp (disch := first | omega | simp) [qg, hbig']) | (refine hK _ ?_; clear hK; clear K) | (clear hK; clear K; refine hK _ ?_; clear hK; clear K) | (clear hK; clear K; clear hK; clear K; refine hK _ ?_; clear hK; clear K) | refine qb ?_ | (refine qc ?_; simp (disch := first | omega | simp) [qg, hbig']) | (refine qh ?_; simp (disch := first | omega | simp)) | (refine qi ?_; simp (disch := first | omega | simp)) | (refine qm ?_; simp (disch := first | omega | simp)))
    · have hRb : R = fitX (.mk o n s ys) := by rw [hR, inlE, hys]; dsimp only; rw [if_neg (fun h => ho h.1)]
      have hpp : parts (.mk o n s ys) ≤ 1000000 := by
        have h2 := partsL_bound (K := 1000) ys hyp
        have : ys.length * 1000 ≤ 999 * 1000 := Nat.mul_le_mul_right _ (by omega)
        rw [parts]; omega
      generalize hZ : Ex.mk o n s ys = Z at *
      have hZf : AV.agg [.int o, .int n, .str s, .sl (ys.map Ex.av)] = Z.av := by rw [← hZ, Ex.av_mk]
      have hZo : Z.op = o ∧ Z.n = n ∧ Z.s = s ∧ Z.args = ys := by rw [← hZ]; exact ⟨rfl, rfl, rfl, rfl⟩
      obtain ⟨t1, t2⟩ := tail Z _ rfl hpp hRb
      have h22 : (o == 22) = false := by simp [ho]
      repeat (first | (refine qd fun K hK => ?_) | (refine qa ?_; simp (disch := first | omega | simp) [qg, hyl, h22]) | (refine hK _ ?_; clear hK; clear K) | (clear hK; clear K; refine hK _ ?_; clear hK; clear K) | (clear hK; clear K; clear hK; clear K; refine hK _ ?_; clear hK; clear K) | refine qb ?_ | (refine qc ?_; simp (disch := first | omega | simp) [qg, hyl, h22]) | (refine qh ?_; simp (disch := first | omega | simp)) | (refine qi ?_; simp (disch := first | omega | simp)) | (refine qm ?_; simp (disch := first | omega | simp)))
      refine acallS (n0 + 4) _ (by rw [hZf]; exact walk_parts Z 0 (n0 + 4) _ (by omega) (by omega) (by simp)) (by simp) ?_
      generalize parts Z = NP at *
      by_cases hbig : 1000 < NP
      · obtain rfl := t1 hbig
        have hbig' : (1000 : Int) < NP := by omega
        simp (disch := first | omega | simp) [qg]
        repeat (first | (refine qd fun K hK => ?_) | (refine qa ?_; simp (disch := first | omega | simp) [qg, hbig']) | (refine hK _ ?_; clear hK; clear K) | (clear hK; clear K; refine hK _ ?_; clear hK; clear K) | (clear hK; clear K; clear hK; clear K; refine hK _ ?_; clear hK; clear K) | refine qb ?_ | (refine qc ?_; simp (disch := first | omega | simp) [qg, hbig']) | (refine qh ?_; simp (disch := first | omega | simp)) | (refine qi ?_; simp (disch := first | omega | simp)) | (refine qm ?_; simp (disch := first | omega | simp)))
        exact ⟨rfl, rfl, rfl, rfl⟩
      · obtain rfl := t2 hbig
        have hbig' : ¬ (1000 : Int) < NP := by omega
        simp (disch := first | omega | simp) [qg]
        repeat (first | (refine qd fun K hK => ?_) | (refine qa ?_; simp (disch := first | omega | simp) [qg, hbig', hZo]) | (refine hK _ ?_; clear hK; clear K) | (clear hK; clear K; refine hK _ ?_; clear hK; clear K) | (clear hK; clear K; clear hK; clear K; refine hK _ ?_; clear hK; clear K) | refine qb ?_ | (refine qc ?_; simp (disch := first | omega | simp) [qg, hbig', hZo]) | (refine qh ?_; simp (disch := first | omega | simp)) | (refine qi ?_; simp (disch := first | omega | simp)) | (refine qm ?_; simp (disch := first | omega | simp)))
        exact ⟨hZo.1.symm, hZo.2.1.symm, hZo.2.2.1.symm, by rw [hZo.2.2.2]⟩
set_option maxHeartbeats 1000000 in
theorem Inline_g (F : List Fn) (hF : ∀ f ∈ F, parts f.body ≤ 1000) (hlF : F.length ≤ 1000) (hwF : ∀ i (h : i < F.length), wfS i F[i].body = true) (e : Ex) (he : parts e ≤ 1000) (hwf : wfS F.length e = true) :
    Gives Tryz.prog 19 [.sl (F.map Fn.av), e.av] (exr (qby F e)) := by
  obtain ⟨R, hR⟩ : ∃ R, R = qby F e := ⟨_, rfl⟩
  rw [← hR]
  refine qn Tryz.func19 Tryz.ntmps19 rfl rfl (by decide) rfl (by intro n; simp) fun σ n0 hcl hft => ?_
  repeat (first | (refine qd fun K hK => ?_) | (refine qa ?_; simp (disch := first | omega | simp) [qg]) | (refine hK _ ?_; clear hK; clear K) | (clear hK; clear K; refine hK _ ?_; clear hK; clear K) | (clear hK; clear K; clear hK; clear K; refine hK _ ?_; clear hK; clear K) | refine qb ?_ | (refine qc ?_; simp (disch := first | omega | simp) [qg]) | (refine qh ?_; simp (disch := first | omega | simp)) | (refine qi ?_; simp (disch := first | omega | simp)) | (refine qm ?_; simp (disch := first | omega | simp)))
  refine qbk 6 103 5 (by simp) ?_
  simp only [List.length_append, List.length_cons, List.length_nil, Nat.zero_add, Nat.reduceAdd, List.cons_append, List.nil_append]
  refine qs hcl (fun k : Nat => [(3, .ptr n0 0), (4, .ptr (n0 + 1) 0), (6, .gs (n0 + 2) ((inlB [] (F.take k)).map bodyA)), (10, .sl (F.map Fn.av)), (11, .int F.length), (12, .int k)]) (fun k => [.cells [.int e.op, .int e.n, .str e.s, .sl (e.args.map Ex.av)] 25, .cells [.int 0, .int 0, .str ByteArray.empty, .v (.slice none 0 0)] 25, .tail k 103 5])
    (fun k => k ≤ F.length) (fun k => F.length - k) 0 (by simp) (by simp [inlB]) fun k hk => ?_
  have hlen : (inlB [] (F.take k)).length = k := by rw [inlB_len]; simp; omega
  have hbs := inlB_parts (F.take k)
  have hsn : ∀ (h : k < F.length), inlB [] (F.take (k + 1)) = inlB [] (F.take k) ++ [inlE (inlB [] (F.take k)) F[k].body] := fun h => by rw [List.take_succ_eq_append_getElem h, inlB_snoc]
  have hfin : k = F.length → qby F e = match inlE (inlB [] (F.take k)) e with
      | some x => if 12 < levels x then none else some x
      | none => none := fun h => by rw [h, List.take_length]; rfl
  generalize inlB [] (F.take k) = bs at *
  have hcall := fun e he hw => inline_g bs hbs e he hw
  by_cases hlt : k < F.length
  · repeat (first | (refine qd fun K hK => ?_) | (refine qa ?_; simp (disch := first | omega | simp) [qg, hlt]) | (refine hK _ ?_; clear hK; clear K) | (clear hK; clear K; refine hK _ ?_; clear hK; clear K) | (clear hK; clear K; clear hK; clear K; refine hK _ ?_; clear hK; clear K) | refine qb ?_ | (refine qc ?_; simp (disch := first | omega | simp) [qg, hlt]) | (refine qh ?_; simp (disch := first | omega | simp)) | (refine qi ?_; simp (disch := first | omega | simp)) | (refine qm ?_; simp (disch := first | omega | simp)))
    refine acall (hcall F[k].body (hF _ (List.getElem_mem hlt)) (by rw [hlen]; exact hwF k hlt)) ?_
    simp (disch := first | omega | simp) [qg, hlen]
    refine ⟨by omega, ?_⟩
    repeat (first | (refine qd fun K hK => ?_) | (refine qa ?_; simp (disch := first | omega | simp) [qg]) | (refine hK _ ?_; clear hK; clear K) | (clear hK; clear K; refine hK _ ?_; clear hK; clear K) | (clear hK; clear K; clear hK; clear K; refine hK _ ?_; clear hK; clear K) | refine qb ?_ | (refine qc ?_; simp (disch := first | omega | simp) [qg]) | (refine qh ?_; simp (disch := first | omega | simp)) | (refine qi ?_; simp (disch := first | omega | simp)) | (refine qm ?_; simp (disch := first | omega | simp)))
    refine ⟨k + 1, by omega, by omega, ?_⟩
    rw [hsn hlt]
    simp
  · have hkl : k = F.length := by omega
    have hRR := hR.trans (hfin hkl)
    have hc := hcall e he (by rw [hlen, hkl]; exact hwf)
    have hlv : levels ((inlE bs e).getD zeroE) ≤ 1000000 := by
      cases hx : inlE bs e with
      | none => show levels zeroE ≤ _; decide
      | some y => have := qcs hx; have := qcx y; show levels y ≤ _; omega
    have hlvg := levels_g _ hlv
    subst hkl
    cases hx : inlE bs e with
    | none =>
      rw [hx] at hc
      obtain rfl : R = none := by rw [hRR, hx]
      repeat' (first | ((first | ((with_reducible refine qo (fun hg => ?_) (fun hg => ?_)) <;> (try simp only [hg]) <;> (try simp only [gS] at hg) <;> (try (first | simp only [eq_false hg, gI] | simp only [eq_true hg, gI]))) | (with_reducible first | refine qf ?_ | refine qe ?_ | refine qk ?_ | refine qj ?_) | refine acall (hc) ?_ | refine qp (hc) ?_ | refine qc ?_ | refine qh ?_ | refine qi ?_ | refine qm ?_) <;> (try simp (disch := first | omega | simp) [qg, -qq, -qr])) | ((with_reducible refine sideT ?_ ?_); first | omega | assumption | (simp; done)) | (refine qd fun K hK => ?_) | (refine qa ?_) | refine ql ?_ | ((first | refine hK _ ?_ | (clear hK K; refine hK _ ?_) | (clear hK K; clear hK K; refine hK _ ?_)); clear hK K) | refine qb ?_)
    | some y =>
      rw [hx] at hRR hlvg hc
      replace hlvg : Gives Tryz.prog 55 [y.av] (.int (levels y)) := hlvg
      by_cases h12 : 12 < levels y
      · obtain rfl : R = none := by rw [hRR]; dsimp only; rw [if_pos h12]
        have h12' : (12 : Int) < levels y := by omega
        repeat' (first | ((first | ((with_reducible refine qo (fun hg => ?_) (fun hg => ?_)) <;> (try simp only [hg]) <;> (try simp only [gS] at hg) <;> (try (first | simp only [eq_false hg, gI] | simp only [eq_true hg, gI]))) | (with_reducible first | refine qf ?_ | refine qe ?_ | refine qk ?_ | refine qj ?_) | refine acall (hc) ?_ | refine qp (hc) ?_ | refine acall (hlvg) ?_ | refine qp (hlvg) ?_ | refine qc ?_ | refine qh ?_ | refine qi ?_ | refine qm ?_) <;> (try simp (disch := first | omega | simp) [qg, -qq, -qr, h12'])) | ((with_reducible refine sideT ?_ ?_); first | omega | assumption | (simp; done)) | (refine qd fun K hK => ?_) | (refine qa ?_) | refine ql ?_ | ((first | refine hK _ ?_ | (clear hK K; refine hK _ ?_) | (clear hK K; clear hK K; refine hK _ ?_)); clear hK K) | refine qb ?_)
      · obtain rfl : R = some y := by rw [hRR]; dsimp only; rw [if_neg h12]
        have h12' : ¬ (12 : Int) < levels y := by omega
        repeat' (first | ((first | ((with_reducible refine qo (fun hg => ?_) (fun hg => ?_)) <;> (try simp only [hg]) <;> (try simp only [gS] at hg) <;> (try (first | simp only [eq_false hg, gI] | simp only [eq_true hg, gI]))) | (with_reducible first | refine qf ?_ | refine qe ?_ | refine qk ?_ | refine qj ?_) | refine acall (hc) ?_ | refine qp (hc) ?_ | refine acall (hlvg) ?_ | refine qp (hlvg) ?_ | refine qc ?_ | refine qh ?_ | refine qi ?_ | refine qm ?_) <;> (try simp (disch := first | omega | simp) [qg, -qq, -qr, h12'])) | ((with_reducible refine sideT ?_ ?_); first | omega | assumption | (simp; done)) | (refine qd fun K hK => ?_) | (refine qa ?_) | refine ql ?_ | ((first | refine hK _ ?_ | (clear hK K; refine hK _ ?_) | (clear hK K; clear hK K; refine hK _ ?_)); clear hK K) | refine qb ?_)
end Go.Proofs.YtnkimlkoijfcpaaGreatDoor

/- Walk of layer 26: Compile. -/
namespace Go.Proofs.YtnkimlkoijfcpaaGreatDoor
open Go.RowKit Go.Lib
theorem awp_reobj {P : Program} {code : Code} {Q : Exit → AS → Prop} {n n0 : Nat} {t : Nat → AV} {σ : Nat → AB} {L : List AB} (i : Nat) {I I' : Obj → Prop} (hL : L[i]? = some (.obj I)) (hI : ∀ o, I o → I' o)
    (h : awp P code Q ⟨n, t, σ, n0, L.set i (.obj I')⟩) : awp P code Q ⟨n, t, σ, n0, L⟩ := by
  intro X0 a w ⟨X, hc⟩
  have hi := (List.getElem?_eq_some_iff.1 hL).1
  have hst : (AS.mk n t σ n0 L).st (n0 + i) = .obj I := by
    show loc σ n0 L (n0 + i) = _
    unfold loc
    rw [if_neg (by omega), Nat.add_sub_cancel_left, List.getD_eq_getElem?_getD, hL]; rfl
  have hset : (AS.mk n t σ n0 L).set (n0 + i) (.obj I') = ⟨n, t, σ, n0, L.set i (.obj I')⟩ := by
    unfold AS.set; dsimp only; rw [if_neg (by omega), Nat.add_sub_cancel_left]
  have hX : X.σ (n0 + i) = .obj I := by rw [hc.σ, hst]
  have hlt : n0 + i < (AS.mk n t σ n0 L).nx := by show n0 + i < n0 + L.length; omega
  have hT : Turns X X.w X.S (n0 + i) (.obj I') (X.μ (n0 + i)) :=
    { grown := ⟨rfl, rfl, rfl, Nat.le_refl _, fun _ _ _ => rfl⟩
      blk := fun b2 h => .inl (by unfold St.blk; rw [hX]; exact h)
      ver := by
        unfold Ver
        rw [hX]
        exact ⟨⟨I', by simp [St.turn, upd]⟩, by simp [St.turn, upd]⟩
      keepS := fun b2 o h1 h2 => rfl
      more := fun _ _ h => h
      less := fun _ _ h => .inl h
      apart := fun b2 o h1 h2 => by
        obtain ⟨_, e, s2, h3, -⟩ := hc.sr.apart (n0 + i) b2 o (by unfold St.blk; rw [hX]; exact h1) h2
        rw [hX] at h3; cases h3
      old := fun b2 h => by
        have : X.blk (n0 + i) = some b2 := by unfold St.blk; rw [hX]; exact h
        exact hc.sr.lt this }
  have hw := hc.w
  subst hw
  have hB := hc.sr.block (n0 + i)
  rw [hX] at hB
  obtain ⟨b, o, h1, h2, h3⟩ := hB
  have hcon := con_turn (v := X.μ (n0 + i)) hc (by rw [hst]; simp) hT ⟨b, o, h1, h2, hI o h3⟩
  rw [hset] at hcon
  exact h X0 a X.w ⟨_, hcon⟩
theorem acallL {P : Program} {f : FuncId} {args : List AV} {n n0 : Nat} {t : Nat → AV} {σ : Nat → AB} {L : List AB} {K : AV → AS → Prop} {x : AV} (L' : List AB) (h : AC P f args (loc σ n0 L) fun y τ => y = x ∧ τ = loc σ n0 L') (hK : K x ⟨n, t, σ, n0, L'⟩) : ACall P f args ⟨n, t, σ, n0, L⟩ K :=
  ⟨x, ⟨n, t, σ, n0, L'⟩, h, ⟨rfl, rfl, rfl⟩, hK⟩
theorem stM_own {cols : List Int} {σ : Nat → AB} {n0 : Nat} {b0 b1 o m ta tb : AB} {M : List Ex} :
    stM cols (n0 + 3) (n0 + 4) (n0 + 5) (n0 + 2) M (loc σ n0 [b0, b1, o, m, ta, tb]) = loc σ n0 [b0, b1, .obj (mapI (entI M M 0)), mkB cols M (n0 + 4) (n0 + 5) (n0 + 2), .tail M.length 78 7, .tail M.length 3 1] := by
  funext r
  unfold stM loc
  by_cases hr : r < n0
  · rw [if_neg (by omega), if_neg (by omega), if_neg (by omega), if_neg (by omega), if_pos hr, if_pos hr]
  · obtain ⟨i, rfl⟩ : ∃ i, r = n0 + i := ⟨r - n0, by omega⟩
    rw [if_neg hr, if_neg hr, Nat.add_sub_cancel_left]
    match i with
    | 0 => simp
    | 1 => simp
    | 2 => simp
    | 3 => simp
    | 4 => simp
    | 5 => simp
    | i + 6 => simp
theorem adopt_mk {P : Program} {code : Code} {Q : Exit → AS → Prop} {n n0 : Nat} {t : Nat → AV} {σ : Nat → AB} {b0 b1 : AB} {x y z : AV} {T : TypeId}
    (h : awp P code Q ⟨n, t, σ, n0, [b0, b1, .obj (mapI []), .cells [x, .gs (n0 + 4) [], .gs (n0 + 5) [], y, z] T, .tail 0 78 7, .tail 0 3 1]⟩) :
    awp P code Q ⟨n, t, σ, n0, [b0, b1, .obj fun o => o = .map #[] 0, .cells [x, .v (.slice none 0 0), .v (.slice none 0 0), y, z] T]⟩ := by
  refine awp_reobj 2 (I' := mapI []) (by rfl) (fun o ho => by rw [ho]; exact mapI_nil) ?_
  refine qbf 3 1 78 7 (by rfl) (by rfl) ?_
  refine qbf 3 2 3 1 (by rfl) (by rfl) ?_
  exact h
set_option maxRecDepth 100000 in
set_option maxHeartbeats 16000000 in
theorem Compile_g (F : List Fn) (cols : List Int) (e : Ex) (hF : ∀ f ∈ F, parts f.body ≤ 1000) (hlF : F.length ≤ 1000) (hcols : cols.length ≤ 1000000) (he : parts e ≤ 1000) (hn : n64 e) (hFn : ∀ f ∈ F, n64 f.body) :
    Gives Tryz.prog 18 [.sl (F.map Fn.av), .sl (cols.map AV.int), e.av] (.tup [(qbm F cols e).1.av, .int (qbm F cols e).2]) := by
  obtain ⟨R, hR⟩ : ∃ R, R = qbm F cols e := ⟨_, rfl⟩
  rw [← hR]
  unfold qbm at hR
  have c1 := type_g F cols [] e (by omega) (fun f hf => by have := hF f hf; omega)
  simp only [List.map_nil] at c1
  cases ht : typeP F cols [] e with
  | none =>
    rw [ht] at hR c1
    simp only [Option.getD_none, Option.isSome_none] at c1
    refine qn Tryz.func18 Tryz.ntmps18 rfl rfl (by decide) rfl (by intro n; simp) fun σ n0 hcl hft => ?_
    repeat' (first | ((first | ((with_reducible refine qo (fun hg => ?_) (fun hg => ?_)) <;> (try simp only [hg]) <;> (try simp only [gS] at hg) <;> (try (first | simp only [eq_false hg, gI] | simp only [eq_true hg, gI]))) | (with_reducible first | refine qf ?_ | refine qe ?_ | refine qk ?_ | refine qj ?_) | refine acall (c1) ?_ | refine qp (c1) ?_ | refine qc ?_ | refine qh ?_ | refine qi ?_ | refine qm ?_) <;> (try simp (disch := first | omega | simp) [qg, -qq, -qr])) | ((with_reducible refine sideT ?_ ?_); first | omega | assumption | (simp; done)) | (refine qd fun K hK => ?_) | (refine qa ?_) | refine ql ?_ | ((first | refine hK _ ?_ | (clear hK K; refine hK _ ?_) | (clear hK K; clear hK K; refine hK _ ?_)); clear hK K) | refine qb ?_)
    all_goals (rw [hR]; simp [zeroCd, Cod.av, -Cod.av_fold])
  | some t =>
    rw [ht] at hR c1
    simp only [Option.getD_some, Option.isSome_some] at c1
    obtain ⟨h1, h2, h3, h4⟩ := typeP_all ht
    have c2 := Inline_g F hF hlF (okF_wfS h2) e he (wfS_of_ty e h3)
    unfold exr at c2
    cases hy : qby F e with
    | none =>
      rw [hy] at hR c2
      simp only [Option.getD_none, Option.isSome_none] at c2
      refine qn Tryz.func18 Tryz.ntmps18 rfl rfl (by decide) rfl (by intro n; simp) fun σ n0 hcl hft => ?_
      repeat' (first | ((first | ((with_reducible refine qo (fun hg => ?_) (fun hg => ?_)) <;> (try simp only [hg]) <;> (try simp only [gS] at hg) <;> (try (first | simp only [eq_false hg, gI] | simp only [eq_true hg, gI]))) | (with_reducible first | refine qf ?_ | refine qe ?_ | refine qk ?_ | refine qj ?_) | refine acall (c1) ?_ | refine qp (c1) ?_ | refine acall (c2) ?_ | refine qp (c2) ?_ | refine qc ?_ | refine qh ?_ | refine qi ?_ | refine qm ?_) <;> (try simp (disch := first | omega | simp) [qg, -qq, -qr])) | ((with_reducible refine sideT ?_ ?_); first | omega | assumption | (simp; done)) | (refine qd fun K hK => ?_) | (refine qa ?_) | refine ql ?_ | ((first | refine hK _ ?_ | (clear hK K; refine hK _ ?_) | (clear hK K; clear hK K; refine hK _ ?_)); clear hK K) | refine qb ?_)
      all_goals (rw [hR]; simp [zeroCd, Cod.av, -Cod.av_fold])
    | some y =>
      rw [hy] at hR c2
      simp only [Option.getD_some, Option.isSome_some] at c2
      obtain ⟨g1, g2, g3, g4, g5⟩ := compile_typ ht hy
      have gn := fold_n64 y (inline_n64 hFn hn hy)
      have c3 := Fold_g y g1 (by omega)
      have gk := raw_ok g3 g4
      have c5 := compact_g gk.1
      have hR1 : R.1 = compP (rawP cols (foldE y)) := by rw [hR]
      have hR0 : R.2 = 0 := by rw [hR]
      clear hR
      rw [← hR1] at c5
      generalize foldE y = f at *
      unfold rawP Cod.av at c5
      dsimp only at c5
      have hpg : PartsG cols [] := ⟨fun i y h => by simp at h, fun i j y h => by simp at h, by simp⟩
      obtain ⟨M, hM⟩ : ∃ M, M = qbc f [] := ⟨_, rfl⟩
      rw [← hM] at c5
      rw [List.map_map] at c5
      refine qn Tryz.func18 Tryz.ntmps18 rfl rfl (by decide) rfl (by intro n; simp) fun σ n0 hcl hft => ?_
      have c6 : ∀ b0 b1, AC Tryz.prog 53 [.ptr (n0 + 3) 0, f.av] (loc σ n0 [b0, b1, .obj (mapI []), .cells [.sl (cols.map AV.int), .gs (n0 + 4) [], .gs (n0 + 5) [], .v (.int .i64 0), .own (n0 + 2) 0] 100, .tail 0 78 7, .tail 0 3 1]) fun y τ => y = .int (findE M f) ∧
          τ = loc σ n0 [b0, b1, .obj (mapI (entI M M 0)), mkB cols M (n0 + 4) (n0 + 5) (n0 + 2), .tail M.length 78 7, .tail M.length 3 1] := fun b0 b1 => by
        have h := add_ac cols hcols (n0 + 3) (n0 + 4) (n0 + 5) (n0 + 2) f [] (loc σ n0 [b0, b1, .obj (mapI []), .cells [.sl (cols.map AV.int), .gs (n0 + 4) [], .gs (n0 + 5) [], .v (.int .i64 0), .own (n0 + 2) 0] 100, .tail 0 78 7, .tail 0 3 1]) hpg g3 gn (by simp; omega) ⟨by simp [loc, mkB, rawI] <;> omega, by simp [loc] <;> omega, by simp [loc] <;> omega, by simp [loc, entI] <;> omega⟩
        rw [stM_own, ← hM] at h
        exact h
      repeat' (first | ((first | ((with_reducible refine qo (fun hg => ?_) (fun hg => ?_)) <;> (try simp only [hg]) <;> (try simp only [gS] at hg) <;> (try (first | simp only [eq_false hg, gI] | simp only [eq_true hg, gI]))) | (with_reducible first | refine qf ?_ | refine qe ?_ | refine qk ?_ | refine qj ?_) | refine acall (c1) ?_ | refine qp (c1) ?_ | refine acall (c2) ?_ | refine qp (c2) ?_ | refine adopt_mk ?_ | refine acall (c3) ?_ | refine qp (c3) ?_ | refine acallL _ (c6 _ _) ?_ | refine acall (c5) ?_ | refine qp (c5) ?_ | refine qc ?_ | refine qh ?_ | refine qi ?_ | refine qm ?_) <;> (try simp (disch := first | omega | simp) [qg, -qq, -qr, mkB])) | ((with_reducible refine sideT ?_ ?_); first | omega | assumption | (simp; done)) | (refine qd fun K hK => ?_) | (refine qa ?_) | ((first | refine hK _ ?_ | (clear hK K; refine hK _ ?_) | (clear hK K; clear hK K; refine hK _ ?_)); clear hK K) | refine qb ?_)
      all_goals (first | rfl | (rw [hR0]; done) | (simp [hR0]; done))
end Go.Proofs.YtnkimlkoijfcpaaGreatDoor

/- Walks of chapter 3: right values and rows; of the reference, too. -/
namespace Go.Proofs.YtnkimlkoijfcpaaGreatDoor
open Go.RowKit Go.Lib
end Go.Proofs.YtnkimlkoijfcpaaGreatDoor

/- Walks of the laws of layer 26: the examples, and the bounds. -/
namespace Go.Proofs.YtnkimlkoijfcpaaGreatDoor
open Go.RowKit Go.Lib
theorem col26_g (n : Int) : Gives Tryz.prog 35 [.int n] (Ex.mk 3 n ByteArray.empty []).av := by
  refine qn Tryz.func35 Tryz.ntmps35 rfl rfl (by decide) rfl (by intro n; simp) fun σ n0 hcl hft => ?_
  repeat' (first | ((first | ((with_reducible refine qo (fun hg => ?_) (fun hg => ?_)) <;> (try simp only [hg]) <;> (try simp only [gS] at hg) <;> (try (first | simp only [eq_false hg, gI] | simp only [eq_true hg, gI]))) | (with_reducible first | refine qf ?_ | refine qe ?_ | refine qk ?_ | refine qj ?_) | refine qc ?_ | refine qh ?_ | refine qi ?_ | refine qm ?_) <;> (try simp (disch := first | omega | simp) [qg, -qq, -qr])) | ((with_reducible refine sideT ?_ ?_); first | omega | assumption | (simp; done)) | (refine qd fun K hK => ?_) | (refine qa ?_) | refine ql ?_ | ((first | refine hK _ ?_ | (clear hK K; refine hK _ ?_) | (clear hK K; clear hK K; refine hK _ ?_)); clear hK K) | refine qb ?_)
theorem two26_g (op : Int) (a b : Ex) : Gives Tryz.prog 34 [.int op, a.av, b.av] (Ex.mk op 0 ByteArray.empty [a, b]).av := by
  refine qn Tryz.func34 Tryz.ntmps34 rfl rfl (by decide) rfl (by intro n; simp) fun σ n0 hcl hft => ?_
  repeat' (first | ((first | ((with_reducible refine qo (fun hg => ?_) (fun hg => ?_)) <;> (try simp only [hg]) <;> (try simp only [gS] at hg) <;> (try (first | simp only [eq_false hg, gI] | simp only [eq_true hg, gI]))) | (with_reducible first | refine qf ?_ | refine qe ?_ | refine qk ?_ | refine qj ?_) | refine qc ?_ | refine qh ?_ | refine qi ?_ | refine qm ?_) <;> (try simp (disch := first | omega | simp) [qg, -qq, -qr])) | ((with_reducible refine sideT ?_ ?_); first | omega | assumption | (simp; done)) | (refine qd fun K hK => ?_) | (refine qa ?_) | refine ql ?_ | ((first | refine hK _ ?_ | (clear hK K; refine hK _ ?_) | (clear hK K; clear hK K; refine hK _ ?_)); clear hK K) | refine qb ?_)
set_option maxHeartbeats 4000000 in
theorem ops26_g (c : Cod) (l : List Int) (hl : l.length ≤ 1000000) (hc : c.ins.length ≤ 1000000) : Gives Tryz.prog 36 [c.av, .sl (l.map AV.int)] (.bool (decide (c.ins.map Ins.op = l))) := by
  obtain ⟨ins, types, out⟩ := c
  simp only at *
  by_cases hlen : ins.length = l.length
  · have hlenI : (ins.length : Int) = l.length := by omega
    refine qn Tryz.func36 Tryz.ntmps36 rfl rfl (by decide) rfl (by intro n; simp) fun σ n0 hcl hft => ?_
    repeat' (first | ((first | ((with_reducible refine qo (fun hg => ?_) (fun hg => ?_)) <;> (try simp only [hg]) <;> (try simp only [gS] at hg) <;> (try (first | simp only [eq_false hg, gI] | simp only [eq_true hg, gI]))) | (with_reducible first | refine qf ?_ | refine qe ?_ | refine qk ?_ | refine qj ?_) | refine qc ?_ | refine qh ?_ | refine qi ?_ | refine qm ?_) <;> (try simp (disch := first | omega | simp) [qg, -qq, -qr, hlen, hlenI])) | ((with_reducible refine sideT ?_ ?_); first | omega | assumption | (simp; done)) | (refine qd fun K hK => ?_) | (refine qa ?_) | refine ql ?_ | ((first | refine hK _ ?_ | (clear hK K; refine hK _ ?_) | (clear hK K; clear hK K; refine hK _ ?_)); clear hK K) | refine qb ?_)
    refine qs hcl (fun k : Nat => [(1, .sl (l.map AV.int)), (2, .ptr n0 0), (5, .int k)]) (fun _ => [.cells [.sl (ins.map Ins.av), .sl (types.map AV.int), .int out] 45])
      (fun k => k ≤ l.length ∧ ∀ j (h : j < ins.length) (h2 : j < l.length), j < k → ins[j].op = l[j]) (fun k => l.length - k) 0 (by simp) (by simp) fun k ⟨hk, he⟩ => ?_
    by_cases hlt : k < l.length
    · have hlt2 : k < ins.length := by omega
      by_cases heq : ins[k].op = l[k]
      · repeat' (first | ((first | ((with_reducible refine qo (fun hg => ?_) (fun hg => ?_)) <;> (try simp only [hg]) <;> (try simp only [gS] at hg) <;> (try (first | simp only [eq_false hg, gI] | simp only [eq_true hg, gI]))) | (with_reducible first | refine qf ?_ | refine qe ?_ | refine qk ?_ | refine qj ?_) | refine qc ?_ | refine qh ?_ | refine qi ?_ | refine qm ?_) <;> (try simp (disch := first | omega | simp) [qg, -qq, -qr, hlt, hlt2, heq])) | ((with_reducible refine sideT ?_ ?_); first | omega | assumption | (simp; done)) | (refine qd fun K hK => ?_) | (refine qa ?_) | refine ql ?_ | ((first | refine hK _ ?_ | (clear hK K; refine hK _ ?_) | (clear hK K; clear hK K; refine hK _ ?_)); clear hK K) | refine qb ?_)
        all_goals first | exact absurd heq (by assumption) | exact ⟨k + 1, ⟨by omega, fun j h h2 hj => by
          by_cases hjk : j = k
          · subst hjk; exact heq
          · exact he j h h2 (by omega)⟩, by omega, by simp⟩
      · have : ¬ ins.map Ins.op = l := fun e => heq (by subst e; simp)
        repeat' (first | ((first | ((with_reducible refine qo (fun hg => ?_) (fun hg => ?_)) <;> (try simp only [hg]) <;> (try simp only [gS] at hg) <;> (try (first | simp only [eq_false hg, gI] | simp only [eq_true hg, gI]))) | (with_reducible first | refine qf ?_ | refine qe ?_ | refine qk ?_ | refine qj ?_) | refine qc ?_ | refine qh ?_ | refine qi ?_ | refine qm ?_) <;> (try simp (disch := first | omega | simp) [qg, -qq, -qr, hlt, hlt2, heq])) | ((with_reducible refine sideT ?_ ?_); first | omega | assumption | (simp; done)) | (refine qd fun K hK => ?_) | (refine qa ?_) | refine ql ?_ | ((first | refine hK _ ?_ | (clear hK K; refine hK _ ?_) | (clear hK K; clear hK K; refine hK _ ?_)); clear hK K) | refine qb ?_)
        all_goals first | exact absurd (by assumption) heq | (simp [this]; done)
    · have : ins.map Ins.op = l := by
        apply List.ext_getElem (by simpa using hlen)
        intro i h1 h2
        rw [List.getElem_map]; exact he i _ h2 (by omega)
      repeat' (first | ((first | ((with_reducible refine qo (fun hg => ?_) (fun hg => ?_)) <;> (try simp only [hg]) <;> (try simp only [gS] at hg) <;> (try (first | simp only [eq_false hg, gI] | simp only [eq_true hg, gI]))) | (with_reducible first | refine qf ?_ | refine qe ?_ | refine qk ?_ | refine qj ?_) | refine qc ?_ | refine qh ?_ | refine qi ?_ | refine qm ?_) <;> (try simp (disch := first | omega | simp) [qg, -qq, -qr, hlt])) | ((with_reducible refine sideT ?_ ?_); first | omega | assumption | (simp; done)) | (refine qd fun K hK => ?_) | (refine qa ?_) | refine ql ?_ | ((first | refine hK _ ?_ | (clear hK K; refine hK _ ?_) | (clear hK K; clear hK K; refine hK _ ?_)); clear hK K) | refine qb ?_)
      all_goals (simp [this])
  · have hne : ¬ ins.map Ins.op = l := fun e => hlen (by subst e; simp)
    have hlenI : ¬ (ins.length : Int) = l.length := by omega
    refine qn Tryz.func36 Tryz.ntmps36 rfl rfl (by decide) rfl (by intro n; simp) fun σ n0 hcl hft => ?_
    repeat' (first | ((first | ((with_reducible refine qo (fun hg => ?_) (fun hg => ?_)) <;> (try simp only [hg]) <;> (try simp only [gS] at hg) <;> (try (first | simp only [eq_false hg, gI] | simp only [eq_true hg, gI]))) | (with_reducible first | refine qf ?_ | refine qe ?_ | refine qk ?_ | refine qj ?_) | refine qc ?_ | refine qh ?_ | refine qi ?_ | refine qm ?_) <;> (try simp (disch := first | omega | simp) [qg, -qq, -qr, hlenI, hne])) | ((with_reducible refine sideT ?_ ?_); first | omega | assumption | (simp; done)) | (refine qd fun K hK => ?_) | (refine qa ?_) | refine ql ?_ | ((first | refine hK _ ?_ | (clear hK K; refine hK _ ?_) | (clear hK K; clear hK K; refine hK _ ?_)); clear hK K) | refine qb ?_)
    all_goals first | exact absurd (by assumption) hlenI | (simp [hne]; done)
def ex26a : Ex := .mk 8 0 ByteArray.empty [.mk 3 0 ByteArray.empty [], .mk 10 0 ByteArray.empty [.mk 0 2 ByteArray.empty [], .mk 0 3 ByteArray.empty []]]
def ex26s : Ex := .mk 8 0 ByteArray.empty [.mk 3 0 ByteArray.empty [], .mk 0 1 ByteArray.empty []]
def ex26b : Ex := .mk 10 0 ByteArray.empty [ex26s, ex26s]
def ex26c : Ex := .mk 21 0 ByteArray.empty [.mk 2 1 ByteArray.empty [], .mk 3 0 ByteArray.empty [], .mk 0 5 ByteArray.empty []]
def ex26d : Ex := .mk 8 0 ByteArray.empty [.mk 3 1 ByteArray.empty [], .mk 0 1 ByteArray.empty []]
theorem com26a : qbm [] [0, 1] ex26a = (⟨[⟨3, 0, 0, 0, 0, 0, ByteArray.empty⟩, ⟨0, 1, 0, 0, 0, 6, ByteArray.empty⟩, ⟨8, 0, 0, 1, 0, 0, ByteArray.empty⟩], [0, 0], 0⟩, 0) := by kernel_rfl
theorem com26b : qbm [] [0, 1] ex26b = (⟨[⟨3, 0, 0, 0, 0, 0, ByteArray.empty⟩, ⟨0, 1, 0, 0, 0, 1, ByteArray.empty⟩, ⟨8, 0, 0, 1, 0, 0, ByteArray.empty⟩, ⟨10, 0, 0, 0, 0, 0, ByteArray.empty⟩], [0, 0], 0⟩, 0) := by kernel_rfl
theorem com26c : qbm [] [0, 1] ex26c = (⟨[⟨3, 0, 0, 0, 0, 0, ByteArray.empty⟩], [0], 0⟩, 0) := by kernel_rfl
theorem com26d : qbm [] [0, 1] ex26d = (⟨[], [], 0⟩, 13) := by kernel_rfl
theorem n64_small : n64 ex26a ∧ n64 ex26b ∧ n64 ex26c ∧ n64 ex26d := by
  have h0 : ByteArray.empty.size ≤ 9223372036854775807 := by decide
  refine ⟨?_, ?_, ?_, ?_⟩ <;> simp [ex26a, ex26b, ex26c, ex26d, ex26s, qcn, NS, I64, h0]
theorem small26_g : Gives Tryz.prog 7 [] (.bool true) := by
  obtain ⟨na, nb, nc, nd⟩ := n64_small
  have ca := Compile_g [] [0, 1] ex26a (by simp) (by simp) (by simp) (by decide) na (by simp)
  have cb := Compile_g [] [0, 1] ex26b (by simp) (by simp) (by simp) (by decide) nb (by simp)
  have cc := Compile_g [] [0, 1] ex26c (by simp) (by simp) (by simp) (by decide) nc (by simp)
  have cd := Compile_g [] [0, 1] ex26d (by simp) (by simp) (by simp) (by decide) nd (by simp)
  rw [com26a] at ca
  rw [com26b] at cb
  rw [com26c] at cc
  rw [com26d] at cd
  have o1 := ops26_g ⟨[⟨3, 0, 0, 0, 0, 0, ByteArray.empty⟩, ⟨0, 1, 0, 0, 0, 6, ByteArray.empty⟩, ⟨8, 0, 0, 1, 0, 0, ByteArray.empty⟩], [0, 0], 0⟩ [3, 0, 8] (by simp) (by simp)
  have o2 := ops26_g ⟨[⟨3, 0, 0, 0, 0, 0, ByteArray.empty⟩, ⟨0, 1, 0, 0, 0, 1, ByteArray.empty⟩, ⟨8, 0, 0, 1, 0, 0, ByteArray.empty⟩, ⟨10, 0, 0, 0, 0, 0, ByteArray.empty⟩], [0, 0], 0⟩ [3, 0, 8, 10] (by simp) (by simp)
  have o3 := ops26_g ⟨[⟨3, 0, 0, 0, 0, 0, ByteArray.empty⟩], [0], 0⟩ [3] (by simp) (by simp)
  simp only [ex26a, ex26b, ex26c, ex26d, ex26s, Ex.av_mk, List.map_cons, List.map_nil, Cod.av, Ins.av] at ca cb cc cd o1 o2 o3
  simp at o1 o2 o3
  have w1 := col26_g 0
  have w2 := col26_g 1
  have v1 := two26_g 10 (.mk 0 2 ByteArray.empty []) (.mk 0 3 ByteArray.empty [])
  have v2 := two26_g 8 (.mk 3 0 ByteArray.empty []) (.mk 10 0 ByteArray.empty [.mk 0 2 ByteArray.empty [], .mk 0 3 ByteArray.empty []])
  have v3 := two26_g 8 (.mk 3 0 ByteArray.empty []) (.mk 0 1 ByteArray.empty [])
  have v4 := two26_g 10 ex26s ex26s
  have v5 := two26_g 8 (.mk 3 1 ByteArray.empty []) (.mk 0 1 ByteArray.empty [])
  simp only [ex26s, Ex.av_mk, List.map_cons, List.map_nil] at w1 w2 v1 v2 v3 v4 v5
  refine qn Tryz.func7 Tryz.ntmps7 rfl rfl (by decide) rfl (by intro n; simp) fun σ n0 hcl hft => ?_
  repeat' (first | ((first | ((with_reducible refine qo (fun hg => ?_) (fun hg => ?_)) <;> (try simp only [hg]) <;> (try simp only [gS] at hg) <;> (try (first | simp only [eq_false hg, gI] | simp only [eq_true hg, gI]))) | (with_reducible first | refine qf ?_ | refine qe ?_ | refine qk ?_ | refine qj ?_) | refine acall (w1) ?_ | refine qp (w1) ?_ | refine acall (w2) ?_ | refine qp (w2) ?_ | refine acall (v1) ?_ | refine qp (v1) ?_ | refine acall (v2) ?_ | refine qp (v2) ?_ | refine acall (v3) ?_ | refine qp (v3) ?_ | refine acall (v4) ?_ | refine qp (v4) ?_ | refine acall (v5) ?_ | refine qp (v5) ?_ | refine acall (ca) ?_ | refine qp (ca) ?_ | refine acall (cb) ?_ | refine qp (cb) ?_ | refine acall (cc) ?_ | refine qp (cc) ?_ | refine acall (cd) ?_ | refine qp (cd) ?_ | refine acall (o1) ?_ | refine qp (o1) ?_ | refine acall (o2) ?_ | refine qp (o2) ?_ | refine acall (o3) ?_ | refine qp (o3) ?_ | refine qc ?_ | refine qh ?_ | refine qi ?_ | refine qm ?_) <;> (try simp (disch := first | omega | simp) [qg, -qq, -qr])) | ((with_reducible refine sideT ?_ ?_); first | omega | assumption | (simp; done)) | (refine qd fun K hK => ?_) | (refine qa ?_) | refine ql ?_ | ((first | refine hK _ ?_ | (clear hK K; refine hK _ ?_) | (clear hK K; clear hK K; refine hK _ ?_)); clear hK K) | refine qb ?_)
end Go.Proofs.YtnkimlkoijfcpaaGreatDoor

/- Walks of the laws of layer 26: running a program. -/
namespace Go.Proofs.YtnkimlkoijfcpaaGreatDoor
open Go.RowKit Go.Lib
end Go.Proofs.YtnkimlkoijfcpaaGreatDoor

/- Contracts of Steps, as abstract ones. -/
namespace Go.Proofs.YtnkimlkoijfcpaaGreatDoor
open Go.RowKit Go.Lib
end Go.Proofs.YtnkimlkoijfcpaaGreatDoor

/- Layer 27 on plain data: batches that fit; the columns of a program. -/
namespace Go.Proofs.YtnkimlkoijfcpaaGreatDoor
open Go.RowKit Go.Lib
end Go.Proofs.YtnkimlkoijfcpaaGreatDoor

/- Walks of the laws of layer 26: the bounds. -/
namespace Go.Proofs.YtnkimlkoijfcpaaGreatDoor
open Go.RowKit Go.Lib
def slimP (e : Ex) : Bool := decide (levels e ≤ 20) && decide (parts e ≤ 300)
def fnB (f : Fn) : Bool := slimP f.body && decide (f.params.length ≤ 20)
def light26 (F : List Fn) (cols : List Int) (e : Ex) : Bool := F.all fnB && (decide (F.length ≤ 25) && decide (cols.length ≤ 30) && slimP e)
theorem slim26_g (e : Ex) (hp : parts e ≤ 1000000) : Gives Tryz.prog 37 [e.av] (.bool (slimP e)) := by
  have h1 := qcx e
  have c1 := rlevels_g e (by omega)
  have c2 := rparts_g e hp
  obtain ⟨R, hR⟩ : ∃ R, R = slimP e := ⟨_, rfl⟩
  rw [← hR]
  unfold slimP at hR
  refine qn Tryz.func37 Tryz.ntmps37 rfl rfl (by decide) rfl (by intro n; simp) fun σ n0 hcl hft => ?_
  repeat' (first | ((first | ((with_reducible refine qo (fun hg => ?_) (fun hg => ?_)) <;> (try simp only [hg]) <;> (try simp only [gS] at hg) <;> (try (first | simp only [eq_false hg, gI] | simp only [eq_true hg, gI]))) | (with_reducible first | refine qf ?_ | refine qe ?_ | refine qk ?_ | refine qj ?_) | refine acall (c1) ?_ | refine qp (c1) ?_ | refine acall (c2) ?_ | refine qp (c2) ?_ | refine qc ?_ | refine qh ?_ | refine qi ?_ | refine qm ?_) <;> (try simp (disch := first | omega | simp) [qg, -qq, -qr])) | ((with_reducible refine sideT ?_ ?_); first | omega | assumption | (simp; done)) | (refine qd fun K hK => ?_) | (refine qa ?_) | refine ql ?_ | ((first | refine hK _ ?_ | (clear hK K; refine hK _ ?_) | (clear hK K; clear hK K; refine hK _ ?_)); clear hK K) | refine qb ?_)
  all_goals (rw [hR]; simp_all; try omega)
theorem light26_g (F : List Fn) (cols : List Int) (e : Ex) (hlF : F.length ≤ 2000000) (hF : ∀ f ∈ F, parts f.body ≤ 1000000) (hp : parts e ≤ 1000000) : Gives Tryz.prog 8 [.sl (F.map Fn.av), .sl (cols.map AV.int), e.av] (.bool (light26 F cols e)) := by
  have c2 := slim26_g e hp
  obtain ⟨R, hR⟩ : ∃ R, R = light26 F cols e := ⟨_, rfl⟩
  rw [← hR]
  unfold light26 at hR
  refine qn Tryz.func8 Tryz.ntmps8 rfl rfl (by decide) rfl (by intro n; simp) fun σ n0 hcl hft => ?_
  repeat' (first | ((first | ((with_reducible refine qo (fun hg => ?_) (fun hg => ?_)) <;> (try simp only [hg]) <;> (try simp only [gS] at hg) <;> (try (first | simp only [eq_false hg, gI] | simp only [eq_true hg, gI]))) | (with_reducible first | refine qf ?_ | refine qe ?_ | refine qk ?_ | refine qj ?_) | refine qc ?_ | refine qh ?_ | refine qi ?_ | refine qm ?_) <;> (try simp (disch := first | omega | simp) [qg, -qq, -qr])) | ((with_reducible refine sideT ?_ ?_); first | omega | assumption | (simp; done)) | (refine qd fun K hK => ?_) | (refine qa ?_) | refine ql ?_ | ((first | refine hK _ ?_ | (clear hK K; refine hK _ ?_) | (clear hK K; clear hK K; refine hK _ ?_)); clear hK K) | refine qb ?_)
  refine qs hcl (fun k : Nat => [(0, .sl (F.map Fn.av)), (1, .sl (cols.map AV.int)), (5, .ptr n0 0), (7, .int k)]) (fun _ => [.cells [.int e.op, .int e.n, .str e.s, .sl (e.args.map Ex.av)] 25])
    (fun k => k ≤ F.length ∧ ∀ j (h : j < F.length), j < k → fnB F[j] = true) (fun k => F.length - k) 0 (by simp) (by simp) fun k ⟨hk, he⟩ => ?_
  by_cases hlt : k < F.length
  · have c1 := slim26_g F[k].body (hF _ (List.getElem_mem hlt))
    cases hb : fnB F[k] with
    | true =>
      have hb2 := hb
      unfold fnB at hb2
      simp only [Bool.and_eq_true, decide_eq_true_eq] at hb2
      rw [hb2.1] at c1
      have hp20 : ¬ (20 : Int) < F[k].params.length := by omega
      repeat' (first | ((first | ((with_reducible refine qo (fun hg => ?_) (fun hg => ?_)) <;> (try simp only [hg]) <;> (try simp only [gS] at hg) <;> (try (first | simp only [eq_false hg, gI] | simp only [eq_true hg, gI]))) | (with_reducible first | refine qf ?_ | refine qe ?_ | refine qk ?_ | refine qj ?_) | refine acall (c1) ?_ | refine qp (c1) ?_ | refine qc ?_ | refine qh ?_ | refine qi ?_ | refine qm ?_) <;> (try simp (disch := first | omega | simp) [qg, -qq, -qr, hlt, hp20])) | ((with_reducible refine sideT ?_ ?_); first | omega | assumption | (simp; done)) | (refine qd fun K hK => ?_) | (refine qa ?_) | refine ql ?_ | ((first | refine hK _ ?_ | (clear hK K; refine hK _ ?_) | (clear hK K; clear hK K; refine hK _ ?_)); clear hK K) | refine qb ?_)
      all_goals first | (exfalso; omega) | exact ⟨k + 1, ⟨by omega, qeg (C := fun f : Fn => fnB f = true) he fun _ => hb⟩, by omega, by simp⟩
    | false =>
      have hR0 : R = false := by rw [hR, all_hit hlt hb, Bool.false_and]
      unfold fnB at hb
      cases hs : slimP F[k].body with
      | true =>
        rw [hs] at c1 hb
        have hp20 : (20 : Int) < F[k].params.length := by simp at hb; omega
        repeat' (first | ((first | ((with_reducible refine qo (fun hg => ?_) (fun hg => ?_)) <;> (try simp only [hg]) <;> (try simp only [gS] at hg) <;> (try (first | simp only [eq_false hg, gI] | simp only [eq_true hg, gI]))) | (with_reducible first | refine qf ?_ | refine qe ?_ | refine qk ?_ | refine qj ?_) | refine acall (c1) ?_ | refine qp (c1) ?_ | refine qc ?_ | refine qh ?_ | refine qi ?_ | refine qm ?_) <;> (try simp (disch := first | omega | simp) [qg, -qq, -qr, hlt, hp20])) | ((with_reducible refine sideT ?_ ?_); first | omega | assumption | (simp; done)) | (refine qd fun K hK => ?_) | (refine qa ?_) | refine ql ?_ | ((first | refine hK _ ?_ | (clear hK K; refine hK _ ?_) | (clear hK K; clear hK K; refine hK _ ?_)); clear hK K) | refine qb ?_)
        all_goals first | (exfalso; omega) | exact hR0.symm | (rw [hR0]; done)
      | false =>
        rw [hs] at c1
        repeat' (first | ((first | ((with_reducible refine qo (fun hg => ?_) (fun hg => ?_)) <;> (try simp only [hg]) <;> (try simp only [gS] at hg) <;> (try (first | simp only [eq_false hg, gI] | simp only [eq_true hg, gI]))) | (with_reducible first | refine qf ?_ | refine qe ?_ | refine qk ?_ | refine qj ?_) | refine acall (c1) ?_ | refine qp (c1) ?_ | refine qc ?_ | refine qh ?_ | refine qi ?_ | refine qm ?_) <;> (try simp (disch := first | omega | simp) [qg, -qq, -qr, hlt])) | ((with_reducible refine sideT ?_ ?_); first | omega | assumption | (simp; done)) | (refine qd fun K hK => ?_) | (refine qa ?_) | refine ql ?_ | ((first | refine hK _ ?_ | (clear hK K; refine hK _ ?_) | (clear hK K; clear hK K; refine hK _ ?_)); clear hK K) | refine qb ?_)
        all_goals first | exact hR0.symm | (rw [hR0]; done)
  · obtain rfl : k = F.length := by omega
    have hall : F.all fnB = true := all_end fun j h => he j h (by omega)
    rw [hall, Bool.true_and] at hR
    repeat' (first | ((first | ((with_reducible refine qo (fun hg => ?_) (fun hg => ?_)) <;> (try simp only [hg]) <;> (try simp only [gS] at hg) <;> (try (first | simp only [eq_false hg, gI] | simp only [eq_true hg, gI]))) | (with_reducible first | refine qf ?_ | refine qe ?_ | refine qk ?_ | refine qj ?_) | refine acall (c2) ?_ | refine qp (c2) ?_ | refine qc ?_ | refine qh ?_ | refine qi ?_ | refine qm ?_) <;> (try simp (disch := first | omega | simp) [qg, -qq, -qr, hlt])) | ((with_reducible refine sideT ?_ ?_); first | omega | assumption | (simp; done)) | (refine qd fun K hK => ?_) | (refine qa ?_) | refine ql ?_ | ((first | refine hK _ ?_ | (clear hK K; refine hK _ ?_) | (clear hK K; clear hK K; refine hK _ ?_)); clear hK K) | refine qb ?_)
    all_goals (rw [hR]; simp_all; try omega)
end Go.Proofs.YtnkimlkoijfcpaaGreatDoor

/- Walk of layer 25: the error of an instruction. -/
namespace Go.Proofs.YtnkimlkoijfcpaaGreatDoor
open Go.RowKit Go.Lib
end Go.Proofs.YtnkimlkoijfcpaaGreatDoor

/- Slice literals that grow. -/
namespace Go.Proofs.YtnkimlkoijfcpaaGreatDoor
open Go.RowKit Go.Lib
def aevZ (P : Program) (s : AS) (o : Op) (K : AV → AS → Prop) : Prop :=
  match o with
  | .buildSlice t n ⟨p :: ps⟩ => match vinfo P t with
    | some (e, sz, _) => n = (p :: ps).length ∧ n * sz ≤ 16777216 ∧ bldS sz 0 ((p :: ps).map fun p => (p.1, s.eval p.2)) ∧ AV.wid ((p :: ps).map fun p => (s.eval p.2).pub) sz ∧
        K (.gs (s.n0 + (s.L.length + 1)) ((p :: ps).map fun p => (s.eval p.2).pub)) ((s.ext (some .dead)).ext (some (.tail n e sz)))
    | none => False
  | o => aev P s o K
attribute [simp] aevZ
end Go.Proofs.YtnkimlkoijfcpaaGreatDoor

/- Walk of layer 25: the error of an instruction. -/
namespace Go.Proofs.YtnkimlkoijfcpaaGreatDoor
open Go.RowKit Go.Lib
end Go.Proofs.YtnkimlkoijfcpaaGreatDoor

/- Walk of layer 25: Verify. -/
namespace Go.Proofs.YtnkimlkoijfcpaaGreatDoor
open Go.RowKit Go.Lib
end Go.Proofs.YtnkimlkoijfcpaaGreatDoor

/- Layer 26: the value of a program that was compiled. -/
namespace Go.Proofs.YtnkimlkoijfcpaaGreatDoor
open Go.RowKit Go.Lib
end Go.Proofs.YtnkimlkoijfcpaaGreatDoor

/- Layer 26 on plain data: what Compile returns for an ExIf, without functions. -/
namespace Go.Proofs.YtnkimlkoijfcpaaGreatDoor
open Go.RowKit Go.Lib
end Go.Proofs.YtnkimlkoijfcpaaGreatDoor

/- Layer 26: programs of expressions without functions. -/
namespace Go.Proofs.YtnkimlkoijfcpaaGreatDoor
open Go.RowKit Go.Lib
end Go.Proofs.YtnkimlkoijfcpaaGreatDoor

/- The columns of a typed expression are few. -/
namespace Go.Proofs.YtnkimlkoijfcpaaGreatDoor
open Go.RowKit Go.Lib
end Go.Proofs.YtnkimlkoijfcpaaGreatDoor

/- Contracts of Timed, as abstract ones. -/
namespace Go.Proofs.YtnkimlkoijfcpaaGreatDoor
open Go.RowKit Go.Lib
end Go.Proofs.YtnkimlkoijfcpaaGreatDoor
