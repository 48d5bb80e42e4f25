/- Inline, of the program. -/
import Derived.Test.YtmhelkhmgbbfhaaGa12
import Derived.Test.YtmhelkhmgbbfhaaGa17
import Derived.Test.YtmhelkhmgbbfhaaGa25
namespace Go.Proofs.Ytmhelkhmgbbfhaa
open Go.RowKit Go.Lib

theorem incr_ac (e : Ex) (k : Int) (hk : 0 ≤ k ∧ k ≤ 1000000000000) (r : Nat) (σ : Nat → AB) (hσ : σ r = .cells [.int k] 3) : AC Try.prog 85 [e.av, .ptr r 0] σ fun y τ => y = .tup [] ∧ τ = upd σ r (.cells [.int (k + 1)] 3) := by
  refine acS_of_awp Try.func85 Try.ntmps85 rfl rfl (by decide) rfl (by intro n; simp) (by intro n; simp) ?_ fun n0 hrn hcl hft => ?_
  · rw [hσ]; simp
  have hl : ∀ L, loc σ n0 L r = .cells [.int k] 3 := fun L => by rw [loc_lt _ _ _ _ hrn, hσ]
  repeat (first | (refine awp_seq_k fun K hK => ?_) | (refine awp_regionC ?_; simp (disch := first | omega | simp) [wrap_i64, hl, hrn]) | (refine hK _ ?_; clear hK; clear K) | (clear hK; clear K; refine hK _ ?_; clear hK; clear K) | (clear hK; clear K; clear hK; clear K; refine hK _ ?_; clear hK; clear K) | refine awp_block ?_ | (refine awp_condC ?_; simp (disch := first | omega | simp) [wrap_i64, hl, hrn]) | (refine awp_exit ?_; simp (disch := first | omega | simp)) | (refine awp_skip ?_; simp (disch := first | omega | simp)) | (refine awp_ret ?_; simp (disch := first | omega | simp)))
theorem walk_parts (e : Ex) : ∀ (k : Int) (r : Nat) (σ : Nat → AB), 0 ≤ k → k + parts e ≤ 1000000000000 → σ r = .cells [.int k] 3 → AC Try.prog 52 [e.av, .fn 85 [.ptr r 0]] σ fun y τ => y = .tup [] ∧ τ = upd σ r (.cells [.int (k + parts e)] 3) := by
  induction e using Ex.ind with | h o n s l ih => ?_
  intro k r σ h0 hk hσ
  refine acS_of_awp Try.func52 Try.ntmps52 rfl rfl (by decide) rfl (by intro n; simp) (by intro n; simp) ?_ fun n0 hrn hcl hft => ?_
  · rw [hσ]; simp
  have hl : ∀ L, loc σ n0 L r = .cells [.int k] 3 := fun L => by rw [loc_lt _ _ _ _ hrn, hσ]
  have hp : parts (.mk o n s l) = partsL l + 1 := by rw [parts]
  have hll := partsL_len l
  rw [hp] at hk ⊢
  have hc := incr_ac (.mk o n s l) k ⟨h0, by omega⟩ r _ (hl [.cells [.int o, .int n, .str s, .sl (l.map Ex.av)] 25])
  rw [Ex.av_mk] at hc
  repeat (first | (refine awp_seq_k fun K hK => ?_) | (refine awp_regionC ?_; simp (disch := first | omega | simp) [wrap_i64]) | (refine hK _ ?_; clear hK; clear K) | (clear hK; clear K; refine hK _ ?_; clear hK; clear K) | (clear hK; clear K; clear hK; clear K; refine hK _ ?_; clear hK; clear K) | refine awp_block ?_ | (refine awp_condC ?_; simp (disch := first | omega | simp) [wrap_i64]) | (refine awp_exit ?_; simp (disch := first | omega | simp)) | (refine awp_skip ?_; simp (disch := first | omega | simp)) | (refine awp_ret ?_; simp (disch := first | omega | simp)))
  refine acallS r _ hc (by simp [hl]) ?_
  simp (disch := first | omega | simp) [wrap_i64]
  repeat (first | (refine awp_seq_k fun K hK => ?_) | (refine awp_regionC ?_; simp (disch := first | omega | simp) [wrap_i64]) | (refine hK _ ?_; clear hK; clear K) | (clear hK; clear K; refine hK _ ?_; clear hK; clear K) | (clear hK; clear K; clear hK; clear K; refine hK _ ?_; clear hK; clear K) | refine awp_block ?_ | (refine awp_condC ?_; simp (disch := first | omega | simp) [wrap_i64]) | (refine awp_exit ?_; simp (disch := first | omega | simp)) | (refine awp_skip ?_; simp (disch := first | omega | simp)) | (refine awp_ret ?_; simp (disch := first | omega | simp)))
  refine awp_loopS (fun j : Nat => upd σ r (.cells [.int (k + 1 + partsL (l.take j))] 3)) (fun j => [(1, .fn 85 [.ptr r 0]), (2, .ptr n0 0), (10, .sl (l.map Ex.av)), (11, .int l.length), (12, .int j)]) (fun _ => [.cells [.int o, .int n, .str s, .sl (l.map Ex.av)] 25]) (fun j => j ≤ l.length) (fun j => l.length - j) 0 (fun j _ => upd_cl hcl (by simp)) (by simp) ⟨fun q _ => by simp [partsL], by simp [hrn]; omega⟩ (upd_cl hcl (by simp)) fun j hj => ?_
  by_cases hlt : j < l.length
  · have htk := partsL_take l j hlt
    have htl := partsL_take_le l (j + 1)
    repeat (first | (refine awp_seq_k fun K hK => ?_) | (refine awp_regionC ?_; simp (disch := first | omega | simp) [wrap_i64, hlt]) | (refine hK _ ?_; clear hK; clear K) | (clear hK; clear K; refine hK _ ?_; clear hK; clear K) | (clear hK; clear K; clear hK; clear K; refine hK _ ?_; clear hK; clear K) | refine awp_block ?_ | (refine awp_condC ?_; simp (disch := first | omega | simp) [wrap_i64, hlt]) | (refine awp_exit ?_; simp (disch := first | omega | simp)) | (refine awp_skip ?_; simp (disch := first | omega | simp)) | (refine awp_ret ?_; simp (disch := first | omega | simp)))
    have hst : ∀ L, loc (upd σ r (.cells [.int (k + 1 + partsL (l.take j))] 3)) n0 L r = .cells [.int (k + 1 + partsL (l.take j))] 3 := fun L => by rw [loc_lt _ _ _ _ hrn]; simp [upd]
    refine acallS r _ (ih l[j] (List.getElem_mem hlt) _ r _ (by omega) (by omega) (hst _)) (by simp [hst]) ?_
    simp (disch := first | omega | simp) [wrap_i64, hrn]
    repeat (first | (refine awp_seq_k fun K hK => ?_) | (refine awp_regionC ?_; simp (disch := first | omega | simp) [wrap_i64]) | (refine hK _ ?_; clear hK; clear K) | (clear hK; clear K; refine hK _ ?_; clear hK; clear K) | (clear hK; clear K; clear hK; clear K; refine hK _ ?_; clear hK; clear K) | refine awp_block ?_ | (refine awp_condC ?_; simp (disch := first | omega | simp) [wrap_i64]) | (refine awp_exit ?_; simp (disch := first | omega | simp)) | (refine awp_skip ?_; simp (disch := first | omega | simp)) | (refine awp_ret ?_; simp (disch := first | omega | simp)))
    refine ⟨upd_cl hcl (by simp), j + 1, by omega, by omega, ⟨fun q _ => ?_, by simp; omega⟩⟩
    rw [htk, show k + 1 + (partsL (l.take j) : Int) + parts l[j] = k + 1 + ((partsL (l.take j) + parts l[j] : Nat) : Int) by omega]
  · have hjl : j = l.length := by omega
    subst hjl
    rw [List.take_length]
    repeat (first | (refine awp_seq_k fun K hK => ?_) | (refine awp_regionC ?_; simp (disch := first | omega | simp) [wrap_i64]) | (refine hK _ ?_; clear hK; clear K) | (clear hK; clear K; refine hK _ ?_; clear hK; clear K) | (clear hK; clear K; clear hK; clear K; refine hK _ ?_; clear hK; clear K) | refine awp_block ?_ | (refine awp_condC ?_; simp (disch := first | omega | simp) [wrap_i64]) | (refine awp_exit ?_; simp (disch := first | omega | simp)) | (refine awp_skip ?_; simp (disch := first | omega | simp)) | (refine awp_ret ?_; simp (disch := first | omega | simp)))
    rw [show k + 1 + (partsL l : Int) = k + ((partsL l : Int) + 1) by omega]
theorem bodies2 (bs : List (Option Ex)) : True := trivial
/-- an inlined body, if it is one -/
@[simp] def bodyA (o : Option Ex) : AV := .agg [.int (o.getD zeroE).op, .int (o.getD zeroE).n, .str (o.getD zeroE).s, .sl ((o.getD zeroE).args.map Ex.av), .bool o.isSome]
@[simp] theorem bodies_cls (l : List (Option Ex)) (m : Nat) : AV.cls m (l.map bodyA) := AV.cls_map (fun f => by simp [-Ex.av_fold]) l
@[simp] theorem bodies_wid (l : List (Option Ex)) : AV.wid (l.map bodyA) 5 := AV.wid_map (f := bodyA) (fun a => rfl) l
@[simp] theorem bodies_elms (l : List (Option Ex)) : AV.elms (l.map bodyA) := AV.elms_map (f := bodyA) (fun a => rfl) l
set_option maxHeartbeats 1000000 in
theorem inline_g (bs : List (Option Ex)) (hbs : ∀ b ∈ bs, parts (b.getD zeroE) ≤ 1000) (e : Ex) : parts e ≤ 900 → wfS bs.length e = true →
    Gives Try.prog 48 [e.av, .sl (bs.map bodyA)] (bodyA (inlE bs e)) := by
  induction e using Ex.ind with | h o n s l ih => ?_
  intro hpb hwf
  have hl : l.length ≤ 900 := by rw [parts] at hpb; have := partsL_len l; omega
  rw [wfS, wfSL_all] at hwf
  simp only [Bool.and_eq_true, List.all_eq_true, Bool.or_eq_true, Bool.not_eq_true', decide_eq_false_iff_not, decide_eq_true_eq] at hwf
  obtain ⟨⟨-, hw2⟩, hw3⟩ := hwf
  obtain ⟨R, hR⟩ : ∃ R, R = inlE bs (.mk o n s l) := ⟨_, rfl⟩
  rw [← hR]
  refine gives_of_awp Try.func48 Try.ntmps48 rfl rfl (by decide) rfl (by intro n; simp) fun σ n0 hcl hft => ?_
  repeat (first | (refine awp_seq_k fun K hK => ?_) | (refine awp_regionC ?_; simp (disch := first | omega | simp) [wrap_i64]) | (refine hK _ ?_; clear hK; clear K) | (clear hK; clear K; refine hK _ ?_; clear hK; clear K) | (clear hK; clear K; clear hK; clear K; refine hK _ ?_; clear hK; clear K) | refine awp_block ?_ | (refine awp_condC ?_; simp (disch := first | omega | simp) [wrap_i64]) | (refine awp_exit ?_; simp (disch := first | omega | simp)) | (refine awp_skip ?_; simp (disch := first | omega | simp)) | (refine awp_ret ?_; simp (disch := first | omega | simp)))
  refine awp_adoptC 2 3 25 4 (by rfl) (by rfl) ?_
  refine awp_loopC hcl (fun ys : List Ex => [(1, .sl (bs.map bodyA)), (2, .ptr n0 0), (4, .ptr (n0 + 1) 0), (5, .ptr (n0 + 2) 0), (19, .sl (l.map Ex.av)), (20, .int l.length), (21, .int ys.length)]) (fun ys => [.cells [.int o, .int n, .str s, .sl (l.map Ex.av)] 25, .cells [.int 0, .int 0, .str ByteArray.empty, .v (.slice none 0 0), .bool false] 73, .cells [.int o, .int n, .str s, .gs (n0 + 3) (ys.map Ex.av)] 25, .tail ys.length 25 4])
    (fun ys => ∃ k, k ≤ l.length ∧ ys.length = k ∧ inlL bs (l.take k) = some ys) (fun ys => l.length - ys.length) [] (by exact ⟨0, by omega, rfl, by rw [List.take_zero, inlL]⟩) (by simp) fun ys hys => ?_
  obtain ⟨k, hk, rfl, hys⟩ := hys
  by_cases hlt : ys.length < l.length
  · have hpk : parts l[ys.length] ≤ 900 := by rw [parts] at hpb; have := partsL_mem l l[ys.length] (List.getElem_mem hlt); omega
    have hc := ih _ (List.getElem_mem hlt) hpk (hw3 _ (List.getElem_mem hlt))
    repeat (first | (refine awp_seq_k fun K hK => ?_) | (refine awp_regionC ?_; simp (disch := first | omega | simp) [wrap_i64, hlt]) | (refine hK _ ?_; clear hK; clear K) | (clear hK; clear K; refine hK _ ?_; clear hK; clear K) | (clear hK; clear K; clear hK; clear K; refine hK _ ?_; clear hK; clear K) | refine awp_block ?_ | (refine awp_condC ?_; simp (disch := first | omega | simp) [wrap_i64, hlt]) | (refine awp_exit ?_; simp (disch := first | omega | simp)) | (refine awp_skip ?_; simp (disch := first | omega | simp)) | (refine awp_ret ?_; simp (disch := first | omega | simp)))
    refine acall hc ?_
    clear hc
    cases hx : inlE bs l[ys.length] with
    | none =>
      obtain rfl : R = none := by rw [hR, inlE, inlL_none l (List.getElem_mem hlt) hx]
      simp (disch := first | omega | simp) [wrap_i64]
      repeat (first | (refine awp_seq_k fun K hK => ?_) | (refine awp_regionC ?_; simp (disch := first | omega | simp) [wrap_i64]) | (refine hK _ ?_; clear hK; clear K) | (clear hK; clear K; refine hK _ ?_; clear hK; clear K) | (clear hK; clear K; clear hK; clear K; refine hK _ ?_; clear hK; clear K) | refine awp_block ?_ | (refine awp_condC ?_; simp (disch := first | omega | simp) [wrap_i64]) | (refine awp_exit ?_; simp (disch := first | omega | simp)) | (refine awp_skip ?_; simp (disch := first | omega | simp)) | (refine awp_ret ?_; simp (disch := first | omega | simp)))
    | some y =>
      simp (disch := first | omega | simp) [wrap_i64]
      repeat (first | (refine awp_seq_k fun K hK => ?_) | (refine awp_regionC ?_; simp (disch := first | omega | simp) [wrap_i64]) | (refine hK _ ?_; clear hK; clear K) | (clear hK; clear K; refine hK _ ?_; clear hK; clear K) | (clear hK; clear K; clear hK; clear K; refine hK _ ?_; clear hK; clear K) | refine awp_block ?_ | (refine awp_condC ?_; simp (disch := first | omega | simp) [wrap_i64]) | (refine awp_exit ?_; simp (disch := first | omega | simp)) | (refine awp_skip ?_; simp (disch := first | omega | simp)) | (refine awp_ret ?_; simp (disch := first | omega | simp)))
      refine ⟨by omega, ?_⟩
      repeat (first | (refine awp_seq_k fun K hK => ?_) | (refine awp_regionC ?_; simp (disch := first | omega | simp) [wrap_i64]) | (refine hK _ ?_; clear hK; clear K) | (clear hK; clear K; refine hK _ ?_; clear hK; clear K) | (clear hK; clear K; clear hK; clear K; refine hK _ ?_; clear hK; clear K) | refine awp_block ?_ | (refine awp_condC ?_; simp (disch := first | omega | simp) [wrap_i64]) | (refine awp_exit ?_; simp (disch := first | omega | simp)) | (refine awp_skip ?_; simp (disch := first | omega | simp)) | (refine awp_ret ?_; simp (disch := first | omega | simp)))
      refine ⟨ys ++ [y], ⟨_, ?_, rfl, ?_⟩, by simp; omega, by simp⟩
      · simp; omega
      rw [List.length_append, List.length_singleton, List.take_succ_eq_append_getElem hlt]
      exact inlL_snoc hx _ hys
  · have hyl : ys.length = l.length := by omega
    rw [hyl, List.take_length] at hys
    have hyp : ∀ y ∈ ys, parts y ≤ 1000 := fun y hy => by
      obtain ⟨e, -, he⟩ := inlL_mem l hys y hy
      exact inlE_parts he
    -- counting the parts of what has come out
    have tail : ∀ (Z : Ex) (NP : Nat), parts Z = NP → NP ≤ 1000000 → R = fitX Z → (1000 < NP → R = none) ∧ (¬ 1000 < NP → R = some Z) := fun Z NP h1 _ h2 => by
      rw [h2, fitX, h1]
      exact ⟨fun h => if_pos h, fun h => if_neg h⟩
    by_cases ho : o = 22
    · subst ho
      obtain ⟨h0, h1⟩ := hw2.resolve_left (by simp)
      have hn : n.toNat < bs.length := by omega
      cases hb : bs[n.toNat] with
      | none =>
        obtain rfl : R = none := by rw [hR, inlE, hys]; dsimp only; rw [if_pos ⟨rfl, h0, h1⟩, List.getD_eq_getElem?_getD, List.getElem?_eq_getElem hn, hb]; rfl
        repeat (first | (refine awp_seq_k fun K hK => ?_) | (refine awp_regionC ?_; simp (disch := first | omega | simp) [wrap_i64, hyl, h0, h1, hb]) | (refine hK _ ?_; clear hK; clear K) | (clear hK; clear K; refine hK _ ?_; clear hK; clear K) | (clear hK; clear K; clear hK; clear K; refine hK _ ?_; clear hK; clear K) | refine awp_block ?_ | (refine awp_condC ?_; simp (disch := first | omega | simp) [wrap_i64, hyl, h0, h1, hb]) | (refine awp_exit ?_; simp (disch := first | omega | simp)) | (refine awp_skip ?_; simp (disch := first | omega | simp)) | (refine awp_ret ?_; simp (disch := first | omega | simp)))
      | some b =>
        have hRb : R = fitX ((putP 4 ys b).getD zeroE) := by rw [hR, inlE, hys]; dsimp only; rw [if_pos ⟨rfl, h0, h1⟩, List.getD_eq_getElem?_getD, List.getElem?_eq_getElem hn, hb]; rfl
        have hpb2 : parts b ≤ 1000 := hbs (some b) (by rw [← hb]; exact List.getElem_mem hn)
        have hpp : parts ((putP 4 ys b).getD zeroE) ≤ 1000000 := by
          cases hput : putP 4 ys b with
          | none => decide
          | some x => have h2 := putP_parts (K := 1000) (by omega) hyp b hput; have : parts b * 1000 ≤ 1000 * 1000 := Nat.mul_le_mul_right _ hpb2; show parts x ≤ _; omega
        have hcall := put_g 4 ys (fun x hx => by have := hyp x hx; omega) b (by omega)
        repeat (first | (refine awp_seq_k fun K hK => ?_) | (refine awp_regionC ?_; simp (disch := first | omega | simp) [wrap_i64, hyl, h0, h1, hb]) | (refine hK _ ?_; clear hK; clear K) | (clear hK; clear K; refine hK _ ?_; clear hK; clear K) | (clear hK; clear K; clear hK; clear K; refine hK _ ?_; clear hK; clear K) | refine awp_block ?_ | (refine awp_condC ?_; simp (disch := first | omega | simp) [wrap_i64, hyl, h0, h1, hb]) | (refine awp_exit ?_; simp (disch := first | omega | simp)) | (refine awp_skip ?_; simp (disch := first | omega | simp)) | (refine awp_ret ?_; simp (disch := first | omega | simp)))
        refine acall hcall ?_
        simp (disch := first | omega | simp) [wrap_i64]
        generalize (putP 4 ys b).getD zeroE = Z at *
        obtain ⟨t1, t2⟩ := tail Z _ rfl hpp hRb
        repeat (first | (refine awp_seq_k fun K hK => ?_) | (refine awp_regionC ?_; simp (disch := first | omega | simp) [wrap_i64]) | (refine hK _ ?_; clear hK; clear K) | (clear hK; clear K; refine hK _ ?_; clear hK; clear K) | (clear hK; clear K; clear hK; clear K; refine hK _ ?_; clear hK; clear K) | refine awp_block ?_ | (refine awp_condC ?_; simp (disch := first | omega | simp) [wrap_i64]) | (refine awp_exit ?_; simp (disch := first | omega | simp)) | (refine awp_skip ?_; simp (disch := first | omega | simp)) | (refine awp_ret ?_; simp (disch := first | omega | simp)))
        refine acallS (n0 + 5) _ (walk_parts Z 0 (n0 + 5) _ (by omega) (by omega) (by simp)) (by simp) ?_
        generalize parts Z = NP at *
        by_cases hbig : 1000 < NP
        · obtain rfl := t1 hbig
          have hbig' : (1000 : Int) < NP := by omega
          simp (disch := first | omega | simp) [wrap_i64]
          repeat (first | (refine awp_seq_k fun K hK => ?_) | (refine awp_regionC ?_; simp (disch := first | omega | simp) [wrap_i64, hbig']) | (refine hK _ ?_; clear hK; clear K) | (clear hK; clear K; refine hK _ ?_; clear hK; clear K) | (clear hK; clear K; clear hK; clear K; refine hK _ ?_; clear hK; clear K) | refine awp_block ?_ | (refine awp_condC ?_; simp (disch := first | omega | simp) [wrap_i64, hbig']) | (refine awp_exit ?_; simp (disch := first | omega | simp)) | (refine awp_skip ?_; simp (disch := first | omega | simp)) | (refine awp_ret ?_; simp (disch := first | omega | simp)))
          exact ⟨rfl, rfl, rfl, rfl⟩
        · obtain rfl := t2 hbig
          have hbig' : ¬ (1000 : Int) < NP := by omega
          simp (disch := first | omega | simp) [wrap_i64]
          repeat (first | (refine awp_seq_k fun K hK => ?_) | (refine awp_regionC ?_; simp (disch := first | omega | simp) [wrap_i64, hbig']) | (refine hK _ ?_; clear hK; clear K) | (clear hK; clear K; refine hK _ ?_; clear hK; clear K) | (clear hK; clear K; clear hK; clear K; refine hK _ ?_; clear hK; clear K) | refine awp_block ?_ | (refine awp_condC ?_; simp (disch := first | omega | simp) [wrap_i64, hbig']) | (refine awp_exit ?_; simp (disch := first | omega | simp)) | (refine awp_skip ?_; simp (disch := first | omega | simp)) | (refine awp_ret ?_; simp (disch := first | omega | simp)))
    · have hRb : R = fitX (.mk o n s ys) := by rw [hR, inlE, hys]; dsimp only; rw [if_neg (fun h => ho h.1)]
      have hpp : parts (.mk o n s ys) ≤ 1000000 := by
        have h2 := partsL_bound (K := 1000) ys hyp
        have : ys.length * 1000 ≤ 900 * 1000 := Nat.mul_le_mul_right _ (by omega)
        rw [parts]; omega
      generalize hZ : Ex.mk o n s ys = Z at *
      have hZf : AV.agg [.int o, .int n, .str s, .sl (ys.map Ex.av)] = Z.av := by rw [← hZ, Ex.av_mk]
      have hZo : Z.op = o ∧ Z.n = n ∧ Z.s = s ∧ Z.args = ys := by rw [← hZ]; exact ⟨rfl, rfl, rfl, rfl⟩
      obtain ⟨t1, t2⟩ := tail Z _ rfl hpp hRb
      have h22 : (o == 22) = false := by simp [ho]
      repeat (first | (refine awp_seq_k fun K hK => ?_) | (refine awp_regionC ?_; simp (disch := first | omega | simp) [wrap_i64, hyl, h22]) | (refine hK _ ?_; clear hK; clear K) | (clear hK; clear K; refine hK _ ?_; clear hK; clear K) | (clear hK; clear K; clear hK; clear K; refine hK _ ?_; clear hK; clear K) | refine awp_block ?_ | (refine awp_condC ?_; simp (disch := first | omega | simp) [wrap_i64, hyl, h22]) | (refine awp_exit ?_; simp (disch := first | omega | simp)) | (refine awp_skip ?_; simp (disch := first | omega | simp)) | (refine awp_ret ?_; simp (disch := first | omega | simp)))
      refine acallS (n0 + 4) _ (by rw [hZf]; exact walk_parts Z 0 (n0 + 4) _ (by omega) (by omega) (by simp)) (by simp) ?_
      generalize parts Z = NP at *
      by_cases hbig : 1000 < NP
      · obtain rfl := t1 hbig
        have hbig' : (1000 : Int) < NP := by omega
        simp (disch := first | omega | simp) [wrap_i64]
        repeat (first | (refine awp_seq_k fun K hK => ?_) | (refine awp_regionC ?_; simp (disch := first | omega | simp) [wrap_i64, hbig']) | (refine hK _ ?_; clear hK; clear K) | (clear hK; clear K; refine hK _ ?_; clear hK; clear K) | (clear hK; clear K; clear hK; clear K; refine hK _ ?_; clear hK; clear K) | refine awp_block ?_ | (refine awp_condC ?_; simp (disch := first | omega | simp) [wrap_i64, hbig']) | (refine awp_exit ?_; simp (disch := first | omega | simp)) | (refine awp_skip ?_; simp (disch := first | omega | simp)) | (refine awp_ret ?_; simp (disch := first | omega | simp)))
        exact ⟨rfl, rfl, rfl, rfl⟩
      · obtain rfl := t2 hbig
        have hbig' : ¬ (1000 : Int) < NP := by omega
        simp (disch := first | omega | simp) [wrap_i64]
        repeat (first | (refine awp_seq_k fun K hK => ?_) | (refine awp_regionC ?_; simp (disch := first | omega | simp) [wrap_i64, hbig', hZo]) | (refine hK _ ?_; clear hK; clear K) | (clear hK; clear K; refine hK _ ?_; clear hK; clear K) | (clear hK; clear K; clear hK; clear K; refine hK _ ?_; clear hK; clear K) | refine awp_block ?_ | (refine awp_condC ?_; simp (disch := first | omega | simp) [wrap_i64, hbig', hZo]) | (refine awp_exit ?_; simp (disch := first | omega | simp)) | (refine awp_skip ?_; simp (disch := first | omega | simp)) | (refine awp_ret ?_; simp (disch := first | omega | simp)))
        exact ⟨hZo.1.symm, hZo.2.1.symm, hZo.2.2.1.symm, by rw [hZo.2.2.2]⟩

set_option maxHeartbeats 1000000 in
theorem Inline_g (F : List Fn) (hF : ∀ f ∈ F, parts f.body ≤ 900) (hlF : F.length ≤ 1000) (hwF : ∀ i (h : i < F.length), wfS i F[i].body = true) (e : Ex) (he : parts e ≤ 900) (hwf : wfS F.length e = true) :
    Gives Try.prog 21 [.sl (F.map Fn.av), e.av] (exr (inlineP F e)) := by
  obtain ⟨R, hR⟩ : ∃ R, R = inlineP F e := ⟨_, rfl⟩
  rw [← hR]
  refine gives_of_awp Try.func21 Try.ntmps21 rfl rfl (by decide) rfl (by intro n; simp) fun σ n0 hcl hft => ?_
  repeat (first | (refine awp_seq_k fun K hK => ?_) | (refine awp_regionC ?_; simp (disch := first | omega | simp) [wrap_i64]) | (refine hK _ ?_; clear hK; clear K) | (clear hK; clear K; refine hK _ ?_; clear hK; clear K) | (clear hK; clear K; clear hK; clear K; refine hK _ ?_; clear hK; clear K) | refine awp_block ?_ | (refine awp_condC ?_; simp (disch := first | omega | simp) [wrap_i64]) | (refine awp_exit ?_; simp (disch := first | omega | simp)) | (refine awp_skip ?_; simp (disch := first | omega | simp)) | (refine awp_ret ?_; simp (disch := first | omega | simp)))
  refine awp_adoptR 6 73 5 (by simp) ?_
  simp only [List.length_append, List.length_cons, List.length_nil, Nat.zero_add, Nat.reduceAdd, List.cons_append, List.nil_append]
  refine awp_loopC hcl (fun k : Nat => [(3, .ptr n0 0), (4, .ptr (n0 + 1) 0), (6, .gs (n0 + 2) ((inlB [] (F.take k)).map bodyA)), (10, .sl (F.map Fn.av)), (11, .int F.length), (12, .int k)]) (fun k => [.cells [.int e.op, .int e.n, .str e.s, .sl (e.args.map Ex.av)] 25, .cells [.int 0, .int 0, .str ByteArray.empty, .v (.slice none 0 0)] 25, .tail k 73 5])
    (fun k => k ≤ F.length) (fun k => F.length - k) 0 (by simp) (by simp [inlB]) fun k hk => ?_
  have hlen : (inlB [] (F.take k)).length = k := by rw [inlB_len]; simp; omega
  have hbs := inlB_parts (F.take k)
  have hsn : ∀ (h : k < F.length), inlB [] (F.take (k + 1)) = inlB [] (F.take k) ++ [inlE (inlB [] (F.take k)) F[k].body] := fun h => by rw [List.take_succ_eq_append_getElem h, inlB_snoc]
  have hfin : k = F.length → inlineP F e = match inlE (inlB [] (F.take k)) e with
      | some x => if 12 < levels x then none else some x
      | none => none := fun h => by rw [h, List.take_length]; rfl
  generalize inlB [] (F.take k) = bs at *
  have hcall := fun e he hw => inline_g bs hbs e he hw
  by_cases hlt : k < F.length
  · repeat (first | (refine awp_seq_k fun K hK => ?_) | (refine awp_regionC ?_; simp (disch := first | omega | simp) [wrap_i64, hlt]) | (refine hK _ ?_; clear hK; clear K) | (clear hK; clear K; refine hK _ ?_; clear hK; clear K) | (clear hK; clear K; clear hK; clear K; refine hK _ ?_; clear hK; clear K) | refine awp_block ?_ | (refine awp_condC ?_; simp (disch := first | omega | simp) [wrap_i64, hlt]) | (refine awp_exit ?_; simp (disch := first | omega | simp)) | (refine awp_skip ?_; simp (disch := first | omega | simp)) | (refine awp_ret ?_; simp (disch := first | omega | simp)))
    refine acall (hcall F[k].body (hF _ (List.getElem_mem hlt)) (by rw [hlen]; exact hwF k hlt)) ?_
    simp (disch := first | omega | simp) [wrap_i64, hlen]
    refine ⟨by omega, ?_⟩
    repeat (first | (refine awp_seq_k fun K hK => ?_) | (refine awp_regionC ?_; simp (disch := first | omega | simp) [wrap_i64]) | (refine hK _ ?_; clear hK; clear K) | (clear hK; clear K; refine hK _ ?_; clear hK; clear K) | (clear hK; clear K; clear hK; clear K; refine hK _ ?_; clear hK; clear K) | refine awp_block ?_ | (refine awp_condC ?_; simp (disch := first | omega | simp) [wrap_i64]) | (refine awp_exit ?_; simp (disch := first | omega | simp)) | (refine awp_skip ?_; simp (disch := first | omega | simp)) | (refine awp_ret ?_; simp (disch := first | omega | simp)))
    refine ⟨k + 1, by omega, by omega, ?_⟩
    rw [hsn hlt]
    simp
  · have hkl : k = F.length := by omega
    have hRR := hR.trans (hfin hkl)
    have hc := hcall e he (by rw [hlen, hkl]; exact hwf)
    have hlv : levels ((inlE bs e).getD zeroE) ≤ 1000000 := by
      cases hx : inlE bs e with
      | none => show levels zeroE ≤ _; decide
      | some y => have := inlE_parts hx; have := levels_le y; show levels y ≤ _; omega
    have hlvg := levels_g _ hlv
    subst hkl
    repeat (first | (refine awp_seq_k fun K hK => ?_) | (refine awp_regionC ?_; simp (disch := first | omega | simp) [wrap_i64]) | (refine hK _ ?_; clear hK; clear K) | (clear hK; clear K; refine hK _ ?_; clear hK; clear K) | (clear hK; clear K; clear hK; clear K; refine hK _ ?_; clear hK; clear K) | refine awp_block ?_ | (refine awp_condC ?_; simp (disch := first | omega | simp) [wrap_i64]) | (refine awp_exit ?_; simp (disch := first | omega | simp)) | (refine awp_skip ?_; simp (disch := first | omega | simp)) | (refine awp_ret ?_; simp (disch := first | omega | simp)))
    refine acall hc ?_
    simp (disch := first | omega | simp) [wrap_i64]
    cases hx : inlE bs e with
    | none =>
      obtain rfl : R = none := by rw [hRR, hx]
      repeat (first | (refine awp_seq_k fun K hK => ?_) | (refine awp_regionC ?_; simp (disch := first | omega | simp) [wrap_i64]) | (refine hK _ ?_; clear hK; clear K) | (clear hK; clear K; refine hK _ ?_; clear hK; clear K) | (clear hK; clear K; clear hK; clear K; refine hK _ ?_; clear hK; clear K) | refine awp_block ?_ | (refine awp_condC ?_; simp (disch := first | omega | simp) [wrap_i64]) | (refine awp_exit ?_; simp (disch := first | omega | simp)) | (refine awp_skip ?_; simp (disch := first | omega | simp)) | (refine awp_ret ?_; simp (disch := first | omega | simp)))
    | some y =>
      rw [hx] at hRR hlvg
      repeat (first | (refine awp_seq_k fun K hK => ?_) | (refine awp_regionC ?_; simp (disch := first | omega | simp) [wrap_i64]) | (refine hK _ ?_; clear hK; clear K) | (clear hK; clear K; refine hK _ ?_; clear hK; clear K) | (clear hK; clear K; clear hK; clear K; refine hK _ ?_; clear hK; clear K) | refine awp_block ?_ | (refine awp_condC ?_; simp (disch := first | omega | simp) [wrap_i64]) | (refine awp_exit ?_; simp (disch := first | omega | simp)) | (refine awp_skip ?_; simp (disch := first | omega | simp)) | (refine awp_ret ?_; simp (disch := first | omega | simp)))
      refine acall hlvg ?_
      by_cases h12 : 12 < levels y
      · obtain rfl : R = none := by rw [hRR]; dsimp only; rw [if_pos h12]
        simp (disch := first | omega | simp) [wrap_i64, h12]
        repeat (first | (refine awp_seq_k fun K hK => ?_) | (refine awp_regionC ?_; simp (disch := first | omega | simp) [wrap_i64]) | (refine hK _ ?_; clear hK; clear K) | (clear hK; clear K; refine hK _ ?_; clear hK; clear K) | (clear hK; clear K; clear hK; clear K; refine hK _ ?_; clear hK; clear K) | refine awp_block ?_ | (refine awp_condC ?_; simp (disch := first | omega | simp) [wrap_i64]) | (refine awp_exit ?_; simp (disch := first | omega | simp)) | (refine awp_skip ?_; simp (disch := first | omega | simp)) | (refine awp_ret ?_; simp (disch := first | omega | simp)))
      · obtain rfl : R = some y := by rw [hRR]; dsimp only; rw [if_neg h12]
        simp (disch := first | omega | simp) [wrap_i64, h12]
        repeat (first | (refine awp_seq_k fun K hK => ?_) | (refine awp_regionC ?_; simp (disch := first | omega | simp) [wrap_i64]) | (refine hK _ ?_; clear hK; clear K) | (clear hK; clear K; refine hK _ ?_; clear hK; clear K) | (clear hK; clear K; clear hK; clear K; refine hK _ ?_; clear hK; clear K) | refine awp_block ?_ | (refine awp_condC ?_; simp (disch := first | omega | simp) [wrap_i64]) | (refine awp_exit ?_; simp (disch := first | omega | simp)) | (refine awp_skip ?_; simp (disch := first | omega | simp)) | (refine awp_ret ?_; simp (disch := first | omega | simp)))
end Go.Proofs.Ytmhelkhmgbbfhaa

/- The law ExprTells: it returns true. -/
namespace Go.Proofs.Ytmhelkhmgbbfhaa
open Go.RowKit Go.Lib

theorem val_q : qinfo Try.prog 34 = some [(0, 0), (1, 0), (2, 2)] := by kernel_rfl
theorem val_eq (v : Val) : aeq Try.prog .eql 34 v.av v.av = some true := by
  simp only [aeq, aeqS, val_q, Val.av, feq, feq1]
  simp
@[simp] theorem Val.av_val? (v : Val) : v.av.val? = none := rfl

set_option maxHeartbeats 2000000 in
theorem tells_g (F : List Fn) (e : Ex) (time : Int) (R : List Val) (L : List Ex) :
    Gives Try.prog 5 [.sl (F.map Fn.av), e.av, .int time, .sl (R.map Val.av), .sl (L.map Ex.av)] (.bool true) := by
  have hcg := good_g F e R
  by_cases hg : goodP F e R = false
  · rw [hg] at hcg
    clear hg
    refine gives_of_awp Try.func5 Try.ntmps5 rfl rfl (by decide) rfl (by intro n; simp) fun σ n0 hcl hft => ?_
    repeat (rw [aseqC]; try simp (disch := first | omega | simp) [wrap_i64, -aseqC])
    repeat (first | (refine awp_seq_k fun K hK => ?_) | (refine awp_regionC ?_; repeat (rw [aseqC]; try simp (disch := first | omega | simp) [wrap_i64, -aseqC])) | (refine hK _ ?_; clear hK; clear K) | (clear hK; clear K; refine hK _ ?_; clear hK; clear K) | (clear hK; clear K; clear hK; clear K; refine hK _ ?_; clear hK; clear K) | refine awp_block ?_ | (refine awp_condC ?_; simp (disch := first | omega | simp) [wrap_i64]) | (refine awp_exit ?_; simp (disch := first | omega | simp)) | (refine awp_skip ?_; simp (disch := first | omega | simp)) | (refine awp_ret ?_; simp (disch := first | omega | simp)))
    refine acall (small_g) ?_
    try simp (disch := first | omega | simp) [wrap_i64, -aseqC]
    repeat (rw [aseqC]; try simp (disch := first | omega | simp) [wrap_i64, -aseqC])
    repeat (first | (refine awp_seq_k fun K hK => ?_) | (refine awp_regionC ?_; repeat (rw [aseqC]; try simp (disch := first | omega | simp) [wrap_i64, -aseqC])) | (refine hK _ ?_; clear hK; clear K) | (clear hK; clear K; refine hK _ ?_; clear hK; clear K) | (clear hK; clear K; clear hK; clear K; refine hK _ ?_; clear hK; clear K) | refine awp_block ?_ | (refine awp_condC ?_; simp (disch := first | omega | simp) [wrap_i64]) | (refine awp_exit ?_; simp (disch := first | omega | simp)) | (refine awp_skip ?_; simp (disch := first | omega | simp)) | (refine awp_ret ?_; simp (disch := first | omega | simp)))
    refine acall (hcg) ?_
    try simp (disch := first | omega | simp) [wrap_i64, -aseqC]
    repeat (rw [aseqC]; try simp (disch := first | omega | simp) [wrap_i64, -aseqC])
    repeat (first | (refine awp_seq_k fun K hK => ?_) | (refine awp_regionC ?_; repeat (rw [aseqC]; try simp (disch := first | omega | simp) [wrap_i64, -aseqC])) | (refine hK _ ?_; clear hK; clear K) | (clear hK; clear K; refine hK _ ?_; clear hK; clear K) | (clear hK; clear K; clear hK; clear K; refine hK _ ?_; clear hK; clear K) | refine awp_block ?_ | (refine awp_condC ?_; simp (disch := first | omega | simp) [wrap_i64]) | (refine awp_exit ?_; simp (disch := first | omega | simp)) | (refine awp_skip ?_; simp (disch := first | omega | simp)) | (refine awp_ret ?_; simp (disch := first | omega | simp)))
  rw [Bool.not_eq_false] at hg
  rw [hg] at hcg
  by_cases hl : 12 < L.length
  · have hl' : (12 : Int) < L.length := by omega
    clear hg
    refine gives_of_awp Try.func5 Try.ntmps5 rfl rfl (by decide) rfl (by intro n; simp) fun σ n0 hcl hft => ?_
    repeat (rw [aseqC]; try simp (disch := first | omega | simp) [wrap_i64, -aseqC])
    repeat (first | (refine awp_seq_k fun K hK => ?_) | (refine awp_regionC ?_; repeat (rw [aseqC]; try simp (disch := first | omega | simp) [wrap_i64, -aseqC])) | (refine hK _ ?_; clear hK; clear K) | (clear hK; clear K; refine hK _ ?_; clear hK; clear K) | (clear hK; clear K; clear hK; clear K; refine hK _ ?_; clear hK; clear K) | refine awp_block ?_ | (refine awp_condC ?_; simp (disch := first | omega | simp) [wrap_i64]) | (refine awp_exit ?_; simp (disch := first | omega | simp)) | (refine awp_skip ?_; simp (disch := first | omega | simp)) | (refine awp_ret ?_; simp (disch := first | omega | simp)))
    refine acall (small_g) ?_
    try simp (disch := first | omega | simp) [wrap_i64, -aseqC]
    repeat (rw [aseqC]; try simp (disch := first | omega | simp) [wrap_i64, -aseqC])
    repeat (first | (refine awp_seq_k fun K hK => ?_) | (refine awp_regionC ?_; repeat (rw [aseqC]; try simp (disch := first | omega | simp) [wrap_i64, -aseqC])) | (refine hK _ ?_; clear hK; clear K) | (clear hK; clear K; refine hK _ ?_; clear hK; clear K) | (clear hK; clear K; clear hK; clear K; refine hK _ ?_; clear hK; clear K) | refine awp_block ?_ | (refine awp_condC ?_; simp (disch := first | omega | simp) [wrap_i64]) | (refine awp_exit ?_; simp (disch := first | omega | simp)) | (refine awp_skip ?_; simp (disch := first | omega | simp)) | (refine awp_ret ?_; simp (disch := first | omega | simp)))
    refine acall (hcg) ?_
    try simp (disch := first | omega | simp) [wrap_i64, -aseqC, hl']
    repeat (rw [aseqC]; try simp (disch := first | omega | simp) [wrap_i64, -aseqC, hl'])
    repeat (first | (refine awp_seq_k fun K hK => ?_) | (refine awp_regionC ?_; repeat (rw [aseqC]; try simp (disch := first | omega | simp) [wrap_i64, -aseqC, hl'])) | (refine hK _ ?_; clear hK; clear K) | (clear hK; clear K; refine hK _ ?_; clear hK; clear K) | (clear hK; clear K; clear hK; clear K; refine hK _ ?_; clear hK; clear K) | refine awp_block ?_ | (refine awp_condC ?_; simp (disch := first | omega | simp) [wrap_i64, hl']) | (refine awp_exit ?_; simp (disch := first | omega | simp)) | (refine awp_skip ?_; simp (disch := first | omega | simp)) | (refine awp_ret ?_; simp (disch := first | omega | simp)))
  have hl' : ¬ (12 : Int) < L.length := by omega
  obtain ⟨t, hT, hRF, hty, hOk, hFp, hpb, hlR, hsR, hlev⟩ := good_all hg
  have hst10 : stepsP F e ≤ 10000 := by
    unfold goodP at hg
    simp only [Bool.and_eq_true, decide_eq_true_eq] at hg
    exact hg.2
  have hgp := hg
  unfold goodP at hgp
  simp only [Bool.and_eq_true, decide_eq_true_eq] at hgp
  have hF22 : F.length ≤ 22 := (goodP_parts hgp.1.1.1.1 hgp.1.1.1.2 hgp.1.1.2).1
  have hpe : parts e ≤ 100 := by have := parts_of_light (by omega) hgp.1.1.1.2; omega
  have hpF : ∀ f ∈ F, parts f.body ≤ 60 := fun f hf => by
    have h1 := hgp.1.1.1.1
    unfold fair at h1
    simp only [Bool.and_eq_true, List.all_eq_true, decide_eq_true_eq] at h1
    have h := h1.1 f hf
    unfold fairB at h
    simp only [Bool.and_eq_true, decide_eq_true_eq] at h
    have := parts_of_light (by omega) h.1; omega
  have hwf : wfS F.length e = true := wfS_of_ty e hty
  have hwF : ∀ i (h : i < F.length), wfS i F[i].body = true := fun i h => by
    have := wfS_of_ty _ (okF_body (hOk i h) (List.getElem?_eq_getElem h))
    rwa [List.length_take, Nat.min_eq_left (by omega)] at this
  have hlt : countE (bodiesS [] F) e < 1099511627776 := by unfold stepsP at hst10; omega
  have c1 := eval_g F time R e t hOk hFp hpb hty hsR
  have c2 := reval_g F time R e t hOk hFp hpb hty hsR hlt
  have c3 := steps_g F e hpb hFp (by omega) hwf hwF
  have c4 := rsteps_g F e hpb hFp (by omega)
  have c5 := timed_g F e (by omega) hwf hwF
  have c6 := rtimed_g F e hpb hFp (by omega)
  have c7 := Inline_g F (fun f hf => by have := hpF f hf; omega) (by omega) hwF e (by omega) hwf
  have c8 := rinline_g F (fun f hf => by have := hpF f hf; omega) (by omega) e (by omega)
  have hI : parts ((inlineP F e).getD zeroE) ≤ 1000000 := by
    unfold inlineP
    split
    · rename_i x hx
      split
      · show parts zeroE ≤ _; decide
      · have := inlE_parts hx; show parts x ≤ _; omega
    · show parts zeroE ≤ _; decide
  have c9 := rsame_g ((inlineP F e).getD zeroE) ((inlineP F e).getD zeroE) hI
  have hq := val_eq (evalP F time R e)
  generalize evalP F time R e = Z at *
  generalize stepsP F e = N at *
  generalize timedP F e = TB at *
  generalize inlineP F e = IL at *
  clear hT hRF hty hOk hFp hpb hsR hg hgp hwf hwF hlt hI hpF
  refine gives_of_awp Try.func5 Try.ntmps5 rfl rfl (by decide) rfl (by intro n; simp) fun σ n0 hcl hft => ?_
  repeat (rw [aseqC]; try simp (disch := first | omega | simp) [wrap_i64, -aseqC])
  repeat (first | (refine awp_seq_k fun K hK => ?_) | (refine awp_regionC ?_; repeat (rw [aseqC]; try simp (disch := first | omega | simp) [wrap_i64, -aseqC])) | (refine hK _ ?_; clear hK; clear K) | (clear hK; clear K; refine hK _ ?_; clear hK; clear K) | (clear hK; clear K; clear hK; clear K; refine hK _ ?_; clear hK; clear K) | refine awp_block ?_ | (refine awp_condC ?_; simp (disch := first | omega | simp) [wrap_i64]) | (refine awp_exit ?_; simp (disch := first | omega | simp)) | (refine awp_skip ?_; simp (disch := first | omega | simp)) | (refine awp_ret ?_; simp (disch := first | omega | simp)))
  refine acall (small_g) ?_
  try simp (disch := first | omega | simp) [wrap_i64, -aseqC]
  repeat (rw [aseqC]; try simp (disch := first | omega | simp) [wrap_i64, -aseqC])
  repeat (first | (refine awp_seq_k fun K hK => ?_) | (refine awp_regionC ?_; repeat (rw [aseqC]; try simp (disch := first | omega | simp) [wrap_i64, -aseqC])) | (refine hK _ ?_; clear hK; clear K) | (clear hK; clear K; refine hK _ ?_; clear hK; clear K) | (clear hK; clear K; clear hK; clear K; refine hK _ ?_; clear hK; clear K) | refine awp_block ?_ | (refine awp_condC ?_; simp (disch := first | omega | simp) [wrap_i64]) | (refine awp_exit ?_; simp (disch := first | omega | simp)) | (refine awp_skip ?_; simp (disch := first | omega | simp)) | (refine awp_ret ?_; simp (disch := first | omega | simp)))
  refine acall (hcg) ?_
  try simp (disch := first | omega | simp) [wrap_i64, -aseqC, hl']
  repeat (rw [aseqC]; try simp (disch := first | omega | simp) [wrap_i64, -aseqC, hl'])
  repeat (first | (refine awp_seq_k fun K hK => ?_) | (refine awp_regionC ?_; repeat (rw [aseqC]; try simp (disch := first | omega | simp) [wrap_i64, -aseqC, hl'])) | (refine hK _ ?_; clear hK; clear K) | (clear hK; clear K; refine hK _ ?_; clear hK; clear K) | (clear hK; clear K; clear hK; clear K; refine hK _ ?_; clear hK; clear K) | refine awp_block ?_ | (refine awp_condC ?_; simp (disch := first | omega | simp) [wrap_i64, hl']) | (refine awp_exit ?_; simp (disch := first | omega | simp)) | (refine awp_skip ?_; simp (disch := first | omega | simp)) | (refine awp_ret ?_; simp (disch := first | omega | simp)))
  refine awp_loopC hcl (fun k : Nat => [(0, .sl (F.map Fn.av)), (2, .int time), (3, .sl (R.map Val.av)), (4, .sl (L.map Ex.av)), (6, .ptr n0 0), (10, .bool false), (11, .bool true), (12, .int k)]) (fun k => [.cells [.int e.op, .int e.n, .str e.s, .sl (e.args.map Ex.av)] 25])
    (fun k => k ≤ L.length ∧ ∀ i (h : i < L.length), i < k → parts L[i] ≤ 40) (fun k => L.length - k) 0 (by exact ⟨by omega, fun i h h2 => by omega⟩) (by simp) fun k hk => ?_
  obtain ⟨hk, hks⟩ := hk
  by_cases hlt : k < L.length
  · have hc := light_g L[k] 40 20 (by omega) (by omega) (by omega) (by omega)
    repeat (rw [aseqC]; try simp (disch := first | omega | simp) [wrap_i64, -aseqC, hlt])
    repeat (first | (refine awp_seq_k fun K hK => ?_) | (refine awp_regionC ?_; repeat (rw [aseqC]; try simp (disch := first | omega | simp) [wrap_i64, -aseqC, hlt])) | (refine hK _ ?_; clear hK; clear K) | (clear hK; clear K; refine hK _ ?_; clear hK; clear K) | (clear hK; clear K; clear hK; clear K; refine hK _ ?_; clear hK; clear K) | refine awp_block ?_ | (refine awp_condC ?_; simp (disch := first | omega | simp) [wrap_i64, hlt]) | (refine awp_exit ?_; simp (disch := first | omega | simp)) | (refine awp_skip ?_; simp (disch := first | omega | simp)) | (refine awp_ret ?_; simp (disch := first | omega | simp)))
    refine acall hc ?_
    by_cases hneg : light L[k] 40 20 < 0
    · simp (disch := first | omega | simp) [wrap_i64, hneg]
      repeat (rw [aseqC]; try simp (disch := first | omega | simp) [wrap_i64, -aseqC])
      repeat (first | (refine awp_seq_k fun K hK => ?_) | (refine awp_regionC ?_; repeat (rw [aseqC]; try simp (disch := first | omega | simp) [wrap_i64, -aseqC])) | (refine hK _ ?_; clear hK; clear K) | (clear hK; clear K; refine hK _ ?_; clear hK; clear K) | (clear hK; clear K; clear hK; clear K; refine hK _ ?_; clear hK; clear K) | refine awp_block ?_ | (refine awp_condC ?_; simp (disch := first | omega | simp) [wrap_i64]) | (refine awp_exit ?_; simp (disch := first | omega | simp)) | (refine awp_skip ?_; simp (disch := first | omega | simp)) | (refine awp_ret ?_; simp (disch := first | omega | simp)))
    · have hp : parts L[k] ≤ 40 := by have := parts_of_light (n := 40) (by omega) (Int.not_lt.1 hneg); omega
      simp (disch := first | omega | simp) [wrap_i64, hneg]
      repeat (rw [aseqC]; try simp (disch := first | omega | simp) [wrap_i64, -aseqC])
      repeat (first | (refine awp_seq_k fun K hK => ?_) | (refine awp_regionC ?_; repeat (rw [aseqC]; try simp (disch := first | omega | simp) [wrap_i64, -aseqC])) | (refine hK _ ?_; clear hK; clear K) | (clear hK; clear K; refine hK _ ?_; clear hK; clear K) | (clear hK; clear K; clear hK; clear K; refine hK _ ?_; clear hK; clear K) | refine awp_block ?_ | (refine awp_condC ?_; simp (disch := first | omega | simp) [wrap_i64]) | (refine awp_exit ?_; simp (disch := first | omega | simp)) | (refine awp_skip ?_; simp (disch := first | omega | simp)) | (refine awp_ret ?_; simp (disch := first | omega | simp)))
      refine ⟨k + 1, ⟨by omega, fun i h h2 => ?_⟩, by omega, by simp⟩
      by_cases hik : i < k
      · exact hks i h hik
      · obtain rfl : i = k := by omega
        exact hp
  · have hkl : k = L.length := by omega
    subst hkl
    have hLp : ∀ x ∈ L, parts x ≤ 40 := fun x hx => by
      obtain ⟨i, h, rfl⟩ := List.getElem_of_mem hx
      exact hks i h h
    have d1 := repl_g L (fun x hx => by have := hLp x hx; omega) e (by omega)
    have d2 := rrepl_g L (fun x hx => by have := hLp x hx; omega) e (by omega)
    have hI : parts ((replP e L).getD zeroE) ≤ 1000000 := by
      unfold replP
      split
      · rename_i x hx
        split
        · show parts zeroE ≤ _; decide
        · have := putP_parts (K := 40) (by omega) hLp e hx; show parts x ≤ _; omega
      · show parts zeroE ≤ _; decide
    have d3 := rsame_g ((replP e L).getD zeroE) ((replP e L).getD zeroE) hI
    have hs : ∀ x : Ex, sameB x x = true := sameB_self
    rw [hs] at d3 c9
    generalize replP e L = RL at *
    repeat (rw [aseqC]; try simp (disch := first | omega | simp) [wrap_i64, -aseqC])
    repeat (first | (refine awp_seq_k fun K hK => ?_) | (refine awp_regionC ?_; repeat (rw [aseqC]; try simp (disch := first | omega | simp) [wrap_i64, -aseqC])) | (refine hK _ ?_; clear hK; clear K) | (clear hK; clear K; refine hK _ ?_; clear hK; clear K) | (clear hK; clear K; clear hK; clear K; refine hK _ ?_; clear hK; clear K) | refine awp_block ?_ | (refine awp_condC ?_; simp (disch := first | omega | simp) [wrap_i64]) | (refine awp_exit ?_; simp (disch := first | omega | simp)) | (refine awp_skip ?_; simp (disch := first | omega | simp)) | (refine awp_ret ?_; simp (disch := first | omega | simp)))
    refine acall (d1) ?_
    try simp (disch := first | omega | simp) [wrap_i64, -aseqC]
    repeat (rw [aseqC]; try simp (disch := first | omega | simp) [wrap_i64, -aseqC])
    repeat (first | (refine awp_seq_k fun K hK => ?_) | (refine awp_regionC ?_; repeat (rw [aseqC]; try simp (disch := first | omega | simp) [wrap_i64, -aseqC])) | (refine hK _ ?_; clear hK; clear K) | (clear hK; clear K; refine hK _ ?_; clear hK; clear K) | (clear hK; clear K; clear hK; clear K; refine hK _ ?_; clear hK; clear K) | refine awp_block ?_ | (refine awp_condC ?_; simp (disch := first | omega | simp) [wrap_i64]) | (refine awp_exit ?_; simp (disch := first | omega | simp)) | (refine awp_skip ?_; simp (disch := first | omega | simp)) | (refine awp_ret ?_; simp (disch := first | omega | simp)))
    refine acall (d2) ?_
    try simp (disch := first | omega | simp) [wrap_i64, -aseqC]
    repeat (rw [aseqC]; try simp (disch := first | omega | simp) [wrap_i64, -aseqC])
    repeat (first | (refine awp_seq_k fun K hK => ?_) | (refine awp_regionC ?_; repeat (rw [aseqC]; try simp (disch := first | omega | simp) [wrap_i64, -aseqC])) | (refine hK _ ?_; clear hK; clear K) | (clear hK; clear K; refine hK _ ?_; clear hK; clear K) | (clear hK; clear K; clear hK; clear K; refine hK _ ?_; clear hK; clear K) | refine awp_block ?_ | (refine awp_condC ?_; simp (disch := first | omega | simp) [wrap_i64]) | (refine awp_exit ?_; simp (disch := first | omega | simp)) | (refine awp_skip ?_; simp (disch := first | omega | simp)) | (refine awp_ret ?_; simp (disch := first | omega | simp)))
    refine acall (c7) ?_
    try simp (disch := first | omega | simp) [wrap_i64, -aseqC]
    repeat (rw [aseqC]; try simp (disch := first | omega | simp) [wrap_i64, -aseqC])
    repeat (first | (refine awp_seq_k fun K hK => ?_) | (refine awp_regionC ?_; repeat (rw [aseqC]; try simp (disch := first | omega | simp) [wrap_i64, -aseqC])) | (refine hK _ ?_; clear hK; clear K) | (clear hK; clear K; refine hK _ ?_; clear hK; clear K) | (clear hK; clear K; clear hK; clear K; refine hK _ ?_; clear hK; clear K) | refine awp_block ?_ | (refine awp_condC ?_; simp (disch := first | omega | simp) [wrap_i64]) | (refine awp_exit ?_; simp (disch := first | omega | simp)) | (refine awp_skip ?_; simp (disch := first | omega | simp)) | (refine awp_ret ?_; simp (disch := first | omega | simp)))
    refine acall (c8) ?_
    try simp (disch := first | omega | simp) [wrap_i64, -aseqC]
    repeat (rw [aseqC]; try simp (disch := first | omega | simp) [wrap_i64, -aseqC])
    repeat (first | (refine awp_seq_k fun K hK => ?_) | (refine awp_regionC ?_; repeat (rw [aseqC]; try simp (disch := first | omega | simp) [wrap_i64, -aseqC])) | (refine hK _ ?_; clear hK; clear K) | (clear hK; clear K; refine hK _ ?_; clear hK; clear K) | (clear hK; clear K; clear hK; clear K; refine hK _ ?_; clear hK; clear K) | refine awp_block ?_ | (refine awp_condC ?_; simp (disch := first | omega | simp) [wrap_i64]) | (refine awp_exit ?_; simp (disch := first | omega | simp)) | (refine awp_skip ?_; simp (disch := first | omega | simp)) | (refine awp_ret ?_; simp (disch := first | omega | simp)))
    refine acall (d3) ?_
    try simp (disch := first | omega | simp) [wrap_i64, -aseqC]
    repeat (rw [aseqC]; try simp (disch := first | omega | simp) [wrap_i64, -aseqC])
    repeat (first | (refine awp_seq_k fun K hK => ?_) | (refine awp_regionC ?_; repeat (rw [aseqC]; try simp (disch := first | omega | simp) [wrap_i64, -aseqC])) | (refine hK _ ?_; clear hK; clear K) | (clear hK; clear K; refine hK _ ?_; clear hK; clear K) | (clear hK; clear K; clear hK; clear K; refine hK _ ?_; clear hK; clear K) | refine awp_block ?_ | (refine awp_condC ?_; simp (disch := first | omega | simp) [wrap_i64]) | (refine awp_exit ?_; simp (disch := first | omega | simp)) | (refine awp_skip ?_; simp (disch := first | omega | simp)) | (refine awp_ret ?_; simp (disch := first | omega | simp)))
    refine acall (c9) ?_
    try simp (disch := first | omega | simp) [wrap_i64, -aseqC]
    repeat (rw [aseqC]; try simp (disch := first | omega | simp) [wrap_i64, -aseqC])
    repeat (first | (refine awp_seq_k fun K hK => ?_) | (refine awp_regionC ?_; repeat (rw [aseqC]; try simp (disch := first | omega | simp) [wrap_i64, -aseqC])) | (refine hK _ ?_; clear hK; clear K) | (clear hK; clear K; refine hK _ ?_; clear hK; clear K) | (clear hK; clear K; clear hK; clear K; refine hK _ ?_; clear hK; clear K) | refine awp_block ?_ | (refine awp_condC ?_; simp (disch := first | omega | simp) [wrap_i64]) | (refine awp_exit ?_; simp (disch := first | omega | simp)) | (refine awp_skip ?_; simp (disch := first | omega | simp)) | (refine awp_ret ?_; simp (disch := first | omega | simp)))
    refine awp_anyC [.R, .R, .R, .M, .R, .R, .M, .R, .M, .R, .R, .M, .R, .R, .R, .R, .M, .M, .R, .M, .M, .R, .R, .R, .R, .M, .M, .R, .M, .M, .R, .R, .R] (by kernel_rfl) (by kernel_rfl) ?_
    repeat (rw [anyC]; try simp (disch := first | omega | simp) [wrap_i64, -anyC, hq])
    refine agives (c1) ?_
    try simp (disch := first | omega | simp) [wrap_i64, -anyC, hq]
    repeat (rw [anyC]; try simp (disch := first | omega | simp) [wrap_i64, -anyC, hq])
    refine agives (c2) ?_
    try simp (disch := first | omega | simp) [wrap_i64, -anyC, hq]
    repeat (rw [anyC]; try simp (disch := first | omega | simp) [wrap_i64, -anyC, hq])
    refine agives (c3) ?_
    try simp (disch := first | omega | simp) [wrap_i64, -anyC, hq]
    repeat (rw [anyC]; try simp (disch := first | omega | simp) [wrap_i64, -anyC, hq])
    refine agives (c4) ?_
    try simp (disch := first | omega | simp) [wrap_i64, -anyC, hq]
    repeat (rw [anyC]; try simp (disch := first | omega | simp) [wrap_i64, -anyC, hq])
    refine agives (c5) ?_
    try simp (disch := first | omega | simp) [wrap_i64, -anyC, hq]
    repeat (rw [anyC]; try simp (disch := first | omega | simp) [wrap_i64, -anyC, hq])
    refine agives (c6) ?_
    try simp (disch := first | omega | simp) [wrap_i64, -anyC, hq]
    repeat (rw [anyC]; try simp (disch := first | omega | simp) [wrap_i64, -anyC, hq])
    repeat (rw [aseqC]; try simp (disch := first | omega | simp) [wrap_i64, -aseqC])
    repeat (first | (refine awp_seq_k fun K hK => ?_) | (refine awp_regionC ?_; repeat (rw [aseqC]; try simp (disch := first | omega | simp) [wrap_i64, -aseqC])) | (refine hK _ ?_; clear hK; clear K) | (clear hK; clear K; refine hK _ ?_; clear hK; clear K) | (clear hK; clear K; clear hK; clear K; refine hK _ ?_; clear hK; clear K) | refine awp_block ?_ | (refine awp_condC ?_; simp (disch := first | omega | simp) [wrap_i64]) | (refine awp_exit ?_; simp (disch := first | omega | simp)) | (refine awp_skip ?_; simp (disch := first | omega | simp)) | (refine awp_ret ?_; simp (disch := first | omega | simp)))
end Go.Proofs.Ytmhelkhmgbbfhaa

/- The law ExprTells: for every input it returns true, and each argument reads afterwards as it read before. -/
namespace Go.Proofs.Ytmhelkhmgbbfhaa
open Go.ChangeShapes Go.WideShapes Go.ChangeAt Go.RowKit Go.Lib

theorem flat_fns {w : World} {L : List Fn} {v : Value} (h : Rd w Any (.sl (L.map Fn.d)) [v]) : RR1 (St.flat w) (.sl (L.map Fn.av)) v := by
  have := flat_rc h
  rw [fns_av] at this
  exact this
theorem flat_vals {w : World} {L : List Val} {v : Value} (h : Rd w Any (.sl (L.map Val.d)) [v]) : RR1 (St.flat w) (.sl (L.map Val.av)) v := by
  have := flat_rc h
  rw [vals_av] at this
  exact this
theorem flat_exs {w : World} {L : List Ex} {v : Value} (h : Rd w Any (.sl (L.map Ex.d)) [v]) : RR1 (St.flat w) (.sl (L.map Ex.av)) v := by
  have := flat_rc h
  rw [exs_av] at this
  exact this
theorem flat_ints {w : World} {L : List Int} {v : Value} (h : Rd w Any (.sl (L.map D.int)) [v]) : RR1 (St.flat w) (.sl (L.map AV.int)) v := by
  have := flat_rc h
  rw [ints_av] at this
  exact this
theorem flat_ex {w : World} {e : Ex} {cs : List Value} (h : Rd w Any e.d cs) : RR1 (St.flat w) e.av (.agg cs.toArray) := by
  have := flat_rc h
  rw [Ex.d_av, Ex.av_eq, RC] at this
  rw [Ex.av_eq]
  exact ⟨cs, rfl, this⟩
theorem flat_int {w : World} {n : Int} : RR1 (St.flat w) (.int n) (.int .i64 n) := by
  show RC _ _ _
  rw [RC]

theorem trodAll_five {H : Type} {enc : TypeId × Value → H} {P : Program} {w : World} {base : Nat} {spare : Nat → Bool} {held : Bool} {t0 t1 t2 t3 t4 : TypeId} {args : Array Value} {ds : List (DataW H)} {ps : List MemPlace} (h : DataW.TrodAll enc P w base spare held [t0, t1, t2, t3, t4] args.toList ds ps) :
    ∃ v0 v1 v2 v3 v4 d0 d1 d2 d3 d4 p0 p1 p2 p3 p4, args = #[v0, v1, v2, v3, v4] ∧ ds = [d0, d1, d2, d3, d4] ∧ ps = p0 ++ p1 ++ p2 ++ p3 ++ p4 ∧ DataW.Trod enc P w base spare held t0 v0 d0 p0 ∧ DataW.Trod enc P w base spare held t1 v1 d1 p1 ∧ DataW.Trod enc P w base spare held t2 v2 d2 p2 ∧ DataW.Trod enc P w base spare held t3 v3 d3 p3 ∧ DataW.Trod enc P w base spare held t4 v4 d4 p4 := by
  obtain ⟨v0, vs0, d0, ds0, p0, q0, hargs, rfl, rfl, h0, r0⟩ := trodAll_cons h
  obtain ⟨v1, vs1, d1, ds1, p1, q1, rfl, rfl, rfl, h1, r1⟩ := trodAll_cons r0
  obtain ⟨v2, vs2, d2, ds2, p2, q2, rfl, rfl, rfl, h2, r2⟩ := trodAll_cons r1
  obtain ⟨v3, vs3, d3, ds3, p3, q3, rfl, rfl, rfl, h3, r3⟩ := trodAll_cons r2
  obtain ⟨v4, vs4, d4, ds4, p4, q4, rfl, rfl, rfl, h4, r4⟩ := trodAll_cons r3
  obtain ⟨rfl, rfl, rfl⟩ := trodAll_nil r4
  exact ⟨v0, v1, v2, v3, v4, d0, d1, d2, d3, d4, p0, p1, p2, p3, p4, by cases args; simp_all, rfl, by simp, h0, h1, h2, h3, h4⟩

theorem tells_law (F : List Fn) (e : Ex) (time : Int) (R : List Val) (L : List Ex) (vF vR vL : Value) (cs : List Value) (w : World) (hF : Rd w Any (.sl (F.map Fn.d)) [vF]) (hr : Rd w Any e.d cs) (hR : Rd w Any (.sl (R.map Val.d)) [vR]) (hL : Rd w Any (.sl (L.map Ex.d)) [vL]) :
    Calls Try.prog 5 #[vF, .agg cs.toArray, .int .i64 time, vR, vL] w fun r w' => r = .returned (.bool true) ∧ Ext w w' :=
  calls_of_gives (vals := [vF, .agg cs.toArray, .int .i64 time, vR, vL]) (tells_g F e time R L) ⟨_, _, rfl, flat_fns hF, _, _, rfl, flat_ex hr, _, _, rfl, flat_int, _, _, rfl, flat_vals hR, _, _, rfl, flat_exs hL, rfl⟩

set_option maxRecDepth 100000 in
theorem tells_lifted (os : Os) (started : os.Started) (H : Type) (enc : TypeId × Value → H) :
    ReturnsInHanded {} Try.checked os 5 .any (Rows.exprTellsSpec.pre6 enc Try.prog Try.f5 Rows.exprTellsRow.domain false) (Rows.exprTellsSpec.post enc Try.prog Try.f5 false true false false) := by
  refine returnsInHanded_of_change (C := Try.checked) Try.own started (by kernel_rfl) Try.func5
    (ChangeSpec.witness6 (enc := enc) (C := Try.checked) false ⟨#[], #[.slice .none 0 0, .agg #[.int .i64 0, .int .i64 0, .string ByteArray.empty, .slice .none 0 0], .int .i64 0, .slice .none 0 0, .slice .none 0 0], []⟩ 8 (by kernel_rfl) (by kernel_rfl) (by kernel_rfl) (by kernel_rfl)) ?_
  intro W base args ds gs before hval0 hW hcnd _
  have hval : ∀ (j : Nat) t v, Try.f5.params[j]? = some t → args[j]? = some v → Value.okWide Try.prog W .any base t v := hval0
  have hW' := hW
  obtain ⟨p, q, hA0, hV, rfl, hfz, hnd⟩ := hW
  have hA : DataW.TrodAll enc Try.prog W 0 (fun _ => true) true Try.f5.params.toList args.toList ds p := hA0
  rw [Try.params5] at hA hval
  obtain ⟨v0, v1, v2, v3, v4, d0, d1, d2, d3, d4, p0, p1, p2, p3, p4, rfl, rfl, rfl, h0, h1, h2, h3, h4⟩ := trodAll_five hA
  obtain ⟨rfl, rfl⟩ := trodVars_none hV
  obtain ⟨F, hF⟩ := par_sl Try.underlying22 (hval 0 _ v0 rfl rfl) h0 trods_fns
  obtain ⟨e, cs, rfl, he⟩ := par_st Try.underlying25 (hval 1 _ v1 rfl rfl) h1 trods_ex
  obtain ⟨time, rfl⟩ := par_int Try.underlying3 (hval 2 _ v2 rfl rfl)
  obtain ⟨R, hR⟩ := par_sl Try.underlying26 (hval 3 _ v3 rfl rfl) h3 trods_vals
  obtain ⟨L, hL⟩ := par_sl Try.underlying23 (hval 4 _ v4 rfl rfl) h4 trods_exs
  refine (tells_law F e time R L v0 v3 v4 cs W hF he hR hL).mono ?_
  rintro r W' ⟨rfl, hb⟩
  exact ⟨_, rfl, law_post (P := Try.prog) Try.laidOut hW' rfl rfl (by kernel_rfl) Try.underlying4 (by kernel_rfl) hb⟩

theorem tells_holds : Rows.ExprTellsSaid :=
  OpenClaim.holds_of_wide 5 Try.f5 rfl rfl rfl rfl rfl rfl rfl ⟨rfl, rfl, rfl, rfl, rfl⟩ rfl rfl rfl rfl rfl (by kernel_rfl) Try.func5 (by kernel_rfl)
    (of_decide_eq_true (by kernel_rfl)) (by unfold Func.isWrapper; rw [if_neg (by decide +kernel)]; exact ⟨rfl, rfl⟩)
    (fun os started H enc _ => tells_lifted os started H enc)
end Go.Proofs.Ytmhelkhmgbbfhaa
