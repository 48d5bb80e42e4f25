/- Walks of layer 16: clone and put, of the program. -/
import Derived.WideShapes
import Derived.Laws.Strings
import Derived.Test.YtnkakofcejkhiaaDoorGc4
import Derived.Test.YtnkakofcejkhiaaDoorGc5
import Derived.Test.YtnkakofcejkhiaaDoorGc7
import Derived.Test.YtnkakofcejkhiaaDoorGc18
import Derived.Test.YtnkakofcejkhiaaDoorGc21
import Derived.Test.YtnkakofcejkhiaaDoorGc22
import Derived.Test.YtnkakofcejkhiaaDoorGc23
set_option linter.unusedSimpArgs false
set_option linter.unusedVariables false
namespace Go.Proofs.YtnkakofcejkhiaaDoor
open Go.RowKit Go.Lib
set_option maxHeartbeats 4000000 in
theorem pclone_g (e : Ex) : parts e ≤ 1000000 → Gives Tryd.prog 140 [e.av] e.av := by
  induction e using Ex.ind with | h o n s l ih => ?_
  intro hb
  have hl : l.length ≤ 1000000 := by rw [parts] at hb; have := qbu l; omega
  refine qn Tryd.func140 Tryd.ntmps140 rfl rfl (by decide) rfl (by intro n; simp) fun σ n0 hcl hft => ?_
  repeat' (first | ((first | ((with_reducible refine qo (fun hg => ?_) (fun hg => ?_)) <;> (try simp only [hg]) <;> (try simp only [gS] at hg) <;> (try (first | simp only [eq_false hg, gI] | simp only [eq_true hg, gI]))) | (with_reducible first | refine qh ?_ | refine qg ?_ | refine ql ?_ | refine qk ?_) | refine qd ?_ | refine qi ?_ | refine qj ?_ | refine qm ?_) <;> (try simp (disch := first | omega | simp) [qf, -qr, -qw])) | ((with_reducible refine sideT ?_ ?_); first | omega | assumption | (simp; done)) | (refine qe fun K hK => ?_) | (refine qa ?_) | (refine qb true (by kernel_rfl) (by kernel_rfl) ?_) | (refine qb false (by kernel_rfl) (by kernel_rfl) ?_) | (refine hK _ ?_; clear hK K) | (clear hK K; refine hK _ ?_; clear hK K) | (clear hK K; clear hK K; refine hK _ ?_; clear hK K) | refine qc ?_)
  refine qca 2 3 52 4 (by rfl) (by rfl) ?_
  refine qx hcl (fun k : Nat => [(1, .ptr n0 0), (2, .ptr (n0 + 1) 0), (3, .ptr (n0 + 2) 0), (14, .sl (l.map Ex.av)), (15, .int l.length), (16, .int k)])
    (fun k => [.cells [.int o, .int n, .str s, .sl (l.map Ex.av)] 52, .cells [.int 0, .int 0, .str ByteArray.empty, .v (.slice none 0 0)] 52, .cells [.int o, .int n, .str s, .gs (n0 + 3) ((l.take k).map Ex.av)] 52, .tail k 52 4])
    (fun k => k ≤ l.length) (fun k => l.length - k) 0 (by simp) (by simp) fun k hk => ?_
  have hcls : ∀ m k, AV.cls m (List.take k (l.map Ex.av)) := fun m k => by rw [← List.map_take]; exact AV.cls_map (fun e => e.av_cl m) _
  by_cases hlt : k < l.length
  · have hpk : parts l[k] ≤ 1000000 := by rw [parts] at hb; have := qbi l l[k] (List.getElem_mem hlt); omega
    have c1 := ih _ (List.getElem_mem hlt) hpk
    have hlk : min k l.length = k := by omega
    have bs : (k + 1) * 40 ≤ 140737488355328 := by omega
    repeat' (first | ((first | ((with_reducible refine qo (fun hg => ?_) (fun hg => ?_)) <;> (try simp only [hg]) <;> (try simp only [gS] at hg) <;> (try (first | simp only [eq_false hg, gI] | simp only [eq_true hg, gI]))) | (with_reducible first | refine qh ?_ | refine qg ?_ | refine ql ?_ | refine qk ?_) | refine acall (c1) ?_ | refine qq (c1) ?_ | refine qp (c1) ?_ | refine qd ?_ | refine qi ?_ | refine qj ?_ | refine qm ?_) <;> (try simp (disch := first | omega | simp) [qf, -qr, -qw, hlt, hlk, bs, hcls])) | (with_reducible refine qb (id := 5) false (by kernel_rfl) (by kernel_rfl) ?_) | ((with_reducible refine sideT ?_ ?_); first | omega | assumption | (simp; done)) | (refine qe fun K hK => ?_) | (refine qa ?_) | (refine qb true (by kernel_rfl) (by kernel_rfl) ?_) | (refine qb false (by kernel_rfl) (by kernel_rfl) ?_) | (refine hK _ ?_; clear hK K) | (clear hK K; refine hK _ ?_; clear hK K) | (clear hK K; clear hK K; refine hK _ ?_; clear hK K) | refine qc ?_)
    exact ⟨k + 1, by omega, by omega, by simp [List.take_add_one, hlt, hcls]⟩
  · obtain rfl : k = l.length := by omega
    rw [List.take_length]
    repeat' (first | ((first | ((with_reducible refine qo (fun hg => ?_) (fun hg => ?_)) <;> (try simp only [hg]) <;> (try simp only [gS] at hg) <;> (try (first | simp only [eq_false hg, gI] | simp only [eq_true hg, gI]))) | (with_reducible first | refine qh ?_ | refine qg ?_ | refine ql ?_ | refine qk ?_) | refine qd ?_ | refine qi ?_ | refine qj ?_ | refine qm ?_) <;> (try simp (disch := first | omega | simp) [qf, -qr, -qw, hlt])) | ((with_reducible refine sideT ?_ ?_); first | omega | assumption | (simp; done)) | (refine qe fun K hK => ?_) | (refine qa ?_) | (refine qb true (by kernel_rfl) (by kernel_rfl) ?_) | (refine qb false (by kernel_rfl) (by kernel_rfl) ?_) | (refine hK _ ?_; clear hK K) | (clear hK K; refine hK _ ?_; clear hK K) | (clear hK K; clear hK K; refine hK _ ?_; clear hK K) | refine qc ?_)
set_option maxHeartbeats 4000000 in
theorem put_g (op : Int) (L : List Ex) (hL : ∀ x ∈ L, parts x ≤ 1000000) (e : Ex) : parts e ≤ 1000000 → Gives Tryd.prog 123 [e.av, .int op, .sl (L.map Ex.av)] (exr (putP op L e)) := by
  induction e using Ex.ind with | h o n s l ih => ?_
  intro hb
  have hl : l.length ≤ 1000000 := by rw [parts] at hb; have := qbu l; omega
  obtain ⟨R, hR⟩ : ∃ R, R = putP op L (.mk o n s l) := ⟨_, rfl⟩
  rw [← hR]
  rw [putP] at hR
  refine qn Tryd.func123 Tryd.ntmps123 rfl rfl (by decide) rfl (by intro n; simp) fun σ n0 hcl hft => ?_
  by_cases ho : o = op
  · have hob : (o == op) = true := beq_iff_eq.2 ho
    rw [if_pos ho] at hR
    by_cases hn : n < 0
    · rw [if_pos hn] at hR
      repeat' (first | ((first | ((with_reducible refine qo (fun hg => ?_) (fun hg => ?_)) <;> (try simp only [hg]) <;> (try simp only [gS] at hg) <;> (try (first | simp only [eq_false hg, gI] | simp only [eq_true hg, gI]))) | (with_reducible first | refine qh ?_ | refine qg ?_ | refine ql ?_ | refine qk ?_) | refine qd ?_ | refine qi ?_ | refine qj ?_ | refine qm ?_) <;> (try simp (disch := first | omega | simp) [qf, -qr, -qw, hob, hn])) | ((with_reducible refine sideT ?_ ?_); first | omega | assumption | (simp; done)) | (refine qe fun K hK => ?_) | (refine qa ?_) | (refine qb true (by kernel_rfl) (by kernel_rfl) ?_) | (refine qb false (by kernel_rfl) (by kernel_rfl) ?_) | (refine hK _ ?_; clear hK K) | (clear hK K; refine hK _ ?_; clear hK K) | (clear hK K; clear hK K; refine hK _ ?_; clear hK K) | refine qc ?_)
      all_goals (rw [hR]; simp)
    · rw [if_neg hn] at hR
      by_cases hn2 : n.toNat < L.length
      · have c1 := pclone_g L[n.toNat] (hL _ (List.getElem_mem hn2))
        have hn3 : n < L.length := by omega
        have hn4 : ¬ (L.length : Int) ≤ n := by omega
        rw [List.getElem?_eq_getElem hn2] at hR
        repeat' (first | ((first | ((with_reducible refine qo (fun hg => ?_) (fun hg => ?_)) <;> (try simp only [hg]) <;> (try simp only [gS] at hg) <;> (try (first | simp only [eq_false hg, gI] | simp only [eq_true hg, gI]))) | (with_reducible first | refine qh ?_ | refine qg ?_ | refine ql ?_ | refine qk ?_) | refine acall (c1) ?_ | refine qq (c1) ?_ | refine qp (c1) ?_ | refine qd ?_ | refine qi ?_ | refine qj ?_ | refine qm ?_) <;> (try simp (disch := first | omega | simp) [qf, -qr, -qw, hob, hn, hn2, hn3, hn4])) | ((with_reducible refine sideT ?_ ?_); first | omega | assumption | (simp; done)) | (refine qe fun K hK => ?_) | (refine qa ?_) | (refine qb true (by kernel_rfl) (by kernel_rfl) ?_) | (refine qb false (by kernel_rfl) (by kernel_rfl) ?_) | (refine hK _ ?_; clear hK K) | (clear hK K; refine hK _ ?_; clear hK K) | (clear hK K; clear hK K; refine hK _ ?_; clear hK K) | refine qc ?_)
        all_goals (rw [hR]; simp)
      · have hn4 : (L.length : Int) ≤ n := by omega
        rw [List.getElem?_eq_none (by omega)] at hR
        repeat' (first | ((first | ((with_reducible refine qo (fun hg => ?_) (fun hg => ?_)) <;> (try simp only [hg]) <;> (try simp only [gS] at hg) <;> (try (first | simp only [eq_false hg, gI] | simp only [eq_true hg, gI]))) | (with_reducible first | refine qh ?_ | refine qg ?_ | refine ql ?_ | refine qk ?_) | refine qd ?_ | refine qi ?_ | refine qj ?_ | refine qm ?_) <;> (try simp (disch := first | omega | simp) [qf, -qr, -qw, hob, hn, hn4])) | ((with_reducible refine sideT ?_ ?_); first | omega | assumption | (simp; done)) | (refine qe fun K hK => ?_) | (refine qa ?_) | (refine qb true (by kernel_rfl) (by kernel_rfl) ?_) | (refine qb false (by kernel_rfl) (by kernel_rfl) ?_) | (refine hK _ ?_; clear hK K) | (clear hK K; refine hK _ ?_; clear hK K) | (clear hK K; clear hK K; refine hK _ ?_; clear hK K) | refine qc ?_)
        all_goals (rw [hR]; simp)
  · have hob : (o == op) = false := beq_eq_false_iff_ne.2 ho
    rw [if_neg ho] at hR
    repeat' (first | ((first | ((with_reducible refine qo (fun hg => ?_) (fun hg => ?_)) <;> (try simp only [hg]) <;> (try simp only [gS] at hg) <;> (try (first | simp only [eq_false hg, gI] | simp only [eq_true hg, gI]))) | (with_reducible first | refine qh ?_ | refine qg ?_ | refine ql ?_ | refine qk ?_) | refine qd ?_ | refine qi ?_ | refine qj ?_ | refine qm ?_) <;> (try simp (disch := first | omega | simp) [qf, -qr, -qw, hob])) | ((with_reducible refine sideT ?_ ?_); first | omega | assumption | (simp; done)) | (refine qe fun K hK => ?_) | (refine qa ?_) | (refine qb true (by kernel_rfl) (by kernel_rfl) ?_) | (refine qb false (by kernel_rfl) (by kernel_rfl) ?_) | (refine hK _ ?_; clear hK K) | (clear hK K; refine hK _ ?_; clear hK K) | (clear hK K; clear hK K; refine hK _ ?_; clear hK K) | refine qc ?_)
    refine qca 2 3 52 4 (by rfl) (by rfl) ?_
    refine qx hcl (fun ys : List Ex => [(1, .int op), (2, .sl (L.map Ex.av)), (3, .ptr n0 0), (6, .ptr (n0 + 1) 0), (7, .bool false), (8, .ptr (n0 + 2) 0), (42, .sl (l.map Ex.av)), (43, .int l.length), (44, .int ys.length)])
      (fun ys => [.cells [.int o, .int n, .str s, .sl (l.map Ex.av)] 52, .cells [.int 0, .int 0, .str ByteArray.empty, .v (.slice none 0 0)] 52, .cells [.int o, .int n, .str s, .gs (n0 + 3) (ys.map Ex.av)] 52, .tail ys.length 52 4])
      (fun ys => ys.length ≤ l.length ∧ putPs op L (l.take ys.length) = some ys) (fun ys => l.length - ys.length) [] (by simp [putPs]) (by simp) fun ys ⟨hk, hys⟩ => ?_
    by_cases hlt : ys.length < l.length
    · have hpk : parts l[ys.length] ≤ 1000000 := by rw [parts] at hb; have := qbi l l[ys.length] (List.getElem_mem hlt); omega
      have c1 := ih _ (List.getElem_mem hlt) hpk
      have bs : (ys.length + 1) * 40 ≤ 140737488355328 := by omega
      cases hx : putP op L l[ys.length] with
      | none =>
        rw [hx] at c1
        rw [putPs_none l (List.getElem_mem hlt) hx] at hR
        repeat' (first | ((first | ((with_reducible refine qo (fun hg => ?_) (fun hg => ?_)) <;> (try simp only [hg]) <;> (try simp only [gS] at hg) <;> (try (first | simp only [eq_false hg, gI] | simp only [eq_true hg, gI]))) | (with_reducible first | refine qh ?_ | refine qg ?_ | refine ql ?_ | refine qk ?_) | refine acall (c1) ?_ | refine qq (c1) ?_ | refine qp (c1) ?_ | refine qd ?_ | refine qi ?_ | refine qj ?_ | refine qm ?_) <;> (try simp (disch := first | omega | simp) [qf, -qr, -qw, hlt, bs])) | ((with_reducible refine sideT ?_ ?_); first | omega | assumption | (simp; done)) | (refine qe fun K hK => ?_) | (refine qa ?_) | (refine qb true (by kernel_rfl) (by kernel_rfl) ?_) | (refine qb false (by kernel_rfl) (by kernel_rfl) ?_) | (refine hK _ ?_; clear hK K) | (clear hK K; refine hK _ ?_; clear hK K) | (clear hK K; clear hK K; refine hK _ ?_; clear hK K) | refine qc ?_)
        all_goals (rw [hR]; simp)
      | some x =>
        rw [hx] at c1
        have hst : putPs op L (l.take (ys.length + 1)) = some (ys ++ [x]) := by
          rw [List.take_succ_eq_append_getElem hlt]; exact putPs_snoc hx _ hys
        repeat' (first | ((first | ((with_reducible refine qo (fun hg => ?_) (fun hg => ?_)) <;> (try simp only [hg]) <;> (try simp only [gS] at hg) <;> (try (first | simp only [eq_false hg, gI] | simp only [eq_true hg, gI]))) | (with_reducible first | refine qh ?_ | refine qg ?_ | refine ql ?_ | refine qk ?_) | refine acall (c1) ?_ | refine qq (c1) ?_ | refine qp (c1) ?_ | refine qd ?_ | refine qi ?_ | refine qj ?_ | refine qm ?_) <;> (try simp (disch := first | omega | simp) [qf, -qr, -qw, hlt, bs])) | ((with_reducible refine sideT ?_ ?_); first | omega | assumption | (simp; done)) | (refine qe fun K hK => ?_) | (refine qa ?_) | (refine qb true (by kernel_rfl) (by kernel_rfl) ?_) | (refine qb false (by kernel_rfl) (by kernel_rfl) ?_) | (refine hK _ ?_; clear hK K) | (clear hK K; refine hK _ ?_; clear hK K) | (clear hK K; clear hK K; refine hK _ ?_; clear hK K) | refine qc ?_)
        exact ⟨ys ++ [x], ⟨by simp; omega, by simpa using hst⟩, by simp; omega, by simp⟩
    · have hyl : ys.length = l.length := by omega
      rw [hyl, List.take_length] at hys
      rw [hys] at hR
      repeat' (first | ((first | ((with_reducible refine qo (fun hg => ?_) (fun hg => ?_)) <;> (try simp only [hg]) <;> (try simp only [gS] at hg) <;> (try (first | simp only [eq_false hg, gI] | simp only [eq_true hg, gI]))) | (with_reducible first | refine qh ?_ | refine qg ?_ | refine ql ?_ | refine qk ?_) | refine qd ?_ | refine qi ?_ | refine qj ?_ | refine qm ?_) <;> (try simp (disch := first | omega | simp) [qf, -qr, -qw, hlt])) | ((with_reducible refine sideT ?_ ?_); first | omega | assumption | (simp; done)) | (refine qe fun K hK => ?_) | (refine qa ?_) | (refine qb true (by kernel_rfl) (by kernel_rfl) ?_) | (refine qb false (by kernel_rfl) (by kernel_rfl) ?_) | (refine hK _ ?_; clear hK K) | (clear hK K; refine hK _ ?_; clear hK K) | (clear hK K; clear hK K; refine hK _ ?_; clear hK K) | refine qc ?_)
      all_goals (rw [hR]; simp)
end Go.Proofs.YtnkakofcejkhiaaDoor

/- Inline, of the program. -/
namespace Go.Proofs.YtnkakofcejkhiaaDoor
open Go.RowKit Go.Lib
theorem incr_ac (e : Ex) (k : Int) (hk : 0 ≤ k ∧ k ≤ 1000000000000) (r : Nat) (σ : Nat → AB) (hσ : σ r = .cells [.int k] 3) : AC Tryd.prog 125 [e.av, .ptr r 0] σ fun y τ => y = .tup [] ∧ τ = upd σ r (.cells [.int (k + 1)] 3) := by
  refine acS_of_awp Tryd.func125 Tryd.ntmps125 rfl rfl (by decide) rfl (by intro n; simp) (by intro n; simp) ?_ fun n0 hrn hcl hft => ?_
  · rw [hσ]; simp
  have hl : ∀ L, loc σ n0 L r = .cells [.int k] 3 := fun L => by rw [loc_lt _ _ _ _ hrn, hσ]
  repeat (first | (refine qe fun K hK => ?_) | (refine qa ?_; simp (disch := first | omega | simp) [qf, hl, hrn]) | (refine hK _ ?_; clear hK; clear K) | (clear hK; clear K; refine hK _ ?_; clear hK; clear K) | (clear hK; clear K; clear hK; clear K; refine hK _ ?_; clear hK; clear K) | refine qc ?_ | (refine qd ?_; simp (disch := first | omega | simp) [qf, hl, hrn]) | (refine qi ?_; simp (disch := first | omega | simp)) | (refine qj ?_; simp (disch := first | omega | simp)) | (refine qm ?_; simp (disch := first | omega | simp)))
theorem walk_parts (e : Ex) : ∀ (k : Int) (r : Nat) (σ : Nat → AB), 0 ≤ k → k + parts e ≤ 1000000000000 → σ r = .cells [.int k] 3 → AC Tryd.prog 124 [e.av, .fn 125 [.ptr r 0]] σ fun y τ => y = .tup [] ∧ τ = upd σ r (.cells [.int (k + parts e)] 3) := by
  induction e using Ex.ind with | h o n s l ih => ?_
  intro k r σ h0 hk hσ
  refine acS_of_awp Tryd.func124 Tryd.ntmps124 rfl rfl (by decide) rfl (by intro n; simp) (by intro n; simp) ?_ fun n0 hrn hcl hft => ?_
  · rw [hσ]; simp
  have hl : ∀ L, loc σ n0 L r = .cells [.int k] 3 := fun L => by rw [loc_lt _ _ _ _ hrn, hσ]
  have hp : parts (.mk o n s l) = qu l + 1 := by rw [parts]
  have hll := qbu l
  rw [hp] at hk ⊢
  have hc := incr_ac (.mk o n s l) k ⟨h0, by omega⟩ r _ (hl [.cells [.int o, .int n, .str s, .sl (l.map Ex.av)] 52])
  rw [Ex.av_mk] at hc
  repeat (first | (refine qe fun K hK => ?_) | (refine qa ?_; simp (disch := first | omega | simp) [qf]) | (refine hK _ ?_; clear hK; clear K) | (clear hK; clear K; refine hK _ ?_; clear hK; clear K) | (clear hK; clear K; clear hK; clear K; refine hK _ ?_; clear hK; clear K) | refine qc ?_ | (refine qd ?_; simp (disch := first | omega | simp) [qf]) | (refine qi ?_; simp (disch := first | omega | simp)) | (refine qj ?_; simp (disch := first | omega | simp)) | (refine qm ?_; simp (disch := first | omega | simp)))
  refine acallS r _ hc (by simp [hl]) ?_
  simp (disch := first | omega | simp) [qf]
  repeat (first | (refine qe fun K hK => ?_) | (refine qa ?_; simp (disch := first | omega | simp) [qf]) | (refine hK _ ?_; clear hK; clear K) | (clear hK; clear K; refine hK _ ?_; clear hK; clear K) | (clear hK; clear K; clear hK; clear K; refine hK _ ?_; clear hK; clear K) | refine qc ?_ | (refine qd ?_; simp (disch := first | omega | simp) [qf]) | (refine qi ?_; simp (disch := first | omega | simp)) | (refine qj ?_; simp (disch := first | omega | simp)) | (refine qm ?_; simp (disch := first | omega | simp)))
  refine awp_loopS (fun j : Nat => upd σ r (.cells [.int (k + 1 + qu (l.take j))] 3)) (fun j => [(1, .fn 125 [.ptr r 0]), (2, .ptr n0 0), (10, .sl (l.map Ex.av)), (11, .int l.length), (12, .int j)]) (fun _ => [.cells [.int o, .int n, .str s, .sl (l.map Ex.av)] 52]) (fun j => j ≤ l.length) (fun j => l.length - j) 0 (fun j _ => upd_cl hcl (by simp)) (by simp) ⟨fun q _ => by simp [qu], by simp [hrn]; omega⟩ (upd_cl hcl (by simp)) fun j hj => ?_
  by_cases hlt : j < l.length
  · have htk := qew l j hlt
    have htl := qda l (j + 1)
    repeat (first | (refine qe fun K hK => ?_) | (refine qa ?_; simp (disch := first | omega | simp) [qf, hlt]) | (refine hK _ ?_; clear hK; clear K) | (clear hK; clear K; refine hK _ ?_; clear hK; clear K) | (clear hK; clear K; clear hK; clear K; refine hK _ ?_; clear hK; clear K) | refine qc ?_ | (refine qd ?_; simp (disch := first | omega | simp) [qf, hlt]) | (refine qi ?_; simp (disch := first | omega | simp)) | (refine qj ?_; simp (disch := first | omega | simp)) | (refine qm ?_; simp (disch := first | omega | simp)))
    have hst : ∀ L, loc (upd σ r (.cells [.int (k + 1 + qu (l.take j))] 3)) n0 L r = .cells [.int (k + 1 + qu (l.take j))] 3 := fun L => by rw [loc_lt _ _ _ _ hrn]; simp [upd]
    refine acallS r _ (ih l[j] (List.getElem_mem hlt) _ r _ (by omega) (by omega) (hst _)) (by simp [hst]) ?_
    simp (disch := first | omega | simp) [qf, hrn]
    repeat (first | (refine qe fun K hK => ?_) | (refine qa ?_; simp (disch := first | omega | simp) [qf]) | (refine hK _ ?_; clear hK; clear K) | (clear hK; clear K; refine hK _ ?_; clear hK; clear K) | (clear hK; clear K; clear hK; clear K; refine hK _ ?_; clear hK; clear K) | refine qc ?_ | (refine qd ?_; simp (disch := first | omega | simp) [qf]) | (refine qi ?_; simp (disch := first | omega | simp)) | (refine qj ?_; simp (disch := first | omega | simp)) | (refine qm ?_; simp (disch := first | omega | simp)))
    refine ⟨upd_cl hcl (by simp), j + 1, by omega, by omega, ⟨fun q _ => ?_, by simp; omega⟩⟩
    rw [htk, show k + 1 + (qu (l.take j) : Int) + parts l[j] = k + 1 + ((qu (l.take j) + parts l[j] : Nat) : Int) by omega]
  · have hjl : j = l.length := by omega
    subst hjl
    rw [List.take_length]
    repeat (first | (refine qe fun K hK => ?_) | (refine qa ?_; simp (disch := first | omega | simp) [qf]) | (refine hK _ ?_; clear hK; clear K) | (clear hK; clear K; refine hK _ ?_; clear hK; clear K) | (clear hK; clear K; clear hK; clear K; refine hK _ ?_; clear hK; clear K) | refine qc ?_ | (refine qd ?_; simp (disch := first | omega | simp) [qf]) | (refine qi ?_; simp (disch := first | omega | simp)) | (refine qj ?_; simp (disch := first | omega | simp)) | (refine qm ?_; simp (disch := first | omega | simp)))
    rw [show k + 1 + (qu l : Int) = k + ((qu l : Int) + 1) by omega]
@[simp] def bodyA (o : Option Ex) : AV := .agg [.int (o.getD zeroE).op, .int (o.getD zeroE).n, .str (o.getD zeroE).s, .sl ((o.getD zeroE).args.map Ex.av), .bool o.isSome]
@[simp] theorem bodies_cls (l : List (Option Ex)) (m : Nat) : AV.cls m (l.map bodyA) := AV.cls_map (fun f => by simp [-Ex.av_fold]) l
@[simp] theorem bodies_wid (l : List (Option Ex)) : AV.wid (l.map bodyA) 5 := AV.wid_map (f := bodyA) (fun a => rfl) l
@[simp] theorem bodies_elms (l : List (Option Ex)) : AV.elms (l.map bodyA) := AV.elms_map (f := bodyA) (fun a => rfl) l
set_option maxHeartbeats 1000000 in
theorem inline_g (bs : List (Option Ex)) (hbs : ∀ b ∈ bs, parts (b.getD zeroE) ≤ 1000) (e : Ex) : parts e ≤ 990 → wfS bs.length e = true →
    Gives Tryd.prog 78 [e.av, .sl (bs.map bodyA)] (bodyA (inlE bs e)) := by
  induction e using Ex.ind with | h o n s l ih => ?_
  intro hpb hwf
  have hl : l.length ≤ 990 := by rw [parts] at hpb; have := qbu l; omega
  rw [wfS, wfSL_all] at hwf
  simp only [Bool.and_eq_true, List.all_eq_true, Bool.or_eq_true, Bool.not_eq_true', decide_eq_false_iff_not, decide_eq_true_eq] at hwf
  obtain ⟨⟨-, hw2⟩, hw3⟩ := hwf
  obtain ⟨R, hR⟩ : ∃ R, R = inlE bs (.mk o n s l) := ⟨_, rfl⟩
  rw [← hR]
  refine qn Tryd.func78 Tryd.ntmps78 rfl rfl (by decide) rfl (by intro n; simp) fun σ n0 hcl hft => ?_
  repeat (first | (refine qe fun K hK => ?_) | (refine qa ?_; simp (disch := first | omega | simp) [qf]) | (refine hK _ ?_; clear hK; clear K) | (clear hK; clear K; refine hK _ ?_; clear hK; clear K) | (clear hK; clear K; clear hK; clear K; refine hK _ ?_; clear hK; clear K) | refine qc ?_ | (refine qd ?_; simp (disch := first | omega | simp) [qf]) | (refine qi ?_; simp (disch := first | omega | simp)) | (refine qj ?_; simp (disch := first | omega | simp)) | (refine qm ?_; simp (disch := first | omega | simp)))
  refine qca 2 3 52 4 (by rfl) (by rfl) ?_
  refine qx hcl (fun ys : List Ex => [(1, .sl (bs.map bodyA)), (2, .ptr n0 0), (4, .ptr (n0 + 1) 0), (5, .ptr (n0 + 2) 0), (19, .sl (l.map Ex.av)), (20, .int l.length), (21, .int ys.length)]) (fun ys => [.cells [.int o, .int n, .str s, .sl (l.map Ex.av)] 52, .cells [.int 0, .int 0, .str ByteArray.empty, .v (.slice none 0 0), .bool false] 124, .cells [.int o, .int n, .str s, .gs (n0 + 3) (ys.map Ex.av)] 52, .tail ys.length 52 4])
    (fun ys => ∃ k, k ≤ l.length ∧ ys.length = k ∧ inlL bs (l.take k) = some ys) (fun ys => l.length - ys.length) [] (by exact ⟨0, by omega, rfl, by rw [List.take_zero, inlL]⟩) (by simp) fun ys hys => ?_
  obtain ⟨k, hk, rfl, hys⟩ := hys
  by_cases hlt : ys.length < l.length
  · have hpk : parts l[ys.length] ≤ 990 := by rw [parts] at hpb; have := qbi l l[ys.length] (List.getElem_mem hlt); omega
    have hc := ih _ (List.getElem_mem hlt) hpk (hw3 _ (List.getElem_mem hlt))
    cases hx : inlE bs l[ys.length] with
    | none =>
      obtain rfl : R = none := by rw [hR, inlE, inlL_none l (List.getElem_mem hlt) hx]
      rw [hx] at hc
      repeat' (first | ((first | ((with_reducible refine qo (fun hg => ?_) (fun hg => ?_)) <;> (try simp only [hg]) <;> (try simp only [gS] at hg) <;> (try (first | simp only [eq_false hg, gI] | simp only [eq_true hg, gI]))) | (with_reducible first | refine qh ?_ | refine qg ?_ | refine ql ?_ | refine qk ?_) | refine acall (hc) ?_ | refine qq (hc) ?_ | refine qp (hc) ?_ | refine qd ?_ | refine qi ?_ | refine qj ?_ | refine qm ?_) <;> (try simp (disch := first | omega | simp) [qf, -qr, -qw, hlt])) | ((with_reducible refine sideT ?_ ?_); first | omega | assumption | (simp; done)) | (refine qe fun K hK => ?_) | (refine qa ?_) | (refine qb true (by kernel_rfl) (by kernel_rfl) ?_) | (refine qb false (by kernel_rfl) (by kernel_rfl) ?_) | (refine hK _ ?_; clear hK K) | (clear hK K; refine hK _ ?_; clear hK K) | (clear hK K; clear hK K; refine hK _ ?_; clear hK K) | refine qc ?_)
    | some y =>
      rw [hx] at hc
      have hsz : (ys.length + 1) * 64 ≤ 140737488355328 := by omega
      repeat' (first | ((first | ((with_reducible refine qo (fun hg => ?_) (fun hg => ?_)) <;> (try simp only [hg]) <;> (try simp only [gS] at hg) <;> (try (first | simp only [eq_false hg, gI] | simp only [eq_true hg, gI]))) | (with_reducible first | refine qh ?_ | refine qg ?_ | refine ql ?_ | refine qk ?_) | refine acall (hc) ?_ | refine qq (hc) ?_ | refine qp (hc) ?_ | refine qd ?_ | refine qi ?_ | refine qj ?_ | refine qm ?_) <;> (try simp (disch := first | omega | simp) [qf, -qr, -qw, hlt, hsz])) | ((with_reducible refine sideT ?_ ?_); first | omega | assumption | (simp; done)) | (refine qe fun K hK => ?_) | (refine qa ?_) | (refine qb true (by kernel_rfl) (by kernel_rfl) ?_) | (refine qb false (by kernel_rfl) (by kernel_rfl) ?_) | (refine hK _ ?_; clear hK K) | (clear hK K; refine hK _ ?_; clear hK K) | (clear hK K; clear hK K; refine hK _ ?_; clear hK K) | refine qc ?_)
      refine ⟨ys ++ [y], ⟨_, ?_, rfl, ?_⟩, by simp; omega, by simp⟩
      · simp; omega
      rw [List.length_append, List.length_singleton, List.take_succ_eq_append_getElem hlt]
      exact inlL_snoc hx _ hys
  · have hyl : ys.length = l.length := by omega
    rw [hyl, List.take_length] at hys
    have hyp : ∀ y ∈ ys, parts y ≤ 1000 := fun y hy => by
      obtain ⟨e, -, he⟩ := inlL_mem l hys y hy
      exact inlE_parts he
    have tail : ∀ (Z : Ex) (NP : Nat), parts Z = NP → NP ≤ 1000000 → R = fitX Z → (1000 < NP → R = none) ∧ (¬ 1000 < NP → R = some Z) := fun Z NP h1 _ h2 => by
      rw [h2, fitX, h1]
      exact ⟨fun h => if_pos h, fun h => if_neg h⟩
    by_cases ho : o = 22
    · subst ho
      obtain ⟨h0, h1⟩ := hw2.resolve_left (by simp)
      have hn : n.toNat < bs.length := by omega
      cases hb : bs[n.toNat] with
      | none =>
        obtain rfl : R = none := by rw [hR, inlE, hys]; dsimp only; rw [if_pos ⟨rfl, h0, h1⟩, List.getD_eq_getElem?_getD, List.getElem?_eq_getElem hn, hb]; rfl
        repeat (first | (refine qe fun K hK => ?_) | (refine qa ?_; simp (disch := first | omega | simp) [qf, hyl, h0, h1, hb]) | (refine hK _ ?_; clear hK; clear K) | (clear hK; clear K; refine hK _ ?_; clear hK; clear K) | (clear hK; clear K; clear hK; clear K; refine hK _ ?_; clear hK; clear K) | refine qc ?_ | (refine qd ?_; simp (disch := first | omega | simp) [qf, hyl, h0, h1, hb]) | (refine qi ?_; simp (disch := first | omega | simp)) | (refine qj ?_; simp (disch := first | omega | simp)) | (refine qm ?_; simp (disch := first | omega | simp)))
      | some b =>
        have hRb : R = fitX ((putP 4 ys b).getD zeroE) := by rw [hR, inlE, hys]; dsimp only; rw [if_pos ⟨rfl, h0, h1⟩, List.getD_eq_getElem?_getD, List.getElem?_eq_getElem hn, hb]; rfl
        have hpb2 : parts b ≤ 1000 := hbs (some b) (by rw [← hb]; exact List.getElem_mem hn)
        have hpp : parts ((putP 4 ys b).getD zeroE) ≤ 1000000 := by
          cases hput : putP 4 ys b with
          | none => decide
          | some x => have h2 := putP_parts (K := 1000) (by omega) hyp b hput; have : parts b * 1000 ≤ 1000 * 1000 := Nat.mul_le_mul_right _ hpb2; show parts x ≤ _; omega
        have hcall := put_g 4 ys (fun x hx => by have := hyp x hx; omega) b (by omega)
        obtain ⟨Z, hZ⟩ : ∃ Z, Z = (putP 4 ys b).getD zeroE := ⟨_, rfl⟩
        have hcall2 : Gives Tryd.prog 123 [b.av, .int 4, .sl (ys.map Ex.av)] (.tup [Z.av, .bool (putP 4 ys b).isSome]) := by rw [hZ]; exact hcall
        rw [← hZ] at hRb hpp
        obtain ⟨t1, t2⟩ := tail Z _ rfl hpp hRb
        repeat' (first | ((first | ((with_reducible refine qo (fun hg => ?_) (fun hg => ?_)) <;> (try simp only [hg]) <;> (try simp only [gS] at hg) <;> (try (first | simp only [eq_false hg, gI] | simp only [eq_true hg, gI]))) | (with_reducible first | refine qh ?_ | refine qg ?_ | refine ql ?_ | refine qk ?_) | refine acall (hcall2) ?_ | refine qq (hcall2) ?_ | refine qp (hcall2) ?_ | refine qd ?_ | refine qi ?_ | refine qj ?_ | refine qm ?_) <;> (try simp (disch := first | omega | simp) [qf, -qr, -qw, hyl, h0, h1, hb])) | ((with_reducible refine sideT ?_ ?_); first | omega | assumption | (simp; done)) | (refine qe fun K hK => ?_) | (refine qa ?_) | (refine qb true (by kernel_rfl) (by kernel_rfl) ?_) | (refine qb false (by kernel_rfl) (by kernel_rfl) ?_) | (refine hK _ ?_; clear hK K) | (clear hK K; refine hK _ ?_; clear hK K) | (clear hK K; clear hK K; refine hK _ ?_; clear hK K) | refine qc ?_)
        refine acallS (n0 + 5) _ (walk_parts Z 0 (n0 + 5) _ (by omega) (by omega) (by simp)) (by simp) ?_
        generalize parts Z = NP at *
        by_cases hbig : 1000 < NP
        · obtain rfl := t1 hbig
          have hbig' : (1000 : Int) < NP := by omega
          simp (disch := first | omega | simp) [qf]
          repeat (first | (refine qe fun K hK => ?_) | (refine qa ?_; simp (disch := first | omega | simp) [qf, hbig']) | (refine hK _ ?_; clear hK; clear K) | (clear hK; clear K; refine hK _ ?_; clear hK; clear K) | (clear hK; clear K; clear hK; clear K; refine hK _ ?_; clear hK; clear K) | refine qc ?_ | (refine qd ?_; simp (disch := first | omega | simp) [qf, hbig']) | (refine qi ?_; simp (disch := first | omega | simp)) | (refine qj ?_; simp (disch := first | omega | simp)) | (refine qm ?_; simp (disch := first | omega | simp)))
          exact ⟨rfl, rfl, rfl, rfl⟩
        · obtain rfl := t2 hbig
          have hbig' : ¬ (1000 : Int) < NP := by omega
          simp (disch := first | omega | simp) [qf]
          repeat (first | (refine qe fun K hK => ?_) | (refine qa ?_; simp (disch := first | omega | simp) [qf, hbig']) | (refine hK _ ?_; clear hK; clear K) | (clear hK; clear K; refine hK _ ?_; clear hK; clear K) | (clear hK; clear K; clear hK; clear K; refine hK _ ?_; clear hK; clear K) | refine qc ?_ | (refine qd ?_; simp (disch := first | omega | simp) [qf, hbig']) | (refine qi ?_; simp (disch := first | omega | simp)) | (refine qj ?_; simp (disch := first | omega | simp)) | (refine qm ?_; simp (disch := first | omega | simp)))
    · have hRb : R = fitX (.mk o n s ys) := by rw [hR, inlE, hys]; dsimp only; rw [if_neg (fun h => ho h.1)]
      have hpp : parts (.mk o n s ys) ≤ 1000000 := by
        have h2 := partsL_bound (K := 1000) ys hyp
        have : ys.length * 1000 ≤ 990 * 1000 := Nat.mul_le_mul_right _ (by omega)
        rw [parts]; omega
      generalize hZ : Ex.mk o n s ys = Z at *
      have hZf : AV.agg [.int o, .int n, .str s, .sl (ys.map Ex.av)] = Z.av := by rw [← hZ, Ex.av_mk]
      have hZo : Z.op = o ∧ Z.n = n ∧ Z.s = s ∧ Z.args = ys := by rw [← hZ]; exact ⟨rfl, rfl, rfl, rfl⟩
      obtain ⟨t1, t2⟩ := tail Z _ rfl hpp hRb
      have h22 : (o == 22) = false := by simp [ho]
      repeat (first | (refine qe fun K hK => ?_) | (refine qa ?_; simp (disch := first | omega | simp) [qf, hyl, h22]) | (refine hK _ ?_; clear hK; clear K) | (clear hK; clear K; refine hK _ ?_; clear hK; clear K) | (clear hK; clear K; clear hK; clear K; refine hK _ ?_; clear hK; clear K) | refine qc ?_ | (refine qd ?_; simp (disch := first | omega | simp) [qf, hyl, h22]) | (refine qi ?_; simp (disch := first | omega | simp)) | (refine qj ?_; simp (disch := first | omega | simp)) | (refine qm ?_; simp (disch := first | omega | simp)))
      refine acallS (n0 + 4) _ (by rw [hZf]; exact walk_parts Z 0 (n0 + 4) _ (by omega) (by omega) (by simp)) (by simp) ?_
      generalize parts Z = NP at *
      by_cases hbig : 1000 < NP
      · obtain rfl := t1 hbig
        have hbig' : (1000 : Int) < NP := by omega
        simp (disch := first | omega | simp) [qf]
        repeat (first | (refine qe fun K hK => ?_) | (refine qa ?_; simp (disch := first | omega | simp) [qf, hbig']) | (refine hK _ ?_; clear hK; clear K) | (clear hK; clear K; refine hK _ ?_; clear hK; clear K) | (clear hK; clear K; clear hK; clear K; refine hK _ ?_; clear hK; clear K) | refine qc ?_ | (refine qd ?_; simp (disch := first | omega | simp) [qf, hbig']) | (refine qi ?_; simp (disch := first | omega | simp)) | (refine qj ?_; simp (disch := first | omega | simp)) | (refine qm ?_; simp (disch := first | omega | simp)))
        exact ⟨rfl, rfl, rfl, rfl⟩
      · obtain rfl := t2 hbig
        have hbig' : ¬ (1000 : Int) < NP := by omega
        simp (disch := first | omega | simp) [qf]
        repeat (first | (refine qe fun K hK => ?_) | (refine qa ?_; simp (disch := first | omega | simp) [qf, hbig', hZo]) | (refine hK _ ?_; clear hK; clear K) | (clear hK; clear K; refine hK _ ?_; clear hK; clear K) | (clear hK; clear K; clear hK; clear K; refine hK _ ?_; clear hK; clear K) | refine qc ?_ | (refine qd ?_; simp (disch := first | omega | simp) [qf, hbig', hZo]) | (refine qi ?_; simp (disch := first | omega | simp)) | (refine qj ?_; simp (disch := first | omega | simp)) | (refine qm ?_; simp (disch := first | omega | simp)))
        exact ⟨hZo.1.symm, hZo.2.1.symm, hZo.2.2.1.symm, by rw [hZo.2.2.2]⟩
set_option maxHeartbeats 1000000 in
theorem Inline_g (F : List Fn) (hF : ∀ f ∈ F, parts f.body ≤ 990) (hlF : F.length ≤ 1000) (hwF : ∀ i (h : i < F.length), wfS i F[i].body = true) (e : Ex) (he : parts e ≤ 990) (hwf : wfS F.length e = true) :
    Gives Tryd.prog 51 [.sl (F.map Fn.av), e.av] (exr (qco F e)) := by
  obtain ⟨R, hR⟩ : ∃ R, R = qco F e := ⟨_, rfl⟩
  rw [← hR]
  refine qn Tryd.func51 Tryd.ntmps51 rfl rfl (by decide) rfl (by intro n; simp) fun σ n0 hcl hft => ?_
  repeat (first | (refine qe fun K hK => ?_) | (refine qa ?_; simp (disch := first | omega | simp) [qf]) | (refine hK _ ?_; clear hK; clear K) | (clear hK; clear K; refine hK _ ?_; clear hK; clear K) | (clear hK; clear K; clear hK; clear K; refine hK _ ?_; clear hK; clear K) | refine qc ?_ | (refine qd ?_; simp (disch := first | omega | simp) [qf]) | (refine qi ?_; simp (disch := first | omega | simp)) | (refine qj ?_; simp (disch := first | omega | simp)) | (refine qm ?_; simp (disch := first | omega | simp)))
  refine awp_adoptR 6 124 5 (by simp) ?_
  simp only [List.length_append, List.length_cons, List.length_nil, Nat.zero_add, Nat.reduceAdd, List.cons_append, List.nil_append]
  refine qx hcl (fun k : Nat => [(3, .ptr n0 0), (4, .ptr (n0 + 1) 0), (6, .gs (n0 + 2) ((inlB [] (F.take k)).map bodyA)), (10, .sl (F.map Fn.av)), (11, .int F.length), (12, .int k)]) (fun k => [.cells [.int e.op, .int e.n, .str e.s, .sl (e.args.map Ex.av)] 52, .cells [.int 0, .int 0, .str ByteArray.empty, .v (.slice none 0 0)] 52, .tail k 124 5])
    (fun k => k ≤ F.length) (fun k => F.length - k) 0 (by simp) (by simp [inlB]) fun k hk => ?_
  have hlen : (inlB [] (F.take k)).length = k := by rw [inlB_len]; simp; omega
  have hbs := inlB_parts (F.take k)
  have hsn : ∀ (h : k < F.length), inlB [] (F.take (k + 1)) = inlB [] (F.take k) ++ [inlE (inlB [] (F.take k)) F[k].body] := fun h => by rw [List.take_succ_eq_append_getElem h, inlB_snoc]
  have hfin : k = F.length → qco F e = match inlE (inlB [] (F.take k)) e with
      | some x => if 12 < levels x then none else some x
      | none => none := fun h => by rw [h, List.take_length]; rfl
  generalize inlB [] (F.take k) = bs at *
  have hcall := fun e he hw => inline_g bs hbs e he hw
  by_cases hlt : k < F.length
  · repeat (first | (refine qe fun K hK => ?_) | (refine qa ?_; simp (disch := first | omega | simp) [qf, hlt]) | (refine hK _ ?_; clear hK; clear K) | (clear hK; clear K; refine hK _ ?_; clear hK; clear K) | (clear hK; clear K; clear hK; clear K; refine hK _ ?_; clear hK; clear K) | refine qc ?_ | (refine qd ?_; simp (disch := first | omega | simp) [qf, hlt]) | (refine qi ?_; simp (disch := first | omega | simp)) | (refine qj ?_; simp (disch := first | omega | simp)) | (refine qm ?_; simp (disch := first | omega | simp)))
    refine acall (hcall F[k].body (hF _ (List.getElem_mem hlt)) (by rw [hlen]; exact hwF k hlt)) ?_
    simp (disch := first | omega | simp) [qf, hlen]
    refine ⟨by omega, ?_⟩
    repeat (first | (refine qe fun K hK => ?_) | (refine qa ?_; simp (disch := first | omega | simp) [qf]) | (refine hK _ ?_; clear hK; clear K) | (clear hK; clear K; refine hK _ ?_; clear hK; clear K) | (clear hK; clear K; clear hK; clear K; refine hK _ ?_; clear hK; clear K) | refine qc ?_ | (refine qd ?_; simp (disch := first | omega | simp) [qf]) | (refine qi ?_; simp (disch := first | omega | simp)) | (refine qj ?_; simp (disch := first | omega | simp)) | (refine qm ?_; simp (disch := first | omega | simp)))
    refine ⟨k + 1, by omega, by omega, ?_⟩
    rw [hsn hlt]
    simp
  · have hkl : k = F.length := by omega
    have hRR := hR.trans (hfin hkl)
    have hc := hcall e he (by rw [hlen, hkl]; exact hwf)
    have hlv : levels ((inlE bs e).getD zeroE) ≤ 1000000 := by
      cases hx : inlE bs e with
      | none => show levels zeroE ≤ _; decide
      | some y => have := inlE_parts hx; have := qdp y; show levels y ≤ _; omega
    have hlvg := levels_g _ hlv
    subst hkl
    cases hx : inlE bs e with
    | none =>
      rw [hx] at hc
      obtain rfl : R = none := by rw [hRR, hx]
      repeat' (first | ((first | ((with_reducible refine qo (fun hg => ?_) (fun hg => ?_)) <;> (try simp only [hg]) <;> (try simp only [gS] at hg) <;> (try (first | simp only [eq_false hg, gI] | simp only [eq_true hg, gI]))) | (with_reducible first | refine qh ?_ | refine qg ?_ | refine ql ?_ | refine qk ?_) | refine acall (hc) ?_ | refine qq (hc) ?_ | refine qp (hc) ?_ | refine qd ?_ | refine qi ?_ | refine qj ?_ | refine qm ?_) <;> (try simp (disch := first | omega | simp) [qf, -qr, -qw])) | ((with_reducible refine sideT ?_ ?_); first | omega | assumption | (simp; done)) | (refine qe fun K hK => ?_) | (refine qa ?_) | (refine qb true (by kernel_rfl) (by kernel_rfl) ?_) | (refine qb false (by kernel_rfl) (by kernel_rfl) ?_) | (refine hK _ ?_; clear hK K) | (clear hK K; refine hK _ ?_; clear hK K) | (clear hK K; clear hK K; refine hK _ ?_; clear hK K) | refine qc ?_)
    | some y =>
      rw [hx] at hRR hlvg hc
      replace hlvg : Gives Tryd.prog 79 [y.av] (.int (levels y)) := hlvg
      by_cases h12 : 12 < levels y
      · obtain rfl : R = none := by rw [hRR]; dsimp only; rw [if_pos h12]
        have h12' : (12 : Int) < levels y := by omega
        repeat' (first | ((first | ((with_reducible refine qo (fun hg => ?_) (fun hg => ?_)) <;> (try simp only [hg]) <;> (try simp only [gS] at hg) <;> (try (first | simp only [eq_false hg, gI] | simp only [eq_true hg, gI]))) | (with_reducible first | refine qh ?_ | refine qg ?_ | refine ql ?_ | refine qk ?_) | refine acall (hc) ?_ | refine qq (hc) ?_ | refine qp (hc) ?_ | refine acall (hlvg) ?_ | refine qq (hlvg) ?_ | refine qp (hlvg) ?_ | refine qd ?_ | refine qi ?_ | refine qj ?_ | refine qm ?_) <;> (try simp (disch := first | omega | simp) [qf, -qr, -qw, h12'])) | ((with_reducible refine sideT ?_ ?_); first | omega | assumption | (simp; done)) | (refine qe fun K hK => ?_) | (refine qa ?_) | (refine qb true (by kernel_rfl) (by kernel_rfl) ?_) | (refine qb false (by kernel_rfl) (by kernel_rfl) ?_) | (refine hK _ ?_; clear hK K) | (clear hK K; refine hK _ ?_; clear hK K) | (clear hK K; clear hK K; refine hK _ ?_; clear hK K) | refine qc ?_)
      · obtain rfl : R = some y := by rw [hRR]; dsimp only; rw [if_neg h12]
        have h12' : ¬ (12 : Int) < levels y := by omega
        repeat' (first | ((first | ((with_reducible refine qo (fun hg => ?_) (fun hg => ?_)) <;> (try simp only [hg]) <;> (try simp only [gS] at hg) <;> (try (first | simp only [eq_false hg, gI] | simp only [eq_true hg, gI]))) | (with_reducible first | refine qh ?_ | refine qg ?_ | refine ql ?_ | refine qk ?_) | refine acall (hc) ?_ | refine qq (hc) ?_ | refine qp (hc) ?_ | refine acall (hlvg) ?_ | refine qq (hlvg) ?_ | refine qp (hlvg) ?_ | refine qd ?_ | refine qi ?_ | refine qj ?_ | refine qm ?_) <;> (try simp (disch := first | omega | simp) [qf, -qr, -qw, h12'])) | ((with_reducible refine sideT ?_ ?_); first | omega | assumption | (simp; done)) | (refine qe fun K hK => ?_) | (refine qa ?_) | (refine qb true (by kernel_rfl) (by kernel_rfl) ?_) | (refine qb false (by kernel_rfl) (by kernel_rfl) ?_) | (refine hK _ ?_; clear hK K) | (clear hK K; refine hK _ ?_; clear hK K) | (clear hK K; clear hK K; refine hK _ ?_; clear hK K) | refine qc ?_)
end Go.Proofs.YtnkakofcejkhiaaDoor

/- Tables of the program: the address of an element of a global array, and what stands there. -/
namespace Go.Proofs.YtnkakofcejkhiaaDoor
open Go.RowKit Go.Lib
section
variable {P : Program} {ev : Operand → AV} {σ : Nat → AB}
theorem fop_indexG {t e : TypeId} {n g : Nat} {p i : Operand} {ik : IntKind} {k : Int} {ag : Bool} {sz : Nat} (ht : P.underlying t = some (.array n e)) (hs : tinfo P e = some (ag, sz)) (hp : ev p = .v (.pointer (some ⟨g, 0, none⟩))) (hi : ev i = .v (.int ik k)) (h0 : 0 ≤ k) (h1 : k < n) :
    FOp P ev σ (.indexAddr t p i) (.v (.pointer (some ⟨g, k.toNat * sz, none⟩))) none := FOp.of fun X a oper ho hS hsub hev => by
  have h := hev p (by simp [Op.operands])
  have h2 := hev i (by simp [Op.operands])
  rw [hp, RR.v] at h; rw [hi, RR.v] at h2
  refine ⟨.pointer (some ⟨g, k.toNat * sz, none⟩), ?_, RR.v.2 rfl⟩
  have := (qbz hs X.w).2
  simp [execOp, ho, h, h2, Instr.indexAt, Instr.sureAddr, asIntOf, underlying, ht, h0, h1, this, qbm]
theorem fop_loadG {t : TypeId} {p : Operand} {g o n : Nat} {cs : List Value} {v : Value} (ht : tinfo P t = some (false, n)) (hp : ev p = .v (.pointer (some ⟨g, o, none⟩))) (hg : gtab g = some cs) (hv : cs[o]? = some v) :
    FOp P ev σ (.load t p) (.v v) none := FOp.of fun X a oper ho hS hsub hev => by
  have h := hev p (by simp [Op.operands])
  rw [hp, RR.v] at h
  have hG := gtab_ok hS.glob hg
  have hc := hG.1.at.get o v hv
  rw [Nat.zero_add] at hc
  refine ⟨v, ?_, RR.v.2 rfl⟩
  have h1 : (loadVar t ⟨g, o, none⟩).run P X.w = .ok v X.w := by simp [loadVar, (qbz ht X.w).1, hc]
  simp [execOp, ho, h, Instr.loadAt, Instr.sureAddr, h1]
end
def aevG (P : Program) (s : AS) (o : Op) (K : AV → AS → Prop) : Prop :=
  match o with
  | .indexAddr t p i => match P.underlying t with
    | some (.array n e) => match tinfo P e, s.eval p, s.eval i with
      | some (_, sz), .v (.pointer (some ⟨g, 0, none⟩)), .v (.int _ k) => 0 ≤ k ∧ k < n ∧ K (.v (.pointer (some ⟨g, k.toNat * sz, none⟩))) s
      | _, _, _ => False
    | _ => aev P s (.indexAddr t p i) K
  | .load t p => match s.eval p with
    | .v (.pointer (some ⟨g, o, none⟩)) => match tinfo P t, gtab g with
      | some (false, _), some cs => match cs[o]? with
        | some v => K (.v v) s
        | none => False
      | _, _ => False
    | _ => aev P s (.load t p) K
  | o => aev P s o K
theorem aevG_sound {P : Program} {s : AS} {o : Op} {K : AV → AS → Prop} (h : aevG P s o K) : EOp P s o K := by
  unfold aevG at h
  split at h
  · split at h
    · split at h
      · exact eop_fun (nb := none) (fop_indexG ‹_› ‹_› ‹_› ‹_› h.1 h.2.1) h.2.2
      · exact h.elim
    · exact qcs h
  · split at h
    · split at h
      · split at h
        · exact eop_fun (nb := none) (fop_loadG ‹_› ‹_› ‹_› ‹_›) h
        · exact h.elim
      · exact h.elim
    · exact qcs h
  · exact qcs h
def aseqG (P : Program) (ops : Array Oper) (K : AS → Prop) : List Oper → AS → Prop
  | [], s => K s
  | o :: l, s => match awant ops o s.t with
    | some b => qbp b (aevG P s o.op (fun x s1 => dstOk o.dst s1.n ∧ aseqG P ops K l (s1.put o.dst x))) (dstOk o.dst s.n ∧ aseqG P ops K l (s.put o.dst (.v undef)))
    | none => False
theorem aseqG_sound {P : Program} {ops : Array Oper} {K : AS → Prop} : ∀ {l : List Oper} {s : AS}, aseqG P ops K l s → aseq P ops K l s
  | [], _, h => h
  | o :: l, s, h => by
    rw [aseqG] at h
    rw [aseq]
    split at h
    · rename_i b hb
      cases b with
      | true => exact ⟨true, hb, (aevG_sound (h.1 rfl)).mono fun x s1 ⟨h1, h2⟩ => ⟨h1, aseqG_sound h2⟩⟩
      | false => exact ⟨false, hb, (h.2 rfl).1, aseqG_sound (h.2 rfl).2⟩
    · exact h.elim
theorem awp_regionG {P : Program} {s : AS} {id : Nat} {l : List Oper} {Q : Exit → AS → Prop} (h : aseqG P l.toArray (Q .normal) l s) : awp P (.region id l.toArray false) Q s := qeb (aseqG_sound h)
theorem aseqG_step {P : Program} {ops : Array Oper} {K : AS → Prop} {o : Oper} {l : List Oper} {s : AS} (h : match awant ops o s.t with
    | some b => qbp b (aevG P s o.op (fun x s1 => dstOk o.dst s1.n ∧ aseqG P ops K l (s1.put o.dst x))) (dstOk o.dst s.n ∧ aseqG P ops K l (s.put o.dst (.v undef)))
    | none => False) : aseqG P ops K (o :: l) s := h
theorem aseqG_end {P : Program} {ops : Array Oper} {K : AS → Prop} {s : AS} (h : K s) : aseqG P ops K [] s := h
attribute [simp] aevG
end Go.Proofs.YtnkakofcejkhiaaDoor

/- Slices that a call does not make: parts of them. -/
namespace Go.Proofs.YtnkakofcejkhiaaDoor
@[simp] theorem AV.cls_take {m : Nat} {l : List AV} (h : AV.cls m l) (k : Nat) : AV.cls m (l.take k) := AV.cls_iff.2 fun x hx => AV.cls_iff.1 h x (List.mem_of_mem_take hx)
@[simp] theorem AV.cls_drop {m : Nat} {l : List AV} (h : AV.cls m l) (k : Nat) : AV.cls m (l.drop k) := AV.cls_iff.2 fun x hx => AV.cls_iff.1 h x (List.mem_of_mem_drop hx)
@[simp] theorem AV.cls_replicate {m n : Nat} {x : AV} (h : x.cl m) : AV.cls m (List.replicate n x) := AV.cls_iff.2 fun y hy => by rw [(List.mem_replicate.1 hy).2]; exact h
theorem loc_nil {σ : Nat → AB} {n0 : Nat} (h : Fin σ n0) : loc σ n0 [] = σ := by
  funext r
  unfold loc
  split
  · rfl
  · rename_i hr; rw [h r (by omega)]; rfl
end Go.Proofs.YtnkakofcejkhiaaDoor

/- Walks of layer 25: operations, operands, and whether an instruction is formed. -/
namespace Go.Proofs.YtnkakofcejkhiaaDoor
open Go.RowKit Go.Lib
theorem isOp_g (o : Int) : Gives Tryd.prog 102 [.int o] (.bool (opOk o)) := by
  by_cases h : 0 ≤ o ∧ o < 23
  · have h2 : o = 0 ∨ o = 1 ∨ o = 2 ∨ o = 3 ∨ o = 4 ∨ o = 5 ∨ o = 6 ∨ o = 7 ∨ o = 8 ∨ o = 9 ∨ o = 10 ∨ o = 11 ∨ o = 12 ∨ o = 13 ∨ o = 14 ∨ o = 15 ∨ o = 16 ∨ o = 17 ∨ o = 18 ∨ o = 19 ∨ o = 20 ∨ o = 21 ∨ o = 22 := by omega
    clear h
    rcases h2 with rfl | rfl | rfl | rfl | rfl | rfl | rfl | rfl | rfl | rfl | rfl | rfl | rfl | rfl | rfl | rfl | rfl | rfl | rfl | rfl | rfl | rfl | rfl
    all_goals
      refine qn Tryd.func102 Tryd.ntmps102 rfl rfl (by decide) rfl (by intro n; simp) fun σ n0 hcl hft => ?_
      repeat' (first | ((first | ((with_reducible refine qo (fun hg => ?_) (fun hg => ?_)) <;> (try simp only [hg]) <;> (try simp only [gS] at hg) <;> (try (first | simp only [eq_false hg, gI] | simp only [eq_true hg, gI]))) | (with_reducible first | refine qh ?_ | refine qg ?_ | refine ql ?_ | refine qk ?_ | refine aseqG_step ?_ | refine aseqG_end ?_) | refine qd ?_ | refine qi ?_ | refine qj ?_ | refine qm ?_) <;> (try simp (disch := first | omega | simp) [qf, -qr, -qw])) | (with_reducible refine awp_regionG (id := 1) ?_) | ((with_reducible refine sideT ?_ ?_); first | omega | assumption | (simp; done)) | (refine qe fun K hK => ?_) | (refine qa ?_) | (refine qb true (by kernel_rfl) (by kernel_rfl) ?_) | (refine qb false (by kernel_rfl) (by kernel_rfl) ?_) | (refine hK _ ?_; clear hK K) | (clear hK K; refine hK _ ?_; clear hK K) | (clear hK K; clear hK K; refine hK _ ?_; clear hK K) | refine qc ?_)
      try rfl
  · have hf : opOk o = false := by unfold opOk; simp; omega
    rw [hf]
    by_cases h0 : 0 ≤ o
    · have h1 : ¬ o < 23 := by omega
      refine qn Tryd.func102 Tryd.ntmps102 rfl rfl (by decide) rfl (by intro n; simp) fun σ n0 hcl hft => ?_
      repeat' (first | ((first | ((with_reducible refine qo (fun hg => ?_) (fun hg => ?_)) <;> (try simp only [hg]) <;> (try simp only [gS] at hg) <;> (try (first | simp only [eq_false hg, gI] | simp only [eq_true hg, gI]))) | (with_reducible first | refine qh ?_ | refine qg ?_ | refine ql ?_ | refine qk ?_ | refine aseqG_step ?_ | refine aseqG_end ?_) | refine qd ?_ | refine qi ?_ | refine qj ?_ | refine qm ?_) <;> (try simp (disch := first | omega | simp) [qf, -qr, -qw, h0, h1])) | (with_reducible refine awp_regionG (id := 1) ?_) | ((with_reducible refine sideT ?_ ?_); first | omega | assumption | (simp; done)) | (refine qe fun K hK => ?_) | (refine qa ?_) | (refine qb true (by kernel_rfl) (by kernel_rfl) ?_) | (refine qb false (by kernel_rfl) (by kernel_rfl) ?_) | (refine hK _ ?_; clear hK K) | (clear hK K; refine hK _ ?_; clear hK K) | (clear hK K; clear hK K; refine hK _ ?_; clear hK K) | refine qc ?_)
    · refine qn Tryd.func102 Tryd.ntmps102 rfl rfl (by decide) rfl (by intro n; simp) fun σ n0 hcl hft => ?_
      repeat' (first | ((first | ((with_reducible refine qo (fun hg => ?_) (fun hg => ?_)) <;> (try simp only [hg]) <;> (try simp only [gS] at hg) <;> (try (first | simp only [eq_false hg, gI] | simp only [eq_true hg, gI]))) | (with_reducible first | refine qh ?_ | refine qg ?_ | refine ql ?_ | refine qk ?_ | refine aseqG_step ?_ | refine aseqG_end ?_) | refine qd ?_ | refine qi ?_ | refine qj ?_ | refine qm ?_) <;> (try simp (disch := first | omega | simp) [qf, -qr, -qw, h0])) | (with_reducible refine awp_regionG (id := 1) ?_) | ((with_reducible refine sideT ?_ ?_); first | omega | assumption | (simp; done)) | (refine qe fun K hK => ?_) | (refine qa ?_) | (refine qb true (by kernel_rfl) (by kernel_rfl) ?_) | (refine qb false (by kernel_rfl) (by kernel_rfl) ?_) | (refine hK _ ?_; clear hK K) | (clear hK K; refine hK _ ?_; clear hK K) | (clear hK K; clear hK K; refine hK _ ?_; clear hK K) | refine qc ?_)
theorem arity_g (o : Int) : Gives Tryd.prog 103 [.int o] (.int (arO o)) := by
  obtain ⟨R, hR⟩ : ∃ R, R = arO o := ⟨_, rfl⟩
  rw [← hR]
  unfold arO at hR
  refine qn Tryd.func103 Tryd.ntmps103 rfl rfl (by decide) rfl (by intro n; simp) fun σ n0 hcl hft => ?_
  repeat' (first | ((first | ((with_reducible refine qo (fun hg => ?_) (fun hg => ?_)) <;> (try simp only [hg]) <;> (try simp only [gS] at hg) <;> (try (first | simp only [eq_false hg, gI] | simp only [eq_true hg, gI]))) | (with_reducible first | refine qh ?_ | refine qg ?_ | refine ql ?_ | refine qk ?_) | refine qd ?_ | refine qi ?_ | refine qj ?_ | refine qm ?_) <;> (try simp (disch := first | omega | simp) [qf, -qr, -qw])) | ((with_reducible refine sideT ?_ ?_); first | omega | assumption | (simp; done)) | (refine qe fun K hK => ?_) | (refine qa ?_) | (refine qb true (by kernel_rfl) (by kernel_rfl) ?_) | (refine qb false (by kernel_rfl) (by kernel_rfl) ?_) | (refine hK _ ?_; clear hK K) | (clear hK K; refine hK _ ?_; clear hK K) | (clear hK K; clear hK K; refine hK _ ?_; clear hK K) | refine qc ?_)
  all_goals (subst hR; simp_all)
theorem ops_g (x : Ins) : Gives Tryd.prog 56 [x.av] (.sl ((opsP x).map AV.int)) := by
  have c1 := isOp_g x.op
  have c2 := arity_g x.op
  have hle := arO_le x.op
  unfold opsP
  generalize opOk x.op = b at *
  generalize arO x.op = n at *
  have hcl : ∀ m, AV.cls m ([AV.int x.a, .int x.b, .int x.c].take n) := fun m => AV.cls_take (by simp) n
  cases b
  · refine qn Tryd.func56 Tryd.ntmps56 rfl rfl (by decide) rfl (by intro n; simp) fun σ n0 hcl hft => ?_
    repeat' (first | ((first | ((with_reducible refine qo (fun hg => ?_) (fun hg => ?_)) <;> (try simp only [hg]) <;> (try simp only [gS] at hg) <;> (try (first | simp only [eq_false hg, gI] | simp only [eq_true hg, gI]))) | (with_reducible first | refine qh ?_ | refine qg ?_ | refine ql ?_ | refine qk ?_) | refine acall (c1) ?_ | refine qq (c1) ?_ | refine qp (c1) ?_ | refine qd ?_ | refine qi ?_ | refine qj ?_ | refine qm ?_) <;> (try simp (disch := first | omega | simp) [qf, -qr, -qw])) | ((with_reducible refine sideT ?_ ?_); first | omega | assumption | (simp; done)) | (refine qe fun K hK => ?_) | (refine qa ?_) | (refine qb true (by kernel_rfl) (by kernel_rfl) ?_) | (refine qb false (by kernel_rfl) (by kernel_rfl) ?_) | (refine hK _ ?_; clear hK K) | (clear hK K; refine hK _ ?_; clear hK K) | (clear hK K; clear hK K; refine hK _ ?_; clear hK K) | refine qc ?_)
  · refine qn Tryd.func56 Tryd.ntmps56 rfl rfl (by decide) rfl (by intro n; simp) fun σ n0 hcl hft => ?_
    repeat' (first | ((first | ((with_reducible refine qo (fun hg => ?_) (fun hg => ?_)) <;> (try simp only [hg]) <;> (try simp only [gS] at hg) <;> (try (first | simp only [eq_false hg, gI] | simp only [eq_true hg, gI]))) | (with_reducible first | refine qh ?_ | refine qg ?_ | refine ql ?_ | refine qk ?_) | refine acall (c1) ?_ | refine qq (c1) ?_ | refine qp (c1) ?_ | refine acall (c2) ?_ | refine qq (c2) ?_ | refine qp (c2) ?_ | refine qd ?_ | refine qi ?_ | refine qj ?_ | refine qm ?_) <;> (try simp (disch := first | omega | simp) [qf, -qr, -qw])) | ((with_reducible refine sideT ?_ ?_); first | omega | assumption | (simp; done)) | (refine qe fun K hK => ?_) | (refine qa ?_) | (refine qb true (by kernel_rfl) (by kernel_rfl) ?_) | (refine qb false (by kernel_rfl) (by kernel_rfl) ?_) | (refine hK _ ?_; clear hK K) | (clear hK K; refine hK _ ?_; clear hK K) | (clear hK K; clear hK K; refine hK _ ?_; clear hK K) | refine qc ?_)
    all_goals first | exact hcl _ | simp_all
def bareI (x : Ins) : Ins := ⟨x.op, x.to, if 1 ≤ arO x.op then x.a else 0, if 2 ≤ arO x.op then x.b else 0, if 3 ≤ arO x.op then x.c else 0, if x.op = 0 ∨ x.op = 2 ∨ x.op = 3 then x.n else 0, if x.op = 1 then x.s else ByteArray.empty⟩
set_option maxHeartbeats 4000000 in
theorem bare_g (x : Ins) : Gives Tryd.prog 109 [x.av] (bareI x).av := by
  have c2 := arity_g x.op
  have hle := arO_le x.op
  obtain ⟨R, hR⟩ : ∃ R, R = bareI x := ⟨_, rfl⟩
  rw [← hR]
  unfold bareI at hR
  generalize arO x.op = n at *
  have hn : n = 0 ∨ n = 1 ∨ n = 2 ∨ n = 3 := by omega
  rcases hn with rfl | rfl | rfl | rfl
  all_goals
    refine qn Tryd.func109 Tryd.ntmps109 rfl rfl (by decide) rfl (by intro n; simp) fun σ n0 hcl hft => ?_
    repeat' (first | ((first | ((with_reducible refine qo (fun hg => ?_) (fun hg => ?_)) <;> (try simp only [hg]) <;> (try simp only [gS] at hg) <;> (try (first | simp only [eq_false hg, gI] | simp only [eq_true hg, gI]))) | (with_reducible first | refine qh ?_ | refine qg ?_ | refine ql ?_ | refine qk ?_) | refine acall (c2) ?_ | refine qq (c2) ?_ | refine qp (c2) ?_ | refine qd ?_ | refine qi ?_ | refine qj ?_ | refine qm ?_) <;> (try simp (disch := first | omega | simp) [qf, -qr, -qw])) | ((with_reducible refine sideT ?_ ?_); first | omega | assumption | (simp; done)) | (refine qe fun K hK => ?_) | (refine qa ?_) | (refine qb true (by kernel_rfl) (by kernel_rfl) ?_) | (refine qb false (by kernel_rfl) (by kernel_rfl) ?_) | (refine hK _ ?_; clear hK K) | (clear hK K; refine hK _ ?_; clear hK K) | (clear hK K; clear hK K; refine hK _ ?_; clear hK K) | refine qc ?_ | (clear hK; clear K; clear hK; clear K; clear hK; clear K; refine hK _ ?_; clear hK; clear K) | (clear hK; clear K; clear hK; clear K; clear hK; clear K; clear hK; clear K; refine hK _ ?_; clear hK; clear K) | (clear hK; clear K; clear hK; clear K; clear hK; clear K; clear hK; clear K; clear hK; clear K; refine hK _ ?_; clear hK; clear K) | (clear hK; clear K; clear hK; clear K; clear hK; clear K; clear hK; clear K; clear hK; clear K; clear hK; clear K; refine hK _ ?_; clear hK; clear K))
    all_goals
      subst hR
      simp_all [Ins.av, -Ins.av_fold]
end Go.Proofs.YtnkakofcejkhiaaDoor

/- api.Code as an abstract value. -/
namespace Go.Proofs.YtnkakofcejkhiaaDoor
open Go.RowKit Go.Lib
def Cod.av (x : Cod) : AV := .agg [.sl (x.ins.map Ins.av), .sl (x.types.map AV.int), .int x.out]
@[simp] theorem Cod.av_nt (x : Cod) : x.av.nt = true := rfl
@[simp] theorem Cod.av_sure (x : Cod) : x.av.sure = true := rfl
@[simp] theorem Cod.av_elem (x : Cod) : x.av.elem = true := rfl
@[simp] theorem Cod.av_width (x : Cod) : x.av.width = 3 := rfl
@[simp] theorem Cod.av_pub (x : Cod) : x.av.pub = x.av := by unfold Cod.av; rw [AV.pub]; simp only [AV.pubs_cons, AV.pubs_nil, AV.pub_v, pubV, AV.pub_sl]
@[simp] theorem Cod.av_cells (x : Cod) : x.av.cells = [.sl (x.ins.map Ins.av), .sl (x.types.map AV.int), .int x.out] := rfl
@[simp] theorem Cod.av_fold (x : Cod) : AV.agg [.sl (x.ins.map Ins.av), .sl (x.types.map AV.int), .int x.out] = x.av := rfl
@[simp] theorem Cod.av_val? (x : Cod) : x.av.val? = none := rfl
@[simp] theorem Cod.rd_all (x : Cod) (σ : Nat → AB) : rdAt σ true 3 (.ep x.av 0) = some x.av := rfl
@[simp] theorem Cod.rd_0 (x : Cod) (σ : Nat → AB) (n : Nat) : rdAt σ false n (.ep x.av 0) = some (.sl (x.ins.map Ins.av)) := rfl
@[simp] theorem Cod.rd_1 (x : Cod) (σ : Nat → AB) (n : Nat) : rdAt σ false n (.ep x.av 1) = some (.sl (x.types.map AV.int)) := rfl
@[simp] theorem Cod.rd_2 (x : Cod) (σ : Nat → AB) (n : Nat) : rdAt σ false n (.ep x.av 2) = some (.int x.out) := rfl
@[simp] theorem Cod.av_cl (x : Cod) (m : Nat) : x.av.cl m := by unfold Cod.av; simp [-Cod.av_fold]
@[simp] theorem Cod.avs_cl (l : List Cod) (m : Nat) : AV.cls m (l.map Cod.av) := AV.cls_map (fun f => f.av_cl m) l
@[simp] theorem Cod.avs_wid (l : List Cod) : AV.wid (l.map Cod.av) 3 := AV.wid_map (f := Cod.av) (fun a => a.av_width) l
@[simp] theorem Cod.avs_elms (l : List Cod) : AV.elms (l.map Cod.av) := AV.elms_map (f := Cod.av) (fun a => a.av_elem) l
theorem Cod.d_av (x : Cod) : x.d.av = x.av := by
  simp only [Cod.d, Cod.av, D.av, D.cs, D.avs_map, List.map_map, List.nil_append, List.cons_append, List.append_nil]
  rw [show D.av ∘ Ins.d = Ins.av from funext Ins.d_av]
  try rfl
theorem Cod.ds_av (l : List Cod) : (D.sl (l.map Cod.d)).av = .sl (l.map Cod.av) := by
  rw [D.av, D.avs_map, List.map_map]
  first
  | rfl
  | (congr 1; exact List.map_congr_left fun x _ => x.d_av)
theorem Cod.flat {w : World} {x : Cod} {cs : List Value} (h : Rd w Any x.d cs) : RR1 (St.flat w) x.av (.agg cs.toArray) := by
  have := qdn h
  rw [Cod.d_av, Cod.av, RC] at this
  exact ⟨cs, rfl, this⟩
theorem Cod.flats {w : World} {l : List Cod} {v : Value} (h : Rd w Any (.sl (l.map Cod.d)) [v]) : RR1 (St.flat w) (.sl (l.map Cod.av)) v := by
  have := qdn h
  rw [Cod.ds_av] at this
  exact this
end Go.Proofs.YtnkakofcejkhiaaDoor
