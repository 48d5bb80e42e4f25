/- Walk: the levels of an expression, as the reference counts them. -/
import Derived.Test.YtnkimlkoijfcpaaGreatDoorProg
import Derived.KernelRfl
import Derived.Maps.Own
import Derived.DeepKeys4
import Derived.Test.YtnkimlkoijfcpaaGreatDoorRows
import Derived.Test.YtnkimlkoijfcpaaGreatDoorCards
import Derived.Test.YtnkimlkoijfcpaaGreatDoorTie
import Derived.SevenTiedAt
import Derived.Stop.Joined
import Derived.Lib.LaidU8
import Derived.HandedShaped
import Derived.Lay
import Derived.LaidMore
import Derived.OpenShut
import Derived.WideShapes
import Derived.Laws.Strings
import Derived.Test.YtnkimlkoijfcpaaGreatDoorGi1
import Derived.Test.YtnkimlkoijfcpaaGreatDoorGi3
import Derived.Test.YtnkimlkoijfcpaaGreatDoorGi10
import Derived.Test.YtnkimlkoijfcpaaGreatDoorGi12
import Derived.Test.YtnkimlkoijfcpaaGreatDoorGi14
set_option linter.unusedSimpArgs false
set_option linter.unusedVariables false
namespace Go.Proofs.YtnkimlkoijfcpaaGreatDoor
open Go.RowKit Go.Lib
set_option maxHeartbeats 4000000 in
theorem rlevels_g' (e : Ex) : levels e ≤ 1000000 → Gives Tryz.prog 72 [e.av] (.int (levels e)) := by
  induction e using Ex.ind with | h o m s l ih => ?_
  intro hl
  rw [levels] at hl ⊢
  refine qn Tryz.func72 Tryz.ntmps72 rfl rfl (by decide) rfl (by intro n; simp) fun σ n0 hcl hft => ?_
  have hfl : l.length ≤ 9223372036854775807 := by
    simp [AV.fitss, AV.fits] at hft
    exact hft.1
  repeat' (first | ((first | ((with_reducible refine qo (fun hg => ?_) (fun hg => ?_)) <;> (try simp only [hg]) <;> (try simp only [gS] at hg) <;> (try (first | simp only [eq_false hg, gI] | simp only [eq_true hg, gI]))) | (with_reducible first | refine qf ?_ | refine qe ?_ | refine qk ?_ | refine qj ?_) | refine qc ?_ | refine qh ?_ | refine qi ?_ | refine qm ?_) <;> (try simp (disch := first | omega | simp) [qg, -qq, -qr])) | ((with_reducible refine sideT ?_ ?_); first | omega | assumption | (simp; done)) | (refine qd fun K hK => ?_) | (refine qa ?_) | refine ql ?_ | ((first | refine hK _ ?_ | (clear hK K; refine hK _ ?_) | (clear hK K; clear hK K; refine hK _ ?_)); clear hK K) | refine qb ?_)
  refine qs hcl (fun k : Nat => [(1, .ptr n0 0), (3, .int (qw (l.take k) 0)), (4, .int k)]) (fun _ => [.cells [.int o, .int m, .str s, .sl (l.map Ex.av)] 25]) (fun k => k ≤ l.length) (fun k => l.length - k) 0 (Nat.zero_le _) (by simp [qw]) fun k hk => ?_
  by_cases hlt : k < l.length
  · have c := ih l[k] (List.getElem_mem hlt) (by have := qdm l 0 l[k] (List.getElem_mem hlt); omega)
    have e1 : qw (l.take (k + 1)) 0 = max (qw (l.take k) 0) (levels l[k]) := by rw [List.take_succ_eq_append_getElem hlt, levelsL_snoc]
    repeat' (first | ((first | ((with_reducible refine qo (fun hg => ?_) (fun hg => ?_)) <;> (try simp only [hg]) <;> (try simp only [gS] at hg) <;> (try (first | simp only [eq_false hg, gI] | simp only [eq_true hg, gI]))) | (with_reducible first | refine qf ?_ | refine qe ?_ | refine qk ?_ | refine qj ?_) | refine acall (c) ?_ | refine qp (c) ?_ | refine qc ?_ | refine qh ?_ | refine qi ?_ | refine qm ?_) <;> (try simp (disch := first | omega | simp) [qg, -qq, -qr, hlt])) | ((with_reducible refine sideT ?_ ?_); first | omega | assumption | (simp; done)) | (refine qd fun K hK => ?_) | (refine qa ?_) | refine ql ?_ | ((first | refine hK _ ?_ | (clear hK K; refine hK _ ?_) | (clear hK K; clear hK K; refine hK _ ?_)); clear hK K) | refine qb ?_)
    all_goals refine ⟨k + 1, by omega, by omega, ?_⟩
    all_goals simp only [e1]
    all_goals simp
    all_goals split <;> omega
  · obtain rfl : k = l.length := by omega
    rw [List.take_length]
    have hpos := (levelsL_le l 0 0 (by omega) (by omega)).1
    generalize qw l 0 = V at *
    repeat' (first | ((first | ((with_reducible refine qo (fun hg => ?_) (fun hg => ?_)) <;> (try simp only [hg]) <;> (try simp only [gS] at hg) <;> (try (first | simp only [eq_false hg, gI] | simp only [eq_true hg, gI]))) | (with_reducible first | refine qf ?_ | refine qe ?_ | refine qk ?_ | refine qj ?_) | refine qc ?_ | refine qh ?_ | refine qi ?_ | refine qm ?_) <;> (try simp (disch := first | omega | simp) [qg, -qq, -qr, hlt])) | ((with_reducible refine sideT ?_ ?_); first | omega | assumption | (simp; done)) | (refine qd fun K hK => ?_) | (refine qa ?_) | refine ql ?_ | ((first | refine hK _ ?_ | (clear hK K; refine hK _ ?_) | (clear hK K; clear hK K; refine hK _ ?_)); clear hK K) | refine qb ?_)
theorem levels_g (e : Ex) : levels e ≤ 1000000 → Gives Tryz.prog 55 [e.av] (.int (levels e)) := by
  induction e using Ex.ind with | h o m s l ih => ?_
  intro hl
  rw [levels] at hl ⊢
  refine qn Tryz.func55 Tryz.ntmps55 rfl rfl (by decide) rfl (by intro n; simp) fun σ n0 hcl hft => ?_
  have hfl : l.length ≤ 9223372036854775807 := by
    simp [AV.fitss, AV.fits] at hft
    exact hft.1
  repeat' (first | ((first | ((with_reducible refine qo (fun hg => ?_) (fun hg => ?_)) <;> (try simp only [hg]) <;> (try simp only [gS] at hg) <;> (try (first | simp only [eq_false hg, gI] | simp only [eq_true hg, gI]))) | (with_reducible first | refine qf ?_ | refine qe ?_ | refine qk ?_ | refine qj ?_) | refine qc ?_ | refine qh ?_ | refine qi ?_ | refine qm ?_) <;> (try simp (disch := first | omega | simp) [qg, -qq, -qr])) | ((with_reducible refine sideT ?_ ?_); first | omega | assumption | (simp; done)) | (refine qd fun K hK => ?_) | (refine qa ?_) | refine ql ?_ | ((first | refine hK _ ?_ | (clear hK K; refine hK _ ?_) | (clear hK K; clear hK K; refine hK _ ?_)); clear hK K) | refine qb ?_)
  refine qs hcl (fun k : Nat => [(1, .ptr n0 0), (3, .int (qw (l.take k) 0)), (7, .sl (l.map Ex.av)), (8, .int l.length), (9, .int k)]) (fun _ => [.cells [.int o, .int m, .str s, .sl (l.map Ex.av)] 25]) (fun k => k ≤ l.length) (fun k => l.length - k) 0 (Nat.zero_le _) (by simp [qw]) fun k hk => ?_
  by_cases hlt : k < l.length
  · have c := ih l[k] (List.getElem_mem hlt) (by have := qdm l 0 l[k] (List.getElem_mem hlt); omega)
    have e1 : qw (l.take (k + 1)) 0 = max (qw (l.take k) 0) (levels l[k]) := by rw [List.take_succ_eq_append_getElem hlt, levelsL_snoc]
    repeat' (first | ((first | ((with_reducible refine qo (fun hg => ?_) (fun hg => ?_)) <;> (try simp only [hg]) <;> (try simp only [gS] at hg) <;> (try (first | simp only [eq_false hg, gI] | simp only [eq_true hg, gI]))) | (with_reducible first | refine qf ?_ | refine qe ?_ | refine qk ?_ | refine qj ?_) | refine acall (c) ?_ | refine qp (c) ?_ | refine qc ?_ | refine qh ?_ | refine qi ?_ | refine qm ?_) <;> (try simp (disch := first | omega | simp) [qg, -qq, -qr, hlt])) | ((with_reducible refine sideT ?_ ?_); first | omega | assumption | (simp; done)) | (refine qd fun K hK => ?_) | (refine qa ?_) | refine ql ?_ | ((first | refine hK _ ?_ | (clear hK K; refine hK _ ?_) | (clear hK K; clear hK K; refine hK _ ?_)); clear hK K) | refine qb ?_)
    all_goals refine ⟨k + 1, by omega, by omega, ?_⟩
    all_goals simp only [e1]
    all_goals simp
    all_goals split <;> omega
  · obtain rfl : k = l.length := by omega
    rw [List.take_length]
    have hpos := (levelsL_le l 0 0 (by omega) (by omega)).1
    generalize qw l 0 = V at *
    repeat' (first | ((first | ((with_reducible refine qo (fun hg => ?_) (fun hg => ?_)) <;> (try simp only [hg]) <;> (try simp only [gS] at hg) <;> (try (first | simp only [eq_false hg, gI] | simp only [eq_true hg, gI]))) | (with_reducible first | refine qf ?_ | refine qe ?_ | refine qk ?_ | refine qj ?_) | refine qc ?_ | refine qh ?_ | refine qi ?_ | refine qm ?_) <;> (try simp (disch := first | omega | simp) [qg, -qq, -qr, hlt])) | ((with_reducible refine sideT ?_ ?_); first | omega | assumption | (simp; done)) | (refine qd fun K hK => ?_) | (refine qa ?_) | refine ql ?_ | ((first | refine hK _ ?_ | (clear hK K; refine hK _ ?_) | (clear hK K; clear hK K; refine hK _ ?_)); clear hK K) | refine qb ?_)
theorem rparts_g (e : Ex) : parts e ≤ 1000000 → Gives Tryz.prog 12 [e.av] (.int (parts e)) := by
  induction e using Ex.ind with | h o m s l ih => ?_
  intro hp
  rw [parts] at hp ⊢
  have hll : l.length ≤ 1000000 := by have := qbd l; omega
  refine qn Tryz.func12 Tryz.ntmps12 rfl rfl (by decide) rfl (by intro n; simp) fun σ n0 hcl hft => ?_
  repeat' (first | ((first | ((with_reducible refine qo (fun hg => ?_) (fun hg => ?_)) <;> (try simp only [hg]) <;> (try simp only [gS] at hg) <;> (try (first | simp only [eq_false hg, gI] | simp only [eq_true hg, gI]))) | (with_reducible first | refine qf ?_ | refine qe ?_ | refine qk ?_ | refine qj ?_) | refine qc ?_ | refine qh ?_ | refine qi ?_ | refine qm ?_) <;> (try simp (disch := first | omega | simp) [qg, -qq, -qr])) | ((with_reducible refine sideT ?_ ?_); first | omega | assumption | (simp; done)) | (refine qd fun K hK => ?_) | (refine qa ?_) | refine ql ?_ | ((first | refine hK _ ?_ | (clear hK K; refine hK _ ?_) | (clear hK K; clear hK K; refine hK _ ?_)); clear hK K) | refine qb ?_)
  refine qs hcl (fun k : Nat => [(1, .ptr n0 0), (3, .int (qu (l.take k) + 1 : Nat)), (4, .int k)]) (fun _ => [.cells [.int o, .int m, .str s, .sl (l.map Ex.av)] 25]) (fun k => k ≤ l.length) (fun k => l.length - k) 0 (Nat.zero_le _) (by simp [qu]) fun k hk => ?_
  have hle := qbh l k
  by_cases hlt : k < l.length
  · have c := ih l[k] (List.getElem_mem hlt) (by have := qbb l l[k] (List.getElem_mem hlt); omega)
    have e1 := qdn l k hlt
    have hle2 := qbh l (k + 1)
    generalize qu (l.take k) = Q at *
    have hb : (Q : Int) + 1 + parts l[k] ≤ 9223372036854775807 := by omega
    generalize parts l[k] = R at *
    repeat' (first | ((first | ((with_reducible refine qo (fun hg => ?_) (fun hg => ?_)) <;> (try simp only [hg]) <;> (try simp only [gS] at hg) <;> (try (first | simp only [eq_false hg, gI] | simp only [eq_true hg, gI]))) | (with_reducible first | refine qf ?_ | refine qe ?_ | refine qk ?_ | refine qj ?_) | refine acall (c) ?_ | refine qp (c) ?_ | refine qc ?_ | refine qh ?_ | refine qi ?_ | refine qm ?_) <;> (try simp (disch := first | omega | simp) [qg, -qq, -qr, hlt])) | ((with_reducible refine sideT ?_ ?_); first | omega | assumption | (simp; done)) | (refine qd fun K hK => ?_) | (refine qa ?_) | refine ql ?_ | ((first | refine hK _ ?_ | (clear hK K; refine hK _ ?_) | (clear hK K; clear hK K; refine hK _ ?_)); clear hK K) | refine qb ?_)
    all_goals exact ⟨k + 1, by omega, by omega, by omega, by omega⟩
  · obtain rfl : k = l.length := by omega
    rw [List.take_length]
    repeat' (first | ((first | ((with_reducible refine qo (fun hg => ?_) (fun hg => ?_)) <;> (try simp only [hg]) <;> (try simp only [gS] at hg) <;> (try (first | simp only [eq_false hg, gI] | simp only [eq_true hg, gI]))) | (with_reducible first | refine qf ?_ | refine qe ?_ | refine qk ?_ | refine qj ?_) | refine qc ?_ | refine qh ?_ | refine qi ?_ | refine qm ?_) <;> (try simp (disch := first | omega | simp) [qg, -qq, -qr, hlt])) | ((with_reducible refine sideT ?_ ?_); first | omega | assumption | (simp; done)) | (refine qd fun K hK => ?_) | (refine qa ?_) | refine ql ?_ | ((first | refine hK _ ?_ | (clear hK K; refine hK _ ?_) | (clear hK K; clear hK K; refine hK _ ?_)); clear hK K) | refine qb ?_)
end Go.Proofs.YtnkimlkoijfcpaaGreatDoor

/- Data of layer 16 as abstract values. -/
namespace Go.Proofs.YtnkimlkoijfcpaaGreatDoor
open Go.RowKit Go.Lib
theorem ints_d_av (L : List Int) : (D.sl (L.map D.int)).av = .sl (L.map AV.int) := by
  rw [D.av, D.avs_map, List.map_map]; rfl
theorem Ex.d_av (e : Ex) : e.d.av = e.av := by
  induction e using Ex.ind with | h o n s l ih => ?_
  rw [Ex.d, Ex.ds_map, D.av, Ex.av_mk]
  simp only [D.cs, D.avs_map, List.map_map]
  congr 4
  simp only [List.cons.injEq, AV.sl.injEq, and_true, true_and]
  exact List.map_congr_left fun x hx => ih x hx
theorem Fn.d_av (f : Fn) : f.d.av = f.av := by
  obtain ⟨nm, ps, rs, b⟩ := f
  have h1 := ints_d_av ps
  have h2 := Ex.d_av b
  cases b with | mk o n s l => ?_
  rw [D.av] at h1
  injection h1 with h1
  have h5 := Ex.av_eq (.mk o n s l)
  rw [Fn.d, D.av]
  rw [Ex.d, D.av, h5] at h2
  injection h2 with h2
  simp only [Ex.d, D.cs, List.append_nil] at h2 ⊢
  rw [h2, h1]
  rfl
theorem arg_v {X : St} {x v : Value} (h : RR1 X (.v x) v) : v = x := by
  have h' : RC X (.v x) [v] := h
  rw [RC] at h'; simpa using h'
end Go.Proofs.YtnkimlkoijfcpaaGreatDoor

/- Contracts of layer 16, as abstract ones. -/
namespace Go.Proofs.YtnkimlkoijfcpaaGreatDoor
open Go.RowKit Go.Lib
theorem arg_ex {X : St} {e : Ex} {v : Value} (h : RR1 X e.av v) : ∃ cs : List Value, v = .agg cs.toArray ∧ Rd X.w Any e.d cs := by
  rw [Ex.av_eq] at h
  obtain ⟨cs, rfl, h2⟩ := h
  refine ⟨cs, rfl, rd_of_rc e.d cs ?_⟩
  rw [Ex.d_av, Ex.av_eq, RC]; exact h2
theorem rlevels_g (e : Ex) (he : levels e ≤ 1000000) : Gives Tryz.prog 72 [e.av] (.int (levels e)) := rlevels_g' e he
end Go.Proofs.YtnkimlkoijfcpaaGreatDoor

/- Arguments of contracts of layer 16. -/
namespace Go.Proofs.YtnkimlkoijfcpaaGreatDoor
open Go.RowKit Go.Lib
theorem fns_av (L : List Fn) : (D.sl (L.map Fn.d)).av = .sl (L.map Fn.av) := by
  rw [D.av, D.avs_map, List.map_map, List.map_congr_left (f := D.av ∘ Fn.d) (g := Fn.av) fun x _ => x.d_av]
end Go.Proofs.YtnkimlkoijfcpaaGreatDoor

/- Readings of arguments: api.Value. -/
namespace Go.Proofs.YtnkimlkoijfcpaaGreatDoor
open Go.RowKit Go.Lib
section
variable {H : Type} {enc : TypeId × Value → H} {w : World} {sp : Nat → Bool} {hd : Bool}
theorem trods_val (N : Nat) : Trods enc Tryz.prog w sp hd 39 Val.d N := by
  intro n cs x hn h
  obtain ⟨xs, m, rfl, -, hlen, hl2, hf⟩ := DataW.trod_struct Tryz.underlying39 h
  have hc : Tryz.prog.cellsOf 39 = 3 := by kernel_rfl
  rw [hc] at hlen
  obtain ⟨y0, h0⟩ := qbs 0 3 0 1 hl2 hf ⟨_, rfl, rfl, rfl⟩ (by kernel_rfl)
  obtain ⟨y1, h1⟩ := qbs 1 3 1 1 hl2 hf ⟨_, rfl, rfl, rfl⟩ (by kernel_rfl)
  obtain ⟨y2, h2⟩ := qbs 2 9 2 1 hl2 hf ⟨_, rfl, rfl, rfl⟩ (by kernel_rfl)
  obtain ⟨a0, r0⟩ := qdr Tryz.underlying3 (m + 1) m _ _ (by omega) h0
  obtain ⟨a1, r1⟩ := qdr Tryz.underlying3 (m + 1) m _ _ (by omega) h1
  obtain ⟨a2, r2⟩ := trods_str Tryz.underlying9 (m + 1) m _ _ (by omega) h2
  exact ⟨⟨a0, a1, a2⟩, rd_st (qdo (k := 1) r0 (qdo (k := 1) r1 (qdo (k := 1) r2 (rdS_end (by omega)))))⟩
end
end Go.Proofs.YtnkimlkoijfcpaaGreatDoor

/- Readings of the statement's arguments of layer 16. -/
namespace Go.Proofs.YtnkimlkoijfcpaaGreatDoor
open Go.RowKit Go.Lib
section
variable {H : Type} {enc : TypeId × Value → H} {w : World} {sp : Nat → Bool} {hd : Bool}
theorem trods_ex : ∀ N : Nat, Trods enc Tryz.prog w sp hd 25 Ex.d N := by
  intro N
  induction N with
  | zero => intro n cs x hn; omega
  | succ N ih =>
    intro n cs x hn h
    obtain ⟨xs, m, rfl, -, hlen, hl2, hf⟩ := DataW.trod_struct Tryz.underlying25 h
    have hc3 : Tryz.prog.cellsOf 3 = 1 := by kernel_rfl
    have hc9 : Tryz.prog.cellsOf 9 = 1 := by kernel_rfl
    have hcl : Tryz.prog.cellsOf 23 = 1 := by kernel_rfl
    have hc : Tryz.prog.cellsOf 25 = 4 := by kernel_rfl
    rw [hc] at hlen
    obtain ⟨y0, h0⟩ := qbs 0 3 0 1 hl2 hf ⟨_, rfl, rfl, rfl⟩ hc3
    obtain ⟨y1, h1⟩ := qbs 1 3 1 1 hl2 hf ⟨_, rfl, rfl, rfl⟩ hc3
    obtain ⟨y2, h2⟩ := qbs 2 9 2 1 hl2 hf ⟨_, rfl, rfl, rfl⟩ hc9
    obtain ⟨y3, h3⟩ := qbs 3 23 3 1 hl2 hf ⟨_, rfl, rfl, rfl⟩ hcl
    obtain ⟨a0, r0⟩ := qdr Tryz.underlying3 (m + 1) m _ _ (by omega) h0
    obtain ⟨a1, r1⟩ := qdr Tryz.underlying3 (m + 1) m _ _ (by omega) h1
    obtain ⟨a2, r2⟩ := trods_str Tryz.underlying9 (m + 1) m _ _ (by omega) h2
    obtain ⟨a3, r3⟩ := trods_sl Tryz.underlying23 hc (by omega) Ex.width ih m _ _ (by omega) h3
    refine ⟨.mk a0 a1 a2 a3, ?_⟩
    rw [Ex.d, Ex.ds_map]
    exact rd_st (qdo (k := 1) r0 (qdo (k := 1) r1 (qdo (k := 1) r2 (qdo (k := 1) r3 (rdS_end (by omega))))))
theorem trods_ints (N : Nat) : Trods enc Tryz.prog w sp hd 22 (fun l : List Int => D.sl (l.map D.int)) N := fun n cs x hn h =>
  trods_sl Tryz.underlying22 (sz := 1) (by kernel_rfl) (by omega) (fun _ => rfl) (qdr Tryz.underlying3 N) n cs x (by omega) h
theorem trods_fn (N : Nat) : Trods enc Tryz.prog w sp hd 80 Fn.d N := by
  intro n cs x hn h
  obtain ⟨xs, m, rfl, -, hlen, hl2, hf⟩ := DataW.trod_struct Tryz.underlying80 h
  have hc3 : Tryz.prog.cellsOf 3 = 1 := by kernel_rfl
  have hc9 : Tryz.prog.cellsOf 9 = 1 := by kernel_rfl
  have hcl : Tryz.prog.cellsOf 22 = 1 := by kernel_rfl
  have hce : Tryz.prog.cellsOf 25 = 4 := by kernel_rfl
  have hc : Tryz.prog.cellsOf 80 = 7 := by kernel_rfl
  rw [hc] at hlen
  obtain ⟨y0, h0⟩ := qbs 0 9 0 1 hl2 hf ⟨_, rfl, rfl, rfl⟩ hc9
  obtain ⟨y1, h1⟩ := qbs 1 22 1 1 hl2 hf ⟨_, rfl, rfl, rfl⟩ hcl
  obtain ⟨y2, h2⟩ := qbs 2 3 2 1 hl2 hf ⟨_, rfl, rfl, rfl⟩ hc3
  obtain ⟨y3, h3⟩ := qbs 3 25 3 4 hl2 hf ⟨_, rfl, rfl, rfl⟩ hce
  obtain ⟨a0, r0⟩ := trods_str Tryz.underlying9 (m + 1) m _ _ (by omega) h0
  obtain ⟨a1, r1⟩ := trods_ints (m + 1) m _ _ (by omega) h1
  obtain ⟨a2, r2⟩ := qdr Tryz.underlying3 (m + 1) m _ _ (by omega) h2
  obtain ⟨a3, r3⟩ := trods_ex (m + 1) m _ _ (by omega) h3
  exact ⟨⟨a0, a1, a2, a3⟩, rd_st (qdo (k := 1) r0 (qdo (k := 1) r1 (qdo (k := 1) r2 (qdo (k := 4) r3 (rdS_end (by omega))))))⟩
theorem trods_fns (N : Nat) : Trods enc Tryz.prog w sp hd 42 (fun l : List Fn => D.sl (l.map Fn.d)) N := fun n cs x hn h =>
  trods_sl Tryz.underlying42 (sz := 7) (by kernel_rfl) (by omega) Fn.width (trods_fn N) n cs x (by omega) h
end
end Go.Proofs.YtnkimlkoijfcpaaGreatDoor

/- Layer 26: the map of the parts that have registers: what its entries are, what a look-up gives, what a store makes of it. -/
namespace Go.Proofs.YtnkimlkoijfcpaaGreatDoor
open Go.RowKit Go.Lib Go.ChangeMaps
open Go.WideElems (Fit rd rg pl rd_key)
open Go.Maps (Keyed)
theorem laid26 : laidOutB Tryz.prog = true := by kernel_rfl
theorem qed : Keyed Tryz.prog 145 := Keyed.of_law (deep_law_laid laid26 (m := 3) (by omega) (of_decide_eq_true (by kernel_rfl)) (by kernel_rfl) (by kernel_rfl))
def partV (o n : Int) (s : ByteArray) (a b c : Int) : Value := .agg #[.int .i64 o, .int .i64 n, .string s, .int .i64 a, .int .i64 b, .int .i64 c]
theorem partV_inj {o n a b c o' n' a' b' c' : Int} {s s' : ByteArray} (h : partV o n s a b c = partV o' n' s' a' b' c') : o = o' ∧ n = n' ∧ s = s' ∧ a = a' ∧ b = b' ∧ c = c' := by
  unfold partV at h
  simpa using h
def I64 (n : Int) : Prop := -9223372036854775808 ≤ n ∧ n ≤ 9223372036854775807
theorem i64_wf {n : Int} (h : I64 n) : (Lit.int .i64 n).wf = true := by
  obtain ⟨h1, h2⟩ := h
  have e1 : IntKind.i64.min = -9223372036854775808 := by decide
  have e2 : IntKind.i64.max = 9223372036854775807 := by decide
  simp [Lit.wf, e1, e2, h1, h2]
theorem partV_key {o n a b c : Int} {s : ByteArray} (ho : I64 o) (hn : I64 n) (ha : I64 a) (hb : I64 b) (hc : I64 c) (hs : s.size ≤ maxLen) : ∃ l, keyOf Tryz.prog 145 (partV o n s a b c) = some l := by
  have h0 : (match Tryz.prog.underlying 145 with | some (.array _ _) | some (.struct _) => true | _ => false) = true := by kernel_rfl
  have hk : Tryz.prog.keyType 145 = true := by kernel_rfl
  have hc6 : Tryz.prog.cellsOf 145 = 6 := by kernel_rfl
  have hc3 : Tryz.prog.cellsOf 143 = 3 := by kernel_rfl
  have hc1 : Tryz.prog.cellsOf 3 = 1 := by kernel_rfl
  have hcs : Tryz.prog.cellsOf 9 = 1 := by kernel_rfl
  obtain ⟨m, hm⟩ : ∃ m, Tryz.prog.types.size + 1 = m + 3 := ⟨Tryz.prog.types.size - 2, by kernel_rfl⟩
  have e1 : ∀ d x, I64 x → Tryz.prog.keyLits (d + 1) 3 [.int .i64 x] = some [.int .i64 x] := fun d x hx => by
    simp [Program.keyLits, Tryz.underlying3, i64_wf hx]
  have e2 : ∀ d, Tryz.prog.keyLits (d + 1) 9 [.string s] = some [.string s.data.toList] := fun d => by
    simp [Program.keyLits, Tryz.underlying9, hs]
  have e4 : ∀ d, Tryz.prog.keyLits (d + 2) 143 [.int .i64 a, .int .i64 b, .int .i64 c] = some [.int .i64 a, .int .i64 b, .int .i64 c] := fun d => by
    simp [Program.keyLits, Tryz.underlying143, Tryz.underlying3, hc3, hc1, List.range, List.range.loop, i64_wf ha, i64_wf hb, i64_wf hc]
  have h1 : Tryz.prog.keyLits (m + 3) 145 [.int .i64 o, .int .i64 n, .string s, .int .i64 a, .int .i64 b, .int .i64 c] = some [.int .i64 o, .int .i64 n, .string s.data.toList, .int .i64 a, .int .i64 b, .int .i64 c] := by
    simp [Program.keyLits, Tryz.underlying145, Tryz.underlying3, Tryz.underlying9, Tryz.underlying143, hc6, hc3, hc1, hcs, List.range, List.range.loop, i64_wf ha, i64_wf hb, i64_wf hc, i64_wf hn, i64_wf ho, hs]
  unfold keyOf
  simp only [Tryz.underlying145]
  rw [hk, hm]
  simp [partV, Value.formed, Tryz.underlying145, hc6, Value.cells, h1]
def mapI (l : List (Value × Int)) (o : Obj) : Prop :=
  ∃ es clock, o = .map es clock ∧ Fit Tryz.prog 145 (plainElem (H := Unit) Tryz.prog 3) es clock ∧ es.toList.map (fun e => (e.key, e.val)) = l.map fun p => (p.1, Value.int .i64 p.2)
theorem mapI_is (l : List (Value × Int)) : IsMap (mapI l) := fun o ⟨es, clock, h, _⟩ => ⟨es, clock, h⟩
theorem mapI_nil : mapI [] (.map #[] 0) := ⟨#[], 0, rfl, ⟨by simp, Go.MapKept.stamped_empty 0, by simp⟩, rfl⟩
theorem part_zero (w : World) : (zeroValue 3).run Tryz.prog w = .ok (.int .i64 0) w := by kernel_rfl
theorem mapI_mem {l : List (Value × Int)} {es : Array MapEntry} (h : es.toList.map (fun e => (e.key, e.val)) = l.map fun p => (p.1, Value.int .i64 p.2)) :
    (∀ e ∈ es.toList, ∃ p ∈ l, p.1 = e.key ∧ Value.int .i64 p.2 = e.val) ∧ ∀ p ∈ l, ∃ e ∈ es.toList, p.1 = e.key ∧ Value.int .i64 p.2 = e.val := by
  constructor
  · intro e he
    have : (e.key, e.val) ∈ l.map fun p => (p.1, Value.int .i64 p.2) := h ▸ List.mem_map.2 ⟨e, he, rfl⟩
    obtain ⟨p, hp, hq⟩ := List.mem_map.1 this
    simp only [Prod.mk.injEq] at hq
    exact ⟨p, hp, hq.1, hq.2⟩
  · intro p hp
    have : (p.1, Value.int .i64 p.2) ∈ es.toList.map fun e => (e.key, e.val) := h ▸ List.mem_map.2 ⟨p, hp, rfl⟩
    obtain ⟨e, he, hq⟩ := List.mem_map.1 this
    simp only [Prod.mk.injEq] at hq
    exact ⟨e, he, hq.1.symm, hq.2.symm⟩
theorem look_hit {l : List (Value × Int)} (hN : ∀ p ∈ l, ∀ q ∈ l, p.1 = q.1 → p = q) {key : AV} {kv : Value} (hw : key.whole = some kv) {kl : Lit} (hk : keyOf Tryz.prog 145 kv = some kl) {v : Int} (hm : (kv, v) ∈ l) :
    LookOk Tryz.prog 98 (mapI l) true key (.tup [.v (.int .i64 v), .v (.bool true)]) := by
  refine ⟨kv, .tuple #[.int .i64 v, .bool true], hw, fun X => ⟨[.int .i64 v, .bool true], rfl, _, _, rfl, ?_, _, _, rfl, ?_, rfl⟩, ?_⟩
  · exact RR1.of_one rfl (by rw [RC])
  · exact RR1.of_one rfl (by rw [RC])
  rintro w b o hb ⟨es, clock, rfl, F, hes⟩
  obtain ⟨h1, h2⟩ := mapI_mem hes
  rcases Maps.fit_look true qed Tryz.underlying98 (part_zero w) hb F hk with ⟨-, hno, -⟩ | ⟨e0, y, he0, hk0, hrun, -⟩
  · obtain ⟨e, he, h3, -⟩ := h2 _ hm
    exact absurd h3.symm (hno e he)
  · obtain ⟨p, hp, h3, h4⟩ := h1 e0 he0
    have := hN p hp _ hm (h3.trans hk0)
    subst this
    rw [hrun, ← h4]; rfl
theorem look_miss {l : List (Value × Int)} {key : AV} {kv : Value} (hw : key.whole = some kv) {kl : Lit} (hk : keyOf Tryz.prog 145 kv = some kl) (hm : ∀ p ∈ l, p.1 ≠ kv) :
    LookOk Tryz.prog 98 (mapI l) true key (.tup [.v (.int .i64 0), .v (.bool false)]) := by
  refine ⟨kv, .tuple #[.int .i64 0, .bool false], hw, fun X => ⟨[.int .i64 0, .bool false], rfl, _, _, rfl, ?_, _, _, rfl, ?_, rfl⟩, ?_⟩
  · exact RR1.of_one rfl (by rw [RC])
  · exact RR1.of_one rfl (by rw [RC])
  rintro w b o hb ⟨es, clock, rfl, F, hes⟩
  obtain ⟨h1, h2⟩ := mapI_mem hes
  rcases Maps.fit_look true qed Tryz.underlying98 (part_zero w) hb F hk with ⟨hrun, -⟩ | ⟨e0, y, he0, hk0, -⟩
  · rw [hrun]; rfl
  · obtain ⟨p, hp, h3, h4⟩ := h1 e0 he0
    exact absurd (h3.trans hk0) (hm p hp)
theorem map_upd {l : List (Value × Int)} {key : AV} {kv : Value} (hw : key.whole = some kv) {kl : Lit} (hk : keyOf Tryz.prog 145 kv = some kl) (hm : ∀ p ∈ l, p.1 ≠ kv) (hl : l.length < maxLen) {v : Int} (hv : I64 v) :
    IsMap (mapI l) ∧ UpdOk Tryz.prog 98 (mapI l) key (.v (.int .i64 v)) (mapI (l ++ [(kv, v)])) := by
  refine ⟨mapI_is l, kv, .int .i64 v, hw, rfl, ?_⟩
  rintro w b es clock hb ⟨es1, clock1, he, F, hes⟩
  cases he
  obtain ⟨h1, h2⟩ := mapI_mem hes
  have hsz : es.size = l.length := by have := congrArg List.length hes; simpa using this
  rcases qed.find w hk es.toList F.keys with ⟨g1, g2⟩ | ⟨j, e0, g1, g2, g3⟩
  · obtain ⟨es', clock', hrun, F', -⟩ := Maps.fit_store (R' := plainElem (H := Unit) Tryz.prog 3) qed Tryz.underlying98 hb F (by omega) (fun _ _ _ _ hz => hz) hk (plainElem_int Tryz.underlying3 (i64_wf hv))
    have hrun2 : (Instr.mapUpdate 98 (.map (some b)) kv (.int .i64 v)).run Tryz.prog w = .ok () (setBlock w b (.map (es.push ⟨kv, .int .i64 v, clock⟩) (clock + 1))) := by
      simp [Instr.mapUpdate, run_underlying Tryz.underlying98, MapKept.run_getObj_map hb, qed.check w false hk, g1, MapKept.run_setObj_map _ hb, Result.andThen, setBlock]
    rw [hrun] at hrun2
    have hw2 : setBlock w b (.map es' clock') = setBlock w b (.map (es.push ⟨kv, .int .i64 v, clock⟩) (clock + 1)) := by injection hrun2
    have h3 := heap_setBlock_same hb (.map es' clock')
    rw [hw2, heap_setBlock_same hb] at h3
    have h4 : Obj.map (es.push ⟨kv, .int .i64 v, clock⟩) (clock + 1) = .map es' clock' := Option.some.inj h3
    injection h4 with h5 h6
    refine ⟨_, hrun, es', clock', rfl, F', ?_⟩
    rw [← h5]; simp [hes]
  · obtain ⟨p, hp, h3, -⟩ := h1 e0 (List.mem_of_getElem? g2)
    exact absurd (h3.trans g3) (hm p hp)
end Go.Proofs.YtnkimlkoijfcpaaGreatDoor

/- Layer 26 on plain data: the numbers of expressions are ints. -/
namespace Go.Proofs.YtnkimlkoijfcpaaGreatDoor
open Go.RowKit Go.Lib
def NS (n : Int) (s : ByteArray) : Prop := I64 n ∧ s.size ≤ 9223372036854775807
mutual
def n64 : Ex → Prop
  | .mk _ n s l => NS n s ∧ n64s l
def n64s : List Ex → Prop
  | [] => True
  | e :: l => n64 e ∧ n64s l
end
theorem n64s_iff : ∀ {l : List Ex}, n64s l ↔ ∀ x ∈ l, n64 x
  | [] => by rw [n64s]; simp
  | e :: l => by rw [n64s, n64s_iff]; simp
theorem qcn {o n : Int} {s : ByteArray} {l : List Ex} : n64 (.mk o n s l) ↔ NS n s ∧ ∀ x ∈ l, n64 x := by rw [n64, n64s_iff]
theorem i64_0 : I64 0 := ⟨by decide, by decide⟩
theorem qeh (n : Int) : I64 (wrap64 n) := by
  unfold wrap64 I64; omega
theorem i64_bool (b : Bool) : I64 (boolV b).n := by cases b <;> exact ⟨by decide, by decide⟩
theorem ns_0 : NS 0 ByteArray.empty := ⟨i64_0, by decide⟩
theorem ns_bool (b : Bool) : NS (boolV b).n (boolV b).s := ⟨i64_bool b, by show (ByteArray.empty).size ≤ _; decide⟩
theorem ns_num {n : Int} (h : I64 n) : NS (numV n).n (numV n).s := ⟨h, by show (ByteArray.empty).size ≤ _; decide⟩
theorem ns_get {l : List Val} (h : ∀ v ∈ l, NS v.n v.s) (k : Nat) : NS (l.getD k zeroV).n (l.getD k zeroV).s := by
  rw [List.getD_eq_getElem?_getD]
  cases hk : l[k]? with
  | none => exact ns_0
  | some v => exact h v (List.mem_of_getElem? hk)
theorem i64_mod {a b : Int} (ha : I64 a) : I64 (modI a b) := by
  unfold modI
  split
  · exact i64_0
  · obtain ⟨h1, h2⟩ := ha
    have h3 := Int.natAbs_tmod a b
    have h4 : (a.tmod b).natAbs ≤ a.natAbs := by rw [h3]; exact Nat.mod_le _ _
    unfold I64
    rcases Int.le_total 0 a with h5 | h5
    · have := Int.tmod_nonneg b h5
      omega
    · have : a.tmod b ≤ 0 := by
        have := Int.tmod_nonneg b (show 0 ≤ -a by omega)
        rw [Int.neg_tmod] at this; omega
      omega
theorem i64_div (a b : Int) : I64 (divI a b) := by
  unfold divI
  split
  · exact i64_0
  · exact qeh _
theorem ns_bin {o : Int} {a b : Val} (ha : I64 a.n) : NS (binV o a b).n (binV o a b).s := by
  unfold binV
  split
  · exact ns_num (qeh _)
  split
  · exact ns_num (qeh _)
  split
  · exact ns_num (qeh _)
  split
  · exact ns_num (i64_div _ _)
  split
  · exact ns_num (i64_mod ha)
  repeat' (split; exact ns_bool _)
  refine ⟨i64_0, ?_⟩
  have := joinS_size a.s b.s
  show (joinS a.s b.s).size ≤ _
  omega
theorem ev_ns {call : Int → List Val → Val} {time : Int} {row params : List Val} (hc : ∀ i vs, NS (call i vs).n (call i vs).s) (ht : I64 time) (hr : ∀ v ∈ row, NS v.n v.s) (hp : ∀ v ∈ params, NS v.n v.s) (e : Ex) : n64 e → NS (ev call time row params e).n (ev call time row params e).s := by
  induction e using Ex.ind with
  | h o n s l ih =>
    intro h
    obtain ⟨hn, hl⟩ := qcn.1 h
    have hvs : ∀ v ∈ evs call time row params l, NS v.n v.s := fun v hv => by
      rw [qen] at hv
      obtain ⟨x, hx, rfl⟩ := List.mem_map.1 hv
      exact ih x hx (hl x hx)
    rw [ev]
    generalize evs call time row params l = vs at hvs
    split
    · unfold ifV
      split <;> exact ns_get hvs _
    · unfold opV
      split
      · exact ns_num hn.1
      split
      · exact ⟨i64_0, hn.2⟩
      split
      · exact ns_bool _
      split
      · exact ns_get hr _
      split
      · exact ns_get hp _
      split
      · exact ns_num ht
      split
      · exact ns_bool _
      split
      · exact ns_num (qeh _)
      split
      · exact ns_num (by have := (ns_get hvs 0).2; unfold I64; omega)
      split
      · exact hc _ _
      · exact ns_bin (ns_get hvs _).1
theorem constV_n64 {v : Val} (h : NS v.n v.s) : n64 (qbg v) := by
  unfold qbg zeroE
  split
  · rw [qcn]; exact ⟨⟨h.1, by decide⟩, by simp⟩
  split
  · rw [qcn]; exact ⟨⟨i64_0, h.2⟩, by simp⟩
  split
  · rw [qcn]; exact ⟨⟨h.1, by decide⟩, by simp⟩
  · rw [qcn]; exact ⟨ns_0, by simp⟩
theorem callN_nil (time : Int) (m : Nat) (i : Int) (vs : List Val) : callN [] time m i vs = zeroV := by
  cases m with
  | zero => rfl
  | succ m => simp [callN]
theorem top_n64 {o n : Int} {s : ByteArray} {l : List Ex} (h : n64 (.mk o n s l)) : n64 (topF o n s l) := by
  obtain ⟨hn, hl⟩ := qcn.1 h
  unfold topF
  split
  · exact qcn.2 ⟨hn, by simp⟩
  split
  · exact constV_n64 (ev_ns (fun i vs => by rw [callN_nil]; exact ns_0) i64_0 (by simp) (by simp) _ h)
  split
  · unfold choiceP
    split
    · split
      · exact hl _ (by simp)
      · split
        · exact hl _ (by simp)
        · exact h
    · exact h
  split
  · unfold logicP
    split
    · split
      · split <;> exact hl _ (by simp)
      · split
        · split <;> exact hl _ (by simp)
        · exact h
    · exact h
  split
  · unfold notP
    split
    · split
      · split
        · have h2 := hl _ (List.mem_cons_self ..)
          exact (qcn.1 h2).2 _ (by simp)
        · exact h
      · exact h
    · exact h
  · exact h
theorem fold_n64 (e : Ex) : n64 e → n64 (foldE e) := by
  induction e using Ex.ind with
  | h o n s l ih =>
    intro h
    obtain ⟨hn, hl⟩ := qcn.1 h
    rw [foldE, qdz]
    refine top_n64 (qcn.2 ⟨hn, fun x hx => ?_⟩)
    obtain ⟨y, hy, rfl⟩ := List.mem_map.1 hx
    exact ih y hy (hl y hy)
theorem put_n64 {op : Int} {L : List Ex} (hL : ∀ x ∈ L, n64 x) (e : Ex) : ∀ {y : Ex}, n64 e → putP op L e = some y → n64 y := by
  induction e using Ex.ind with
  | h o n s l ih =>
    intro y h hy
    obtain ⟨hn, hl⟩ := qcn.1 h
    rw [putP] at hy
    split at hy
    · split at hy
      · cases hy
      · exact hL _ (List.mem_of_getElem? hy)
    · cases hp : putPs op L l with
      | none => rw [hp] at hy; cases hy
      | some l' =>
        rw [hp] at hy; cases hy
        refine qcn.2 ⟨hn, fun x hx => ?_⟩
        obtain ⟨z, hz, h2⟩ := putPs_mem l hp x hx
        exact ih z hz (hl z hz) h2
theorem inlL_mem26 {bs : List (Option Ex)} : ∀ (l : List Ex) {ys : List Ex}, inlL bs l = some ys → ∀ y ∈ ys, ∃ e ∈ l, inlE bs e = some y
  | [], ys, h, y, hy => by rw [inlL] at h; cases h; cases hy
  | e :: l, ys, h, y, hy => by
    rw [inlL] at h
    cases he : inlE bs e with
    | none => rw [he] at h; cases h
    | some x =>
      rw [he] at h
      cases hl : inlL bs l with
      | none => rw [hl] at h; cases h
      | some xs =>
        rw [hl] at h; cases h
        rcases List.mem_cons.1 hy with rfl | hy
        · exact ⟨e, by simp, he⟩
        · obtain ⟨e', h1, h2⟩ := inlL_mem26 l hl y hy
          exact ⟨e', by simp [h1], h2⟩
theorem fitX_some {x y : Ex} (h : fitX x = some y) : x = y := by
  unfold fitX at h
  split at h
  · cases h
  · exact Option.some.inj h
theorem inl_n64 {bs : List (Option Ex)} (hbs : ∀ b ∈ bs, ∀ y, b = some y → n64 y) (e : Ex) : ∀ {y : Ex}, n64 e → inlE bs e = some y → n64 y := by
  induction e using Ex.ind with
  | h o n s l ih =>
    intro y h hy
    obtain ⟨hn, hl⟩ := qcn.1 h
    rw [inlE] at hy
    cases hp : inlL bs l with
    | none => rw [hp] at hy; cases hy
    | some ys =>
      rw [hp] at hy
      have hys : ∀ x ∈ ys, n64 x := fun x hx => by
        obtain ⟨z, hz, h2⟩ := inlL_mem26 l hp x hx
        exact ih z hz (hl z hz) h2
      dsimp only at hy
      split at hy
      · cases hb : bs.getD n.toNat none with
        | none => rw [hb] at hy; cases hy
        | some b =>
          rw [hb] at hy
          have hbm : some b ∈ bs := by
            rw [List.getD_eq_getElem?_getD] at hb
            cases hg : bs[n.toNat]? with
            | none => rw [hg] at hb; cases hb
            | some z => rw [hg] at hb; cases hb; exact List.mem_of_getElem? hg
          have hb64 := hbs _ hbm b rfl
          rw [← fitX_some hy]
          cases hq : putP 4 ys b with
          | none => exact qcn.2 ⟨ns_0, by simp⟩
          | some z => exact put_n64 hys b hb64 hq
      · rw [← fitX_some hy]
        exact qcn.2 ⟨hn, hys⟩
theorem inlB_n64 : ∀ (F : List Fn) (bs : List (Option Ex)), (∀ b ∈ bs, ∀ y, b = some y → n64 y) → (∀ f ∈ F, n64 f.body) → ∀ b ∈ inlB bs F, ∀ y, b = some y → n64 y
  | [], bs, h, _ => by rw [inlB]; exact h
  | f :: F, bs, h, hF => by
    rw [inlB]
    refine inlB_n64 F _ (fun b hb y hy => ?_) fun g hg => hF g (by simp [hg])
    rcases List.mem_append.1 hb with hb | hb
    · exact h b hb y hy
    · rw [List.mem_singleton] at hb
      rw [hb] at hy
      exact inl_n64 h f.body (hF f (by simp)) hy
theorem inline_n64 {F : List Fn} (hF : ∀ f ∈ F, n64 f.body) {e y : Ex} (he : n64 e) (h : qby F e = some y) : n64 y := by
  unfold qby at h
  split at h
  · rename_i x hx
    split at h
    · cases h
    · cases h
      exact inl_n64 (inlB_n64 F [] (by simp) hF) e he hx
  · cases h
end Go.Proofs.YtnkimlkoijfcpaaGreatDoor

/- What the bound of an '..Upto' statement gives: few parts, few values; and numbers that are ints. -/
namespace Go.Proofs.YtnkimlkoijfcpaaGreatDoor
open Go.RowKit Go.Lib
theorem bulk_one {H : Type} (d : DataW H) : 1 ≤ Rows.uptoBulk d := by
  cases d with
  | lit l => cases l <;> simp [Rows.uptoBulk]
  | nil => simp [Rows.uptoBulk]
  | ptr d => simp [Rows.uptoBulk]
  | slice elems spare => simp [Rows.uptoBulk]
  | agg parts => simp [Rows.uptoBulk]
  | iface t d => simp [Rows.uptoBulk]
  | map entries => simp [Rows.uptoBulk]
  | held h => simp [Rows.uptoBulk]
theorem bulk_len {H : Type} (l : List (DataW H)) : l.length ≤ Rows.uptoBulkAll l := by
  induction l with
  | nil => simp [Rows.uptoBulkAll]
  | cons x r ih => have := bulk_one x; simp only [Rows.uptoBulkAll, List.length_cons]; omega
theorem bulk_sum {α : Type} {H : Type} {g : α → Nat} : ∀ {l : List α} {E : List (DataW H)}, l.length = E.length → (∀ i (h : i < l.length) (h2 : i < E.length), g l[i] ≤ Rows.uptoBulk E[i]) → (l.map g).sum ≤ Rows.uptoBulkAll E
  | [], _, _, _ => by simp
  | a :: l, [], h, _ => by simp at h
  | a :: l, d :: E, h, hg => by
    have h1 := hg 0 (by simp) (by simp)
    have h2 := bulk_sum (l := l) (E := E) (by simpa using h) fun i hi hi2 => hg (i + 1) (by simpa using hi) (by simpa using hi2)
    simp only [List.getElem_cons_zero] at h1
    simp only [List.map_cons, List.sum_cons, Rows.uptoBulkAll]
    omega
theorem cellsAt_eq {w : World} {b : Nat} : ∀ {cs cs' : List Value} {off : Nat}, qbe w b off cs → qbe w b off cs' → cs.length = cs'.length → cs = cs'
  | [], [], _, _, _, _ => rfl
  | [], _ :: _, _, _, _, h => by simp at h
  | _ :: _, [], _, _, _, h => by simp at h
  | v :: cs, v' :: cs', off, h1, h2, h => by
    have e1 : v = v' := by have := h1.1.symm.trans h2.1; exact Option.some.inj this
    rw [e1, cellsAt_eq h1.2 h2.2 (by simpa using h)]
theorem cells_len {w : World} {base : Nat} {a : Addr} {n : Nat} {cs : List Value} (h : w.cells? base a n = some cs) : cs.length = n := by
  unfold World.cells? at h
  split at h
  · have := mapM_some_length h
    simpa using this
  · cases h
section
variable {H : Type} {enc : TypeId × Value → H} {P : Program} {w : World} {sp : Nat → Bool} {hd : Bool}
theorem sl_bulk {t e : TypeId} {α : Type} {f : α → D} {sz n : Nat} {Q : α → Prop} {g : α → Nat} {l : List α} {cs : List Value} {x : DataW H × List MemPlace} (ht : P.underlying t = some (.slice e)) (hc : P.cellsOf e = sz) (hsz : 0 < sz) (hw : ∀ x, (f x).width = sz)
    (hr : Rd w Any (.sl (l.map f)) cs) (h : DataW.trod enc P w 0 sp hd n t cs = some x)
    (hel : ∀ a ∈ l, ∀ n c y, Rd w Any (f a) c → DataW.trod enc P w 0 sp hd n e c = some y → Q a ∧ g a ≤ Rows.uptoBulk y.1) :
    (∀ a ∈ l, Q a) ∧ (l.map g).sum + 1 ≤ Rows.uptoBulk x.1 ∧ l.length + 1 ≤ Rows.uptoBulk x.1 := by
  rw [Rd] at hr
  obtain ⟨A, cap', b, off, rfl, -, -, hA, hm⟩ := hr
  rw [List.length_map] at hA h
  rcases DataW.trod_slice ht h with ⟨h1, rfl⟩ | ⟨a, len, cap, elems, rest, m, rfl, h1, rfl, -, -, -, hlen, hel2, -, -⟩
  · have : l.length = 0 := by
      injection h1 with h2 _
      injection h2
    obtain rfl := List.eq_nil_of_length_eq_zero this
    simp [Rows.uptoBulk]
  · have h2 : Value.slice A l.length cap' = Value.slice (some a) len cap := by simpa using h1
    injection h2 with h3 h4 h5
    have hlen2 : l.length = elems.length := by rw [hlen]; omega
    have key : ∀ i (hi : i < l.length) (hi2 : i < elems.length), Q l[i] ∧ g l[i] ≤ Rows.uptoBulk elems[i].1 := fun i hi hi2 => by
      have h6 := hel2 i (by omega)
      rw [hc, List.getElem?_eq_getElem hi2] at h6
      obtain ⟨cs', h7, h8⟩ := Option.bind_eq_some_iff.1 h6
      obtain ⟨h9, h10⟩ := cells_open h7 hsz
      obtain ⟨c2, h11, h12⟩ := RdM.get (sz := sz) _ b off hm (fun d hd => by obtain ⟨a, -, rfl⟩ := List.mem_map.1 hd; exact hw a) i (by simpa using hi)
      rw [List.getElem_map] at h12
      obtain ⟨hAe, -⟩ := hA (by omega)
      rw [h3] at hAe
      obtain rfl : a = ⟨b, off, none⟩ := Option.some.inj hAe
      have e1 : c2 = cs' := cellsAt_eq h11 (by rw [qbi] at h10; exact h10) (by
        rw [Rd.length _ _ h12, hw]
        exact (cells_len h7).symm)
      subst e1
      exact hel _ (List.getElem_mem hi) _ _ _ h12 h8
    refine ⟨fun a ha => ?_, ?_, ?_⟩
    · obtain ⟨i, hi, rfl⟩ := List.mem_iff_getElem.1 ha
      exact (key i hi (by omega)).1
    · have := bulk_sum (g := g) (l := l) (E := elems.map (·.1)) (by simpa using hlen2) fun i hi hi2 => by
        rw [List.getElem_map]; exact (key i hi (by simpa using hi2)).2
      simp only [Rows.uptoBulk]; omega
    · have := bulk_len (elems.map (·.1))
      rw [List.length_map] at this
      simp only [Rows.uptoBulk]; omega
theorem qes {fs : Array Field} {n : Nat} {cs : List Value} {xs : List (DataW H × List MemPlace)} (i : Nat) (T : TypeId) (o k : Nat)
    (hf : ∀ (i : Nat) (f : Field), fs[i]? = some f → DataW.trod enc P w 0 sp hd n f.type ((cs.drop f.offset).take (P.cellsOf f.type)) = xs[i]?)
    (hi : ∃ f : Field, fs[i]? = some f ∧ f.type = T ∧ f.offset = o) (hk : P.cellsOf T = k) : DataW.trod enc P w 0 sp hd n T ((cs.drop o).take k) = xs[i]? := by
  obtain ⟨f, hi, rfl, rfl⟩ := hi
  subst hk
  exact hf i f hi
theorem ex_bulk : ∀ (e : Ex) (n : Nat) (cs : List Value) (x : DataW H × List MemPlace), Rd w Any e.d cs → DataW.trod enc Tryz.prog w 0 sp hd n 25 cs = some x → n64 e ∧ 5 * parts e ≤ Rows.uptoBulk x.1 := fun e => by
  induction e using Ex.ind with
  | h o nn s l ih =>
    intro n cs x hr h
    obtain ⟨A, cap, b, off, rfl, hl1, hl2, hl3, hm⟩ := Ex.open hr
    simp only [Ex.args, Ex.op, Ex.n, Ex.s] at hl1 hl2 hl3 hm h
    have hsl : Rd w Any (.sl (l.map Ex.d)) [.slice A l.length cap] := by
      rw [Rd]; exact ⟨A, cap, b, off, by rw [List.length_map], by rw [List.length_map]; exact hl1, hl2, by rw [List.length_map]; exact hl3, hm⟩
    obtain ⟨xs, m, rfl, rfl, hlen, hx4, hf⟩ := DataW.trod_struct Tryz.underlying25 h
    have hc3 : Tryz.prog.cellsOf 3 = 1 := by kernel_rfl
    have hc9 : Tryz.prog.cellsOf 9 = 1 := by kernel_rfl
    have hcl : Tryz.prog.cellsOf 23 = 1 := by kernel_rfl
    have hc : Tryz.prog.cellsOf 25 = 4 := by kernel_rfl
    have hx4' : xs.length = 4 := hx4
    match xs, hx4' with
    | [y0, y1, y2, y3], _ =>
      have h1 : DataW.trod enc Tryz.prog w 0 sp hd m 3 [.int .i64 nn] = some y1 := qes 1 3 1 1 hf ⟨_, rfl, rfl, rfl⟩ hc3
      have h2 : DataW.trod enc Tryz.prog w 0 sp hd m 9 [.string s] = some y2 := qes 2 9 2 1 hf ⟨_, rfl, rfl, rfl⟩ hc9
      have h3 : DataW.trod enc Tryz.prog w 0 sp hd m 23 [.slice A l.length cap] = some y3 := qes 3 23 3 1 hf ⟨_, rfl, rfl, rfl⟩ hcl
      obtain ⟨k, hk1, -, hk2⟩ := DataW.trod_int Tryz.underlying3 h1
      obtain ⟨s2, hs1, -, hs2⟩ := DataW.trod_string Tryz.underlying9 h2
      obtain rfl : nn = k := by simpa using hk1
      obtain rfl : s = s2 := by simpa using hs1
      obtain ⟨g1, g2, -⟩ := sl_bulk (Q := n64) (g := fun e => 5 * parts e) Tryz.underlying23 hc (by omega) Ex.width hsl h3 fun a ha n c y hr hy => ih a ha n c y hr hy
      have hi : I64 nn := by
        have e1 : IntKind.i64.min = -9223372036854775808 := by decide
        have e2 : IntKind.i64.max = 9223372036854775807 := by decide
        simpa [Lit.wf, e1, e2, I64] using hk2
      refine ⟨qcn.2 ⟨⟨hi, by unfold maxLen at hs2; omega⟩, g1⟩, ?_⟩
      have hp : ∀ l : List Ex, (l.map fun e => 5 * parts e).sum = 5 * qu l := fun l => by
        induction l with
        | nil => rw [qu]; rfl
        | cons a l ih => rw [List.map_cons, List.sum_cons, qu, ih]; omega
      rw [hp] at g2
      have b0 := bulk_one y0.1
      have b1 := bulk_one y1.1
      have b2 := bulk_one y2.1
      rw [parts]
      simp only [List.map_cons, List.map_nil, Rows.uptoBulk, Rows.uptoBulkAll]
      omega
theorem fn_bulk (f : Fn) (n : Nat) (cs : List Value) (x : DataW H × List MemPlace) (hr : Rd w Any f.d cs) (h : DataW.trod enc Tryz.prog w 0 sp hd n 80 cs = some x) : n64 f.body ∧ 5 * parts f.body ≤ Rows.uptoBulk x.1 := by
  have hb : Rd w Any f.body.d ((cs.drop 3).take 4) := by
    obtain ⟨A1, cap1, b1, off1, A2, cap2, b2, off2, rfl, -, -, -, -, g1, g2, g3, g4⟩ := Fn.open hr
    exact Ex.mk_rd g1 g2 g3 g4
  obtain ⟨xs, m, rfl, rfl, hlen, hx4, hf⟩ := DataW.trod_struct Tryz.underlying80 h
  have hce : Tryz.prog.cellsOf 25 = 4 := by kernel_rfl
  have hx4' : xs.length = 4 := hx4
  match xs, hx4' with
  | [y0, y1, y2, y3], _ =>
    have h3 : DataW.trod enc Tryz.prog w 0 sp hd m 25 ((cs.drop 3).take 4) = some y3 := qes 3 25 3 4 hf ⟨_, rfl, rfl, rfl⟩ hce
    obtain ⟨g1, g2⟩ := ex_bulk f.body m _ y3 hb h3
    refine ⟨g1, ?_⟩
    simp only [List.map_cons, List.map_nil, Rows.uptoBulk, Rows.uptoBulkAll]
    omega
end
end Go.Proofs.YtnkimlkoijfcpaaGreatDoor

/- Lifting a law: the arguments' readings, and what the listed variables hold. -/
namespace Go.Proofs.YtnkimlkoijfcpaaGreatDoor
open Go.ChangeShapes Go.WideShapes Go.ChangeAt Go.RowKit Go.Lib
section
variable {H : Type} {enc : TypeId × Value → H}
end
section
variable {H : Type} {enc : TypeId × Value → H} {w w0 : World} {sp : Nat → Bool} {hd : Bool} {b0 : Nat} {t : TypeId} {v : Value}
end
section
variable {H : Type} {enc : TypeId × Value → H} {P : Program} {w : World} {base : Nat} {spare : Nat → Bool} {held : Bool} {t0 t1 t2 t3 : TypeId} {args : Array Value} {ds : List (DataW H)} {ps : List MemPlace}
theorem trodAll_4_02 (h : DataW.TrodAll enc P w base spare held [t0, t1, t2, t3] args.toList ds ps) :
    ∃ v0 v1 v2 v3 d0 d1 d2 d3 p0 p1 p2 p3, args = #[v0, v1, v2, v3] ∧ ds = [d0, d1, d2, d3] ∧ ps = p0 ++ p1 ++ p2 ++ p3 ∧ DataW.Trod enc P w base spare held t0 v0 d0 p0 ∧ DataW.Trod enc P w base spare held t1 v1 d1 p1 ∧ DataW.Trod enc P w base spare held t2 v2 d2 p2 ∧ DataW.Trod enc P w base spare held t3 v3 d3 p3 := by
  obtain ⟨v0, vs0, d0, ds0, p0, q0, hargs, rfl, rfl, h0, r0⟩ := trodAll_cons h
  obtain ⟨v1, vs1, d1, ds1, p1, q1, rfl, rfl, rfl, h1, r1⟩ := trodAll_cons r0
  obtain ⟨v2, vs2, d2, ds2, p2, q2, rfl, rfl, rfl, h2, r2⟩ := trodAll_cons r1
  obtain ⟨v3, vs3, d3, ds3, p3, q3, rfl, rfl, rfl, h3, r3⟩ := trodAll_cons r2
  obtain ⟨rfl, rfl, rfl⟩ := trodAll_nil r3
  exact ⟨v0, v1, v2, v3, d0, d1, d2, d3, p0, p1, p2, p3, by cases args; simp_all, rfl, by simp, h0, h1, h2, h3⟩
end
theorem var_block {P : Program} {w : World} {n : String} {g : Nat} {cs : Array Value} (hg : P.globalNamed n = some g) (h : w.var? P n = some cs) : ∃ t fz, w.heap[g]? = some (.cells cs t fz) := by
  unfold World.var? at h
  rw [hg] at h
  dsimp only [Option.bind] at h
  split at h
  · rename_i cs' t fz he
    cases h
    exact ⟨t, fz, he⟩
  · cases h
theorem globS_flat {w : World} {b : Nat} {cs : List Value} (h : ∃ t fz, w.heap[b]? = some (.cells cs.toArray t fz)) (hne : cs ≠ []) : GlobS (St.flat w) b 0 cs := by
  obtain ⟨t, fz, hb⟩ := h
  refine ⟨qdl _ 0 fun j u hj => ⟨?_, ?_⟩, ⟨t, fz, hb⟩, (fun r hr => by cases hr), hne⟩
  · show World.cell? w _ = _
    simp [World.cell?, hb, hj]
  · exact (Array.getElem?_eq_some_iff.1 hb).1
def tabS {H : Type} (zs : List ByteArray) : DataW H := .agg (zs.map fun z => .lit (.string z.data.toList))
theorem cells_of_tabS {H : Type} {enc : TypeId × Value → H} {P : Program} {w : World} {base : Nat} {sp : Nat → Bool} {held : Bool} {fuel : Nat} {t e : TypeId} {n : Nat} {cs : List Value} {zs : List ByteArray} {p : List MemPlace}
    (ht : P.underlying t = some (.array n e)) (he : P.underlying e = some .string) (hce : P.cellsOf e = 1) (hct : P.cellsOf t = n)
    (h : DataW.trod enc P w base sp held fuel t cs = some (tabS zs, p)) : cs = zs.map fun z => Value.string z := by
  obtain ⟨xs, m, rfl, hx, hl, hxl, hf⟩ := DataW.trod_array ht h
  rw [hct] at hl
  have hxs : xs.map (·.1) = zs.map fun z => (DataW.lit (.string z.data.toList) : DataW H) := by
    have := congrArg Prod.fst hx
    simpa [tabS] using this.symm
  have hzl : zs.length = n := by
    have := congrArg List.length hxs
    simp at this
    omega
  apply List.ext_getElem?
  intro i
  by_cases hi : i < n
  · have hi2 := hf i hi
    rw [List.getElem?_eq_getElem (by omega)] at hi2
    obtain ⟨s, hc, hxi, -⟩ := DataW.trod_string he hi2
    rw [hce, Nat.mul_one] at hc
    have h1 : cs[i]? = some (.string s) := by
      have := congrArg (·[0]?) hc
      simpa [List.getElem?_take, List.getElem?_drop] using this
    have h2 : (xs.map (·.1))[i]? = some (DataW.lit (.string s.data.toList) : DataW H) := by
      rw [List.getElem?_map, List.getElem?_eq_getElem (by omega), hxi]; rfl
    rw [hxs] at h2
    simp only [List.getElem?_map, Option.map_eq_some_iff, DataW.lit.injEq, Lit.string.injEq] at h2
    obtain ⟨z', hz', hzz⟩ := h2
    have hz3 : z' = s := by
      cases z'; cases s; simp at hzz; rw [hzz]
    subst hz3
    simp [h1, hz']
  · rw [List.getElem?_eq_none (by omega), List.getElem?_eq_none (by simp; omega)]
end Go.Proofs.YtnkimlkoijfcpaaGreatDoor

/- api.Delta as an abstract value. -/
namespace Go.Proofs.YtnkimlkoijfcpaaGreatDoor
open Go.RowKit Go.Lib
def Delta.av (x : Delta) : AV := .agg [.int x.time, .sl (x.row.map Val.av), .int x.n]
@[simp] theorem Delta.av_nt (x : Delta) : x.av.nt = true := rfl
@[simp] theorem Delta.av_sure (x : Delta) : x.av.sure = true := rfl
@[simp] theorem Delta.av_elem (x : Delta) : x.av.elem = true := rfl
@[simp] theorem Delta.av_width (x : Delta) : x.av.width = 3 := rfl
@[simp] theorem Delta.av_pub (x : Delta) : x.av.pub = x.av := by unfold Delta.av; rw [AV.pub]; simp only [AV.pubs_cons, AV.pubs_nil, AV.pub_v, pubV, AV.pub_sl]
@[simp] theorem Delta.av_cells (x : Delta) : x.av.cells = [.int x.time, .sl (x.row.map Val.av), .int x.n] := rfl
@[simp] theorem Delta.av_fold (x : Delta) : AV.agg [.int x.time, .sl (x.row.map Val.av), .int x.n] = x.av := rfl
@[simp] theorem Delta.av_val? (x : Delta) : x.av.val? = none := rfl
@[simp] theorem Delta.rd_all (x : Delta) (σ : Nat → AB) : rdAt σ true 3 (.ep x.av 0) = some x.av := rfl
@[simp] theorem Delta.rd_0 (x : Delta) (σ : Nat → AB) (n : Nat) : rdAt σ false n (.ep x.av 0) = some (.int x.time) := rfl
@[simp] theorem Delta.rd_1 (x : Delta) (σ : Nat → AB) (n : Nat) : rdAt σ false n (.ep x.av 1) = some (.sl (x.row.map Val.av)) := rfl
@[simp] theorem Delta.rd_2 (x : Delta) (σ : Nat → AB) (n : Nat) : rdAt σ false n (.ep x.av 2) = some (.int x.n) := rfl
@[simp] theorem Delta.av_cl (x : Delta) (m : Nat) : x.av.cl m := by unfold Delta.av; simp [-Delta.av_fold]
@[simp] theorem Delta.avs_cl (l : List Delta) (m : Nat) : AV.cls m (l.map Delta.av) := AV.cls_map (fun f => f.av_cl m) l
@[simp] theorem Delta.avs_wid (l : List Delta) : AV.wid (l.map Delta.av) 3 := AV.wid_map (f := Delta.av) (fun a => a.av_width) l
theorem Delta.d_av (x : Delta) : x.d.av = x.av := by
  simp only [Delta.d, Delta.av, D.av, D.cs, D.avs_map, List.map_map, List.nil_append, List.cons_append, List.append_nil]
  rw [show D.av ∘ Val.d = Val.av from funext Val.d_av]
  try rfl
theorem Delta.flat {w : World} {x : Delta} {cs : List Value} (h : Rd w Any x.d cs) : RR1 (St.flat w) x.av (.agg cs.toArray) := by
  have := flat_rc h
  rw [Delta.d_av, Delta.av, RC] at this
  exact ⟨cs, rfl, this⟩
end Go.Proofs.YtnkimlkoijfcpaaGreatDoor

/- api.Ins as an abstract value. -/
namespace Go.Proofs.YtnkimlkoijfcpaaGreatDoor
open Go.RowKit Go.Lib
def Ins.av (x : Ins) : AV := .agg [.int x.op, .int x.to, .int x.a, .int x.b, .int x.c, .int x.n, .str x.s]
@[simp] theorem Ins.av_nt (x : Ins) : x.av.nt = true := rfl
@[simp] theorem Ins.av_sure (x : Ins) : x.av.sure = true := rfl
@[simp] theorem Ins.av_elem (x : Ins) : x.av.elem = true := rfl
@[simp] theorem Ins.av_width (x : Ins) : x.av.width = 7 := rfl
@[simp] theorem Ins.av_pub (x : Ins) : x.av.pub = x.av := by unfold Ins.av; rw [AV.pub]; simp only [AV.pubs_cons, AV.pubs_nil, AV.pub_v, pubV, AV.pub_sl]
@[simp] theorem Ins.av_cells (x : Ins) : x.av.cells = [.int x.op, .int x.to, .int x.a, .int x.b, .int x.c, .int x.n, .str x.s] := rfl
@[simp] theorem Ins.av_fold (x : Ins) : AV.agg [.int x.op, .int x.to, .int x.a, .int x.b, .int x.c, .int x.n, .str x.s] = x.av := rfl
@[simp] theorem Ins.av_val? (x : Ins) : x.av.val? = none := rfl
@[simp] theorem Ins.rd_all (x : Ins) (σ : Nat → AB) : rdAt σ true 7 (.ep x.av 0) = some x.av := rfl
@[simp] theorem Ins.rd_0 (x : Ins) (σ : Nat → AB) (n : Nat) : rdAt σ false n (.ep x.av 0) = some (.int x.op) := rfl
@[simp] theorem Ins.rd_1 (x : Ins) (σ : Nat → AB) (n : Nat) : rdAt σ false n (.ep x.av 1) = some (.int x.to) := rfl
@[simp] theorem Ins.rd_2 (x : Ins) (σ : Nat → AB) (n : Nat) : rdAt σ false n (.ep x.av 2) = some (.int x.a) := rfl
@[simp] theorem Ins.rd_3 (x : Ins) (σ : Nat → AB) (n : Nat) : rdAt σ false n (.ep x.av 3) = some (.int x.b) := rfl
@[simp] theorem Ins.rd_4 (x : Ins) (σ : Nat → AB) (n : Nat) : rdAt σ false n (.ep x.av 4) = some (.int x.c) := rfl
@[simp] theorem Ins.rd_5 (x : Ins) (σ : Nat → AB) (n : Nat) : rdAt σ false n (.ep x.av 5) = some (.int x.n) := rfl
@[simp] theorem Ins.rd_6 (x : Ins) (σ : Nat → AB) (n : Nat) : rdAt σ false n (.ep x.av 6) = some (.str x.s) := rfl
@[simp] theorem Ins.av_cl (x : Ins) (m : Nat) : x.av.cl m := by unfold Ins.av; simp [-Ins.av_fold]
@[simp] theorem Ins.avs_cl (l : List Ins) (m : Nat) : AV.cls m (l.map Ins.av) := AV.cls_map (fun f => f.av_cl m) l
@[simp] theorem Ins.avs_wid (l : List Ins) : AV.wid (l.map Ins.av) 7 := AV.wid_map (f := Ins.av) (fun a => a.av_width) l
theorem Ins.q : qinfo Tryz.prog 78 = some [(0, 0), (1, 0), (2, 0), (3, 0), (4, 0), (5, 0), (6, 2)] := by kernel_rfl
def Ins.eqB (x y : Ins) : Bool := ((x.op == y.op) && ((x.to == y.to) && ((x.a == y.a) && ((x.b == y.b) && ((x.c == y.c) && ((x.n == y.n) && (x.s.toList == y.s.toList)))))))
@[simp] theorem Ins.aeq (x y : Ins) : Proofs.YtnkimlkoijfcpaaGreatDoor.aeq Tryz.prog .eql 78 x.av y.av = some (Ins.eqB x y) := by
  simp only [Proofs.YtnkimlkoijfcpaaGreatDoor.aeq, aeqS, Ins.q, Ins.av, feq, feq1, Ins.eqB]
  simp
@[simp] theorem Ins.aneq (x y : Ins) : Proofs.YtnkimlkoijfcpaaGreatDoor.aeq Tryz.prog .neq 78 x.av y.av = some (!Ins.eqB x y) := by
  simp only [Proofs.YtnkimlkoijfcpaaGreatDoor.aeq, aeqS, Ins.q, Ins.av, feq, feq1, Ins.eqB]
  simp
theorem Ins.d_av (x : Ins) : x.d.av = x.av := rfl
theorem Ins.flat {w : World} {x : Ins} {cs : List Value} (h : Rd w Any x.d cs) : RR1 (St.flat w) x.av (.agg cs.toArray) := by
  have := flat_rc h
  rw [Ins.d_av, Ins.av, RC] at this
  exact ⟨cs, rfl, this⟩
end Go.Proofs.YtnkimlkoijfcpaaGreatDoor

/- api.Code as an abstract value. -/
namespace Go.Proofs.YtnkimlkoijfcpaaGreatDoor
open Go.RowKit Go.Lib
def Cod.av (x : Cod) : AV := .agg [.sl (x.ins.map Ins.av), .sl (x.types.map AV.int), .int x.out]
@[simp] theorem Cod.av_nt (x : Cod) : x.av.nt = true := rfl
@[simp] theorem Cod.av_sure (x : Cod) : x.av.sure = true := rfl
@[simp] theorem Cod.av_elem (x : Cod) : x.av.elem = true := rfl
@[simp] theorem Cod.av_width (x : Cod) : x.av.width = 3 := rfl
@[simp] theorem Cod.av_pub (x : Cod) : x.av.pub = x.av := by unfold Cod.av; rw [AV.pub]; simp only [AV.pubs_cons, AV.pubs_nil, AV.pub_v, pubV, AV.pub_sl]
@[simp] theorem Cod.av_cells (x : Cod) : x.av.cells = [.sl (x.ins.map Ins.av), .sl (x.types.map AV.int), .int x.out] := rfl
@[simp] theorem Cod.av_fold (x : Cod) : AV.agg [.sl (x.ins.map Ins.av), .sl (x.types.map AV.int), .int x.out] = x.av := rfl
@[simp] theorem Cod.av_val? (x : Cod) : x.av.val? = none := rfl
@[simp] theorem Cod.rd_all (x : Cod) (σ : Nat → AB) : rdAt σ true 3 (.ep x.av 0) = some x.av := rfl
@[simp] theorem Cod.rd_0 (x : Cod) (σ : Nat → AB) (n : Nat) : rdAt σ false n (.ep x.av 0) = some (.sl (x.ins.map Ins.av)) := rfl
@[simp] theorem Cod.rd_1 (x : Cod) (σ : Nat → AB) (n : Nat) : rdAt σ false n (.ep x.av 1) = some (.sl (x.types.map AV.int)) := rfl
@[simp] theorem Cod.rd_2 (x : Cod) (σ : Nat → AB) (n : Nat) : rdAt σ false n (.ep x.av 2) = some (.int x.out) := rfl
@[simp] theorem Cod.av_cl (x : Cod) (m : Nat) : x.av.cl m := by unfold Cod.av; simp [-Cod.av_fold]
@[simp] theorem Cod.avs_cl (l : List Cod) (m : Nat) : AV.cls m (l.map Cod.av) := AV.cls_map (fun f => f.av_cl m) l
@[simp] theorem Cod.avs_wid (l : List Cod) : AV.wid (l.map Cod.av) 3 := AV.wid_map (f := Cod.av) (fun a => a.av_width) l
theorem Cod.d_av (x : Cod) : x.d.av = x.av := by
  simp only [Cod.d, Cod.av, D.av, D.cs, D.avs_map, List.map_map, List.nil_append, List.cons_append, List.append_nil]
  rw [show D.av ∘ Ins.d = Ins.av from funext Ins.d_av]
  try rfl
theorem Cod.flat {w : World} {x : Cod} {cs : List Value} (h : Rd w Any x.d cs) : RR1 (St.flat w) x.av (.agg cs.toArray) := by
  have := flat_rc h
  rw [Cod.d_av, Cod.av, RC] at this
  exact ⟨cs, rfl, this⟩
end Go.Proofs.YtnkimlkoijfcpaaGreatDoor

/- Readings of arguments: api.Delta. -/
namespace Go.Proofs.YtnkimlkoijfcpaaGreatDoor
open Go.RowKit Go.Lib
section
variable {H : Type} {enc : TypeId × Value → H} {w : World} {sp : Nat → Bool} {hd : Bool}
end
end Go.Proofs.YtnkimlkoijfcpaaGreatDoor

/- Readings of arguments: api.Ins. -/
namespace Go.Proofs.YtnkimlkoijfcpaaGreatDoor
open Go.RowKit Go.Lib
section
variable {H : Type} {enc : TypeId × Value → H} {w : World} {sp : Nat → Bool} {hd : Bool}
end
end Go.Proofs.YtnkimlkoijfcpaaGreatDoor

/- Readings of arguments: api.Code. -/
namespace Go.Proofs.YtnkimlkoijfcpaaGreatDoor
open Go.RowKit Go.Lib
section
variable {H : Type} {enc : TypeId × Value → H} {w : World} {sp : Nat → Bool} {hd : Bool}
end
end Go.Proofs.YtnkimlkoijfcpaaGreatDoor
