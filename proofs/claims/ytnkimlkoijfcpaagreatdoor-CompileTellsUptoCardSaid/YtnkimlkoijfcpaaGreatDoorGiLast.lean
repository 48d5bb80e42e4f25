/- Inlining, of the reference. -/
import Derived.Test.YtnkimlkoijfcpaaGreatDoorGi2
import Derived.Test.YtnkimlkoijfcpaaGreatDoorGi14
import Derived.Test.YtnkimlkoijfcpaaGreatDoorGi15
import Derived.Test.YtnkimlkoijfcpaaGreatDoorGi16
import Derived.Test.YtnkimlkoijfcpaaGreatDoorGi17
import Derived.Test.YtnkimlkoijfcpaaGreatDoorGi19
import Derived.Test.YtnkimlkoijfcpaaGreatDoorGi22
import Derived.Test.YtnkimlkoijfcpaaGreatDoorGi27
import Derived.Test.YtnkimlkoijfcpaaGreatDoorGi29
set_option linter.unusedSimpArgs false
set_option linter.unusedVariables false
namespace Go.Proofs.YtnkimlkoijfcpaaGreatDoor
open Go.RowKit Go.Lib
set_option maxHeartbeats 1000000 in
theorem expand_g (bs : List (Option Ex)) (hbs : ∀ b ∈ bs, parts (b.getD zeroE) ≤ 1000) (Bd : List Ex) (gd : List Bool) (hBd : Bd = bs.map fun b => b.getD zeroE) (hgd : gd = bs.map Option.isSome) (e : Ex) : parts e ≤ 900 →
    Gives Tryz.prog 118 [e.av, .sl (Bd.map Ex.av), .sl (gd.map AV.bool)] (exr (inlE bs e)) := by
  induction e using Ex.ind with | h o n s l ih => ?_
  intro hpb
  have hl : l.length ≤ 900 := by rw [parts] at hpb; have := qbd l; omega
  obtain ⟨R, hR⟩ : ∃ R, R = inlE bs (.mk o n s l) := ⟨_, rfl⟩
  rw [← hR]
  refine qn Tryz.func118 Tryz.ntmps118 rfl rfl (by decide) rfl (by intro n; simp) fun σ n0 hcl hft => ?_
  repeat' (first | ((first | ((with_reducible refine qo (fun hg => ?_) (fun hg => ?_)) <;> (try simp only [hg]) <;> (try simp only [gS] at hg) <;> (try (first | simp only [eq_false hg, gI] | simp only [eq_true hg, gI]))) | (with_reducible first | refine qf ?_ | refine qe ?_ | refine qk ?_ | refine qj ?_) | refine qc ?_ | refine qh ?_ | refine qi ?_ | refine qm ?_) <;> (try simp (disch := first | omega | simp) [qg, -qq, -qr])) | ((with_reducible refine sideT ?_ ?_); first | omega | assumption | (simp; done)) | (refine qd fun K hK => ?_) | (refine qa ?_) | refine ql ?_ | ((first | refine hK _ ?_ | (clear hK K; refine hK _ ?_) | (clear hK K; clear hK K; refine hK _ ?_)); clear hK K) | refine qb ?_)
  refine qbf 2 3 25 4 (by rfl) (by rfl) ?_
  refine qs hcl (fun ys : List Ex => [(1, .sl (Bd.map Ex.av)), (2, .sl (gd.map AV.bool)), (3, .ptr n0 0), (6, .ptr (n0 + 1) 0), (8, .ptr (n0 + 2) 0), (9, .int ys.length)]) (fun ys => [.cells [.int o, .int n, .str s, .sl (l.map Ex.av)] 25, .cells [.int 0, .int 0, .str ByteArray.empty, .v (.slice none 0 0)] 25, .cells [.int o, .int n, .str s, .gs (n0 + 3) (ys.map Ex.av)] 25, .tail ys.length 25 4])
    (fun ys => ∃ k, k ≤ l.length ∧ ys.length = k ∧ inlL bs (l.take k) = some ys) (fun ys => l.length - ys.length) [] (by exact ⟨0, by omega, rfl, by rw [List.take_zero, inlL]⟩) (by simp) fun ys hys => ?_
  obtain ⟨k, hk, rfl, hys⟩ := hys
  by_cases hlt : ys.length < l.length
  · have hpk : parts l[ys.length] ≤ 900 := by rw [parts] at hpb; have := qbb l l[ys.length] (List.getElem_mem hlt); omega
    have hc := ih _ (List.getElem_mem hlt) hpk
    cases hx : inlE bs l[ys.length] with
    | none =>
      obtain rfl : R = none := by rw [hR, inlE, inlL_none l (List.getElem_mem hlt) hx]
      rw [hx] at hc
      repeat' (first | ((first | ((with_reducible refine qo (fun hg => ?_) (fun hg => ?_)) <;> (try simp only [hg]) <;> (try simp only [gS] at hg) <;> (try (first | simp only [eq_false hg, gI] | simp only [eq_true hg, gI]))) | (with_reducible first | refine qf ?_ | refine qe ?_ | refine qk ?_ | refine qj ?_) | refine acall (hc) ?_ | refine qp (hc) ?_ | refine qc ?_ | refine qh ?_ | refine qi ?_ | refine qm ?_) <;> (try simp (disch := first | omega | simp) [qg, -qq, -qr, hlt])) | ((with_reducible refine sideT ?_ ?_); first | omega | assumption | (simp; done)) | (refine qd fun K hK => ?_) | (refine qa ?_) | refine ql ?_ | ((first | refine hK _ ?_ | (clear hK K; refine hK _ ?_) | (clear hK K; clear hK K; refine hK _ ?_)); clear hK K) | refine qb ?_)
    | some y =>
      rw [hx] at hc
      have hsz : (ys.length + 1) * 64 ≤ 140737488355328 := by omega
      repeat' (first | ((first | ((with_reducible refine qo (fun hg => ?_) (fun hg => ?_)) <;> (try simp only [hg]) <;> (try simp only [gS] at hg) <;> (try (first | simp only [eq_false hg, gI] | simp only [eq_true hg, gI]))) | (with_reducible first | refine qf ?_ | refine qe ?_ | refine qk ?_ | refine qj ?_) | refine acall (hc) ?_ | refine qp (hc) ?_ | refine qc ?_ | refine qh ?_ | refine qi ?_ | refine qm ?_) <;> (try simp (disch := first | omega | simp) [qg, -qq, -qr, hlt, hsz])) | ((with_reducible refine sideT ?_ ?_); first | omega | assumption | (simp; done)) | (refine qd fun K hK => ?_) | (refine qa ?_) | refine ql ?_ | ((first | refine hK _ ?_ | (clear hK K; refine hK _ ?_) | (clear hK K; clear hK K; refine hK _ ?_)); clear hK K) | refine qb ?_)
      refine ⟨ys ++ [y], ⟨_, ?_, rfl, ?_⟩, by simp; omega, by simp⟩
      · simp; omega
      rw [List.length_append, List.length_singleton, List.take_succ_eq_append_getElem hlt]
      exact inlL_snoc hx _ hys
  · have hyl : ys.length = l.length := by omega
    rw [hyl, List.take_length] at hys
    have hlen : gd.length = bs.length := by rw [hgd]; simp
    have hlen2 : Bd.length = bs.length := by rw [hBd]; simp
    by_cases ho : o = 22 ∧ 0 ≤ n ∧ n < bs.length
    · obtain ⟨rfl, h0, h1⟩ := ho
      have hn : n.toNat < bs.length := by omega
      have hng : n.toNat < gd.length := by omega
      have hnB : n.toNat < Bd.length := by omega
      have hyp : ∀ y ∈ ys, parts y ≤ 1000 := fun y hy => by
        obtain ⟨e, -, he⟩ := inlL_mem l hys y hy
        exact qcs he
      cases hb : bs[n.toNat] with
      | none =>
        obtain rfl : R = none := by rw [hR, inlE, hys]; dsimp only; rw [if_pos ⟨rfl, h0, h1⟩, List.getD_eq_getElem?_getD, List.getElem?_eq_getElem hn, hb]; rfl
        have hg0 : gd[n.toNat] = false := by subst hgd; simp [hb]
        repeat' (first | ((first | ((with_reducible refine qo (fun hg => ?_) (fun hg => ?_)) <;> (try simp only [hg]) <;> (try simp only [gS] at hg) <;> (try (first | simp only [eq_false hg, gI] | simp only [eq_true hg, gI]))) | (with_reducible first | refine qf ?_ | refine qe ?_ | refine qk ?_ | refine qj ?_) | refine qc ?_ | refine qh ?_ | refine qi ?_ | refine qm ?_) <;> (try simp (disch := first | omega | simp) [qg, -qq, -qr, hyl, h0, h1, hlen, hlen2, hg0])) | ((with_reducible refine sideT ?_ ?_); first | omega | assumption | (simp; done)) | (refine qd fun K hK => ?_) | (refine qa ?_) | refine ql ?_ | ((first | refine hK _ ?_ | (clear hK K; refine hK _ ?_) | (clear hK K; clear hK K; refine hK _ ?_)); clear hK K) | refine qb ?_)
      | some b =>
        have hRb : R = fitX ((putP 4 ys b).getD zeroE) := by rw [hR, inlE, hys]; dsimp only; rw [if_pos ⟨rfl, h0, h1⟩, List.getD_eq_getElem?_getD, List.getElem?_eq_getElem hn, hb]; rfl
        have hg0 : gd[n.toNat] = true := by subst hgd; simp [hb]
        have hbb : Bd[n.toNat] = b := by subst hBd; simp [hb]
        have hpb2 : parts b ≤ 1000 := hbs (some b) (by rw [← hb]; exact List.getElem_mem hn)
        have hpp : parts ((putP 4 ys b).getD zeroE) ≤ 1000000 := by
          cases hput : putP 4 ys b with
          | none => decide
          | some x => have h2 := putP_parts (K := 1000) (by omega) hyp b hput; have : parts b * 1000 ≤ 1000 * 1000 := Nat.mul_le_mul_right _ hpb2; show parts x ≤ _; omega
        have hcall := rput_g 4 ys (fun x hx => by have := hyp x hx; omega) b (by omega)
        have hrp := rparts_g ((putP 4 ys b).getD zeroE) hpp
        by_cases hbig : 1000 < parts ((putP 4 ys b).getD zeroE)
        · obtain rfl : R = none := by rw [hRb, fitX, if_pos hbig]
          have hbig' : (1000 : Int) < parts ((putP 4 ys b).getD zeroE) := by omega
          repeat' (first | ((first | ((with_reducible refine qo (fun hg => ?_) (fun hg => ?_)) <;> (try simp only [hg]) <;> (try simp only [gS] at hg) <;> (try (first | simp only [eq_false hg, gI] | simp only [eq_true hg, gI]))) | (with_reducible first | refine qf ?_ | refine qe ?_ | refine qk ?_ | refine qj ?_) | refine acall (hcall) ?_ | refine qp (hcall) ?_ | refine acall (hrp) ?_ | refine qp (hrp) ?_ | refine qc ?_ | refine qh ?_ | refine qi ?_ | refine qm ?_) <;> (try simp (disch := first | omega | simp) [qg, -qq, -qr, hyl, h0, h1, hlen, hlen2, hg0, hbb, hbig'])) | ((with_reducible refine sideT ?_ ?_); first | omega | assumption | (simp; done)) | (refine qd fun K hK => ?_) | (refine qa ?_) | refine ql ?_ | ((first | refine hK _ ?_ | (clear hK K; refine hK _ ?_) | (clear hK K; clear hK K; refine hK _ ?_)); clear hK K) | refine qb ?_)
        · obtain rfl : R = some ((putP 4 ys b).getD zeroE) := by rw [hRb, fitX, if_neg hbig]
          have hbig' : ¬ (1000 : Int) < parts ((putP 4 ys b).getD zeroE) := by omega
          repeat' (first | ((first | ((with_reducible refine qo (fun hg => ?_) (fun hg => ?_)) <;> (try simp only [hg]) <;> (try simp only [gS] at hg) <;> (try (first | simp only [eq_false hg, gI] | simp only [eq_true hg, gI]))) | (with_reducible first | refine qf ?_ | refine qe ?_ | refine qk ?_ | refine qj ?_) | refine acall (hcall) ?_ | refine qp (hcall) ?_ | refine acall (hrp) ?_ | refine qp (hrp) ?_ | refine qc ?_ | refine qh ?_ | refine qi ?_ | refine qm ?_) <;> (try simp (disch := first | omega | simp) [qg, -qq, -qr, hyl, h0, h1, hlen, hlen2, hg0, hbb, hbig'])) | ((with_reducible refine sideT ?_ ?_); first | omega | assumption | (simp; done)) | (refine qd fun K hK => ?_) | (refine qa ?_) | refine ql ?_ | ((first | refine hK _ ?_ | (clear hK K; refine hK _ ?_) | (clear hK K; clear hK K; refine hK _ ?_)); clear hK K) | refine qb ?_)
    · have hRb : R = fitX (.mk o n s ys) := by rw [hR, inlE, hys]; dsimp only; rw [if_neg ho]
      have hpp : parts (.mk o n s ys) ≤ 1000000 := by
        have h2 := partsL_bound (K := 1000) ys (fun y hy => by
          obtain ⟨e, -, he⟩ := inlL_mem l hys y hy
          exact qcs he)
        have : ys.length * 1000 ≤ 900 * 1000 := Nat.mul_le_mul_right _ (by omega)
        rw [parts]; omega
      generalize hZ : Ex.mk o n s ys = Z at *
      have hZf : AV.agg [.int o, .int n, .str s, .sl (ys.map Ex.av)] = Z.av := by rw [← hZ, Ex.av_mk]
      have hcall : Gives Tryz.prog 12 [.agg [.int o, .int n, .str s, .sl (ys.map Ex.av)]] (.int (parts Z)) := by rw [hZf]; exact rparts_g Z hpp
      have hb : (o == 22) = true ∧ 0 ≤ n ∧ ¬ n < (bs.length : Int) ∨ (o == 22) = true ∧ ¬ 0 ≤ n ∨ (o == 22) = false := by
        by_cases ho1 : o = 22
        · by_cases h0 : 0 ≤ n
          · exact .inl ⟨by simp [ho1], h0, fun h => ho ⟨ho1, h0, h⟩⟩
          · exact .inr (.inl ⟨by simp [ho1], h0⟩)
        · exact .inr (.inr (by simp [ho1]))
      generalize hPZ : parts Z = NP at *
      have hRR : R = if 1000 < NP then none else some Z := by rw [hRb, fitX, hPZ]
      clear hRb hR
      by_cases hbig : 1000 < NP
      · obtain rfl : R = none := by rw [hRR, if_pos hbig]
        have hbig' : (1000 : Int) < NP := by omega
        rcases hb with ⟨h22, h0, h1⟩ | ⟨h22, h0⟩ | h22
        · repeat' (first | ((first | ((with_reducible refine qo (fun hg => ?_) (fun hg => ?_)) <;> (try simp only [hg]) <;> (try simp only [gS] at hg) <;> (try (first | simp only [eq_false hg, gI] | simp only [eq_true hg, gI]))) | (with_reducible first | refine qf ?_ | refine qe ?_ | refine qk ?_ | refine qj ?_) | refine acall (hcall) ?_ | refine qp (hcall) ?_ | refine qc ?_ | refine qh ?_ | refine qi ?_ | refine qm ?_) <;> (try simp (disch := first | omega | simp) [qg, -qq, -qr, hyl, h0, h1, hlen, hlen2, h22, hbig'])) | ((with_reducible refine sideT ?_ ?_); first | omega | assumption | (simp; done)) | (refine qd fun K hK => ?_) | (refine qa ?_) | refine ql ?_ | ((first | refine hK _ ?_ | (clear hK K; refine hK _ ?_) | (clear hK K; clear hK K; refine hK _ ?_)); clear hK K) | refine qb ?_)
        · repeat' (first | ((first | ((with_reducible refine qo (fun hg => ?_) (fun hg => ?_)) <;> (try simp only [hg]) <;> (try simp only [gS] at hg) <;> (try (first | simp only [eq_false hg, gI] | simp only [eq_true hg, gI]))) | (with_reducible first | refine qf ?_ | refine qe ?_ | refine qk ?_ | refine qj ?_) | refine acall (hcall) ?_ | refine qp (hcall) ?_ | refine qc ?_ | refine qh ?_ | refine qi ?_ | refine qm ?_) <;> (try simp (disch := first | omega | simp) [qg, -qq, -qr, hyl, h0, hlen, hlen2, h22, hbig'])) | ((with_reducible refine sideT ?_ ?_); first | omega | assumption | (simp; done)) | (refine qd fun K hK => ?_) | (refine qa ?_) | refine ql ?_ | ((first | refine hK _ ?_ | (clear hK K; refine hK _ ?_) | (clear hK K; clear hK K; refine hK _ ?_)); clear hK K) | refine qb ?_)
        · repeat' (first | ((first | ((with_reducible refine qo (fun hg => ?_) (fun hg => ?_)) <;> (try simp only [hg]) <;> (try simp only [gS] at hg) <;> (try (first | simp only [eq_false hg, gI] | simp only [eq_true hg, gI]))) | (with_reducible first | refine qf ?_ | refine qe ?_ | refine qk ?_ | refine qj ?_) | refine acall (hcall) ?_ | refine qp (hcall) ?_ | refine qc ?_ | refine qh ?_ | refine qi ?_ | refine qm ?_) <;> (try simp (disch := first | omega | simp) [qg, -qq, -qr, hyl, hlen, hlen2, h22, hbig'])) | ((with_reducible refine sideT ?_ ?_); first | omega | assumption | (simp; done)) | (refine qd fun K hK => ?_) | (refine qa ?_) | refine ql ?_ | ((first | refine hK _ ?_ | (clear hK K; refine hK _ ?_) | (clear hK K; clear hK K; refine hK _ ?_)); clear hK K) | refine qb ?_)
      · obtain rfl : R = some Z := by rw [hRR, if_neg hbig]
        have hbig' : ¬ (1000 : Int) < NP := by omega
        rcases hb with ⟨h22, h0, h1⟩ | ⟨h22, h0⟩ | h22
        · repeat' (first | ((first | ((with_reducible refine qo (fun hg => ?_) (fun hg => ?_)) <;> (try simp only [hg]) <;> (try simp only [gS] at hg) <;> (try (first | simp only [eq_false hg, gI] | simp only [eq_true hg, gI]))) | (with_reducible first | refine qf ?_ | refine qe ?_ | refine qk ?_ | refine qj ?_) | refine acall (hcall) ?_ | refine qp (hcall) ?_ | refine qc ?_ | refine qh ?_ | refine qi ?_ | refine qm ?_) <;> (try simp (disch := first | omega | simp) [qg, -qq, -qr, hyl, h0, h1, hlen, hlen2, h22, hbig'])) | ((with_reducible refine sideT ?_ ?_); first | omega | assumption | (simp; done)) | (refine qd fun K hK => ?_) | (refine qa ?_) | refine ql ?_ | ((first | refine hK _ ?_ | (clear hK K; refine hK _ ?_) | (clear hK K; clear hK K; refine hK _ ?_)); clear hK K) | refine qb ?_)
          all_goals exact hZf.symm
        · repeat' (first | ((first | ((with_reducible refine qo (fun hg => ?_) (fun hg => ?_)) <;> (try simp only [hg]) <;> (try simp only [gS] at hg) <;> (try (first | simp only [eq_false hg, gI] | simp only [eq_true hg, gI]))) | (with_reducible first | refine qf ?_ | refine qe ?_ | refine qk ?_ | refine qj ?_) | refine acall (hcall) ?_ | refine qp (hcall) ?_ | refine qc ?_ | refine qh ?_ | refine qi ?_ | refine qm ?_) <;> (try simp (disch := first | omega | simp) [qg, -qq, -qr, hyl, h0, hlen, hlen2, h22, hbig'])) | ((with_reducible refine sideT ?_ ?_); first | omega | assumption | (simp; done)) | (refine qd fun K hK => ?_) | (refine qa ?_) | refine ql ?_ | ((first | refine hK _ ?_ | (clear hK K; refine hK _ ?_) | (clear hK K; clear hK K; refine hK _ ?_)); clear hK K) | refine qb ?_)
          all_goals exact hZf.symm
        · repeat' (first | ((first | ((with_reducible refine qo (fun hg => ?_) (fun hg => ?_)) <;> (try simp only [hg]) <;> (try simp only [gS] at hg) <;> (try (first | simp only [eq_false hg, gI] | simp only [eq_true hg, gI]))) | (with_reducible first | refine qf ?_ | refine qe ?_ | refine qk ?_ | refine qj ?_) | refine acall (hcall) ?_ | refine qp (hcall) ?_ | refine qc ?_ | refine qh ?_ | refine qi ?_ | refine qm ?_) <;> (try simp (disch := first | omega | simp) [qg, -qq, -qr, hyl, hlen, hlen2, h22, hbig'])) | ((with_reducible refine sideT ?_ ?_); first | omega | assumption | (simp; done)) | (refine qd fun K hK => ?_) | (refine qa ?_) | refine ql ?_ | ((first | refine hK _ ?_ | (clear hK K; refine hK _ ?_) | (clear hK K; clear hK K; refine hK _ ?_)); clear hK K) | refine qb ?_)
          all_goals exact hZf.symm
end Go.Proofs.YtnkimlkoijfcpaaGreatDoor

/- Inline, of the reference. -/
namespace Go.Proofs.YtnkimlkoijfcpaaGreatDoor
open Go.RowKit Go.Lib
set_option maxHeartbeats 1000000 in
theorem rinline_g (F : List Fn) (hF : ∀ f ∈ F, parts f.body ≤ 900) (hlF : F.length ≤ 1000) (e : Ex) (he : parts e ≤ 900) :
    Gives Tryz.prog 62 [.sl (F.map Fn.av), e.av] (exr (qby F e)) := by
  obtain ⟨R, hR⟩ : ∃ R, R = qby F e := ⟨_, rfl⟩
  rw [← hR]
  refine qn Tryz.func62 Tryz.ntmps62 rfl rfl (by decide) rfl (by intro n; simp) fun σ n0 hcl hft => ?_
  repeat' (first | ((first | ((with_reducible refine qo (fun hg => ?_) (fun hg => ?_)) <;> (try simp only [hg]) <;> (try simp only [gS] at hg) <;> (try (first | simp only [eq_false hg, gI] | simp only [eq_true hg, gI]))) | (with_reducible first | refine qf ?_ | refine qe ?_ | refine qk ?_ | refine qj ?_) | refine qc ?_ | refine qh ?_ | refine qi ?_ | refine qm ?_) <;> (try simp (disch := first | omega | simp) [qg, -qq, -qr])) | ((with_reducible refine sideT ?_ ?_); first | omega | assumption | (simp; done)) | (refine qd fun K hK => ?_) | (refine qa ?_) | refine ql ?_ | ((first | refine hK _ ?_ | (clear hK K; refine hK _ ?_) | (clear hK K; clear hK K; refine hK _ ?_)); clear hK K) | refine qb ?_)
  refine qbk 6 25 4 (by simp) ?_
  refine qbk 7 4 1 (by simp) ?_
  simp only [List.length_append, List.length_cons, List.length_nil, Nat.zero_add, Nat.reduceAdd, List.cons_append, List.nil_append]
  refine qs hcl (fun k : Nat => [(0, .sl (F.map Fn.av)), (3, .ptr n0 0), (4, .ptr (n0 + 1) 0), (6, .gs (n0 + 2) (((inlB [] (F.take k)).map fun b => b.getD zeroE).map Ex.av)), (7, .gs (n0 + 3) (((inlB [] (F.take k)).map Option.isSome).map AV.bool)), (8, .int k)]) (fun k => [.cells [.int e.op, .int e.n, .str e.s, .sl (e.args.map Ex.av)] 25, .cells [.int 0, .int 0, .str ByteArray.empty, .v (.slice none 0 0)] 25, .tail k 25 4, .tail k 4 1])
    (fun k => k ≤ F.length) (fun k => F.length - k) 0 (by simp) (by simp [inlB]) fun k hk => ?_
  have hlen : (inlB [] (F.take k)).length = k := by rw [inlB_len]; simp; omega
  have hbs := inlB_parts (F.take k)
  have hsn : ∀ (h : k < F.length), inlB [] (F.take (k + 1)) = inlB [] (F.take k) ++ [inlE (inlB [] (F.take k)) F[k].body] := fun h => by rw [List.take_succ_eq_append_getElem h, inlB_snoc]
  have hfin : k = F.length → qby F e = match inlE (inlB [] (F.take k)) e with
      | some x => if 12 < levels x then none else some x
      | none => none := fun h => by rw [h, List.take_length]; rfl
  generalize inlB [] (F.take k) = bs at *
  obtain ⟨Bd, hBd⟩ : ∃ Bd, Bd = bs.map fun b => b.getD zeroE := ⟨_, rfl⟩
  obtain ⟨gd, hgd⟩ : ∃ gd, gd = bs.map Option.isSome := ⟨_, rfl⟩
  rw [← hBd, ← hgd]
  have hl1 : Bd.length = k := by rw [hBd]; simpa using hlen
  have hl2 : gd.length = k := by rw [hgd]; simpa using hlen
  have hcall := fun e he => expand_g bs hbs Bd gd hBd hgd e he
  by_cases hlt : k < F.length
  · have hc := hcall F[k].body (hF _ (List.getElem_mem hlt))
    repeat' (first | ((first | ((with_reducible refine qo (fun hg => ?_) (fun hg => ?_)) <;> (try simp only [hg]) <;> (try simp only [gS] at hg) <;> (try (first | simp only [eq_false hg, gI] | simp only [eq_true hg, gI]))) | (with_reducible first | refine qf ?_ | refine qe ?_ | refine qk ?_ | refine qj ?_) | refine acall (hc) ?_ | refine qp (hc) ?_ | refine qc ?_ | refine qh ?_ | refine qi ?_ | refine qm ?_) <;> (try simp (disch := first | omega | simp) [qg, -qq, -qr, hlt, hl1, hl2])) | ((with_reducible refine sideT ?_ ?_); first | omega | assumption | (simp; done)) | (refine qd fun K hK => ?_) | (refine qa ?_) | refine ql ?_ | ((first | refine hK _ ?_ | (clear hK K; refine hK _ ?_) | (clear hK K; clear hK K; refine hK _ ?_)); clear hK K) | refine qb ?_)
    refine ⟨k + 1, by omega, by omega, ?_⟩
    rw [hsn hlt]
    simp [hBd, hgd]
  · have hkl : k = F.length := by omega
    have hRR := hR.trans (hfin hkl)
    have hc := hcall e he
    have hlv : levels ((inlE bs e).getD zeroE) ≤ 1000000 := by
      cases hx : inlE bs e with
      | none => show levels zeroE ≤ _; decide
      | some y => have := qcs hx; have := qcx y; show levels y ≤ _; omega
    have hlvg := rlevels_g' _ hlv
    subst hkl
    cases hx : inlE bs e with
    | none =>
      rw [hx] at hc
      obtain rfl : R = none := by rw [hRR, hx]
      repeat' (first | ((first | ((with_reducible refine qo (fun hg => ?_) (fun hg => ?_)) <;> (try simp only [hg]) <;> (try simp only [gS] at hg) <;> (try (first | simp only [eq_false hg, gI] | simp only [eq_true hg, gI]))) | (with_reducible first | refine qf ?_ | refine qe ?_ | refine qk ?_ | refine qj ?_) | refine acall (hc) ?_ | refine qp (hc) ?_ | refine qc ?_ | refine qh ?_ | refine qi ?_ | refine qm ?_) <;> (try simp (disch := first | omega | simp) [qg, -qq, -qr])) | ((with_reducible refine sideT ?_ ?_); first | omega | assumption | (simp; done)) | (refine qd fun K hK => ?_) | (refine qa ?_) | refine ql ?_ | ((first | refine hK _ ?_ | (clear hK K; refine hK _ ?_) | (clear hK K; clear hK K; refine hK _ ?_)); clear hK K) | refine qb ?_)
    | some y =>
      rw [hx] at hRR hlvg hc
      replace hlvg : Gives Tryz.prog 72 [y.av] (.int (levels y)) := hlvg
      by_cases h12 : 12 < levels y
      · obtain rfl : R = none := by rw [hRR]; dsimp only; rw [if_pos h12]
        have h12' : (12 : Int) < levels y := by omega
        repeat' (first | ((first | ((with_reducible refine qo (fun hg => ?_) (fun hg => ?_)) <;> (try simp only [hg]) <;> (try simp only [gS] at hg) <;> (try (first | simp only [eq_false hg, gI] | simp only [eq_true hg, gI]))) | (with_reducible first | refine qf ?_ | refine qe ?_ | refine qk ?_ | refine qj ?_) | refine acall (hc) ?_ | refine qp (hc) ?_ | refine acall (hlvg) ?_ | refine qp (hlvg) ?_ | refine qc ?_ | refine qh ?_ | refine qi ?_ | refine qm ?_) <;> (try simp (disch := first | omega | simp) [qg, -qq, -qr, h12'])) | ((with_reducible refine sideT ?_ ?_); first | omega | assumption | (simp; done)) | (refine qd fun K hK => ?_) | (refine qa ?_) | refine ql ?_ | ((first | refine hK _ ?_ | (clear hK K; refine hK _ ?_) | (clear hK K; clear hK K; refine hK _ ?_)); clear hK K) | refine qb ?_)
      · obtain rfl : R = some y := by rw [hRR]; dsimp only; rw [if_neg h12]
        have h12' : ¬ (12 : Int) < levels y := by omega
        repeat' (first | ((first | ((with_reducible refine qo (fun hg => ?_) (fun hg => ?_)) <;> (try simp only [hg]) <;> (try simp only [gS] at hg) <;> (try (first | simp only [eq_false hg, gI] | simp only [eq_true hg, gI]))) | (with_reducible first | refine qf ?_ | refine qe ?_ | refine qk ?_ | refine qj ?_) | refine acall (hc) ?_ | refine qp (hc) ?_ | refine acall (hlvg) ?_ | refine qp (hlvg) ?_ | refine qc ?_ | refine qh ?_ | refine qi ?_ | refine qm ?_) <;> (try simp (disch := first | omega | simp) [qg, -qq, -qr, h12'])) | ((with_reducible refine sideT ?_ ?_); first | omega | assumption | (simp; done)) | (refine qd fun K hK => ?_) | (refine qa ?_) | refine ql ?_ | ((first | refine hK _ ?_ | (clear hK K; refine hK _ ?_) | (clear hK K; clear hK K; refine hK _ ?_)); clear hK K) | refine qb ?_)
end Go.Proofs.YtnkimlkoijfcpaaGreatDoor

/- Walk of layer 26: Compile, of the reference. -/
namespace Go.Proofs.YtnkimlkoijfcpaaGreatDoor
open Go.RowKit Go.Lib
set_option maxHeartbeats 4000000 in
theorem rCompile_g (F : List Fn) (cols : List Int) (e : Ex) (hF : ∀ f ∈ F, parts f.body ≤ 900) (hlF : F.length ≤ 1000) (he : parts e ≤ 900) :
    Gives Tryz.prog 25 [.sl (F.map Fn.av), .sl (cols.map AV.int), e.av] (.tup [(qbm F cols e).1.av, .int (qbm F cols e).2]) := by
  obtain ⟨R, hR⟩ : ∃ R, R = qbm F cols e := ⟨_, rfl⟩
  rw [← hR]
  unfold qbm at hR
  have c1 := rtype_g F cols [] e (by omega) (fun f hf => by have := hF f hf; omega)
  simp only [List.map_nil] at c1
  cases ht : typeP F cols [] e with
  | none =>
    rw [ht] at hR c1
    simp only [Option.getD_none, Option.isSome_none] at c1
    refine qn Tryz.func25 Tryz.ntmps25 rfl rfl (by decide) rfl (by intro n; simp) fun σ n0 hcl hft => ?_
    repeat' (first | ((first | ((with_reducible refine qo (fun hg => ?_) (fun hg => ?_)) <;> (try simp only [hg]) <;> (try simp only [gS] at hg) <;> (try (first | simp only [eq_false hg, gI] | simp only [eq_true hg, gI]))) | (with_reducible first | refine qf ?_ | refine qe ?_ | refine qk ?_ | refine qj ?_) | refine acall (c1) ?_ | refine qp (c1) ?_ | refine qc ?_ | refine qh ?_ | refine qi ?_ | refine qm ?_) <;> (try simp (disch := first | omega | simp) [qg, -qq, -qr])) | ((with_reducible refine sideT ?_ ?_); first | omega | assumption | (simp; done)) | (refine qd fun K hK => ?_) | (refine qa ?_) | refine ql ?_ | ((first | refine hK _ ?_ | (clear hK K; refine hK _ ?_) | (clear hK K; clear hK K; refine hK _ ?_)); clear hK K) | refine qb ?_)
    all_goals (rw [hR]; simp [zeroCd, Cod.av, -Cod.av_fold])
  | some t =>
    rw [ht] at hR c1
    simp only [Option.getD_some, Option.isSome_some] at c1
    obtain ⟨h1, h2, h3, h4⟩ := typeP_all ht
    have c2 := rinline_g F hF hlF e he
    unfold exr at c2
    cases hy : qby F e with
    | none =>
      rw [hy] at hR c2
      simp only [Option.getD_none, Option.isSome_none] at c2
      refine qn Tryz.func25 Tryz.ntmps25 rfl rfl (by decide) rfl (by intro n; simp) fun σ n0 hcl hft => ?_
      repeat' (first | ((first | ((with_reducible refine qo (fun hg => ?_) (fun hg => ?_)) <;> (try simp only [hg]) <;> (try simp only [gS] at hg) <;> (try (first | simp only [eq_false hg, gI] | simp only [eq_true hg, gI]))) | (with_reducible first | refine qf ?_ | refine qe ?_ | refine qk ?_ | refine qj ?_) | refine acall (c1) ?_ | refine qp (c1) ?_ | refine acall (c2) ?_ | refine qp (c2) ?_ | refine qc ?_ | refine qh ?_ | refine qi ?_ | refine qm ?_) <;> (try simp (disch := first | omega | simp) [qg, -qq, -qr])) | ((with_reducible refine sideT ?_ ?_); first | omega | assumption | (simp; done)) | (refine qd fun K hK => ?_) | (refine qa ?_) | refine ql ?_ | ((first | refine hK _ ?_ | (clear hK K; refine hK _ ?_) | (clear hK K; clear hK K; refine hK _ ?_)); clear hK K) | refine qb ?_)
      all_goals (rw [hR]; simp [zeroCd, Cod.av, -Cod.av_fold])
    | some y =>
      rw [hy] at hR c2
      simp only [Option.getD_some, Option.isSome_some] at c2
      obtain ⟨g1, g2, g3, g4, g5⟩ := compile_typ ht hy
      have c3 := rfold_g y g1 (by omega)
      have gk := raw_ok g3 g4
      have c4 := rraw_g cols (foldE y) g4
      have c5 := rcompact_g gk.1
      have hR1 : R.1 = compP (rawP cols (foldE y)) := by rw [hR]
      have hR0 : R.2 = 0 := by rw [hR]
      clear hR
      rw [← hR1] at c5
      generalize rawP cols (foldE y) = W at *
      generalize foldE y = f at *
      refine qn Tryz.func25 Tryz.ntmps25 rfl rfl (by decide) rfl (by intro n; simp) fun σ n0 hcl hft => ?_
      repeat' (first | ((first | ((with_reducible refine qo (fun hg => ?_) (fun hg => ?_)) <;> (try simp only [hg]) <;> (try simp only [gS] at hg) <;> (try (first | simp only [eq_false hg, gI] | simp only [eq_true hg, gI]))) | (with_reducible first | refine qf ?_ | refine qe ?_ | refine qk ?_ | refine qj ?_) | refine acall (c1) ?_ | refine qp (c1) ?_ | refine acall (c2) ?_ | refine qp (c2) ?_ | refine acall (c3) ?_ | refine qp (c3) ?_ | refine acall (c4) ?_ | refine qp (c4) ?_ | refine acall (c5) ?_ | refine qp (c5) ?_ | refine qc ?_ | refine qh ?_ | refine qi ?_ | refine qm ?_) <;> (try simp (disch := first | omega | simp) [qg, -qq, -qr])) | ((with_reducible refine sideT ?_ ?_); first | omega | assumption | (simp; done)) | (refine qd fun K hK => ?_) | (refine qa ?_) | refine ql ?_ | ((first | refine hK _ ?_ | (clear hK K; refine hK _ ?_) | (clear hK K; clear hK K; refine hK _ ?_)); clear hK K) | refine qb ?_)
      all_goals (first | rfl | (rw [hR0]; done) | (simp [hR0]; done))
end Go.Proofs.YtnkimlkoijfcpaaGreatDoor

/- Walk of the reference of layer 25: Same, of a program and itself. -/
namespace Go.Proofs.YtnkimlkoijfcpaaGreatDoor
open Go.RowKit Go.Lib
set_option maxHeartbeats 4000000 in
theorem same25_g (c : Cod) (h1 : c.ins.length ≤ 1000000) (h2 : c.types.length ≤ 1000000) : Gives Tryz.prog 21 [c.av, c.av] (.bool true) := by
  obtain ⟨ins, types, out⟩ := c
  simp only at *
  have e0 : (out != out) = false := by simp
  have e1 : ((ins.length : Int) != ins.length) = false := by simp
  have e2 : ((types.length : Int) != types.length) = false := by simp
  refine qn Tryz.func21 Tryz.ntmps21 rfl rfl (by decide) rfl (by intro n; simp) fun σ n0 hcl hft => ?_
  repeat' (first | ((first | ((with_reducible refine qo (fun hg => ?_) (fun hg => ?_)) <;> (try simp only [hg]) <;> (try simp only [gS] at hg) <;> (try (first | simp only [eq_false hg, gI] | simp only [eq_true hg, gI]))) | (with_reducible first | refine qf ?_ | refine qe ?_ | refine qk ?_ | refine qj ?_) | refine qc ?_ | refine qh ?_ | refine qi ?_ | refine qm ?_) <;> (try simp (disch := first | omega | simp) [qg, -qq, -qr, e0, e1, e2])) | ((with_reducible refine sideT ?_ ?_); first | omega | assumption | (simp; done)) | (refine qd fun K hK => ?_) | (refine qa ?_) | refine ql ?_ | ((first | refine hK _ ?_ | (clear hK K; refine hK _ ?_) | (clear hK K; clear hK K; refine hK _ ?_)); clear hK K) | refine qb ?_)
  refine qs hcl (fun k : Nat => [(2, .ptr n0 0), (3, .ptr (n0 + 1) 0), (5, .int k)]) (fun _ => [.cells [.sl (ins.map Ins.av), .sl (types.map AV.int), .int out] 45, .cells [.sl (ins.map Ins.av), .sl (types.map AV.int), .int out] 45])
    (fun k => k ≤ ins.length) (fun k => ins.length - k) 0 (by omega) (by simp) fun k hk => ?_
  by_cases hlt : k < ins.length
  · have hq : Ins.eqB ins[k] ins[k] = true := by simp [Ins.eqB]
    repeat' (first | ((first | ((with_reducible refine qo (fun hg => ?_) (fun hg => ?_)) <;> (try simp only [hg]) <;> (try simp only [gS] at hg) <;> (try (first | simp only [eq_false hg, gI] | simp only [eq_true hg, gI]))) | (with_reducible first | refine qf ?_ | refine qe ?_ | refine qk ?_ | refine qj ?_) | refine qc ?_ | refine qh ?_ | refine qi ?_ | refine qm ?_) <;> (try simp (disch := first | omega | simp) [qg, -qq, -qr, hlt, hq])) | ((with_reducible refine sideT ?_ ?_); first | omega | assumption | (simp; done)) | (refine qd fun K hK => ?_) | (refine qa ?_) | refine ql ?_ | ((first | refine hK _ ?_ | (clear hK K; refine hK _ ?_) | (clear hK K; clear hK K; refine hK _ ?_)); clear hK K) | refine qb ?_)
    exact ⟨k + 1, by omega, by omega, by simp⟩
  · repeat' (first | ((first | ((with_reducible refine qo (fun hg => ?_) (fun hg => ?_)) <;> (try simp only [hg]) <;> (try simp only [gS] at hg) <;> (try (first | simp only [eq_false hg, gI] | simp only [eq_true hg, gI]))) | (with_reducible first | refine qf ?_ | refine qe ?_ | refine qk ?_ | refine qj ?_) | refine qc ?_ | refine qh ?_ | refine qi ?_ | refine qm ?_) <;> (try simp (disch := first | omega | simp) [qg, -qq, -qr, hlt])) | ((with_reducible refine sideT ?_ ?_); first | omega | assumption | (simp; done)) | (refine qd fun K hK => ?_) | (refine qa ?_) | refine ql ?_ | ((first | refine hK _ ?_ | (clear hK K; refine hK _ ?_) | (clear hK K; clear hK K; refine hK _ ?_)); clear hK K) | refine qb ?_)
    refine qs hcl (fun k : Nat => [(2, .ptr n0 0), (3, .ptr (n0 + 1) 0), (6, .int k)]) (fun _ => [.cells [.sl (ins.map Ins.av), .sl (types.map AV.int), .int out] 45, .cells [.sl (ins.map Ins.av), .sl (types.map AV.int), .int out] 45])
      (fun k => k ≤ types.length) (fun k => types.length - k) 0 (by omega) (by simp) fun k hk => ?_
    by_cases hlt : k < types.length
    · have hq : (types[k] != types[k]) = false := by simp
      repeat' (first | ((first | ((with_reducible refine qo (fun hg => ?_) (fun hg => ?_)) <;> (try simp only [hg]) <;> (try simp only [gS] at hg) <;> (try (first | simp only [eq_false hg, gI] | simp only [eq_true hg, gI]))) | (with_reducible first | refine qf ?_ | refine qe ?_ | refine qk ?_ | refine qj ?_) | refine qc ?_ | refine qh ?_ | refine qi ?_ | refine qm ?_) <;> (try simp (disch := first | omega | simp) [qg, -qq, -qr, hlt, hq])) | ((with_reducible refine sideT ?_ ?_); first | omega | assumption | (simp; done)) | (refine qd fun K hK => ?_) | (refine qa ?_) | refine ql ?_ | ((first | refine hK _ ?_ | (clear hK K; refine hK _ ?_) | (clear hK K; clear hK K; refine hK _ ?_)); clear hK K) | refine qb ?_)
      exact ⟨k + 1, by omega, by omega, by simp⟩
    · repeat' (first | ((first | ((with_reducible refine qo (fun hg => ?_) (fun hg => ?_)) <;> (try simp only [hg]) <;> (try simp only [gS] at hg) <;> (try (first | simp only [eq_false hg, gI] | simp only [eq_true hg, gI]))) | (with_reducible first | refine qf ?_ | refine qe ?_ | refine qk ?_ | refine qj ?_) | refine qc ?_ | refine qh ?_ | refine qi ?_ | refine qm ?_) <;> (try simp (disch := first | omega | simp) [qg, -qq, -qr, hlt])) | ((with_reducible refine sideT ?_ ?_); first | omega | assumption | (simp; done)) | (refine qd fun K hK => ?_) | (refine qa ?_) | refine ql ?_ | ((first | refine hK _ ?_ | (clear hK K; refine hK _ ?_) | (clear hK K; clear hK K; refine hK _ ?_)); clear hK K) | refine qb ?_)
end Go.Proofs.YtnkimlkoijfcpaaGreatDoor

/- Walk of layer 26: the law CompileTells. -/
namespace Go.Proofs.YtnkimlkoijfcpaaGreatDoor
open Go.RowKit Go.Lib
theorem constV_parts (v : Val) : parts (qbg v) = 1 := by
  unfold qbg
  split
  · rfl
  · split
    · rfl
    · split <;> rfl
set_option maxRecDepth 100000 in
set_option maxHeartbeats 16000000 in
theorem tells26_g (F : List Fn) (cols : List Int) (e : Ex) (v : Val) (hlF : F.length ≤ 2000000) (hF : ∀ f ∈ F, parts f.body ≤ 1000000) (hp : parts e ≤ 1000000) (hn : n64 e) (hFn : ∀ f ∈ F, n64 f.body) :
    Gives Tryz.prog 5 [.sl (F.map Fn.av), .sl (cols.map AV.int), e.av, v.av] (.bool true) := by
  have csm := small26_g
  have cl := light26_g F cols e hlF hF hp
  cases hl : light26 F cols e with
  | false =>
    rw [hl] at cl
    refine qn Tryz.func5 Tryz.ntmps5 rfl rfl (by decide) rfl (by intro n; simp) fun σ n0 hcl hft => ?_
    repeat' (first | ((first | ((with_reducible refine qo (fun hg => ?_) (fun hg => ?_)) <;> (try simp only [hg]) <;> (try simp only [gS] at hg) <;> (try (first | simp only [eq_false hg, gI] | simp only [eq_true hg, gI]))) | (with_reducible first | refine qf ?_ | refine qe ?_ | refine qk ?_ | refine qj ?_) | refine acall (csm) ?_ | refine qp (csm) ?_ | refine acall (cl) ?_ | refine qp (cl) ?_ | refine qc ?_ | refine qh ?_ | refine qi ?_ | refine qm ?_) <;> (try simp (disch := first | omega | simp) [qg, -qq, -qr])) | ((with_reducible refine sideT ?_ ?_); first | omega | assumption | (simp; done)) | (refine qd fun K hK => ?_) | (refine qa ?_) | refine ql ?_ | ((first | refine hK _ ?_ | (clear hK K; refine hK _ ?_) | (clear hK K; clear hK K; refine hK _ ?_)); clear hK K) | refine qb ?_)
  | true =>
  rw [hl] at cl
  by_cases hv : 300 < v.s.size
  · refine qn Tryz.func5 Tryz.ntmps5 rfl rfl (by decide) rfl (by intro n; simp) fun σ n0 hcl hft => ?_
    have hv' : (300 : Int) < v.s.size := by omega
    repeat' (first | ((first | ((with_reducible refine qo (fun hg => ?_) (fun hg => ?_)) <;> (try simp only [hg]) <;> (try simp only [gS] at hg) <;> (try (first | simp only [eq_false hg, gI] | simp only [eq_true hg, gI]))) | (with_reducible first | refine qf ?_ | refine qe ?_ | refine qk ?_ | refine qj ?_) | refine acall (csm) ?_ | refine qp (csm) ?_ | refine acall (cl) ?_ | refine qp (cl) ?_ | refine qc ?_ | refine qh ?_ | refine qi ?_ | refine qm ?_) <;> (try simp (disch := first | omega | simp) [qg, -qq, -qr, hv, hv'])) | ((with_reducible refine sideT ?_ ?_); first | omega | assumption | (simp; done)) | (refine qd fun K hK => ?_) | (refine qa ?_) | refine ql ?_ | ((first | refine hK _ ?_ | (clear hK K; refine hK _ ?_) | (clear hK K; clear hK K; refine hK _ ?_)); clear hK K) | refine qb ?_)
    all_goals (exfalso; omega)
  have hl2 := hl
  unfold light26 slimP at hl2
  simp only [Bool.and_eq_true, decide_eq_true_eq, List.all_eq_true] at hl2
  obtain ⟨hfb, ⟨h25, h30⟩, hlv, h300⟩ := hl2
  have hF3 : ∀ f ∈ F, parts f.body ≤ 300 := fun f hf => by
    have := hfb f hf
    unfold fnB slimP at this
    simp only [Bool.and_eq_true, decide_eq_true_eq] at this
    exact this.1.2
  have cc := Compile_g F cols e (fun f hf => by have := hF3 f hf; omega) (by omega) (by omega) (by omega) hn hFn
  have cr := rCompile_g F cols e (fun f hf => by have := hF3 f hf; omega) (by omega) (by omega)
  have ck := Constant_g v
  have cq := rconstant_g v
  have cm := rsame_g (qbg v) (qbg v) (by rw [constV_parts]; omega)
  rw [sameB_self] at cm
  have ct := type_g F cols [] e (by omega) (fun f hf => by have := hF3 f hf; omega)
  simp only [List.map_nil] at ct
  have hC : (qbm F cols e).1.ins.length ≤ 1000 ∧ (qbm F cols e).1.types.length ≤ 1000 := by
    unfold qbm
    cases ht : typeP F cols [] e with
    | none => exact ⟨by simp [zeroCd], by simp [zeroCd]⟩
    | some t =>
      cases hy : qby F e with
      | none => exact ⟨by simp [zeroCd], by simp [zeroCd]⟩
      | some y =>
        obtain ⟨g1, g2, g3, g4, g5⟩ := compile_typ ht hy
        have k1 := (comp_ok (raw_ok g3 g4).1 0 []).1
        exact ⟨k1.ni, k1.nt⟩
  have cs := same25_g (qbm F cols e).1 (by omega) (by omega)
  generalize qbm F cols e = C at *
  generalize qbg v = K at *
  cases ht : typeP F cols [] e with
  | none =>
    rw [ht] at ct
    simp only [Option.getD_none, Option.isSome_none] at ct
    refine qn Tryz.func5 Tryz.ntmps5 rfl rfl (by decide) rfl (by intro n; simp) fun σ n0 hcl hft => ?_
    repeat' (first | ((first | ((with_reducible refine qo (fun hg => ?_) (fun hg => ?_)) <;> (try simp only [hg]) <;> (try simp only [gS] at hg) <;> (try (first | simp only [eq_false hg, gI] | simp only [eq_true hg, gI]))) | (with_reducible first | refine qf ?_ | refine qe ?_ | refine qk ?_ | refine qj ?_) | refine acall (csm) ?_ | refine qp (csm) ?_ | refine acall (cl) ?_ | refine qp (cl) ?_ | refine acall (cc) ?_ | refine qp (cc) ?_ | refine acall (cr) ?_ | refine qp (cr) ?_ | refine acall (ck) ?_ | refine qp (ck) ?_ | refine acall (cq) ?_ | refine qp (cq) ?_ | refine acall (cm) ?_ | refine qp (cm) ?_ | refine acall (ct) ?_ | refine qp (ct) ?_ | refine acall (cs) ?_ | refine qp (cs) ?_ | refine qc ?_ | refine qh ?_ | refine qi ?_ | refine qm ?_) <;> (try simp (disch := first | omega | simp) [qg, -qq, -qr, hv])) | ((with_reducible refine sideT ?_ ?_); first | omega | assumption | (simp; done)) | (refine qd fun K hK => ?_) | (refine qa ?_) | refine ql ?_ | ((first | refine hK _ ?_ | (clear hK K; refine hK _ ?_) | (clear hK K; clear hK K; refine hK _ ?_)); clear hK K) | refine qb ?_)
  | some t =>
    rw [ht] at ct
    simp only [Option.getD_some, Option.isSome_some] at ct
    obtain ⟨h1, h2, h3, h4⟩ := typeP_all ht
    have cf := Fold_g e h3 (by omega)
    have cg := rfold_g e h3 (by omega)
    have ch := rsame_g (foldE e) (foldE e) (by have := fold_parts e; omega)
    rw [sameB_self] at ch
    generalize foldE e = f at *
    refine qn Tryz.func5 Tryz.ntmps5 rfl rfl (by decide) rfl (by intro n; simp) fun σ n0 hcl hft => ?_
    repeat' (first | ((first | ((with_reducible refine qo (fun hg => ?_) (fun hg => ?_)) <;> (try simp only [hg]) <;> (try simp only [gS] at hg) <;> (try (first | simp only [eq_false hg, gI] | simp only [eq_true hg, gI]))) | (with_reducible first | refine qf ?_ | refine qe ?_ | refine qk ?_ | refine qj ?_) | refine acall (csm) ?_ | refine qp (csm) ?_ | refine acall (cl) ?_ | refine qp (cl) ?_ | refine acall (cc) ?_ | refine qp (cc) ?_ | refine acall (cr) ?_ | refine qp (cr) ?_ | refine acall (ck) ?_ | refine qp (ck) ?_ | refine acall (cq) ?_ | refine qp (cq) ?_ | refine acall (cm) ?_ | refine qp (cm) ?_ | refine acall (ct) ?_ | refine qp (ct) ?_ | refine acall (cs) ?_ | refine qp (cs) ?_ | refine acall (cf) ?_ | refine qp (cf) ?_ | refine acall (cg) ?_ | refine qp (cg) ?_ | refine acall (ch) ?_ | refine qp (ch) ?_ | refine qc ?_ | refine qh ?_ | refine qi ?_ | refine qm ?_) <;> (try simp (disch := first | omega | simp) [qg, -qq, -qr, hv])) | ((with_reducible refine sideT ?_ ?_); first | omega | assumption | (simp; done)) | (refine qd fun K hK => ?_) | (refine qa ?_) | refine ql ?_ | ((first | refine hK _ ?_ | (clear hK K; refine hK _ ?_) | (clear hK K; clear hK K; refine hK _ ?_)); clear hK K) | refine qb ?_)
end Go.Proofs.YtnkimlkoijfcpaaGreatDoor

/- The law CompileTells where what it reads is of bulk at most 1048576, lifted: the row and the tied card. (Printed by gen_lift26.py.) -/
namespace Go.Proofs.YtnkimlkoijfcpaaGreatDoor
open Go.ChangeShapes Go.WideShapes Go.ChangeAt Go.RowKit Go.Lib
noncomputable def compileTellsW (os : Os) : World := World.laidAll Tryz.prog os Rows.compileTellsUptoRow.laid
def qde : Array Value := #[.slice .none 0 0, .slice .none 0 0, .agg #[.int .i64 0, .int .i64 0, .string ByteArray.empty, .slice .none 0 0], .agg #[.int .i64 0, .int .i64 0, .string ByteArray.empty]]
theorem compileTells_reads (os : Os) {H : Type} (enc : TypeId × Value → H) : ∃ places, DataW.whole enc Tryz.prog ((compileTellsW os).forCall (fun _ _ => 0) ⟨#[], qde, []⟩).memory Tryz.f5.params.toList Rows.compileTellsSpec.vars false qde.toList 8 = some ([.nil, .nil, .agg [.lit (.int .i64 0), .lit (.int .i64 0), .lit (.string []), .nil], .agg [.lit (.int .i64 0), .lit (.int .i64 0), .lit (.string [])]], [], places) :=
  ⟨[], by kernel_rfl⟩
theorem compileTells_laid (os : Os) : laidMet Tryz.prog Rows.compileTellsUptoRow.laid ((compileTellsW os).forCall (fun _ _ => 0) ⟨#[], qde, []⟩).memory :=
  laidMet_of_run' 8 (by kernel_rfl) (by kernel_rfl)
set_option maxRecDepth 100000 in
theorem compileTells_lifted (os : Os) (started : os.Started) (H : Type) (enc : TypeId × Value → H) (F : Stop.Interp) :
    ReturnsInHanded {} Tryz.checked os 5 .any ((Rows.OpenSpec.upto Rows.compileTellsSpec).preRow enc Tryz.prog Tryz.f5 Rows.compileTellsUptoRow.domain false Rows.compileTellsUptoRow.laid) (((Rows.OpenSpec.upto Rows.compileTellsSpec).at F).post enc Tryz.prog Tryz.f5 false true false false) := by
  obtain ⟨places, hx⟩ := compileTells_reads os enc
  refine returnsInHanded_of_row (C := Tryz.checked) (s := Rows.OpenSpec.upto Rows.compileTellsSpec) Tryz.own started (by kernel_rfl) Tryz.func5
    (witness_row_at (enc := enc) (C := Tryz.checked) false (compileTellsW os) qde (World.laidAll_os _ _ _) (by kernel_rfl) (by kernel_rfl) (by kernel_rfl)
      (OpenSpec.preRow_of_cond 8 hx (by kernel_rfl) (fun k hk => by cases hk; kernel_rfl) (by kernel_rfl) (compileTells_laid os))) ?_
  intro W base args ds gs before hval0 hW _ hcond _ hlaid _ _
  rw [MakeChecks.laidMetH_plain _ _ _ (by kernel_rfl)] at hlaid
  have hglob := glob27 hlaid (by simp [Rows.compileTellsUptoRow])
  have hval : ∀ (j : Nat) t v, Tryz.f5.params[j]? = some t → args[j]? = some v → Value.okWide Tryz.prog W .any base t v := hval0
  have hW' := hW
  obtain ⟨p, q, hA0, hV, rfl, hfz, hnd⟩ := hW
  have hA : DataW.TrodAll enc Tryz.prog W 0 (fun _ => true) true Tryz.f5.params.toList args.toList ds p := hA0
  rw [Tryz.params5] at hA hval
  obtain ⟨v0, v1, v2, v3, d0, d1, d2, d3, p0, p1, p2, p3, rfl, rfl, rfl, h0, h1, h2, h3⟩ := trodAll_4_02 hA
  obtain ⟨rfl, rfl⟩ := trodVars_none hV
  have hb0 : Rows.uptoSmall H ([d0, d1, d2, d3] ++ []) = true := hcond _ rfl
  have hb : Rows.uptoBulkAll ([d0, d1, d2, d3] ++ []) ≤ 1048576 := of_decide_eq_true hb0
  simp only [List.append_nil, Rows.uptoBulkAll] at hb
  obtain ⟨x0, r0⟩ := par_sl Tryz.underlying42 (hval 0 _ v0 rfl rfl) h0 trods_fns
  obtain ⟨x1, r1⟩ := par_sl Tryz.underlying22 (hval 1 _ v1 rfl rfl) h1 trods_ints27
  obtain ⟨x2, cs2, rfl, r2⟩ := par_st Tryz.underlying25 (hval 2 _ v2 rfl rfl) h2 trods_ex
  obtain ⟨x3, cs3, rfl, r3⟩ := par_st Tryz.underlying39 (hval 3 _ v3 rfl rfl) h3 trods_val
  have s0 : (∀ f ∈ x0, n64 f.body) ∧ (x0.map fun f => 5 * parts f.body).sum + 1 ≤ Rows.uptoBulk d0 ∧ x0.length + 1 ≤ Rows.uptoBulk d0 := by
    obtain ⟨A, n, c, rfl⟩ := okWide_slice Tryz.underlying42 (hval 0 _ v0 rfl rfl)
    obtain ⟨k, t⟩ := h0
    exact sl_bulk (Q := fun f => n64 f.body) (g := fun f => 5 * parts f.body) Tryz.underlying42 (by kernel_rfl) (by omega) Fn.width r0 t fun f _ n c y hr hy => fn_bulk f n c y hr hy
  have s2 : n64 x2 ∧ 5 * parts x2 ≤ Rows.uptoBulk d2 := by
    obtain ⟨k, t⟩ := h2
    exact ex_bulk x2 k cs2 _ r2 t
  refine (calls_of_gives (vals := [v0, v1, .agg cs2.toArray, .agg cs3.toArray]) (tells26_g x0 x1 x2 x3 (by omega) (fun f hf => by have := mem_sum26 (g := fun f : Fn => 5 * parts f.body) hf; omega) (by omega) s2.1 s0.1) ⟨_, _, rfl, fns_flat26 r0, _, _, rfl, ints_flat27 r1, _, _, rfl, ex_flat26 r2, _, _, rfl, Val.flat r3, rfl⟩ hglob).mono ?_
  rintro r W' ⟨rfl, hb⟩
  exact ⟨_, rfl, law_post (P := Tryz.prog) Tryz.laidOut hW' rfl rfl (by kernel_rfl) Tryz.underlying4 (by kernel_rfl) hb⟩
theorem compileTellsUpto_row : Rows.CompileTellsUptoSaid :=
  OpenClaim.holds_of_cond 5 Tryz.f5 rfl rfl rfl rfl rfl rfl rfl ⟨rfl, rfl, rfl, rfl, rfl⟩ rfl rfl rfl rfl rfl (by kernel_rfl) Tryz.func5 (by kernel_rfl)
    (of_decide_eq_true (by kernel_rfl)) (by unfold Func.isWrapper; first | (rw [if_pos (by decide +kernel)]; kernel_rfl) | (rw [if_neg (by decide +kernel)]; exact ⟨rfl, rfl⟩))
    (fun os started H enc _ F => by rw [OpenClaim.pre_eq_preRow]; exact compileTells_lifted os started H enc F)
theorem compileTellsUpto_holds : Rows.CompileTellsUptoCardSaid :=
  Claim7.holds_tied_plain_at .later [] _ _ _ _ compileTellsUpto_row (fun _ h => by cases h) (by kernel_rfl) (fun _ h => by cases h) compileTellsUpto_row_tie rfl ⟨rfl, rfl⟩ (by kernel_rfl) rfl
    (fun f fn hf hfn => by
      obtain rfl : f = 5 := Option.some.inj ((show Tryz.prog.funcNamed "errata/erratalaw26.CompileTells" = some 5 by kernel_rfl).symm.trans hf) |>.symm
      obtain rfl : fn = Tryz.f5 := (Option.some.inj (Tryz.func5.symm.trans hfn)).symm
      exact ⟨by kernel_rfl, fun j t ht => by
        rw [Tryz.params5] at ht
        have hm : t ∈ [42, 22, 25, 39] := by simpa using Array.mem_of_getElem? ht
        have hall : ([42, 22, 25, 39].all fun u => !Tryz.prog.wantsStandIn u) = true := by kernel_rfl
        exact (show Tryz.prog.wantsStandIn t = false by simpa using List.all_eq_true.1 hall t hm)⟩)
    (by kernel_rfl)
end Go.Proofs.YtnkimlkoijfcpaaGreatDoor
