/- Walk of layer 26: add. -/
import Derived.Test.YtnkimlkoijfcpaaGreatDoorGe5
import Derived.Test.YtnkimlkoijfcpaaGreatDoorGe7
import Derived.Test.YtnkimlkoijfcpaaGreatDoorGe10
import Derived.Test.YtnkimlkoijfcpaaGreatDoorGe20
import Derived.Test.YtnkimlkoijfcpaaGreatDoorGe21
import Derived.Test.YtnkimlkoijfcpaaGreatDoorGe22
set_option linter.unusedSimpArgs false
set_option linter.unusedVariables false
namespace Go.Proofs.YtnkimlkoijfcpaaGreatDoor
open Go.RowKit Go.Lib
theorem findE_le (L : List Ex) (e : Ex) : -1 ≤ findE L e ∧ findE L e ≤ L.length := by
  refine ⟨findE_ge L e, ?_⟩
  by_cases h : 0 ≤ findE L e
  · have := qde (L := L) (e := e) (k := (findE L e).toNat) (by omega)
    have := (List.getElem?_eq_some_iff.1 this).1
    omega
  · omega
set_option maxRecDepth 100000 in
set_option maxHeartbeats 16000000 in
theorem add_ac (cols : List Int) (hcols : cols.length ≤ 1000000) (q a b c : Nat) (e : Ex) : ∀ (L : List Ex) (σ : Nat → AB), PartsG cols L → TypE cols e → n64 e → L.length + parts e ≤ 1000000 → Mk cols q a b c L σ →
    AC Tryz.prog 53 [.ptr q 0, e.av] σ fun y τ => y = .int (findE (qbj e L) e) ∧ τ = stM cols q a b c (qbj e L) σ := by
  induction e using Ex.ind with | h o n s l ih => ?_
  intro L σ hg hT hn hsz hM
  obtain ⟨hn1, hn2⟩ := qcn.1 hn
  have hl3 : l.length ≤ 3 := typ_args hT
  have hpe : parts (.mk o n s l) = qu l + 1 := by rw [parts]
  have hTl : ∀ x ∈ l, TypE cols x ∧ n64 x := fun x hx => ⟨hT.arg x hx, hn2 x hx⟩
  obtain ⟨hgM, hMl, -⟩ := qcz hg hTl
  obtain ⟨M, hMd⟩ : ∃ M, M = qv l L := ⟨_, rfl⟩
  have hlM : M.length ≤ L.length + qu l := by rw [hMd]; exact qeq l L
  rw [← hMd] at hgM hMl
  obtain ⟨R, hR⟩ : ∃ R, R = qbj (.mk o n s l) L := ⟨_, rfl⟩
  have hR2 := hR
  rw [qbj, ← hMd] at hR2
  rw [← hR]
  refine acT_of_awp Tryz.func53 Tryz.ntmps53 rfl rfl (by decide) rfl (by intro n; simp) fun n0 hfin hcl hft => ?_
  obtain ⟨hq, ha, hb, hc⟩ := hM.lt hfin
  refine ⟨stM_fin hfin hq ha hb hc, stM_cl hcl ha hb hc, ?_⟩
  obtain ⟨G, hG⟩ : ∃ G : Nat → Nat → Int, G = fun k j => if j < k then regK M (.mk o n s l) j else 0 := ⟨_, rfl⟩
  have hG0 : ∀ j, G 0 j = 0 := fun j => by rw [hG]; simp
  have hGl : ∀ j, G l.length j = regK M (.mk o n s l) j := fun j => by
    rw [hG]; dsimp only
    split
    · rfl
    · unfold regK
      rw [show (Ex.mk o n s l).args = l from rfl, List.getElem?_eq_none (by omega)]
  have hGs : ∀ k j, j ≠ k → G (k + 1) j = G k j := fun k j h => by
    rw [hG]; dsimp only
    by_cases h2 : j < k
    · rw [if_pos h2, if_pos (by omega)]
    · rw [if_neg h2, if_neg (by omega)]
  have hGk : ∀ k (h : k < l.length), G (k + 1) k = findE (qv (l.take (k + 1)) L) l[k] + 1 := fun k h => by
    rw [hG]; dsimp only
    rw [if_pos (by omega)]
    unfold regK
    rw [show (Ex.mk o n s l).args = l from rfl, List.getElem?_eq_getElem h]
    dsimp only
    have h1 : M = qv (l.drop (k + 1)) (qv (l.take (k + 1)) L) := by
      rw [hMd, ← partsPs_app, List.take_append_drop]
    obtain ⟨g1, g2, -⟩ := qcz (l := l.take (k + 1)) hg fun x hx => hTl x (List.mem_of_mem_take hx)
    obtain ⟨g3, -, r, g4⟩ := qcz (l := l.drop (k + 1)) g1 fun x hx => hTl x (List.mem_of_mem_drop hx)
    rw [h1, g4]
    rw [g4] at g3
    rw [find_pre g3.di (g2 _ (List.mem_take_iff_getElem.2 ⟨k, by omega, rfl⟩))]
  clear hG
  repeat' (first | ((first | ((with_reducible refine qq (fun hg => ?_) (fun hg => ?_)) <;> (try simp only [hg]) <;> (try simp only [gS] at hg) <;> (try (first | simp only [eq_false hg, gI] | simp only [eq_true hg, gI]))) | (with_reducible first | refine qh ?_ | refine qg ?_ | refine ql ?_ | refine qk ?_) | refine qe ?_ | refine qi ?_ | refine qj ?_ | refine qn ?_) <;> (try simp (disch := first | omega | simp) [qc, -qr, -qz])) | ((with_reducible refine sideT ?_ ?_); first | omega | assumption | (simp; done)) | (refine qf fun K hK => ?_) | (refine qa ?_) | (refine qb true (by kernel_rfl) (by kernel_rfl) ?_) | (refine qb false (by kernel_rfl) (by kernel_rfl) ?_) | (refine hK _ ?_; clear hK K) | (clear hK K; refine hK _ ?_; clear hK K) | (clear hK K; clear hK K; refine hK _ ?_; clear hK K) | refine qd ?_)
  refine awp_loopS (fun k => stM cols q a b c (qv (l.take k) L) σ) (fun k : Nat => [(0, .ptr q 0), (3, .ptr n0 0), (5, .ptr (n0 + 1) 0), (22, .sl (l.map Ex.av)), (23, .int l.length), (24, .int k)])
    (fun k => [.cells [.int o, .int n, .str s, .sl (l.map Ex.av)] 25, .cells [.int o, .int n, .str s, .int (G k 0), .int (G k 1), .int (G k 2)] 145])
    (fun k => k ≤ l.length) (fun k => l.length - k) 0 (fun k _ => stM_cl hcl ha hb hc) (by omega) (by
      rw [List.take_zero, qv, hM.self]
      simp [leS, hG0]; omega) hcl fun k hk => ?_
  by_cases hlt : k < l.length
  · have hx := hTl l[k] (List.getElem_mem hlt)
    obtain ⟨gk, -, -⟩ := qcz (l := l.take k) hg fun x hx => hTl x (List.mem_of_mem_take hx)
    have hpk : (qv (l.take k) L).length + parts l[k] ≤ 1000000 := by
      have h1 := qeq (l.take k) L
      have h2 := qdm l k hlt
      have h3 := qck l (k + 1)
      omega
    have hMk := stM_mk hM (qv (l.take k) L)
    have hfk : Fin (stM cols q a b c (qv (l.take k) L) σ) n0 := stM_fin hfin hq ha hb hc
    have hst : qbj l[k] (qv (l.take k) L) = qv (l.take (k + 1)) L := by
      rw [List.take_succ_eq_append_getElem hlt, partsPs_snoc]
    have c1 := fun Lo => ih l[k] (List.getElem_mem hlt) (qv (l.take k) L) _ gk hx.1 hx.2 hpk (hMk.loc hfk Lo)
    rw [hst] at c1
    have c2 : ∀ Lo, AC Tryz.prog 53 [.ptr q 0, l[k].av] (loc (stM cols q a b c (qv (l.take k) L) σ) n0 Lo) fun y τ => y = .int (findE (qv (l.take (k + 1)) L) l[k]) ∧ τ = loc (stM cols q a b c (qv (l.take (k + 1)) L) σ) n0 Lo := fun Lo => by
      have := c1 Lo
      rw [stM_loc hq ha hb hc, stM_stM] at this
      exact this
    have hGk2 := hGk k hlt
    have hfe := findE_le (qv (l.take (k + 1)) L) l[k]
    have hle : ((qv (l.take (k + 1)) L).length : Int) ≤ 1000000 := by
      have h1 := qeq (l.take (k + 1)) L
      have h3 := qck l (k + 1)
      omega
    obtain ⟨F, hF⟩ : ∃ F, F = findE (qv (l.take (k + 1)) L) l[k] := ⟨_, rfl⟩
    rw [← hF] at hfe hGk2 c2
    have hF2 : F + 1 ≤ 9223372036854775807 := by omega
    have hF3 : -9223372036854775808 ≤ F + 1 := by omega
    have hG1 := hGs k
    obtain rfl | rfl | rfl : k = 0 ∨ k = 1 ∨ k = 2 := by omega
    · have hi : (0 : Int) < l.length := by omega
      have e0 : G 1 0 = F + 1 := hGk2
      have e1 : G 1 1 = G 0 1 := hG1 1 (by omega)
      have e2 : G 1 2 = G 0 2 := hG1 2 (by omega)
      repeat' (first | ((first | with_reducible refine qen (id := 5) ?_ | ((with_reducible refine qq (fun hg => ?_) (fun hg => ?_)) <;> (try simp only [hg]) <;> (try simp only [gS] at hg) <;> (try (first | simp only [eq_false hg, gI] | simp only [eq_true hg, gI]))) | (with_reducible first | refine qh ?_ | refine qg ?_ | refine ql ?_ | refine qk ?_) | refine acallT _ (c2 _) ?_ | refine qe ?_ | refine qi ?_ | refine qj ?_ | refine qn ?_) <;> (try simp (disch := first | omega | simp) [qc, -qr, -qz, hlt, hi, hF2, hF3])) | ((with_reducible refine sideT ?_ ?_); first | omega | assumption | (simp; done)) | (refine qf fun K hK => ?_) | (refine qa ?_) | (refine qb true (by kernel_rfl) (by kernel_rfl) ?_) | (refine qb false (by kernel_rfl) (by kernel_rfl) ?_) | (refine hK _ ?_; clear hK K) | (clear hK K; refine hK _ ?_; clear hK K) | (clear hK K; clear hK K; refine hK _ ?_; clear hK K) | refine qd ?_)
      exact ⟨stM_cl hcl ha hb hc, 1, by omega, by omega, fun r _ => rfl, by simp [e0, e1, e2]; omega⟩
    · have hi : (1 : Int) < l.length := by omega
      have e0 : G 2 0 = G 1 0 := hG1 0 (by omega)
      have e1 : G 2 1 = F + 1 := hGk2
      have e2 : G 2 2 = G 1 2 := hG1 2 (by omega)
      repeat' (first | ((first | with_reducible refine qen (id := 5) ?_ | ((with_reducible refine qq (fun hg => ?_) (fun hg => ?_)) <;> (try simp only [hg]) <;> (try simp only [gS] at hg) <;> (try (first | simp only [eq_false hg, gI] | simp only [eq_true hg, gI]))) | (with_reducible first | refine qh ?_ | refine qg ?_ | refine ql ?_ | refine qk ?_) | refine acallT _ (c2 _) ?_ | refine qe ?_ | refine qi ?_ | refine qj ?_ | refine qn ?_) <;> (try simp (disch := first | omega | simp) [qc, -qr, -qz, hlt, hi, hF2, hF3])) | ((with_reducible refine sideT ?_ ?_); first | omega | assumption | (simp; done)) | (refine qf fun K hK => ?_) | (refine qa ?_) | (refine qb true (by kernel_rfl) (by kernel_rfl) ?_) | (refine qb false (by kernel_rfl) (by kernel_rfl) ?_) | (refine hK _ ?_; clear hK K) | (clear hK K; refine hK _ ?_; clear hK K) | (clear hK K; clear hK K; refine hK _ ?_; clear hK K) | refine qd ?_)
      exact ⟨stM_cl hcl ha hb hc, 2, by omega, by omega, fun r _ => rfl, by simp [e0, e1, e2]; omega⟩
    · have hi : (2 : Int) < l.length := by omega
      have e0 : G 3 0 = G 2 0 := hG1 0 (by omega)
      have e1 : G 3 1 = G 2 1 := hG1 1 (by omega)
      have e2 : G 3 2 = F + 1 := hGk2
      repeat' (first | ((first | with_reducible refine qen (id := 5) ?_ | ((with_reducible refine qq (fun hg => ?_) (fun hg => ?_)) <;> (try simp only [hg]) <;> (try simp only [gS] at hg) <;> (try (first | simp only [eq_false hg, gI] | simp only [eq_true hg, gI]))) | (with_reducible first | refine qh ?_ | refine qg ?_ | refine ql ?_ | refine qk ?_) | refine acallT _ (c2 _) ?_ | refine qe ?_ | refine qi ?_ | refine qj ?_ | refine qn ?_) <;> (try simp (disch := first | omega | simp) [qc, -qr, -qz, hlt, hi, hF2, hF3])) | ((with_reducible refine sideT ?_ ?_); first | omega | assumption | (simp; done)) | (refine qf fun K hK => ?_) | (refine qa ?_) | (refine qb true (by kernel_rfl) (by kernel_rfl) ?_) | (refine qb false (by kernel_rfl) (by kernel_rfl) ?_) | (refine hK _ ?_; clear hK K) | (clear hK K; refine hK _ ?_; clear hK K) | (clear hK K; clear hK K; refine hK _ ?_; clear hK K) | refine qd ?_)
      exact ⟨stM_cl hcl ha hb hc, 3, by omega, by omega, fun r _ => rfl, by simp [e0, e1, e2]; omega⟩
  · obtain rfl : k = l.length := by omega
    rw [List.take_length, ← hMd, hGl, hGl, hGl]
    have hMτ := stM_mk hM M
    have hRτ : stM cols q a b c R σ = stM cols q a b c R (stM cols q a b c M σ) := (stM_stM M R).symm
    have hself := hMτ.self
    rw [hRτ]
    have hclτ := stM_cl (cols := cols) (q := q) (M := M) hcl ha hb hc
    generalize stM cols q a b c M σ = τ at hMτ hclτ hself hRτ ⊢
    have hMlen : M.length ≤ 1000000 := by omega
    have hMl1 : (M.length : Int) ≤ 1000000 := by omega
    have tq : τ q = .cells [.sl (cols.map AV.int), .gs a ((rawI M M 0).map Ins.av), .gs b ((M.map (typE cols)).map AV.int), .int 0, .own c 0] 100 := hMτ.hq
    have ta := hMτ.ha
    have tb := hMτ.hb
    have tc := hMτ.hc
    by_cases he : Ex.mk o n s l ∈ M
    · have hf := qcb.2 he
      rw [if_neg (by omega)] at hR2
      have look := part_hit hgM hMlen he
      rw [hR2, hself]
      repeat' (first | ((first | ((with_reducible refine qq (fun hg => ?_) (fun hg => ?_)) <;> (try simp only [hg]) <;> (try simp only [gS] at hg) <;> (try (first | simp only [eq_false hg, gI] | simp only [eq_true hg, gI]))) | (with_reducible first | refine qh ?_ | refine qg ?_ | refine ql ?_ | refine qk ?_) | refine alook (look) ?_ | refine aupd (look) ?_ | refine qe ?_ | refine qi ?_ | refine qj ?_ | refine qn ?_) <;> (try simp (disch := first | omega | simp) [qc, -qr, -qz, hlt, hq, ha, hb, hc, tq, ta, tb, tc, loc_lt])) | ((with_reducible refine sideT ?_ ?_); first | omega | assumption | (simp; done)) | (refine qf fun K hK => ?_) | (refine qa ?_) | (refine qb true (by kernel_rfl) (by kernel_rfl) ?_) | (refine qb false (by kernel_rfl) (by kernel_rfl) ?_) | (refine hK _ ?_; clear hK K) | (clear hK K; refine hK _ ?_; clear hK K) | (clear hK K; clear hK K; refine hK _ ?_; clear hK K) | refine qd ?_)
      all_goals exact ⟨by rw [hRτ, hR2, hself], by rw [hR2]⟩
    · have hf : findE M (Ex.mk o n s l) < 0 := by
        have := mt qcb.1 he; omega
      rw [if_pos hf] at hR2
      have look := part_miss hgM hMlen hT hn hMl he
      have upd1 := part_upd hgM hMlen hT hn hMl he
      have ct := type_g [] cols [] (.mk o n s l) (by omega) (by simp)
      simp only [Ex.av_mk, List.map_nil] at ct
      have hk0 := regK_i64 (L := M) hMlen (.mk o n s l)
      have hkr : ∀ k, 0 ≤ regK M (.mk o n s l) k ∧ regK M (.mk o n s l) k ≤ 1000001 := fun k => by
        unfold regK
        split
        · rename_i x hx
          have h1 := findE_le M x
          omega
        · omega
      have k0 := hkr 0
      have k1 := hkr 1
      have k2 := hkr 2
      have ak : ∀ k, (if regK M (.mk o n s l) k - 1 < 0 then 0 else regK M (.mk o n s l) k - 1) = argI M (.mk o n s l) k := fun k => by
        have h1 := hkr k
        unfold regK argI at *
        cases hk2 : (Ex.mk o n s l).args[k]? with
        | none => simp
        | some x =>
          have hx := qcb.2 (hMl x (List.mem_of_getElem? hk2))
          simp only
          rw [if_neg (by omega)]; omega
      have ak0 := ak 0
      have ak1 := ak 1
      have ak2 := ak 2
      obtain ⟨n1, n2, n3, n4, n5, n6⟩ := hMτ.ne
      have n1' := n1.symm
      have n2' := n2.symm
      have n3' := n3.symm
      have n4' := n4.symm
      have n5' := n5.symm
      have n6' := n6.symm
      have rl := rawI_len M M 0
      have wr : AV.wid ((rawI M M 0).map Ins.av) 7 := Ins.avs_wid _
      have wt : AV.wid (M.map (AV.int ∘ typE cols)) 1 := AV.wid_map (f := AV.int ∘ typE cols) (fun _ => rfl) _
      have bs1 : (M.length + 1) * 72 ≤ 140737488355328 := by omega
      have bs2 : (M.length + 1) * 8 ≤ 140737488355328 := by omega
      repeat' (first | ((first | ((with_reducible refine qq (fun hg => ?_) (fun hg => ?_)) <;> (try simp only [hg]) <;> (try simp only [gS] at hg) <;> (try (first | simp only [eq_false hg, gI] | simp only [eq_true hg, gI]))) | (with_reducible first | refine qh ?_ | refine qg ?_ | refine ql ?_ | refine qk ?_) | refine qe ?_ | refine qi ?_ | refine qj ?_ | refine qn ?_) <;> (try simp (disch := first | omega | simp) [qc, -qr, -qz, hlt, hq, ha, hb, hc, tq, ta, tb, tc, loc_lt, -aseqX, ak0, ak1, ak2])) | ((with_reducible refine sideT ?_ ?_); first | omega | assumption | (simp; done)) | (refine qf fun K hK => ?_) | (refine qa ?_) | (refine hK _ ?_; clear hK K) | (clear hK K; refine hK _ ?_; clear hK K) | (clear hK K; clear hK K; refine hK _ ?_; clear hK K) | refine qd ?_)
      refine qb true (by kernel_rfl) (by kernel_rfl) ?_
      repeat' (first | ((first | with_reducible refine qen (id := 11) ?_ | ((with_reducible refine qq (fun hg => ?_) (fun hg => ?_)) <;> (try simp only [hg]) <;> (try simp only [gS] at hg) <;> (try (first | simp only [eq_false hg, gI] | simp only [eq_true hg, gI]))) | (with_reducible first | refine qh ?_ | refine qg ?_ | refine ql ?_ | refine qk ?_) | refine alook (look) ?_ | refine aupd (look) ?_ | refine aseqX_step ?_ | refine aseqX_end ?_ | refine qe ?_ | refine qi ?_ | refine qj ?_ | refine qn ?_) <;> (try simp (disch := first | omega | simp) [qc, -qr, -qz, hlt, hq, ha, hb, hc, tq, ta, tb, tc, loc_lt, -aseqX, ak0, ak1, ak2])) | ((with_reducible refine sideT ?_ ?_); first | omega | assumption | (simp; done)) | (refine qf fun K hK => ?_) | (refine qa ?_) | (refine hK _ ?_; clear hK K) | (clear hK K; refine hK _ ?_; clear hK K) | (clear hK K; clear hK K; refine hK _ ?_; clear hK K) | refine qd ?_)
      refine qb true (by kernel_rfl) (by kernel_rfl) ?_
      repeat' (first | ((first | ((with_reducible refine qq (fun hg => ?_) (fun hg => ?_)) <;> (try simp only [hg]) <;> (try simp only [gS] at hg) <;> (try (first | simp only [eq_false hg, gI] | simp only [eq_true hg, gI]))) | (with_reducible first | refine qh ?_ | refine qg ?_ | refine ql ?_ | refine qk ?_) | refine acall (ct) ?_ | refine qp (ct) ?_ | refine qm (ct) ?_ | refine qe ?_ | refine qi ?_ | refine qj ?_ | refine qn ?_) <;> (try simp (disch := first | omega | simp) [qc, -qr, -qz, hlt, hq, ha, hb, hc, tq, ta, tb, tc, loc_lt, -aseqX, ak0, ak1, ak2])) | ((with_reducible refine sideT ?_ ?_); first | omega | assumption | (simp; done)) | (refine qf fun K hK => ?_) | (refine qa ?_) | (refine hK _ ?_; clear hK K) | (clear hK K; refine hK _ ?_; clear hK K) | (clear hK K; clear hK K; refine hK _ ?_; clear hK K) | refine qd ?_)
      refine awp_anyQ [.unborn, .unborn, .cells [.int o, .int M.length, .int (argI M (.mk o n s l) 0), .int (argI M (.mk o n s l) 1), .int (argI M (.mk o n s l) 2), .int n, .str s] 78] q [.R, .R, .R, .R, .R, .R, .N, .R, .R, .A, .R, .R, .R, .R, .N, .R, .R, .A, .R, .R, .R, .W, .R, .R, .R, .W] (by kernel_rfl) (by kernel_rfl) (by simp) ?_
      repeat' (first | ((first | ((with_reducible refine qq (fun hg => ?_) (fun hg => ?_)) <;> (try simp only [hg]) <;> (try simp only [gS] at hg) <;> (try (first | simp only [eq_false hg, gI] | simp only [eq_true hg, gI]))) | (with_reducible first | refine qh ?_ | refine qg ?_ | refine ql ?_ | refine qk ?_) | refine qe ?_ | refine qi ?_ | refine qj ?_ | refine qn ?_) <;> (try simp (disch := first | omega | simp) [qc, -qr, -qz, hlt, hq, ha, hb, hc, tq, ta, tb, tc, loc_lt, -aseqX, ak0, ak1, ak2, n1, n2, n3, n4, n5, n6, n1', n2', n3', n4', n5', n6', rl, wr, wt, bs1, bs2])) | ((with_reducible refine sideT ?_ ?_); first | omega | assumption | (simp; done)) | (refine qf fun K hK => ?_) | (refine qa ?_) | (refine hK _ ?_; clear hK K) | (clear hK K; refine hK _ ?_; clear hK K) | (clear hK K; clear hK K; refine hK _ ?_; clear hK K) | refine qd ?_)
      refine awp_anyQ [.unborn, .cells [.int o, .int n, .str s, .int (regK M (.mk o n s l) 0), .int (regK M (.mk o n s l) 1), .int (regK M (.mk o n s l) 2)] 145] q [.R, .R, .R, .N, .R, .R, .W] (by kernel_rfl) (by kernel_rfl) (by simp) ?_
      repeat' (first | ((first | ((with_reducible refine qq (fun hg => ?_) (fun hg => ?_)) <;> (try simp only [hg]) <;> (try simp only [gS] at hg) <;> (try (first | simp only [eq_false hg, gI] | simp only [eq_true hg, gI]))) | (with_reducible first | refine qh ?_ | refine qg ?_ | refine ql ?_ | refine qk ?_) | refine alook (upd1) ?_ | refine aupd (upd1) ?_ | refine qe ?_ | refine qi ?_ | refine qj ?_ | refine qn ?_) <;> (try simp (disch := first | omega | simp) [qc, -qr, -qz, hlt, hq, ha, hb, hc, tq, ta, tb, tc, loc_lt, -aseqX, ak0, ak1, ak2, n1, n2, n3, n4, n5, n6, n1', n2', n3', n4', n5', n6', rl, wr, wt, bs1, bs2])) | ((with_reducible refine sideT ?_ ?_); first | omega | assumption | (simp; done)) | (refine qf fun K hK => ?_) | (refine qa ?_) | (refine hK _ ?_; clear hK K) | (clear hK K; refine hK _ ?_; clear hK K) | (clear hK K; clear hK K; refine hK _ ?_; clear hK K) | refine qd ?_)
      have hsn := raw_snoc hgM.cl (dist_snoc hgM.di he) hMl
      refine ⟨?_, ?_⟩
      · rw [hRτ, hR2]
        refine stM_new hMτ ?_ (by simp)
        unfold mkB
        rw [hsn.1]
        simp [insE, Ins.av, typE, -Ins.av_fold, Ex.op, Ex.n, Ex.s]
      · rw [hR2, findE_at (dist_snoc hgM.di he) (k := M.length) (by simp)]
end Go.Proofs.YtnkimlkoijfcpaaGreatDoor

/- Layer 26 on plain data: what Compile returns. -/
namespace Go.Proofs.YtnkimlkoijfcpaaGreatDoor
open Go.RowKit Go.Lib
mutual
def allP (P : Int → Int → Prop) : Ex → Prop
  | .mk o n _ l => P o n ∧ allPs P l
def allPs (P : Int → Int → Prop) : List Ex → Prop
  | [] => True
  | e :: l => allP P e ∧ allPs P l
end
theorem allPs_iff {P : Int → Int → Prop} : ∀ {l : List Ex}, allPs P l ↔ ∀ x ∈ l, allP P x
  | [] => by rw [allPs]; simp
  | e :: l => by rw [allPs, allPs_iff]; simp
theorem qem {P : Int → Int → Prop} {o n : Int} {s : ByteArray} {l : List Ex} : allP P (.mk o n s l) ↔ P o n ∧ ∀ x ∈ l, allP P x := by rw [allP, allPs_iff]
section
variable {P : Int → Int → Prop}
theorem put_allP {op : Int} {L : List Ex} (hL : ∀ x ∈ L, allP P x) (e : Ex) : ∀ {y : Ex}, allP P e → putP op L e = some y → allP P y := by
  induction e using Ex.ind with
  | h o n s l ih =>
    intro y h hy
    obtain ⟨hn, hl⟩ := qem.1 h
    rw [putP] at hy
    split at hy
    · split at hy
      · cases hy
      · exact hL _ (List.mem_of_getElem? hy)
    · cases hp : putPs op L l with
      | none => rw [hp] at hy; cases hy
      | some l' =>
        rw [hp] at hy; cases hy
        refine qem.2 ⟨hn, fun x hx => ?_⟩
        obtain ⟨z, hz, h2⟩ := putPs_mem l hp x hx
        exact ih z hz (hl z hz) h2
theorem inl_allP (h0 : P 0 0) {bs : List (Option Ex)} (hbs : ∀ b ∈ bs, ∀ y, b = some y → allP P y) (e : Ex) : ∀ {y : Ex}, allP P e → inlE bs e = some y → allP P y := by
  induction e using Ex.ind with
  | h o n s l ih =>
    intro y h hy
    obtain ⟨hn, hl⟩ := qem.1 h
    rw [inlE] at hy
    cases hp : inlL bs l with
    | none => rw [hp] at hy; cases hy
    | some ys =>
      rw [hp] at hy
      have hys : ∀ x ∈ ys, allP P x := fun x hx => by
        obtain ⟨z, hz, h2⟩ := inlL_mem26 l hp x hx
        exact ih z hz (hl z hz) h2
      dsimp only at hy
      split at hy
      · cases hb : bs.getD n.toNat none with
        | none => rw [hb] at hy; cases hy
        | some b =>
          rw [hb] at hy
          have hbm : some b ∈ bs := by
            rw [List.getD_eq_getElem?_getD] at hb
            cases hg : bs[n.toNat]? with
            | none => rw [hg] at hb; cases hb
            | some z => rw [hg] at hb; cases hb; exact List.mem_of_getElem? hg
          rw [← fitX_some hy]
          cases hq : putP 4 ys b with
          | none => exact qem.2 ⟨h0, by simp⟩
          | some z => exact put_allP hys b (hbs _ hbm b rfl) hq
      · rw [← fitX_some hy]
        exact qem.2 ⟨hn, hys⟩
theorem inlB_allP (h0 : P 0 0) : ∀ (F : List Fn) (bs : List (Option Ex)), (∀ b ∈ bs, ∀ y, b = some y → allP P y) → (∀ f ∈ F, allP P f.body) → ∀ b ∈ inlB bs F, ∀ y, b = some y → allP P y
  | [], bs, h, _ => by rw [inlB]; exact h
  | f :: F, bs, h, hF => by
    rw [inlB]
    refine inlB_allP h0 F _ (fun b hb y hy => ?_) fun g hg => hF g (by simp [hg])
    rcases List.mem_append.1 hb with hb | hb
    · exact h b hb y hy
    · rw [List.mem_singleton] at hb
      rw [hb] at hy
      exact inl_allP h0 h f.body (hF f (by simp)) hy
theorem inlineP_some {F : List Fn} {e y : Ex} (h : qcr F e = some y) : inlE (inlB [] F) e = some y ∧ levels y ≤ 12 := by
  unfold qcr at h
  split at h
  · rename_i x hx
    split at h
    · cases h
    · cases h; exact ⟨hx, by omega⟩
  · cases h
end
theorem ty_cols {F : List Fn} {c p : List Int} (e : Ex) : ∀ {t : Int}, ty F c p e = some t → allP (fun o n => o = 3 → ∃ u, pickT c n = some u) e := by
  induction e using Ex.ind with
  | h o n s l ih =>
    intro t h
    obtain ⟨ts, h1, h2⟩ := ty_mk h
    refine qem.2 ⟨fun ho => ?_, fun x hx => ?_⟩
    · have := qdo (.inl ho) h2
      rw [if_pos ho] at this
      exact ⟨_, this⟩
    · obtain ⟨u, hu⟩ := qer l h1 x hx
      exact ih x hx hu
theorem ty_swap {F : List Fn} {c c' p : List Int} (h : ∀ n u, pickT c n = some u → pickT c' n = some u) (e : Ex) : allP (fun o n => o = 3 → ∃ u, pickT c n = some u) e → ty F c' p e = ty F c p e := by
  induction e using Ex.ind with
  | h o n s l ih =>
    intro ha
    obtain ⟨h1, h2⟩ := qem.1 ha
    have hts : ∀ l : List Ex, (∀ x ∈ l, ty F c' p x = ty F c p x) → tys F c' p l = tys F c p l := fun l => by
      induction l with
      | nil => intro _; rw [tys, tys]
      | cons x l ih2 => intro hx; rw [tys, tys, hx x (by simp), ih2 fun z hz => hx z (by simp [hz])]
    have ht : ∀ ts, tailT F c' p o n s ts = tailT F c p o n s ts := fun ts => by
      unfold tailT leafT
      by_cases ho : o = 3
      · obtain ⟨u, hu⟩ := h1 ho
        rw [hu, h n u hu]
      · simp only [if_neg ho]
    rw [ty, ty, hts l fun x hx => ih x hx (h2 x hx)]
    cases tys F c p l with
    | none => rfl
    | some ts => exact ht ts
theorem typeP_all {F : List Fn} {c p : List Int} {e : Ex} {t : Int} (h : typeP F c p e = some t) : F.length ≤ 20 ∧ (∀ i, i < F.length → okF F i = true) ∧ ty F c p e = some t ∧ levels e ≤ 12 := by
  unfold typeP at h
  split at h
  · rename_i hF
    unfold qei at hF
    simp only [Bool.and_eq_true, decide_eq_true_eq, List.all_eq_true, List.mem_range] at hF
    unfold tyD at h
    split at h
    · cases h
    · exact ⟨by omega, hF.2, h, by omega⟩
  · cases h
theorem okF_wfS {F : List Fn} (hOk : ∀ i, i < F.length → okF F i = true) : ∀ i (h : i < F.length), wfS i F[i].body = true := fun i h => by
  have h1 := okF_body (hOk i h) (List.getElem?_eq_getElem h)
  have h2 := wfS_of_ty _ h1
  rw [List.length_take, Nat.min_eq_left (by omega)] at h2
  exact h2
theorem pick_nil (n : Int) : pickT [] n = none := by
  unfold pickT
  split <;> simp
theorem pick_fix {c : List Int} {n u : Int} (h : pickT c n = some u) : pickT (c.map fun k => if kindB k = true then k else 0) n = some u := by
  unfold pickT at h ⊢
  split at h
  · cases h
  · rename_i hn
    rw [if_neg hn, List.getElem?_map]
    split at h
    · rename_i v hv
      rw [hv]
      split at h
      · rename_i hk
        simp only [Option.map_some, if_pos hk]
        exact h
      · cases h
    · cases h
theorem inline_ty {F : List Fn} {c : List Int} {e y : Ex} {t : Int} (hOk : ∀ i, i < F.length → okF F i = true) (ht : ty F c [] e = some t) (hy : qcr F e = some y) : ty [] c [] y = some t := by
  have hc0 : ∀ n u, pickT c n = some u → pickT (c.map fun k => if kindB k = true then k else 0) n = some u := fun n u h => pick_fix h
  have he := ty_cols e ht
  have hF : ∀ f ∈ F, allP (fun o n => o = 3 → ∃ u, pickT c n = some u) f.body := fun f hf => by
    obtain ⟨i, hi, rfl⟩ := List.mem_iff_getElem.1 hf
    have h1 := ty_cols _ (okF_body (hOk i hi) (List.getElem?_eq_getElem hi))
    have mono : ∀ e : Ex, allP (fun o n => o = 3 → ∃ u, pickT [] n = some u) e → allP (fun o n => o = 3 → ∃ u, pickT c n = some u) e := fun e => by
      induction e using Ex.ind with
      | h o n s l ih =>
        intro h
        obtain ⟨g1, g2⟩ := qem.1 h
        refine qem.2 ⟨fun ho => ?_, fun x hx => ih x hx (g2 x hx)⟩
        obtain ⟨u, hu⟩ := g1 ho
        rw [pick_nil] at hu; cases hu
    exact mono _ h1
  have hyc := inl_allP (P := fun o n => o = 3 → ∃ u, pickT c n = some u) (fun h => by cases h) (inlB_allP (fun h => by cases h) F [] (by simp) hF) e he (inlineP_some hy).1
  have ht' : ty F (c.map fun k => if kindB k = true then k else 0) [] e = some t := by rw [ty_swap hc0 e he]; exact ht
  have hk : ((c.map fun k => if kindB k = true then k else 0).map someV).map Val.k = c.map fun k => if kindB k = true then k else 0 := by
    rw [List.map_map, List.map_map]
    apply List.map_congr_left
    intro k _
    show (someV (if kindB k = true then k else 0)).k = _
    split
    · exact someV_k ‹_›
    · exact someV_k (by decide)
  have h3 := (inline_sem (time := 0) (R := (c.map fun k => if kindB k = true then k else 0).map someV) hOk (fun v hv => by
    obtain ⟨k, -, rfl⟩ := List.mem_map.1 hv
    exact someV_sound k) (by rw [hk]; exact ht') hy).1
  rw [hk, ty_swap hc0 y hyc] at h3
  exact h3
def zeroCd : Cod := ⟨[], [], 0⟩
def qdr (F : List Fn) (cols : List Int) (e : Ex) : Cod × Int := match typeP F cols [] e with
  | none => (zeroCd, 13)
  | some _ => match qcr F e with
    | none => (zeroCd, 6)
    | some y => (compP (rawP cols (foldE y)), 0)
theorem compile_typ {F : List Fn} {cols : List Int} {e y : Ex} {t : Int} (ht : typeP F cols [] e = some t) (hy : qcr F e = some y) :
    ty [] cols [] y = some t ∧ parts y ≤ 1000 ∧ TypE cols (foldE y) ∧ parts (foldE y) ≤ 1000 ∧ ty [] cols [] (foldE y) = some t := by
  obtain ⟨h1, h2, h3, h4⟩ := typeP_all ht
  have h5 := inline_ty h2 h3 hy
  have h6 := inlE_parts (inlineP_some hy).1
  have h7 := (fold_ok y h5).1
  have h8 := fold_parts y
  have h9 := fold_levels y
  have h10 := (inlineP_some hy).2
  exact ⟨h5, h6, ⟨⟨t, h7⟩, by omega⟩, by omega, h7⟩
end Go.Proofs.YtnkimlkoijfcpaaGreatDoor

/- The contract of Eval, as an abstract one. -/
namespace Go.Proofs.YtnkimlkoijfcpaaGreatDoor
open Go.RowKit Go.Lib
theorem eval_fit_g (F : List Fn) (time : Int) (R : List Val) (e : Ex) (t : Int) (hOk : ∀ i, i < F.length → okF F i = true) (hFp : ∀ f ∈ F, parts f.body ≤ 1000000) (hpb : parts e ≤ 1000000) {c : List Int} (ht : ty F c [] e = some t) (hR : qbs c R) :
    Gives Tryz.prog 17 [.sl (F.map Fn.av), e.av, .int time, .sl (R.map Val.av)] (evalP F time R e).av :=
  gives_of fun X vals ha => by
    obtain ⟨v0, _, rfl, h0, v1, _, rfl, h1, v2, _, rfl, h2, v3, _, rfl, h3, h4⟩ := ha
    cases h4
    obtain ⟨cs, rfl, hr⟩ := arg_ex h1
    cases arg_v h2
    refine (Eval_fit F time R e t hOk hFp hpb ht hR v0 v3 cs X.w (arg_fns h0) (arg_vals h3) hr).mono fun r w' ⟨h1, h2⟩ => ⟨h2, _, h1, ?_⟩
    exact ⟨_, rfl, flat_r1s [_, _, _] (by intro x hx; simp only [List.mem_cons, List.not_mem_nil, or_false] at hx; rcases hx with rfl | rfl | rfl <;> rfl)⟩
end Go.Proofs.YtnkimlkoijfcpaaGreatDoor

/- Walk: whether two expressions are the same, of the program. -/
namespace Go.Proofs.YtnkimlkoijfcpaaGreatDoor
open Go.RowKit Go.Lib
set_option maxHeartbeats 1000000 in
theorem eqf_g (l l2 : List Ex) (hl : l.length ≤ 1000000) (h : ∀ (i : Nat) (h1 : i < l.length) (h2 : i < l2.length), Gives Tryz.prog 91 [l[i].av, l2[i].av] (.bool (sameB l[i] l2[i]))) :
    Gives Tryz.prog 141 [.sl (l.map Ex.av), .sl (l2.map Ex.av), .fn 91 []] (.bool (qby l l2)) := by
  obtain ⟨R, hR⟩ : ∃ R, R = qby l l2 := ⟨_, rfl⟩
  rw [← hR]
  by_cases hlen : l.length = l2.length
  · have hlen' : (l.length : Int) = l2.length := by omega
    refine qo Tryz.func141 Tryz.ntmps141 rfl rfl (by decide) rfl (by intro n; simp) fun σ n0 hcl hft => ?_
    repeat (rw [qr]; try simp (disch := first | omega | simp) [qc, -qr, hlen'])
    repeat (first | (refine qf fun K hK => ?_) | (refine qa ?_; repeat (rw [qr]; try simp (disch := first | omega | simp) [qc, -qr, hlen'])) | (refine hK _ ?_; clear hK; clear K) | (clear hK; clear K; refine hK _ ?_; clear hK; clear K) | (clear hK; clear K; clear hK; clear K; refine hK _ ?_; clear hK; clear K) | refine qd ?_ | (refine qe ?_; simp (disch := first | omega | simp) [qc, hlen']) | (refine qi ?_; simp (disch := first | omega | simp)) | (refine qj ?_; simp (disch := first | omega | simp)) | (refine qn ?_; simp (disch := first | omega | simp)))
    refine qbc hcl (fun k : Nat => [(1, .sl (l2.map Ex.av)), (2, .fn 91 []), (15, .sl (l.map Ex.av)), (16, .int l2.length), (17, .int k)]) (fun _ => [])
      (fun k => k ≤ l.length ∧ R = qby (l.drop k) (l2.drop k)) (fun k => l.length - k) 0 (by exact ⟨by omega, by rw [hR]; rfl⟩) (by simp) fun k hk => ?_
    obtain ⟨hk, he⟩ := hk
    by_cases hlt : k < l.length
    · have hlt2 : k < l2.length := by omega
      have hc := h k hlt hlt2
      have hd : R = (sameB l[k] l2[k] && qby (l.drop (k + 1)) (l2.drop (k + 1))) := by
        rw [he, List.drop_eq_getElem_cons hlt, List.drop_eq_getElem_cons hlt2, qby]
      cases hs : sameB l[k] l2[k] with
      | false =>
        obtain rfl : R = false := by rw [hd, hs]; rfl
        rw [hs] at hc
        repeat' (first | ((first | ((with_reducible refine qq (fun hg => ?_) (fun hg => ?_)) <;> (try simp only [hg]) <;> (try simp only [gS] at hg) <;> (try (first | simp only [eq_false hg, gI] | simp only [eq_true hg, gI]))) | (with_reducible first | refine qh ?_ | refine qg ?_ | refine ql ?_ | refine qk ?_) | refine acall (hc) ?_ | refine qp (hc) ?_ | refine qm (hc) ?_ | refine qe ?_ | refine qi ?_ | refine qj ?_ | refine qn ?_) <;> (try simp (disch := first | omega | simp) [qc, -qr, -qz, hlt, hlt2])) | ((with_reducible refine sideT ?_ ?_); first | omega | assumption | (simp; done)) | (refine qf fun K hK => ?_) | (refine qa ?_) | (refine qb true (by kernel_rfl) (by kernel_rfl) ?_) | (refine qb false (by kernel_rfl) (by kernel_rfl) ?_) | (refine hK _ ?_; clear hK K) | (clear hK K; refine hK _ ?_; clear hK K) | (clear hK K; clear hK K; refine hK _ ?_; clear hK K) | refine qd ?_)
      | true =>
        rw [hs] at hc
        repeat' (first | ((first | ((with_reducible refine qq (fun hg => ?_) (fun hg => ?_)) <;> (try simp only [hg]) <;> (try simp only [gS] at hg) <;> (try (first | simp only [eq_false hg, gI] | simp only [eq_true hg, gI]))) | (with_reducible first | refine qh ?_ | refine qg ?_ | refine ql ?_ | refine qk ?_) | refine acall (hc) ?_ | refine qp (hc) ?_ | refine qm (hc) ?_ | refine qe ?_ | refine qi ?_ | refine qj ?_ | refine qn ?_) <;> (try simp (disch := first | omega | simp) [qc, -qr, -qz, hlt, hlt2])) | ((with_reducible refine sideT ?_ ?_); first | omega | assumption | (simp; done)) | (refine qf fun K hK => ?_) | (refine qa ?_) | (refine qb true (by kernel_rfl) (by kernel_rfl) ?_) | (refine qb false (by kernel_rfl) (by kernel_rfl) ?_) | (refine hK _ ?_; clear hK K) | (clear hK K; refine hK _ ?_; clear hK K) | (clear hK K; clear hK K; refine hK _ ?_; clear hK K) | refine qd ?_)
        refine ⟨k + 1, ⟨by omega, by rw [hd, hs]; rfl⟩, by omega, by simp⟩
    · have h1 : k = l.length := by omega
      obtain rfl : R = true := by
        rw [he, h1, List.drop_length, hlen, List.drop_length, qby]
      have hlt2 : ¬ k < l2.length := by omega
      repeat (rw [qr]; try simp (disch := first | omega | simp) [qc, -qr, hlt, hlt2])
      repeat (first | (refine qf fun K hK => ?_) | (refine qa ?_; repeat (rw [qr]; try simp (disch := first | omega | simp) [qc, -qr, hlt, hlt2])) | (refine hK _ ?_; clear hK; clear K) | (clear hK; clear K; refine hK _ ?_; clear hK; clear K) | (clear hK; clear K; clear hK; clear K; refine hK _ ?_; clear hK; clear K) | refine qd ?_ | (refine qe ?_; simp (disch := first | omega | simp) [qc, hlt, hlt2]) | (refine qi ?_; simp (disch := first | omega | simp)) | (refine qj ?_; simp (disch := first | omega | simp)) | (refine qn ?_; simp (disch := first | omega | simp)))
  · obtain rfl : R = false := by rw [hR, sameBs_len l l2 hlen]
    have hlen' : ¬ (l.length : Int) = l2.length := by omega
    refine qo Tryz.func141 Tryz.ntmps141 rfl rfl (by decide) rfl (by intro n; simp) fun σ n0 hcl hft => ?_
    repeat' (first | ((first | ((with_reducible refine qq (fun hg => ?_) (fun hg => ?_)) <;> (try simp only [hg]) <;> (try simp only [gS] at hg) <;> (try (first | simp only [eq_false hg, gI] | simp only [eq_true hg, gI]))) | (with_reducible first | refine qh ?_ | refine qg ?_ | refine ql ?_ | refine qk ?_) | refine qe ?_ | refine qi ?_ | refine qj ?_ | refine qn ?_) <;> (try simp (disch := first | omega | simp) [qc, -qr, -qz, hlen'])) | ((with_reducible refine sideT ?_ ?_); first | omega | assumption | (simp; done)) | (refine qf fun K hK => ?_) | (refine qa ?_) | (refine qb true (by kernel_rfl) (by kernel_rfl) ?_) | (refine qb false (by kernel_rfl) (by kernel_rfl) ?_) | (refine hK _ ?_; clear hK K) | (clear hK K; refine hK _ ?_; clear hK K) | (clear hK K; clear hK K; refine hK _ ?_; clear hK K) | refine qd ?_)
    all_goals first | exact absurd (by assumption) hlen' | exact absurd (by assumption) hlen
set_option maxHeartbeats 1000000 in
theorem same_g (a : Ex) : ∀ b : Ex, parts a ≤ 1000000 → Gives Tryz.prog 91 [a.av, b.av] (.bool (sameB a b)) := by
  induction a using Ex.ind with | h o n s l ih => ?_
  intro b hp
  obtain ⟨o2, n2, s2, l2⟩ := b
  have hl : l.length ≤ 1000000 := by rw [parts] at hp; have := qbw l; omega
  have hc := eqf_g l l2 hl fun i h1 h2 => ih _ (List.getElem_mem h1) l2[i] (by rw [parts] at hp; have := qbi l l[i] (List.getElem_mem h1); omega)
  obtain ⟨R, hR⟩ : ∃ R, R = sameB (.mk o n s l) (.mk o2 n2 s2 l2) := ⟨_, rfl⟩
  rw [← hR]
  rw [sameB] at hR
  by_cases h1 : o = o2
  · subst h1
    by_cases h2 : n = n2
    · subst h2
      by_cases h3 : s.toList = s2.toList
      · obtain rfl : R = qby l l2 := by rw [hR, h3]; simp
        refine qo Tryz.func91 Tryz.ntmps91 rfl rfl (by decide) rfl (by intro n; simp) fun σ n0 hcl hft => ?_
        repeat (rw [qr]; try simp (disch := first | omega | simp) [qc, -qr, h3])
        repeat (first | (refine qf fun K hK => ?_) | (refine qa ?_; repeat (rw [qr]; try simp (disch := first | omega | simp) [qc, -qr, h3])) | (refine hK _ ?_; clear hK; clear K) | (clear hK; clear K; refine hK _ ?_; clear hK; clear K) | (clear hK; clear K; clear hK; clear K; refine hK _ ?_; clear hK; clear K) | refine qd ?_ | (refine qe ?_; simp (disch := first | omega | simp) [qc, h3]) | (refine qi ?_; simp (disch := first | omega | simp)) | (refine qj ?_; simp (disch := first | omega | simp)) | (refine qn ?_; simp (disch := first | omega | simp)))
        refine acall (hc) ?_
        try simp (disch := first | omega | simp) [qc, -qr, h3]
        repeat (rw [qr]; try simp (disch := first | omega | simp) [qc, -qr, h3])
        repeat (first | (refine qf fun K hK => ?_) | (refine qa ?_; repeat (rw [qr]; try simp (disch := first | omega | simp) [qc, -qr, h3])) | (refine hK _ ?_; clear hK; clear K) | (clear hK; clear K; refine hK _ ?_; clear hK; clear K) | (clear hK; clear K; clear hK; clear K; refine hK _ ?_; clear hK; clear K) | refine qd ?_ | (refine qe ?_; simp (disch := first | omega | simp) [qc, h3]) | (refine qi ?_; simp (disch := first | omega | simp)) | (refine qj ?_; simp (disch := first | omega | simp)) | (refine qn ?_; simp (disch := first | omega | simp)))
      · obtain rfl : R = false := by rw [hR, decide_eq_false h3]; simp
        have h3' : (s.toList == s2.toList) = false := by simpa using h3
        refine qo Tryz.func91 Tryz.ntmps91 rfl rfl (by decide) rfl (by intro n; simp) fun σ n0 hcl hft => ?_
        repeat (rw [qr]; try simp (disch := first | omega | simp) [qc, -qr, h3'])
        repeat (first | (refine qf fun K hK => ?_) | (refine qa ?_; repeat (rw [qr]; try simp (disch := first | omega | simp) [qc, -qr, h3'])) | (refine hK _ ?_; clear hK; clear K) | (clear hK; clear K; refine hK _ ?_; clear hK; clear K) | (clear hK; clear K; clear hK; clear K; refine hK _ ?_; clear hK; clear K) | refine qd ?_ | (refine qe ?_; simp (disch := first | omega | simp) [qc, h3']) | (refine qi ?_; simp (disch := first | omega | simp)) | (refine qj ?_; simp (disch := first | omega | simp)) | (refine qn ?_; simp (disch := first | omega | simp)))
    · obtain rfl : R = false := by rw [hR, decide_eq_false h2]; simp
      have h2' : (n == n2) = false := by simpa using h2
      refine qo Tryz.func91 Tryz.ntmps91 rfl rfl (by decide) rfl (by intro n; simp) fun σ n0 hcl hft => ?_
      repeat (rw [qr]; try simp (disch := first | omega | simp) [qc, -qr, h2'])
      repeat (first | (refine qf fun K hK => ?_) | (refine qa ?_; repeat (rw [qr]; try simp (disch := first | omega | simp) [qc, -qr, h2'])) | (refine hK _ ?_; clear hK; clear K) | (clear hK; clear K; refine hK _ ?_; clear hK; clear K) | (clear hK; clear K; clear hK; clear K; refine hK _ ?_; clear hK; clear K) | refine qd ?_ | (refine qe ?_; simp (disch := first | omega | simp) [qc, h2']) | (refine qi ?_; simp (disch := first | omega | simp)) | (refine qj ?_; simp (disch := first | omega | simp)) | (refine qn ?_; simp (disch := first | omega | simp)))
  · obtain rfl : R = false := by rw [hR, decide_eq_false h1]; simp
    have h1' : (o == o2) = false := by simpa using h1
    refine qo Tryz.func91 Tryz.ntmps91 rfl rfl (by decide) rfl (by intro n; simp) fun σ n0 hcl hft => ?_
    repeat (rw [qr]; try simp (disch := first | omega | simp) [qc, -qr, h1'])
    repeat (first | (refine qf fun K hK => ?_) | (refine qa ?_; repeat (rw [qr]; try simp (disch := first | omega | simp) [qc, -qr, h1'])) | (refine hK _ ?_; clear hK; clear K) | (clear hK; clear K; refine hK _ ?_; clear hK; clear K) | (clear hK; clear K; clear hK; clear K; refine hK _ ?_; clear hK; clear K) | refine qd ?_ | (refine qe ?_; simp (disch := first | omega | simp) [qc, h1']) | (refine qi ?_; simp (disch := first | omega | simp)) | (refine qj ?_; simp (disch := first | omega | simp)) | (refine qn ?_; simp (disch := first | omega | simp)))
end Go.Proofs.YtnkimlkoijfcpaaGreatDoor

/- Stores of values into elements of own slices: what a value without slices that are nil or grow becomes. -/
namespace Go.Proofs.YtnkimlkoijfcpaaGreatDoor
open Go.RowKit Go.Lib
theorem keeps_all : ∀ {l : List AV}, (∀ z ∈ l, z.pub = z ∧ ∀ c, keep1 c z = z) → ∀ cs, keeps cs l = l
  | [], _, cs => keeps_nil
  | y :: l, h, [] => by rw [keeps_cons0, (h y (by simp)).1, keeps_all (fun z hz => h z (by simp [hz]))]
  | y :: l, h, c :: cs => by rw [keeps_cons, (h y (by simp)).2, keeps_all (fun z hz => h z (by simp [hz]))]
theorem keep_all {l : List AV} (h : ∀ z ∈ l, z.pub = z ∧ ∀ c, keep1 c z = z) (hp : (AV.agg l).pub = .agg l) (x : AV) (o : Nat) : x.keep o (.agg l) = .agg l := by
  cases x <;> first | exact hp | (rw [keep_agg, keeps_all h])
@[simp] theorem Val.av_keep (x : AV) (o : Nat) (v : Val) : x.keep o v.av = v.av := by
  have h := v.av_pub
  unfold Val.av at h ⊢
  exact keep_all (by simp) h x o
end Go.Proofs.YtnkimlkoijfcpaaGreatDoor
