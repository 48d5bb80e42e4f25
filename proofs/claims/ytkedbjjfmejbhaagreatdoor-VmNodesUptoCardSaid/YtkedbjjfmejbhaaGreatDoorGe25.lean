/- Walk of layer 26: add. -/
import Derived.Test.YtkedbjjfmejbhaaGreatDoorGe2
import Derived.Test.YtkedbjjfmejbhaaGreatDoorGe5
import Derived.Test.YtkedbjjfmejbhaaGreatDoorGe10
import Derived.Test.YtkedbjjfmejbhaaGreatDoorGe14
import Derived.Test.YtkedbjjfmejbhaaGreatDoorGe15
import Derived.Test.YtkedbjjfmejbhaaGreatDoorGe21
import Derived.Test.YtkedbjjfmejbhaaGreatDoorGe23
import Derived.Test.YtkedbjjfmejbhaaGreatDoorGe24
set_option linter.unusedSimpArgs false
set_option linter.unusedVariables false
namespace Go.Proofs.YtkedbjjfmejbhaaGreatDoor
open Go.RowKit Go.Lib
theorem qxl (L : List Ex) (e : Ex) : -1 <= findE L e /\ findE L e <= L.length := by
 refine ⟨qxk L e, ?_⟩
 by_cases h : 0 <= findE L e
 .have := qdw (L := L) (e := e) (k := (findE L e).toNat) (by omega)
  have := (List.getElem?_eq_some_iff.1 this).1
  omega
 .omega
set_option maxRecDepth 100000 in
set_option maxHeartbeats 16000000 in
theorem qqk1 (cols : List Int) (hcols : cols.length <= 1000000) (q a b c : Nat) (e : Ex) : ∀ (L : List Ex) (σ : Nat -> AB), qfw cols L -> TypE cols e -> n64 e -> L.length + parts e <= 1000000 -> Mk cols q a b c L σ ->
  AC Tryz.prog 34 [.ptr q 0, e.av] σ fun y τ => y = .int (findE (qbf e L) e) /\ τ = stM cols q a b c (qbf e L) σ := by
 induction e using Ex.ind with | h o n s l ih => ?_
 intro L σ hg hT hn hsz hM
 obtain ⟨hn1, hn2⟩ := qdc.1 hn
 have hl3 : l.length <= 3 := qix hT
 have hpe : parts (.mk o n s l) = qm l + 1 := by rw [parts]
 have hTl : ∀ x ∈ l, TypE cols x /\ n64 x := fun x hx => ⟨hT.arg x hx, hn2 x hx⟩
 obtain ⟨hgM, hMl, -⟩ := qdq hg hTl
 obtain ⟨M, hMd⟩ : ∃ M, M = qo l L := ⟨_, rfl⟩
 have hlM : M.length <= L.length + qm l := by rw [hMd]; exact qfm l L
 rw [<- hMd] at hgM hMl
 obtain ⟨R, hR⟩ : ∃ R, R = qbf (.mk o n s l) L := ⟨_, rfl⟩
 have hR2 := hR
 rw [qbf, <- hMd] at hR2
 rw [<- hR]
 refine qzi Tryz.func34 Tryz.ntmps34 rfl rfl (by decide) rfl (by intro n; simp) fun n0 hfin hcl hft => ?_
 obtain ⟨hq, ha, hb, hc⟩ := hM.lt hfin
 refine ⟨qgi1 hfin hq ha hb hc, qpb hcl ha hb hc, ?_⟩
 obtain ⟨G, hG⟩ : ∃ G : Nat -> Nat -> Int, G = fun k j => if j < k then regK M (.mk o n s l) j else 0 := ⟨_, rfl⟩
 have hG0 : ∀ j, G 0 j = 0 := fun j => by rw [hG]; simp
 have hGl : ∀ j, G l.length j = regK M (.mk o n s l) j := fun j => by
  rw [hG]; dsimp only
  split
  .rfl
  .unfold regK
   rw [show (Ex.mk o n s l).args = l from rfl, List.getElem?_eq_none (by omega)]
 have hGs : ∀ k j, j ≠ k -> G (k + 1) j = G k j := fun k j h => by
  rw [hG]; dsimp only
  by_cases h2 : j < k
  .rw [if_pos h2, if_pos (by omega)]
  .rw [if_neg h2, if_neg (by omega)]
 have hGk : ∀ k (h : k < l.length), G (k + 1) k = findE (qo (l.take (k + 1)) L) l[k] + 1 := fun k h => by
  rw [hG]; dsimp only
  rw [if_pos (by omega)]
  unfold regK
  rw [show (Ex.mk o n s l).args = l from rfl, List.getElem?_eq_getElem h]
  dsimp only
  have h1 : M = qo (l.drop (k + 1)) (qo (l.take (k + 1)) L) := by
   rw [hMd, <- qmi, List.take_append_drop]
  obtain ⟨g1, g2, -⟩ := qdq (l := l.take (k + 1)) hg fun x hx => hTl x (List.mem_of_mem_take hx)
  obtain ⟨g3, -, r, g4⟩ := qdq (l := l.drop (k + 1)) g1 fun x hx => hTl x (List.mem_of_mem_drop hx)
  rw [h1, g4]
  rw [g4] at g3
  rw [qqa g3.di (g2 _ (List.mem_take_iff_getElem.2 ⟨k, by omega, rfl⟩))]
 clear hG
 repeat' (first | ((first | ((with_reducible refine qj (fun hg => ?_) (fun hg => ?_)) <;> (try simp only [hg]) <;> (try simp only [gS] at hg) <;> (try (first | simp only [eq_false hg, gI] | simp only [eq_true hg, gI]))) | refine Stp.m ?_) <;> (try simp (disch := first | omega | simp) [qc, -qe, -qi])) | refine sideA ?_ | refine qb fun K hK => ?_ | refine qa ?_ | refine qf ?_ | refine qd ?_ | (refine hK _ ?_; clear hK K) | clear hK K)
 refine qbx (fun k => stM cols q a b c (qo (l.take k) L) σ) (fun k : Nat => [(0, .ptr q 0), (3, .ptr n0 0), (5, .ptr (n0 + 1) 0), (22, .sl (l.map Ex.av)), (23, .int l.length), (24, .int k)])
  (fun k => [.cells [.int o, .int n, .str s, .sl (l.map Ex.av)] 44, .cells [.int o, .int n, .str s, .int (G k 0), .int (G k 1), .int (G k 2)] 118])
  (fun k => k <= l.length) (fun k => l.length - k) 0 (fun k _ => qpb hcl ha hb hc) (by omega) (by
   rw [List.take_zero, qo, hM.self]
   simp [leS, hG0]; omega) hcl fun k hk => ?_
 by_cases hlt : k < l.length
 .have hx := hTl l[k] (List.getElem_mem hlt)
  obtain ⟨gk, -, -⟩ := qdq (l := l.take k) hg fun x hx => hTl x (List.mem_of_mem_take hx)
  have hpk : (qo (l.take k) L).length + parts l[k] <= 1000000 := by
   have h1 := qfm (l.take k) L
   have h2 := qhu l k hlt
   have h3 := qcw l (k + 1)
   omega
  have hMk := qlt1 hM (qo (l.take k) L)
  have hfk : Fin (stM cols q a b c (qo (l.take k) L) σ) n0 := qgi1 hfin hq ha hb hc
  have hst : qbf l[k] (qo (l.take k) L) = qo (l.take (k + 1)) L := by
   rw [List.take_succ_eq_append_getElem hlt, qkf]
  have c1 := fun Lo => ih l[k] (List.getElem_mem hlt) (qo (l.take k) L) _ gk hx.1 hx.2 hpk (hMk.loc hfk Lo)
  rw [hst] at c1
  have c2 : ∀ Lo, AC Tryz.prog 34 [.ptr q 0, l[k].av] (loc (stM cols q a b c (qo (l.take k) L) σ) n0 Lo) fun y τ => y = .int (findE (qo (l.take (k + 1)) L) l[k]) /\ τ = loc (stM cols q a b c (qo (l.take (k + 1)) L) σ) n0 Lo := fun Lo => by
   have := c1 Lo
   rw [qpb1 hq ha hb hc, qgj1] at this
   exact this
  have hGk2 := hGk k hlt
  have hfe := qxl (qo (l.take (k + 1)) L) l[k]
  have hle : ((qo (l.take (k + 1)) L).length : Int) <= 1000000 := by
   have h1 := qfm (l.take (k + 1)) L
   have h3 := qcw l (k + 1)
   omega
  obtain ⟨F, hF⟩ : ∃ F, F = findE (qo (l.take (k + 1)) L) l[k] := ⟨_, rfl⟩
  rw [<- hF] at hfe hGk2 c2
  have hF2 : F + 1 <= 9223372036854775807 := by omega
  have hF3 : -9223372036854775808 <= F + 1 := by omega
  have hG1 := hGs k
  obtain rfl | rfl | rfl : k = 0 \/ k = 1 \/ k = 2 := by omega
  .have hi : (0 : Int) < l.length := by omega
   have e0 : G 1 0 = F + 1 := hGk2
   have e1 : G 1 1 = G 0 1 := hG1 1 (by omega)
   have e2 : G 1 2 = G 0 2 := hG1 2 (by omega)
   repeat' (first | ((first | with_reducible refine qfh (id := 5) ?_ | ((with_reducible refine qj (fun hg => ?_) (fun hg => ?_)) <;> (try simp only [hg]) <;> (try simp only [gS] at hg) <;> (try (first | simp only [eq_false hg, gI] | simp only [eq_true hg, gI]))) | refine Stp.m ?_ | refine qbr1 _ (c2 _) ?_) <;> (try simp (disch := first | omega | simp) [qc, -qe, -qi, hlt, hi, hF2, hF3])) | refine sideA ?_ | refine qb fun K hK => ?_ | refine qa ?_ | refine qf ?_ | refine qd ?_ | (refine hK _ ?_; clear hK K) | clear hK K)
   exact ⟨qpb hcl ha hb hc, 1, by omega, by omega, fun r _ => rfl, by simp [e0, e1, e2]; omega⟩
  .have hi : (1 : Int) < l.length := by omega
   have e0 : G 2 0 = G 1 0 := hG1 0 (by omega)
   have e1 : G 2 1 = F + 1 := hGk2
   have e2 : G 2 2 = G 1 2 := hG1 2 (by omega)
   repeat' (first | ((first | with_reducible refine qfh (id := 5) ?_ | ((with_reducible refine qj (fun hg => ?_) (fun hg => ?_)) <;> (try simp only [hg]) <;> (try simp only [gS] at hg) <;> (try (first | simp only [eq_false hg, gI] | simp only [eq_true hg, gI]))) | refine Stp.m ?_ | refine qbr1 _ (c2 _) ?_) <;> (try simp (disch := first | omega | simp) [qc, -qe, -qi, hlt, hi, hF2, hF3])) | refine sideA ?_ | refine qb fun K hK => ?_ | refine qa ?_ | refine qf ?_ | refine qd ?_ | (refine hK _ ?_; clear hK K) | clear hK K)
   exact ⟨qpb hcl ha hb hc, 2, by omega, by omega, fun r _ => rfl, by simp [e0, e1, e2]; omega⟩
  .have hi : (2 : Int) < l.length := by omega
   have e0 : G 3 0 = G 2 0 := hG1 0 (by omega)
   have e1 : G 3 1 = G 2 1 := hG1 1 (by omega)
   have e2 : G 3 2 = F + 1 := hGk2
   repeat' (first | ((first | with_reducible refine qfh (id := 5) ?_ | ((with_reducible refine qj (fun hg => ?_) (fun hg => ?_)) <;> (try simp only [hg]) <;> (try simp only [gS] at hg) <;> (try (first | simp only [eq_false hg, gI] | simp only [eq_true hg, gI]))) | refine Stp.m ?_ | refine qbr1 _ (c2 _) ?_) <;> (try simp (disch := first | omega | simp) [qc, -qe, -qi, hlt, hi, hF2, hF3])) | refine sideA ?_ | refine qb fun K hK => ?_ | refine qa ?_ | refine qf ?_ | refine qd ?_ | (refine hK _ ?_; clear hK K) | clear hK K)
   exact ⟨qpb hcl ha hb hc, 3, by omega, by omega, fun r _ => rfl, by simp [e0, e1, e2]; omega⟩
 .obtain rfl : k = l.length := by omega
  rw [List.take_length, <- hMd, hGl, hGl, hGl]
  have hMτ := qlt1 hM M
  have hRτ : stM cols q a b c R σ = stM cols q a b c R (stM cols q a b c M σ) := (qgj1 M R).symm
  have hself := hMτ.self
  rw [hRτ]
  have hclτ := qpb (cols := cols) (q := q) (M := M) hcl ha hb hc
  generalize stM cols q a b c M σ = τ at hMτ hclτ hself hRτ ⊢
  have hMlen : M.length <= 1000000 := by omega
  have hMl1 : (M.length : Int) <= 1000000 := by omega
  have tq : τ q = .cells [.sl (cols.map AV.int), .gs a ((rawI M M 0).map Ins.av), .gs b ((M.map (typE cols)).map AV.int), .int 0, .own c 0] 86 := hMτ.hq
  have ta := hMτ.ha
  have tb := hMτ.hb
  have tc := hMτ.hc
  by_cases he : Ex.mk o n s l ∈ M
  .have hf := qcd.2 he
   rw [if_neg (by omega)] at hR2
   have look := qju1 hgM hMlen he
   rw [hR2, hself]
   repeat' (first | ((first | ((with_reducible refine qj (fun hg => ?_) (fun hg => ?_)) <;> (try simp only [hg]) <;> (try simp only [gS] at hg) <;> (try (first | simp only [eq_false hg, gI] | simp only [eq_true hg, gI]))) | refine Stp.m ?_ | refine alook (look) ?_ | refine aupd (look) ?_) <;> (try simp (disch := first | omega | simp) [qc, -qe, -qi, hlt, hq, ha, hb, hc, tq, ta, tb, tc, qcf])) | refine sideA ?_ | refine qb fun K hK => ?_ | refine qa ?_ | refine qf ?_ | refine qd ?_ | (refine hK _ ?_; clear hK K) | clear hK K)
   all_goals exact ⟨by rw [hRτ, hR2, hself], by rw [hR2]⟩
  .have hf : findE M (Ex.mk o n s l) < 0 := by
    have := mt qcd.1 he; omega
   rw [if_pos hf] at hR2
   have look := qfc1 hgM hMlen hT hn hMl he
   have upd1 := qjv1 hgM hMlen hT hn hMl he
   have ct := qhb1 [] cols [] (.mk o n s l) (by omega) (by simp)
   simp only [Ex.av_mk, List.map_nil] at ct
   have hk0 := qks (L := M) hMlen (.mk o n s l)
   have hkr : ∀ k, 0 <= regK M (.mk o n s l) k /\ regK M (.mk o n s l) k <= 1000001 := fun k => by
    unfold regK
    split
    .rename_i x hx
     have h1 := qxl M x
     omega
    .omega
   have k0 := hkr 0
   have k1 := hkr 1
   have k2 := hkr 2
   have ak : ∀ k, (if regK M (.mk o n s l) k - 1 < 0 then 0 else regK M (.mk o n s l) k - 1) = argI M (.mk o n s l) k := fun k => by
    have h1 := hkr k
    unfold regK argI at *
    cases hk2 : (Ex.mk o n s l).args[k]? with
    | none => simp
    | some x =>
     have hx := qcd.2 (hMl x (List.mem_of_getElem? hk2))
     simp only
     rw [if_neg (by omega)]; omega
   have ak0 := ak 0
   have ak1 := ak 1
   have ak2 := ak 2
   obtain ⟨n1, n2, n3, n4, n5, n6⟩ := hMτ.ne
   have n1' := n1.symm
   have n2' := n2.symm
   have n3' := n3.symm
   have n4' := n4.symm
   have n5' := n5.symm
   have n6' := n6.symm
   have rl := qqt M M 0
   have wr : AV.wid ((rawI M M 0).map Ins.av) 7 := Ins.avs_wid _
   have wt : AV.wid (M.map (AV.int ∘ typE cols)) 1 := AV.wid_map (f := AV.int ∘ typE cols) (fun _ => rfl) _
   have bs1 : (M.length + 1) * 72 <= 140737488355328 := by omega
   have bs2 : (M.length + 1) * 8 <= 140737488355328 := by omega
   repeat' (first | ((first | ((with_reducible refine qj (fun hg => ?_) (fun hg => ?_)) <;> (try simp only [hg]) <;> (try simp only [gS] at hg) <;> (try (first | simp only [eq_false hg, gI] | simp only [eq_true hg, gI]))) | refine Stp.m ?_) <;> (try simp (disch := first | omega | simp) [qc, -qe, -qi, hlt, hq, ha, hb, hc, tq, ta, tb, tc, qcf, -aseqX, ak0, ak1, ak2])) | refine sideA ?_ | refine qb fun K hK => ?_ | refine qa ?_ | refine qd ?_ | (refine hK _ ?_; clear hK K) | clear hK K)
   refine qgp true (by kernel_rfl) (by kernel_rfl) ?_
   repeat' (first | ((first | with_reducible refine qfh (id := 11) ?_ | ((with_reducible refine qj (fun hg => ?_) (fun hg => ?_)) <;> (try simp only [hg]) <;> (try simp only [gS] at hg) <;> (try (first | simp only [eq_false hg, gI] | simp only [eq_true hg, gI]))) | refine Stp.m ?_ | refine alook (look) ?_ | refine aupd (look) ?_ | refine qzp ?_ | refine qbx1 ?_) <;> (try simp (disch := first | omega | simp) [qc, -qe, -qi, hlt, hq, ha, hb, hc, tq, ta, tb, tc, qcf, -aseqX, ak0, ak1, ak2])) | refine sideA ?_ | refine qb fun K hK => ?_ | refine qa ?_ | refine qd ?_ | (refine hK _ ?_; clear hK K) | clear hK K)
   refine qgp true (by kernel_rfl) (by kernel_rfl) ?_
   repeat' (first | ((first | ((with_reducible refine qj (fun hg => ?_) (fun hg => ?_)) <;> (try simp only [hg]) <;> (try simp only [gS] at hg) <;> (try (first | simp only [eq_false hg, gI] | simp only [eq_true hg, gI]))) | refine Stp.m ?_ | refine qh ?_ | refine agH ?_) <;> (try simp (disch := first | omega | simp) [qc, -qe, -qi, hlt, hq, ha, hb, hc, tq, ta, tb, tc, qcf, -aseqX, ak0, ak1, ak2])) | refine sideA ?_ | refine qb fun K hK => ?_ | refine qa ?_ | refine qd ?_ | (refine hK _ ?_; clear hK K) | clear hK K)
   refine qid [.unborn, .unborn, .cells [.int o, .int M.length, .int (argI M (.mk o n s l) 0), .int (argI M (.mk o n s l) 1), .int (argI M (.mk o n s l) 2), .int n, .str s] 58] q [.R, .R, .R, .R, .R, .R, .N, .R, .R, .A, .R, .R, .R, .R, .N, .R, .R, .A, .R, .R, .R, .W, .R, .R, .R, .W] (by kernel_rfl) (by kernel_rfl) (by simp) ?_
   repeat' (first | ((first | ((with_reducible refine qj (fun hg => ?_) (fun hg => ?_)) <;> (try simp only [hg]) <;> (try simp only [gS] at hg) <;> (try (first | simp only [eq_false hg, gI] | simp only [eq_true hg, gI]))) | refine Stp.m ?_) <;> (try simp (disch := first | omega | simp) [qc, -qe, -qi, hlt, hq, ha, hb, hc, tq, ta, tb, tc, qcf, -aseqX, ak0, ak1, ak2, n1, n2, n3, n4, n5, n6, n1', n2', n3', n4', n5', n6', rl, wr, wt, bs1, bs2])) | refine sideA ?_ | refine qb fun K hK => ?_ | refine qa ?_ | refine qd ?_ | (refine hK _ ?_; clear hK K) | clear hK K)
   refine qid [.unborn, .cells [.int o, .int n, .str s, .int (regK M (.mk o n s l) 0), .int (regK M (.mk o n s l) 1), .int (regK M (.mk o n s l) 2)] 118] q [.R, .R, .R, .N, .R, .R, .W] (by kernel_rfl) (by kernel_rfl) (by simp) ?_
   repeat' (first | ((first | ((with_reducible refine qj (fun hg => ?_) (fun hg => ?_)) <;> (try simp only [hg]) <;> (try simp only [gS] at hg) <;> (try (first | simp only [eq_false hg, gI] | simp only [eq_true hg, gI]))) | refine Stp.m ?_ | refine alook (upd1) ?_ | refine aupd (upd1) ?_) <;> (try simp (disch := first | omega | simp) [qc, -qe, -qi, hlt, hq, ha, hb, hc, tq, ta, tb, tc, qcf, -aseqX, ak0, ak1, ak2, n1, n2, n3, n4, n5, n6, n1', n2', n3', n4', n5', n6', rl, wr, wt, bs1, bs2])) | refine sideA ?_ | refine qb fun K hK => ?_ | refine qa ?_ | refine qd ?_ | (refine hK _ ?_; clear hK K) | clear hK K)
   have hsn := qyp hgM.cl (qig hgM.di he) hMl
   refine ⟨?_, ?_⟩
   .rw [hRτ, hR2]
    refine qpc1 hMτ ?_ (by simp)
    unfold mkB
    rw [hsn.1]
    simp [insE, Ins.av, typE, -Ins.av_fold, Ex.op, Ex.n, Ex.s]
   .rw [hR2, qpz (qig hgM.di he) (k := M.length) (by simp)]
mutual
def allP (P : Int -> Int -> Prop) : Ex -> Prop
 | .mk o n _ l => P o n /\ allPs P l
def allPs (P : Int -> Int -> Prop) : List Ex -> Prop
 | [] => True
 | e :: l => allP P e /\ allPs P l
end
theorem qrp {P : Int -> Int -> Prop} : ∀ {l : List Ex}, allPs P l ↔ ∀ x ∈ l, allP P x
 | [] => by rw [allPs]; simp
 | e :: l => by rw [allPs, qrp]; simp
theorem qff {P : Int -> Int -> Prop} {o n : Int} {s : ByteArray} {l : List Ex} : allP P (.mk o n s l) ↔ P o n /\ ∀ x ∈ l, allP P x := by rw [allP, qrp]
section
variable {P : Int -> Int -> Prop}
theorem qke1 {op : Int} {L : List Ex} (hL : ∀ x ∈ L, allP P x) (e : Ex) : ∀ {y : Ex}, allP P e -> putP op L e = some y -> allP P y := by
 induction e using Ex.ind with
 | h o n s l ih =>
  intro y h hy
  obtain ⟨hn, hl⟩ := qff.1 h
  rw [putP] at hy
  split at hy
  .split at hy
   .cases hy
   .exact hL _ (List.mem_of_getElem? hy)
  .cases hp : putPs op L l with
   | none => rw [hp] at hy; cases hy
   | some l' =>
    rw [hp] at hy; cases hy
    refine qff.2 ⟨hn, fun x hx => ?_⟩
    obtain ⟨z, hz, h2⟩ := qmm l hp x hx
    exact ih z hz (hl z hz) h2
theorem qxp (h0 : P 0 0) {bs : List (Option Ex)} (hbs : ∀ b ∈ bs, ∀ y, b = some y -> allP P y) (e : Ex) : ∀ {y : Ex}, allP P e -> inlE bs e = some y -> allP P y := by
 induction e using Ex.ind with
 | h o n s l ih =>
  intro y h hy
  obtain ⟨hn, hl⟩ := qff.1 h
  rw [inlE] at hy
  cases hp : inlL bs l with
  | none => rw [hp] at hy; cases hy
  | some ys =>
   rw [hp] at hy
   have hys : ∀ x ∈ ys, allP P x := fun x hx => by
    obtain ⟨z, hz, h2⟩ := qjj l hp x hx
    exact ih z hz (hl z hz) h2
   dsimp only at hy
   split at hy
   .cases hb : bs.getD n.toNat none with
    | none => rw [hb] at hy; cases hy
    | some b =>
     rw [hb] at hy
     have hbm : some b ∈ bs := by
      rw [List.getD_eq_getElem?_getD] at hb
      cases hg : bs[n.toNat]? with
      | none => rw [hg] at hb; cases hb
      | some z => rw [hg] at hb; cases hb; exact List.mem_of_getElem? hg
     rw [<- qih hy]
     cases hq : putP 4 ys b with
     | none => exact qff.2 ⟨h0, by simp⟩
     | some z => exact qke1 hys b (hbs _ hbm b rfl) hq
   .rw [<- qih hy]
    exact qff.2 ⟨hn, hys⟩
theorem qta (h0 : P 0 0) : ∀ (F : List Fn) (bs : List (Option Ex)), (∀ b ∈ bs, ∀ y, b = some y -> allP P y) -> (∀ f ∈ F, allP P f.body) -> ∀ b ∈ inlB bs F, ∀ y, b = some y -> allP P y
 | [], bs, h, _ => by rw [inlB]; exact h
 | f :: F, bs, h, hF => by
  rw [inlB]
  refine qta h0 F _ (fun b hb y hy => ?_) fun g hg => hF g (by simp [hg])
  rcases List.mem_append.1 hb with hb | hb
  .exact h b hb y hy
  .rw [List.mem_singleton] at hb
   rw [hb] at hy
   exact qxp h0 h f.body (hF f (by simp)) hy
theorem qgf {F : List Fn} {e y : Ex} (h : qbj F e = some y) : inlE (inlB [] F) e = some y /\ levels y <= 12 := by
 unfold qbj at h
 split at h
 .rename_i x hx
  split at h
  .cases h
  .cases h; exact ⟨hx, by omega⟩
 .cases h
end
theorem qgy1 {F : List Fn} {c p : List Int} (e : Ex) : ∀ {t : Int}, ty F c p e = some t -> allP (fun o n => o = 3 -> ∃ u, pickT c n = some u) e := by
 induction e using Ex.ind with
 | h o n s l ih =>
  intro t h
  obtain ⟨ts, h1, h2⟩ := ty_mk h
  refine qff.2 ⟨fun ho => ?_, fun x hx => ?_⟩
  .have := qfd (.inl ho) h2
   rw [if_pos ho] at this
   exact ⟨_, this⟩
  .obtain ⟨u, hu⟩ := qgm l h1 x hx
   exact ih x hx hu
theorem qha1 {F : List Fn} {c c' p : List Int} (h : ∀ n u, pickT c n = some u -> pickT c' n = some u) (e : Ex) : allP (fun o n => o = 3 -> ∃ u, pickT c n = some u) e -> ty F c' p e = ty F c p e := by
 induction e using Ex.ind with
 | h o n s l ih =>
  intro ha
  obtain ⟨h1, h2⟩ := qff.1 ha
  have hts : ∀ l : List Ex, (∀ x ∈ l, ty F c' p x = ty F c p x) -> tys F c' p l = tys F c p l := fun l => by
   induction l with
   | nil => intro _; rw [tys, tys]
   | cons x l ih2 => intro hx; rw [tys, tys, hx x (by simp), ih2 fun z hz => hx z (by simp [hz])]
  have ht : ∀ ts, tailT F c' p o n s ts = tailT F c p o n s ts := fun ts => by
   unfold tailT leafT
   by_cases ho : o = 3
   .obtain ⟨u, hu⟩ := h1 ho
    rw [hu, h n u hu]
   .simp only [if_neg ho]
  rw [ty, ty, hts l fun x hx => ih x hx (h2 x hx)]
  cases tys F c p l with
  | none => rfl
  | some ts => exact ht ts
theorem qiy {F : List Fn} {c p : List Int} {e : Ex} {t : Int} (h : typeP F c p e = some t) : F.length <= 20 /\ (∀ i, i < F.length -> okF F i = true) /\ ty F c p e = some t /\ levels e <= 12 := by
 unfold typeP at h
 split at h
 .rename_i hF
  unfold qde at hF
  simp only [Bool.and_eq_true, decide_eq_true_eq, List.all_eq_true, List.mem_range] at hF
  unfold tyD at h
  split at h
  .cases h
  .exact ⟨by omega, hF.2, h, by omega⟩
 .cases h
theorem qoh1 {F : List Fn} (hOk : ∀ i, i < F.length -> okF F i = true) : ∀ i (h : i < F.length), wfS i F[i].body = true := fun i h => by
 have h1 := qhb (hOk i h) (List.getElem?_eq_getElem h)
 have h2 := qup _ h1
 rw [List.length_take, Nat.min_eq_left (by omega)] at h2
 exact h2
theorem qjz1 (n : Int) : pickT [] n = none := by
 unfold pickT
 split <;> simp
theorem qjy1 {c : List Int} {n u : Int} (h : pickT c n = some u) : pickT (c.map fun k => if kindB k = true then k else 0) n = some u := by
 unfold pickT at h ⊢
 split at h
 .cases h
 .rename_i hn
  rw [if_neg hn, List.getElem?_map]
  split at h
  .rename_i v hv
   rw [hv]
   split at h
   .rename_i hk
    simp only [Option.map_some, if_pos hk]
    exact h
   .cases h
  .cases h
theorem qdv1 {F : List Fn} {c : List Int} {e y : Ex} {t : Int} (hOk : ∀ i, i < F.length -> okF F i = true) (ht : ty F c [] e = some t) (hy : qbj F e = some y) : ty [] c [] y = some t := by
 have hc0 : ∀ n u, pickT c n = some u -> pickT (c.map fun k => if kindB k = true then k else 0) n = some u := fun n u h => qjy1 h
 have he := qgy1 e ht
 have hF : ∀ f ∈ F, allP (fun o n => o = 3 -> ∃ u, pickT c n = some u) f.body := fun f hf => by
  obtain ⟨i, hi, rfl⟩ := List.mem_iff_getElem.1 hf
  have h1 := qgy1 _ (qhb (hOk i hi) (List.getElem?_eq_getElem hi))
  have mono : ∀ e : Ex, allP (fun o n => o = 3 -> ∃ u, pickT [] n = some u) e -> allP (fun o n => o = 3 -> ∃ u, pickT c n = some u) e := fun e => by
   induction e using Ex.ind with
   | h o n s l ih =>
    intro h
    obtain ⟨g1, g2⟩ := qff.1 h
    refine qff.2 ⟨fun ho => ?_, fun x hx => ih x hx (g2 x hx)⟩
    obtain ⟨u, hu⟩ := g1 ho
    rw [qjz1] at hu; cases hu
  exact mono _ h1
 have hyc := qxp (P := fun o n => o = 3 -> ∃ u, pickT c n = some u) (fun h => by cases h) (qta (fun h => by cases h) F [] (by simp) hF) e he (qgf hy).1
 have ht' : ty F (c.map fun k => if kindB k = true then k else 0) [] e = some t := by rw [qha1 hc0 e he]; exact ht
 have hk : ((c.map fun k => if kindB k = true then k else 0).map someV).map Val.k = c.map fun k => if kindB k = true then k else 0 := by
  rw [List.map_map, List.map_map]
  apply List.map_congr_left
  intro k _
  show (someV (if kindB k = true then k else 0)).k = _
  split
  .exact qwm ‹_›
  .exact qwm (by decide)
 have h3 := (qog (time := 0) (R := (c.map fun k => if kindB k = true then k else 0).map someV) hOk (fun v hv => by
  obtain ⟨k, -, rfl⟩ := List.mem_map.1 hv
  exact qmv k) (by rw [hk]; exact ht') hy).1
 rw [hk, qha1 hc0 y hyc] at h3
 exact h3
def qzf : Cod := ⟨[], [], 0⟩
def qcx (F : List Fn) (cols : List Int) (e : Ex) : Cod × Int := match typeP F cols [] e with
 | none => (qzf, 13)
 | some _ => match qbj F e with
  | none => (qzf, 6)
  | some y => (compP (rawP cols (foldE y)), 0)
theorem qll {F : List Fn} {cols : List Int} {e y : Ex} {t : Int} (ht : typeP F cols [] e = some t) (hy : qbj F e = some y) :
  ty [] cols [] y = some t /\ parts y <= 1000 /\ TypE cols (foldE y) /\ parts (foldE y) <= 1000 /\ ty [] cols [] (foldE y) = some t := by
 obtain ⟨h1, h2, h3, h4⟩ := qiy ht
 have h5 := qdv1 h2 h3 hy
 have h6 := qgz (qgf hy).1
 have h7 := (qvs y h5).1
 have h8 := qoa y
 have h9 := qvr y
 have h10 := (qgf hy).2
 exact ⟨h5, h6, ⟨⟨t, h7⟩, by omega⟩, by omega, h7⟩
end Go.Proofs.YtkedbjjfmejbhaaGreatDoor
namespace Go.Proofs.YtkedbjjfmejbhaaGreatDoor
open Go.RowKit Go.Lib Go.ChangeMaps
def fnOf (o : Int) : Nat := if o = 8 then 115 else if o = 9 then 116 else if o = 10 then 117 else if o = 11 then 118 else if o = 12 then 119
 else if o = 13 then 120 else if o = 14 then 121 else if o = 15 then 122 else if o = 16 then 123 else if o = 17 then 124 else if o = 18 then 125 else 126
theorem bin_g (o : Int) (ho : 8 <= o /\ o <= 19) (a b : Val) (hz : a.s.size + b.s.size <= 9223372036854775807) : Gives Tryz.prog (fnOf o) [pairA a b] (binV o a b).av := by
 have : o = 8 \/ o = 9 \/ o = 10 \/ o = 11 \/ o = 12 \/ o = 13 \/ o = 14 \/ o = 15 \/ o = 16 \/ o = 17 \/ o = 18 \/ o = 19 := by omega
 rcases this with rfl | rfl | rfl | rfl | rfl | rfl | rfl | rfl | rfl | rfl | rfl | rfl
 .exact qrw1 a b
 .exact qsd1 a b
 .exact qsb1 a b
 .exact qrz1 a b
 .exact qsa1 a b
 .exact peq_g a b
 .exact pne_g a b
 .exact plt_g a b
 .exact ple_g a b
 .exact qom1 a b
 .exact qrx1 a b
 .exact qoo1 a b hz
theorem qzt (o : Int) : enters Tryz.prog (fnOf o) = true := by
 unfold fnOf
 (repeat' split) <;> simp
theorem qqv1 {es : Array MapEntry} {c : Nat} {k : Int} {q : Nat} (hf : Instr.findNow (.int .i64) (.int .i64 k) es.toList 0 = some none) :
  IsMap (fun o => o = .map es c) /\ UpdOk Tryz.prog 175 (fun o => o = .map es c) (.int k) (.fn q []) (fun o => o = .map (es.push { key := .int .i64 k, val := .func (.func q) #[] #[], born := c }) (c + 1)) := by
 refine ⟨fun o h => ⟨_, _, h⟩, _, _, rfl, rfl, ?_⟩
 rintro w b es' clock hb he
 cases he
 have hc : (Instr.checkKey false 10000 3 (.int .i64 k)).run Tryz.prog w = .ok () w := MapKept.run_checkKey (k := .int .i64 k) Tryz.underlying3 (by simp [MapKept.IsKey]) false 9999
 refine ⟨_, ?_, rfl⟩
 simp [Instr.mapUpdate, run_underlying Tryz.underlying175, MapKept.run_getObj_map hb, hc, MapKept.run_findKey Tryz.underlying3 hf, MapKept.run_setObj_map _ hb, Result.andThen, setBlock]
def qrt1 : List MapEntry := [⟨.int .i64 8, .func (.func 115) #[] #[], 0⟩, ⟨.int .i64 9, .func (.func 116) #[] #[], 1⟩, ⟨.int .i64 10, .func (.func 117) #[] #[], 2⟩, ⟨.int .i64 11, .func (.func 118) #[] #[], 3⟩, ⟨.int .i64 12, .func (.func 119) #[] #[], 4⟩, ⟨.int .i64 13, .func (.func 120) #[] #[], 5⟩, ⟨.int .i64 14, .func (.func 121) #[] #[], 6⟩, ⟨.int .i64 15, .func (.func 122) #[] #[], 7⟩, ⟨.int .i64 16, .func (.func 123) #[] #[], 8⟩, ⟨.int .i64 17, .func (.func 124) #[] #[], 9⟩, ⟨.int .i64 18, .func (.func 125) #[] #[], 10⟩, ⟨.int .i64 19, .func (.func 126) #[] #[], 11⟩]
theorem qoi1 {es : Array MapEntry} {c : Nat} (he : es.toList = qrt1) (o : Int) (ho : 8 <= o /\ o <= 19) : qjw Tryz.prog 175 (fun x => x = .map es c) false (.int o) (.fn (fnOf o) []) := by
 refine ⟨_, .func (.func (fnOf o)) #[] #[], rfl, fun X => ?_, ?_⟩
 .show RC X (.fn (fnOf o) []) [_]
  rw [RC]
  exact ⟨[], rfl, by rw [R1s]⟩
 rintro w b x hb rfl
 have hf : Instr.findNow (.int .i64) (.int .i64 o) es.toList 0 = some (some (o.toNat - 8, .func (.func (fnOf o)) #[] #[])) := by
  rw [he]
  have : o = 8 \/ o = 9 \/ o = 10 \/ o = 11 \/ o = 12 \/ o = 13 \/ o = 14 \/ o = 15 \/ o = 16 \/ o = 17 \/ o = 18 \/ o = 19 := by omega
  rcases this with rfl | rfl | rfl | rfl | rfl | rfl | rfl | rfl | rfl | rfl | rfl | rfl <;> rfl
 have hc : (Instr.checkKey es.isEmpty 10000 3 (.int .i64 o)).run Tryz.prog w = .ok () w := MapKept.run_checkKey (k := .int .i64 o) Tryz.underlying3 (by simp [MapKept.IsKey]) _ 9999
 have hc2 := hc
 simp only [Array.isEmpty] at hc2
 simp [Instr.lookup, run_underlying Tryz.underlying175, MapKept.run_getObj_map hb, hc, hc2, MapKept.run_findKey Tryz.underlying3 hf, Result.andThen]
def qhg (F : List Fn) (time : Int) (R P : List Val) : AV := .agg [.sl (F.map Fn.av), .int time, .sl (R.map Val.av), .sl (P.map Val.av)]
def EvalG (F : List Fn) (time : Int) (m : Nat) (e : Ex) : Prop := ∀ (c p : List Int) (R P : List Val) (t : Int), ty (F.take m) c p e = some t -> qbu c R -> P.map Val.k = p -> (∀ v ∈ P, qr v) -> parts e <= 1000000 ->
 Gives Tryz.prog 71 [qhg F time R P, e.av] (ev (callN F time m) time R P e).av
theorem qhd1 {F : List Fn} {c p : List Int} : ∀ {l : List Ex} {ts : List Int}, tys F c p l = some ts -> ts.length = l.length
 | [], ts, h => by rw [tys] at h; cases h; rfl
 | e :: l, ts, h => by
  rw [tys] at h
  cases he : ty F c p e with
  | none => rw [he] at h; cases h
  | some t =>
   rw [he] at h
   cases hl : tys F c p l with
   | none => rw [hl] at h; cases h
   | some us => rw [hl] at h; cases h; rw [List.length_cons, List.length_cons, qhd1 hl]
set_option maxHeartbeats 8000000 in
theorem qda1 (F : List Fn) (time : Int) (m : Nat) (n : Int) (s : ByteArray) (l : List Ex) (ih : ∀ x ∈ l, EvalG F time m x) : EvalG F time m (.mk 21 n s l) := by
 intro c p R P t ht hR hP hsP hp
 obtain ⟨ts, hts, htt⟩ : ∃ ts, tys (F.take m) c p l = some ts /\ tailT (F.take m) c p 21 n s ts = some t := by
  rw [ty] at ht
  cases hl : tys (F.take m) c p l with
  | none => rw [hl] at ht; cases ht
  | some ts => rw [hl] at ht; exact ⟨ts, rfl, ht⟩
 have h3 : l.length = 3 := by
  rw [<- qhd1 hts]
  unfold tailT at htt
  split at htt
  .cases htt
  rw [if_neg (by decide)] at htt
  split at htt
  .simp [leafT] at htt
  .unfold operT at htt
   split at htt
   .cases htt
   simp only [show ¬ ((21 : Int) = 6) by decide, show ¬ ((21 : Int) = 7) by decide, show ¬ ((21 : Int) = 20) by decide, show ¬ (8 <= (21 : Int) /\ (21 : Int) <= 12) by decide, show ¬ (13 <= (21 : Int) /\ (21 : Int) <= 16) by decide, show ¬ (17 <= (21 : Int) /\ (21 : Int) <= 18) by decide, show ¬ ((21 : Int) = 19) by decide, if_false, if_true] at htt
   split at htt
   .rfl
   .cases htt
 obtain ⟨x, y, z, rfl⟩ : ∃ x y z, l = [x, y, z] := by
  match l, h3 with
  | [x, y, z], _ => exact ⟨x, y, z, rfl⟩
 have hc : ∀ w ∈ [x, y, z], Gives Tryz.prog 71 [qhg F time R P, w.av] (ev (callN F time m) time R P w).av := fun w hw => by
  obtain ⟨t', ht'⟩ := qgm _ hts w hw
  exact ih w hw c p R P t' ht' hR hP hsP (by rw [parts] at hp; have := qbh _ w hw; omega)
 have c1 := hc x (by simp)
 have c2 := hc y (by simp)
 have c3 := hc z (by simp)
 have hev : ev (callN F time m) time R P (.mk 21 n s [x, y, z]) = if (ev (callN F time m) time R P x).n = 1 then ev (callN F time m) time R P y else ev (callN F time m) time R P z := by
  rw [ev, if_pos rfl, qfk]; rfl
 rw [hev]
 unfold qhg at *
 clear hc hev ih
 generalize ev (callN F time m) time R P x = X at *
 generalize ev (callN F time m) time R P y = Y at *
 generalize ev (callN F time m) time R P z = Z at *
 obtain ⟨k1, n1, s1⟩ := X
 by_cases h1 : n1 = 1
 .simp only [h1, if_true]
  simp only [Val.av, h1] at c1
  refine qg Tryz.func71 Tryz.ntmps71 fun σ n0 hcl hft => ?_
  repeat' (first | ((first | refine Stp.m ?_ | refine agH ?_) <;> (try simp (disch := first | omega | simp) [qc, -qe, -qi])) | refine qb fun K hK => ?_ | refine qa ?_ | refine qf ?_ | (refine hK _ ?_; clear hK K))
 .simp only [h1, if_false]
  simp only [Val.av] at c1
  refine qg Tryz.func71 Tryz.ntmps71 fun σ n0 hcl hft => ?_
  repeat' (first | ((first | ((with_reducible refine qj (fun hg => ?_) (fun hg => ?_)) <;> (try simp only [hg]) <;> (try simp only [gS] at hg) <;> (try (first | simp only [eq_false hg, gI] | simp only [eq_true hg, gI]))) | refine Stp.m ?_ | refine agH ?_) <;> (try simp (disch := first | omega | simp) [qc, -qe, -qi, h1])) | refine qb fun K hK => ?_ | refine qa ?_ | refine qf ?_ | (refine hK _ ?_; clear hK K) | clear hK K)
  all_goals exact absurd (by assumption) h1
theorem qnk1 {c p : List Int} {o n t : Int} {s : ByteArray} (h : leafT c p o n s = some t) : (o = 0 \/ o = 1 \/ o = 2 \/ o = 3 \/ o = 4 \/ o = 5) /\ (o = 3 -> pickT c n = some t) /\ (o = 4 -> pickT p n = some t) := by
 unfold leafT at h
 by_cases h0 : o = 0
 .omega
 by_cases h2 : o = 2
 .omega
 by_cases h3 : o = 3
 .rw [if_neg h0, if_neg h2, if_pos h3] at h; exact ⟨by omega, fun _ => h, by omega⟩
 by_cases h4 : o = 4
 .rw [if_neg h0, if_neg h2, if_neg h3, if_pos h4] at h; exact ⟨by omega, by omega, fun _ => h⟩
 by_cases h1 : o = 1
 .omega
 by_cases h5 : o = 5
 .omega
 rw [if_neg h0, if_neg h2, if_neg h3, if_neg h4, if_neg h1, if_neg h5] at h
 cases h
theorem qok1 {o n t : Int} {ts : List Int} (h : operT o n ts = some t) (h21 : o ≠ 21) : ((o = 6 \/ o = 7 \/ o = 20) /\ ts.length = 1) \/ (8 <= o /\ o <= 19 /\ ts.length = 2) := by
 unfold operT at h
 split at h
 .cases h
 split at h
 .split at h
  .rename_i e _ e2; exact .inl ⟨by omega, by rw [e2]; rfl⟩
  .cases h
 split at h
 .split at h
  .rename_i e _ e2; exact .inl ⟨by omega, by rw [e2]; rfl⟩
  .cases h
 split at h
 .split at h
  .rename_i e _ e2; exact .inl ⟨by omega, by rw [e2]; rfl⟩
  .cases h
 split at h
 .split at h
  .rename_i e _ e2; exact .inr ⟨by omega, by omega, by rw [e2]; rfl⟩
  .cases h
 split at h
 .split at h
  .exact .inr ⟨by omega, by omega, rfl⟩
  .cases h
 split at h
 .split at h
  .rename_i e _ e2; exact .inr ⟨by omega, by omega, by rw [e2]; rfl⟩
  .cases h
 split at h
 .split at h
  .rename_i e _ e2; exact .inr ⟨by omega, by omega, by rw [e2]; rfl⟩
  .cases h
 cases h
theorem qod {l : List Val} {n : Int} (h : n.toNat < l.length) : l.getD n.toNat zeroV = l[n.toNat] := by rw [List.getD_eq_getElem?_getD, List.getElem?_eq_getElem h]; rfl
theorem qpd {F : List Fn} {c p : List Int} {o n t : Int} {s : ByteArray} {ts : List Int} (h : tailT F c p o n s ts = some t) (h22 : o = 22) : callT F n ts = some t := by
 subst h22
 unfold tailT at h
 by_cases h1 : s.size ≠ 0 /\ (22 : Int) ≠ 1
 .rw [if_pos h1] at h; cases h
 .rw [if_neg h1, if_pos rfl] at h; exact h
set_option maxHeartbeats 16000000 in
theorem qdb1 (F : List Fn) (time : Int) (m : Nat) (c p : List Int) (R P : List Val) (o n t : Int) (s : ByteArray) (l : List Ex) (ts : List Int) (vs : List Val) (call : Int -> List Val -> Val) (ho : o ≠ 21) (hll : l.length <= 1000000)
  (hR : qbu c R) (hP : P.map Val.k = p) (hsP : ∀ v ∈ P, qr v) (htt : tailT (F.take m) c p o n s ts = some t) (hlen : ts.length = l.length) (hvl : vs.length = l.length) (hsv : ∀ v ∈ vs, qr v)
  (hst : ∀ k (hk : k < l.length), Gives Tryz.prog 71 [qhg F time R P, l[k].av] (vs[k]'(by omega)).av)
  (hcall : o = 22 -> ∀ (k : Nat) (hk : k < F.length), n = k -> Gives Tryz.prog 71 [qhg F time [] vs, F[k].body.av] (call n vs).av) :
  Gives Tryz.prog 71 [qhg F time R P, (Ex.mk o n s l).av] (opV call time R P o n s vs).av := by
 unfold qhg at *
 obtain ⟨Z, hZ⟩ : ∃ Z, Z = opV call time R P o n s vs := ⟨_, rfl⟩
 rw [<- hZ]
 have hcs : ∀ m k, AV.cls m (List.take k (vs.map Val.av)) := fun m k => by rw [<- List.map_take]; exact Val.avs_cl _ _
 have hws : ∀ k, AV.wid (List.take k (vs.map Val.av)) 3 := fun k => by rw [<- List.map_take]; exact Val.avs_wid _
 refine qg Tryz.func71 Tryz.ntmps71 fun σ n0 hcl hft => ?_
 repeat' (first | ((first | ((with_reducible refine qj (fun hg => ?_) (fun hg => ?_)) <;> (try simp only [hg]) <;> (try simp only [gS] at hg) <;> (try (first | simp only [eq_false hg, gI] | simp only [eq_true hg, gI]))) | refine Stp.m ?_) <;> (try simp (disch := first | omega | simp) [qc, -qe, -qi, ho])) | refine sideA ?_ | refine qb fun K hK => ?_ | refine qa ?_ | refine qf ?_ | refine qd ?_ | (refine hK _ ?_; clear hK K))
 all_goals try exact absurd (by assumption) ho
 refine qbn 5 63 3 (by simp) ?_
 simp only [List.length_append, List.length_cons, List.length_nil, Nat.zero_add, Nat.reduceAdd, List.cons_append, List.nil_append]
 refine qk hcl (fun k : Nat => [(2, .ptr n0 0), (3, .ptr (n0 + 1) 0), (4, .ptr (n0 + 2) 0), (5, .gs (n0 + 3) ((vs.take k).map Val.av)), (33, .sl (l.map Ex.av)), (34, .int l.length), (35, .int k)])
  (fun k => [.cells [.sl (F.map Fn.av), .int time, .sl (R.map Val.av), .sl (P.map Val.av)] 127, .cells [.int o, .int n, .str s, .sl (l.map Ex.av)] 44, .cells [.int 0, .int 0, .str ByteArray.empty] 63, .tail k 63 3])
  (fun k => k <= l.length) (fun k => l.length - k) 0 (by omega) (by simp) fun k hk => ?_
 by_cases hlt : k < l.length
 .have c1 := hst k hlt
  have hk2 : k < vs.length := by omega
  have hle : min k vs.length = k := by omega
  have htk : List.take (k + 1) (vs.map Val.av) = List.take k (vs.map Val.av) ++ [(vs[k]'hk2).av] := by rw [<- List.map_take, List.take_succ_eq_append_getElem hk2, List.map_append, List.map_take]; rfl
  generalize vs[k] = v at *
  have hsz : (k + 1) * 32 <= 140737488355328 := by omega
  clear hst hcall hZ
  repeat' (first | ((first | refine Stp.m ?_ | refine qh ?_) <;> (try simp (disch := first | omega | simp) [qc, -qe, -qi, hlt, hle, hsz, hws])) | refine qb fun K hK => ?_ | refine qa ?_ | refine qd ?_ | (refine hK _ ?_; clear hK K) | clear hK K)
  refine ⟨k + 1, by omega, by omega, ?_⟩
  simp [htk, hcs, hle]
 .obtain rfl : k = l.length := by omega
  rw [<- hvl, List.take_length]
  clear hst
  have hlt' : ¬ vs.length < l.length := by omega
  by_cases h22 : o = 22
  .have hc := qpd htt h22
   obtain ⟨h0, hltm, f, hf, -⟩ := qev hc
   have hnF := (List.getElem?_eq_some_iff.1 hf).1
   obtain ⟨k, rfl⟩ : ∃ k : Nat, n = k := ⟨n.toNat, by omega⟩
   have hk : k < F.length := by omega
   have c1 := hcall h22 k hk rfl
   have hv : Z = call k vs := by rw [hZ, h22]; rfl
   rw [<- hv] at c1
   clear hv hZ hcall
   subst h22
   repeat' (first | ((first | refine Stp.m ?_ | refine agH ?_) <;> (try simp (disch := first | omega | simp) [qc, -qe, -qi, hlt', hk])) | refine qb fun K hK => ?_ | refine qa ?_ | refine qf ?_ | refine qd ?_ | (refine hK _ ?_; clear hK K) | clear hK K)
  clear hcall
  have htt2 : (if ts = [] then leafT c p o n s else operT o n ts) = some t := by
   unfold tailT at htt
   split at htt
   .cases htt
   .first | exact htt | (rw [if_neg h22] at htt; exact htt)
  by_cases hn : ts = []
  .obtain rfl : vs = [] := List.eq_nil_of_length_eq_zero (by rw [hvl, <- hlen, hn]; rfl)
   rw [if_pos hn] at htt2
   obtain ⟨hop, hop3, hop4⟩ := qnk1 htt2
   by_cases h3 : o = 3
   .obtain ⟨q1, q2, -, -⟩ := qyk hR (hop3 h3)
    have hz : Z = R[n.toNat] := by rw [hZ, h3, <- qod q2]; rfl
    have q3 : ¬ n < 0 := by omega
    have q4 : n < R.length := by omega
    subst h3
    repeat' (first | (refine Stp.m ?_ <;> try simp (disch := first | omega | simp) [qc, -qe, -qi, q1, q2, q3, q4]) | refine qb fun K hK => ?_ | refine qa ?_ | refine qd ?_ | (refine hK _ ?_; clear hK K) | clear hK K)
    all_goals (rw [hz])
   by_cases h4 : o = 4
   .obtain ⟨q1, q2, -, -⟩ := qjn hP hsP (hop4 h4)
    have hz : Z = P[n.toNat] := by rw [hZ, h4, <- qod q2]; rfl
    have q3 : ¬ n < 0 := by omega
    have q4 : n < P.length := by omega
    subst h4
    repeat' (first | (refine Stp.m ?_ <;> try simp (disch := first | omega | simp) [qc, -qe, -qi, q1, q2, q3, q4]) | refine qb fun K hK => ?_ | refine qa ?_ | refine qd ?_ | (refine hK _ ?_; clear hK K) | clear hK K)
    all_goals (rw [hz])
   repeat' (first | ((first | ((with_reducible refine qj (fun hg => ?_) (fun hg => ?_)) <;> (try simp only [hg]) <;> (try simp only [gS] at hg) <;> (try (first | simp only [eq_false hg, gI] | simp only [eq_true hg, gI]))) | refine Stp.m ?_ | refine acall (qfb _) ?_ | refine acall (qdn _) ?_) <;> (try simp (disch := first | omega | simp) [qc, -qe, -qi, h3, h4, h22])) | refine sideA ?_ | refine qb fun K hK => ?_ | refine qa ?_ | refine qf ?_ | refine qd ?_ | (refine hK _ ?_; clear hK K) | clear hK K)
   all_goals first
    | (exfalso; omega)
    | (rw [hZ, show o = 0 by assumption]; rfl)
    | (rw [hZ, show o = 1 by assumption]; rfl)
    | (rw [hZ, show o = 2 by assumption]; rfl)
    | (rw [hZ, show o = 5 by assumption]; rfl)
  .rw [if_neg hn] at htt2
   rcases qok1 htt2 ho with ⟨hop, hl1⟩ | ⟨hop, hop2, hl2⟩
   .obtain ⟨v, rfl⟩ : ∃ v, vs = [v] := by
     match vs, (by omega : vs.length = 1) with
     | [v], _ => exact ⟨v, rfl⟩
    have g1 : ¬ o = 0 := by omega
    have g2 : ¬ o = 1 := by omega
    have g3 : ¬ o = 2 := by omega
    have g4 : ¬ o = 3 := by omega
    have g5 : ¬ o = 4 := by omega
    have g6 : ¬ o = 5 := by omega
    repeat' (first | ((first | ((with_reducible refine qj (fun hg => ?_) (fun hg => ?_)) <;> (try simp only [hg]) <;> (try simp only [gS] at hg) <;> (try (first | simp only [eq_false hg, gI] | simp only [eq_true hg, gI]))) | refine Stp.m ?_ | refine acall (qfb _) ?_ | refine acall (qdn _) ?_) <;> (try simp (disch := first | omega | simp) [qc, -qe, -qi, g1, g2, g3, g4, g5, g6, h22])) | refine sideA ?_ | refine qb fun K hK => ?_ | refine qa ?_ | refine qf ?_ | refine qd ?_ | (refine hK _ ?_; clear hK K) | clear hK K)
    all_goals first
     | (exfalso; omega)
     | (rw [hZ, show o = 6 by assumption]; rfl)
     | (rw [hZ, show o = 7 by assumption, show IntKind.i64.wrap (-v.n) = wrap64 (-v.n) by rw [IntKind.wrap_i64, wrap64]]; rfl)
     | (rw [hZ, show o = 20 by assumption]; rfl)
   .obtain ⟨v, w, rfl⟩ : ∃ v w, vs = [v, w] := by
     match vs, (by omega : vs.length = 2) with
     | [v, w], _ => exact ⟨v, w, rfl⟩
    have g1 : ¬ o = 0 := by omega
    have g2 : ¬ o = 1 := by omega
    have g3 : ¬ o = 2 := by omega
    have g4 : ¬ o = 3 := by omega
    have g5 : ¬ o = 4 := by omega
    have g6 : ¬ o = 5 := by omega
    have g7 : ¬ o = 6 := by omega
    have g8 : ¬ o = 7 := by omega
    have g9 : ¬ o = 20 := by omega
    have hv1 := (hsv v (by simp)).2
    have hv2 := (hsv w (by simp)).2
    have c1 := bin_g o ⟨hop, hop2⟩ v w (by omega)
    have hz : Z = binV o v w := by
     rw [hZ]; unfold opV
     rw [if_neg g1, if_neg g2, if_neg g3, if_neg g4, if_neg g5, if_neg g6, if_neg g7, if_neg g8, if_neg g9, if_neg h22]; rfl
    rw [<- hz] at c1
    have he := qzt o
    unfold pairA at c1
    repeat' (first | ((first | ((with_reducible refine qj (fun hg => ?_) (fun hg => ?_)) <;> (try simp only [hg]) <;> (try simp only [gS] at hg) <;> (try (first | simp only [eq_false hg, gI] | simp only [eq_true hg, gI]))) | refine Stp.m ?_ | refine aupd (qqv1 (by rfl)) ?_ | refine alook (qoi1 (by rfl) o ⟨hop, hop2⟩) ?_ | refine agH ?_) <;> (try simp (disch := first | omega | simp) [qc, -qe, -qi, g1, g2, g3, g4, g5, g6, g7, g8, g9, h22, he])) | refine sideA ?_ | refine qb fun K hK => ?_ | refine qa ?_ | refine qf ?_ | refine qd ?_ | (refine hK _ ?_; clear hK K) | clear hK K)
    all_goals try (exfalso; omega)
set_option maxHeartbeats 16000000 in
theorem qls (F : List Fn) (time : Int) (m : Nat) (hOk : ∀ i, i < F.length -> okF F i = true) (hFp : ∀ f ∈ F, parts f.body <= 1000000)
  (hprev : ∀ m', m = m' + 1 -> ∀ e, EvalG F time m' e) (e : Ex) : EvalG F time m e := by
 induction e using Ex.ind with | h o n s l ih => ?_
 by_cases ho : o = 21
 .subst ho; exact qda1 F time m n s l ih
 intro c p R P t ht hR hP hsP hp
 have hll : l.length <= 1000000 := by rw [parts] at hp; have := qbq l; omega
 obtain ⟨ts, hts, htt⟩ : ∃ ts, tys (F.take m) c p l = some ts /\ tailT (F.take m) c p o n s ts = some t := by
  rw [ty] at ht
  cases hl : tys (F.take m) c p l with
  | none => rw [hl] at ht; cases ht
  | some ts => rw [hl] at ht; exact ⟨ts, rfl, ht⟩
 have hkinds := qga (call := callN F time m) (time := time) (row := R) (params := P) l hts (fun x hx t' h' => qxi time hOk m x h' hR hP hsP)
 have hlen := qhd1 hts
 have hE : ev (callN F time m) time R P (.mk o n s l) = opV (callN F time m) time R P o n s (evs (callN F time m) time R P l) := by rw [ev, if_neg ho]
 have hvl : (evs (callN F time m) time R P l).length = l.length := by rw [qfk, List.length_map]
 rw [hE]
 have hst : ∀ k (hk : k < l.length), Gives Tryz.prog 71 [qhg F time R P, l[k].av] ((evs (callN F time m) time R P l)[k]'(by omega)).av := fun k hk => by
  obtain ⟨t', ht'⟩ := qgm _ hts l[k] (List.getElem_mem hk)
  have := ih l[k] (List.getElem_mem hk) c p R P t' ht' hR hP hsP (by rw [parts] at hp; have := qbh l l[k] (List.getElem_mem hk); omega)
  simp only [qfk, List.getElem_map]
  exact this
 have hcall : o = 22 -> ∀ (k : Nat) (hk : k < F.length), n = k -> Gives Tryz.prog 71 [qhg F time [] (evs (callN F time m) time R P l), F[k].body.av] (callN F time m n (evs (callN F time m) time R P l)).av := fun h22 k hk hn => by
  obtain ⟨h0, hlt, f, hf, hpar, hres⟩ := qev (qpd htt h22)
  obtain ⟨m', rfl⟩ : ∃ m', m = m' + 1 := ⟨m - 1, by omega⟩
  have hkn : n.toNat = k := by omega
  rw [hkn] at hf hlt
  have hfk : F[k] = f := (List.getElem?_eq_some_iff.1 hf).2
  have hb := qrd (m := m') (by omega) f.body (qhb (hOk k hk) hf)
  have hv : callN F time (m' + 1) n (evs (callN F time (m' + 1)) time R P l) = ev (callN F time m') time [] (evs (callN F time (m' + 1)) time R P l) f.body := by
   simp only [callN, hkn, hf]
  rw [hv, <- hfk]
  rw [<- hfk] at hb hpar
  exact hprev m' rfl F[k].body [] F[k].params [] _ _ hb (qbu.nil []) (by rw [hkinds.1, hpar]) hkinds.2 (hFp _ (List.getElem_mem hk))
 exact qdb1 F time m c p R P o n t s l ts _ _ ho hll hR hP hsP htt hlen hvl hkinds.2 hst hcall
theorem qnt (F : List Fn) (time : Int) (hOk : ∀ i, i < F.length -> okF F i = true) (hFp : ∀ f ∈ F, parts f.body <= 1000000) : ∀ (m : Nat) (e : Ex), EvalG F time m e
 | 0, e => qls F time 0 hOk hFp (fun m' h => by omega) e
 | m + 1, e => qls F time (m + 1) hOk hFp (fun m' h => by
  obtain rfl : m' = m := by omega
  exact qnt F time hOk hFp m') e
theorem qnu (F : List Fn) (time : Int) (R : List Val) (e : Ex) (t : Int) (hOk : ∀ i, i < F.length -> okF F i = true) (hFp : ∀ f ∈ F, parts f.body <= 1000000) (hpb : parts e <= 1000000) {c : List Int} (ht : ty F c [] e = some t) (hR : qbu c R) :
  Gives Tryz.prog 38 [.sl (F.map Fn.av), e.av, .int time, .sl (R.map Val.av)] (evalP F time R e).av := by
 have c := qnt F time hOk hFp F.length e c [] R [] t (by rw [List.take_length]; exact ht) hR rfl (by simp) hpb
 unfold qhg at c
 have e1 : ev (callN F time F.length) time R [] e = evalP F time R e := rfl
 rw [e1] at c
 generalize evalP F time R e = Z at *
 refine qg Tryz.func38 Tryz.ntmps38 fun σ n0 hcl hft => ?_
 repeat' (first | ((first | refine Stp.m ?_ | refine qh ?_) <;> (try simp (disch := first | omega | simp) [qc, -qe, -qi])) | refine qb fun K hK => ?_ | refine qa ?_ | (refine hK _ ?_; clear hK K))
end Go.Proofs.YtkedbjjfmejbhaaGreatDoor
namespace Go.Proofs.YtkedbjjfmejbhaaGreatDoor

end Go.Proofs.YtkedbjjfmejbhaaGreatDoor
namespace Go.Proofs.YtkedbjjfmejbhaaGreatDoor
open Go.RowKit Go.Lib
set_option maxHeartbeats 1000000 in
theorem eqf_g (l l2 : List Ex) (hl : l.length <= 1000000) (h : ∀ (i : Nat) (h1 : i < l.length) (h2 : i < l2.length), Gives Tryz.prog 110 [l[i].av, l2[i].av] (.bool (sameB l[i] l2[i]))) :
  Gives Tryz.prog 164 [.sl (l.map Ex.av), .sl (l2.map Ex.av), .fn 110 []] (.bool (qcy l l2)) := by
 obtain ⟨R, hR⟩ : ∃ R, R = qcy l l2 := ⟨_, rfl⟩
 rw [<- hR]
 by_cases hlen : l.length = l2.length
 .have hlen' : (l.length : Int) = l2.length := by omega
  refine qg Tryz.func164 Tryz.ntmps164 fun σ n0 hcl hft => ?_
  repeat (rw [qe]; try simp (disch := first | omega | simp) [qc, -qe, hlen'])
  repeat (first | (refine qb fun K hK => ?_) | (refine qa ?_; repeat (rw [qe]; try simp (disch := first | omega | simp) [qc, -qe, hlen'])) | (refine hK _ ?_; clear hK; clear K) | (clear hK; clear K; refine hK _ ?_; clear hK; clear K) | (clear hK; clear K; clear hK; clear K; refine hK _ ?_; clear hK; clear K) | refine qd ?_ | (refine qt ?_; simp (disch := first | omega | simp) [qc, hlen']) | (refine qba ?_; simp (disch := first | omega | simp)) | (refine qbb ?_; simp (disch := first | omega | simp)) | (refine qbl ?_; simp (disch := first | omega | simp)))
  refine qk hcl (fun k : Nat => [(1, .sl (l2.map Ex.av)), (2, .fn 110 []), (15, .sl (l.map Ex.av)), (16, .int l2.length), (17, .int k)]) (fun _ => [])
   (fun k => k <= l.length /\ R = qcy (l.drop k) (l2.drop k)) (fun k => l.length - k) 0 (by exact ⟨by omega, by rw [hR]; rfl⟩) (by simp) fun k hk => ?_
  obtain ⟨hk, he⟩ := hk
  by_cases hlt : k < l.length
  .have hlt2 : k < l2.length := by omega
   have hc := h k hlt hlt2
   have hd : R = (sameB l[k] l2[k] && qcy (l.drop (k + 1)) (l2.drop (k + 1))) := by
    rw [he, List.drop_eq_getElem_cons hlt, List.drop_eq_getElem_cons hlt2, qcy]
   cases hs : sameB l[k] l2[k] with
   | false =>
    obtain rfl : R = false := by rw [hd, hs]; rfl
    rw [hs] at hc
    repeat' (first | ((first | refine Stp.m ?_ | refine qh ?_) <;> (try simp (disch := first | omega | simp) [qc, -qe, -qi, hlt, hlt2])) | refine qb fun K hK => ?_ | refine qa ?_ | refine qd ?_ | (refine hK _ ?_; clear hK K))
   | true =>
    rw [hs] at hc
    repeat' (first | ((first | refine Stp.m ?_ | refine qh ?_) <;> (try simp (disch := first | omega | simp) [qc, -qe, -qi, hlt, hlt2])) | refine qb fun K hK => ?_ | refine qa ?_ | refine qd ?_ | (refine hK _ ?_; clear hK K) | clear hK K)
    refine ⟨k + 1, ⟨by omega, by rw [hd, hs]; rfl⟩, by omega, by simp⟩
  .have h1 : k = l.length := by omega
   obtain rfl : R = true := by
    rw [he, h1, List.drop_length, hlen, List.drop_length, qcy]
   have hlt2 : ¬ k < l2.length := by omega
   repeat (rw [qe]; try simp (disch := first | omega | simp) [qc, -qe, hlt, hlt2])
   repeat (first | (refine qb fun K hK => ?_) | (refine qa ?_; repeat (rw [qe]; try simp (disch := first | omega | simp) [qc, -qe, hlt, hlt2])) | (refine hK _ ?_; clear hK; clear K) | (clear hK; clear K; refine hK _ ?_; clear hK; clear K) | (clear hK; clear K; clear hK; clear K; refine hK _ ?_; clear hK; clear K) | refine qd ?_ | (refine qt ?_; simp (disch := first | omega | simp) [qc, hlt, hlt2]) | (refine qba ?_; simp (disch := first | omega | simp)) | (refine qbb ?_; simp (disch := first | omega | simp)) | (refine qbl ?_; simp (disch := first | omega | simp)))
 .obtain rfl : R = false := by rw [hR, qpa l l2 hlen]
  have hlen' : ¬ (l.length : Int) = l2.length := by omega
  refine qg Tryz.func164 Tryz.ntmps164 fun σ n0 hcl hft => ?_
  repeat' (first | ((first | ((with_reducible refine qj (fun hg => ?_) (fun hg => ?_)) <;> (try simp only [hg]) <;> (try simp only [gS] at hg) <;> (try (first | simp only [eq_false hg, gI] | simp only [eq_true hg, gI]))) | refine Stp.m ?_) <;> (try simp (disch := first | omega | simp) [qc, -qe, -qi, hlen'])) | refine qb fun K hK => ?_ | refine qa ?_ | refine qd ?_ | (refine hK _ ?_; clear hK K))
  all_goals first | exact absurd (by assumption) hlen' | exact absurd (by assumption) hlen
set_option maxHeartbeats 1000000 in
theorem qsi1 (a : Ex) : ∀ b : Ex, parts a <= 1000000 -> Gives Tryz.prog 110 [a.av, b.av] (.bool (sameB a b)) := by
 induction a using Ex.ind with | h o n s l ih => ?_
 intro b hp
 obtain ⟨o2, n2, s2, l2⟩ := b
 have hl : l.length <= 1000000 := by rw [parts] at hp; have := qbq l; omega
 have hc := eqf_g l l2 hl fun i h1 h2 => ih _ (List.getElem_mem h1) l2[i] (by rw [parts] at hp; have := qbh l l[i] (List.getElem_mem h1); omega)
 obtain ⟨R, hR⟩ : ∃ R, R = sameB (.mk o n s l) (.mk o2 n2 s2 l2) := ⟨_, rfl⟩
 rw [<- hR]
 rw [sameB] at hR
 by_cases h1 : o = o2
 .subst h1
  by_cases h2 : n = n2
  .subst h2
   by_cases h3 : s.toList = s2.toList
   .obtain rfl : R = qcy l l2 := by rw [hR, h3]; simp
    refine qg Tryz.func110 Tryz.ntmps110 fun σ n0 hcl hft => ?_
    repeat (rw [qe]; try simp (disch := first | omega | simp) [qc, -qe, h3])
    repeat (first | (refine qb fun K hK => ?_) | (refine qa ?_; repeat (rw [qe]; try simp (disch := first | omega | simp) [qc, -qe, h3])) | (refine hK _ ?_; clear hK; clear K) | (clear hK; clear K; refine hK _ ?_; clear hK; clear K) | (clear hK; clear K; clear hK; clear K; refine hK _ ?_; clear hK; clear K) | refine qd ?_ | (refine qt ?_; simp (disch := first | omega | simp) [qc, h3]) | (refine qba ?_; simp (disch := first | omega | simp)) | (refine qbb ?_; simp (disch := first | omega | simp)) | (refine qbl ?_; simp (disch := first | omega | simp)))
    refine acall (hc) ?_
    try simp (disch := first | omega | simp) [qc, -qe, h3]
    repeat (rw [qe]; try simp (disch := first | omega | simp) [qc, -qe, h3])
    repeat (first | (refine qb fun K hK => ?_) | (refine qa ?_; repeat (rw [qe]; try simp (disch := first | omega | simp) [qc, -qe, h3])) | (refine hK _ ?_; clear hK; clear K) | (clear hK; clear K; refine hK _ ?_; clear hK; clear K) | (clear hK; clear K; clear hK; clear K; refine hK _ ?_; clear hK; clear K) | refine qd ?_ | (refine qt ?_; simp (disch := first | omega | simp) [qc, h3]) | (refine qba ?_; simp (disch := first | omega | simp)) | (refine qbb ?_; simp (disch := first | omega | simp)) | (refine qbl ?_; simp (disch := first | omega | simp)))
   .obtain rfl : R = false := by rw [hR, decide_eq_false h3]; simp
    have h3' : (s.toList == s2.toList) = false := by simpa using h3
    refine qg Tryz.func110 Tryz.ntmps110 fun σ n0 hcl hft => ?_
    repeat (rw [qe]; try simp (disch := first | omega | simp) [qc, -qe, h3'])
    repeat (first | (refine qb fun K hK => ?_) | (refine qa ?_; repeat (rw [qe]; try simp (disch := first | omega | simp) [qc, -qe, h3'])) | (refine hK _ ?_; clear hK; clear K) | (clear hK; clear K; refine hK _ ?_; clear hK; clear K) | (clear hK; clear K; clear hK; clear K; refine hK _ ?_; clear hK; clear K) | refine qd ?_ | (refine qt ?_; simp (disch := first | omega | simp) [qc, h3']) | (refine qba ?_; simp (disch := first | omega | simp)) | (refine qbb ?_; simp (disch := first | omega | simp)) | (refine qbl ?_; simp (disch := first | omega | simp)))
  .obtain rfl : R = false := by rw [hR, decide_eq_false h2]; simp
   have h2' : (n == n2) = false := by simpa using h2
   refine qg Tryz.func110 Tryz.ntmps110 fun σ n0 hcl hft => ?_
   repeat (rw [qe]; try simp (disch := first | omega | simp) [qc, -qe, h2'])
   repeat (first | (refine qb fun K hK => ?_) | (refine qa ?_; repeat (rw [qe]; try simp (disch := first | omega | simp) [qc, -qe, h2'])) | (refine hK _ ?_; clear hK; clear K) | (clear hK; clear K; refine hK _ ?_; clear hK; clear K) | (clear hK; clear K; clear hK; clear K; refine hK _ ?_; clear hK; clear K) | refine qd ?_ | (refine qt ?_; simp (disch := first | omega | simp) [qc, h2']) | (refine qba ?_; simp (disch := first | omega | simp)) | (refine qbb ?_; simp (disch := first | omega | simp)) | (refine qbl ?_; simp (disch := first | omega | simp)))
 .obtain rfl : R = false := by rw [hR, decide_eq_false h1]; simp
  have h1' : (o == o2) = false := by simpa using h1
  refine qg Tryz.func110 Tryz.ntmps110 fun σ n0 hcl hft => ?_
  repeat (rw [qe]; try simp (disch := first | omega | simp) [qc, -qe, h1'])
  repeat (first | (refine qb fun K hK => ?_) | (refine qa ?_; repeat (rw [qe]; try simp (disch := first | omega | simp) [qc, -qe, h1'])) | (refine hK _ ?_; clear hK; clear K) | (clear hK; clear K; refine hK _ ?_; clear hK; clear K) | (clear hK; clear K; clear hK; clear K; refine hK _ ?_; clear hK; clear K) | refine qd ?_ | (refine qt ?_; simp (disch := first | omega | simp) [qc, h1']) | (refine qba ?_; simp (disch := first | omega | simp)) | (refine qbb ?_; simp (disch := first | omega | simp)) | (refine qbl ?_; simp (disch := first | omega | simp)))
theorem qly : ∀ {l : List AV}, (∀ z ∈ l, z.pub = z /\ ∀ c, keep1 c z = z) -> ∀ cs, keeps cs l = l
 | [], _, cs => qec1
 | y :: l, h, [] => by rw [qwd, (h y (by simp)).1, qly (fun z hz => h z (by simp [hz]))]
 | y :: l, h, c :: cs => by rw [qar1, (h y (by simp)).2, qly (fun z hz => h z (by simp [hz]))]
theorem qxt {l : List AV} (h : ∀ z ∈ l, z.pub = z /\ ∀ c, keep1 c z = z) (hp : (AV.agg l).pub = .agg l) (x : AV) (o : Nat) : x.keep o (.agg l) = .agg l := by
 cases x <;> first | exact hp | (rw [qji1, qly h])
@[simp] theorem Val.av_keep (x : AV) (o : Nat) (v : Val) : x.keep o v.av = v.av := by
 have h := v.av_pub
 unfold Val.av at h ⊢
 exact qxt (by simp) h x o
end Go.Proofs.YtkedbjjfmejbhaaGreatDoor
