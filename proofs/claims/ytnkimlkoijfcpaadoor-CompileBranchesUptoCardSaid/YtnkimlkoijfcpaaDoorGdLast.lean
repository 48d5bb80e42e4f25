/- Layer 26 on plain data: what Compile returns for an ExIf, without functions. -/
import Derived.Test.YtnkimlkoijfcpaaDoorGd5
import Derived.Test.YtnkimlkoijfcpaaDoorGd19
import Derived.Test.YtnkimlkoijfcpaaDoorGd20
import Derived.Test.YtnkimlkoijfcpaaDoorGd21
import Derived.Test.YtnkimlkoijfcpaaDoorGd22
import Derived.Test.YtnkimlkoijfcpaaDoorGd27
set_option linter.unusedSimpArgs false
set_option linter.unusedVariables false
namespace Go.Proofs.YtnkimlkoijfcpaaDoor
open Go.RowKit Go.Lib
def eB (n : Int) : Ex := .mk 2 n ByteArray.empty []
def ifE (a b c : Ex) : Ex := .mk 21 0 ByteArray.empty [a, b, c]
def notE (a : Ex) : Ex := .mk 6 0 ByteArray.empty [a]
theorem inl_nil (e : Ex) : parts e ≤ 1000 → inlE [] e = some e := by
  induction e using Ex.ind with
  | h o n s l ih =>
    intro hp
    have hL : ∀ l : List Ex, (∀ x ∈ l, inlE [] x = some x) → inlL [] l = some l := fun l => by
      induction l with
      | nil => intro _; rw [inlL]
      | cons x l ih2 => intro h; rw [inlL, h x (by simp)]; dsimp only; rw [ih2 fun z hz => h z (by simp [hz])]
    have hl := hL l fun x hx => ih x hx (by rw [parts] at hp; have := qbj l x hx; omega)
    rw [inlE, hl]
    dsimp only
    rw [if_neg (by rintro ⟨-, h1, h2⟩; simp at h2; omega)]
    unfold fitX
    rw [if_neg (by omega)]
theorem qco {cols : List Int} {e : Ex} (hp : parts e ≤ 1000) : qbn [] cols e = match typeP [] cols [] e with | none => (zeroCd, 13) | some _ => (compP (rawP cols (foldE e)), 0) := by
  unfold qbn
  cases h : typeP [] cols [] e with
  | none => rfl
  | some t =>
    obtain ⟨-, -, -, h4⟩ := qem h
    have hy : qcd [] e = some e := by
      unfold qcd inlB
      rw [inl_nil e hp]
      dsimp only
      rw [if_neg (by omega)]
    rw [hy]
theorem typeP_nil {cols : List Int} {e : Ex} : typeP [] cols [] e = if levels e > 12 then none else ty [] cols [] e := by
  unfold typeP
  rw [if_pos (by decide)]
  rfl
theorem lev0 (e : Ex) : 1 ≤ levels e := by
  cases e with
  | mk o n s l =>
    rw [levels]
    have := (levelsL_le l 0 0 (by omega) (by omega)).1
    omega
theorem if_ty {cols : List Int} {a b c : Ex} {t : Int} (h : ty [] cols [] (ifE a b c) = some t) : ty [] cols [] a = some 2 ∧ ty [] cols [] b = some t ∧ ty [] cols [] c = some t := by
  obtain ⟨ts, h1, h2, -⟩ := qex h (by decide) (by simp)
  have h3 := op21_ts h2 rfl
  subst h3
  obtain ⟨x, y, z, h4, g1, g2, g3⟩ := tys3 h1
  simp only [List.cons.injEq, and_true] at h4
  obtain ⟨rfl, rfl, rfl⟩ := h4
  exact ⟨g1, g2, g3⟩
theorem ty_bool {cols : List Int} {n : Int} (hn : n = 0 ∨ n = 1) : ty [] cols [] (eB n) = some 2 := by
  rcases hn with rfl | rfl
  · exact (qbq (v := boolV false) (qcb _) [] cols []).1
  · exact (qbq (v := boolV true) (qcb _) [] cols []).1
theorem if_ty2 {cols : List Int} {a a' b c : Ex} {t : Int} (h : ty [] cols [] (ifE a b c) = some t) (h' : ty [] cols [] a' = some 2) : ty [] cols [] (ifE a' b c) = some t := by
  obtain ⟨g1, g2, g3⟩ := if_ty h
  unfold ifE at h ⊢
  rw [ty, tys, tys, tys, tys, g1, g2, g3] at h
  rw [ty, tys, tys, tys, tys, h', g2, g3]
  exact h
theorem if_lev {a a' b c : Ex} (h : levels a' ≤ levels a) : levels (ifE a' b c) ≤ levels (ifE a b c) := by
  unfold ifE
  rw [levels, levels, qv, qv, qv, qv, qv, qv, qv, qv]
  omega
theorem fold_if (a b c : Ex) : foldE (ifE a b c) = topF 21 0 ByteArray.empty [foldE a, foldE b, foldE c] := by
  unfold ifE
  rw [foldE, foldL, foldL, foldL, foldL]
theorem fold_bool (n : Int) : foldE (eB n) = eB n := by unfold eB; rw [foldE, foldL, topF, if_pos rfl]
theorem fold_const {cols : List Int} {b c : Ex} {t n : Int} (hn : n = 0 ∨ n = 1) (hb : ty [] cols [] b = some t) (hc : ty [] cols [] c = some t) : foldE (ifE (eB n) b c) = if n = 1 then foldE b else foldE c := by
  rw [fold_if, fold_bool]
  have gb := (fold_ok b hb).1
  have gc := (fold_ok c hc).1
  generalize foldE b = fb at *
  generalize foldE c = fc at *
  have hB : qbh (eB n) = true := by unfold qbh eB; simp [Ex.op]
  unfold topF
  rw [if_neg (by simp)]
  by_cases hall : [eB n, fb, fc].all qbh = true
  · rw [if_pos ⟨by decide, hall⟩]
    simp only [List.all_cons, List.all_nil, Bool.and_true, Bool.and_eq_true] at hall
    obtain ⟨-, kb, kc⟩ := hall
    obtain ⟨vb, sb, -, rfl⟩ := qdh kb gb
    obtain ⟨vc, sc, -, rfl⟩ := qdh kc gc
    have e1 : ∀ v, qbc v → ev (callN [] 0 0) 0 [] [] (qbf v) = v := fun v sv => (qbq sv [] [] []).2.1 _ _ _ _
    have e2 : (ev (callN [] 0 0) 0 [] [] (eB n)).n = n := by
      rcases hn with rfl | rfl
      · rw [show eB 0 = qbf (boolV false) from rfl, e1 _ (qcb _)]; rfl
      · rw [show eB 1 = qbf (boolV true) from rfl, e1 _ (qcb _)]; rfl
    unfold evalP
    rw [show ([] : List Fn).length = 0 from rfl, ev, if_pos rfl, evs, evs, evs, evs, e1 vb sb, e1 vc sc]
    unfold ifV
    simp only [List.getD_cons_zero, List.getD_cons_succ, e2]
    split <;> rfl
  · rw [if_neg (fun h => hall h.2), if_pos rfl]
    unfold choiceP
    dsimp only
    rw [hB]
    have hN : (eB n).n = n := rfl
    rw [hN]
    rcases hn with rfl | rfl
    · by_cases hs : sameB fb fc = true
      · rw [if_pos (.inr hs), if_neg (by decide)]; exact sameB_eq hs
      · rw [if_neg (by rintro (⟨-, h⟩ | h) <;> first | omega | exact hs h), if_pos rfl, if_neg (by decide)]
    · rw [if_pos (.inl ⟨rfl, rfl⟩), if_pos rfl]
theorem fold_not (a : Ex) : foldE (notE a) = topF 6 0 ByteArray.empty [foldE a] := by
  unfold notE
  rw [foldE, foldL, foldL]
theorem not_const (b : Bool) : topF 6 0 ByteArray.empty [topF 6 0 ByteArray.empty [qbf (boolV b)]] = qbf (boolV b) := by
  cases b <;> kernel_rfl
theorem not_top {o n : Int} {s : ByteArray} {l : List Ex} (h : qbh (.mk o n s l) = false) : topF 6 0 ByteArray.empty [.mk o n s l] = notP 6 0 ByteArray.empty [.mk o n s l] := by
  unfold topF
  rw [if_neg (by simp), if_neg (by simp [h]), if_neg (by decide), if_neg (by decide), if_pos rfl]
theorem fold_nn {cols : List Int} {a : Ex} (ha : ty [] cols [] a = some 2) : foldE (notE (notE a)) = foldE a := by
  rw [fold_not, fold_not]
  have g := (fold_ok a ha).1
  have nf := fold_nf a
  generalize foldE a = f at *
  cases hc : qbh f with
  | true =>
    obtain ⟨v, sv, kv, rfl⟩ := qdh hc g
    rw [(qev sv kv).1]
    exact not_const _
  | false =>
    obtain ⟨o, n, s, l⟩ := f
    by_cases ho : o = 6
    · subst ho
      have hl : l ≠ [] := fun h => by
        subst h
        obtain ⟨ts, g1, g2⟩ := ty_mk g
        rw [tys] at g1; cases g1
        unfold tailT leafT at g2
        simp at g2
      obtain ⟨ts, g1, g2, g3, g4, -⟩ := qex g (by decide) hl
      obtain ⟨rfl, -⟩ := op6_ts g2 rfl
      obtain ⟨x, rfl, -⟩ := tys1 g1
      rcases g4 with g4 | g4
      · cases g4
      have hs := size_empty g4
      subst hs g3
      rw [not_top hc]
      have : notP 6 0 ByteArray.empty [.mk 6 0 ByteArray.empty [x]] = x := by unfold notP; simp
      rw [this]
      cases nf; assumption
    · rw [not_top hc]
      have e1 : notP 6 0 ByteArray.empty [.mk o n s l] = .mk 6 0 ByteArray.empty [.mk o n s l] := by unfold notP; simp [ho]
      rw [e1, not_top (by unfold qbh; simp [Ex.op])]
      unfold notP; simp
theorem fold_ifnn {cols : List Int} {a b c : Ex} (ha : ty [] cols [] a = some 2) : foldE (ifE (notE (notE a)) b c) = foldE (ifE a b c) := by
  rw [fold_if, fold_if, fold_nn ha]
theorem branch26 {cols : List Int} {a b c : Ex} {t : Int} (h : typeP [] cols [] (ifE a b c) = some t) (hp : parts (ifE a b c) ≤ 990) :
    qbn [] cols (ifE a b c) = (compP (rawP cols (foldE (ifE a b c))), 0) ∧
    qbn [] cols (ifE (eB 1) b c) = (compP (rawP cols (foldE b)), 0) ∧ qbn [] cols (ifE (eB 0) b c) = (compP (rawP cols (foldE c)), 0) ∧
    qbn [] cols b = (compP (rawP cols (foldE b)), 0) ∧ qbn [] cols c = (compP (rawP cols (foldE c)), 0) ∧
    (qbn [] cols (ifE (notE (notE a)) b c) = (zeroCd, 13) ∨ qbn [] cols (ifE (notE (notE a)) b c) = (compP (rawP cols (foldE (ifE a b c))), 0)) := by
  have hb1 : parts b < parts (ifE a b c) ∧ parts c < parts (ifE a b c) ∧ parts (ifE (eB 1) b c) ≤ parts (ifE a b c) ∧ parts (ifE (eB 0) b c) ≤ parts (ifE a b c) ∧ parts (ifE (notE (notE a)) b c) ≤ parts (ifE a b c) + 2 := by
    unfold ifE notE eB
    simp only [parts, qu]
    have : 1 ≤ parts a := by cases a; rw [parts]; omega
    omega
  obtain ⟨p1, p2, p3, p4, p5⟩ := hb1
  obtain ⟨-, -, h3, h4⟩ := qem h
  obtain ⟨g1, g2, g3⟩ := if_ty h3
  have l1 : levels b < levels (ifE a b c) := qed (by simp)
  have l2 : levels c < levels (ifE a b c) := qed (by simp)
  have l3 : ∀ n, levels (ifE (eB n) b c) ≤ levels (ifE a b c) := fun n => if_lev (by have := lev0 a; unfold eB; rw [levels, qv]; omega)
  have tt : ∀ n, n = 0 ∨ n = 1 → typeP [] cols [] (ifE (eB n) b c) = some t := fun n hn => by
    rw [typeP_nil, if_neg (by have := l3 n; omega)]
    exact if_ty2 h3 (ty_bool hn)
  refine ⟨?_, ?_, ?_, ?_, ?_, ?_⟩
  · rw [qco (by omega), h]
  · rw [qco (by omega), tt 1 (.inr rfl), fold_const (.inr rfl) g2 g3, if_pos rfl]
  · rw [qco (by omega), tt 0 (.inl rfl), fold_const (.inl rfl) g2 g3, if_neg (by decide)]
  · rw [qco (by omega), typeP_nil, if_neg (by omega), g2]
  · rw [qco (by omega), typeP_nil, if_neg (by omega), g3]
  · rw [qco (by omega)]
    cases typeP [] cols [] (ifE (notE (notE a)) b c) with
    | none => exact .inl rfl
    | some u => exact .inr (by rw [fold_ifnn g1])
theorem if_ev (time : Int) (row : List Val) (a b c : Ex) : evalP [] time row (ifE a b c) = if (evalP [] time row a).n = 1 then evalP [] time row b else evalP [] time row c := by
  unfold ifE evalP
  rw [ev, if_pos rfl, evs, evs, evs, evs]
  rfl
end Go.Proofs.YtnkimlkoijfcpaaDoor

/- Layer 26: programs of expressions without functions. -/
namespace Go.Proofs.YtnkimlkoijfcpaaDoor
open Go.RowKit Go.Lib
theorem inline_nil {e : Ex} (hp : parts e ≤ 1000) (h : levels e ≤ 12) : qcd [] e = some e := by
  unfold qcd inlB
  rw [inl_nil e hp]
  dsimp only
  rw [if_neg (by omega)]
theorem comp_nil {cols : List Int} {e : Ex} {t : Int} (h : typeP [] cols [] e = some t) (hp : parts e ≤ 1000) :
    CodOk (compP (rawP cols (foldE e))) cols ∧ ∀ time row, row.map Val.k = cols → (∀ v ∈ row, qbc v) → valC (compP (rawP cols (foldE e))) time row = evalP [] time row e := by
  obtain ⟨h1, h2, h3, h4⟩ := qem h
  have hy := inline_nil hp h4
  obtain ⟨g1, g2, g3, g4, g5⟩ := compile_typ h hy
  obtain ⟨k1, k2, -⟩ := comp_typ g3 g4
  refine ⟨k1, fun time row hk hs => ?_⟩
  rw [k2, comp_val h2 h3 hy g1 hk hs]
theorem val_neq26 (v : Val) : aeq Tryd.prog .neq 37 v.av v.av = some false := by
  simp only [aeq, aeqS, Val.q, Val.av, feq, feq1]
  simp
theorem n64_if {a b c : Ex} (ha : n64 a) (hb : n64 b) (hc : n64 c) : n64 (ifE a b c) := by
  have h0 : ByteArray.empty.size ≤ 9223372036854775807 := by decide
  unfold ifE
  simp [qcf, NS, I64, h0, ha, hb, hc]
theorem n64_not {a : Ex} (ha : n64 a) : n64 (notE a) := by
  have h0 : ByteArray.empty.size ≤ 9223372036854775807 := by decide
  unfold notE
  simp [qcf, NS, I64, h0, ha]
theorem n64_b {n : Int} (h : n = 0 ∨ n = 1) : n64 (eB n) := by
  have h0 : ByteArray.empty.size ≤ 9223372036854775807 := by decide
  unfold eB
  rcases h with rfl | rfl <;> simp [qcf, NS, I64, h0]
theorem slim_le {cols : List Int} {e : Ex} (h : light26 [] cols e = true) : parts e ≤ 300 ∧ cols.length ≤ 30 := by
  unfold light26 slimP at h
  simp only [Bool.and_eq_true, decide_eq_true_eq] at h
  exact ⟨h.2.2.2, h.2.1.2⟩
end Go.Proofs.YtnkimlkoijfcpaaDoor

/- Walk of the reference of layer 25: Same, of a program and itself. -/
namespace Go.Proofs.YtnkimlkoijfcpaaDoor
open Go.RowKit Go.Lib
set_option maxHeartbeats 4000000 in
theorem same25_g (c : Cod) (h1 : c.ins.length ≤ 1000000) (h2 : c.types.length ≤ 1000000) : Gives Tryd.prog 10 [c.av, c.av] (.bool true) := by
  obtain ⟨ins, types, out⟩ := c
  simp only at *
  have e0 : (out != out) = false := by simp
  have e1 : ((ins.length : Int) != ins.length) = false := by simp
  have e2 : ((types.length : Int) != types.length) = false := by simp
  refine qo Tryd.func10 Tryd.ntmps10 rfl rfl (by decide) rfl (by intro n; simp) fun σ n0 hcl hft => ?_
  repeat' (first | ((first | ((with_reducible refine qq (fun hg => ?_) (fun hg => ?_)) <;> (try simp only [hg]) <;> (try simp only [gS] at hg) <;> (try (first | simp only [eq_false hg, gI] | simp only [eq_true hg, gI]))) | (with_reducible first | refine qh ?_ | refine qg ?_ | refine ql ?_ | refine qk ?_) | refine qe ?_ | refine qi ?_ | refine qj ?_ | refine qm ?_) <;> (try simp (disch := first | omega | simp) [qc, -qr, -qba, e0, e1, e2])) | ((with_reducible refine sideT ?_ ?_); first | omega | assumption | (simp; done)) | (refine qf fun K hK => ?_) | (refine qa ?_) | (refine qb true (by kernel_rfl) (by kernel_rfl) ?_) | (refine qb false (by kernel_rfl) (by kernel_rfl) ?_) | (refine hK _ ?_; clear hK K) | (clear hK K; refine hK _ ?_; clear hK K) | (clear hK K; clear hK K; refine hK _ ?_; clear hK K) | refine qd ?_)
  refine qz hcl (fun k : Nat => [(2, .ptr n0 0), (3, .ptr (n0 + 1) 0), (5, .int k)]) (fun _ => [.cells [.sl (ins.map Ins.av), .sl (types.map AV.int), .int out] 31, .cells [.sl (ins.map Ins.av), .sl (types.map AV.int), .int out] 31])
    (fun k => k ≤ ins.length) (fun k => ins.length - k) 0 (by omega) (by simp) fun k hk => ?_
  by_cases hlt : k < ins.length
  · have hq : Ins.eqB ins[k] ins[k] = true := by simp [Ins.eqB]
    repeat' (first | ((first | ((with_reducible refine qq (fun hg => ?_) (fun hg => ?_)) <;> (try simp only [hg]) <;> (try simp only [gS] at hg) <;> (try (first | simp only [eq_false hg, gI] | simp only [eq_true hg, gI]))) | (with_reducible first | refine qh ?_ | refine qg ?_ | refine ql ?_ | refine qk ?_) | refine qe ?_ | refine qi ?_ | refine qj ?_ | refine qm ?_) <;> (try simp (disch := first | omega | simp) [qc, -qr, -qba, hlt, hq])) | ((with_reducible refine sideT ?_ ?_); first | omega | assumption | (simp; done)) | (refine qf fun K hK => ?_) | (refine qa ?_) | (refine qb true (by kernel_rfl) (by kernel_rfl) ?_) | (refine qb false (by kernel_rfl) (by kernel_rfl) ?_) | (refine hK _ ?_; clear hK K) | (clear hK K; refine hK _ ?_; clear hK K) | (clear hK K; clear hK K; refine hK _ ?_; clear hK K) | refine qd ?_)
    exact ⟨k + 1, by omega, by omega, by simp⟩
  · repeat' (first | ((first | ((with_reducible refine qq (fun hg => ?_) (fun hg => ?_)) <;> (try simp only [hg]) <;> (try simp only [gS] at hg) <;> (try (first | simp only [eq_false hg, gI] | simp only [eq_true hg, gI]))) | (with_reducible first | refine qh ?_ | refine qg ?_ | refine ql ?_ | refine qk ?_) | refine qe ?_ | refine qi ?_ | refine qj ?_ | refine qm ?_) <;> (try simp (disch := first | omega | simp) [qc, -qr, -qba, hlt])) | ((with_reducible refine sideT ?_ ?_); first | omega | assumption | (simp; done)) | (refine qf fun K hK => ?_) | (refine qa ?_) | (refine qb true (by kernel_rfl) (by kernel_rfl) ?_) | (refine qb false (by kernel_rfl) (by kernel_rfl) ?_) | (refine hK _ ?_; clear hK K) | (clear hK K; refine hK _ ?_; clear hK K) | (clear hK K; clear hK K; refine hK _ ?_; clear hK K) | refine qd ?_)
    refine qz hcl (fun k : Nat => [(2, .ptr n0 0), (3, .ptr (n0 + 1) 0), (6, .int k)]) (fun _ => [.cells [.sl (ins.map Ins.av), .sl (types.map AV.int), .int out] 31, .cells [.sl (ins.map Ins.av), .sl (types.map AV.int), .int out] 31])
      (fun k => k ≤ types.length) (fun k => types.length - k) 0 (by omega) (by simp) fun k hk => ?_
    by_cases hlt : k < types.length
    · have hq : (types[k] != types[k]) = false := by simp
      repeat' (first | ((first | ((with_reducible refine qq (fun hg => ?_) (fun hg => ?_)) <;> (try simp only [hg]) <;> (try simp only [gS] at hg) <;> (try (first | simp only [eq_false hg, gI] | simp only [eq_true hg, gI]))) | (with_reducible first | refine qh ?_ | refine qg ?_ | refine ql ?_ | refine qk ?_) | refine qe ?_ | refine qi ?_ | refine qj ?_ | refine qm ?_) <;> (try simp (disch := first | omega | simp) [qc, -qr, -qba, hlt, hq])) | ((with_reducible refine sideT ?_ ?_); first | omega | assumption | (simp; done)) | (refine qf fun K hK => ?_) | (refine qa ?_) | (refine qb true (by kernel_rfl) (by kernel_rfl) ?_) | (refine qb false (by kernel_rfl) (by kernel_rfl) ?_) | (refine hK _ ?_; clear hK K) | (clear hK K; refine hK _ ?_; clear hK K) | (clear hK K; clear hK K; refine hK _ ?_; clear hK K) | refine qd ?_)
      exact ⟨k + 1, by omega, by omega, by simp⟩
    · repeat' (first | ((first | ((with_reducible refine qq (fun hg => ?_) (fun hg => ?_)) <;> (try simp only [hg]) <;> (try simp only [gS] at hg) <;> (try (first | simp only [eq_false hg, gI] | simp only [eq_true hg, gI]))) | (with_reducible first | refine qh ?_ | refine qg ?_ | refine ql ?_ | refine qk ?_) | refine qe ?_ | refine qi ?_ | refine qj ?_ | refine qm ?_) <;> (try simp (disch := first | omega | simp) [qc, -qr, -qba, hlt])) | ((with_reducible refine sideT ?_ ?_); first | omega | assumption | (simp; done)) | (refine qf fun K hK => ?_) | (refine qa ?_) | (refine qb true (by kernel_rfl) (by kernel_rfl) ?_) | (refine qb false (by kernel_rfl) (by kernel_rfl) ?_) | (refine hK _ ?_; clear hK K) | (clear hK K; refine hK _ ?_; clear hK K) | (clear hK K; clear hK K; refine hK _ ?_; clear hK K) | refine qd ?_)
end Go.Proofs.YtnkimlkoijfcpaaDoor

/- Walk of layer 26: the law CompileBranches. -/
namespace Go.Proofs.YtnkimlkoijfcpaaDoor
open Go.RowKit Go.Lib
set_option maxRecDepth 100000 in
set_option maxHeartbeats 16000000 in
theorem branches26_g (cols : List Int) (a b c : Ex) (time : Int) (row : List Val) (ha : parts a ≤ 1000000) (hb : parts b ≤ 1000000) (hc : parts c ≤ 1000000) (hr : row.length ≤ 1000000) (na : n64 a) (nb : n64 b) (nc : n64 c) :
    Gives Tryd.prog 3 [.sl (cols.map AV.int), a.av, b.av, c.av, .int time, .sl (row.map Val.av)] (.bool true) := by
  have csm := small26_g
  have la := light26_g [] cols a (by simp) (by simp) ha
  have lb := light26_g [] cols b (by simp) (by simp) hb
  have lc := light26_g [] cols c (by simp) (by simp) hc
  simp only [List.map_nil] at la lb lc
  cases ea : light26 [] cols a with
  | false =>
    rw [ea] at la
    refine qo Tryd.func3 Tryd.ntmps3 rfl rfl (by decide) rfl (by intro n; simp) fun σ n0 hcl hft => ?_
    repeat' (first | ((first | ((with_reducible refine qq (fun hg => ?_) (fun hg => ?_)) <;> (try simp only [hg]) <;> (try simp only [gS] at hg) <;> (try (first | simp only [eq_false hg, gI] | simp only [eq_true hg, gI]))) | (with_reducible first | refine qh ?_ | refine qg ?_ | refine ql ?_ | refine qk ?_) | refine acall (csm) ?_ | refine qp (csm) ?_ | refine qn (csm) ?_ | refine acall (la) ?_ | refine qp (la) ?_ | refine qn (la) ?_ | refine qe ?_ | refine qi ?_ | refine qj ?_ | refine qm ?_) <;> (try simp (disch := first | omega | simp) [qc, -qr, -qba])) | ((with_reducible refine sideT ?_ ?_); first | omega | assumption | (simp; done)) | (refine qf fun K hK => ?_) | (refine qa ?_) | (refine qb true (by kernel_rfl) (by kernel_rfl) ?_) | (refine qb false (by kernel_rfl) (by kernel_rfl) ?_) | (refine hK _ ?_; clear hK K) | (clear hK K; refine hK _ ?_; clear hK K) | (clear hK K; clear hK K; refine hK _ ?_; clear hK K) | refine qd ?_)
  | true =>
  cases eb : light26 [] cols b with
  | false =>
    rw [ea] at la
    rw [eb] at lb
    refine qo Tryd.func3 Tryd.ntmps3 rfl rfl (by decide) rfl (by intro n; simp) fun σ n0 hcl hft => ?_
    repeat' (first | ((first | ((with_reducible refine qq (fun hg => ?_) (fun hg => ?_)) <;> (try simp only [hg]) <;> (try simp only [gS] at hg) <;> (try (first | simp only [eq_false hg, gI] | simp only [eq_true hg, gI]))) | (with_reducible first | refine qh ?_ | refine qg ?_ | refine ql ?_ | refine qk ?_) | refine acall (csm) ?_ | refine qp (csm) ?_ | refine qn (csm) ?_ | refine acall (la) ?_ | refine qp (la) ?_ | refine qn (la) ?_ | refine acall (lb) ?_ | refine qp (lb) ?_ | refine qn (lb) ?_ | refine qe ?_ | refine qi ?_ | refine qj ?_ | refine qm ?_) <;> (try simp (disch := first | omega | simp) [qc, -qr, -qba])) | ((with_reducible refine sideT ?_ ?_); first | omega | assumption | (simp; done)) | (refine qf fun K hK => ?_) | (refine qa ?_) | (refine qb true (by kernel_rfl) (by kernel_rfl) ?_) | (refine qb false (by kernel_rfl) (by kernel_rfl) ?_) | (refine hK _ ?_; clear hK K) | (clear hK K; refine hK _ ?_; clear hK K) | (clear hK K; clear hK K; refine hK _ ?_; clear hK K) | refine qd ?_)
  | true =>
  cases ec : light26 [] cols c with
  | false =>
    rw [ea] at la
    rw [eb] at lb
    rw [ec] at lc
    refine qo Tryd.func3 Tryd.ntmps3 rfl rfl (by decide) rfl (by intro n; simp) fun σ n0 hcl hft => ?_
    repeat' (first | ((first | ((with_reducible refine qq (fun hg => ?_) (fun hg => ?_)) <;> (try simp only [hg]) <;> (try simp only [gS] at hg) <;> (try (first | simp only [eq_false hg, gI] | simp only [eq_true hg, gI]))) | (with_reducible first | refine qh ?_ | refine qg ?_ | refine ql ?_ | refine qk ?_) | refine acall (csm) ?_ | refine qp (csm) ?_ | refine qn (csm) ?_ | refine acall (la) ?_ | refine qp (la) ?_ | refine qn (la) ?_ | refine acall (lb) ?_ | refine qp (lb) ?_ | refine qn (lb) ?_ | refine acall (lc) ?_ | refine qp (lc) ?_ | refine qn (lc) ?_ | refine qe ?_ | refine qi ?_ | refine qj ?_ | refine qm ?_) <;> (try simp (disch := first | omega | simp) [qc, -qr, -qba])) | ((with_reducible refine sideT ?_ ?_); first | omega | assumption | (simp; done)) | (refine qf fun K hK => ?_) | (refine qa ?_) | (refine qb true (by kernel_rfl) (by kernel_rfl) ?_) | (refine qb false (by kernel_rfl) (by kernel_rfl) ?_) | (refine hK _ ?_; clear hK K) | (clear hK K; refine hK _ ?_; clear hK K) | (clear hK K; clear hK K; refine hK _ ?_; clear hK K) | refine qd ?_)
  | true =>
  rw [ea] at la
  rw [eb] at lb
  rw [ec] at lc
  obtain ⟨pa, hcols⟩ := slim_le ea
  have pb := (slim_le eb).1
  have pc := (slim_le ec).1
  by_cases hr30 : row.length ≤ 30
  · have hr30b : ¬ (30 : Int) < row.length := by omega
    have b1 : parts (ifE a b c) ≤ 901 := by unfold ifE; simp only [parts, qu]; omega
    have b2 : ∀ n, parts (ifE (eB n) b c) ≤ 990 := fun n => by unfold ifE eB; simp only [parts, qu]; omega
    have b3 : parts (ifE (notE (notE a)) b c) ≤ 990 := by unfold ifE notE; simp only [parts, qu]; omega
    have ce := qcn [] cols (ifE a b c) (by simp) (by simp) (by omega) (by omega) (n64_if na nb nc) (by simp)
    have cy := qcn [] cols (ifE (eB 1) b c) (by simp) (by simp) (by omega) (b2 1) (n64_if (n64_b (.inr rfl)) nb nc) (by simp)
    have cn := qcn [] cols (ifE (eB 0) b c) (by simp) (by simp) (by omega) (b2 0) (n64_if (n64_b (.inl rfl)) nb nc) (by simp)
    have cb := qcn [] cols b (by simp) (by simp) (by omega) (by omega) nb (by simp)
    have cc := qcn [] cols c (by simp) (by simp) (by omega) (by omega) nc (by simp)
    have cz := qcn [] cols (ifE (notE (notE a)) b c) (by simp) (by simp) (by omega) b3 (n64_if (n64_not (n64_not na)) nb nc) (by simp)
    cases ht : typeP [] cols [] (ifE a b c) with
    | none =>
      rw [qco (by omega), ht] at ce
      simp only [ifE, Ex.av_mk, List.map_cons, List.map_nil, zeroCd, Cod.av] at ce
      refine qo Tryd.func3 Tryd.ntmps3 rfl rfl (by decide) rfl (by intro n; simp) fun σ n0 hcl hft => ?_
      repeat' (first | ((first | ((with_reducible refine qq (fun hg => ?_) (fun hg => ?_)) <;> (try simp only [hg]) <;> (try simp only [gS] at hg) <;> (try (first | simp only [eq_false hg, gI] | simp only [eq_true hg, gI]))) | (with_reducible first | refine qh ?_ | refine qg ?_ | refine ql ?_ | refine qk ?_) | refine acall (csm) ?_ | refine qp (csm) ?_ | refine qn (csm) ?_ | refine acall (la) ?_ | refine qp (la) ?_ | refine qn (la) ?_ | refine acall (lb) ?_ | refine qp (lb) ?_ | refine qn (lb) ?_ | refine acall (lc) ?_ | refine qp (lc) ?_ | refine qn (lc) ?_ | refine acall (ce) ?_ | refine qp (ce) ?_ | refine qn (ce) ?_ | refine qe ?_ | refine qi ?_ | refine qj ?_ | refine qm ?_) <;> (try simp (disch := first | omega | simp) [qc, -qr, -qba, hr30b])) | ((with_reducible refine sideT ?_ ?_); first | omega | assumption | (simp; done)) | (refine qf fun K hK => ?_) | (refine qa ?_) | (refine qb true (by kernel_rfl) (by kernel_rfl) ?_) | (refine qb false (by kernel_rfl) (by kernel_rfl) ?_) | (refine hK _ ?_; clear hK K) | (clear hK K; refine hK _ ?_; clear hK K) | (clear hK K; clear hK K; refine hK _ ?_; clear hK K) | refine qd ?_)
    | some t =>
      obtain ⟨q1, q2, q3, q4, q5, q6⟩ := branch26 ht (by omega)
      obtain ⟨-, -, h3, h4⟩ := qem ht
      obtain ⟨g1, g2, g3⟩ := if_ty h3
      have l1 : levels b < levels (ifE a b c) := qed (by simp)
      have l2 : levels c < levels (ifE a b c) := qed (by simp)
      obtain ⟨k1, k2⟩ := comp_nil ht (by omega)
      obtain ⟨kb, -⟩ := comp_nil (cols := cols) (e := b) (t := t) (by rw [typeP_nil, if_neg (by omega), g2]) (by omega)
      obtain ⟨kc, -⟩ := comp_nil (cols := cols) (e := c) (t := t) (by rw [typeP_nil, if_neg (by omega), g3]) (by omega)
      rw [q1] at ce
      rw [q2] at cy
      rw [q3] at cn
      rw [q4] at cb
      rw [q5] at cc
      have sb := same25_g (compP (rawP cols (foldE b))) (by have := kb.ni; omega) (by have := kb.nt; omega)
      have sc := same25_g (compP (rawP cols (foldE c))) (by have := kc.ni; omega) (by have := kc.nt; omega)
      have se := same25_g (compP (rawP cols (foldE (ifE a b c)))) (by have := k1.ni; omega) (by have := k1.nt; omega)
      have cf := fits26_g row cols hr
      clear q1 q2 q3 q4 q5
      generalize qbn [] cols (ifE (notE (notE a)) b c) = Z at *
      generalize compP (rawP cols (foldE (ifE a b c))) = C at *
      generalize compP (rawP cols (foldE b)) = B at *
      generalize compP (rawP cols (foldE c)) = D at *
      simp only [ifE, eB, notE, Ex.av_mk, List.map_cons, List.map_nil] at ce cy cn cb cc cz
      cases hfit : fits26 cols row with
      | false =>
        rw [hfit] at cf
        obtain ⟨ins, types, out⟩ := C
        simp only [Cod.av] at ce
        refine qo Tryd.func3 Tryd.ntmps3 rfl rfl (by decide) rfl (by intro n; simp) fun σ n0 hcl hft => ?_
        repeat' (first | ((first | ((with_reducible refine qq (fun hg => ?_) (fun hg => ?_)) <;> (try simp only [hg]) <;> (try simp only [gS] at hg) <;> (try (first | simp only [eq_false hg, gI] | simp only [eq_true hg, gI]))) | (with_reducible first | refine qh ?_ | refine qg ?_ | refine ql ?_ | refine qk ?_) | refine acall (csm) ?_ | refine qp (csm) ?_ | refine qn (csm) ?_ | refine acall (la) ?_ | refine qp (la) ?_ | refine qn (la) ?_ | refine acall (lb) ?_ | refine qp (lb) ?_ | refine qn (lb) ?_ | refine acall (lc) ?_ | refine qp (lc) ?_ | refine qn (lc) ?_ | refine acall (ce) ?_ | refine qp (ce) ?_ | refine qn (ce) ?_ | refine acall (cf) ?_ | refine qp (cf) ?_ | refine qn (cf) ?_ | refine qe ?_ | refine qi ?_ | refine qj ?_ | refine qm ?_) <;> (try simp (disch := first | omega | simp) [qc, -qr, -qba, hr30b])) | ((with_reducible refine sideT ?_ ?_); first | omega | assumption | (simp; done)) | (refine qf fun K hK => ?_) | (refine qa ?_) | (refine qb true (by kernel_rfl) (by kernel_rfl) ?_) | (refine qb false (by kernel_rfl) (by kernel_rfl) ?_) | (refine hK _ ?_; clear hK K) | (clear hK K; refine hK _ ?_; clear hK K) | (clear hK K; clear hK K; refine hK _ ?_; clear hK K) | refine qd ?_)
      | true =>
        rw [hfit] at cf
        obtain ⟨f1, f2, f3⟩ := fits26_fit hfit
        have cr := run26_g k1 time f1
        rw [k2 time row f2 f3, if_ev] at cr
        have va := qea [] time row a _ (by simp) (by simp) (by omega) g1 f1
        have vb := qea [] time row b _ (by simp) (by simp) (by omega) g2 f1
        have vc := qea [] time row c _ (by simp) (by simp) (by omega) g3 f1
        simp only [List.map_nil] at va vb vc
        generalize evalP [] time row a = A at *
        generalize evalP [] time row b = X at *
        generalize evalP [] time row c = Y at *
        have hx := val_neq26 X
        have hy := val_neq26 Y
        have sx := rsame03_g [X] (by simp)
        have sy := rsame03_g [Y] (by simp)
        simp only [List.map_cons, List.map_nil] at sx sy
        have hva : A.av = .agg [.int A.k, .int A.n, .str A.s] := rfl
        rw [hva] at va
        have hvy : AV.agg [.int Y.k, .int Y.n, .str Y.s] = Y.av := rfl
        by_cases hA : A.n = 1
        · rw [if_pos hA] at cr
          rcases q6 with rfl | rfl
          · simp only [zeroCd, Cod.av, List.map_nil] at cz
            refine qo Tryd.func3 Tryd.ntmps3 rfl rfl (by decide) rfl (by intro n; simp) fun σ n0 hcl hft => ?_
            repeat' (first | ((first | ((with_reducible refine qq (fun hg => ?_) (fun hg => ?_)) <;> (try simp only [hg]) <;> (try simp only [gS] at hg) <;> (try (first | simp only [eq_false hg, gI] | simp only [eq_true hg, gI]))) | (with_reducible first | refine qh ?_ | refine qg ?_ | refine ql ?_ | refine qk ?_) | refine acall (csm) ?_ | refine qp (csm) ?_ | refine qn (csm) ?_ | refine acall (la) ?_ | refine qp (la) ?_ | refine qn (la) ?_ | refine acall (lb) ?_ | refine qp (lb) ?_ | refine qn (lb) ?_ | refine acall (lc) ?_ | refine qp (lc) ?_ | refine qn (lc) ?_ | refine acall (ce) ?_ | refine qp (ce) ?_ | refine qn (ce) ?_ | refine acall (cf) ?_ | refine qp (cf) ?_ | refine qn (cf) ?_ | refine acall (va) ?_ | refine qp (va) ?_ | refine qn (va) ?_ | refine acall (vb) ?_ | refine qp (vb) ?_ | refine qn (vb) ?_ | refine acall (vc) ?_ | refine qp (vc) ?_ | refine qn (vc) ?_ | refine acall (cy) ?_ | refine qp (cy) ?_ | refine qn (cy) ?_ | refine acall (cn) ?_ | refine qp (cn) ?_ | refine qn (cn) ?_ | refine acall (cb) ?_ | refine qp (cb) ?_ | refine qn (cb) ?_ | refine acall (cc) ?_ | refine qp (cc) ?_ | refine qn (cc) ?_ | refine acall (cr) ?_ | refine qp (cr) ?_ | refine qn (cr) ?_ | refine acall (sb) ?_ | refine qp (sb) ?_ | refine qn (sb) ?_ | refine acall (sc) ?_ | refine qp (sc) ?_ | refine qn (sc) ?_ | refine acall (cz) ?_ | refine qp (cz) ?_ | refine qn (cz) ?_ | refine acall (sx) ?_ | refine qp (sx) ?_ | refine qn (sx) ?_ | refine qe ?_ | refine qi ?_ | refine qj ?_ | refine qm ?_) <;> (try simp (disch := first | omega | simp) [qc, -qr, -qba, hr30b, hA, hx])) | ((with_reducible refine sideT ?_ ?_); first | omega | assumption | (simp; done)) | (refine qf fun K hK => ?_) | (refine qa ?_) | (refine qb true (by kernel_rfl) (by kernel_rfl) ?_) | (refine qb false (by kernel_rfl) (by kernel_rfl) ?_) | (refine hK _ ?_; clear hK K) | (clear hK K; refine hK _ ?_; clear hK K) | (clear hK K; clear hK K; refine hK _ ?_; clear hK K) | refine qd ?_)
          · refine qo Tryd.func3 Tryd.ntmps3 rfl rfl (by decide) rfl (by intro n; simp) fun σ n0 hcl hft => ?_
            repeat' (first | ((first | ((with_reducible refine qq (fun hg => ?_) (fun hg => ?_)) <;> (try simp only [hg]) <;> (try simp only [gS] at hg) <;> (try (first | simp only [eq_false hg, gI] | simp only [eq_true hg, gI]))) | (with_reducible first | refine qh ?_ | refine qg ?_ | refine ql ?_ | refine qk ?_) | refine acall (csm) ?_ | refine qp (csm) ?_ | refine qn (csm) ?_ | refine acall (la) ?_ | refine qp (la) ?_ | refine qn (la) ?_ | refine acall (lb) ?_ | refine qp (lb) ?_ | refine qn (lb) ?_ | refine acall (lc) ?_ | refine qp (lc) ?_ | refine qn (lc) ?_ | refine acall (ce) ?_ | refine qp (ce) ?_ | refine qn (ce) ?_ | refine acall (cf) ?_ | refine qp (cf) ?_ | refine qn (cf) ?_ | refine acall (va) ?_ | refine qp (va) ?_ | refine qn (va) ?_ | refine acall (vb) ?_ | refine qp (vb) ?_ | refine qn (vb) ?_ | refine acall (vc) ?_ | refine qp (vc) ?_ | refine qn (vc) ?_ | refine acall (cy) ?_ | refine qp (cy) ?_ | refine qn (cy) ?_ | refine acall (cn) ?_ | refine qp (cn) ?_ | refine qn (cn) ?_ | refine acall (cb) ?_ | refine qp (cb) ?_ | refine qn (cb) ?_ | refine acall (cc) ?_ | refine qp (cc) ?_ | refine qn (cc) ?_ | refine acall (cr) ?_ | refine qp (cr) ?_ | refine qn (cr) ?_ | refine acall (sb) ?_ | refine qp (sb) ?_ | refine qn (sb) ?_ | refine acall (sc) ?_ | refine qp (sc) ?_ | refine qn (sc) ?_ | refine acall (se) ?_ | refine qp (se) ?_ | refine qn (se) ?_ | refine acall (cz) ?_ | refine qp (cz) ?_ | refine qn (cz) ?_ | refine acall (sx) ?_ | refine qp (sx) ?_ | refine qn (sx) ?_ | refine qe ?_ | refine qi ?_ | refine qj ?_ | refine qm ?_) <;> (try simp (disch := first | omega | simp) [qc, -qr, -qba, hr30b, hA, hx])) | ((with_reducible refine sideT ?_ ?_); first | omega | assumption | (simp; done)) | (refine qf fun K hK => ?_) | (refine qa ?_) | (refine qb true (by kernel_rfl) (by kernel_rfl) ?_) | (refine qb false (by kernel_rfl) (by kernel_rfl) ?_) | (refine hK _ ?_; clear hK K) | (clear hK K; refine hK _ ?_; clear hK K) | (clear hK K; clear hK K; refine hK _ ?_; clear hK K) | refine qd ?_)
        · rw [if_neg hA] at cr
          have hAb : (A.n == 1) = false := by simp [hA]
          rcases q6 with rfl | rfl
          · simp only [zeroCd, Cod.av, List.map_nil] at cz
            refine qo Tryd.func3 Tryd.ntmps3 rfl rfl (by decide) rfl (by intro n; simp) fun σ n0 hcl hft => ?_
            repeat' (first | ((first | ((with_reducible refine qq (fun hg => ?_) (fun hg => ?_)) <;> (try simp only [hg]) <;> (try simp only [gS] at hg) <;> (try (first | simp only [eq_false hg, gI] | simp only [eq_true hg, gI]))) | (with_reducible first | refine qh ?_ | refine qg ?_ | refine ql ?_ | refine qk ?_) | refine acall (csm) ?_ | refine qp (csm) ?_ | refine qn (csm) ?_ | refine acall (la) ?_ | refine qp (la) ?_ | refine qn (la) ?_ | refine acall (lb) ?_ | refine qp (lb) ?_ | refine qn (lb) ?_ | refine acall (lc) ?_ | refine qp (lc) ?_ | refine qn (lc) ?_ | refine acall (ce) ?_ | refine qp (ce) ?_ | refine qn (ce) ?_ | refine acall (cf) ?_ | refine qp (cf) ?_ | refine qn (cf) ?_ | refine acall (va) ?_ | refine qp (va) ?_ | refine qn (va) ?_ | refine acall (vb) ?_ | refine qp (vb) ?_ | refine qn (vb) ?_ | refine acall (vc) ?_ | refine qp (vc) ?_ | refine qn (vc) ?_ | refine acall (cy) ?_ | refine qp (cy) ?_ | refine qn (cy) ?_ | refine acall (cn) ?_ | refine qp (cn) ?_ | refine qn (cn) ?_ | refine acall (cb) ?_ | refine qp (cb) ?_ | refine qn (cb) ?_ | refine acall (cc) ?_ | refine qp (cc) ?_ | refine qn (cc) ?_ | refine acall (cr) ?_ | refine qp (cr) ?_ | refine qn (cr) ?_ | refine acall (sb) ?_ | refine qp (sb) ?_ | refine qn (sb) ?_ | refine acall (sc) ?_ | refine qp (sc) ?_ | refine qn (sc) ?_ | refine acall (cz) ?_ | refine qp (cz) ?_ | refine qn (cz) ?_ | refine acall (sy) ?_ | refine qp (sy) ?_ | refine qn (sy) ?_ | refine qe ?_ | refine qi ?_ | refine qj ?_ | refine qm ?_) <;> (try simp (disch := first | omega | simp) [qc, -qr, -qba, hr30b, hA, hAb, hy, -Val.av_fold, hva, hvy])) | ((with_reducible refine sideT ?_ ?_); first | omega | assumption | (simp; done)) | (refine qf fun K hK => ?_) | (refine qa ?_) | (refine qb true (by kernel_rfl) (by kernel_rfl) ?_) | (refine qb false (by kernel_rfl) (by kernel_rfl) ?_) | (refine hK _ ?_; clear hK K) | (clear hK K; refine hK _ ?_; clear hK K) | (clear hK K; clear hK K; refine hK _ ?_; clear hK K) | refine qd ?_)
          · refine qo Tryd.func3 Tryd.ntmps3 rfl rfl (by decide) rfl (by intro n; simp) fun σ n0 hcl hft => ?_
            repeat' (first | ((first | ((with_reducible refine qq (fun hg => ?_) (fun hg => ?_)) <;> (try simp only [hg]) <;> (try simp only [gS] at hg) <;> (try (first | simp only [eq_false hg, gI] | simp only [eq_true hg, gI]))) | (with_reducible first | refine qh ?_ | refine qg ?_ | refine ql ?_ | refine qk ?_) | refine acall (csm) ?_ | refine qp (csm) ?_ | refine qn (csm) ?_ | refine acall (la) ?_ | refine qp (la) ?_ | refine qn (la) ?_ | refine acall (lb) ?_ | refine qp (lb) ?_ | refine qn (lb) ?_ | refine acall (lc) ?_ | refine qp (lc) ?_ | refine qn (lc) ?_ | refine acall (ce) ?_ | refine qp (ce) ?_ | refine qn (ce) ?_ | refine acall (cf) ?_ | refine qp (cf) ?_ | refine qn (cf) ?_ | refine acall (va) ?_ | refine qp (va) ?_ | refine qn (va) ?_ | refine acall (vb) ?_ | refine qp (vb) ?_ | refine qn (vb) ?_ | refine acall (vc) ?_ | refine qp (vc) ?_ | refine qn (vc) ?_ | refine acall (cy) ?_ | refine qp (cy) ?_ | refine qn (cy) ?_ | refine acall (cn) ?_ | refine qp (cn) ?_ | refine qn (cn) ?_ | refine acall (cb) ?_ | refine qp (cb) ?_ | refine qn (cb) ?_ | refine acall (cc) ?_ | refine qp (cc) ?_ | refine qn (cc) ?_ | refine acall (cr) ?_ | refine qp (cr) ?_ | refine qn (cr) ?_ | refine acall (sb) ?_ | refine qp (sb) ?_ | refine qn (sb) ?_ | refine acall (sc) ?_ | refine qp (sc) ?_ | refine qn (sc) ?_ | refine acall (se) ?_ | refine qp (se) ?_ | refine qn (se) ?_ | refine acall (cz) ?_ | refine qp (cz) ?_ | refine qn (cz) ?_ | refine acall (sy) ?_ | refine qp (sy) ?_ | refine qn (sy) ?_ | refine qe ?_ | refine qi ?_ | refine qj ?_ | refine qm ?_) <;> (try simp (disch := first | omega | simp) [qc, -qr, -qba, hr30b, hA, hAb, hy, -Val.av_fold, hva, hvy])) | ((with_reducible refine sideT ?_ ?_); first | omega | assumption | (simp; done)) | (refine qf fun K hK => ?_) | (refine qa ?_) | (refine qb true (by kernel_rfl) (by kernel_rfl) ?_) | (refine qb false (by kernel_rfl) (by kernel_rfl) ?_) | (refine hK _ ?_; clear hK K) | (clear hK K; refine hK _ ?_; clear hK K) | (clear hK K; clear hK K; refine hK _ ?_; clear hK K) | refine qd ?_)
  · have hr30b : (30 : Int) < row.length := by omega
    refine qo Tryd.func3 Tryd.ntmps3 rfl rfl (by decide) rfl (by intro n; simp) fun σ n0 hcl hft => ?_
    repeat' (first | ((first | ((with_reducible refine qq (fun hg => ?_) (fun hg => ?_)) <;> (try simp only [hg]) <;> (try simp only [gS] at hg) <;> (try (first | simp only [eq_false hg, gI] | simp only [eq_true hg, gI]))) | (with_reducible first | refine qh ?_ | refine qg ?_ | refine ql ?_ | refine qk ?_) | refine acall (csm) ?_ | refine qp (csm) ?_ | refine qn (csm) ?_ | refine acall (la) ?_ | refine qp (la) ?_ | refine qn (la) ?_ | refine acall (lb) ?_ | refine qp (lb) ?_ | refine qn (lb) ?_ | refine acall (lc) ?_ | refine qp (lc) ?_ | refine qn (lc) ?_ | refine qe ?_ | refine qi ?_ | refine qj ?_ | refine qm ?_) <;> (try simp (disch := first | omega | simp) [qc, -qr, -qba, hr30b])) | ((with_reducible refine sideT ?_ ?_); first | omega | assumption | (simp; done)) | (refine qf fun K hK => ?_) | (refine qa ?_) | (refine qb true (by kernel_rfl) (by kernel_rfl) ?_) | (refine qb false (by kernel_rfl) (by kernel_rfl) ?_) | (refine hK _ ?_; clear hK K) | (clear hK K; refine hK _ ?_; clear hK K) | (clear hK K; clear hK K; refine hK _ ?_; clear hK K) | refine qd ?_)
end Go.Proofs.YtnkimlkoijfcpaaDoor

/- The law CompileBranches where what it reads is of bulk at most 1048576, lifted: the row and the tied card. -/
namespace Go.Proofs.YtnkimlkoijfcpaaDoor
open Go.ChangeShapes Go.WideShapes Go.ChangeAt Go.RowKit Go.Lib
noncomputable def branches26W (os : Os) : World := World.laidAll Tryd.prog os Rows.compileBranchesUptoRow.laid
def qeq : Array Value := #[.slice .none 0 0, .agg #[.int .i64 0, .int .i64 0, .string ByteArray.empty, .slice .none 0 0], .agg #[.int .i64 0, .int .i64 0, .string ByteArray.empty, .slice .none 0 0], .agg #[.int .i64 0, .int .i64 0, .string ByteArray.empty, .slice .none 0 0], .int .i64 0, .slice .none 0 0]
theorem branches26_reads (os : Os) {H : Type} (enc : TypeId × Value → H) : ∃ places, DataW.whole enc Tryd.prog ((branches26W os).forCall (fun _ _ => 0) ⟨#[], qeq, []⟩).memory Tryd.f3.params.toList Rows.compileBranchesSpec.vars false qeq.toList 8 = some ([.nil, .agg [.lit (.int .i64 0), .lit (.int .i64 0), .lit (.string []), .nil], .agg [.lit (.int .i64 0), .lit (.int .i64 0), .lit (.string []), .nil], .agg [.lit (.int .i64 0), .lit (.int .i64 0), .lit (.string []), .nil], .lit (.int .i64 0), .nil], [], places) :=
  ⟨[], by kernel_rfl⟩
theorem branches26_laid (os : Os) : laidMet Tryd.prog Rows.compileBranchesUptoRow.laid ((branches26W os).forCall (fun _ _ => 0) ⟨#[], qeq, []⟩).memory :=
  laidMet_of_run' 8 (by kernel_rfl) (by kernel_rfl)
set_option maxRecDepth 100000 in
theorem branches26_lifted (os : Os) (started : os.Started) (H : Type) (enc : TypeId × Value → H) (F : Stop.Interp) :
    ReturnsInHanded {} Tryd.checked os 3 .any ((Rows.OpenSpec.upto Rows.compileBranchesSpec).preRow enc Tryd.prog Tryd.f3 Rows.compileBranchesUptoRow.domain false Rows.compileBranchesUptoRow.laid) (((Rows.OpenSpec.upto Rows.compileBranchesSpec).at F).post enc Tryd.prog Tryd.f3 false true false false) := by
  obtain ⟨places, hx⟩ := branches26_reads os enc
  refine returnsInHanded_of_row (C := Tryd.checked) (s := Rows.OpenSpec.upto Rows.compileBranchesSpec) Tryd.own started (by kernel_rfl) Tryd.func3
    (witness_row_at (enc := enc) (C := Tryd.checked) false (branches26W os) qeq (World.laidAll_os _ _ _) (by kernel_rfl) (by kernel_rfl) (by kernel_rfl)
      (OpenSpec.preRow_of_cond 8 hx (by kernel_rfl) (fun k hk => by cases hk; kernel_rfl) (by kernel_rfl) (branches26_laid os))) ?_
  intro W base args ds gs before hval0 hW _ hcond _ hlaid _ _
  rw [MakeChecks.laidMetH_plain _ _ _ (by kernel_rfl)] at hlaid
  have hglob := glob27 hlaid (by simp [Rows.compileBranchesUptoRow])
  have hval : ∀ (j : Nat) t v, Tryd.f3.params[j]? = some t → args[j]? = some v → Value.okWide Tryd.prog W .any base t v := hval0
  have hW' := hW
  obtain ⟨p, q, hA0, hV, rfl, hfz, hnd⟩ := hW
  have hA : DataW.TrodAll enc Tryd.prog W 0 (fun _ => true) true Tryd.f3.params.toList args.toList ds p := hA0
  rw [Tryd.params3] at hA hval
  obtain ⟨v0, v1, v2, v3, v4, v5, d0, d1, d2, d3, d4, d5, p0, p1, p2, p3, p4, p5, rfl, rfl, rfl, h0, h1, h2, h3, h4, h5⟩ := trodAll_6_02 hA
  obtain ⟨rfl, rfl⟩ := trodVars_none hV
  have hb0 : Rows.uptoSmall H ([d0, d1, d2, d3, d4, d5] ++ []) = true := hcond _ rfl
  have hb : Rows.uptoBulkAll ([d0, d1, d2, d3, d4, d5] ++ []) ≤ 1048576 := of_decide_eq_true hb0
  simp only [List.append_nil, Rows.uptoBulkAll] at hb
  obtain ⟨x0, r0⟩ := par_sl Tryd.underlying22 (hval 0 _ v0 rfl rfl) h0 trods_ints27
  obtain ⟨x1, cs1, rfl, r1⟩ := par_st Tryd.underlying25 (hval 1 _ v1 rfl rfl) h1 trods_ex
  obtain ⟨x2, cs2, rfl, r2⟩ := par_st Tryd.underlying25 (hval 2 _ v2 rfl rfl) h2 trods_ex
  obtain ⟨x3, cs3, rfl, r3⟩ := par_st Tryd.underlying25 (hval 3 _ v3 rfl rfl) h3 trods_ex
  obtain ⟨x4, rfl, r4⟩ := par_intR Tryd.underlying3 (hval 4 _ v4 rfl rfl)
  obtain ⟨x5, r5⟩ := par_sl Tryd.underlying26 (hval 5 _ v5 rfl rfl) h5 trods_vals
  have s1 : n64 x1 ∧ 5 * parts x1 ≤ Rows.uptoBulk d1 := by
    obtain ⟨k, t⟩ := h1
    exact ex_bulk x1 k cs1 _ r1 t
  have s2 : n64 x2 ∧ 5 * parts x2 ≤ Rows.uptoBulk d2 := by
    obtain ⟨k, t⟩ := h2
    exact ex_bulk x2 k cs2 _ r2 t
  have s3 : n64 x3 ∧ 5 * parts x3 ≤ Rows.uptoBulk d3 := by
    obtain ⟨k, t⟩ := h3
    exact ex_bulk x3 k cs3 _ r3 t
  have s5 : (∀ v ∈ x5, True) ∧ (x5.map fun _ => 4).sum + 1 ≤ Rows.uptoBulk d5 ∧ x5.length + 1 ≤ Rows.uptoBulk d5 := by
    obtain ⟨A, n, c, rfl⟩ := okWide_slice Tryd.underlying26 (hval 5 _ v5 rfl rfl)
    obtain ⟨k, t⟩ := h5
    exact sl_bulk (Q := fun _ => True) (g := fun _ => 4) Tryd.underlying26 (by kernel_rfl) (by omega) Val.width r5 t fun f _ n c y hr hy => val_bulk f n c y hr hy
  rw [sum_four] at s5
  refine (calls_of_gives (vals := [v0, .agg cs1.toArray, .agg cs2.toArray, .agg cs3.toArray, .int .i64 x4, v5]) (branches26_g x0 x1 x2 x3 x4 x5 (by omega) (by omega) (by omega) (by omega) s1.1 s2.1 s3.1) ⟨_, _, rfl, ints_flat27 r0, _, _, rfl, ex_flat26 r1, _, _, rfl, ex_flat26 r2, _, _, rfl, ex_flat26 r3, _, _, rfl, flat_int02, _, _, rfl, Val.flats r5, rfl⟩ hglob).mono ?_
  rintro r W' ⟨rfl, hb⟩
  exact ⟨_, rfl, law_post (P := Tryd.prog) Tryd.laidOut hW' rfl rfl (by kernel_rfl) Tryd.underlying4 (by kernel_rfl) hb⟩
theorem compileBranchesUpto_row : Rows.CompileBranchesUptoSaid :=
  OpenClaim.holds_of_cond 3 Tryd.f3 rfl rfl rfl rfl rfl rfl rfl ⟨rfl, rfl, rfl, rfl, rfl⟩ rfl rfl rfl rfl rfl (by kernel_rfl) Tryd.func3 (by kernel_rfl)
    (of_decide_eq_true (by kernel_rfl)) (by unfold Func.isWrapper; first | (rw [if_pos (by decide +kernel)]; kernel_rfl) | (rw [if_neg (by decide +kernel)]; exact ⟨rfl, rfl⟩))
    (fun os started H enc _ F => by rw [OpenClaim.pre_eq_preRow]; exact branches26_lifted os started H enc F)
theorem compileBranchesUpto_holds : Rows.CompileBranchesUptoCardSaid :=
  Claim7.holds_tied_plain_at .later [] _ _ _ _ compileBranchesUpto_row (fun _ h => by cases h) (by kernel_rfl) (fun _ h => by cases h) compileBranchesUpto_row_tie rfl ⟨rfl, rfl⟩ (by kernel_rfl) rfl
    (fun f fn hf hfn => by
      obtain rfl : f = 3 := Option.some.inj ((show Tryd.prog.funcNamed "errata/erratalaw26.CompileBranches" = some 3 by kernel_rfl).symm.trans hf) |>.symm
      obtain rfl : fn = Tryd.f3 := (Option.some.inj (Tryd.func3.symm.trans hfn)).symm
      exact ⟨by kernel_rfl, fun j t ht => by
        rw [Tryd.params3] at ht
        have hm : t ∈ [22, 25, 25, 25, 3, 26] := by simpa using Array.mem_of_getElem? ht
        have hall : ([22, 25, 25, 25, 3, 26].all fun u => !Tryd.prog.wantsStandIn u) = true := by kernel_rfl
        exact (show Tryd.prog.wantsStandIn t = false by simpa using List.all_eq_true.1 hall t hm)⟩)
    (by kernel_rfl)
end Go.Proofs.YtnkimlkoijfcpaaDoor
