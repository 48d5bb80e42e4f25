/- Walks: the type of an expression, and whether functions are right, as the program finds them. -/
import Derived.Test.YtkedbjjfmejbhaaGreatDoorGe1
import Derived.Test.YtkedbjjfmejbhaaGreatDoorGe14
import Derived.Test.YtkedbjjfmejbhaaGreatDoorGe15
import Derived.Test.YtkedbjjfmejbhaaGreatDoorGe17
import Derived.Test.YtkedbjjfmejbhaaGreatDoorGe23
set_option linter.unusedSimpArgs false
set_option linter.unusedVariables false
namespace Go.Proofs.YtkedbjjfmejbhaaGreatDoor
open Go.RowKit Go.Lib
theorem qhs1 (n : Int) : Gives Tryz.prog 104 [.int n] (.bool (kindB n)) := by
  have e : kindB n = (decide (0 <= n) && decide (n < 3)) := rfl
  rw [e]
  by_cases h : 0 <= n
  · refine qg Tryz.func104 Tryz.ntmps104 fun σ n0 hcl hft => ?_
    repeat' (first | (refine Stp.m ?_ <;> try simp (disch := first | omega | simp) [qc, -qe, -qi, h]) | refine qb fun K hK => ?_ | refine qa ?_ | (refine hK _ ?_; clear hK K))
  · refine qg Tryz.func104 Tryz.ntmps104 fun σ n0 hcl hft => ?_
    repeat' (first | (refine Stp.m ?_ <;> try simp (disch := first | omega | simp) [qc, -qe, -qi, h]) | refine qb fun K hK => ?_ | refine qa ?_ | (refine hK _ ?_; clear hK K))
theorem qlq1 (l : List Int) (n : Int) : Gives Tryz.prog 185 [.sl (l.map AV.int), .int n] (.tup [.int ((pickT l n).getD 0), .bool (pickT l n).isSome]) := by
  obtain ⟨R, hR⟩ : ∃ R, R = pickT l n := ⟨_, rfl⟩
  rw [<- hR]
  unfold pickT at hR
  by_cases h0 : n < 0
  · rw [if_pos h0] at hR
    subst hR
    refine qg Tryz.func185 Tryz.ntmps185 fun σ n0 hcl hft => ?_
    repeat' (first | (refine Stp.m ?_ <;> try simp (disch := first | omega | simp) [qc, -qe, -qi, h0]) | refine qb fun K hK => ?_ | refine qa ?_ | (refine hK _ ?_; clear hK K))
  obtain ⟨k, rfl⟩ : ∃ k : Nat, n = k := ⟨n.toNat, by omega⟩
  rw [if_neg h0, Int.toNat_natCast] at hR
  by_cases h1 : k < l.length
  · rw [List.getElem?_eq_getElem h1] at hR
    have c := qhs1 l[k]
    have h3 : ¬ (l.length : Int) <= k := by omega
    have h4 : ¬ l.length <= k := by omega
    simp only at hR
    generalize kindB l[k] = b at *
    cases b
    · rw [if_neg (by simp)] at hR
      subst hR
      refine qg Tryz.func185 Tryz.ntmps185 fun σ n0 hcl hft => ?_
      repeat' (first | ((first | refine Stp.m ?_ | refine qh ?_) <;> (try simp (disch := first | omega | simp) [qc, -qe, -qi, h0, h1, h3, h4])) | refine qb fun K hK => ?_ | refine qa ?_ | (refine hK _ ?_; clear hK K))
    · rw [if_pos rfl] at hR
      subst hR
      refine qg Tryz.func185 Tryz.ntmps185 fun σ n0 hcl hft => ?_
      repeat' (first | ((first | refine Stp.m ?_ | refine qh ?_) <;> (try simp (disch := first | omega | simp) [qc, -qe, -qi, h0, h1, h3, h4])) | refine qb fun K hK => ?_ | refine qa ?_ | (refine hK _ ?_; clear hK K))
  · rw [List.getElem?_eq_none (by omega)] at hR
    subst hR
    have h2 : (l.length : Int) <= k := by omega
    refine qg Tryz.func185 Tryz.ntmps185 fun σ n0 hcl hft => ?_
    repeat' (first | (refine Stp.m ?_ <;> try simp (disch := first | omega | simp) [qc, -qe, -qi, h0, h1, h2]) | refine qb fun K hK => ?_ | refine qa ?_ | (refine hK _ ?_; clear hK K))
def leafX (c p : List Int) (o n : Int) : Int := if o = 2 then 2 else if o = 3 then (pickT c n).getD 0 else if o = 4 then (pickT p n).getD 0 else if o = 1 then 1 else 0
theorem qnj1 {c p : List Int} {o n t : Int} {s : ByteArray} (h : leafT c p o n s = some t) : leafX c p o n = t := by
  unfold leafT at h
  unfold leafX
  split at h
  · subst o; simpa using h
  split at h
  · subst o; split at h <;> simp_all
  split at h
  · subst o; simp [h]
  split at h
  · subst o; simp [h]
  split at h
  · subst o; split at h <;> cases h; rfl
  split at h
  · subst o; split at h <;> cases h; rfl
  · cases h
def qit (F : List Fn) (c p : List Int) : AV := .agg [.sl (F.map Fn.av), .sl (c.map AV.int), .sl (p.map AV.int)]
set_option maxHeartbeats 4000000 in
theorem qrk1 (F : List Fn) (c p : List Int) (o n : Int) (s : ByteArray) (l : List Ex) : Gives Tryz.prog 160 [qit F c p, (Ex.mk o n s l).av] (.tup [.int (leafX c p o n), .bool (leafT c p o n s).isSome]) := by
  have c1 := qlq1 c n
  have c2 := qlq1 p n
  obtain ⟨X, hX⟩ : ∃ X, X = leafX c p o n := ⟨_, rfl⟩
  obtain ⟨B, hB⟩ : ∃ B, B = (leafT c p o n s).isSome := ⟨_, rfl⟩
  rw [<- hX, <- hB]
  unfold leafX at hX
  unfold leafT at hB
  unfold qit
  refine qg Tryz.func160 Tryz.ntmps160 fun σ n0 hcl hft => ?_
  repeat' (first | ((first | ((with_reducible refine qj (fun hg => ?_) (fun hg => ?_)) <;> (try simp only [hg]) <;> (try simp only [gS] at hg) <;> (try (first | simp only [eq_false hg, gI] | simp only [eq_true hg, gI]))) | refine Stp.m ?_ | refine qh ?_) <;> (try simp (disch := first | omega | simp) [qc, -qe, -qi])) | refine qb fun K hK => ?_ | refine qa ?_ | refine qf ?_ | refine qd ?_ | (refine hK _ ?_; clear hK K) | clear hK K)
  all_goals
    clear c1 c2 hcl hft
    refine ⟨by rw [hX]; simp_all, ?_⟩
    rw [hB]
    clear hX hB
    first | (simp_all; done) | (by_cases q : n = 1 <;> simp_all; done) | (by_cases q : n = 0 <;> simp_all; done) | (by_cases q : (s.size : Int) <= 200 <;> simp [*]; done)
def qfs (ts : List Int) (t : Int) (n : Int) : Bool := decide ((ts.length : Int) = n) && !ts.any (· != t)
def operX (o n : Int) (ts : List Int) : Int := if n ≠ 0 then 0 else if o = 6 then 2 else if o = 7 \/ o = 20 then 0 else if 13 <= o /\ o <= 18 then 2 else if o = 19 then 1 else if o = 21 then ts.getD (ts.length - 1) 0 else 0
theorem qoj1 {o n t : Int} {ts : List Int} (h : operT o n ts = some t) : operX o n ts = t := by
  unfold operT at h
  unfold operX
  split at h
  · cases h
  rename_i hn
  rw [if_neg hn]
  split at h
  · subst o; split at h <;> cases h; rfl
  split at h
  · subst o; split at h <;> cases h; rfl
  split at h
  · subst o; split at h <;> cases h; rfl
  split at h
  · rename_i ho; split at h <;> cases h
    rw [if_neg (by omega), if_neg (by omega), if_neg (by omega), if_neg (by omega), if_neg (by omega)]
  split at h
  · rename_i ho
    have : t = 2 := by
      split at h
      · split at h <;> cases h; rfl
      · cases h
    rw [if_neg (by omega), if_neg (by omega), if_pos (by omega), this]
  split at h
  · rename_i ho; split at h <;> cases h
    rw [if_neg (by omega), if_neg (by omega), if_pos (by omega)]
  split at h
  · subst o; split at h <;> cases h; rfl
  split at h
  · subst o
    split at h
    · split at h <;> cases h
      simp
    · cases h
  · cases h
theorem qne1 {a b : Int} {t : Int} : (if a = b then some t else none).isSome = (a == b) := by
  by_cases h : a = b <;> simp [h]
theorem qip {o n : Int} {ts : List Int} (hn : n = 0) (ho : o = 13 \/ o = 14 \/ o = 15 \/ o = 16) : operX o n ts = 2 := by
  unfold operX
  rw [if_neg (by omega), if_neg (by omega), if_neg (by omega), if_pos (by omega)]
theorem qio {o n : Int} (ts : List Int) (hne : 0 < ts.length) (hn : n = 0) (ho : o = 13 \/ o = 14 \/ o = 15 \/ o = 16) : (operT o n ts).isSome = qfs ts ts[0] 2 := by
  unfold operT
  rw [if_neg (by omega), if_neg (by omega), if_neg (by omega), if_neg (by omega), if_neg (by omega), if_pos (by omega)]
  match ts, hne with
  | [a], _ => simp [qfs]
  | [a, b], _ =>
    by_cases h : a = b
    · subst h; simp [qfs]
    · have : ¬ b = a := fun e => h e.symm
      simp [qfs, h, this]
  | a :: b :: d :: l, _ => simp [qfs]; omega
theorem qex1 {o n : Int} {ts : List Int} (hn : n = 0) (h : o ≠ 6 /\ o ≠ 7 /\ o ≠ 20 /\ o ≠ 21 /\ ¬ (8 <= o /\ o <= 19)) : operX o n ts = 0 /\ (operT o n ts).isSome = false := by
  subst hn
  unfold operX operT
  rw [if_neg (by omega), if_neg (by omega), if_neg (by omega), if_neg (by omega), if_neg (by omega), if_neg (by omega), if_neg (by omega), if_neg (by omega), if_neg (by omega), if_neg (by omega), if_neg (by omega), if_neg (by omega), if_neg (by omega), if_neg (by omega), if_neg (by omega)]
  exact ⟨rfl, rfl⟩
theorem len3' {l : List Int} (h : (l.length : Int) = 3) : ∃ a b c, l = [a, b, c] := by
  match l, h with
  | [a, b, c], _ => exact ⟨a, b, c, rfl⟩
  | [], h => simp at h
  | [a], h => simp at h
  | [a, b], h => simp at h
  | a :: b :: c :: d :: l, h => simp at h; omega
theorem qaw1 {o n : Int} (ts : List Int) (hne : 0 < ts.length) (hn : n = 0) (ho : o = 21) : operX o n ts = ts[ts.length - 1] := by
  subst hn; subst ho
  have q : ts.length - 1 < ts.length := by omega
  simp [operX, q]
theorem qew1 {o n : Int} {ts : List Int} (h : ¬ (ts.length : Int) = 3) (hn : n = 0) (ho : o = 21) : (operT o n ts).isSome = false := by
  subst hn; subst ho
  match ts, h with
  | [], _ => simp [operT]
  | [a], _ => simp [operT]
  | [a, b], _ => simp [operT]
  | [a, b, c], h => simp at h
  | a :: b :: c :: d :: l, _ => simp [operT]
theorem quv (ts : List Int) (t : Int) : qfs ts t 1 = decide (ts = [t]) := by
  unfold qfs
  match ts with
  | [] => rfl
  | [a] => by_cases h : a = t <;> simp [h]
  | a :: b :: l => simp; omega
theorem quw (ts : List Int) (t : Int) : qfs ts t 2 = decide (ts = [t, t]) := by
  unfold qfs
  match ts with
  | [] => rfl
  | [a] => simp
  | [a, b] => by_cases h : a = t <;> by_cases h2 : b = t <;> simp [h, h2]
  | a :: b :: d :: l => simp; omega
theorem qol1 (t k : Int) (b : Nat) (σ : Nat -> AB) (hb : σ b = .cells [.int t] 3) : qbc Tryz.prog 187 [.int k, .ptr b 0] σ (.bool (k != t)) := by
  refine qn Tryz.func187 Tryz.ntmps187 rfl rfl (by decide) rfl (by intro n; simp) fun n0 hfin hcl hft => ?_
  have hloc := qbv hfin hb (by simp)
  repeat' (first | (refine Stp.m ?_ <;> try simp (disch := first | omega | simp) [qc, -qe, -qi, hloc]) | refine qb fun K hK => ?_ | refine qa ?_ | (refine hK _ ?_; clear hK K))
theorem all_g (ts : List Int) (t n : Int) (b : Nat) (σ : Nat -> AB) (hb : σ b = .cells [.sl (ts.map AV.int)] 23) (hl : ts.length <= 1000000) : qbc Tryz.prog 186 [.int t, .int n, .ptr b 0] σ (.bool (qfs ts t n)) := by
  unfold qfs
  have c1 : ∀ (m : Nat) (τ : Nat -> AB), τ m = .cells [.int t] 3 -> qbc Tryz.prog 91 [.sl (ts.map AV.int), .fn 187 [.ptr m 0]] τ (.bool (ts.any (· != t))) := fun m τ h =>
    qcq1 ts _ _ (by kernel_rfl) m τ h (fun k _ => qol1 t k m τ h) hl
  by_cases hn : (ts.length : Int) = n
  · generalize ts.any (· != t) = R at *
    refine qn Tryz.func186 Tryz.ntmps186 rfl rfl (by decide) rfl (by intro n; simp) fun n0 hfin hcl hft => ?_
    have hloc := qbv hfin hb (by simp)
    have c2 := c1 n0
    repeat' (first | ((first | refine Stp.m ?_ | refine qbk (c2 _ (by simp)) ?_) <;> (try simp (disch := first | omega | simp) [qc, -qe, -qi, hloc, hn])) | refine qb fun K hK => ?_ | refine qa ?_ | (refine hK _ ?_; clear hK K))
  · refine qn Tryz.func186 Tryz.ntmps186 rfl rfl (by decide) rfl (by intro n; simp) fun n0 hfin hcl hft => ?_
    have hloc := qbv hfin hb (by simp)
    have hnb : ((ts.length : Int) == n) = false := by simp [hn]
    repeat' (first | (refine Stp.m ?_ <;> try simp (disch := first | omega | simp) [qc, -qe, -qi, hloc, hn, hnb]) | refine qb fun K hK => ?_ | refine qa ?_ | (refine hK _ ?_; clear hK K))
set_option maxHeartbeats 8000000 in
theorem qwg (o n : Int) (s : ByteArray) (l : List Ex) (ts : List Int) (hne : ts ≠ []) (hl : ts.length <= 1000000) : Gives Tryz.prog 162 [(Ex.mk o n s l).av, .sl (ts.map AV.int)] (.tup [.int (operX o n ts), .bool (operT o n ts).isSome]) := by
  have c1 : ∀ (t m : Int) (b : Nat) (τ : Nat -> AB), τ b = .cells [.sl (ts.map AV.int)] 23 -> qbc Tryz.prog 186 [.int t, .int m, .ptr b 0] τ (.bool (qfs ts t m)) := fun t m b τ h => all_g ts t m b τ h hl
  obtain ⟨X, hX⟩ : ∃ X, X = operX o n ts := ⟨_, rfl⟩
  obtain ⟨B, hB⟩ : ∃ B, B = (operT o n ts).isSome := ⟨_, rfl⟩
  rw [<- hX, <- hB]
  have hl0 : 0 < ts.length := List.length_pos_iff.2 hne
  refine qg Tryz.func162 Tryz.ntmps162 fun σ n0 hcl hft => ?_
  have c2 := fun t m => c1 t m (n0 + 1)
  repeat' (first | ((first | ((with_reducible refine qj (fun hg => ?_) (fun hg => ?_)) <;> (try simp only [hg]) <;> (try simp only [gS] at hg) <;> (try (first | simp only [eq_false hg, gI] | simp only [eq_true hg, gI]))) | refine Stp.m ?_ | refine qbk (c2 _ _ _ (by simp)) ?_) <;> (try simp (disch := first | omega | simp) [qc, -qe, -qi, hl0])) | refine sideA ?_ | refine qb fun K hK => ?_ | refine qa ?_ | refine qf ?_ | refine qd ?_ | (refine hK _ ?_; clear hK K) | clear hK K)
  all_goals
    clear c1 c2 hcl hft
    rw [hX, hB]
    clear hX hB
    first
      | exact ⟨qip ‹n = 0› (.inl ‹o = 13›), qio ts hl0 ‹n = 0› (.inl ‹o = 13›)⟩
      | exact ⟨qip ‹n = 0› (.inr (.inl ‹o = 14›)), qio ts hl0 ‹n = 0› (.inr (.inl ‹o = 14›))⟩
      | exact ⟨qip ‹n = 0› (.inr (.inr (.inl ‹o = 15›))), qio ts hl0 ‹n = 0› (.inr (.inr (.inl ‹o = 15›)))⟩
      | exact ⟨qip ‹n = 0› (.inr (.inr (.inr ‹o = 16›))), qio ts hl0 ‹n = 0› (.inr (.inr (.inr ‹o = 16›)))⟩
      | (obtain rfl := (‹o = 21› : o = 21); obtain rfl := (‹n = 0› : n = 0); obtain ⟨a, b, d, rfl⟩ := len3' (by assumption); simp_all [operX, operT, qne1]; done)
      | exact qex1 ‹n = 0› (by omega)
      | exact ⟨qaw1 ts hl0 ‹n = 0› ‹o = 21›, qew1 (by assumption) ‹n = 0› ‹o = 21›⟩
      | (simp_all [operX, operT, quv, quw]; done)
      | (obtain rfl := (‹n = 0› : n = 0)
         simp only [*, operX, operT, quv, quw]
         simp
         done)
      | (obtain rfl := (‹n = 0› : n = 0)
         simp only [*, operX, operT, quv, quw]
         simp
         split <;> simp_all
         done)
theorem eqI_g (xs ys : List Int) : Gives Tryz.prog 161 [.sl (xs.map AV.int), .sl (ys.map AV.int)] (.bool (decide (xs = ys))) := by
 by_cases hl : xs.length = ys.length
 .have hlI : (xs.length : Int) = ys.length := by omega
  refine qg Tryz.func161 Tryz.ntmps161 fun σ n0 hcl hft => ?_
  have hxs : xs.length <= 9223372036854775807 := by
   simp [AV.fitss, AV.fits] at hft
   exact hft.1.1
  repeat' (first | (refine Stp.m ?_ <;> try simp (disch := first | omega | simp) [qc, -qe, -qi, hl, hlI]) | refine qb fun K hK => ?_ | refine qa ?_ | refine qd ?_ | (refine hK _ ?_; clear hK K))
  refine qk hcl (fun k : Nat => [(0, .sl (xs.map AV.int)), (1, .sl (ys.map AV.int)), (12, .int xs.length), (13, .int k)]) (fun _ => [])
   (fun k => k <= xs.length /\ ∀ j (h : j < xs.length) (h2 : j < ys.length), j < k -> xs[j] = ys[j]) (fun k => xs.length - k) 0 ⟨by omega, fun j h h2 hj => by omega⟩ (by simp [hl]) fun k ⟨hk, he⟩ => ?_
  by_cases hlt : k < xs.length
  .have hlt2 : k < ys.length := by omega
   by_cases hx : xs[k] = ys[k]
   .repeat' (first | (refine Stp.m ?_ <;> try simp (disch := first | omega | simp) [qc, -qe, -qi, hlt, hlt2, hx]) | refine qb fun K hK => ?_ | refine qa ?_ | refine qf ?_ | refine qd ?_ | (refine hK _ ?_; clear hK K) | clear hK K)
    all_goals
     refine ⟨k + 1, ⟨by omega, fun j h h2 hj => ?_⟩, by omega, by simp⟩
     by_cases hjk : j < k
     .exact he j h h2 hjk
     .obtain rfl : j = k := by omega
      exact hx
   .have : ¬ xs = ys := fun e => hx (by subst e; rfl)
    repeat' (first | ((first | ((with_reducible refine qj (fun hg => ?_) (fun hg => ?_)) <;> (try simp only [hg]) <;> (try simp only [gS] at hg) <;> (try (first | simp only [eq_false hg, gI] | simp only [eq_true hg, gI]))) | refine Stp.m ?_) <;> (try simp (disch := first | omega | simp) [qc, -qe, -qi, hlt, hlt2, hx, this])) | refine qb fun K hK => ?_ | refine qa ?_ | refine qf ?_ | refine qd ?_ | (refine hK _ ?_; clear hK K) | clear hK K)
    all_goals exact absurd (by assumption) hx
  .have : xs = ys := List.ext_getElem hl fun j h h2 => he j h h2 (by omega)
   repeat' (first | (refine Stp.m ?_ <;> try simp (disch := first | omega | simp) [qc, -qe, -qi, hlt]) | refine qb fun K hK => ?_ | refine qa ?_ | (refine hK _ ?_; clear hK K) | clear hK K)
   all_goals simp [this]
 .have hlI : ¬ (xs.length : Int) = ys.length := by omega
  have hne : ¬ xs = ys := fun e => hl (by rw [e])
  refine qg Tryz.func161 Tryz.ntmps161 fun σ n0 hcl hft => ?_
  repeat' (first | ((first | ((with_reducible refine qj (fun hg => ?_) (fun hg => ?_)) <;> (try simp only [hg]) <;> (try simp only [gS] at hg) <;> (try (first | simp only [eq_false hg, gI] | simp only [eq_true hg, gI]))) | refine Stp.m ?_) <;> (try simp (disch := first | omega | simp) [qc, -qe, -qi, hl, hlI, hne])) | refine qb fun K hK => ?_ | refine qa ?_ | refine qd ?_ | (refine hK _ ?_; clear hK K))
  all_goals exact absurd (by assumption) hlI
def ofX (F : List Fn) (c p : List Int) : Ex -> Int
 | .mk o n s l => match tys F c p l with
  | some ts => if s.size ≠ 0 /\ o ≠ 1 then 0 else if o = 22 then (callT F n ts).getD 0 else if ts = [] then leafX c p o n else operX o n ts
  | none => 0
theorem qlm1 {F : List Fn} {c p : List Int} : ∀ {e : Ex} {t : Int}, ty F c p e = some t -> ofX F c p e = t
 | .mk o n s l, t, h => by
  rw [ty] at h
  cases hl : tys F c p l with
  | none => rw [hl] at h; cases h
  | some ts =>
   rw [hl] at h
   rw [ofX, hl]
   dsimp only at h ⊢
   unfold tailT at h
   split at h
   .cases h
   rename_i h1
   rw [if_neg h1]
   split at h
   .rename_i h2; rw [if_pos h2, h]; rfl
   rename_i h2
   rw [if_neg h2]
   split at h
   .rename_i h3; rw [if_pos h3]; exact qnj1 h
   .rename_i h3; rw [if_neg h3]; exact qoj1 h
set_option maxHeartbeats 8000000 in
theorem of_g (F : List Fn) (c p : List Int) (e : Ex) : parts e <= 1000000 -> Gives Tryz.prog 105 [qit F c p, e.av] (.tup [.int (ofX F c p e), .bool (ty F c p e).isSome]) := by
 induction e using Ex.ind with | h o n s l ih => ?_
 intro hp
 have hll : l.length <= 1000000 := by rw [parts] at hp; have := qbq l; omega
 obtain ⟨X, hX⟩ : ∃ X, X = ofX F c p (.mk o n s l) := ⟨_, rfl⟩
 obtain ⟨B, hB⟩ : ∃ B, B = (ty F c p (.mk o n s l)).isSome := ⟨_, rfl⟩
 rw [<- hX, <- hB]
 unfold qit at ih ⊢
 refine qg Tryz.func105 Tryz.ntmps105 fun σ n0 hcl hft => ?_
 repeat' (first | (refine Stp.m ?_ <;> try simp (disch := first | omega | simp) [qc, -qe, -qi]) | refine qb fun K hK => ?_ | refine qa ?_ | refine qd ?_ | (refine hK _ ?_; clear hK K))
 refine qbn 6 3 1 (by simp) ?_
 simp only [List.length_append, List.length_cons, List.length_nil, Nat.zero_add, Nat.reduceAdd, List.cons_append, List.nil_append]
 refine qk hcl (fun k : Nat => [(2, .ptr n0 0), (3, .ptr (n0 + 1) 0), (6, .gs (n0 + 2) (((l.take k).map fun e => (ty F c p e).getD 0).map AV.int)), (12, .sl (l.map Ex.av)), (13, .int l.length), (14, .int k)])
  (fun k => [.cells [.sl (F.map Fn.av), .sl (c.map AV.int), .sl (p.map AV.int)] 110, .cells [.int o, .int n, .str s, .sl (l.map Ex.av)] 44, .tail k 3 1])
  (fun k => k <= l.length /\ ∀ (i : Nat) (h : i < l.length), i < k -> (ty F c p l[i]).isSome = true) (fun k => l.length - k) 0 ⟨by omega, fun i h h2 => by omega⟩ (by simp) fun k ⟨hk, hks⟩ => ?_
 by_cases hlt : k < l.length
 .have hc := ih l[k] (List.getElem_mem hlt) (by rw [parts] at hp; have := qbh l l[k] (List.getElem_mem hlt); omega)
  have hle : (((l.take k).map fun e => (ty F c p e).getD 0)).length = k := by simp; omega
  have htk : (l.take (k + 1)).map (fun e => (ty F c p e).getD 0) = (l.take k).map (fun e => (ty F c p e).getD 0) ++ [(ty F c p l[k]).getD 0] := by rw [List.take_succ_eq_append_getElem hlt, List.map_append]; rfl
  have hxe := @qlm1 F c p l[k]
  have hav := Ex.av_eq l[k]
  cases ht : ty F c p l[k] with
  | none =>
   rw [ht] at hc
   have h1 := qre l k hlt ht
   have e1 : X = 0 := by rw [hX, ofX, h1]
   have e2 : B = false := by rw [hB, ty, h1]; rfl
   subst e1; subst e2
   generalize ofX F c p l[k] = Y at *
   simp only [Option.isSome_none] at hc
   clear hX hB ih hks
   repeat' (first | ((first | refine Stp.m ?_ | refine qh ?_) <;> (try simp (disch := first | omega | simp) [qc, -qe, -qi, hlt])) | refine qb fun K hK => ?_ | refine qa ?_ | refine qd ?_ | (refine hK _ ?_; clear hK K))
  | some t =>
   rw [ht] at hc hxe htk
   rw [hxe rfl] at hc
   simp only [Option.isSome_some, Option.getD_some] at hc htk
   generalize (l.take k).map (fun e => (ty F c p e).getD 0) = Vs at *
   clear hX hB ih
   repeat' (first | ((first | refine Stp.m ?_ | refine qh ?_) <;> (try simp (disch := first | omega | simp) [qc, -qe, -qi, hlt])) | refine sideA ?_ | refine qb fun K hK => ?_ | refine qa ?_ | refine qd ?_ | (refine hK _ ?_; clear hK K) | clear hK K)
   all_goals refine ⟨k + 1, ⟨by omega, fun i h h2 => ?_⟩, by omega, ?_⟩
   .by_cases hik : i < k
    .exact hks i h hik
    .obtain rfl : i = k := by omega
     rw [ht]; rfl
   .have htk2 := congrArg (List.map AV.int) htk
    simp at htk2
    simp [htk2, hle]
 .obtain rfl : k = l.length := by omega
  rw [List.take_length]
  have hall := qwt l fun i h => hks i h h
  obtain ⟨ts, hts⟩ : ∃ ts, ts = l.map fun e => (ty F c p e).getD 0 := ⟨_, rfl⟩
  rw [<- hts] at hall ⊢
  have hX2 : X = if s.size ≠ 0 /\ o ≠ 1 then 0 else if o = 22 then (callT F n ts).getD 0 else if ts = [] then leafX c p o n else operX o n ts := by rw [hX, ofX, hall]
  have hB2 : B = (tailT F c p o n s ts).isSome := by rw [hB, ty, hall]
  have htl : ts.length = l.length := by rw [hts]; simp
  clear hX hB ih hks hall hts hp hk
  have hemp : s.toList.isEmpty = decide (s.size = 0) := by
   by_cases h : s.size = 0
   .rw [decide_eq_true h, List.isEmpty_iff]
    exact List.eq_nil_of_length_eq_zero (by rw [ByteArray.toList_eq]; rw [Lib.size_eq] at h; simpa using h)
   .rw [decide_eq_false h, List.isEmpty_eq_false_iff]
    intro h2
    rw [ByteArray.toList_eq] at h2
    exact h (by rw [Lib.size_eq, h2]; rfl)
  by_cases hs : s.size ≠ 0 /\ o ≠ 1
  .have e1 : X = 0 := by rw [hX2, if_pos hs]
   have e2 : B = false := by rw [hB2, tailT, if_pos hs]; rfl
   subst e1; subst e2
   clear hX2 hB2
   obtain ⟨hs1, hs2⟩ := hs
   rw [decide_eq_false hs1] at hemp
   repeat' (first | ((first | ((with_reducible refine qj (fun hg => ?_) (fun hg => ?_)) <;> (try simp only [hg]) <;> (try simp only [gS] at hg) <;> (try (first | simp only [eq_false hg, gI] | simp only [eq_true hg, gI]))) | refine Stp.m ?_) <;> (try simp (disch := first | omega | simp) [qc, -qe, -qi, hlt, hs2, hemp])) | refine sideA ?_ | refine qb fun K hK => ?_ | refine qa ?_ | (refine hK _ ?_; clear hK K) | clear hK K)
   all_goals exact absurd (by assumption) hs2
  rw [if_neg hs] at hX2
  rw [tailT, if_neg hs] at hB2
  have hs' : s.toList.isEmpty = false -> o = 1 := fun h => by
   rw [hemp] at h
   have := of_decide_eq_false h
   omega
  clear hemp hs
  by_cases h22 : o = 22
  .subst h22
   rw [if_pos rfl] at hX2 hB2
   have h22' : s.toList.isEmpty = true := by
    cases q : s.toList.isEmpty with
    | true => rfl
    | false => exact absurd (hs' q) (by decide)
   unfold callT at hX2 hB2
   by_cases h0 : n < 0
   .rw [if_pos h0] at hX2 hB2
    subst hX2; subst hB2
    repeat' (first | ((first | ((with_reducible refine qj (fun hg => ?_) (fun hg => ?_)) <;> (try simp only [hg]) <;> (try simp only [gS] at hg) <;> (try (first | simp only [eq_false hg, gI] | simp only [eq_true hg, gI]))) | refine Stp.m ?_) <;> (try simp (disch := first | omega | simp) [qc, -qe, -qi, hlt, h0, h22'])) | refine qb fun K hK => ?_ | refine qa ?_ | (refine hK _ ?_; clear hK K) | clear hK K)
   obtain ⟨k, rfl⟩ : ∃ k : Nat, n = k := ⟨n.toNat, by omega⟩
   rw [if_neg h0, Int.toNat_natCast] at hX2 hB2
   by_cases h1 : k < F.length
   .rw [List.getElem?_eq_getElem h1] at hX2 hB2
    dsimp only at hX2 hB2
    have h1' : ¬ F.length <= k := by omega
    have h1'' : ¬ (F.length : Int) <= k := by omega
    obtain ⟨f, hf⟩ : ∃ f, f = F[k] := ⟨_, rfl⟩
    rw [<- hf] at hX2 hB2
    have c1 := eqI_g f.params ts
    by_cases h2 : f.params = ts
    .rw [if_pos h2] at hX2 hB2
     subst hX2; subst hB2
     rw [decide_eq_true h2] at c1
     repeat' (first | ((first | ((with_reducible refine qj (fun hg => ?_) (fun hg => ?_)) <;> (try simp only [hg]) <;> (try simp only [gS] at hg) <;> (try (first | simp only [eq_false hg, gI] | simp only [eq_true hg, gI]))) | refine Stp.m ?_ | refine qh ?_) <;> (try simp (disch := first | omega | simp) [qc, -qe, -qi, hlt, h0, h1, h1', h1'', h22', <- hf])) | refine qb fun K hK => ?_ | refine qa ?_ | (refine hK _ ?_; clear hK K) | clear hK K)
    .rw [if_neg h2] at hX2 hB2
     subst hX2; subst hB2
     rw [decide_eq_false h2] at c1
     repeat' (first | ((first | ((with_reducible refine qj (fun hg => ?_) (fun hg => ?_)) <;> (try simp only [hg]) <;> (try simp only [gS] at hg) <;> (try (first | simp only [eq_false hg, gI] | simp only [eq_true hg, gI]))) | refine Stp.m ?_ | refine qh ?_) <;> (try simp (disch := first | omega | simp) [qc, -qe, -qi, hlt, h0, h1, h1', h1'', h22', <- hf])) | refine qb fun K hK => ?_ | refine qa ?_ | (refine hK _ ?_; clear hK K) | clear hK K)
   .rw [List.getElem?_eq_none (by omega)] at hX2 hB2
    subst hX2; subst hB2
    have h2 : (F.length : Int) <= k := by omega
    repeat' (first | ((first | ((with_reducible refine qj (fun hg => ?_) (fun hg => ?_)) <;> (try simp only [hg]) <;> (try simp only [gS] at hg) <;> (try (first | simp only [eq_false hg, gI] | simp only [eq_true hg, gI]))) | refine Stp.m ?_) <;> (try simp (disch := first | omega | simp) [qc, -qe, -qi, hlt, h0, h1, h2, h22'])) | refine qb fun K hK => ?_ | refine qa ?_ | (refine hK _ ?_; clear hK K) | clear hK K)
  rw [if_neg h22] at hX2 hB2
  by_cases hn : ts = []
  .subst hn
   rw [if_pos rfl] at hX2 hB2
   have c1 := qrk1 F c p o n s l
   rw [<- hX2, <- hB2] at c1
   unfold qit at c1
   rw [Ex.av_mk] at c1
   clear hX2 hB2
   repeat' (first | ((first | ((with_reducible refine qj (fun hg => ?_) (fun hg => ?_)) <;> (try simp only [hg]) <;> (try simp only [gS] at hg) <;> (try (first | simp only [eq_false hg, gI] | simp only [eq_true hg, gI]))) | refine Stp.m ?_ | refine qh ?_) <;> (try simp (disch := first | omega | simp) [qc, -qe, -qi, hlt, h22])) | refine sideA ?_ | refine qb fun K hK => ?_ | refine qa ?_ | (refine hK _ ?_; clear hK K) | clear hK K)
   all_goals first
    | exact absurd (by assumption) h22
    | (exfalso; have := hs' (by assumption); omega)
  .rw [if_neg hn] at hX2 hB2
   have c1 := qwg o n s l ts hn (by omega)
   rw [<- hX2, <- hB2] at c1
   rw [Ex.av_mk] at c1
   clear hX2 hB2
   have hn' : ¬ (ts.length : Int) = 0 := fun e => hn (List.eq_nil_of_length_eq_zero (by omega))
   repeat' (first | ((first | ((with_reducible refine qj (fun hg => ?_) (fun hg => ?_)) <;> (try simp only [hg]) <;> (try simp only [gS] at hg) <;> (try (first | simp only [eq_false hg, gI] | simp only [eq_true hg, gI]))) | refine Stp.m ?_ | refine qh ?_) <;> (try simp (disch := first | omega | simp) [qc, -qe, -qi, hlt, h22, hn'])) | refine sideA ?_ | refine qb fun K hK => ?_ | refine qa ?_ | (refine hK _ ?_; clear hK K) | clear hK K)
   all_goals first
    | exact absurd (by assumption) h22
    | exact absurd (by assumption) hn'
    | (exfalso; have := hs' (by assumption); omega)
set_option maxHeartbeats 4000000 in
theorem qhc1 (F : List Fn) (c p : List Int) (e : Ex) (hp : parts e <= 1000000) : Gives Tryz.prog 60 [qit F c p, e.av] (.tup [.int ((tyD F c p e).getD 0), .bool (tyD F c p e).isSome]) := by
 have hlv := qcl e
 have c1 := qxv e (by omega)
 have c2 := of_g F c p e hp
 unfold qit at c2 ⊢
 by_cases h : levels e > 12
 .have e1 : tyD F c p e = none := by unfold tyD; rw [if_pos h]
  rw [e1]
  clear c2
  generalize levels e = L at *
  have h' : 12 < L := h
  refine qg Tryz.func60 Tryz.ntmps60 fun σ n0 hcl hft => ?_
  repeat' (first | ((first | refine Stp.m ?_ | refine qh ?_) <;> (try simp (disch := first | omega | simp) [qc, -qe, -qi, h'])) | refine qb fun K hK => ?_ | refine qa ?_ | (refine hK _ ?_; clear hK K))
 .have e1 : tyD F c p e = ty F c p e := by unfold tyD; rw [if_neg h]
  rw [e1]
  have hx := @qlm1 F c p e
  have h' : ¬ 12 < levels e := h
  generalize levels e = L at *
  generalize ofX F c p e = X at *
  cases ht : ty F c p e with
  | none =>
   rw [ht] at c2
   simp at c2
   clear hx
   refine qg Tryz.func60 Tryz.ntmps60 fun σ n0 hcl hft => ?_
   repeat' (first | ((first | refine Stp.m ?_ | refine qh ?_) <;> (try simp (disch := first | omega | simp) [qc, -qe, -qi, h'])) | refine qb fun K hK => ?_ | refine qa ?_ | (refine hK _ ?_; clear hK K))
  | some t =>
   rw [ht] at c2 hx
   rw [hx rfl] at c2
   simp at c2
   clear hx
   refine qg Tryz.func60 Tryz.ntmps60 fun σ n0 hcl hft => ?_
   repeat' (first | ((first | refine Stp.m ?_ | refine qh ?_) <;> (try simp (disch := first | omega | simp) [qc, -qe, -qi, h'])) | refine qb fun K hK => ?_ | refine qa ?_ | (refine hK _ ?_; clear hK K))
theorem qpm1 (n : Int) : Gives Tryz.prog 103 [.int n] (.bool (!kindB n)) := by
 have c := qhs1 n
 generalize kindB n = b at *
 refine qg Tryz.func103 Tryz.ntmps103 fun σ n0 hcl hft => ?_
 repeat' (first | ((first | refine Stp.m ?_ | refine qh ?_) <;> (try simp (disch := first | omega | simp) [qc, -qe, -qi])) | refine qb fun K hK => ?_ | refine qa ?_ | (refine hK _ ?_; clear hK K))
theorem qdg1 {F : List Fn} (h : AV.fitss [.sl (F.map Fn.av)]) : ∀ f ∈ F, f.params.length <= 9223372036854775807 := fun f hf => by
 have h1 := (AV.fitss_iff.1 h) _ (List.mem_singleton_self _)
 rw [AV.fits] at h1
 have h2 := (AV.fitss_iff.1 h1.2) f.av (List.mem_map_of_mem hf)
 unfold Fn.av at h2
 rw [AV.fits] at h2
 have h3 := (AV.fitss_iff.1 h2) (.sl (f.params.map AV.int)) (by simp)
 rw [AV.fits] at h3
 simpa using h3.1
theorem qbu1 (l : List Int) : (l.any fun n => !kindB n) = !l.all kindB := by
 induction l with
 | nil => rfl
 | cons a l ih => simp [ih]
set_option maxHeartbeats 8000000 in
theorem qkz1 (F : List Fn) (hp : ∀ f ∈ F, parts f.body <= 1000000) : Gives Tryz.prog 59 [.sl (F.map Fn.av)] (.bool (qde F)) := by
 obtain ⟨B, hB⟩ : ∃ B, B = qde F := ⟨_, rfl⟩
 rw [<- hB]
 by_cases h20 : F.length <= 20
 rotate_left
 .have hBe : B = false := by
   rw [hB]; unfold qde
   have : ¬ (F.length : Int) <= 20 := by omega
   simp [this]
  subst hBe
  have h20b : (20 : Int) < F.length := by omega
  clear hB
  refine qg Tryz.func59 Tryz.ntmps59 fun σ n0 hcl hft => ?_
  repeat' (first | (refine Stp.m ?_ <;> try simp (disch := first | omega | simp) [qc, -qe, -qi, h20b]) | refine qb fun K hK => ?_ | refine qa ?_ | (refine hK _ ?_; clear hK K))
 have h20b : ¬ (20 : Int) < F.length := by omega
 refine qg Tryz.func59 Tryz.ntmps59 fun σ n0 hcl hft => ?_
 repeat' (first | (refine Stp.m ?_ <;> try simp (disch := first | omega | simp) [qc, -qe, -qi, h20b]) | refine qb fun K hK => ?_ | refine qa ?_ | refine qd ?_ | (refine hK _ ?_; clear hK K))
 refine qk hcl (fun i : Nat => [(0, .sl (F.map Fn.av)), (11, .sl (F.map Fn.av)), (12, .int F.length), (13, .int i)]) (fun _ => []) (fun i => i <= F.length /\ ∀ j, j < i -> j < F.length -> okF F j = true) (fun i => F.length - i) 0 ⟨by omega, fun j h => by omega⟩ (by simp) fun i ⟨hi, he⟩ => ?_
 by_cases hlt : i < F.length
 rotate_left
 .have hBe : B = true := by rw [hB, qow fun j hj => he j (by omega) hj]; simp; omega
  subst hBe
  repeat' (first | (refine Stp.m ?_ <;> try simp (disch := first | omega | simp) [qc, -qe, -qi, hlt]) | refine qb fun K hK => ?_ | refine qa ?_ | (refine hK _ ?_; clear hK K) | clear hK K)
 have hpk := hp F[i] (List.getElem_mem hlt)
 have hfl : F[i].params.length <= 9223372036854775807 := by
  simp [AV.fitss] at hft
  exact qdg1 (F := F) (by simpa [AV.fitss] using hft) _ (List.getElem_mem hlt)
 obtain ⟨f, hf⟩ : ∃ f, f = F[i] := ⟨_, rfl⟩
 rw [<- hf] at hpk hfl
 have hok := qln1 hlt
 rw [<- hf] at hok
 have hil : ¬ F.length < i := by omega
 have hb : okF F i = false -> B = false := fun h => by rw [hB]; exact qgl hlt h
 by_cases hl6 : (f.params.length : Int) <= 6
 rotate_left
 .have : B = false := hb (by rw [hok]; simp [hl6])
  subst this
  have hl6b : (6 : Int) < f.params.length := by omega
  clear hB hb hok
  repeat' (first | (refine Stp.m ?_ <;> try simp (disch := first | omega | simp) [qc, -qe, -qi, hlt, hl6b, <- hf]) | refine qb fun K hK => ?_ | refine qa ?_ | refine qd ?_ | (refine hK _ ?_; clear hK K))
 have hl6b : ¬ (6 : Int) < f.params.length := by omega
 have c1 := qcp1 f.params (fun n => !kindB n) 103 (by kernel_rfl) (fun x _ => qpm1 x) (by omega)
 rw [qbu1] at c1
 have c2 := qhc1 (F.take i) [] f.params f.body hpk
 rw [qit, List.map_take, List.map_nil] at c2
 cases hall : f.params.all kindB with
 | false =>
  have : B = false := hb (by rw [hok, hall]; rfl)
  subst this
  rw [hall] at c1
  clear hB hb hok
  repeat' (first | ((first | refine Stp.m ?_ | refine qh ?_) <;> (try simp (disch := first | omega | simp) [qc, -qe, -qi, hlt, hl6b, <- hf])) | refine qb fun K hK => ?_ | refine qa ?_ | refine qd ?_ | (refine hK _ ?_; clear hK K))
 | true =>
  rw [hall] at c1 hok
  rw [Bool.true_and] at hok
  cases ht : tyD (F.take i) [] f.params f.body with
  | none =>
   rw [ht] at c2 hok
   have : B = false := hb (by rw [hok]; simp)
   subst this
   simp only [Option.getD_none, Option.isSome_none] at c2
   clear hB hb hok
   repeat' (first | ((first | refine Stp.m ?_ | refine qh ?_ | refine agH ?_) <;> (try simp (disch := first | omega | simp) [qc, -qe, -qi, hlt, hl6b, hil, <- hf])) | refine sideA ?_ | refine qb fun K hK => ?_ | refine qa ?_ | refine qf ?_ | refine qd ?_ | (refine hK _ ?_; clear hK K))
  | some t =>
   rw [ht] at c2 hok
   simp only [Option.getD_some, Option.isSome_some] at c2
   by_cases htr : t = f.res
   rotate_left
   .have : B = false := hb (by rw [hok]; simp [htr])
    subst this
    have htb : (t == f.res) = false := by simp [htr]
    clear hB hb hok
    repeat' (first | ((first | ((with_reducible refine qj (fun hg => ?_) (fun hg => ?_)) <;> (try simp only [hg]) <;> (try simp only [gS] at hg) <;> (try (first | simp only [eq_false hg, gI] | simp only [eq_true hg, gI]))) | refine Stp.m ?_ | refine qh ?_ | refine agH ?_) <;> (try simp (disch := first | omega | simp) [qc, -qe, -qi, hlt, hl6b, hil, htr, htb, <- hf])) | refine sideA ?_ | refine qb fun K hK => ?_ | refine qa ?_ | refine qf ?_ | refine qd ?_ | (refine hK _ ?_; clear hK K) | clear hK K)
    all_goals exact absurd (by assumption) htr
   .have hoki : okF F i = true := by rw [hok]; simp [htr, hl6]
    clear hB hb hok
    repeat' (first | ((first | refine Stp.m ?_ | refine qh ?_ | refine agH ?_) <;> (try simp (disch := first | omega | simp) [qc, -qe, -qi, hlt, hl6b, hil, htr, <- hf])) | refine sideA ?_ | refine qb fun K hK => ?_ | refine qa ?_ | refine qf ?_ | refine qd ?_ | (refine hK _ ?_; clear hK K) | clear hK K)
    all_goals
     refine ⟨i + 1, ⟨by omega, fun j hj hjl => ?_⟩, by omega, by simp⟩
     by_cases hji : j < i
     .exact he j hji hjl
     .obtain rfl : j = i := by omega
      exact hoki
theorem qhb1 (F : List Fn) (c p : List Int) (e : Ex) (hbd : parts e <= 1000000) (hpF : ∀ f ∈ F, parts f.body <= 1000000) :
  Gives Tryz.prog 32 [.sl (F.map Fn.av), .sl (c.map AV.int), .sl (p.map AV.int), e.av] (.tup [.int ((typeP F c p e).getD 0), .bool (typeP F c p e).isSome]) := by
 have c1 := qkz1 F hpF
 have c2 := qhc1 F c p e hbd
 unfold qit at c2
 unfold typeP
 cases h : qde F with
 | false =>
  rw [h] at c1
  refine qg Tryz.func32 Tryz.ntmps32 fun σ n0 hcl hft => ?_
  repeat' (first | ((first | refine Stp.m ?_ | refine qh ?_) <;> (try simp (disch := first | omega | simp) [qc, -qe, -qi])) | refine qb fun K hK => ?_ | refine qa ?_ | (refine hK _ ?_; clear hK K))
 | true =>
  rw [h] at c1
  simp only [if_true]
  generalize tyD F c p e = T at *
  refine qg Tryz.func32 Tryz.ntmps32 fun σ n0 hcl hft => ?_
  repeat' (first | ((first | refine Stp.m ?_ | refine qh ?_) <;> (try simp (disch := first | omega | simp) [qc, -qe, -qi])) | refine qb fun K hK => ?_ | refine qa ?_ | (refine hK _ ?_; clear hK K))

section
variable {P : Program} {ev : Operand -> AV} {σ : Nat -> AB}
theorem qst {t e : TypeId} {n : Nat} {p i : Operand} {r off : Nat} {ik : IntKind} {k : Int} {ag : Bool} {sz : Nat} (ht : P.underlying t = some (.array n e)) (hs : tinfo P e = some (ag, sz)) (hp : ev p = .ptr r off) (hi : ev i = .v (.int ik k)) (h0 : 0 <= k) (h1 : k < n) :
  FOp P ev σ (.indexAddr t p i) (.ptr r (off + k.toNat * sz)) none := FOp.of fun X a oper ho hS hsub hev => by
 have h := hev p (by simp [Op.operands])
 have h2 := hev i (by simp [Op.operands])
 rw [hp] at h; rw [hi, RR.v] at h2
 change RC X (.ptr r off) [a.eval p] at h
 rw [RC] at h
 obtain ⟨hc, b, hm, hv⟩ := h
 have hv' : a.eval p = .pointer (some ⟨b, off, none⟩) := by simpa using hv
 refine ⟨.pointer (some ⟨b, off + k.toNat * sz, none⟩), ?_, ?_⟩
 .have := (qbs hs X.w).2
  simp [execOp, ho, hv', h2, Instr.indexAt, Instr.sureAddr, asIntOf, underlying, ht, h0, h1, this, qbd]
 .show RC X (.ptr r _) [_]
  rw [RC]
  exact ⟨hc, b, hm, rfl⟩
end
def aevX (P : Program) (s : AS) (o : Op) (K : AV -> AS -> Prop) : Prop :=
 match o with
 | .indexAddr t p i => match P.underlying t with
  | some (.array n e) => match tinfo P e, s.eval p, s.eval i with
   | some (_, sz), .ptr r off, .v (.int _ k) => 0 <= k /\ k < n /\ K (.ptr r (off + k.toNat * sz)) s
   | _, _, _ => False
  | _ => aev P s (.indexAddr t p i) K
 | o => aev P s o K
theorem qzn {P : Program} {s : AS} {o : Op} {K : AV -> AS -> Prop} (h : aevX P s o K) : EOp P s o K := by
 unfold aevX at h
 split at h
 .split at h
  .split at h
   .exact qhs (nb := none) (qst ‹_› ‹_› ‹_› ‹_› h.1 h.2.1) h.2.2
   .exact h.elim
  .exact qck h
 .exact qck h
def aseqX (P : Program) (ops : Array Oper) (K : AS -> Prop) : List Oper -> AS -> Prop
 | [], s => K s
 | o :: l, s => match awant ops o s.t with
  | some b => qbm b (aevX P s o.op (fun x s1 => dstOk o.dst s1.n /\ aseqX P ops K l (s1.put o.dst x))) (dstOk o.dst s.n /\ aseqX P ops K l (s.put o.dst (.v undef)))
  | none => False
theorem qhl {P : Program} {ops : Array Oper} {K : AS -> Prop} : ∀ {l : List Oper} {s : AS}, aseqX P ops K l s -> aseq P ops K l s
 | [], _, h => h
 | o :: l, s, h => by
  rw [aseqX] at h
  rw [aseq]
  split at h
  .rename_i b hb
   cases b with
   | true => exact ⟨true, hb, (qzn (h.1 rfl)).mono fun x s1 ⟨h1, h2⟩ => ⟨h1, qhl h2⟩⟩
   | false => exact ⟨false, hb, (h.2 rfl).1, qhl (h.2 rfl).2⟩
  .exact h.elim
theorem qfh {P : Program} {s : AS} {id : Nat} {l : List Oper} {Q : Exit -> AS -> Prop} (h : aseqX P l.toArray (Q .normal) l s) : awp P (.region id l.toArray false) Q s := qdh (qhl h)
attribute [simp] aevX aseqX
end Go.Proofs.YtkedbjjfmejbhaaGreatDoor
namespace Go.Proofs.YtkedbjjfmejbhaaGreatDoor
open Go.RowKit Go.Lib
theorem RCs.set {X : St} {y z : AV} (h : ∀ vs, RC X y vs -> RC X z vs) : ∀ {l : List AV} {xs : List Value} {k : Nat}, RCs X l xs -> l[k]? = some y -> RCs X (l.set k z) xs
 | [], _, _, _, h => by simp at h
 | d :: l, xs, 0, hr, hk => by
  rw [RCs] at hr
  obtain ⟨c1, c2, rfl, h1, h2⟩ := hr
  simp at hk
  subst hk
  rw [List.set_cons_zero, RCs]
  exact ⟨c1, c2, rfl, h _ h1, h2⟩
 | d :: l, xs, k + 1, hr, hk => by
  rw [RCs] at hr
  obtain ⟨c1, c2, rfl, h1, h2⟩ := hr
  rw [List.set_cons_succ, RCs]
  exact ⟨c1, c2, rfl, h1, RCs.set h h2 (by simpa using hk)⟩
theorem qsd {s : AS} {X0 X : St} {a : Act} {w : World} {r : Nat} {l l' : List AV} {e : TypeId} {sz : Nat} (hc : Con X0 s a w X) (hσ : s.st r = .vec l e sz) (hl : l'.length = l.length) (hw : (∀ x ∈ l, x.width = sz) -> ∀ x ∈ l', x.width = sz) (h : ∀ xs, RCs X l xs -> RCs X l' xs) :
  ∃ X', Con X0 (s.set r (.vec l' e sz)) a w X' := by
 have hX : X.σ r = .vec l e sz := by rw [hc.σ, hσ]
 have hlt : r < s.nx := Nat.lt_of_not_le fun h => by have := s.fin r h; rw [hσ] at this; cases this
 obtain ⟨e1, e2, e3⟩ := s.set_nx r (.vec l' e sz)
 let X' : St := { X with σ := upd X.σ r (.vec l' e sz) }
 have hb : ∀ k, X'.blk k = X.blk k := fun k => by
  by_cases hk : k = r
  .subst hk; simp [X', St.blk, upd, hX, AB.blk]
  .simp [X', St.blk, upd, hk]
 have hF : Fr X X' := ⟨rfl, rfl, rfl, Nat.le_refl _, fun _ _ _ => rfl, fun _ _ _ => rfl, fun _ _ h => h, fun _ _ h => .inl h, fun k => by
  by_cases hk : k = r
  .subst hk; unfold Ver; rw [hX]; exact .inr ⟨l', by simp [X', upd], .inr ⟨hl.symm, rfl⟩⟩
  .have h1 : X'.σ k = X.σ k := by simp [X', upd, hk]
   have := (Fr.refl X).ver k
   unfold Ver at this ⊢
   rw [h1]; exact this, fun k b h => .inr ⟨k, by rw [<- hb]; exact h⟩⟩
 refine ⟨X', hc.w, ?_, ⟨fun k => ?_, fun k k' b h1 h2 => hc.sr.alone k k' b (by rw [<- hb]; exact h1) (by rw [<- hb]; exact h2), fun k b o h1 h2 => ?_, hc.sr.old, hc.sr.glob.mono fun _ _ _ h => h.fr hF⟩, hc.fr.trans hF, by rw [e1]; exact hc.size, fun d => by rw [e3]; exact (hc.regs d).fr hF, hc.defers, by rw [e2]; exact hc.fin⟩
 .show upd X.σ r _ = _
  rw [hc.σ, AS.set_st _ _ _ hlt]
 .by_cases hk : k = r
  .subst hk
   have h1 : X'.σ k = .vec l' e sz := by simp [X', upd]
   rw [h1]
   have hB := hc.sr.block k
   rw [hX] at hB
   obtain ⟨hwd, xs, ho, hr⟩ := hB
   refine ⟨hw hwd, xs, ?_, RCs.fr hF _ _ (h xs hr)⟩
   show X'.w.ownsRow 0 e sz (X'.μ k) l'.length xs
   rw [hl]; exact ho
  .exact BR.fr hc.sr hF (by simp [X', upd, hk]) rfl fun _ _ => rfl
 .obtain ⟨n, e2, s2, h4, h5⟩ := hc.sr.apart k b o (by rw [<- hb]; exact h1) h2
  have hk : k ≠ r := fun hk => by rw [hk, hX] at h4; cases h4
  exact ⟨n, e2, s2, by simp [X', upd, hk, h4], h5⟩
theorem qzr {P : Program} {code : Code} {Q : Exit -> AS -> Prop} {n n0 : Nat} {t : Nat -> AV} {σ : Nat -> AB} {L : List AB} (i k c : Nat) (e : TypeId) (sz : Nat) {l cs : List AV} {et : TypeId} {s2 : Nat} (hL : L[i]? = some (.vec l et s2)) (hk : l[k]? = some (.agg cs)) (hc0 : cs[c]? = some (.v (.slice none 0 0)))
  (h : awp P code Q ⟨n, t, σ, n0, L.set i (.vec (l.set k (.agg (cs.set c (.gs (n0 + L.length) [])))) et s2) ++ [.tail 0 e sz]⟩) : awp P code Q ⟨n, t, σ, n0, L⟩ := by
 intro X0 a w ⟨X, hc⟩
 have hi := (List.getElem?_eq_some_iff.1 hL).1
 obtain ⟨X', hXw, hc', hF, hR⟩ := qif hc e sz
 have hst : (AS.ext ⟨n, t, σ, n0, L⟩ (some (.tail 0 e sz))).st (n0 + i) = .vec l et s2 := by
  show loc σ n0 (L ++ [_]) (n0 + i) = _
  unfold loc
  rw [if_neg (by omega), Nat.add_sub_cancel_left, List.getD_eq_getElem?_getD, List.getElem?_append_left hi, hL]; rfl
 obtain ⟨X2, hc2⟩ := qsd (l' := l.set k (.agg (cs.set c (.gs (n0 + L.length) [])))) hc' hst (by rw [List.length_set]) (fun hw x hx => by
  rcases List.mem_or_eq_of_mem_set hx with hx | rfl
  .exact hw x hx
  .have := hw _ (List.mem_of_getElem? hk)
   rw [AV.width] at this ⊢
   rw [List.length_set]; exact this) fun xs hr => RCs.set (fun vs hv => by
  rw [RC] at hv ⊢
  exact R1s.set rfl hv hc0 fun v hv => by
   rw [RC] at hv
   obtain rfl : v = .slice none 0 0 := by simpa using hv
   exact hR) hr hk
 refine h X0 a w ⟨X2, ?_⟩
 have : (AS.ext ⟨n, t, σ, n0, L⟩ (some (.tail 0 e sz))).set (n0 + i) (.vec (l.set k (.agg (cs.set c (.gs (n0 + L.length) [])))) et s2) = ⟨n, t, σ, n0, L.set i (.vec (l.set k (.agg (cs.set c (.gs (n0 + L.length) [])))) et s2) ++ [.tail 0 e sz]⟩ := by
  unfold AS.set AS.ext
  dsimp only
  rw [if_neg (by omega), Nat.add_sub_cancel_left, List.set_append_left _ _ hi]
 rw [this] at hc2; exact hc2
def mkB (cols : List Int) (L : List Ex) (a b c : Nat) : AB := .cells [.sl (cols.map AV.int), .gs a ((rawI L L 0).map Ins.av), .gs b ((L.map (typE cols)).map AV.int), .int 0, .own c 0] 86
def stM (cols : List Int) (q a b c : Nat) (L : List Ex) (σ : Nat -> AB) : Nat -> AB := fun r =>
 if r = q then mkB cols L a b c else if r = a then .tail L.length 58 7 else if r = b then .tail L.length 3 1 else if r = c then .obj (mapI (entI L L 0)) else σ r
structure Mk (cols : List Int) (q a b c : Nat) (L : List Ex) (σ : Nat -> AB) : Prop where
 hq : σ q = mkB cols L a b c
 ha : σ a = .tail L.length 58 7
 hb : σ b = .tail L.length 3 1
 hc : σ c = .obj (mapI (entI L L 0))
section
variable {cols : List Int} {q a b c : Nat} {L M : List Ex} {σ : Nat -> AB}
theorem Mk.ne (h : Mk cols q a b c L σ) : a ≠ q /\ b ≠ q /\ c ≠ q /\ b ≠ a /\ c ≠ a /\ c ≠ b := by
 obtain ⟨h1, h2, h3, h4⟩ := h
 refine ⟨?_, ?_, ?_, ?_, ?_, ?_⟩ <;> (intro e; subst e)
 .rw [h1] at h2; cases h2
 .rw [h1] at h3; cases h3
 .rw [h1] at h4; cases h4
 .rw [h2] at h3; injection h3 with e1 e2 e3; exact absurd e2 (by decide)
 .rw [h2] at h4; cases h4
 .rw [h3] at h4; cases h4
theorem Mk.self (h : Mk cols q a b c L σ) : stM cols q a b c L σ = σ := by
 funext r
 unfold stM
 split
 .rename_i e; rw [e, h.hq]
 split
 .rename_i e; rw [e, h.ha]
 split
 .rename_i e; rw [e, h.hb]
 split
 .rename_i e; rw [e, h.hc]
 .rfl
theorem qlt1 (h : Mk cols q a b c L σ) (M : List Ex) : Mk cols q a b c M (stM cols q a b c M σ) := by
 obtain ⟨h1, h2, h3, h4, h5, h6⟩ := h.ne
 exact ⟨by simp [stM], by simp [stM, h1], by simp [stM, h2, h4], by simp [stM, h3, h5, h6]⟩
theorem qgj1 (L M : List Ex) : stM cols q a b c M (stM cols q a b c L σ) = stM cols q a b c M σ := by
 funext r
 unfold stM
 repeat' split
 all_goals rfl
theorem Mk.loc {n0 : Nat} (h : Mk cols q a b c L σ) (hfin : Fin σ n0) (K : List AB) : Mk cols q a b c L (loc σ n0 K) := by
 obtain ⟨h1, h2, h3, h4⟩ := h
 exact ⟨qbv hfin h1 (by simp [mkB]) K, qbv hfin h2 (by simp) K, qbv hfin h3 (by simp) K, qbv hfin h4 (by simp) K⟩
theorem Mk.lt {n0 : Nat} (h : Mk cols q a b c L σ) (hfin : Fin σ n0) : q < n0 /\ a < n0 /\ b < n0 /\ c < n0 := by
 obtain ⟨h1, h2, h3, h4⟩ := h
 exact ⟨qcu hfin h1 (by simp [mkB]), qcu hfin h2 (by simp), qcu hfin h3 (by simp), qcu hfin h4 (by simp)⟩
theorem qpb1 {n0 : Nat} (hq : q < n0) (ha : a < n0) (hb : b < n0) (hc : c < n0) (K : List AB) : stM cols q a b c M (loc σ n0 K) = loc (stM cols q a b c M σ) n0 K := by
 funext r
 by_cases hr : r < n0
 .rw [qcf _ _ _ _ hr]
  unfold stM
  rw [qcf _ _ _ _ hr]
 .unfold stM loc
  rw [if_neg hr, if_neg hr, if_neg (by omega), if_neg (by omega), if_neg (by omega), if_neg (by omega)]
theorem qrm1 {n0 : Nat} (ha : a < n0) (hb : b < n0) (hc : c < n0) : (mkB cols L a b c).cl n0 := by
 unfold mkB
 simp [ha, hb, hc]
theorem qpb {n0 : Nat} (hcl : ∀ r, (σ r).cl n0) (ha : a < n0) (hb : b < n0) (hc : c < n0) : ∀ r, (stM cols q a b c M σ r).cl n0 := fun r => by
 unfold stM
 split
 .exact qrm1 ha hb hc
 split
 .trivial
 split
 .trivial
 split
 .trivial
 .exact hcl r
end
theorem qbr1 {P : Program} {f : FuncId} {args : List AV} {n n0 : Nat} {t : Nat -> AV} {σ : Nat -> AB} {L : List AB} {K : AV -> AS -> Prop} {x : AV} (σ' : Nat -> AB) (h : AC P f args (loc σ n0 L) fun y τ => y = x /\ τ = loc σ' n0 L) (hK : K x ⟨n, t, σ', n0, L⟩) : ACall P f args ⟨n, t, σ, n0, L⟩ K :=
 ⟨x, ⟨n, t, σ', n0, L⟩, h, ⟨rfl, rfl, rfl⟩, hK⟩
theorem qzi {P : Program} {f : FuncId} {fn : Func} {c : Code} {rs : List ResultVar} {args : List AV} {x : AV} {N : Nat} {σ σ' : Nat -> AB} (hf : P.funcs[f]? = some fn) (hN : fn.ntmps = N) (hb : fn.body = some c) (hr : fn.results = rs.toArray) (hlen : rs.length <= 4) (ha : Nat.ble args.length N = true) (hx : ∀ n, x.cl n)
  (h : ∀ n0, Fin σ n0 -> (∀ r, (σ r).cl n0) -> AV.fitss args -> Fin σ' n0 /\ (∀ r, (σ' r).cl n0) /\ awp P c (fun e s' => (e = .normal \/ e = .ret) /\ s'.n0 = n0 /\ s'.σ = σ' /\ ares P s' rs x) { n := N, t := qdf args 0, σ := σ, n0 := n0, L := [] }) : AC P f args σ fun y τ => y = x /\ τ = σ' := by
 subst hN
 refine qia hf hb hr hlen (Nat.le_of_ble_eq_true ha) fun n0 hfin hcl hft => ?_
 obtain ⟨g1, g2, g3⟩ := h n0 hfin hcl hft
 refine qfg g3 fun e s' ⟨h1, h2, h3, h4⟩ => ⟨h1, h2, x, h4, hx n0, fun k _ => by rw [h3]; exact g2 k, rfl, ?_⟩
 funext k
 unfold Proofs.YtkedbjjfmejbhaaGreatDoor.cut
 rw [h3]
 split
 .rfl
 .exact (g1 k (by omega)).symm
theorem qgi1 {cols : List Int} {q a b c : Nat} {M : List Ex} {σ : Nat -> AB} {n0 : Nat} (hfin : Fin σ n0) (hq : q < n0) (ha : a < n0) (hb : b < n0) (hc : c < n0) : Fin (stM cols q a b c M σ) n0 := fun r hr => by
 unfold stM
 rw [if_neg (by omega), if_neg (by omega), if_neg (by omega), if_neg (by omega)]
 exact hfin r hr
theorem qzp {P : Program} {ops : Array Oper} {K : AS -> Prop} {o : Oper} {l : List Oper} {s : AS} (h : match awant ops o s.t with
  | some b => qbm b (aevX P s o.op (fun x s1 => dstOk o.dst s1.n /\ aseqX P ops K l (s1.put o.dst x))) (dstOk o.dst s.n /\ aseqX P ops K l (s.put o.dst (.v undef)))
  | none => False) : aseqX P ops K (o :: l) s := h
theorem qbx1 {P : Program} {ops : Array Oper} {K : AS -> Prop} {s : AS} (h : K s) : aseqX P ops K [] s := h
theorem qpc1 {cols : List Int} {q a b c : Nat} {M R : List Ex} {τ : Nat -> AB} {B : AB} {n : Nat} (h : Mk cols q a b c M τ) (hB : B = mkB cols R a b c) (hn : n = R.length) :
  upd (upd (upd (upd τ a (.tail n 58 7)) b (.tail n 3 1)) q B) c (.obj (mapI (entI R R 0))) = stM cols q a b c R τ := by
 obtain ⟨n1, n2, n3, n4, n5, n6⟩ := h.ne
 subst hB hn
 funext r
 unfold stM upd
 by_cases h1 : r = c
 .subst h1; simp [n3, n5, n6]
 .rw [if_neg h1, if_neg h1]
  by_cases h2 : r = q
  .rw [if_pos h2, if_pos h2]
  .rw [if_neg h2, if_neg h2]
   by_cases h3 : r = b
   .subst h3; simp [n4]
   .rw [if_neg h3, if_neg h3]
end Go.Proofs.YtkedbjjfmejbhaaGreatDoor
