/- Walks: the operations on two values, of the program. -/
import Derived.Test.YtkedbjjfmejbhaaGreatDoorGe1
import Derived.Test.YtkedbjjfmejbhaaGreatDoorGe2
import Derived.Test.YtkedbjjfmejbhaaGreatDoorGe9
import Derived.Test.YtkedbjjfmejbhaaGreatDoorGe10
import Derived.Test.YtkedbjjfmejbhaaGreatDoorGe14
import Derived.Test.YtkedbjjfmejbhaaGreatDoorGe15
import Derived.Test.YtkedbjjfmejbhaaGreatDoorGe17
import Derived.Test.YtkedbjjfmejbhaaGreatDoorGe19
set_option linter.unusedSimpArgs false
set_option linter.unusedVariables false
namespace Go.Proofs.YtkedbjjfmejbhaaGreatDoor
open Go.RowKit Go.Lib
theorem qfb (n : Int) : Gives Tryz.prog 113 [.int n] (numV n).av := by
  refine qg Tryz.func113 Tryz.ntmps113 fun σ n0 hcl hft => ?_
  repeat' (first | (refine Stp.m ?_ <;> try simp (disch := first | omega | simp) [qc, -qe, -qi]) | refine qb fun K hK => ?_ | refine qa ?_ | (refine hK _ ?_; clear hK K))
  all_goals simp [numV, Val.av, -Val.av_fold]
theorem qdn (b : Bool) : Gives Tryz.prog 114 [.bool b] (boolV b).av := by
  cases b
  · refine qg Tryz.func114 Tryz.ntmps114 fun σ n0 hcl hft => ?_
    repeat' (first | (refine Stp.m ?_ <;> try simp (disch := first | omega | simp) [qc, -qe, -qi]) | refine qb fun K hK => ?_ | refine qa ?_ | (refine hK _ ?_; clear hK K))
    all_goals simp [boolV, Val.av, -Val.av_fold]
  · refine qg Tryz.func114 Tryz.ntmps114 fun σ n0 hcl hft => ?_
    repeat' (first | (refine Stp.m ?_ <;> try simp (disch := first | omega | simp) [qc, -qe, -qi]) | refine qb fun K hK => ?_ | refine qa ?_ | (refine hK _ ?_; clear hK K) | clear hK K)
    all_goals simp [boolV, Val.av, -Val.av_fold]
theorem qwh (x y : Int) : Gives Tryz.prog 132 [.int x, .int y] (.int (compareInt x y)) :=
  qvx fun X vals ha => by
    obtain ⟨v0, _, rfl, h0, v1, _, rfl, h1, h2⟩ := ha
    cases h2
    cases arg_v h0
    cases arg_v h1
    exact (Tryz.cmp_Compare_int x y X.w).mono fun r w' ⟨h1, h2⟩ => ⟨h1, by subst h2; exact Ext.refl _⟩
theorem qon1 (x y : ByteArray) : Gives Tryz.prog 133 [.str x, .str y] (.int (compareBytes x.data.toList y.data.toList)) :=
  qvx fun X vals ha => by
    obtain ⟨v0, _, rfl, h0, v1, _, rfl, h1, h2⟩ := ha
    cases h2
    cases arg_v h0
    cases arg_v h1
    exact (Tryz.strings_Compare x y X.w).mono fun r w' ⟨h1, h2⟩ => ⟨h1, by subst h2; exact Ext.refl _⟩
theorem qyh : ∀ {l : List Int}, (∀ j (h : j < l.length), l[j] = 0) -> orI l = 0
  | [], _ => rfl
  | x :: l, h => by
    have h0 : x = 0 := h 0 (by simp)
    rw [orI, if_neg (by simp [h0])]
    exact qyh fun j hj => h (j + 1) (by simpa using hj)
theorem qlp1 : ∀ {l : List Int} {k : Nat} (h : k < l.length), (∀ j (h : j < l.length), j < k -> l[j] = 0) -> l[k] ≠ 0 -> orI l = l[k]
  | x :: l, 0, _, _, hk => by rw [orI, if_pos (by simpa using hk)]; rfl
  | x :: l, k + 1, h, h0, hk => by
    have hx : x = 0 := h0 0 (by simp) (by omega)
    rw [orI, if_neg (by simp [hx])]
    have := qlp1 (l := l) (k := k) (by simpa using h) (fun j hj hjk => h0 (j + 1) (by simpa using hj) (by omega)) hk
    exact this
theorem por_g (l : List Int) (hl : l.length <= 1000000) : Gives Tryz.prog 131 [.sl (l.map AV.int)] (.int (orI l)) := by
  obtain ⟨R, hR⟩ : ∃ R, R = orI l := ⟨_, rfl⟩
  rw [<- hR]
  refine qg Tryz.func131 Tryz.ntmps131 fun σ n0 hcl hft => ?_
  repeat' (first | (refine Stp.m ?_ <;> try simp (disch := first | omega | simp) [qc, -qe, -qi]) | refine qb fun K hK => ?_ | refine qa ?_ | refine qd ?_ | (refine hK _ ?_; clear hK K))
  refine qk hcl (fun k : Nat => [(3, .int 0), (6, .sl (l.map AV.int)), (7, .int l.length), (8, .int k)]) (fun _ => [])
    (fun k => k <= l.length /\ ∀ j (h : j < l.length), j < k -> l[j] = 0) (fun k => l.length - k) 0 ⟨by omega, fun j h hj => by omega⟩ (by simp) fun k ⟨hk, he⟩ => ?_
  by_cases hlt : k < l.length
  · by_cases hx : l[k] = 0
    · repeat' (first | (refine Stp.m ?_ <;> try simp (disch := first | omega | simp) [qc, -qe, -qi, hlt, hx]) | refine qb fun K hK => ?_ | refine qa ?_ | refine qd ?_ | (refine hK _ ?_; clear hK K) | clear hK K)
      all_goals first
        | exact absurd hx (by assumption)
        | (refine ⟨k + 1, ⟨by omega, fun j h hj => ?_⟩, by omega, by simp⟩
           by_cases hjk : j < k
           · exact he j h hjk
           · obtain rfl : j = k := by omega
             exact hx)
    · have := qlp1 hlt he hx
      repeat' (first | ((first | ((with_reducible refine qj (fun hg => ?_) (fun hg => ?_)) <;> (try simp only [hg]) <;> (try simp only [gS] at hg) <;> (try (first | simp only [eq_false hg, gI] | simp only [eq_true hg, gI]))) | refine Stp.m ?_) <;> (try simp (disch := first | omega | simp) [qc, -qe, -qi, hlt, hx])) | refine qb fun K hK => ?_ | refine qa ?_ | refine qd ?_ | (refine hK _ ?_; clear hK K) | clear hK K)
      all_goals first
        | exact absurd (by assumption) hx
        | (rw [hR, this])
  · have := qyh fun j h => he j h (by omega)
    repeat' (first | (refine Stp.m ?_ <;> try simp (disch := first | omega | simp) [qc, -qe, -qi, hlt]) | refine qb fun K hK => ?_ | refine qa ?_ | (refine hK _ ?_; clear hK K) | clear hK K)
    all_goals (rw [hR, this])
theorem qhd (a b : Val) : Gives Tryz.prog 80 [a.av, b.av] (.int (cmpV a b)) := by
  have c1 := qwh a.k b.k
  have c2 := qwh a.n b.n
  have c3 := qon1 a.s b.s
  have c4 := por_g [compareInt a.k b.k, compareInt a.n b.n, compareBytes a.s.data.toList b.s.data.toList] (by simp)
  have e : cmpV a b = orI [compareInt a.k b.k, compareInt a.n b.n, compareBytes a.s.data.toList b.s.data.toList] := rfl
  rw [<- e] at c4
  generalize cmpV a b = C at *
  clear e
  obtain ⟨k, n, s⟩ := a
  obtain ⟨k2, n2, s2⟩ := b
  refine qg Tryz.func80 Tryz.ntmps80 fun σ n0 hcl hft => ?_
  repeat' (first | ((first | refine Stp.m ?_ | refine agH ?_) <;> (try simp (disch := first | omega | simp) [qc, -qe, -qi])) | refine qb fun K hK => ?_ | refine qa ?_ | refine qf ?_ | (refine hK _ ?_; clear hK K))
def pairA (a b : Val) : AV := .agg [.int a.k, .int a.n, .str a.s, .int b.k, .int b.n, .str b.s]
theorem qyl (n : Int) : Gives Tryz.prog 113 [.int (IntKind.i64.wrap n)] (numV (wrap64 n)).av := by
  have e : IntKind.i64.wrap n = wrap64 n := by rw [IntKind.wrap_i64, wrap64]
  rw [e]; exact qfb _
theorem qrw1 (a b : Val) : Gives Tryz.prog 115 [pairA a b] (numV (wrap64 (a.n + b.n))).av := by
  have c := qyl (a.n + b.n)
  generalize numV (wrap64 (a.n + b.n)) = R at *
  refine qg Tryz.func115 Tryz.ntmps115 fun σ n0 hcl hft => ?_
  repeat' (first | ((first | refine Stp.m ?_ | refine qh ?_) <;> (try simp (disch := first | omega | simp) [qc, -qe, -qi, pairA])) | refine qb fun K hK => ?_ | refine qa ?_ | (refine hK _ ?_; clear hK K))
theorem qsd1 (a b : Val) : Gives Tryz.prog 116 [pairA a b] (numV (wrap64 (a.n - b.n))).av := by
  have c := qyl (a.n - b.n)
  generalize numV (wrap64 (a.n - b.n)) = R at *
  refine qg Tryz.func116 Tryz.ntmps116 fun σ n0 hcl hft => ?_
  repeat' (first | ((first | refine Stp.m ?_ | refine qh ?_) <;> (try simp (disch := first | omega | simp) [qc, -qe, -qi, pairA])) | refine qb fun K hK => ?_ | refine qa ?_ | (refine hK _ ?_; clear hK K))
theorem qsb1 (a b : Val) : Gives Tryz.prog 117 [pairA a b] (numV (wrap64 (a.n * b.n))).av := by
  have c := qyl (a.n * b.n)
  generalize numV (wrap64 (a.n * b.n)) = R at *
  refine qg Tryz.func117 Tryz.ntmps117 fun σ n0 hcl hft => ?_
  repeat' (first | ((first | refine Stp.m ?_ | refine qh ?_) <;> (try simp (disch := first | omega | simp) [qc, -qe, -qi, pairA])) | refine qb fun K hK => ?_ | refine qa ?_ | (refine hK _ ?_; clear hK K))
theorem qrz1 (a b : Val) : Gives Tryz.prog 118 [pairA a b] (numV (divI a.n b.n)).av := by
  by_cases h0 : b.n = 0
  · have e : divI a.n b.n = 0 := by unfold divI; rw [if_pos h0]
    rw [e]
    have c := qfb 0
    generalize numV 0 = R at *
    refine qg Tryz.func118 Tryz.ntmps118 fun σ n0 hcl hft => ?_
    repeat' (first | ((first | refine Stp.m ?_ | refine qh ?_) <;> (try simp (disch := first | omega | simp) [qc, -qe, -qi, pairA, h0])) | refine qb fun K hK => ?_ | refine qa ?_ | (refine hK _ ?_; clear hK K))
    all_goals exact absurd h0 (by assumption)
  · have e : divI a.n b.n = wrap64 (a.n.tdiv b.n) := by unfold divI; rw [if_neg h0]
    rw [e]
    have c := qyl (a.n.tdiv b.n)
    generalize numV (wrap64 (a.n.tdiv b.n)) = R at *
    refine qg Tryz.func118 Tryz.ntmps118 fun σ n0 hcl hft => ?_
    repeat' (first | ((first | ((with_reducible refine qj (fun hg => ?_) (fun hg => ?_)) <;> (try simp only [hg]) <;> (try simp only [gS] at hg) <;> (try (first | simp only [eq_false hg, gI] | simp only [eq_true hg, gI]))) | refine Stp.m ?_ | refine qh ?_) <;> (try simp (disch := first | omega | simp) [qc, -qe, -qi, pairA, h0])) | refine qb fun K hK => ?_ | refine qa ?_ | (refine hK _ ?_; clear hK K))
    all_goals exact absurd (by assumption) h0
theorem qsa1 (a b : Val) : Gives Tryz.prog 119 [pairA a b] (numV (modI a.n b.n)).av := by
  by_cases h0 : b.n = 0
  · have e : modI a.n b.n = 0 := by unfold modI; rw [if_pos h0]
    rw [e]
    have c := qfb 0
    generalize numV 0 = R at *
    refine qg Tryz.func119 Tryz.ntmps119 fun σ n0 hcl hft => ?_
    repeat' (first | ((first | refine Stp.m ?_ | refine qh ?_) <;> (try simp (disch := first | omega | simp) [qc, -qe, -qi, pairA, h0])) | refine qb fun K hK => ?_ | refine qa ?_ | (refine hK _ ?_; clear hK K))
    all_goals exact absurd h0 (by assumption)
  · have e : modI a.n b.n = a.n.tmod b.n := by unfold modI; rw [if_neg h0]
    rw [e]
    have c := qfb (a.n.tmod b.n)
    generalize numV (a.n.tmod b.n) = R at *
    refine qg Tryz.func119 Tryz.ntmps119 fun σ n0 hcl hft => ?_
    repeat' (first | ((first | ((with_reducible refine qj (fun hg => ?_) (fun hg => ?_)) <;> (try simp only [hg]) <;> (try simp only [gS] at hg) <;> (try (first | simp only [eq_false hg, gI] | simp only [eq_true hg, gI]))) | refine Stp.m ?_ | refine qh ?_) <;> (try simp (disch := first | omega | simp) [qc, -qe, -qi, pairA, h0])) | refine qb fun K hK => ?_ | refine qa ?_ | (refine hK _ ?_; clear hK K))
    all_goals exact absurd (by assumption) h0
theorem plt_g (a b : Val) : Gives Tryz.prog 122 [pairA a b] (boolV (decide (cmpV a b < 0))).av := by
  have c1 := qhd a b
  simp only [Val.av] at c1
  generalize cmpV a b = C at *
  have c2 := qdn (decide (C < 0))
  generalize boolV (decide (C < 0)) = R at *
  refine qg Tryz.func122 Tryz.ntmps122 fun σ n0 hcl hft => ?_
  repeat' (first | ((first | refine Stp.m ?_ | refine qh ?_) <;> (try simp (disch := first | omega | simp) [qc, -qe, -qi, pairA])) | refine qb fun K hK => ?_ | refine qa ?_ | (refine hK _ ?_; clear hK K))
theorem ple_g (a b : Val) : Gives Tryz.prog 123 [pairA a b] (boolV (decide (cmpV a b <= 0))).av := by
  have c1 := qhd a b
  simp only [Val.av] at c1
  generalize cmpV a b = C at *
  have c2 := qdn (decide (C <= 0))
  generalize boolV (decide (C <= 0)) = R at *
  refine qg Tryz.func123 Tryz.ntmps123 fun σ n0 hcl hft => ?_
  repeat' (first | ((first | refine Stp.m ?_ | refine qh ?_) <;> (try simp (disch := first | omega | simp) [qc, -qe, -qi, pairA])) | refine qb fun K hK => ?_ | refine qa ?_ | (refine hK _ ?_; clear hK K))
theorem qom1 (a b : Val) : Gives Tryz.prog 124 [pairA a b] (boolV (decide (a.n = 1) && decide (b.n = 1))).av := by
  by_cases h1 : a.n = 1
  · have e : (decide (a.n = 1) && decide (b.n = 1)) = decide (b.n = 1) := by simp [h1]
    rw [e]
    have c : Gives Tryz.prog 114 [.bool (b.n == 1)] (boolV (decide (b.n = 1))).av := qdn _
    generalize boolV (decide (b.n = 1)) = R at *
    refine qg Tryz.func124 Tryz.ntmps124 fun σ n0 hcl hft => ?_
    repeat' (first | ((first | refine Stp.m ?_ | refine qh ?_) <;> (try simp (disch := first | omega | simp) [qc, -qe, -qi, pairA, h1])) | refine qb fun K hK => ?_ | refine qa ?_ | (refine hK _ ?_; clear hK K))
    all_goals exact absurd h1 (by assumption)
  · have e : (decide (a.n = 1) && decide (b.n = 1)) = false := by simp [h1]
    rw [e]
    have c : Gives Tryz.prog 114 [.bool (false)] (boolV (false)).av := qdn _
    generalize boolV (false) = R at *
    refine qg Tryz.func124 Tryz.ntmps124 fun σ n0 hcl hft => ?_
    repeat' (first | ((first | ((with_reducible refine qj (fun hg => ?_) (fun hg => ?_)) <;> (try simp only [hg]) <;> (try simp only [gS] at hg) <;> (try (first | simp only [eq_false hg, gI] | simp only [eq_true hg, gI]))) | refine Stp.m ?_ | refine qh ?_) <;> (try simp (disch := first | omega | simp) [qc, -qe, -qi, pairA, h1])) | refine qb fun K hK => ?_ | refine qa ?_ | (refine hK _ ?_; clear hK K))
    all_goals exact absurd (by assumption) h1
theorem qrx1 (a b : Val) : Gives Tryz.prog 125 [pairA a b] (boolV (decide (a.n = 1) || decide (b.n = 1))).av := by
  by_cases h1 : a.n = 1
  · have e : (decide (a.n = 1) || decide (b.n = 1)) = true := by simp [h1]
    rw [e]
    have c : Gives Tryz.prog 114 [.bool (true)] (boolV (true)).av := qdn _
    generalize boolV (true) = R at *
    refine qg Tryz.func125 Tryz.ntmps125 fun σ n0 hcl hft => ?_
    repeat' (first | ((first | refine Stp.m ?_ | refine qh ?_) <;> (try simp (disch := first | omega | simp) [qc, -qe, -qi, pairA, h1])) | refine qb fun K hK => ?_ | refine qa ?_ | (refine hK _ ?_; clear hK K))
    all_goals exact absurd h1 (by assumption)
  · have e : (decide (a.n = 1) || decide (b.n = 1)) = decide (b.n = 1) := by simp [h1]
    rw [e]
    have c : Gives Tryz.prog 114 [.bool (b.n == 1)] (boolV (decide (b.n = 1))).av := qdn _
    generalize boolV (decide (b.n = 1)) = R at *
    refine qg Tryz.func125 Tryz.ntmps125 fun σ n0 hcl hft => ?_
    repeat' (first | ((first | ((with_reducible refine qj (fun hg => ?_) (fun hg => ?_)) <;> (try simp only [hg]) <;> (try simp only [gS] at hg) <;> (try (first | simp only [eq_false hg, gI] | simp only [eq_true hg, gI]))) | refine Stp.m ?_ | refine qh ?_) <;> (try simp (disch := first | omega | simp) [qc, -qe, -qi, pairA, h1])) | refine qb fun K hK => ?_ | refine qa ?_ | (refine hK _ ?_; clear hK K))
    all_goals exact absurd (by assumption) h1
theorem qqs1 (a b : Val) : aeq Tryz.prog .eql 63 (.agg [.int a.k, .int a.n, .str a.s]) (.agg [.int b.k, .int b.n, .str b.s]) = some (eqV a b) := by
  simp only [aeq, aeqS, Val.q, feq, feq1, eqV]
  by_cases h1 : a.k = b.k <;> by_cases h2 : a.n = b.n <;> by_cases h3 : a.s.toList = b.s.toList <;> simp [h1, h2, h3]
theorem qrp1 (a b : Val) : aeq Tryz.prog .neq 63 (.agg [.int a.k, .int a.n, .str a.s]) (.agg [.int b.k, .int b.n, .str b.s]) = some (!eqV a b) := by
  simp only [aeq, aeqS, Val.q, feq, feq1, eqV]
  by_cases h1 : a.k = b.k <;> by_cases h2 : a.n = b.n <;> by_cases h3 : a.s.toList = b.s.toList <;> simp [h1, h2, h3]
theorem peq_g (a b : Val) : Gives Tryz.prog 120 [pairA a b] (boolV (eqV a b)).av := by
  have e := qqs1 a b
  have c := qdn (eqV a b)
  generalize eqV a b = q at *
  generalize boolV q = R at *
  refine qg Tryz.func120 Tryz.ntmps120 fun σ n0 hcl hft => ?_
  repeat' (first | ((first | refine Stp.m ?_ | refine qh ?_) <;> (try simp (disch := first | omega | simp) [qc, -qe, -qi, pairA, e, -Val.av_fold])) | refine qb fun K hK => ?_ | refine qa ?_ | (refine hK _ ?_; clear hK K))
  all_goals rfl
theorem pne_g (a b : Val) : Gives Tryz.prog 121 [pairA a b] (boolV (!eqV a b)).av := by
  have e := qrp1 a b
  have c := qdn (!eqV a b)
  generalize (!eqV a b) = q at *
  generalize boolV q = R at *
  refine qg Tryz.func121 Tryz.ntmps121 fun σ n0 hcl hft => ?_
  repeat' (first | ((first | refine Stp.m ?_ | refine qh ?_) <;> (try simp (disch := first | omega | simp) [qc, -qe, -qi, pairA, e, -Val.av_fold])) | refine qb fun K hK => ?_ | refine qa ?_ | (refine hK _ ?_; clear hK K))
  all_goals rfl
theorem qoo1 (a b : Val) (hz : a.s.size + b.s.size <= 9223372036854775807) : Gives Tryz.prog 126 [pairA a b] (textV (joinS a.s b.s)).av := by
  by_cases h2 : (200 : Int) < (a.s.size : Int) + b.s.size
  · have e : joinS a.s b.s = (a.s ++ b.s).extract 0 200 := by unfold joinS; rw [show min (a.s.size + b.s.size) 200 = 200 by omega]
    rw [e]
    have h3 : 200 <= a.s.size + b.s.size := by omega
    refine qg Tryz.func126 Tryz.ntmps126 fun σ n0 hcl hft => ?_
    repeat' (first | (refine Stp.m ?_ <;> try simp (disch := first | omega | simp) [qc, -qe, -qi, pairA, hz, h2, h3]) | refine qb fun K hK => ?_ | refine qa ?_ | (refine hK _ ?_; clear hK K))
    all_goals rfl
  · have e : joinS a.s b.s = (a.s ++ b.s).extract 0 (a.s.size + b.s.size) := by unfold joinS; rw [show min (a.s.size + b.s.size) 200 = a.s.size + b.s.size by omega]
    rw [e]
    have h3 : (0 : Int) <= (a.s.size : Int) + b.s.size := by omega
    have h4 : ((a.s.size : Int) + b.s.size).toNat = a.s.size + b.s.size := by omega
    refine qg Tryz.func126 Tryz.ntmps126 fun σ n0 hcl hft => ?_
    repeat' (first | (refine Stp.m ?_ <;> try simp (disch := first | omega | simp) [qc, -qe, -qi, pairA, hz, h2, h3, h4]) | refine qb fun K hK => ?_ | refine qa ?_ | (refine hK _ ?_; clear hK K))
    all_goals rfl
theorem qhl1 (n : Int) : Gives Tryz.prog 76 [.int n] (numV n).av := qlz1 n
theorem qma1 (s : ByteArray) : Gives Tryz.prog 150 [.str s] (textV s).av := qhm1 s
theorem qnb (b : Bool) : Gives Tryz.prog 39 [.bool b] (boolV b).av := by
 cases b
 .exact qze
 .exact qhn1
theorem cmp_g (a b : Val) : Gives Tryz.prog 80 [a.av, b.av] (.int (cmpV a b)) := qhd a b
theorem hw64 (n : Int) : IntKind.i64.wrap n = wrap64 n := by rw [IntKind.wrap_i64]; unfold wrap64; rfl
theorem qmn1 (a b : Val) : Val.eqB a b = eqV a b := by
 rw [Bool.eq_iff_iff]
 simp [Val.eqB, eqV]
def Upto (σ τ : Nat -> AB) : Prop := ∀ r, σ r ≠ .unborn -> τ r = σ r
theorem Upto.at {σ τ : Nat -> AB} (h : Upto σ τ) {r : Nat} {ab : AB} (hr : σ r = ab) (hn : ab ≠ .unborn) : τ r = ab := by rw [h r (by rw [hr]; exact hn), hr]
theorem qja {σ : Nat -> AB} {n0 : Nat} (h : Fin σ n0) (L : List AB) : Upto σ (loc σ n0 L) := fun r hr => qcf σ n0 r L (Nat.lt_of_not_le fun hn => hr (h r hn))
section
variable {x : Ins} {L : List Delta} {σ : Nat -> AB} {a b c d m v n : Nat}
set_option maxHeartbeats 4000000 in
theorem qgg1 (hb : σ b = .cells [.int x.op, .int x.tgt, .int x.a, .int x.b, .int x.c, .int x.n, .str x.s] 58) (ha : σ a = .cells [.ptr m 0] 156) (hm : σ m = .cells [.sl (L.map Delta.av), .own v n] 159) {i : Nat} (hi : i < L.length)
  (hop : x.op = 0 \/ x.op = 1 \/ x.op = 2 \/ x.op = 3 \/ x.op = 5) (hc : x.op = 3 -> 0 <= x.n /\ x.n < L[i].row.length) : qbc Tryz.prog 149 [.int i, .ptr b 0, .ptr a 0] σ (opI L[i].time L[i].row x []).av := by
 obtain ⟨R, hR⟩ : ∃ R, R = opI L[i].time L[i].row x [] := ⟨_, rfl⟩
 rw [<- hR]
 unfold opI at hR
 rw [if_neg (by omega)] at hR
 unfold opV at hR
 refine qn Tryz.func149 Tryz.ntmps149 rfl rfl (by decide) rfl (by intro n; simp) fun n0 hfin hcl hft => ?_
 have hl1 := qbv hfin hb (by simp)
 have hl2 := qbv hfin ha (by simp)
 have hl3 := qbv hfin hm (by simp)
 repeat' (first | ((first | ((with_reducible refine qj (fun hg => ?_) (fun hg => ?_)) <;> (try simp only [hg]) <;> (try simp only [gS] at hg) <;> (try (first | simp only [eq_false hg, gI] | simp only [eq_true hg, gI]))) | refine Stp.m ?_ | refine acall (qhl1 _) ?_ | refine acall (qnb _) ?_ | refine acall (qma1 _) ?_) <;> (try simp (disch := first | omega | simp) [qc, -qe, -qi, hl1, hl2, hl3, hi])) | refine sideA ?_ | refine qb fun K hK => ?_ | refine qa ?_ | refine qf ?_ | refine qd ?_ | (refine hK _ ?_; clear hK K) | clear hK K)
 all_goals
  by_cases h3 : x.op = 3
  .obtain ⟨q0, q1⟩ := hc h3
   first
   | (exfalso; omega)
   | (rw [hR, if_neg (by omega), if_neg (by omega), if_neg (by omega), if_pos h3, List.getD_eq_getElem?_getD, List.getElem?_eq_getElem (by omega)]; rfl)
  .first
   | (exfalso; omega)
   | (rw [hR]; simp_all [Val.av, numV, boolV, textV, hw64, -Val.av_fold]; done)
set_option maxHeartbeats 4000000 in
theorem qrr1 {A : List Val} (hb : σ b = .cells [.int x.op, .int x.tgt, .int x.a, .int x.b, .int x.c, .int x.n, .str x.s] 58) (ha : σ a = .cells [.sl (A.map Val.av)] 53) {i : Nat} (hi : i < A.length)
  (hop : x.op = 6 \/ x.op = 7 \/ x.op = 20) (time : Int) (row : List Val) : qbc Tryz.prog 151 [.int i, .ptr b 0, .ptr a 0] σ (opI time row x [A[i]]).av := by
 obtain ⟨R, hR⟩ : ∃ R, R = opI time row x [A[i]] := ⟨_, rfl⟩
 rw [<- hR]
 unfold opI at hR
 rw [if_neg (by omega)] at hR
 unfold opV at hR
 rw [if_neg (by omega), if_neg (by omega), if_neg (by omega), if_neg (by omega), if_neg (by omega), if_neg (by omega)] at hR
 refine qn Tryz.func151 Tryz.ntmps151 rfl rfl (by decide) rfl (by intro n; simp) fun n0 hfin hcl hft => ?_
 have hl1 := qbv hfin hb (by simp)
 have hl2 := qbv hfin ha (by simp)
 repeat' (first | ((first | ((with_reducible refine qj (fun hg => ?_) (fun hg => ?_)) <;> (try simp only [hg]) <;> (try simp only [gS] at hg) <;> (try (first | simp only [eq_false hg, gI] | simp only [eq_true hg, gI]))) | refine Stp.m ?_ | refine acall (qhl1 _) ?_ | refine acall (qnb _) ?_) <;> (try simp (disch := first | omega | simp) [qc, -qe, -qi, hl1, hl2, hi])) | refine qb fun K hK => ?_ | refine qa ?_ | refine qd ?_ | (refine hK _ ?_; clear hK K) | clear hK K)
 all_goals (rw [hR]; simp_all [Val.av, numV, boolV, textV, hw64, -Val.av_fold])
theorem div_g (p q : Int) : Gives Tryz.prog 184 [.int p, .int q] (.tup [.int (divI p q), .int (modI p q)]) := by
 by_cases h : q = 0
 .subst h
  refine qg Tryz.func184 Tryz.ntmps184 fun σ n0 hcl hft => ?_
  repeat' (first | (refine Stp.m ?_ <;> try simp (disch := first | omega | simp) [qc, -qe, -qi]) | refine qb fun K hK => ?_ | refine qa ?_ | (refine hK _ ?_; clear hK K) | clear hK K)
  all_goals simp [divI, modI]
 .have e1 : divI p q = wrap64 (p.tdiv q) := if_neg h
  have e2 : modI p q = p.tmod q := if_neg h
  rw [e1, e2]
  refine qg Tryz.func184 Tryz.ntmps184 fun σ n0 hcl hft => ?_
  repeat' (first | ((first | ((with_reducible refine qj (fun hg => ?_) (fun hg => ?_)) <;> (try simp only [hg]) <;> (try simp only [gS] at hg) <;> (try (first | simp only [eq_false hg, gI] | simp only [eq_true hg, gI]))) | refine Stp.m ?_) <;> (try simp (disch := first | omega | simp) [qc, -qe, -qi, h])) | refine qb fun K hK => ?_ | refine qa ?_ | refine qf ?_ | (refine hK _ ?_; clear hK K) | clear hK K)
  all_goals first | exact absurd (by assumption) h | exact (hw64 _).symm
set_option maxHeartbeats 4000000 in
theorem num_g (op : Int) (p q : Val) (hop : 8 <= op /\ op <= 12) : Gives Tryz.prog 153 [.int op, .int p.n, .int q.n] (binV op p q).av := by
 obtain ⟨R, hR⟩ : ∃ R, R = binV op p q := ⟨_, rfl⟩
 rw [<- hR]
 unfold binV at hR
 refine qg Tryz.func153 Tryz.ntmps153 fun σ n0 hcl hft => ?_
 repeat' (first | ((first | ((with_reducible refine qj (fun hg => ?_) (fun hg => ?_)) <;> (try simp only [hg]) <;> (try simp only [gS] at hg) <;> (try (first | simp only [eq_false hg, gI] | simp only [eq_true hg, gI]))) | refine Stp.m ?_ | refine acall (div_g _ _) ?_ | refine acall (qhl1 _) ?_) <;> (try simp (disch := first | omega | simp) [qc, -qe, -qi])) | refine qb fun K hK => ?_ | refine qa ?_ | refine qd ?_ | (refine hK _ ?_; clear hK K) | clear hK K)
 all_goals (rw [hR]; simp_all [Val.av, numV, boolV, textV, hw64, -Val.av_fold])
 all_goals (rw [if_pos (by omega)]; exact ⟨rfl, rfl, rfl⟩)
set_option maxHeartbeats 8000000 in
theorem qst1 {A B : List Val} (hb : σ b = .cells [.int x.op, .int x.tgt, .int x.a, .int x.b, .int x.c, .int x.n, .str x.s] 58) (ha : σ a = .cells [.sl (A.map Val.av)] 53) (hc : σ c = .cells [.sl (B.map Val.av)] 53)
  {i : Nat} (hi : i < A.length) (hi2 : i < B.length) (hop : 8 <= x.op /\ x.op <= 19) (hs : A[i].s.size + B[i].s.size <= 1000) (time : Int) (row : List Val) : qbc Tryz.prog 152 [.int i, .ptr b 0, .ptr a 0, .ptr c 0] σ (opI time row x [A[i], B[i]]).av := by
 obtain ⟨R, hR⟩ : ∃ R, R = opI time row x [A[i], B[i]] := ⟨_, rfl⟩
 rw [<- hR]
 unfold opI at hR
 rw [if_neg (by omega)] at hR
 unfold opV at hR
 rw [if_neg (by omega), if_neg (by omega), if_neg (by omega), if_neg (by omega), if_neg (by omega), if_neg (by omega), if_neg (by omega), if_neg (by omega), if_neg (by omega), if_neg (by omega)] at hR
 rw [show [A[i], B[i]].getD 0 zeroV = A[i] from rfl, show [A[i], B[i]].getD 1 zeroV = B[i] from rfl] at hR
 unfold binV at hR
 have hnum : x.op <= 12 -> Gives Tryz.prog 153 [.int x.op, .int A[i].n, .int B[i].n] R.av := fun h => by
  have := num_g x.op A[i] B[i] ⟨by omega, h⟩
  unfold binV at this
  rwa [<- hR] at this
 have hsz : A[i].s.size + B[i].s.size <= 9223372036854775807 := by omega
 have hM : (if (200 : Int) < (A[i].s.size : Int) + (B[i].s.size : Int) then 200 else (A[i].s.size : Int) + (B[i].s.size : Int)) = ((min (A[i].s.size + B[i].s.size) 200 : Nat) : Int) := by split <;> omega
 have hM2 : min (A[i].s.size + B[i].s.size) 200 <= A[i].s.size + B[i].s.size := by omega
 have hJ : joinS A[i].s B[i].s = (A[i].s ++ B[i].s).extract 0 (min (A[i].s.size + B[i].s.size) 200) := rfl
 generalize hMM : min (A[i].s.size + B[i].s.size) 200 = M at *
 refine qn Tryz.func152 Tryz.ntmps152 rfl rfl (by decide) rfl (by intro n; simp) fun n0 hfin hcl hft => ?_
 have hl1 := qbv hfin hb (by simp)
 have hl2 := qbv hfin ha (by simp)
 have hl3 := qbv hfin hc (by simp)
 repeat' (first | ((first | ((with_reducible refine qj (fun hg => ?_) (fun hg => ?_)) <;> (try simp only [hg]) <;> (try simp only [gS] at hg) <;> (try (first | simp only [eq_false hg, gI] | simp only [eq_true hg, gI]))) | refine Stp.m ?_ | refine qet (cmp_g _ _) ?_ | refine acall (qnb _) ?_ | refine qet (qnb _) ?_ | refine acall (qma1 _) ?_ | refine qet (hnum (by omega)) ?_) <;> (try simp (disch := first | omega | simp) [qc, -qe, -qi, hl1, hl2, hl3, hi, hi2, hsz, hM, hM2])) | refine qb fun K hK => ?_ | refine qa ?_ | refine qf ?_ | refine qd ?_ | (refine hK _ ?_; clear hK K) | clear hK K)
 all_goals (rw [hR]; simp_all [Val.av, numV, boolV, textV, hw64, qmn1, -Val.av_fold])
set_option maxHeartbeats 4000000 in
theorem qkr1 {A B C : List Val} (ha : σ a = .cells [.sl (A.map Val.av)] 53) (hb : σ b = .cells [.sl (B.map Val.av)] 53) (hc : σ c = .cells [.sl (C.map Val.av)] 53)
  {i : Nat} (hi : i < A.length) (hi2 : i < B.length) (hi3 : i < C.length) : qbc Tryz.prog 154 [.int i, .ptr a 0, .ptr b 0, .ptr c 0] σ (ifV [A[i], B[i], C[i]]).av := by
 obtain ⟨R, hR⟩ : ∃ R, R = ifV [A[i], B[i], C[i]] := ⟨_, rfl⟩
 rw [<- hR]
 unfold ifV at hR
 rw [show [A[i], B[i], C[i]].getD 0 zeroV = A[i] from rfl, show [A[i], B[i], C[i]].getD 1 zeroV = B[i] from rfl, show [A[i], B[i], C[i]].getD 2 zeroV = C[i] from rfl] at hR
 refine qn Tryz.func154 Tryz.ntmps154 rfl rfl (by decide) rfl (by intro n; simp) fun n0 hfin hcl hft => ?_
 have hl1 := qbv hfin ha (by simp)
 have hl2 := qbv hfin hb (by simp)
 have hl3 := qbv hfin hc (by simp)
 repeat' (first | ((first | ((with_reducible refine qj (fun hg => ?_) (fun hg => ?_)) <;> (try simp only [hg]) <;> (try simp only [gS] at hg) <;> (try (first | simp only [eq_false hg, gI] | simp only [eq_true hg, gI]))) | refine Stp.m ?_) <;> (try simp (disch := first | omega | simp) [qc, -qe, -qi, hl1, hl2, hl3, hi, hi2, hi3])) | refine qb fun K hK => ?_ | refine qa ?_ | (refine hK _ ?_; clear hK K) | clear hK K)
 all_goals (rw [hR]; simp_all)
end
theorem qie : ∀ (x y : List UInt8), (compareBytes x y < 0 ↔ Op.bytesLess x y = true) /\ (compareBytes x y <= 0 ↔ Op.bytesLess y x = false)
 | [], [] => by simp [compareBytes, Op.bytesLess]
 | [], _ :: _ => by simp [compareBytes, Op.bytesLess]
 | _ :: _, [] => by simp [compareBytes, Op.bytesLess]
 | a :: x, b :: y => by
  have ih := qie x y
  simp only [compareBytes, Op.bytesLess, Bool.or_eq_true, Bool.and_eq_true, beq_iff_eq, decide_eq_true_eq, Bool.or_eq_false_iff, Bool.and_eq_false_iff, decide_eq_false_iff_not]
  by_cases h1 : a < b
  .have h2 : ¬ b < a := by intro h; exact absurd (UInt8.lt_trans h1 h) (UInt8.lt_irrefl a)
   have h3 : ¬ b = a := by rintro rfl; exact UInt8.lt_irrefl b h1
   rw [if_pos h1]
   simp [h1, h2, h3]
  .by_cases h2 : b < a
   .have h3 : ¬ a = b := by rintro rfl; exact UInt8.lt_irrefl a h2
    rw [if_neg h1, if_pos h2]
    simp [h1, h2, h3]
   .have h3 : a = b := by
     apply UInt8.toNat.inj
     rw [UInt8.lt_iff_toNat_lt] at h1 h2
     omega
    subst h3
    rw [if_neg h1, if_neg h1]
    simp [ih]
section
variable (call : Int -> List Val -> Val) (time : Int) (row params : List Val)
end

theorem qlg : ∀ (x y : List UInt8), compareBytes x y = -1 \/ compareBytes x y = 0 \/ compareBytes x y = 1
 | [], [] => .inr (.inl rfl)
 | [], _ :: _ => .inl rfl
 | _ :: _, [] => .inr (.inr rfl)
 | a :: x, b :: y => by
  rw [compareBytes]
  split
  .exact .inl rfl
  .split
   .exact .inr (.inr rfl)
   .exact qlg x y
theorem qru : ∀ (x y : List UInt8), compareBytes x y = 0 -> x = y
 | [], [], _ => rfl
 | [], _ :: _, h => by simp [compareBytes] at h
 | _ :: _, [], h => by simp [compareBytes] at h
 | a :: x, b :: y, h => by
  rw [compareBytes] at h
  by_cases h1 : a < b
  .rw [if_pos h1] at h; cases h
  .by_cases h2 : b < a
   .rw [if_neg h1, if_pos h2] at h; cases h
   .rw [if_neg h1, if_neg h2] at h
    have : a = b := by
     apply UInt8.toNat.inj
     rw [UInt8.lt_iff_toNat_lt] at h1 h2
     omega
    rw [this, qru x y h]
theorem qcf1 {x y : List UInt8} (h1 : Op.bytesLess x y = false) (h2 : ¬ x = y) : Op.bytesLess y x = true := by
 cases h : Op.bytesLess y x with
 | true => rfl
 | false =>
  have b1 := qie x y
  have e1 := b1.2.2 h
  have e2 : ¬ compareBytes x y < 0 := fun h => by rw [b1.1.1 h] at h1; cases h1
  exact absurd (qru x y (by omega)) h2
theorem qmk1 (u v : Val) : cmpV u v = if u.k < v.k then -1 else if v.k < u.k then 1 else if u.n < v.n then -1 else if v.n < u.n then 1 else if Op.bytesLess u.s.toList v.s.toList = true then -1 else if Op.bytesLess v.s.toList u.s.toList = true then 1 else 0 := by
 have b1 := qie u.s.data.toList v.s.data.toList
 have b2 := qie v.s.data.toList u.s.data.toList
 have b3 := qlg u.s.data.toList v.s.data.toList
 rw [ByteArray.toList_eq, ByteArray.toList_eq]
 unfold cmpV
 simp only [orI, compareInt]
 generalize compareBytes u.s.data.toList v.s.data.toList = C at *
 by_cases h1 : u.k < v.k
 .simp [h1]
 .by_cases h2 : v.k < u.k
  .simp [h1, h2]
  .by_cases h3 : u.n < v.n
   .simp [h1, h2, h3]
   .by_cases h4 : v.n < u.n
    .simp [h1, h2, h3, h4]
    .simp only [if_neg h1, if_neg h2, if_neg h3, if_neg h4, if_neg (show ¬ u.k > v.k from h2), if_neg (show ¬ u.n > v.n from h4)]
     by_cases h5 : Op.bytesLess u.s.data.toList v.s.data.toList = true
     .rw [if_pos h5]
      have := b1.1.2 h5
      simp; omega
     .rw [if_neg h5]
      by_cases h6 : Op.bytesLess v.s.data.toList u.s.data.toList = true
      .rw [if_pos h6]
       have h7 : ¬ C < 0 := fun h => h5 (b1.1.1 h)
       have h8 : ¬ C <= 0 := fun h => by rw [b1.2.1 h] at h6; cases h6
       simp; omega
      .rw [if_neg h6]
       have h7 : ¬ C < 0 := fun h => h5 (b1.1.1 h)
       have h8 := b1.2.2 (by simpa using h6)
       simp; omega
theorem qow1 (u v : Val) : Gives Tryz.prog 100 [u.av, v.av] (.int (cmpV u v)) := by
 have e := qmk1 u v
 obtain ⟨R, hR⟩ : ∃ R, cmpV u v = R := ⟨_, rfl⟩
 rw [hR] at e ⊢
 clear hR
 refine qg Tryz.func100 Tryz.ntmps100 fun σ n0 hcl hft => ?_
 repeat' (first | ((first | ((with_reducible refine qj (fun hg => ?_) (fun hg => ?_)) <;> (try simp only [hg]) <;> (try simp only [gS] at hg) <;> (try (first | simp only [eq_false hg, gI] | simp only [eq_true hg, gI]))) | refine Stp.m ?_) <;> (try simp (disch := first | omega | simp) [qc, -qe, -qi])) | refine qb fun K hK => ?_ | refine qa ?_ | (refine hK _ ?_; clear hK K) | clear hK K)
 all_goals (clear hcl hft; first | (simp_all; done) | (simp_all; exact qcf1 (by assumption) (by assumption)))
theorem qry {a b : List Val} {i : Nat} (ha : i < a.length) (hb : i < b.length) : cmpR (a.drop i) (b.drop i) = if cmpV a[i] b[i] ≠ 0 then cmpV a[i] b[i] else cmpR (a.drop (i + 1)) (b.drop (i + 1)) := by
 rw [List.drop_eq_getElem_cons ha, List.drop_eq_getElem_cons hb]; rfl
theorem qrz {a b : List Val} (h : a = []) : cmpR a b = if b.length = 0 then 0 else -1 := by
 subst h; cases b <;> rfl
theorem qnp {a b : List Val} (h : b = []) : cmpR a b = if a.length = 0 then 0 else 1 := by
 subst h; cases a <;> rfl
theorem qov1 (a b : List Val) : Gives Tryz.prog 53 [.sl (a.map Val.av), .sl (b.map Val.av)] (.int (cmpR a b)) := by
 obtain ⟨R, hR⟩ : ∃ R, R = cmpR a b := ⟨_, rfl⟩
 rw [<- hR]
 refine qg Tryz.func53 Tryz.ntmps53 fun σ n0 hcl hft => ?_
 have hl : a.length <= 9223372036854775807 := by have := hft; simp at this; omega
 repeat' (first | (refine Stp.m ?_ <;> try simp (disch := first | omega | simp) [qc, -qe, -qi]) | refine qb fun K hK => ?_ | refine qa ?_ | refine qd ?_ | (refine hK _ ?_; clear hK K))
 refine qk hcl (fun k : Nat => [(0, .sl (a.map Val.av)), (1, .sl (b.map Val.av)), (5, .int k)]) (fun _ => [])
  (fun k => k <= a.length /\ k <= b.length /\ R = cmpR (a.drop k) (b.drop k)) (fun k => a.length - k) 0 ⟨by omega, by omega, by simpa using hR⟩ (by simp) fun k ⟨hka, hkb, he⟩ => ?_
 by_cases h1 : k < a.length
 .by_cases h2 : k < b.length
  .rw [qry h1 h2] at he
   have c1 := qow1 a[k] b[k]
   by_cases h3 : cmpV a[k] b[k] = 0
   .rw [if_neg (by simpa using h3)] at he
    rw [h3] at c1
    repeat' (first | ((first | refine Stp.m ?_ | refine agH ?_) <;> (try simp (disch := first | omega | simp) [qc, -qe, -qi, h1, h2])) | refine qb fun K hK => ?_ | refine qa ?_ | refine qf ?_ | refine qd ?_ | (refine hK _ ?_; clear hK K) | clear hK K)
    all_goals exact ⟨k + 1, ⟨by omega, by omega, he⟩, by omega, by simp⟩
   .rw [if_pos h3] at he
    rw [<- he] at c1 h3
    have hc1 : (R != 0) = true := by simpa using h3
    repeat' (first | ((first | refine Stp.m ?_ | refine agH ?_) <;> (try simp (disch := first | omega | simp) [qc, -qe, -qi, h1, h2, hc1])) | refine qb fun K hK => ?_ | refine qa ?_ | refine qf ?_ | refine qd ?_ | (refine hK _ ?_; clear hK K))
  .rw [qnp (List.drop_of_length_le (by omega)), if_neg (by rw [List.length_drop]; omega)] at he
   have h3 : ¬ (a.length : Int) < b.length := by omega
   have h4 : (b.length : Int) < a.length := by omega
   repeat' (first | (refine Stp.m ?_ <;> try simp (disch := first | omega | simp) [qc, -qe, -qi, h1, h2, h3, h4]) | refine qb fun K hK => ?_ | refine qa ?_ | (refine hK _ ?_; clear hK K) | clear hK K)
   all_goals rw [he]
 .rw [qrz (List.drop_of_length_le (by omega))] at he
  by_cases h2 : k < b.length
  .rw [if_neg (by rw [List.length_drop]; omega)] at he
   have h3 : (a.length : Int) < b.length := by omega
   repeat' (first | (refine Stp.m ?_ <;> try simp (disch := first | omega | simp) [qc, -qe, -qi, h1, h3]) | refine qb fun K hK => ?_ | refine qa ?_ | (refine hK _ ?_; clear hK K) | clear hK K)
   all_goals rw [he]
  .rw [if_pos (by rw [List.length_drop]; omega)] at he
   have h3 : ¬ (a.length : Int) < b.length := by omega
   have h4 : ¬ (b.length : Int) < a.length := by omega
   repeat' (first | (refine Stp.m ?_ <;> try simp (disch := first | omega | simp) [qc, -qe, -qi, h1, h3, h4]) | refine qb fun K hK => ?_ | refine qa ?_ | (refine hK _ ?_; clear hK K) | clear hK K)
   all_goals rw [he]
theorem qtv (x y : Delta) : Gives Tryz.prog 37 [x.av, y.av] (.int (cmpD x y)) := by
 have c1 := qov1 x.row y.row
 obtain ⟨R, hR⟩ : ∃ R, R = cmpD x y := ⟨_, rfl⟩
 rw [<- hR]
 unfold cmpD compareInt at hR
 generalize cmpR x.row y.row = C at *
 obtain ⟨xt, xr, xn⟩ := x
 obtain ⟨yt, yr, yn⟩ := y
 simp only at *
 by_cases h1 : xt < yt
 .rw [if_pos (by rw [if_pos h1]; decide), if_pos h1] at hR
  refine qg Tryz.func37 Tryz.ntmps37 fun σ n0 hcl hft => ?_
  repeat' (first | (refine Stp.m ?_ <;> try simp (disch := first | omega | simp) [qc, -qe, -qi, h1]) | refine qb fun K hK => ?_ | refine qa ?_ | (refine hK _ ?_; clear hK K) | clear hK K)
  all_goals rw [hR]
 .by_cases h2 : yt < xt
  .rw [if_pos (by rw [if_neg h1, if_pos h2]; decide), if_neg h1, if_pos h2] at hR
   refine qg Tryz.func37 Tryz.ntmps37 fun σ n0 hcl hft => ?_
   repeat' (first | (refine Stp.m ?_ <;> try simp (disch := first | omega | simp) [qc, -qe, -qi, h1, h2]) | refine qb fun K hK => ?_ | refine qa ?_ | (refine hK _ ?_; clear hK K) | clear hK K)
   all_goals rw [hR]
  .rw [if_neg (by rw [if_neg h1, if_neg h2]; decide)] at hR
   subst hR
   refine qg Tryz.func37 Tryz.ntmps37 fun σ n0 hcl hft => ?_
   repeat' (first | ((first | refine Stp.m ?_ | refine qh ?_) <;> (try simp (disch := first | omega | simp) [qc, -qe, -qi, h1, h2])) | refine qb fun K hK => ?_ | refine qa ?_ | (refine hK _ ?_; clear hK K))
theorem qpu (a b : List Val) : Gives Tryz.prog 179 [.sl (a.map Val.av), .sl (b.map Val.av), .fn 80 []] (.int (cmpR a b)) := by
 obtain ⟨R, hR⟩ : ∃ R, R = cmpR a b := ⟨_, rfl⟩
 rw [<- hR]
 refine qg Tryz.func179 Tryz.ntmps179 fun σ n0 hcl hft => ?_
 have hl : a.length <= 9223372036854775807 := by have := hft; simp at this; omega
 repeat' (first | (refine Stp.m ?_ <;> try simp (disch := first | omega | simp) [qc, -qe, -qi]) | refine qb fun K hK => ?_ | refine qa ?_ | refine qd ?_ | (refine hK _ ?_; clear hK K))
 refine qk hcl (fun k : Nat => [(0, .sl (a.map Val.av)), (1, .sl (b.map Val.av)), (2, .fn 80 []), (11, .sl (a.map Val.av)), (12, .int a.length), (13, .int k)]) (fun _ => [])
  (fun k => k <= a.length /\ k <= b.length /\ R = cmpR (a.drop k) (b.drop k)) (fun k => a.length - k) 0 ⟨by omega, by omega, by simpa using hR⟩ (by simp) fun k ⟨hka, hkb, he⟩ => ?_
 by_cases h1 : k < a.length
 .by_cases h2 : k < b.length
  .rw [qry h1 h2] at he
   have h3 : ¬ (b.length : Int) <= k := by omega
   have c1 := qhd a[k] b[k]
   obtain ⟨x, hx⟩ : ∃ x, x = a[k] := ⟨_, rfl⟩
   obtain ⟨y, hy⟩ : ∃ y, y = b[k] := ⟨_, rfl⟩
   rw [<- hx, <- hy] at c1 he
   by_cases h4 : cmpV x y = 0
   .rw [if_neg (by simpa using h4)] at he
    rw [h4] at c1
    repeat' (first | ((first | refine Stp.m ?_ | refine qh ?_) <;> (try simp (disch := first | omega | simp) [qc, -qe, -qi, h1, h2, h3, <- hx, <- hy])) | refine qb fun K hK => ?_ | refine qa ?_ | refine qd ?_ | (refine hK _ ?_; clear hK K) | clear hK K)
    all_goals exact ⟨k + 1, ⟨by omega, by omega, he⟩, by omega, by simp⟩
   .rw [if_pos h4] at he
    rw [<- he] at c1 h4
    have hc1 : (R != 0) = true := by simpa using h4
    repeat' (first | ((first | refine Stp.m ?_ | refine qh ?_) <;> (try simp (disch := first | omega | simp) [qc, -qe, -qi, h1, h2, h3, hc1, <- hx, <- hy])) | refine qb fun K hK => ?_ | refine qa ?_ | refine qd ?_ | (refine hK _ ?_; clear hK K))
  .rw [qnp (List.drop_of_length_le (by omega)), if_neg (by rw [List.length_drop]; omega)] at he
   subst he
   have h3 : (b.length : Int) <= k := by omega
   repeat' (first | (refine Stp.m ?_ <;> try simp (disch := first | omega | simp) [qc, -qe, -qi, h1, h3]) | refine qb fun K hK => ?_ | refine qa ?_ | refine qd ?_ | (refine hK _ ?_; clear hK K))
 .rw [qrz (List.drop_of_length_le (by omega))] at he
  by_cases h2 : k < b.length
  .rw [if_neg (by rw [List.length_drop]; omega)] at he
   subst he
   have h3 : (a.length : Int) < b.length := by omega
   repeat' (first | (refine Stp.m ?_ <;> try simp (disch := first | omega | simp) [qc, -qe, -qi, h1, h3]) | refine qb fun K hK => ?_ | refine qa ?_ | (refine hK _ ?_; clear hK K) | clear hK K)
  .rw [if_pos (by rw [List.length_drop]; omega)] at he
   subst he
   have h3 : ¬ (a.length : Int) < b.length := by omega
   repeat' (first | (refine Stp.m ?_ <;> try simp (disch := first | omega | simp) [qc, -qe, -qi, h1, h3]) | refine qb fun K hK => ?_ | refine qa ?_ | (refine hK _ ?_; clear hK K) | clear hK K)
theorem qpv (a b : List Val) : Gives Tryz.prog 142 [.sl (a.map Val.av), .sl (b.map Val.av)] (.int (cmpR a b)) := by
 have c1 := qpu a b
 generalize cmpR a b = R at *
 refine qg Tryz.func142 Tryz.ntmps142 fun σ n0 hcl hft => ?_
 repeat' (first | ((first | refine Stp.m ?_ | refine qh ?_) <;> (try simp (disch := first | omega | simp) [qc, -qe, -qi])) | refine qb fun K hK => ?_ | refine qa ?_ | (refine hK _ ?_; clear hK K))
theorem qnq (x y : Delta) : Gives Tryz.prog 88 [x.av, y.av] (.int (cmpD x y)) := by
 have c1 := qwh x.time y.time
 have c2 := qpv x.row y.row
 have c3 := por_g [compareInt x.time y.time, cmpR x.row y.row] (by simp)
 have e : orI [compareInt x.time y.time, cmpR x.row y.row] = cmpD x y := by
  unfold cmpD orI orI orI
  split
  .rfl
  .split
   .rfl
   .omega
 rw [e] at c3
 generalize cmpD x y = R at *
 obtain ⟨xt, xr, xn⟩ := x
 obtain ⟨yt, yr, yn⟩ := y
 simp only at *
 refine qg Tryz.func88 Tryz.ntmps88 fun σ n0 hcl hft => ?_
 repeat' (first | ((first | refine Stp.m ?_ | refine agH ?_) <;> (try simp (disch := first | omega | simp) [qc, -qe, -qi])) | refine qb fun K hK => ?_ | refine qa ?_ | refine qf ?_ | (refine hK _ ?_; clear hK K))
def qbp1 (P : Program) (f : FuncId) (args : List AV) (n : Nat) (ab : AB) : Prop := ∀ σ r, σ r = .unborn -> AC P f args σ fun y τ => y = .own r n /\ τ = upd σ r ab
theorem qqj1 {P : Program} {f : FuncId} {args : List AV} {s : AS} {K : AV -> AS -> Prop} {n : Nat} {ab : AB} (h : qbp1 P f args n ab) (hK : K (.own s.nx n) (s.ext (some ab))) : ACall P f args s K :=
 ⟨.own s.nx n, s.ext (some ab), by rw [(qes s ab).1]; exact h s.st s.nx (s.fin _ (Nat.le_refl _)), ⟨rfl, rfl, rfl⟩, hK⟩
theorem qhp {X Y : St} (hw : Y.w = X.w) (hs : Y.S = X.S) {b : Nat} : ∀ {o : Nat} {cs : List Value}, qy X b o cs -> qy Y b o cs
 | _, [], _ => trivial
 | o, _ :: cs, h => ⟨by rw [hw]; exact h.1, by rw [hs]; exact h.2.1, qhp hw hs h.2.2⟩
theorem qqg {P : Program} {f : FuncId} {fn : Func} {c : Code} {rs : List ResultVar} {args : List AV} {l : List AV} {e : TypeId} {sz N : Nat} (i : Nat) (hf : P.funcs[f]? = some fn) (hN : fn.ntmps = N) (hb : fn.body = some c) (hr : fn.results = rs.toArray) (hlen : rs.length <= 4) (ha : Nat.ble args.length N = true) (hl : ∀ m, AV.cls m l)
  (h : ∀ σ n0, (∀ r, (σ r).cl n0) -> AV.fitss args -> awp P c (fun e' s' => (e' = .normal \/ e' = .ret) /\ s'.n0 = n0 /\ s'.σ = σ /\ s'.L[i]? = some (.vec l e sz) /\ ares P s' rs (.own (n0 + i) l.length)) { n := N, t := qdf args 0, σ := σ, n0 := n0, L := [] }) : qbp1 P f args l.length (.vec l e sz) := by
 intro σ r hu X vals nx0 hS hσ hfin0 hargs
 subst hσ
 subst hN
 obtain ⟨n0, hn0⟩ : ∃ n0, n0 = max nx0 (r + 1) := ⟨_, rfl⟩
 have hfin : Fin X.σ n0 := fun k hk => hfin0 k (by omega)
 have hrn : r < n0 := by omega
 have hlv : vals.length = args.length := by
  have : ∀ (l : List AV) (vs : List Value), RRl X l vs -> vs.length = l.length := fun l => by
   induction l with
   | nil => intro vs h; have : vs = [] := h; subst this; rfl
   | cons x l ih => intro vs h; obtain ⟨v, vs', rfl, -, h2⟩ := h; simp [ih _ h2]
  exact this _ _ hargs
 have ha' : args.length <= fn.ntmps := Nat.le_of_ble_eq_true ha
 refine calls_of_wp hf hb (wp_mono (CwpA.plain (h X.σ n0 (fun k => (hS.block k).cl hfin) hargs.fits X { tmps := vals.toArray ++ Array.replicate (fn.ntmps - vals.toArray.size) undef, defers := [] } X.w ⟨X, rfl, ?_, hS, Fr.refl X, ?_, fun d => ?_, rfl, hfin⟩)) ?_)
 .funext k
  show X.σ k = loc X.σ n0 [] k
  unfold loc
  split
  .rfl
  .rw [hfin k (by omega)]; rfl
 .show (vals.toArray ++ Array.replicate _ undef).size = fn.ntmps
  rw [Array.size_append, Array.size_replicate, List.size_toArray]; omega
 .have := qgx args vals [] (fn.ntmps - vals.toArray.size) hargs d (by simp)
  simpa using this
 .rintro e' a' w' ⟨s', ⟨he, hn0', hσ', hL, hx⟩, ⟨X', hc⟩, hdf⟩
  have hw := hc.w
  subst hw
  obtain ⟨v, hv, hR⟩ := qmq hc hr hlen hx
  have hstL : ∀ k, k < n0 -> X'.σ k = X.σ k := fun k hk => by
   rw [hc.σ]
   show loc s'.σ s'.n0 s'.L k = _
   unfold loc
   rw [hn0', if_pos hk, hσ']
  have hstI : X'.σ (n0 + i) = .vec l e sz := by
   rw [hc.σ]
   show loc s'.σ s'.n0 s'.L (n0 + i) = _
   unfold loc
   rw [hn0', if_neg (by omega), Nat.add_sub_cancel_left, List.getD_eq_getElem?_getD, hL]; rfl
  have hC := hc.sr.cut (m := n0) fun k hk => by rw [hstL k hk]; exact (hS.block k).cl hfin
  have hFC := hc.fr.cut (m := n0) fun k hk => hfin k hk
  have hσC : (X'.cut n0).σ = X.σ := by
   funext k
   show Proofs.YtkedbjjfmejbhaaGreatDoor.cut n0 X'.σ k = _
   unfold Proofs.YtkedbjjfmejbhaaGreatDoor.cut
   split
   .exact hstL k ‹_›
   .exact (hfin k (by omega)).symm
  have hBI := hc.sr.block (n0 + i)
  rw [hstI] at hBI
  obtain ⟨hwd, xs, hown, hrs⟩ := hBI
  have hblkI : ∀ b, X'.blk (n0 + i) = some b ↔ (X'.μ (n0 + i)).ownBlock = some b := fun b => by unfold St.blk; rw [hstI]; exact Iff.rfl
  let Y : St := { (X'.cut n0) with μ := upd X'.μ r (X'.μ (n0 + i)), σ := upd X.σ r (.vec l e sz) }
  have y1 : Y.σ r = .vec l e sz := by simp [Y, upd]
  have y2 : ∀ k, k ≠ r -> Y.σ k = (X'.cut n0).σ k /\ Y.μ k = (X'.cut n0).μ k := fun k hk => by
   rw [hσC]
   constructor
   .simp [Y, upd, hk]
   .simp [Y, upd, hk, St.cut]
  have y3 : Y.μ r = X'.μ (n0 + i) := by simp [Y, upd]
  have yb : ∀ k b, Y.blk k = some b -> (k = r /\ X'.blk (n0 + i) = some b) \/ (k ≠ r /\ (X'.cut n0).blk k = some b) := fun k b h => by
   unfold St.blk at h
   by_cases hk : k = r
   .subst hk
    rw [y1, y3] at h
    exact .inl ⟨rfl, (hblkI b).2 h⟩
   .obtain ⟨e1, e2⟩ := y2 k hk
    rw [e1, e2] at h
    exact .inr ⟨hk, h⟩
  have hvr : ∀ k, Ver (X'.cut n0) Y k := fun k => by
   unfold Ver
   by_cases hk : k = r
   .subst hk; rw [hσC, hu]; trivial
   .obtain ⟨e1, e2⟩ := y2 k hk
    have := (Fr.refl (X'.cut n0)).ver k
    unfold Ver at this
    rw [e1, e2]; exact this
  have hcs : ∀ b o cs, qy (X'.cut n0) b o cs -> qy Y b o cs := fun b o cs => qhp (X := X'.cut n0) (Y := Y) rfl rfl
  have hxs : RCs Y l xs := RCs.vr hcs hvr _ _ (RCs.cut _ _ (hl n0) hrs)
  have hlt : ∀ b, X'.blk (n0 + i) = some b -> X.w.heap.size <= b \/ ∃ r', X.blk r' = some b := fun b h => hc.fr.own _ b h
  have hne : ∀ k b, (X'.cut n0).blk k = some b -> k < n0 /\ X'.blk k = some b := fun k b h => St.blk_cut h
  have hSY : SR Y := by
   refine ⟨fun k => ?_, fun k k' b h1 h2 => ?_, fun k b o h1 h2 => ?_, fun b o h => hC.old b o h, hc.sr.glob.mono fun b o cs hg => ⟨qhp (X := X') (Y := Y) rfl rfl hg.1, hg.2.1, fun k hk => ?_, hg.2.2.2⟩⟩
   .by_cases hk : k = r
    .subst hk; rw [y1, y3]
     exact ⟨hwd, xs, hown, hxs⟩
    .obtain ⟨e1, e2⟩ := y2 k hk
     rw [e1, e2]
     have hb := hC.block k
     generalize (X'.cut n0).σ k = ab at hb
     generalize (X'.cut n0).μ k = vv at hb
     cases ab with
     | cells cs t => obtain ⟨b, vs, h1, h2, h3⟩ := hb; exact ⟨b, vs, h1, h2, R1s.vr hcs hvr _ _ h3⟩
     | vec l e s => obtain ⟨h0, xs, h1, h2⟩ := hb; exact ⟨h0, xs, h1, RCs.vr hcs hvr _ _ h2⟩
     | tail n e s => exact hb
     | obj I => exact hb
     | buf cs e => exact hb
     | susp b o t a => exact ⟨hb.1, hb.2.1, fun d => (hb.2.2 d).vr hcs hvr⟩
     | dead => trivial
     | unborn => trivial
   .rcases yb k b h1 with ⟨rfl, h3⟩ | ⟨h3, h4⟩ <;> rcases yb k' b h2 with ⟨rfl, h6⟩ | ⟨h6, h7⟩
    .rfl
    .obtain ⟨h8, h9⟩ := hne _ _ h7
     have := hc.sr.alone _ _ b h9 h3; omega
    .obtain ⟨h8, h9⟩ := hne _ _ h4
     have := hc.sr.alone _ _ b h9 h6; omega
    .exact hC.alone _ _ b h4 h7
   .rcases yb k b h1 with ⟨rfl, h3⟩ | ⟨h3, h4⟩
    .obtain ⟨_, e2, s2, h6, h7⟩ := hc.sr.apart (n0 + i) b o h3 h2
     rw [hstI] at h6; cases h6
    .obtain ⟨n2, e2, s2, h6, h7⟩ := hC.apart k b o h4 h2
     exact ⟨n2, e2, s2, by rw [(y2 k h3).1]; exact h6, h7⟩
   .rcases yb k b hk with ⟨rfl, h3⟩ | ⟨h3, h4⟩
    .exact hg.2.2.1 _ h3
    .exact hg.2.2.1 k (hne _ _ h4).2
  have hFY : Fr X Y := ⟨hFC.os, hFC.tape, hFC.output, hFC.size, hFC.keep, hFC.keepS, hFC.more, hFC.less, fun k => by
   by_cases hk : k = r
   .subst hk; unfold Ver; rw [hu]; trivial
   .obtain ⟨e1, e2⟩ := y2 k hk
    have := hFC.ver k
    unfold Ver at this ⊢
    rw [e1, e2]; exact this, fun k b h => by
   rcases yb k b h with ⟨rfl, h3⟩ | ⟨h3, h4⟩
   .exact hlt b h3
   .exact hFC.own k b h4⟩
  have hRY : RR Y (.own r l.length) v := by
   have h1 : RC X' (.own (n0 + i) l.length) [v] := hR
   rw [RC] at h1
   obtain ⟨-, v', h2, ⟨h3, -⟩, h4⟩ := h1
   have h5 : v = v' := by simpa using h2
   subst h5
   have h6 := (h4 _ _ _ hstI).2 rfl
   show RC Y (.own r l.length) [v]
   rw [RC]
   refine ⟨by rw [y1]; simp, v, rfl, ⟨h3, fun I h => by rw [y1] at h; cases h⟩, fun l2 e2 s2 h => ?_⟩
   rw [y1] at h; cases h
   exact ⟨Nat.le_refl _, fun _ => by rw [h6, y3]⟩
  have hres : ∃ Y' v' x', Ending.returned v = .returned v' /\ Y'.w = X'.w /\ (x' = .own r l.length /\ Y'.σ = upd X.σ r (.vec l e sz)) /\ SR Y' /\ Fr X Y' /\ RR Y' x' v' := ⟨Y, v, .own r l.length, rfl, rfl, ⟨rfl, rfl⟩, hSY, hFY, hRY⟩
  rcases he with rfl | rfl
  .exact ⟨hdf, v, hv, hres⟩
  .exact ⟨hdf, v, hv, hres⟩
theorem qmm1 {P : Program} {s : AS} {op : BinOp} {t u : TypeId} {x y : Operand} {l : List AV} {K : AV -> AS -> Prop} (hop : op = .eql \/ op = .neq) (ht : (einfo P t).isSome = true) (hx : (s.eval x).list = some l) (hy : s.eval y = .v (.slice none 0 0)) (hK : ∀ b : Bool, (b = true -> l = []) -> K (.v (.bool (if op = .eql then b else !b))) s) :
  EOp P s (.binOp op t x y u) K := by
 intro X0 a w X oper ho hc Q
 have hw := hc.w
 subst hw
 have h1 := hc.eval x
 have h2 := hc.eval y
 rw [hy, RR.v] at h2
 obtain ⟨e, he⟩ : ∃ e, P.underlying t = some (.slice e) := by
  unfold einfo at ht
  split at ht
  .exact ⟨_, ‹_›⟩
  .cases ht
 have key : ∃ A n cap, a.eval x = .slice A n cap /\ (0 < l.length -> A.isNone = false) := by
  cases hev : s.eval x <;> rw [hev] at hx <;> try (cases hx; done)
  .cases hx
   rw [hev] at h1
   have h3 : RC X (.sl l) [a.eval x] := h1
   rw [RC] at h3
   obtain ⟨A, cap, b, off, e1, -, -, h4, -⟩ := h3
   simp at e1
   exact ⟨A, _, cap, e1, fun h => by rw [h4 h]; rfl⟩
  .rename_i r _
   cases hx
   rw [hev] at h1
   have h3 : RC X (.gs r l) [a.eval x] := h1
   rw [RC] at h3
   obtain ⟨A, cap, b, off, e1, -, -, h4, -⟩ := h3
   simp at e1
   exact ⟨A, _, cap, e1, fun h => by rw [h4 h]; rfl⟩
 obtain ⟨A, n, cap, hA, hn⟩ := key
 have hrun : (execOp a.eval oper).run P X.w = .ok (.value (.bool (if op = .eql then A.isNone else !A.isNone))) X.w := by
  have hq : ∀ w, (Op.equal t (.slice A n cap) (.slice none 0 0)).run P w = .ok A.isNone w := fun w => by
   unfold Op.equal
   rw [show Op.maxDepth = 9999 + 1 from rfl, Op.equalIn]
   cases A <;> simp [underlying, he]
  rcases hop with rfl | rfl
  .simp [execOp, ho, hA, h2, eqGuard, binOp, hq]
  .simp [execOp, ho, hA, h2, eqGuard, binOp, hq]
 refine qbi hrun ⟨_, _, s, X, rfl, hK A.isNone fun h => ?_, hc, RR.v.2 rfl⟩
 cases l with
 | nil => rfl
 | cons z zs => rw [hn (by simp)] at h; cases h
def aevN (P : Program) (s : AS) (o : Op) (K : AV -> AS -> Prop) : Prop :=
 match o with
 | .binOp op t x y u => match (s.eval x).list, s.eval y with
  | some l, .v (.slice none 0 0) => (op = .eql \/ op = .neq) /\ (einfo P t).isSome = true /\ ∀ b : Bool, (b = true -> l = []) -> K (.v (.bool (if op = .eql then b else !b))) s
  | _, _ => aev P s (.binOp op t x y u) K
 | o => aev P s o K
theorem qzl {P : Program} {s : AS} {o : Op} {K : AV -> AS -> Prop} (h : aevN P s o K) : EOp P s o K := by
 unfold aevN at h
 split at h
 .split at h
  .exact qmm1 h.1 h.2.1 ‹_› ‹_› h.2.2
  .exact qck h
 .exact qck h
def aseqN (P : Program) (ops : Array Oper) (K : AS -> Prop) : List Oper -> AS -> Prop
 | [], s => K s
 | o :: l, s => match awant ops o s.t with
  | some b => qbm b (aevN P s o.op (fun x s1 => dstOk o.dst s1.n /\ aseqN P ops K l (s1.put o.dst x))) (dstOk o.dst s.n /\ aseqN P ops K l (s.put o.dst (.v undef)))
  | none => False
theorem qhk {P : Program} {ops : Array Oper} {K : AS -> Prop} : ∀ {l : List Oper} {s : AS}, aseqN P ops K l s -> aseq P ops K l s
 | [], _, h => h
 | o :: l, s, h => by
  rw [aseqN] at h
  rw [aseq]
  split at h
  .rename_i b hb
   cases b with
   | true => exact ⟨true, hb, (qzl (h.1 rfl)).mono fun x s1 ⟨h1, h2⟩ => ⟨h1, qhk h2⟩⟩
   | false => exact ⟨false, hb, (h.2 rfl).1, qhk (h.2 rfl).2⟩
  .exact h.elim
theorem qef {P : Program} {s : AS} {id : Nat} {l : List Oper} {Q : Exit -> AS -> Prop} (h : aseqN P l.toArray (Q .normal) l s) : awp P (.region id l.toArray false) Q s := qdh (qhk h)
instance {P : Program} {ops : Array Oper} {K : AS -> Prop} {o : Oper} {l : List Oper} {s : AS} : Stp (aseqN P ops K (o :: l) s) (match awant ops o s.t with
  | some b => qbm b (aevN P s o.op (fun x s1 => dstOk o.dst s1.n /\ aseqN P ops K l (s1.put o.dst x))) (dstOk o.dst s.n /\ aseqN P ops K l (s.put o.dst (.v undef)))
  | none => False) := ⟨fun h => h⟩
instance {P : Program} {ops : Array Oper} {K : AS -> Prop} {s : AS} : Stp (aseqN P ops K [] s) (K s) := ⟨fun h => h⟩
theorem qgj {P : Program} {ops : Array Oper} {K : AS -> Prop} {l : List Oper} {s s' : AS} {C : Prop} (h1 : aseqN P ops K l s) (h2 : C -> aseqN P ops K l s') : aseqN P ops K l s /\ (C -> aseqN P ops K l s') := ⟨h1, h2⟩
attribute [simp] aevN
theorem cloD (l : List AV) (n : Nat) (hn : l.length = n) (h0 : 0 < n) (hL : n <= 1000000) (hw : AV.wid l 3) (he : AV.elms l) (hcl' : ∀ m, AV.cls m l) : qbp1 Tryz.prog 87 [.sl l] n (.vec l 55 3) := by
 subst hn
 refine qqg 1 Tryz.func87 Tryz.ntmps87 rfl rfl (by decide) rfl hcl' fun σ n0 hcl hft => ?_
 have hne : l ≠ [] := fun h => by rw [h] at h0; simp at h0
 repeat' (first | ((first | ((with_reducible refine qj (fun hg => ?_) (fun hg => ?_)) <;> (try simp only [hg]) <;> (try simp only [gS] at hg) <;> (try (first | simp only [eq_false hg, gI] | simp only [eq_true hg, gI]))) | refine Stp.m ?_ | (with_reducible refine qgj ?_ (fun hnil => ?_); try simp only [hnil])) <;> (try simp (disch := first | omega | simp) [qc, -qe, -qi, hw, he, h0])) | with_reducible refine qef (id := 1) ?_ | refine sideA ?_ | refine qb fun K hK => ?_ | refine qrs (by rfl) ?_ | refine qa ?_ | refine qd ?_ | (refine hK _ ?_; clear hK K) | clear hK K)
 exact absurd (by assumption) hne
theorem cloDs (l : List Delta) (hL : l.length <= 1000000) : Gives Tryz.prog 87 [.sl (l.map Delta.av)] (.sl (l.map Delta.av)) := by
 refine qg Tryz.func87 Tryz.ntmps87 fun σ n0 hcl hft => ?_
 repeat' (first | ((first | ((with_reducible refine qj (fun hg => ?_) (fun hg => ?_)) <;> (try simp only [hg]) <;> (try simp only [gS] at hg) <;> (try (first | simp only [eq_false hg, gI] | simp only [eq_true hg, gI]))) | refine Stp.m ?_ | (with_reducible refine qgj ?_ (fun hnil => ?_); try simp only [hnil])) <;> (try simp (disch := first | omega | simp) [qc, -qe, -qi, hL])) | with_reducible refine qef (id := 1) ?_ | refine sideA ?_ | refine qb fun K hK => ?_ | refine qa ?_ | refine qf ?_ | refine qd ?_ | (refine hK _ ?_; clear hK K) | clear hK K)
 all_goals exact hnil
theorem cloR (l : List Val) (hL : l.length <= 1000000) : Gives Tryz.prog 50 [.sl (l.map Val.av)] (.sl (l.map Val.av)) := by
 refine qg Tryz.func50 Tryz.ntmps50 fun σ n0 hcl hft => ?_
 repeat' (first | ((first | ((with_reducible refine qj (fun hg => ?_) (fun hg => ?_)) <;> (try simp only [hg]) <;> (try simp only [gS] at hg) <;> (try (first | simp only [eq_false hg, gI] | simp only [eq_true hg, gI]))) | refine Stp.m ?_ | (with_reducible refine qgj ?_ (fun hnil => ?_); try simp only [hnil])) <;> (try simp (disch := first | omega | simp) [qc, -qe, -qi, hL])) | with_reducible refine qef (id := 1) ?_ | refine sideA ?_ | refine qb fun K hK => ?_ | refine qa ?_ | refine qf ?_ | refine qd ?_ | (refine hK _ ?_; clear hK K) | clear hK K)
 all_goals exact hnil
end Go.Proofs.YtkedbjjfmejbhaaGreatDoor
