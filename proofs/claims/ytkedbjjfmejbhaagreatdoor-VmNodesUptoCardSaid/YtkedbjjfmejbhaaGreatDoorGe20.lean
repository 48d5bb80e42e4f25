/- Walk: which inputs fit, of the reference of chapter 21. -/
import Derived.Test.YtkedbjjfmejbhaaGreatDoorGe4
import Derived.Test.YtkedbjjfmejbhaaGreatDoorGe15
import Derived.Test.YtkedbjjfmejbhaaGreatDoorGe18
import Derived.Test.YtkedbjjfmejbhaaGreatDoorGe19
set_option linter.unusedSimpArgs false
set_option linter.unusedVariables false
namespace Go.Proofs.YtkedbjjfmejbhaaGreatDoor
open Go.RowKit Go.Lib
def fit1 (cols : List Int) (d : Delta) : Bool := decide (0 <= d.time /\ d.time <= 2199023255552 /\ 1 <= d.n /\ d.n <= 5) && qce cols d.row
def fit21 (cols : List Int) (L : List Delta) : Bool := L.all (fit1 cols) && decide (L.length <= 30)
set_option maxHeartbeats 8000000 in
theorem qkf1 (cols : List Int) (L : List Delta) (hr : ∀ d ∈ L, d.row.length <= 1000000) : Gives Tryz.prog 7 [.sl (L.map Delta.av), .sl (cols.map AV.int), .int 30] (.bool (fit21 cols L)) := by
 obtain ⟨R, hR⟩ : ∃ R, R = fit21 cols L := ⟨_, rfl⟩
 rw [<- hR]
 unfold fit21 at hR
 refine qg Tryz.func7 Tryz.ntmps7 fun σ n0 hcl hft => ?_
 have hcL : cols.length <= 9223372036854775807 /\ L.length <= 9223372036854775807 := by have := hft; simp at this; omega
 obtain ⟨hc, hL⟩ := hcL
 repeat' (first | (refine Stp.m ?_ <;> try simp (disch := first | omega | simp) [qc, -qe, -qi]) | refine qb fun K hK => ?_ | refine qa ?_ | refine qd ?_ | (refine hK _ ?_; clear hK K))
 refine qk hcl (fun k : Nat => [(0, .sl (L.map Delta.av)), (1, .sl (cols.map AV.int)), (2, .int 30), (7, .int k)]) (fun _ => [])
  (fun k => k <= L.length /\ k <= 31 /\ ∀ j (h : j < L.length), j < k -> fit1 cols L[j] = true) (fun k => L.length - k) 0 (by simp) (by simp) fun k ⟨hk, hk31, he⟩ => ?_
 by_cases hlt : k < L.length
 .by_cases h31 : k <= 30
  .have h31b : (k : Int) <= 30 := by omega
   have hbad : fit1 cols L[k] = false -> R = false := fun h => by
    rw [hR, quy hlt h]; rfl
   have hnext : fit1 cols L[k] = true -> ∃ b', (b' <= L.length /\ b' <= 31 /\ ∀ j (h : j < L.length), j < b' -> fit1 cols L[j] = true) /\ L.length - b' < L.length - k /\ (k : Int) + 1 = b' := fun h =>
    ⟨k + 1, ⟨by omega, by omega, qdr (C := fun d : Delta => fit1 cols d = true) he fun _ => h⟩, by omega, by omega⟩
   have c1 := qsh1 L[k].row (hr _ (List.getElem_mem _))
   obtain ⟨d, hd⟩ : ∃ d, d = L[k] := ⟨_, rfl⟩
   rw [<- hd] at c1 hbad hnext
   unfold fit1 at hbad hnext
   clear hR he
   by_cases b1 : 0 <= d.time
   .by_cases b2 : d.time <= 2199023255552
    .by_cases b3 : 1 <= d.n
     .by_cases b4 : d.n <= 5
      .have n1 : ¬ d.time < 0 := by omega
       have n2 : ¬ 2199023255552 < d.time := by omega
       have n3 : ¬ d.n < 1 := by omega
       have n4 : ¬ 5 < d.n := by omega
       have hbad2 : qce cols d.row = false -> R = false := fun h => hbad (by rw [h, Bool.and_false])
       have hnext2 := fun h : qce cols d.row = true => hnext (by rw [h]; simp [b1, b2, b3, b4])
       clear hbad hnext
       by_cases hl : d.row.length = cols.length
       .have hlb : ((d.row.length : Int) != (cols.length : Int)) = false := by rw [hl]; simp
        cases hro : rowOk d.row
        .rw [hro] at c1
         have hb := hbad2 (fitRow_row hro)
         subst hb
         repeat' (first | ((first | refine Stp.m ?_ | refine qh ?_) <;> (try simp (disch := first | omega | simp) [qc, -qe, -qi, hlt, h31b, n1, n2, n3, n4, hlb, <- hd])) | refine qb fun K hK => ?_ | refine qa ?_ | refine qd ?_ | (refine hK _ ?_; clear hK K))
        .rw [hro] at c1
         repeat' (first | ((first | refine Stp.m ?_ | refine qh ?_) <;> (try simp (disch := first | omega | simp) [qc, -qe, -qi, hlt, h31b, n1, n2, n3, n4, hlb, <- hd])) | refine qb fun K hK => ?_ | refine qa ?_ | refine qd ?_ | (refine hK _ ?_; clear hK K))
         refine qk hcl (fun i : Nat => [(0, .sl (L.map Delta.av)), (1, .sl (cols.map AV.int)), (2, .int 30), (7, .int k), (8, .int i)]) (fun _ => [])
          (fun i => i <= cols.length /\ ∀ j (h : j < cols.length), j < i -> d.row[j].k = cols[j]) (fun i => cols.length - i) 0 (by simp) (by simp) fun i ⟨hi, hei⟩ => ?_
         by_cases hlt2 : i < cols.length
         .have hi2 : i < d.row.length := by omega
          by_cases hkk : d.row[i].k = cols[i]
          .have hkb : (d.row[i].k != cols[i]) = false := by rw [hkk]; simp
           repeat' (first | (refine Stp.m ?_ <;> try simp (disch := first | omega | simp) [qc, -qe, -qi, hlt, hlt2, hi2, hkb, <- hd]) | refine qb fun K hK => ?_ | refine qa ?_ | refine qf ?_ | refine qd ?_ | (refine hK _ ?_; clear hK K) | clear hK K)
           exact ⟨i + 1, ⟨by omega, fun j hj hji => by
            by_cases hji2 : j = i
            .subst hji2; exact hkk
            .exact hei j hj (by omega)⟩, by omega, by omega⟩
          .have hb := hbad2 (qsr hl hro hlt2 hkk)
           have hkb : (d.row[i].k != cols[i]) = true := by rw [bne_iff_ne]; exact hkk
           subst hb
           repeat' (first | (refine Stp.m ?_ <;> try simp (disch := first | omega | simp) [qc, -qe, -qi, hlt, hlt2, hi2, hkb, <- hd]) | refine qb fun K hK => ?_ | refine qa ?_ | refine qf ?_ | refine qd ?_ | (refine hK _ ?_; clear hK K))
         .have hn := hnext2 (qnx hl hro fun j hj => hei j hj (by omega))
          repeat' (first | (refine Stp.m ?_ <;> try simp (disch := first | omega | simp) [qc, -qe, -qi, hlt, hlt2]) | refine qb fun K hK => ?_ | refine qa ?_ | (refine hK _ ?_; clear hK K) | clear hK K)
          exact hn
       .have hb := hbad2 (qnz hl)
        have hlb : ((d.row.length : Int) != (cols.length : Int)) = true := by rw [bne_iff_ne]; omega
        subst hb
        repeat' (first | (refine Stp.m ?_ <;> try simp (disch := first | omega | simp) [qc, -qe, -qi, hlt, h31b, n1, n2, n3, n4, hlb, <- hd]) | refine qb fun K hK => ?_ | refine qa ?_ | refine qd ?_ | (refine hK _ ?_; clear hK K))
      .have n1 : ¬ d.time < 0 := by omega
       have n2 : ¬ 2199023255552 < d.time := by omega
       have n3 : ¬ d.n < 1 := by omega
       have n4 : 5 < d.n := by omega
       obtain rfl := hbad (by simp [b4])
       repeat' (first | (refine Stp.m ?_ <;> try simp (disch := first | omega | simp) [qc, -qe, -qi, hlt, h31b, n1, n2, n3, n4, <- hd]) | refine qb fun K hK => ?_ | refine qa ?_ | refine qd ?_ | (refine hK _ ?_; clear hK K))
     .have n1 : ¬ d.time < 0 := by omega
      have n2 : ¬ 2199023255552 < d.time := by omega
      have n3 : d.n < 1 := by omega
      obtain rfl := hbad (by simp [b3])
      repeat' (first | (refine Stp.m ?_ <;> try simp (disch := first | omega | simp) [qc, -qe, -qi, hlt, h31b, n1, n2, n3, <- hd]) | refine qb fun K hK => ?_ | refine qa ?_ | refine qd ?_ | (refine hK _ ?_; clear hK K))
    .have n1 : ¬ d.time < 0 := by omega
     have n2 : 2199023255552 < d.time := by omega
     obtain rfl := hbad (by simp [b2])
     repeat' (first | (refine Stp.m ?_ <;> try simp (disch := first | omega | simp) [qc, -qe, -qi, hlt, h31b, n1, n2, <- hd]) | refine qb fun K hK => ?_ | refine qa ?_ | refine qd ?_ | (refine hK _ ?_; clear hK K))
   .have n1 : d.time < 0 := by omega
    obtain rfl := hbad (by simp [b1])
    repeat' (first | (refine Stp.m ?_ <;> try simp (disch := first | omega | simp) [qc, -qe, -qi, hlt, h31b, n1, <- hd]) | refine qb fun K hK => ?_ | refine qa ?_ | refine qd ?_ | (refine hK _ ?_; clear hK K))
  .have h31b : ¬ (k : Int) <= 30 := by omega
   have : R = false := by rw [hR, decide_eq_false (by omega), Bool.and_false]
   subst this
   have hlen : ¬ (L.length : Int) <= 30 := by omega
   clear hR
   repeat' (first | (refine Stp.m ?_ <;> try simp (disch := first | omega | simp) [qc, -qe, -qi, hlt, h31b, hlen]) | refine qb fun K hK => ?_ | refine qa ?_ | (refine hK _ ?_; clear hK K) | clear hK K)
 .have : R = decide (L.length <= 30) := by
   rw [hR, qux (qfq (C := fun d : Delta => fit1 cols d = true) he hlt), Bool.true_and]
  subst this
  clear hR
  repeat' (first | (refine Stp.m ?_ <;> try simp (disch := first | omega | simp) [qc, -qe, -qi, hlt]) | refine qb fun K hK => ?_ | refine qa ?_ | (refine hK _ ?_; clear hK K) | clear hK K)
  all_goals omega
end Go.Proofs.YtkedbjjfmejbhaaGreatDoor
namespace Go.Proofs.YtkedbjjfmejbhaaGreatDoor
open Go.RowKit Go.Lib Go.Sort
abbrev vD (d : Array Delta) : AB := .vec (d.toList.map Delta.av) 55 3
abbrev cD (x : Delta) : AV := .agg [.int x.time, .sl (x.row.map Val.av), .int x.n]
theorem vD_cl (d : Array Delta) (n : Nat) : (vD d).cl n := Delta.avs_cl d.toList n
theorem qeq (d : Array Delta) {k : Nat} (h : k < d.size) {x : Delta} (hx : x = d[k]!) (h2 : k < (d.toList.map Delta.av).length) : (d.toList.map Delta.av)[k] = cD x := by
 rw [List.getElem_map, Array.getElem_toList, hx, getElem!_pos d k h]; rfl
theorem qzd (d : Array Delta) (i j : Nat) {x y : Delta} (hx : x = d[i]!) (hy : y = d[j]!) : ((d.toList.map Delta.av).set i (cD y)).set j (cD x) = (swp d i j).toList.map Delta.av := by
 subst hx hy
 unfold swp
 rw [Array.toList_setIfInBounds, Array.toList_setIfInBounds, List.map_set, List.map_set]; rfl
theorem qna {σ : Nat -> AB} {r : Nat} {ab : AB} (h : σ r = ab) : upd σ r ab = σ := by
 funext k; unfold upd; split
 .rename_i e; rw [e, h]
 .rfl
theorem qpf1 (g : Nat) (d : Array Delta) (a b n : Nat) (hab : a + n <= b) (hb : b + n <= d.size) (hn : d.size <= 1000000) {σ : Nat -> AB} {r : Nat} (hσ : σ r = vD d) :
  AC Tryz.prog 215 [.own r d.size, .int a, .int b, .int n, .fn g []] σ fun y τ => y = .tup [] /\ τ = upd σ r (vD (swapR a b n d)) := by
 obtain ⟨R, hR⟩ : ∃ R, R = swapR a b n d := ⟨_, rfl⟩
 rw [<- hR]
 refine qcg Tryz.func215 Tryz.ntmps215 rfl rfl (by decide) rfl (by intro n; first | (simp; done) | exact hcl' n | (simp; exact hcl' n)) (by intro n; simp) ?_ fun n0 hrn hcl hft => ?_
 .rw [hσ]; simp
 have hl : ∀ (τ : Nat -> AB) (L : List AB), loc τ n0 L r = τ r := fun τ L => qcf τ n0 r L hrn
 have hσ0 : upd σ r (vD d) = σ := qna hσ
 repeat' (first | (refine Stp.m ?_ <;> try simp (disch := first | omega | simp) [qc, -qe, -qi]) | refine qb fun K hK => ?_ | refine qa ?_ | refine qd ?_ | (refine hK _ ?_; clear hK K))
 refine qbx (fun s : Nat × Array Delta => upd σ r (vD s.2)) (fun s => [(0, .own r d.size), (1, .int a), (2, .int b), (3, .int n), (10, .int s.1)]) (fun _ => [])
  (fun s => s.1 <= n /\ s.2.size = d.size /\ R = swapR (a + s.1) (b + s.1) (n - s.1) s.2) (fun s => n - s.1) (0, d) (fun s _ => qbz hcl (vD_cl s.2 n0)) ⟨by simp, rfl, by simpa using hR⟩ ⟨fun q _ => by simp only [hσ0], by simp [hrn]⟩ hcl fun ⟨i, e⟩ ⟨hi, hz, he⟩ => ?_
 dsimp only at hi hz he ⊢
 by_cases hlt : i < n
 .obtain ⟨m, hm⟩ : ∃ m, n - i = m + 1 := ⟨n - i - 1, by omega⟩
  rw [hm, swapR] at he
  obtain ⟨x, hx⟩ : ∃ x, x = e[a + i]! := ⟨_, rfl⟩
  obtain ⟨y, hy⟩ : ∃ y, y = e[b + i]! := ⟨_, rfl⟩
  have e1 : ((a : Int) + (i : Int)).toNat = a + i := by omega
  have e2 : ((b : Int) + (i : Int)).toNat = b + i := by omega
  have g1 := qeq e (show a + i < e.size by omega) hx
  have g2 := qeq e (show b + i < e.size by omega) hy
  have b1 : (a : Int) + (i : Int) < (e.size : Int) := by omega
  have b2 : (b : Int) + (i : Int) < (e.size : Int) := by omega
  have p1 : (0 : Int) <= (a : Int) + (i : Int) := by omega
  have p2 : (0 : Int) <= (b : Int) + (i : Int) := by omega
  have hne : ¬ a + i = b + i := by omega
  have fin := qzd e (a + i) (b + i) hx hy
  obtain ⟨V, hV⟩ : ∃ V, V = e.toList.map Delta.av := ⟨_, rfl⟩
  have hvl : V.length = d.size := by rw [hV]; simp [hz]
  simp only [<- hV, cD] at g1 g2 fin
  rw [show vD e = .vec V 55 3 by rw [hV]]
  repeat' (first | (refine Stp.m ?_ <;> try simp (disch := first | omega | simp) [qc, -qe, -qi, hlt, hl, hrn, e1, e2, g1, g2, b1, b2, p1, p2, hz, hvl, hne, -Delta.av_fold]) | refine sideA ?_ | refine qb fun K hK => ?_ | refine qa ?_ | refine qf ?_ | refine qd ?_ | (refine hK _ ?_; clear hK K))
  rw [fin]
  refine ⟨qbz hcl (vD_cl (swp e (a + i) (b + i)) n0), i + 1, swp e (a + i) (b + i), ⟨by omega, by rw [size_swp]; exact hz, by rw [he]; congr 1 <;> omega⟩, by omega, fun q _ => rfl, by simp [hrn]⟩
 .obtain rfl : i = n := by omega
  rw [Nat.sub_self, swapR] at he
  subst he
  repeat' (first | (refine Stp.m ?_ <;> try simp (disch := first | omega | simp) [qc, -qe, -qi, hlt]) | refine qb fun K hK => ?_ | refine qa ?_ | (refine hK _ ?_; clear hK K))
def ltC (c : Delta -> Delta -> Int) (x y : Delta) : Bool := decide (c x y < 0)
theorem qwb (lt : Delta -> Delta -> Bool) (a : Nat) : ∀ (j : Nat) (d : Array Delta), j <= a -> insInner lt a j d = d
 | 0, _, _ => rfl
 | j + 1, d, h => by rw [insInner, if_neg]; simp; omega
theorem qrc1 (g : Nat) (c : Delta -> Delta -> Int) (hE : enters Tryz.prog g = true) (hc : ∀ x y : Delta, Gives Tryz.prog g [x.av, y.av] (.int (c x y))) (d : Array Delta) (a b : Nat) (hab : a <= b) (hb : b <= d.size) (hn : d.size <= 1000000) {σ : Nat -> AB} {r : Nat} (hσ : σ r = vD d) :
  AC Tryz.prog 168 [.own r d.size, .int a, .int b, .fn g []] σ fun y τ => y = .tup [] /\ τ = upd σ r (vD (insertionSort (ltC c) d a b)) := by
 obtain ⟨R, hR⟩ : ∃ R, R = insertionSort (ltC c) d a b := ⟨_, rfl⟩
 rw [<- hR]
 unfold insertionSort at hR
 refine qcg Tryz.func168 Tryz.ntmps168 rfl rfl (by decide) rfl (by intro n; first | (simp; done) | exact hcl' n | (simp; exact hcl' n)) (by intro n; simp) ?_ fun n0 hrn hcl hft => ?_
 .rw [hσ]; simp
 have hl : ∀ (τ : Nat -> AB) (L : List AB), loc τ n0 L r = τ r := fun τ L => qcf τ n0 r L hrn
 have hσ0 : upd σ r (vD d) = σ := qna hσ
 repeat' (first | (refine Stp.m ?_ <;> try simp (disch := first | omega | simp) [qc, -qe, -qi]) | refine qb fun K hK => ?_ | refine qa ?_ | refine qd ?_ | (refine hK _ ?_; clear hK K))
 refine qbx (fun s : Nat × Array Delta => upd σ r (vD s.2)) (fun s => [(0, .own r d.size), (1, .int a), (2, .int b), (3, .fn g []), (8, .int s.1)]) (fun _ => [])
  (fun s => a < s.1 /\ s.1 <= b + 1 /\ s.2.size = d.size /\ R = insOuter (ltC c) a b s.1 s.2) (fun s => b + 1 - s.1) (a + 1, d) (fun s _ => qbz hcl (vD_cl s.2 n0)) ⟨by simp, by simp; omega, rfl, hR⟩ ⟨fun q _ => by simp only [hσ0], by simp [hrn]⟩ hcl fun ⟨i, e⟩ ⟨h1, h2, hz, he⟩ => ?_
 dsimp only at h1 h2 hz he ⊢
 by_cases hlt : i < b
 .rw [insOuter, if_pos hlt] at he
  repeat' (first | (refine Stp.m ?_ <;> try simp (disch := first | omega | simp) [qc, -qe, -qi, hlt]) | refine qb fun K hK => ?_ | refine qa ?_ | refine qd ?_ | (refine hK _ ?_; clear hK K))
  refine qbx (fun s : Nat × Array Delta => upd σ r (vD s.2)) (fun s => [(0, .own r d.size), (1, .int a), (2, .int b), (3, .fn g []), (8, .int i), (9, .int s.1)]) (fun _ => [])
   (fun s => a <= s.1 /\ s.1 <= i /\ s.2.size = d.size /\ R = insOuter (ltC c) a b (i + 1) (insInner (ltC c) a s.1 s.2)) (fun s => s.1) (i, e) (fun s _ => qbz hcl (vD_cl s.2 n0)) ⟨by simp; omega, by simp, hz, he⟩ ⟨fun q _ => rfl, by simp [hrn]⟩ (qbz hcl (vD_cl e n0)) fun ⟨j, f⟩ ⟨k1, k2, k3, k4⟩ => ?_
  dsimp only at k1 k2 k3 k4 ⊢
  by_cases hja : a < j
  .obtain ⟨q, rfl⟩ : ∃ q, j = q + 1 := ⟨j - 1, by omega⟩
   rw [insInner] at k4
   obtain ⟨x, hx⟩ : ∃ x, x = f[q + 1]! := ⟨_, rfl⟩
   obtain ⟨y, hy⟩ : ∃ y, y = f[q]! := ⟨_, rfl⟩
   rw [<- hx, <- hy] at k4
   have e1 : ((q : Int) + 1).toNat = q + 1 := by omega
   have g1 := qeq f (show q + 1 < f.size by omega) hx
   have g2 := qeq f (show q < f.size by omega) hy
   have b1 : (q : Int) + 1 < (f.size : Int) := by omega
   have b2 : (q : Int) < (f.size : Int) := by omega
   have p1 : (0 : Int) <= (q : Int) + 1 := by omega
   have hja2 : (a : Int) < (q : Int) + 1 := by omega
   have hne : ¬ q + 1 = q := by omega
   have c1 : Gives Tryz.prog g [cD x, cD y] (.int (c x y)) := hc x y
   have fin := qzd f (q + 1) q hx hy
   obtain ⟨V, hV⟩ : ∃ V, V = f.toList.map Delta.av := ⟨_, rfl⟩
   have hvl : V.length = d.size := by rw [hV]; simp [k3]
   simp only [<- hV, cD] at g1 g2 fin c1
   rw [show vD f = .vec V 55 3 by rw [hV]]
   by_cases hcx : c x y < 0
   .rw [if_pos (by simp [ltC, hcx]; omega)] at k4
    repeat' (first | ((first | refine Stp.m ?_ | refine agH ?_) <;> (try simp (disch := first | omega | simp) [qc, -qe, -qi, hl, hrn, e1, g1, g2, b1, b2, p1, k3, hvl, hne, hja2, hE, hcx, -Delta.av_fold])) | refine sideA ?_ | refine qb fun K hK => ?_ | refine qa ?_ | refine qf ?_ | refine qd ?_ | (refine hK _ ?_; clear hK K) | clear hK K)
    rw [fin]
    exact ⟨qbz hcl (vD_cl (swp f (q + 1) q) n0), q, swp f (q + 1) q, ⟨by omega, by omega, by rw [size_swp]; exact k3, k4⟩, by omega, fun q _ => rfl, by simp [hrn]⟩
   .rw [if_neg (by simp [ltC, hcx])] at k4
    repeat' (first | ((first | refine Stp.m ?_ | refine agH ?_) <;> (try simp (disch := first | omega | simp) [qc, -qe, -qi, hl, hrn, e1, g1, g2, b1, b2, p1, k3, hvl, hne, hja2, hE, hcx, -Delta.av_fold])) | refine sideA ?_ | refine qb fun K hK => ?_ | refine qa ?_ | refine qf ?_ | (refine hK _ ?_; clear hK K) | clear hK K)
    rw [hV]
    exact ⟨qbz hcl (vD_cl f n0), i + 1, f, ⟨by omega, by omega, k3, k4⟩, by omega, fun q _ => rfl, by simp [hrn]⟩
  .rw [qwb _ _ _ _ (by omega)] at k4
   repeat' (first | (refine Stp.m ?_ <;> try simp (disch := first | omega | simp) [qc, -qe, -qi, hja]) | refine qb fun K hK => ?_ | refine qa ?_ | refine qf ?_ | (refine hK _ ?_; clear hK K) | clear hK K)
   exact ⟨qbz hcl (vD_cl f n0), i + 1, f, ⟨by omega, by omega, k3, k4⟩, by omega, fun q _ => rfl, by simp [hrn]⟩
 .rw [insOuter, if_neg hlt] at he
  subst he
  repeat' (first | (refine Stp.m ?_ <;> try simp (disch := first | omega | simp) [qc, -qe, -qi, hlt]) | refine qb fun K hK => ?_ | refine qa ?_ | (refine hK _ ?_; clear hK K))
set_option maxHeartbeats 1000000 in
theorem rot_g (g : Nat) (d : Array Delta) (a m b : Nat) (ham : a < m) (hmb : m < b) (hb : b <= d.size) (hn : d.size <= 1000000) {σ : Nat -> AB} {r : Nat} (hσ : σ r = vD d) :
  AC Tryz.prog 190 [.own r d.size, .int a, .int m, .int b, .fn g []] σ fun y τ => y = .tup [] /\ τ = upd σ r (vD (rot m (m - a) (b - m) d)) := by
 obtain ⟨R, hR⟩ : ∃ R, R = rot m (m - a) (b - m) d := ⟨_, rfl⟩
 rw [<- hR]
 obtain ⟨i0, hi0⟩ : ∃ i0, i0 = m - a := ⟨_, rfl⟩
 obtain ⟨j0, hj0⟩ : ∃ j0, j0 = b - m := ⟨_, rfl⟩
 have s1 : (m : Int) - (a : Int) = (i0 : Int) := by omega
 have s2 : (b : Int) - (m : Int) = (j0 : Int) := by omega
 rw [<- hi0, <- hj0] at hR
 refine qcg Tryz.func190 Tryz.ntmps190 rfl rfl (by decide) rfl (by intro n; first | (simp; done) | exact hcl' n | (simp; exact hcl' n)) (by intro n; simp) ?_ fun n0 hrn hcl hft => ?_
 .rw [hσ]; simp
 have hl : ∀ (τ : Nat -> AB) (L : List AB), loc τ n0 L r = τ r := fun τ L => qcf τ n0 r L hrn
 have hσ0 : upd σ r (vD d) = σ := qna hσ
 repeat' (first | (refine Stp.m ?_ <;> try simp (disch := first | omega | simp) [qc, -qe, -qi, s1, s2]) | refine qb fun K hK => ?_ | refine qa ?_ | refine qd ?_ | (refine hK _ ?_; clear hK K))
 refine qbx (fun s : Nat × Nat × Array Delta => upd σ r (vD s.2.2)) (fun s => [(0, .own r d.size), (2, .int m), (4, .fn g []), (10, .int s.1), (11, .int s.2.1)]) (fun _ => [])
  (fun s => 0 < s.1 /\ 0 < s.2.1 /\ s.1 <= m /\ m + s.2.1 <= d.size /\ s.2.2.size = d.size /\ R = rot m s.1 s.2.1 s.2.2) (fun s => s.1 + s.2.1) (i0, j0, d) (fun s _ => qbz hcl (vD_cl s.2.2 n0)) ⟨by simp; omega, by simp; omega, by simp; omega, by simp; omega, rfl, hR⟩ ⟨fun q _ => by simp only [hσ0], by simp [hrn]⟩ hcl fun ⟨i, j, e⟩ ⟨h1, h2, h3, h4, hz, he⟩ => ?_
 dsimp only at h1 h2 h3 h4 hz he ⊢
 have sw := fun (a b n : Nat) (h1 : a + n <= b) (h2 : b + n <= d.size) (τ : Nat -> AB) (hτ : τ r = vD e) => qpf1 (σ := τ) (r := r) g e a b n h1 (by omega) (by omega) hτ
 simp only [hz] at sw
 rw [rot] at he
 obtain ⟨p, hp⟩ : ∃ p, p = m - i := ⟨_, rfl⟩
 have q1 : (m : Int) - (i : Int) = (p : Int) := by omega
 by_cases hij : i = j
 .rw [if_pos hij] at he
  subst hij
  rw [<- hp] at he
  have c1 := fun τ hτ => sw p m i (by omega) (by omega) τ hτ
  rw [<- he] at c1
  repeat' (first | ((first | refine Stp.m ?_ | refine qdu r _ (c1 _ (by simp [hl])) (by simp [hl]) ?_) <;> (try simp (disch := first | omega | simp) [qc, -qe, -qi, hl, hrn, q1])) | refine qb fun K hK => ?_ | refine qa ?_ | (refine hK _ ?_; clear hK K) | clear hK K)
 .rw [if_neg hij, if_neg (by omega)] at he
  have hij2 : ((i : Int) != (j : Int)) = true := by rw [bne_iff_ne]; omega
  by_cases hlt : j < i
  .rw [if_pos hlt, <- hp] at he
   have c1 := fun τ hτ => sw p m j (by omega) (by omega) τ hτ
   obtain ⟨i', hi'⟩ : ∃ i', i' = i - j := ⟨_, rfl⟩
   have q2 : (i : Int) - (j : Int) = (i' : Int) := by omega
   rw [<- hi'] at he
   have hzs : (swapR p m j e).size = d.size := by rw [qby]; exact hz
   generalize swapR p m j e = E at *
   repeat' (first | ((first | refine Stp.m ?_ | refine qdu r _ (c1 _ (by simp [hl])) (by simp [hl]) ?_) <;> (try simp (disch := first | omega | simp) [qc, -qe, -qi, hl, hrn, q1, q2, hij2, hlt])) | refine qb fun K hK => ?_ | refine qa ?_ | refine qd ?_ | (refine hK _ ?_; clear hK K) | clear hK K)
   exact ⟨qbz hcl (vD_cl E n0), i', j, E, ⟨by omega, by omega, by omega, by omega, hzs, he⟩, by omega, fun q _ => rfl, by simp [hrn]⟩
  .rw [if_neg hlt, <- hp] at he
   obtain ⟨p2, hp2⟩ : ∃ p2, p2 = m + j - i := ⟨_, rfl⟩
   have q3 : (m : Int) + (j : Int) - (i : Int) = (p2 : Int) := by omega
   rw [<- hp2] at he
   have c1 := fun τ hτ => sw p p2 i (by omega) (by omega) τ hτ
   obtain ⟨j', hj'⟩ : ∃ j', j' = j - i := ⟨_, rfl⟩
   have q2 : (j : Int) - (i : Int) = (j' : Int) := by omega
   rw [<- hj'] at he
   have hzs : (swapR p p2 i e).size = d.size := by rw [qby]; exact hz
   generalize swapR p p2 i e = E at *
   repeat' (first | ((first | refine Stp.m ?_ | refine qdu r _ (c1 _ (by simp [hl])) (by simp [hl]) ?_) <;> (try simp (disch := first | omega | simp) [qc, -qe, -qi, hl, hrn, q1, q2, q3, hij2, hlt])) | refine qb fun K hK => ?_ | refine qa ?_ | refine qd ?_ | (refine hK _ ?_; clear hK K) | clear hK K)
   exact ⟨qbz hcl (vD_cl E n0), i, j', E, ⟨by omega, by omega, by omega, by omega, hzs, he⟩, by omega, fun q _ => rfl, by simp [hrn]⟩
theorem qqh {i j h : Nat} (hh : h = (i + j) / 2) (hn : i + j <= 4000000) : IntKind.i64.wrap ((IntKind.u64.wrap ((i : Int) + (j : Int))).fdiv (2 ^ min 1 IntKind.u64.bits)) = (h : Int) := by
 have e1 : (2 : Int) ^ min 1 IntKind.u64.bits = 2 := by decide
 have e2 : IntKind.u64.wrap ((i : Int) + (j : Int)) = (i : Int) + (j : Int) := by
  have : IntKind.u64.wrap ((i : Int) + (j : Int)) = ((i : Int) + (j : Int)) % 18446744073709551616 := rfl
  omega
 rw [e1, e2, Int.fdiv_eq_ediv_of_nonneg _ (by omega), IntKind.wrap_i64]
 omega
theorem qso1 (g : Nat) (c : Delta -> Delta -> Int) (hE : enters Tryz.prog g = true) (hc : ∀ x y : Delta, Gives Tryz.prog g [x.av, y.av] (.int (c x y))) (F : Nat) (d : Array Delta) (a m b : Nat) (hm : m = a + 1) (hmb : m < b) (hb : b <= d.size) (hn : d.size <= 1000000) {σ : Nat -> AB} {r : Nat} (hσ : σ r = vD d) :
  AC Tryz.prog 169 [.own r d.size, .int a, .int m, .int b, .fn g []] σ fun y τ => y = .tup [] /\ τ = upd σ r (vD (symM (ltC c) (F + 1) a m b d)) := by
 obtain ⟨R, hR⟩ : ∃ R, R = symM (ltC c) (F + 1) a m b d := ⟨_, rfl⟩
 rw [<- hR]
 rw [symM, if_pos (by omega)] at hR
 obtain ⟨P, hP⟩ : ∃ P : Nat -> Bool, P = fun h => ltC c d[h]! d[a]! := ⟨_, rfl⟩
 rw [<- hP] at hR
 obtain ⟨B, hB⟩ : ∃ B, B = qbo P m b := ⟨_, rfl⟩
 rw [<- hB] at hR
 have k0 : ((m : Int) - (a : Int) == 1) = true := by rw [beq_iff_eq]; omega
 refine qcg Tryz.func169 Tryz.ntmps169 rfl rfl (by decide) rfl (by intro n; first | (simp; done) | exact hcl' n | (simp; exact hcl' n)) (by intro n; simp) ?_ fun n0 hrn hcl hft => ?_
 .rw [hσ]; simp
 have hl : ∀ (τ : Nat -> AB) (L : List AB), loc τ n0 L r = τ r := fun τ L => qcf τ n0 r L hrn
 have hσ0 : upd σ r (vD d) = σ := qna hσ
 repeat' (first | (refine Stp.m ?_ <;> try simp (disch := first | omega | simp) [qc, -qe, -qi, k0]) | refine qb fun K hK => ?_ | refine qa ?_ | refine qd ?_ | (refine hK _ ?_; clear hK K))
 refine qk hcl (fun s : Nat × Nat => [(0, .own r d.size), (1, .int a), (4, .fn g []), (10, .int s.1), (11, .int s.2)]) (fun _ => [])
  (fun s => m <= s.1 /\ s.1 <= s.2 /\ s.2 <= b /\ B = qbo P s.1 s.2) (fun s => s.2 - s.1) (m, b) ⟨by simp, by simp; omega, by simp, hB⟩ (by simp [hrn]) fun ⟨i, j⟩ ⟨h1, h2, h3, he⟩ => ?_
 dsimp only at h1 h2 h3 he ⊢
 rw [qbo] at he
 by_cases hij : i < j
 .rw [if_pos hij] at he
  obtain ⟨h, hh⟩ : ∃ h, h = (i + j) / 2 := ⟨_, rfl⟩
  rw [<- hh] at he
  have hm2 := qqh hh (by omega)
  obtain ⟨x, hx⟩ : ∃ x, x = d[h]! := ⟨_, rfl⟩
  obtain ⟨y, hy⟩ : ∃ y, y = d[a]! := ⟨_, rfl⟩
  have hPh : P h = decide (c x y < 0) := by rw [hP, hx, hy]; rfl
  have g1 := qeq d (show h < d.size by omega) hx
  have g2 := qeq d (show a < d.size by omega) hy
  have b1 : (h : Int) < (d.size : Int) := by omega
  have b2 : (a : Int) < (d.size : Int) := by omega
  have c1 : Gives Tryz.prog g [cD x, cD y] (.int (c x y)) := hc x y
  obtain ⟨V, hV⟩ : ∃ V, V = d.toList.map Delta.av := ⟨_, rfl⟩
  have hvl : V.length = d.size := by rw [hV]; simp
  simp only [<- hV, cD] at g1 g2 c1
  have hσ2 : σ r = .vec V 55 3 := by rw [hσ, hV]
  by_cases hcx : c x y < 0
  .rw [if_pos (by simpa [hPh] using hcx)] at he
   repeat' (first | ((first | refine Stp.m ?_ | refine agH ?_) <;> (try simp (disch := first | omega | simp) [qc, -qe, -qi, hij, hl, hrn, hσ2, hm2, g1, g2, b1, b2, hvl, hE, hcx, -Delta.av_fold])) | refine qb fun K hK => ?_ | refine qa ?_ | refine qf ?_ | refine qd ?_ | (refine hK _ ?_; clear hK K) | clear hK K)
   exact ⟨h + 1, j, ⟨by omega, by omega, h3, he⟩, by omega, by simp [hrn]⟩
  .rw [if_neg (by simpa [hPh] using hcx)] at he
   repeat' (first | ((first | refine Stp.m ?_ | refine agH ?_) <;> (try simp (disch := first | omega | simp) [qc, -qe, -qi, hij, hl, hrn, hσ2, hm2, g1, g2, b1, b2, hvl, hE, hcx, -Delta.av_fold])) | refine qb fun K hK => ?_ | refine qa ?_ | refine qf ?_ | refine qd ?_ | (refine hK _ ?_; clear hK K) | clear hK K)
   exact ⟨i, h, ⟨by omega, by omega, by omega, he⟩, by omega, by simp [hrn]⟩
 .rw [if_neg hij] at he
  obtain rfl : i = B := he.symm
  repeat' (first | (refine Stp.m ?_ <;> try simp (disch := first | omega | simp) [qc, -qe, -qi, hij]) | refine qb fun K hK => ?_ | refine qa ?_ | refine qd ?_ | (refine hK _ ?_; clear hK K) | clear hK K)
  refine qbx (fun s : Nat × Array Delta => upd σ r (vD s.2)) (fun s => [(0, .own r d.size), (10, .int i), (13, .int s.1)]) (fun _ => [])
   (fun s => a <= s.1 /\ s.1 <= i - 1 /\ s.2.size = d.size /\ R = mvU s.1 (i - 1 - s.1) s.2) (fun s => i - s.1) (a, d) (fun s _ => qbz hcl (vD_cl s.2 n0)) ⟨by simp, by simp; omega, rfl, hR⟩ ⟨fun q _ => by simp only [hσ0], by simp [hrn]⟩ hcl fun ⟨k, f⟩ ⟨k1, k2, k3, k4⟩ => ?_
  dsimp only at k1 k2 k3 k4 ⊢
  by_cases hki : k < i - 1
  .obtain ⟨n, hn2⟩ : ∃ n, i - 1 - k = n + 1 := ⟨i - 1 - k - 1, by omega⟩
   rw [hn2, mvU] at k4
   have hki2 : (k : Int) < (i : Int) - 1 := by omega
   obtain ⟨x, hx⟩ : ∃ x, x = f[k]! := ⟨_, rfl⟩
   obtain ⟨y, hy⟩ : ∃ y, y = f[k + 1]! := ⟨_, rfl⟩
   have e1 : ((k : Int) + 1).toNat = k + 1 := by omega
   have g1 := qeq f (show k < f.size by omega) hx
   have g2 := qeq f (show k + 1 < f.size by omega) hy
   have b1 : (k : Int) < (f.size : Int) := by omega
   have b2 : (k : Int) + 1 < (f.size : Int) := by omega
   have p1 : (0 : Int) <= (k : Int) + 1 := by omega
   have hne : ¬ k = k + 1 := by omega
   have hne2 : ¬ k + 1 = k := by omega
   have fin := qzd f k (k + 1) hx hy
   obtain ⟨V, hV⟩ : ∃ V, V = f.toList.map Delta.av := ⟨_, rfl⟩
   have hvl : V.length = d.size := by rw [hV]; simp [k3]
   simp only [<- hV, cD] at g1 g2 fin
   rw [show vD f = .vec V 55 3 by rw [hV]]
   repeat' (first | (refine Stp.m ?_ <;> try simp (disch := first | omega | simp) [qc, -qe, -qi, hki2, hl, hrn, e1, g1, g2, b1, b2, p1, k3, hvl, hne, hne2, -Delta.av_fold]) | refine sideA ?_ | refine qb fun K hK => ?_ | refine qa ?_ | refine qf ?_ | refine qd ?_ | (refine hK _ ?_; clear hK K) | clear hK K)
   rw [fin]
   exact ⟨qbz hcl (vD_cl (swp f k (k + 1)) n0), k + 1, swp f k (k + 1), ⟨by omega, by omega, by rw [size_swp]; exact k3, by rw [k4, show i - 1 - (k + 1) = n by omega]⟩, by omega, fun q _ => rfl, by simp [hrn]⟩
  .have hk0 : i - 1 - k = 0 := by omega
   rw [hk0, mvU] at k4
   subst k4
   have hki2 : ¬ (k : Int) < (i : Int) - 1 := by omega
   repeat' (first | (refine Stp.m ?_ <;> try simp (disch := first | omega | simp) [qc, -qe, -qi, hki2]) | refine qb fun K hK => ?_ | refine qa ?_ | (refine hK _ ?_; clear hK K) | clear hK K)
theorem qsp1 (g : Nat) (c : Delta -> Delta -> Int) (hE : enters Tryz.prog g = true) (hc : ∀ x y : Delta, Gives Tryz.prog g [x.av, y.av] (.int (c x y))) (F : Nat) (d : Array Delta) (a m b : Nat) (ham : a < m) (hm1 : ¬ m - a = 1) (hm : b = m + 1) (hb : b <= d.size) (hn : d.size <= 1000000) {σ : Nat -> AB} {r : Nat} (hσ : σ r = vD d) :
  AC Tryz.prog 169 [.own r d.size, .int a, .int m, .int b, .fn g []] σ fun y τ => y = .tup [] /\ τ = upd σ r (vD (symM (ltC c) (F + 1) a m b d)) := by
 obtain ⟨R, hR⟩ : ∃ R, R = symM (ltC c) (F + 1) a m b d := ⟨_, rfl⟩
 rw [<- hR]
 rw [symM, if_neg hm1, if_pos (by omega)] at hR
 obtain ⟨P, hP⟩ : ∃ P : Nat -> Bool, P = fun h => !ltC c d[m]! d[h]! := ⟨_, rfl⟩
 rw [<- hP] at hR
 obtain ⟨B, hB⟩ : ∃ B, B = qbo P a m := ⟨_, rfl⟩
 rw [<- hB] at hR
 have k0 : ((m : Int) - (a : Int) == 1) = false := by rw [beq_eq_false_iff_ne]; omega
 have k1 : ((b : Int) - (m : Int) == 1) = true := by rw [beq_iff_eq]; omega
 refine qcg Tryz.func169 Tryz.ntmps169 rfl rfl (by decide) rfl (by intro n; first | (simp; done) | exact hcl' n | (simp; exact hcl' n)) (by intro n; simp) ?_ fun n0 hrn hcl hft => ?_
 .rw [hσ]; simp
 have hl : ∀ (τ : Nat -> AB) (L : List AB), loc τ n0 L r = τ r := fun τ L => qcf τ n0 r L hrn
 have hσ0 : upd σ r (vD d) = σ := qna hσ
 repeat' (first | (refine Stp.m ?_ <;> try simp (disch := first | omega | simp) [qc, -qe, -qi, k0, k1]) | refine qb fun K hK => ?_ | refine qa ?_ | refine qd ?_ | (refine hK _ ?_; clear hK K))
 refine qk hcl (fun s : Nat × Nat => [(0, .own r d.size), (2, .int m), (4, .fn g []), (14, .int s.1), (15, .int s.2)]) (fun _ => [])
  (fun s => a <= s.1 /\ s.1 <= s.2 /\ s.2 <= m /\ B = qbo P s.1 s.2) (fun s => s.2 - s.1) (a, m) ⟨by simp, by simp; omega, by simp, hB⟩ (by simp [hrn]) fun ⟨i, j⟩ ⟨h1, h2, h3, he⟩ => ?_
 dsimp only at h1 h2 h3 he ⊢
 rw [qbo] at he
 by_cases hij : i < j
 .rw [if_pos hij] at he
  obtain ⟨h, hh⟩ : ∃ h, h = (i + j) / 2 := ⟨_, rfl⟩
  rw [<- hh] at he
  have hm2 := qqh hh (by omega)
  obtain ⟨x, hx⟩ : ∃ x, x = d[m]! := ⟨_, rfl⟩
  obtain ⟨y, hy⟩ : ∃ y, y = d[h]! := ⟨_, rfl⟩
  have hPh : P h = !decide (c x y < 0) := by rw [hP, hx, hy]; rfl
  have g1 := qeq d (show m < d.size by omega) hx
  have g2 := qeq d (show h < d.size by omega) hy
  have b1 : (h : Int) < (d.size : Int) := by omega
  have b2 : (m : Int) < (d.size : Int) := by omega
  have c1 : Gives Tryz.prog g [cD x, cD y] (.int (c x y)) := hc x y
  obtain ⟨V, hV⟩ : ∃ V, V = d.toList.map Delta.av := ⟨_, rfl⟩
  have hvl : V.length = d.size := by rw [hV]; simp
  simp only [<- hV, cD] at g1 g2 c1
  have hσ2 : σ r = .vec V 55 3 := by rw [hσ, hV]
  by_cases hcx : c x y < 0
  .rw [if_neg (by simpa [hPh] using hcx)] at he
   repeat' (first | ((first | refine Stp.m ?_ | refine agH ?_) <;> (try simp (disch := first | omega | simp) [qc, -qe, -qi, hij, hl, hrn, hσ2, hm2, g1, g2, b1, b2, hvl, hE, hcx, -Delta.av_fold])) | refine qb fun K hK => ?_ | refine qa ?_ | refine qf ?_ | refine qd ?_ | (refine hK _ ?_; clear hK K) | clear hK K)
   exact ⟨i, h, ⟨by omega, by omega, by omega, he⟩, by omega, by simp [hrn]⟩
  .rw [if_pos (by simpa [hPh] using hcx)] at he
   repeat' (first | ((first | refine Stp.m ?_ | refine agH ?_) <;> (try simp (disch := first | omega | simp) [qc, -qe, -qi, hij, hl, hrn, hσ2, hm2, g1, g2, b1, b2, hvl, hE, hcx, -Delta.av_fold])) | refine qb fun K hK => ?_ | refine qa ?_ | refine qf ?_ | refine qd ?_ | (refine hK _ ?_; clear hK K) | clear hK K)
   exact ⟨h + 1, j, ⟨by omega, by omega, h3, he⟩, by omega, by simp [hrn]⟩
 .rw [if_neg hij] at he
  obtain rfl : i = B := he.symm
  repeat' (first | (refine Stp.m ?_ <;> try simp (disch := first | omega | simp) [qc, -qe, -qi, hij]) | refine qb fun K hK => ?_ | refine qa ?_ | refine qd ?_ | (refine hK _ ?_; clear hK K) | clear hK K)
  refine qbx (fun s : Nat × Array Delta => upd σ r (vD s.2)) (fun s => [(0, .own r d.size), (14, .int i), (17, .int s.1)]) (fun _ => [])
   (fun s => i <= s.1 /\ s.1 <= m /\ s.2.size = d.size /\ R = mvD i (s.1 - i) s.2) (fun s => s.1) (m, d) (fun s _ => qbz hcl (vD_cl s.2 n0)) ⟨by simp; omega, by simp, rfl, hR⟩ ⟨fun q _ => by simp only [hσ0], by simp [hrn]⟩ hcl fun ⟨k, f⟩ ⟨k1, k2, k3, k4⟩ => ?_
  dsimp only at k1 k2 k3 k4 ⊢
  by_cases hki : i < k
  .obtain ⟨q, rfl⟩ : ∃ q, k = q + 1 := ⟨k - 1, by omega⟩
   obtain ⟨n, hn2⟩ : ∃ n, q + 1 - i = n + 1 := ⟨q - i, by omega⟩
   rw [hn2, mvD, show i + n + 1 = q + 1 by omega, show i + n = q by omega] at k4
   have hki2 : (i : Int) < (q : Int) + 1 := by omega
   obtain ⟨x, hx⟩ : ∃ x, x = f[q + 1]! := ⟨_, rfl⟩
   obtain ⟨y, hy⟩ : ∃ y, y = f[q]! := ⟨_, rfl⟩
   have e1 : ((q : Int) + 1).toNat = q + 1 := by omega
   have g1 := qeq f (show q + 1 < f.size by omega) hx
   have g2 := qeq f (show q < f.size by omega) hy
   have b1 : (q : Int) + 1 < (f.size : Int) := by omega
   have b2 : (q : Int) < (f.size : Int) := by omega
   have p1 : (0 : Int) <= (q : Int) + 1 := by omega
   have hne : ¬ q + 1 = q := by omega
   have hne2 : ¬ q = q + 1 := by omega
   have fin := qzd f (q + 1) q hx hy
   obtain ⟨V, hV⟩ : ∃ V, V = f.toList.map Delta.av := ⟨_, rfl⟩
   have hvl : V.length = d.size := by rw [hV]; simp [k3]
   simp only [<- hV, cD] at g1 g2 fin
   rw [show vD f = .vec V 55 3 by rw [hV]]
   repeat' (first | (refine Stp.m ?_ <;> try simp (disch := first | omega | simp) [qc, -qe, -qi, hki2, hl, hrn, e1, g1, g2, b1, b2, p1, k3, hvl, hne, hne2, -Delta.av_fold]) | refine sideA ?_ | refine qb fun K hK => ?_ | refine qa ?_ | refine qf ?_ | refine qd ?_ | (refine hK _ ?_; clear hK K) | clear hK K)
   rw [fin]
   exact ⟨qbz hcl (vD_cl (swp f (q + 1) q) n0), q, swp f (q + 1) q, ⟨by omega, by omega, by rw [size_swp]; exact k3, by rw [k4, show q - i = n by omega]⟩, by omega, fun q _ => rfl, by simp [hrn]⟩
  .have hk0 : k - i = 0 := by omega
   rw [hk0, mvD] at k4
   subst k4
   repeat' (first | (refine Stp.m ?_ <;> try simp (disch := first | omega | simp) [qc, -qe, -qi, hki]) | refine qb fun K hK => ?_ | refine qa ?_ | (refine hK _ ?_; clear hK K) | clear hK K)
theorem qvl {lt : Delta -> Delta -> Bool} {a m b : Nat} {d : Array Delta} {lo hi : Nat} (h1 : a < m) (h2 : m < b) (hlo : lo = if (a + b) / 2 < m then (a + b) / 2 + m - b else a) (hhi : hi = if (a + b) / 2 < m then (a + b) / 2 else m) : a <= lo /\ lo <= hi /\ hi <= m /\ hi <= (a + b) / 2 /\ (a + b) / 2 + m - b <= lo := by
 by_cases h : (a + b) / 2 < m
 .rw [if_pos h] at hlo hhi
  refine ⟨?_, ?_, ?_, ?_, ?_⟩ <;> omega
 .rw [if_neg h] at hlo hhi
  refine ⟨?_, ?_, ?_, ?_, ?_⟩ <;> omega
theorem qqw (m : Nat) : ∀ (N i j : Nat) (d : Array Delta), i + j <= N -> (rot m i j d).size = d.size
 | 0, i, j, d, h => by rw [rot, if_pos (by omega), qby]
 | N + 1, i, j, d, h => by
  rw [rot]
  split
  .rw [qby]
  .split
   .rfl
   .split
    .rw [qqw m N _ _ _ (by omega), qby]
    .rw [qqw m N _ _ _ (by omega), qby]
theorem qmy (s m e : Nat) (d : Array Delta) : (qfu s m e d).size = d.size := by
 unfold qfu; split
 .exact qqw m _ _ _ d (Nat.le_refl _)
 .rfl
theorem qyc : ∀ (n k : Nat) (d : Array Delta), (mvU k n d).size = d.size
 | 0, _, _ => rfl
 | n + 1, k, d => by rw [mvU, qyc n, swp_size]
theorem qya (i : Nat) : ∀ (n : Nat) (d : Array Delta), (mvD i n d).size = d.size
 | 0, _ => rfl
 | n + 1, d => by rw [mvD, qya i n, swp_size]
theorem qen (lt : Delta -> Delta -> Bool) : ∀ (F a m b : Nat) (d : Array Delta), (symM lt F a m b d).size = d.size
 | 0, _, _, _, _ => rfl
 | F + 1, a, m, b, d => by
  rw [symM]
  split
  .exact qyc _ _ _
  .split
   .exact qya _ _ _
   .dsimp only
    split <;> (try rw [qen lt F]) <;> split <;> (try rw [qen lt F]) <;> exact qmy _ _ _ _
set_option maxHeartbeats 4000000 in
theorem qsq1 (g : Nat) (c : Delta -> Delta -> Int) (hE : enters Tryz.prog g = true) (hc : ∀ x y : Delta, Gives Tryz.prog g [x.av, y.av] (.int (c x y))) (F : Nat) (d : Array Delta) (a m b : Nat) (ham : a < m) (hmb : m < b) (hm1 : ¬ m - a = 1) (hm2 : ¬ b - m = 1) (hb : b <= d.size) (hn : d.size <= 1000000)
  (ih : ∀ (d : Array Delta) (a m b : Nat), b - a <= F -> a < m -> m < b -> b <= d.size -> d.size <= 1000000 -> ∀ {σ : Nat -> AB} {r : Nat}, σ r = vD d -> AC Tryz.prog 169 [.own r d.size, .int a, .int m, .int b, .fn g []] σ fun y τ => y = .tup [] /\ τ = upd σ r (vD (symM (ltC c) F a m b d)))
  (hF : b - a <= F + 1) {σ : Nat -> AB} {r : Nat} (hσ : σ r = vD d) :
  AC Tryz.prog 169 [.own r d.size, .int a, .int m, .int b, .fn g []] σ fun y τ => y = .tup [] /\ τ = upd σ r (vD (symM (ltC c) (F + 1) a m b d)) := by
 obtain ⟨R, hR⟩ : ∃ R, R = symM (ltC c) (F + 1) a m b d := ⟨_, rfl⟩
 rw [<- hR]
 rw [symM, if_neg hm1, if_neg hm2] at hR
 dsimp only at hR
 obtain ⟨B, hB⟩ : ∃ B, B = cutAt (ltC c) a m b d := ⟨_, rfl⟩
 rw [<- hB] at hR
 unfold cutAt at hB
 obtain ⟨mid, hmid⟩ : ∃ mid, mid = (a + b) / 2 := ⟨_, rfl⟩
 obtain ⟨lo, hlo⟩ : ∃ lo, lo = if (a + b) / 2 < m then (a + b) / 2 + m - b else a := ⟨_, rfl⟩
 obtain ⟨hi, hhi⟩ : ∃ hi, hi = if (a + b) / 2 < m then (a + b) / 2 else m := ⟨_, rfl⟩
 obtain ⟨r1, r2, r3, r4, r5⟩ := qvl (lt := ltC c) (d := d) ham hmb hlo hhi
 rw [<- hlo, <- hhi] at hB
 rw [<- hmid] at hR hB hlo hhi r4 r5
 have hmd : mid + mid <= a + b /\ a + b <= mid + mid + 1 := by omega
 obtain ⟨P, hP⟩ : ∃ P : Nat -> Bool, P = fun h => !ltC c d[mid + m - 1 - h]! d[h]! := ⟨_, rfl⟩
 rw [<- hP] at hB
 have k0 : ((m : Int) - (a : Int) == 1) = false := by rw [beq_eq_false_iff_ne]; omega
 have k1 : ((b : Int) - (m : Int) == 1) = false := by rw [beq_eq_false_iff_ne]; omega
 have kh := qqh hmid (by omega)
 refine qcg Tryz.func169 Tryz.ntmps169 rfl rfl (by decide) rfl (by intro n; first | (simp; done) | exact hcl' n | (simp; exact hcl' n)) (by intro n; simp) ?_ fun n0 hrn hcl hft => ?_
 .rw [hσ]; simp
 have hl : ∀ (τ : Nat -> AB) (L : List AB), loc τ n0 L r = τ r := fun τ L => qcf τ n0 r L hrn
 have hσ0 : upd σ r (vD d) = σ := qna hσ
 have loop : (mid < m -> (lo : Int) = (mid : Int) + (m : Int) - (b : Int) /\ hi = mid) /\ (¬ mid < m -> lo = a /\ hi = m) := by
  constructor
  .intro h; rw [if_pos h] at hlo hhi; omega
  .intro h; rw [if_neg h] at hlo hhi; omega
 obtain ⟨d1, hd1⟩ : ∃ d1, d1 = qfu B m (mid + m - B) d := ⟨_, rfl⟩
 obtain ⟨d2, hd2⟩ : ∃ d2, d2 = if a < B /\ B < mid then symM (ltC c) F a B mid d1 else d1 := ⟨_, rfl⟩
 rw [<- hd1, <- hd2] at hR
 have z1 : d1.size = d.size := by rw [hd1]; exact qmy _ _ _ _
 have z2 : d2.size = d.size := by
  rw [hd2]; split
  .rw [qen]; exact z1
  .exact z1
 by_cases hmm : mid < m
 case' pos =>
  obtain ⟨l1, l2⟩ := loop.1 hmm
  have l3 : (mid : Int) = (hi : Int) := by omega
  repeat' (first | (refine Stp.m ?_ <;> try simp (disch := first | omega | simp) [qc, -qe, -qi, k0, k1, kh, hmm, <- l1]) | refine qb fun K hK => ?_ | refine qa ?_ | refine qd ?_ | (refine hK _ ?_; clear hK K))
 case' neg =>
  obtain ⟨l1, l2⟩ := loop.2 hmm
  repeat' (first | (refine Stp.m ?_ <;> try simp (disch := first | omega | simp) [qc, -qe, -qi, k0, k1, kh, hmm]) | refine qb fun K hK => ?_ | refine qa ?_ | refine qd ?_ | (refine hK _ ?_; clear hK K))
 all_goals (
  refine qk hcl (fun s : Nat × Nat => [(0, .own r d.size), (1, .int a), (2, .int m), (3, .int b), (4, .fn g []), (18, .int mid), (19, .int ((mid : Int) + (m : Int))), (20, .int s.1), (21, .int s.2), (22, .int ((mid : Int) + (m : Int) - 1))]) (fun _ => [])
   (fun s => lo <= s.1 /\ s.1 <= s.2 /\ s.2 <= hi /\ B = qbo P s.1 s.2) (fun s => s.2 - s.1) (lo, hi) ⟨by simp, by simpa using r2, by simp, hB⟩ (by first | (simp [hrn, l3]; done) | (simp [hrn, l1, l2]; done)) fun ⟨i, j⟩ ⟨h1, h2, h3, he⟩ => ?_
  dsimp only at h1 h2 h3 he ⊢
  rw [qbo] at he
  by_cases hij : i < j
  .rw [if_pos hij] at he
   obtain ⟨h, hh⟩ : ∃ h, h = (i + j) / 2 := ⟨_, rfl⟩
   rw [<- hh] at he
   have hm2 := qqh hh (by omega)
   obtain ⟨q, hq⟩ : ∃ q, q = mid + m - 1 - h := ⟨_, rfl⟩
   have hq2 : (mid : Int) + (m : Int) - 1 - (h : Int) = (q : Int) := by omega
   obtain ⟨x, hx⟩ : ∃ x, x = d[q]! := ⟨_, rfl⟩
   obtain ⟨y, hy⟩ : ∃ y, y = d[h]! := ⟨_, rfl⟩
   have hPh : P h = !decide (c x y < 0) := by rw [hP, hx, hy, hq]; rfl
   have g1 := qeq d (show q < d.size by omega) hx
   have g2 := qeq d (show h < d.size by omega) hy
   have b1 : (h : Int) < (d.size : Int) := by omega
   have b2 : (q : Int) < (d.size : Int) := by omega
   have c1 : Gives Tryz.prog g [cD x, cD y] (.int (c x y)) := hc x y
   obtain ⟨V, hV⟩ : ∃ V, V = d.toList.map Delta.av := ⟨_, rfl⟩
   have hvl : V.length = d.size := by rw [hV]; simp
   simp only [<- hV, cD] at g1 g2 c1
   have hσ2 : σ r = .vec V 55 3 := by rw [hσ, hV]
   by_cases hcx : c x y < 0
   .rw [if_neg (by simpa [hPh] using hcx)] at he
    repeat' (first | ((first | refine Stp.m ?_ | refine agH ?_) <;> (try simp (disch := first | omega | simp) [qc, -qe, -qi, hij, hl, hrn, hσ2, hm2, hq2, g1, g2, b1, b2, hvl, hE, hcx, -Delta.av_fold])) | refine qb fun K hK => ?_ | refine qa ?_ | refine qf ?_ | refine qd ?_ | (refine hK _ ?_; clear hK K) | clear hK K)
    exact ⟨i, h, ⟨by omega, by omega, by omega, he⟩, by omega, by simp [hrn]⟩
   .rw [if_pos (by simpa [hPh] using hcx)] at he
    repeat' (first | ((first | refine Stp.m ?_ | refine agH ?_) <;> (try simp (disch := first | omega | simp) [qc, -qe, -qi, hij, hl, hrn, hσ2, hm2, hq2, g1, g2, b1, b2, hvl, hE, hcx, -Delta.av_fold])) | refine qb fun K hK => ?_ | refine qa ?_ | refine qf ?_ | refine qd ?_ | (refine hK _ ?_; clear hK K) | clear hK K)
    exact ⟨h + 1, j, ⟨by omega, by omega, by omega, he⟩, by omega, by simp [hrn]⟩
  .rw [if_neg hij] at he
   obtain rfl : i = B := he.symm
   obtain ⟨e, he2⟩ : ∃ e, e = mid + m - i := ⟨_, rfl⟩
   have q1 : (mid : Int) + (m : Int) - (i : Int) = (e : Int) := by omega
   rw [<- he2] at hR hd1
   have c1 : i < m -> m < e -> ∀ τ : Nat -> AB, τ r = vD d -> AC Tryz.prog 190 [.own r d.size, .int i, .int m, .int e, .fn g []] τ fun y τ' => y = .tup [] /\ τ' = upd τ r (vD d1) := fun h1 h2 τ hτ => by
    have := rot_g (r := r) g d i m e h1 h2 (by omega) hn hτ
    rw [hd1]; unfold qfu; rw [if_pos ⟨h1, h2⟩]; exact this
   have c2 : a < i -> i < mid -> ∀ τ : Nat -> AB, τ r = vD d1 -> AC Tryz.prog 169 [.own r d.size, .int a, .int i, .int mid, .fn g []] τ fun y τ' => y = .tup [] /\ τ' = upd τ r (vD d2) := fun h1 h2 τ hτ => by
    have := ih d1 a i mid (by omega) h1 h2 (by omega) (by omega) hτ
    rw [z1] at this
    rw [hd2, if_pos ⟨h1, h2⟩]; exact this
   have c3 : mid < e -> e < b -> ∀ τ : Nat -> AB, τ r = vD d2 -> AC Tryz.prog 169 [.own r d.size, .int mid, .int e, .int b, .fn g []] τ fun y τ' => y = .tup [] /\ τ' = upd τ r (vD R) := fun h1 h2 τ hτ => by
    have := ih d2 mid e b (by omega) h1 h2 (by omega) (by omega) hτ
    rw [z2] at this
    rw [hR, if_pos ⟨h1, h2⟩]; exact this
   have n1 : ¬ (i < m /\ m < e) -> d1 = d := fun h => by rw [hd1]; unfold qfu; rw [if_neg h]
   have n2 : ¬ (a < i /\ i < mid) -> d2 = d1 := fun h => by rw [hd2, if_neg h]
   have n3 : ¬ (mid < e /\ e < b) -> R = d2 := fun h => by rw [hR, if_neg h]
   by_cases p1 : i < m <;> by_cases p4 : i < mid <;> by_cases p3 : a < i <;> by_cases p6 : e < b <;> by_cases p2 : m < e <;> by_cases p5 : mid < e <;> try (exfalso; omega)
   all_goals (
    try (have t := n3 (by omega); subst t)
    try (have t := n2 (by omega); subst t)
    try (have t := n1 (by omega); subst t)
    repeat' (first | ((first | refine Stp.m ?_ | refine qdu r _ (c1 (by assumption) (by assumption) _ (by simp [hl, hσ])) (by simp [hl, hσ]) ?_ | refine qdu r _ (c2 (by assumption) (by assumption) _ (by simp [hl, hσ])) (by simp [hl, hσ]) ?_ | refine qdu r _ (c3 (by assumption) (by assumption) _ (by simp [hl, hσ])) (by simp [hl, hσ]) ?_) <;> (try simp (disch := first | omega | simp) [qc, -qe, -qi, hij, hl, hrn, q1, p1, p2, p3, p4, p5, p6])) | refine qb fun K hK => ?_ | refine qa ?_ | (refine hK _ ?_; clear hK K) | clear hK K)
    all_goals first | done | exact hσ0.symm | simp [hσ0]))
theorem qlw1 (g : Nat) (c : Delta -> Delta -> Int) (hE : enters Tryz.prog g = true) (hc : ∀ x y : Delta, Gives Tryz.prog g [x.av, y.av] (.int (c x y))) : ∀ (F : Nat) (d : Array Delta) (a m b : Nat), b - a <= F -> a < m -> m < b -> b <= d.size -> d.size <= 1000000 -> ∀ {σ : Nat -> AB} {r : Nat}, σ r = vD d ->
  AC Tryz.prog 169 [.own r d.size, .int a, .int m, .int b, .fn g []] σ fun y τ => y = .tup [] /\ τ = upd σ r (vD (symM (ltC c) F a m b d))
 | 0, d, a, m, b, h0, h1, h2, _, _, _, _, _ => by omega
 | F + 1, d, a, m, b, h0, h1, h2, h3, h4, σ, r, hσ => by
  by_cases k1 : m - a = 1
  .exact qso1 g c hE hc F d a m b (by omega) h2 h3 h4 hσ
  .by_cases k2 : b - m = 1
   .exact qsp1 g c hE hc F d a m b h1 k1 (by omega) h3 h4 hσ
   .exact qsq1 g c hE hc F d a m b h1 h2 k1 k2 h3 h4 (qlw1 g c hE hc F) h0 hσ
theorem qvh (lt : Delta -> Delta -> Bool) (hS : SWO lt) (n a : Nat) (d : Array Delta) (h1 : a <= n) (h2 : n <= d.size) : (qdv lt n a d).size = d.size := (qho hS n _ a d (Nat.le_refl _) h1 h2).1.1
theorem qdy1 (lt : Delta -> Delta -> Bool) (hS : SWO lt) (a b : Nat) (d : Array Delta) (h1 : a <= b) (h2 : b <= d.size) : (insertionSort lt d a b).size = d.size := (insertionSort_holds (lt := lt) hS d a b h1 h2).1.1
theorem qmb (lt : Delta -> Delta -> Bool) (s n : Nat) : ∀ (N a : Nat) (d : Array Delta), n - a <= N -> (qft lt s n a d).size = d.size
 | 0, a, d, h => by
  rw [qft, dif_neg (by omega)]
  split
  .exact qen lt _ _ _ _ d
  .rfl
 | N + 1, a, d, h => by
  rw [qft]
  split
  .rw [qmb lt s n N _ _ (by omega), qen]
  .split
   .exact qen lt _ _ _ _ d
   .rfl
set_option maxHeartbeats 4000000 in
theorem qkm1 (g : Nat) (c : Delta -> Delta -> Int) (hS : SWO (ltC c)) (hE : enters Tryz.prog g = true) (hc : ∀ x y : Delta, Gives Tryz.prog g [x.av, y.av] (.int (c x y))) (d : Array Delta) (hn : d.size <= 1000000) {σ : Nat -> AB} {r : Nat} (hσ : σ r = vD d) :
  AC Tryz.prog 130 [.own r d.size, .int d.size, .fn g []] σ fun y τ => y = .tup [] /\ τ = upd σ r (vD (qem (ltC c) d.size d)) := by
 obtain ⟨R, hR⟩ : ∃ R, R = qem (ltC c) d.size d := ⟨_, rfl⟩
 rw [<- hR]
 unfold qem at hR
 obtain ⟨D, hD⟩ : ∃ D, D = qdv (ltC c) d.size 0 d := ⟨_, rfl⟩
 rw [<- hD] at hR
 have zD : D.size = d.size := by rw [hD]; exact qvh _ hS _ _ _ (by omega) (Nat.le_refl _)
 obtain ⟨n, hnn⟩ : ∃ n, n = d.size := ⟨_, rfl⟩
 refine qcg Tryz.func130 Tryz.ntmps130 rfl rfl (by decide) rfl (by intro n; first | (simp; done) | exact hcl' n | (simp; exact hcl' n)) (by intro n; simp) ?_ fun n0 hrn hcl hft => ?_
 .rw [hσ]; simp
 have hl : ∀ (τ : Nat -> AB) (L : List AB), loc τ n0 L r = τ r := fun τ L => qcf τ n0 r L hrn
 have hσ0 : upd σ r (vD d) = σ := qna hσ
 have ci := fun (e : Array Delta) (hz : e.size = d.size) (a b : Nat) (h1 : a <= b) (h2 : b <= d.size) (τ : Nat -> AB) (hτ : τ r = vD e) => qrc1 (σ := τ) (r := r) g c hE hc e a b h1 (by omega) (by omega) hτ
 have cs := fun (e : Array Delta) (hz : e.size = d.size) (F a m b : Nat) (h0 : b - a <= F) (h1 : a < m) (h2 : m < b) (h3 : b <= d.size) (τ : Nat -> AB) (hτ : τ r = vD e) => qlw1 g c hE hc F e a m b h0 h1 h2 (by omega) (by omega) (σ := τ) (r := r) hτ
 rw [<- hnn] at hR hD zD hn ⊢
 simp only [<- hnn] at ci cs
 repeat' (first | (refine Stp.m ?_ <;> try simp (disch := first | omega | simp) [qc, -qe, -qi]) | refine qb fun K hK => ?_ | refine qa ?_ | refine qd ?_ | (refine hK _ ?_; clear hK K))
 refine qbx (fun s : Nat × Array Delta => upd σ r (vD s.2)) (fun s => [(0, .own r n), (1, .int n), (2, .fn g []), (6, .int 20), (7, .int s.1), (8, .int ((s.1 : Int) + 20))]) (fun _ => [])
  (fun s => s.1 <= n /\ s.2.size = n /\ D = qdv (ltC c) n s.1 s.2) (fun s => n - s.1) (0, d) (fun s _ => qbz hcl (vD_cl s.2 n0)) ⟨by simp, hnn.symm, hD⟩ ⟨fun q _ => by simp only [hσ0], by simp [hrn]⟩ hcl fun ⟨a, e⟩ ⟨h1, hz, he⟩ => ?_
 dsimp only at h1 hz he ⊢
 rw [qdv] at he
 by_cases hlt : a + 20 <= n
 .rw [if_pos hlt] at he
  have hlt2 : (a : Int) + 20 <= (n : Int) := by omega
  have c1 := fun τ hτ => ci e hz a (a + 20) (by omega) hlt τ hτ
  have zi := qdy1 (ltC c) hS a (a + 20) e (by omega) (by omega)
  have q1 : ((a + 20 : Nat) : Int) = (a : Int) + 20 := by omega
  simp only [hz, q1] at c1
  generalize insertionSort (ltC c) e a (a + 20) = E at *
  repeat' (first | ((first | refine Stp.m ?_ | refine qdu r _ (c1 _ (by simp [hl])) (by simp [hl]) ?_) <;> (try simp (disch := first | omega | simp) [qc, -qe, -qi, hl, hrn, hlt2])) | refine qb fun K hK => ?_ | refine qa ?_ | refine qd ?_ | (refine hK _ ?_; clear hK K) | clear hK K)
  exact ⟨qbz hcl (vD_cl E n0), a + 20, E, ⟨hlt, by omega, he⟩, by omega, fun q _ => rfl, by simp [hrn]⟩
 .rw [if_neg hlt] at he
  have hlt2 : ¬ (a : Int) + 20 <= (n : Int) := by omega
  have c1 := fun τ hτ => ci e hz a n h1 (Nat.le_refl _) τ hτ
  simp only [hz] at c1
  rw [<- he] at c1
  repeat' (first | ((first | refine Stp.m ?_ | refine qdu r _ (c1 _ (by simp [hl])) (by simp [hl]) ?_) <;> (try simp (disch := first | omega | simp) [qc, -qe, -qi, hl, hrn, hlt2])) | refine qb fun K hK => ?_ | refine qa ?_ | refine qd ?_ | (refine hK _ ?_; clear hK K) | clear hK K)
  refine qbx (fun s : Nat × Array Delta => upd σ r (vD s.2)) (fun s => [(0, .own r n), (1, .int n), (2, .fn g []), (6, .int s.1)]) (fun _ => [])
   (fun s => 20 <= s.1 /\ s.1 <= 4000000 /\ s.2.size = n /\ R = qmj (ltC c) n s.1 s.2) (fun s => n - s.1) (20, D) (fun s _ => qbz hcl (vD_cl s.2 n0)) ⟨by simp, by simp, zD, hR⟩ ⟨fun q _ => rfl, by simp [hrn]⟩ (qbz hcl (vD_cl D n0)) fun ⟨s, f⟩ ⟨k1, k2, k3, k4⟩ => ?_
  dsimp only at k1 k2 k3 k4 ⊢
  rw [qmj] at k4
  by_cases hs : s < n
  .rw [dif_pos ⟨by omega, hs⟩] at k4
   obtain ⟨G, hG⟩ : ∃ G, G = qft (ltC c) s n 0 f := ⟨_, rfl⟩
   have zG : G.size = n := by rw [hG, qmb _ _ _ n _ _ (by omega)]; exact k3
   rw [<- hG] at k4
   repeat' (first | (refine Stp.m ?_ <;> try simp (disch := first | omega | simp) [qc, -qe, -qi, hs]) | refine qb fun K hK => ?_ | refine qa ?_ | refine qd ?_ | (refine hK _ ?_; clear hK K))
   refine qbx (fun t : Nat × Array Delta => upd σ r (vD t.2)) (fun t => [(0, .own r n), (1, .int n), (2, .fn g []), (6, .int s), (7, .int t.1), (8, .int ((t.1 : Int) + 2 * (s : Int)))]) (fun _ => [])
    (fun t => t.1 <= n /\ t.2.size = n /\ G = qft (ltC c) s n t.1 t.2) (fun t => n - t.1) (0, f) (fun t _ => qbz hcl (vD_cl t.2 n0)) ⟨by simp, k3, hG⟩ ⟨fun q _ => rfl, by simp [hrn]⟩ (qbz hcl (vD_cl f n0)) fun ⟨a, e⟩ ⟨m1, m2, m3⟩ => ?_
   dsimp only at m1 m2 m3 ⊢
   rw [qft] at m3
   by_cases ha : a + 2 * s <= n
   .rw [dif_pos ⟨by omega, ha⟩] at m3
    have ha2 : (a : Int) + 2 * (s : Int) <= (n : Int) := by omega
    have c1 := fun τ hτ => cs e m2 (2 * s) a (a + s) (a + 2 * s) (by omega) (by omega) (by omega) ha τ hτ
    have zi := qen (ltC c) (2 * s) a (a + s) (a + 2 * s) e
    have q1 : ((a + s : Nat) : Int) = (a : Int) + (s : Int) := by omega
    have q2 : ((a + 2 * s : Nat) : Int) = (a : Int) + 2 * (s : Int) := by omega
    simp only [m2, q1, q2] at c1
    generalize symM (ltC c) (2 * s) a (a + s) (a + 2 * s) e = E at *
    repeat' (first | ((first | refine Stp.m ?_ | refine qdu r _ (c1 _ (by simp [hl])) (by simp [hl]) ?_) <;> (try simp (disch := first | omega | simp) [qc, -qe, -qi, hl, hrn, ha2])) | refine qb fun K hK => ?_ | refine qa ?_ | refine qd ?_ | (refine hK _ ?_; clear hK K) | clear hK K)
    exact ⟨qbz hcl (vD_cl E n0), a + 2 * s, E, ⟨ha, by omega, m3⟩, by omega, fun q _ => rfl, by simp [hrn]⟩
   .rw [dif_neg (by omega)] at m3
    have ha2 : ¬ (a : Int) + 2 * (s : Int) <= (n : Int) := by omega
    by_cases hb : a + s < n
    .rw [if_pos hb] at m3
     have hb2 : (a : Int) + (s : Int) < (n : Int) := by omega
     have c1 := fun τ hτ => cs e m2 (n - a) a (a + s) n (by omega) (by omega) (by omega) (Nat.le_refl _) τ hτ
     have q1 : ((a + s : Nat) : Int) = (a : Int) + (s : Int) := by omega
     simp only [m2, q1] at c1
     rw [<- m3] at c1
     repeat' (first | ((first | refine Stp.m ?_ | refine qdu r _ (c1 _ (by simp [hl])) (by simp [hl]) ?_) <;> (try simp (disch := first | omega | simp) [qc, -qe, -qi, hl, hrn, ha2, hb2])) | refine qb fun K hK => ?_ | refine qa ?_ | (refine hK _ ?_; clear hK K) | clear hK K)
     exact ⟨qbz hcl (vD_cl G n0), 2 * s, G, ⟨by omega, by omega, zG, k4⟩, by omega, fun q _ => rfl, by simp [hrn]; omega⟩
    .rw [if_neg hb] at m3
     have hb2 : ¬ (a : Int) + (s : Int) < (n : Int) := by omega
     subst m3
     repeat' (first | (refine Stp.m ?_ <;> try simp (disch := first | omega | simp) [qc, -qe, -qi, hl, hrn, ha2, hb2]) | refine qb fun K hK => ?_ | refine qa ?_ | (refine hK _ ?_; clear hK K) | clear hK K)
     exact ⟨qbz hcl (vD_cl G n0), 2 * s, G, ⟨by omega, by omega, zG, k4⟩, by omega, fun q _ => rfl, by simp [hrn]; omega⟩
  .rw [dif_neg (by omega)] at k4
   subst k4
   repeat' (first | (refine Stp.m ?_ <;> try simp (disch := first | omega | simp) [qc, -qe, -qi, hs]) | refine qb fun K hK => ?_ | refine qa ?_ | (refine hK _ ?_; clear hK K))
theorem qpa1 (g : Nat) (c : Delta -> Delta -> Int) (hS : SWO (ltC c)) (hE : enters Tryz.prog g = true) (hc : ∀ x y : Delta, Gives Tryz.prog g [x.av, y.av] (.int (c x y))) (d : Array Delta) (hn : d.size <= 1000000) {σ : Nat -> AB} {r : Nat} (hσ : σ r = vD d) :
  AC Tryz.prog 78 [.own r d.size, .fn g []] σ fun y τ => y = .tup [] /\ τ = upd σ r (vD (qem (ltC c) d.size d)) := by
 have c1 := fun τ hτ => qkm1 (σ := τ) (r := r) g c hS hE hc d hn hτ
 generalize qem (ltC c) d.size d = R at *
 refine qcg Tryz.func78 Tryz.ntmps78 rfl rfl (by decide) rfl (by intro n; first | (simp; done) | exact hcl' n | (simp; exact hcl' n)) (by intro n; simp) ?_ fun n0 hrn hcl hft => ?_
 .rw [hσ]; simp
 have hl : ∀ (τ : Nat -> AB) (L : List AB), loc τ n0 L r = τ r := fun τ L => qcf τ n0 r L hrn
 have hvl : (d.toList.map Delta.av).length = d.size := by simp
 have hσ2 : σ r = .vec (d.toList.map Delta.av) 55 3 := hσ
 repeat' (first | ((first | refine Stp.m ?_ | refine qdu r _ (c1 _ (by simp [hl, hσ])) (by simp [hl, hσ]) ?_) <;> (try simp (disch := first | omega | simp) [qc, -qe, -qi, hl, hrn, hσ2, hvl])) | refine qa ?_)
end Go.Proofs.YtkedbjjfmejbhaaGreatDoor
