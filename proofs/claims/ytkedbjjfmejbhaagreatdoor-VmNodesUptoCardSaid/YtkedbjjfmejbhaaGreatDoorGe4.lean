/- Typed views of api.Pat. -/
import Derived.Sort.LotA
import Derived.Test.YtkedbjjfmejbhaaGreatDoorGe1
import Derived.Test.YtkedbjjfmejbhaaGreatDoorGe2
import Derived.Test.YtkedbjjfmejbhaaGreatDoorGe3
set_option linter.unusedSimpArgs false
set_option linter.unusedVariables false
namespace Go.Proofs.YtkedbjjfmejbhaaGreatDoor
open Go.RowKit Go.Lib
structure Pat where
 pred : Ex
 rep : Int
def Pat.d (x : Pat) : D := .st [x.pred.d, .int x.rep]
theorem Pat.width (x : Pat) : x.d.width = 5 := by
 simp [Pat.d, D.width, D.widths, Ex.width]
theorem Pat.widths (l : List Pat) : ∀ d ∈ l.map Pat.d, d.width = 5 := by
 intro d hd; obtain ⟨x, -, rfl⟩ := List.mem_map.1 hd; exact Pat.width x
theorem Pat.open {w : World} {S : Nat -> Prop} {x : Pat} {cs : List Value} (h : Rd w S x.d cs) : ∃ (A1 : Option Addr) (cap1 b1 off1 : Nat), cs = [.int .i64 x.pred.op, .int .i64 x.pred.n, .string x.pred.s, .slice A1 x.pred.args.length cap1, .int .i64 x.rep] /\ x.pred.args.length <= cap1 /\ cap1 <= 9223372036854775807 /\ (0 < x.pred.args.length -> A1 = some ⟨b1, off1, none⟩ /\ S b1) /\ RdM w S (x.pred.args.map Ex.d) b1 off1 := by
 simp only [Pat.d, Pat.d, Rd, RdS, List.length_map] at h
 obtain ⟨_, _, rfl, g0, ⟨_, _, rfl, rfl, rfl⟩⟩ := h
 obtain ⟨B0_0, C0_0, D0_0, E0_0, rfl, P0_0, Q0_0, R0_0, S0_0⟩ := Ex.open g0
 exact ⟨B0_0, C0_0, D0_0, E0_0, by simp, P0_0, Q0_0, R0_0, S0_0⟩
theorem Pat.at {w : World} {S : Nat -> Prop} {l : List Pat} {b off : Nat} (hm : RdM w S (l.map Pat.d) b off) {k : Nat} (hk : k < l.length) : ∃ (A1 : Option Addr) (cap1 b1 off1 : Nat), w.cell? ⟨b, off + k * 5, none⟩ = some (.int .i64 l[k].pred.op) /\ w.cell? ⟨b, off + k * 5 + 1, none⟩ = some (.int .i64 l[k].pred.n) /\ w.cell? ⟨b, off + k * 5 + 1 + 1, none⟩ = some (.string l[k].pred.s) /\ w.cell? ⟨b, off + k * 5 + 1 + 1 + 1, none⟩ = some (.slice A1 l[k].pred.args.length cap1) /\ w.cell? ⟨b, off + k * 5 + 1 + 1 + 1 + 1, none⟩ = some (.int .i64 l[k].rep) /\ Rd w S l[k].d [.int .i64 l[k].pred.op, .int .i64 l[k].pred.n, .string l[k].pred.s, .slice A1 l[k].pred.args.length cap1, .int .i64 l[k].rep] /\ l[k].pred.args.length <= cap1 /\ cap1 <= 9223372036854775807 /\ (0 < l[k].pred.args.length -> A1 = some ⟨b1, off1, none⟩ /\ S b1) /\ RdM w S (l[k].pred.args.map Ex.d) b1 off1 := by
 obtain ⟨cs, hc, hr⟩ := RdM.get _ b off hm (Pat.widths l) k (by simpa using hk)
 rw [List.getElem_map] at hr
 obtain ⟨A1, cap1, b1, off1, rfl, hf⟩ := Pat.open hr
 simp only [qw, and_true] at hc
 obtain ⟨c0, c1, c2, c3, c4⟩ := hc
 exact ⟨A1, cap1, b1, off1, c0, c1, c2, c3, c4, hr, hf⟩
structure Node where
 op : Int
 inp : List Int
 source : ByteArray
 schema : Int
 exprs : List Ex
 kind : Int
 size : Int
 step : Int
 key : List Int
 key2 : List Int
 before : Int
 after : Int
 keep : Int
 aggs : List Agg
 seq : List Pat
 cols : List Col
def Node.d (x : Node) : D := .st [.int x.op, .sl (x.inp.map D.int), .str x.source, .int x.schema, .sl (x.exprs.map Ex.d), .int x.kind, .int x.size, .int x.step, .sl (x.key.map D.int), .sl (x.key2.map D.int), .int x.before, .int x.after, .int x.keep, .sl (x.aggs.map Agg.d), .sl (x.seq.map Pat.d), .sl (x.cols.map Col.d)]
theorem Node.width (x : Node) : x.d.width = 16 := by
 simp [Node.d, D.width, D.widths]
theorem Node.widths (l : List Node) : ∀ d ∈ l.map Node.d, d.width = 16 := by
 intro d hd; obtain ⟨x, -, rfl⟩ := List.mem_map.1 hd; exact Node.width x
theorem Node.open {w : World} {S : Nat -> Prop} {x : Node} {cs : List Value} (h : Rd w S x.d cs) : ∃ (A1 : Option Addr) (cap1 b1 off1 : Nat) (A2 : Option Addr) (cap2 b2 off2 : Nat) (A3 : Option Addr) (cap3 b3 off3 : Nat) (A4 : Option Addr) (cap4 b4 off4 : Nat) (A5 : Option Addr) (cap5 b5 off5 : Nat) (A6 : Option Addr) (cap6 b6 off6 : Nat) (A7 : Option Addr) (cap7 b7 off7 : Nat), cs = [.int .i64 x.op, .slice A1 x.inp.length cap1, .string x.source, .int .i64 x.schema, .slice A2 x.exprs.length cap2, .int .i64 x.kind, .int .i64 x.size, .int .i64 x.step, .slice A3 x.key.length cap3, .slice A4 x.key2.length cap4, .int .i64 x.before, .int .i64 x.after, .int .i64 x.keep, .slice A5 x.aggs.length cap5, .slice A6 x.seq.length cap6, .slice A7 x.cols.length cap7] /\ x.inp.length <= cap1 /\ cap1 <= 9223372036854775807 /\ (0 < x.inp.length -> A1 = some ⟨b1, off1, none⟩ /\ S b1) /\ RdM w S (x.inp.map D.int) b1 off1 /\ x.exprs.length <= cap2 /\ cap2 <= 9223372036854775807 /\ (0 < x.exprs.length -> A2 = some ⟨b2, off2, none⟩ /\ S b2) /\ RdM w S (x.exprs.map Ex.d) b2 off2 /\ x.key.length <= cap3 /\ cap3 <= 9223372036854775807 /\ (0 < x.key.length -> A3 = some ⟨b3, off3, none⟩ /\ S b3) /\ RdM w S (x.key.map D.int) b3 off3 /\ x.key2.length <= cap4 /\ cap4 <= 9223372036854775807 /\ (0 < x.key2.length -> A4 = some ⟨b4, off4, none⟩ /\ S b4) /\ RdM w S (x.key2.map D.int) b4 off4 /\ x.aggs.length <= cap5 /\ cap5 <= 9223372036854775807 /\ (0 < x.aggs.length -> A5 = some ⟨b5, off5, none⟩ /\ S b5) /\ RdM w S (x.aggs.map Agg.d) b5 off5 /\ x.seq.length <= cap6 /\ cap6 <= 9223372036854775807 /\ (0 < x.seq.length -> A6 = some ⟨b6, off6, none⟩ /\ S b6) /\ RdM w S (x.seq.map Pat.d) b6 off6 /\ x.cols.length <= cap7 /\ cap7 <= 9223372036854775807 /\ (0 < x.cols.length -> A7 = some ⟨b7, off7, none⟩ /\ S b7) /\ RdM w S (x.cols.map Col.d) b7 off7 := by
 simp only [Node.d, Node.d, Rd, RdS, List.length_map] at h
 obtain ⟨_, _, rfl, rfl, ⟨_, _, rfl, ⟨A1, cap1, b1, off1, rfl, p1, q1, r1, s1⟩, ⟨_, _, rfl, rfl, ⟨_, _, rfl, rfl, ⟨_, _, rfl, ⟨A2, cap2, b2, off2, rfl, p2, q2, r2, s2⟩, ⟨_, _, rfl, rfl, ⟨_, _, rfl, rfl, ⟨_, _, rfl, rfl, ⟨_, _, rfl, ⟨A3, cap3, b3, off3, rfl, p3, q3, r3, s3⟩, ⟨_, _, rfl, ⟨A4, cap4, b4, off4, rfl, p4, q4, r4, s4⟩, ⟨_, _, rfl, rfl, ⟨_, _, rfl, rfl, ⟨_, _, rfl, rfl, ⟨_, _, rfl, ⟨A5, cap5, b5, off5, rfl, p5, q5, r5, s5⟩, ⟨_, _, rfl, ⟨A6, cap6, b6, off6, rfl, p6, q6, r6, s6⟩, ⟨_, _, rfl, ⟨A7, cap7, b7, off7, rfl, p7, q7, r7, s7⟩, rfl⟩⟩⟩⟩⟩⟩⟩⟩⟩⟩⟩⟩⟩⟩⟩⟩ := h
 exact ⟨A1, cap1, b1, off1, A2, cap2, b2, off2, A3, cap3, b3, off3, A4, cap4, b4, off4, A5, cap5, b5, off5, A6, cap6, b6, off6, A7, cap7, b7, off7, by simp, p1, q1, r1, s1, p2, q2, r2, s2, p3, q3, r3, s3, p4, q4, r4, s4, p5, q5, r5, s5, p6, q6, r6, s6, p7, q7, r7, s7⟩
theorem Node.at {w : World} {S : Nat -> Prop} {l : List Node} {b off : Nat} (hm : RdM w S (l.map Node.d) b off) {k : Nat} (hk : k < l.length) : ∃ (A1 : Option Addr) (cap1 b1 off1 : Nat) (A2 : Option Addr) (cap2 b2 off2 : Nat) (A3 : Option Addr) (cap3 b3 off3 : Nat) (A4 : Option Addr) (cap4 b4 off4 : Nat) (A5 : Option Addr) (cap5 b5 off5 : Nat) (A6 : Option Addr) (cap6 b6 off6 : Nat) (A7 : Option Addr) (cap7 b7 off7 : Nat), w.cell? ⟨b, off + k * 16, none⟩ = some (.int .i64 l[k].op) /\ w.cell? ⟨b, off + k * 16 + 1, none⟩ = some (.slice A1 l[k].inp.length cap1) /\ w.cell? ⟨b, off + k * 16 + 1 + 1, none⟩ = some (.string l[k].source) /\ w.cell? ⟨b, off + k * 16 + 1 + 1 + 1, none⟩ = some (.int .i64 l[k].schema) /\ w.cell? ⟨b, off + k * 16 + 1 + 1 + 1 + 1, none⟩ = some (.slice A2 l[k].exprs.length cap2) /\ w.cell? ⟨b, off + k * 16 + 1 + 1 + 1 + 1 + 1, none⟩ = some (.int .i64 l[k].kind) /\ w.cell? ⟨b, off + k * 16 + 1 + 1 + 1 + 1 + 1 + 1, none⟩ = some (.int .i64 l[k].size) /\ w.cell? ⟨b, off + k * 16 + 1 + 1 + 1 + 1 + 1 + 1 + 1, none⟩ = some (.int .i64 l[k].step) /\ w.cell? ⟨b, off + k * 16 + 1 + 1 + 1 + 1 + 1 + 1 + 1 + 1, none⟩ = some (.slice A3 l[k].key.length cap3) /\ w.cell? ⟨b, off + k * 16 + 1 + 1 + 1 + 1 + 1 + 1 + 1 + 1 + 1, none⟩ = some (.slice A4 l[k].key2.length cap4) /\ w.cell? ⟨b, off + k * 16 + 1 + 1 + 1 + 1 + 1 + 1 + 1 + 1 + 1 + 1, none⟩ = some (.int .i64 l[k].before) /\ w.cell? ⟨b, off + k * 16 + 1 + 1 + 1 + 1 + 1 + 1 + 1 + 1 + 1 + 1 + 1, none⟩ = some (.int .i64 l[k].after) /\ w.cell? ⟨b, off + k * 16 + 1 + 1 + 1 + 1 + 1 + 1 + 1 + 1 + 1 + 1 + 1 + 1, none⟩ = some (.int .i64 l[k].keep) /\ w.cell? ⟨b, off + k * 16 + 1 + 1 + 1 + 1 + 1 + 1 + 1 + 1 + 1 + 1 + 1 + 1 + 1, none⟩ = some (.slice A5 l[k].aggs.length cap5) /\ w.cell? ⟨b, off + k * 16 + 1 + 1 + 1 + 1 + 1 + 1 + 1 + 1 + 1 + 1 + 1 + 1 + 1 + 1, none⟩ = some (.slice A6 l[k].seq.length cap6) /\ w.cell? ⟨b, off + k * 16 + 1 + 1 + 1 + 1 + 1 + 1 + 1 + 1 + 1 + 1 + 1 + 1 + 1 + 1 + 1, none⟩ = some (.slice A7 l[k].cols.length cap7) /\ Rd w S l[k].d [.int .i64 l[k].op, .slice A1 l[k].inp.length cap1, .string l[k].source, .int .i64 l[k].schema, .slice A2 l[k].exprs.length cap2, .int .i64 l[k].kind, .int .i64 l[k].size, .int .i64 l[k].step, .slice A3 l[k].key.length cap3, .slice A4 l[k].key2.length cap4, .int .i64 l[k].before, .int .i64 l[k].after, .int .i64 l[k].keep, .slice A5 l[k].aggs.length cap5, .slice A6 l[k].seq.length cap6, .slice A7 l[k].cols.length cap7] /\ l[k].inp.length <= cap1 /\ cap1 <= 9223372036854775807 /\ (0 < l[k].inp.length -> A1 = some ⟨b1, off1, none⟩ /\ S b1) /\ RdM w S (l[k].inp.map D.int) b1 off1 /\ l[k].exprs.length <= cap2 /\ cap2 <= 9223372036854775807 /\ (0 < l[k].exprs.length -> A2 = some ⟨b2, off2, none⟩ /\ S b2) /\ RdM w S (l[k].exprs.map Ex.d) b2 off2 /\ l[k].key.length <= cap3 /\ cap3 <= 9223372036854775807 /\ (0 < l[k].key.length -> A3 = some ⟨b3, off3, none⟩ /\ S b3) /\ RdM w S (l[k].key.map D.int) b3 off3 /\ l[k].key2.length <= cap4 /\ cap4 <= 9223372036854775807 /\ (0 < l[k].key2.length -> A4 = some ⟨b4, off4, none⟩ /\ S b4) /\ RdM w S (l[k].key2.map D.int) b4 off4 /\ l[k].aggs.length <= cap5 /\ cap5 <= 9223372036854775807 /\ (0 < l[k].aggs.length -> A5 = some ⟨b5, off5, none⟩ /\ S b5) /\ RdM w S (l[k].aggs.map Agg.d) b5 off5 /\ l[k].seq.length <= cap6 /\ cap6 <= 9223372036854775807 /\ (0 < l[k].seq.length -> A6 = some ⟨b6, off6, none⟩ /\ S b6) /\ RdM w S (l[k].seq.map Pat.d) b6 off6 /\ l[k].cols.length <= cap7 /\ cap7 <= 9223372036854775807 /\ (0 < l[k].cols.length -> A7 = some ⟨b7, off7, none⟩ /\ S b7) /\ RdM w S (l[k].cols.map Col.d) b7 off7 := by
 obtain ⟨cs, hc, hr⟩ := RdM.get _ b off hm (Node.widths l) k (by simpa using hk)
 rw [List.getElem_map] at hr
 obtain ⟨A1, cap1, b1, off1, A2, cap2, b2, off2, A3, cap3, b3, off3, A4, cap4, b4, off4, A5, cap5, b5, off5, A6, cap6, b6, off6, A7, cap7, b7, off7, rfl, hf⟩ := Node.open hr
 simp only [qw, and_true] at hc
 obtain ⟨c0, c1, c2, c3, c4, c5, c6, c7, c8, c9, c10, c11, c12, c13, c14, c15⟩ := hc
 exact ⟨A1, cap1, b1, off1, A2, cap2, b2, off2, A3, cap3, b3, off3, A4, cap4, b4, off4, A5, cap5, b5, off5, A6, cap6, b6, off6, A7, cap7, b7, off7, c0, c1, c2, c3, c4, c5, c6, c7, c8, c9, c10, c11, c12, c13, c14, c15, hr, hf⟩
end Go.Proofs.YtkedbjjfmejbhaaGreatDoor
namespace Go.Proofs.YtkedbjjfmejbhaaGreatDoor
open Go.Sort
instance : Inhabited Delta := ⟨⟨0, [], 0⟩⟩
section
variable {α : Type} [Inhabited α]
def swapR : Nat -> Nat -> Nat -> Array α -> Array α
 | _, _, 0, d => d
 | a, b, n + 1, d => swapR (a + 1) (b + 1) n (swp d a b)
theorem qby : ∀ (n a b : Nat) (d : Array α), (swapR a b n d).size = d.size
 | 0, _, _, _ => rfl
 | n + 1, a, b, d => by rw [swapR, qby, swp_size]
theorem qiu : ∀ (n a b : Nat) (d : Array α), a + n <= b -> b + n <= d.size -> ∀ k, (swapR a b n d)[k]! = if a <= k /\ k < a + n then d[k - a + b]! else if b <= k /\ k < b + n then d[k - b + a]! else d[k]!
 | 0, a, b, d, _, _, k => by
  rw [swapR, if_neg (by omega), if_neg (by omega)]
 | n + 1, a, b, d, h1, h2, k => by
  rw [swapR, qiu n (a + 1) (b + 1) (swp d a b) (by omega) (by rw [swp_size]; omega)]
  simp only [swp_get d (show a < d.size by omega) (show b < d.size by omega)]
  by_cases c1 : a + 1 <= k /\ k < a + 1 + n
  .rw [if_pos c1, if_neg (by omega), if_neg (by omega), if_pos (by omega), show k - (a + 1) + (b + 1) = k - a + b by omega]
  .rw [if_neg c1]
   by_cases c2 : b + 1 <= k /\ k < b + 1 + n
   .rw [if_pos c2, if_neg (by omega), if_neg (by omega), if_neg (by omega), if_pos (by omega), show k - (b + 1) + (a + 1) = k - b + a by omega]
   .rw [if_neg c2]
    by_cases c3 : k = b
    .subst c3
     rw [if_pos rfl, if_neg (by omega), if_pos (by omega), Nat.sub_self, Nat.zero_add]
    .rw [if_neg c3]
     by_cases c4 : k = a
     .subst c4
      rw [if_pos rfl, if_pos (by omega), Nat.sub_self, Nat.zero_add]
     .rw [if_neg c4, if_neg (by omega), if_neg (by omega)]
theorem qfc : ∀ (n a b lo hi : Nat) (d : Array α), lo <= a -> a + n <= b -> b + n <= hi -> hi <= d.size -> PermIn lo hi d (swapR a b n d)
 | 0, _, _, _, _, _, _, _, _, _ => permIn_refl _ _ _
 | n + 1, a, b, lo, hi, d, h1, h2, h3, h4 => by
  rw [swapR]
  exact permIn_trans _ _ _ _ _ (swp_permIn d lo hi a b h1 (by omega) (by omega) (by omega) h4) (qfc n (a + 1) (b + 1) lo hi _ (by omega) (by omega) (by omega) (by rw [swp_size]; exact h4))
def rot (m i j : Nat) (d : Array α) : Array α :=
 if i = j then swapR (m - i) m i d
 else if i = 0 \/ j = 0 then d
 else if j < i then rot m (i - j) j (swapR (m - i) m j d)
 else rot m i (j - i) (swapR (m - i) (m + j - i) i d)
termination_by i + j
theorem qqv (m : Nat) : ∀ (N i j lo hi : Nat) (d : Array α), i + j <= N -> i <= m -> lo <= m - i -> m + j <= hi -> hi <= d.size -> PermIn lo hi d (rot m i j d)
 | 0, i, j, lo, hi, d, hN, h1, h2, h3, h4 => by
  rw [rot, if_pos (by omega)]
  exact qfc _ _ _ _ _ _ h2 (by omega) (by omega) h4
 | N + 1, i, j, lo, hi, d, hN, h1, h2, h3, h4 => by
  rw [rot]
  split
  .exact qfc _ _ _ _ _ _ h2 (by omega) (by omega) h4
  .split
   .exact permIn_refl _ _ _
   .split
    .exact permIn_trans _ _ _ _ _ (qfc _ _ _ lo hi _ h2 (by omega) (by omega) h4) (qqv m N _ _ lo hi _ (by omega) (by omega) (by omega) (by omega) (by rw [qby]; exact h4))
    .exact permIn_trans _ _ _ _ _ (qfc _ _ _ lo hi _ h2 (by omega) (by omega) h4) (qqv m N _ _ lo hi _ (by omega) (by omega) (by omega) (by omega) (by rw [qby]; exact h4))
theorem qwk (m : Nat) : ∀ (N i j : Nat) (d : Array α), i + j <= N -> 0 < i -> 0 < j -> i <= m -> m + j <= d.size -> ∀ k, (rot m i j d)[k]! = if m - i <= k /\ k < m - i + j then d[k + i]! else if m - i + j <= k /\ k < m + j then d[k - j]! else d[k]!
 | 0, i, j, d, hN, hi, hj, h1, h2, k => by omega
 | N + 1, i, j, d, hN, hi, hj, h1, h2, k => by
  rw [rot]
  by_cases e : i = j
  .subst e
   rw [if_pos rfl, qiu _ _ _ _ (by omega) (by omega)]
   by_cases c1 : m - i <= k /\ k < m - i + i
   .rw [if_pos c1, if_pos c1, show k - (m - i) + m = k + i by omega]
   .rw [if_neg c1, if_neg c1]
    by_cases c2 : m <= k /\ k < m + i
    .rw [if_pos c2, if_pos (by omega), show k - m + (m - i) = k - i by omega]
    .rw [if_neg c2, if_neg (by omega)]
  .rw [if_neg e, if_neg (by omega)]
   by_cases hlt : j < i
   .rw [if_pos hlt, qwk m N (i - j) j _ (by omega) (by omega) hj (by omega) (by rw [qby]; omega)]
    simp only [qiu _ _ _ d (show m - i + j <= m by omega) h2]
    by_cases c1 : m - (i - j) <= k /\ k < m - (i - j) + j
    .rw [if_pos c1]
     by_cases c2 : m <= k + (i - j) /\ k + (i - j) < m + j
     .rw [if_neg (by omega), if_pos c2]
      by_cases c3 : m - i <= k /\ k < m - i + j
      .omega
      .rw [if_neg c3, if_pos (by omega), show k + (i - j) - m + (m - i) = k - j by omega]
     .omega
    .rw [if_neg c1]
     by_cases c2 : m - (i - j) + j <= k /\ k < m + j
     .rw [if_pos c2, if_neg (by omega), if_neg (by omega), if_neg (by omega), if_pos (by omega)]
     .rw [if_neg c2]
      by_cases c3 : m - i <= k /\ k < m - i + j
      .rw [if_pos c3, if_pos c3, show k - (m - i) + m = k + i by omega]
      .rw [if_neg c3, if_neg (by omega), if_neg c3, if_neg (by omega)]
   .rw [if_neg hlt, qwk m N i (j - i) _ (by omega) hi (by omega) h1 (by rw [qby]; omega)]
    simp only [qiu _ _ _ d (show m - i + i <= m + j - i by omega) (show m + j - i + i <= d.size by omega)]
    by_cases c1 : m - i <= k /\ k < m - i + (j - i)
    .rw [if_pos c1, if_pos (show m - i <= k /\ k < m - i + j by omega)]
     by_cases c2 : m - i <= k + i /\ k + i < m - i + i
     .omega
     .rw [if_neg c2, if_neg (by omega)]
    .rw [if_neg c1]
     by_cases c2 : m - i + (j - i) <= k /\ k < m + (j - i)
     .rw [if_pos c2]
      rw [if_pos (show m - i <= k - (j - i) /\ k - (j - i) < m - i + i by omega), if_pos (show m - i <= k /\ k < m - i + j by omega), show k - (j - i) - (m - i) + (m + j - i) = k + i by omega]
     .rw [if_neg c2]
      by_cases c3 : m + j - i <= k /\ k < m + j - i + i
      .rw [if_neg (by omega), if_pos c3, if_neg (by omega), if_pos (by omega), show k - (m + j - i) + (m - i) = k - j by omega]
      .rw [if_neg (by omega), if_neg c3, if_neg (by omega), if_neg (by omega)]
def qbo (P : Nat -> Bool) (i j : Nat) : Nat :=
 if i < j then (if P ((i + j) / 2) = true then qbo P ((i + j) / 2 + 1) j else qbo P i ((i + j) / 2)) else i
termination_by j - i
theorem qdo (P : Nat -> Bool) : ∀ (N i j : Nat), j - i <= N -> i <= j -> (∀ h k, i <= h -> h <= k -> k < j -> P k = true -> P h = true) -> i <= qbo P i j /\ qbo P i j <= j /\ (∀ h, i <= h -> h < qbo P i j -> P h = true) /\ (∀ h, qbo P i j <= h -> h < j -> P h = false)
 | 0, i, j, hN, hij, _ => by
  rw [qbo, if_neg (by omega)]
  exact ⟨Nat.le_refl _, hij, fun h h1 h2 => by omega, fun h h1 h2 => by omega⟩
 | N + 1, i, j, hN, hij, hm => by
  rw [qbo]
  split
  .split
   .rename_i hl hp
    obtain ⟨g1, g2, g3, g4⟩ := qdo P N ((i + j) / 2 + 1) j (by omega) (by omega) fun h k h1 h2 h3 h4 => hm h k (by omega) h2 h3 h4
    refine ⟨by omega, g2, fun h h1 h2 => ?_, g4⟩
    by_cases c : (i + j) / 2 + 1 <= h
    .exact g3 h c h2
    .exact hm h _ h1 (show h <= (i + j) / 2 by omega) (by omega) hp
   .rename_i hl hp
    obtain ⟨g1, g2, g3, g4⟩ := qdo P N i ((i + j) / 2) (by omega) (by omega) fun h k h1 h2 h3 h4 => hm h k h1 h2 (by omega) h4
    refine ⟨g1, by omega, g3, fun h h1 h2 => ?_⟩
    by_cases c : h < (i + j) / 2
    .exact g4 h h1 c
    .cases hh : P h with
     | false => rfl
     | true => exact absurd (hm ((i + j) / 2) h (by omega) (by omega) h2 hh) hp
  .exact ⟨Nat.le_refl _, hij, fun h h1 h2 => by omega, fun h h1 h2 => by omega⟩
def mvU : Nat -> Nat -> Array α -> Array α
 | _, 0, d => d
 | k, n + 1, d => mvU (k + 1) n (swp d k (k + 1))
theorem qel1 : ∀ (n k : Nat) (d : Array α), k + n < d.size -> ∀ q, (mvU k n d)[q]! = if k <= q /\ q < k + n then d[q + 1]! else if q = k + n then d[k]! else d[q]!
 | 0, k, d, _, q => by
  rw [mvU, if_neg (by omega)]
  split
  .rename_i h; rw [h]; rfl
  .rfl
 | n + 1, k, d, h1, q => by
  rw [mvU, qel1 n (k + 1) _ (by rw [swp_size]; omega)]
  simp only [swp_get d (show k < d.size by omega) (show k + 1 < d.size by omega)]
  by_cases c1 : k + 1 <= q /\ q < k + 1 + n
  .rw [if_pos c1, if_neg (by omega), if_neg (by omega), if_pos (by omega)]
  .rw [if_neg c1]
   by_cases c2 : q = k + 1 + n
   .rw [if_pos c2, if_pos trivial, if_neg (show ¬ (k <= q /\ q < k + (n + 1)) by omega), if_pos (show q = k + (n + 1) by omega)]
   .rw [if_neg c2, if_neg (show ¬ q = k + (n + 1) by omega)]
    by_cases c3 : q = k
    .subst c3
     rw [if_neg (by omega), if_pos rfl, if_pos (by omega)]
    .rw [if_neg (show ¬ (k <= q /\ q < k + (n + 1)) by omega)]
     rw [if_neg (by omega), if_neg c3]
theorem qyb : ∀ (n k lo hi : Nat) (d : Array α), lo <= k -> k + n < hi -> hi <= d.size -> PermIn lo hi d (mvU k n d)
 | 0, _, _, _, _, _, _, _ => permIn_refl _ _ _
 | n + 1, k, lo, hi, d, h1, h2, h3 => by
  rw [mvU]
  exact permIn_trans _ _ _ _ _ (swp_permIn d lo hi k (k + 1) h1 (by omega) (by omega) (by omega) h3) (qyb n (k + 1) lo hi _ (by omega) (by omega) (by rw [swp_size]; exact h3))
def mvD (i : Nat) : Nat -> Array α -> Array α
 | 0, d => d
 | n + 1, d => mvD i n (swp d (i + n + 1) (i + n))
theorem qek1 (i : Nat) : ∀ (n : Nat) (d : Array α), i + n < d.size -> ∀ q, (mvD i n d)[q]! = if q = i then d[i + n]! else if i < q /\ q <= i + n then d[q - 1]! else d[q]!
 | 0, d, _, q => by
  rw [mvD]
  split
  .rename_i h; rw [h]; rfl
  .rw [if_neg (by omega)]
 | n + 1, d, h1, q => by
  rw [mvD, qek1 i n _ (by rw [swp_size]; omega)]
  simp only [swp_get d (show i + n + 1 < d.size by omega) (show i + n < d.size by omega)]
  by_cases c1 : q = i
  .rw [if_pos c1, if_pos c1, if_pos trivial]; rfl
  .rw [if_neg c1, if_neg c1]
   by_cases c2 : i < q /\ q <= i + n
   .rw [if_pos c2, if_neg (show ¬ q - 1 = i + n by omega), if_neg (show ¬ q - 1 = i + n + 1 by omega), if_pos (show i < q /\ q <= i + (n + 1) by omega)]
   .rw [if_neg c2]
    by_cases c3 : q = i + n + 1
    .rw [if_neg (by omega), if_pos c3, if_pos (by omega), show q - 1 = i + n by omega]
    .rw [if_neg (by omega), if_neg c3, if_neg (by omega)]
theorem qxz (i : Nat) : ∀ (n lo hi : Nat) (d : Array α), lo <= i -> i + n < hi -> hi <= d.size -> PermIn lo hi d (mvD i n d)
 | 0, _, _, _, _, _, _ => permIn_refl _ _ _
 | n + 1, lo, hi, d, h1, h2, h3 => by
  rw [mvD]
  exact permIn_trans _ _ _ _ _ (swp_permIn d lo hi _ _ (by omega) (by omega) (by omega) (by omega) h3) (qxz i n lo hi _ h1 (by omega) (by rw [swp_size]; exact h3))
section
variable (lt : α -> α -> Bool)
def cutAt (a m b : Nat) (d : Array α) : Nat :=
 qbo (fun c => !lt d[(a + b) / 2 + m - 1 - c]! d[c]!) (if (a + b) / 2 < m then (a + b) / 2 + m - b else a) (if (a + b) / 2 < m then (a + b) / 2 else m)
def qfu (s m e : Nat) (d : Array α) : Array α := if s < m /\ m < e then rot m (m - s) (e - m) d else d
def symM : Nat -> Nat -> Nat -> Nat -> Array α -> Array α
 | 0, _, _, _, d => d
 | F + 1, a, m, b, d =>
  if m - a = 1 then mvU a (qbo (fun h => lt d[h]! d[a]!) m b - 1 - a) d
  else if b - m = 1 then mvD (qbo (fun h => !lt d[m]! d[h]!) a m) (m - qbo (fun h => !lt d[m]! d[h]!) a m) d
  else
   let s := cutAt lt a m b d
   let e := (a + b) / 2 + m - s
   let d1 := qfu s m e d
   let d2 := if a < s /\ s < (a + b) / 2 then symM F a s ((a + b) / 2) d1 else d1
   if (a + b) / 2 < e /\ e < b then symM F ((a + b) / 2) e b d2 else d2
variable {lt}
theorem qcm {a b : Nat} {d d' : Array α} (h : SortedIn lt a b d) (he : ∀ i, a <= i -> i < b -> d'[i]! = d[i]!) : SortedIn lt a b d' := fun i j h1 h2 h3 => by
 rw [he i h1 (by omega), he j (by omega) h3]; exact h i j h1 h2 h3
theorem qws {s m e lo hi : Nat} {d : Array α} (h1 : lo <= s) (h4 : e <= hi) (h5 : hi <= d.size) : PermIn lo hi d (qfu s m e d) := by
 unfold qfu
 split
 .exact qqv m _ _ _ lo hi d (Nat.le_refl _) (by omega) (by omega) (by omega) h5
 .exact permIn_refl _ _ _
theorem qbl1 {s m e : Nat} {d : Array α} (h2 : s <= m) (h3 : m <= e) (h4 : e <= d.size) (k : Nat) : (qfu s m e d)[k]! = if s <= k /\ k < s + (e - m) then d[k + (m - s)]! else if s + (e - m) <= k /\ k < e then d[k - (e - m)]! else d[k]! := by
 unfold qfu
 split
 .rw [qwk m _ (m - s) (e - m) d (Nat.le_refl _) (by omega) (by omega) (by omega) (by omega), show m - (m - s) = s by omega, show m + (e - m) = e by omega]
 .by_cases c1 : s <= k /\ k < s + (e - m)
  .rw [if_pos c1, show k + (m - s) = k by omega]
  .rw [if_neg c1]
   by_cases c2 : s + (e - m) <= k /\ k < e
   .rw [if_pos c2, show k - (e - m) = k by omega]
   .rw [if_neg c2]
theorem qaa1 (hS : SWO lt) {a m b : Nat} {d : Array α} (h1 : a < m) (h2 : m < b) (hA : SortedIn lt a m d) (hB : SortedIn lt m b d) :
  a <= cutAt lt a m b d /\ cutAt lt a m b d <= m /\ cutAt lt a m b d <= (a + b) / 2 /\ (a + b) / 2 + m - b <= cutAt lt a m b d /\
  (a < cutAt lt a m b d -> (a + b) / 2 + m - cutAt lt a m b d < b -> lt d[(a + b) / 2 + m - cutAt lt a m b d]! d[cutAt lt a m b d - 1]! = false) /\
  (cutAt lt a m b d < m -> cutAt lt a m b d < (a + b) / 2 -> lt d[cutAt lt a m b d]! d[(a + b) / 2 + m - 1 - cutAt lt a m b d]! = false) := by
 obtain ⟨lo, hlo⟩ : ∃ lo, lo = if (a + b) / 2 < m then (a + b) / 2 + m - b else a := ⟨_, rfl⟩
 obtain ⟨hi, hhi⟩ : ∃ hi, hi = if (a + b) / 2 < m then (a + b) / 2 else m := ⟨_, rfl⟩
 have e : cutAt lt a m b d = qbo (fun c => !lt d[(a + b) / 2 + m - 1 - c]! d[c]!) lo hi := by rw [hlo, hhi]; rfl
 have g : a <= lo /\ lo <= hi /\ hi <= m /\ hi <= (a + b) / 2 /\ (a + b) / 2 + m - b <= lo /\ (lo = a \/ lo = (a + b) / 2 + m - b) /\ (hi = m \/ hi = (a + b) / 2) := by
  by_cases h : (a + b) / 2 < m
  .rw [if_pos h] at hlo hhi
   refine ⟨?_, ?_, ?_, ?_, ?_, ?_, ?_⟩ <;> omega
  .rw [if_neg h] at hlo hhi
   refine ⟨?_, ?_, ?_, ?_, ?_, ?_, ?_⟩ <;> omega
 obtain ⟨g1, g2, g3, g4, g5, g6, g7⟩ := g
 obtain ⟨b1, b2, b3, b4⟩ := qdo (fun c => !lt d[(a + b) / 2 + m - 1 - c]! d[c]!) _ lo hi (Nat.le_refl _) g2 fun h k k1 k2 k3 k4 => by
  by_cases hk : h = k
  .rw [hk]; exact k4
  .have c1 : lt d[(a + b) / 2 + m - 1 - k]! d[k]! = false := by simpa using k4
   have c2 := hA h k (by omega) (by omega) (by omega)
   have c3 := hB ((a + b) / 2 + m - 1 - k) ((a + b) / 2 + m - 1 - h) (by omega) (by omega) (by omega)
   have := hS.ntrans _ _ _ (hS.ntrans _ _ _ c3 c1) c2
   simp [this]
 rw [<- e] at b1 b2 b3 b4
 refine ⟨by omega, by omega, by omega, by omega, fun c1 c2 => ?_, fun c1 c2 => ?_⟩
 .have := b3 (cutAt lt a m b d - 1) (by omega) (by omega)
  rw [show (a + b) / 2 + m - 1 - (cutAt lt a m b d - 1) = (a + b) / 2 + m - cutAt lt a m b d by omega] at this
  simpa using this
 .have := b4 (cutAt lt a m b d) (Nat.le_refl _) (by omega)
  exact hS.asymmA (by simpa using this)
theorem qiv (hS : SWO lt) : ∀ (F a m b : Nat) (d : Array α), b - a <= F -> a < m -> m < b -> b <= d.size -> SortedIn lt a m d -> SortedIn lt m b d -> PermIn a b d (symM lt F a m b d) /\ SortedIn lt a b (symM lt F a m b d)
 | 0, a, m, b, d, hF, h1, h2, _, _, _ => by omega
 | F + 1, a, m, b, d, hF, h1, h2, h3, hA, hB => by
  rw [symM]
  split
  .rename_i hm
   obtain ⟨b1, b2, b3, b4⟩ := qdo (fun h => lt d[h]! d[a]!) _ m b (Nat.le_refl _) (by omega) fun h k k1 k2 k3 k4 => by
    by_cases hk : h = k
    .rw [hk]; exact k4
    .cases hh : lt d[h]! d[a]! with
     | true => rfl
     | false => exact absurd (hS.ntrans _ _ _ (hB h k k1 (by omega) k3) hh) (by simpa using k4)
   generalize qbo (fun h => lt d[h]! d[a]!) m b = r at *
   refine ⟨qyb _ _ _ _ _ (Nat.le_refl _) (by omega) h3, fun i j g1 g2 g3 => ?_⟩
   simp only [qel1 (r - 1 - a) a d (by omega), show a + (r - 1 - a) = r - 1 by omega]
   by_cases j1 : j < r - 1
   .rw [if_pos ⟨by omega, j1⟩, if_pos ⟨g1, by omega⟩]
    exact hB (i + 1) (j + 1) (by omega) (by omega) (by omega)
   .rw [if_neg (by omega)]
    by_cases j2 : j = r - 1
    .rw [if_pos j2, if_pos ⟨g1, by omega⟩]
     exact hS.asymmA (b3 (i + 1) (by omega) (by omega))
    .rw [if_neg j2]
     by_cases i1 : i < r - 1
     .rw [if_pos ⟨g1, i1⟩]
      exact hB (i + 1) j (by omega) (by omega) g3
     .rw [if_neg (by omega)]
      by_cases i2 : i = r - 1
      .rw [if_pos i2]; exact b4 j (by omega) g3
      .rw [if_neg i2]; exact hB i j (by omega) g2 g3
  .split
   .rename_i hm0 hm
    obtain ⟨b1, b2, b3, b4⟩ := qdo (fun h => !lt d[m]! d[h]!) _ a m (Nat.le_refl _) (by omega) fun h k k1 k2 k3 k4 => by
     by_cases hk : h = k
     .rw [hk]; exact k4
     .have c1 : lt d[m]! d[k]! = false := by simpa using k4
      have := hS.ntrans _ _ _ c1 (hA h k k1 (by omega) k3)
      simp [this]
    generalize qbo (fun h => !lt d[m]! d[h]!) a m = r at *
    refine ⟨qxz _ _ _ _ _ b1 (by omega) h3, fun i j g1 g2 g3 => ?_⟩
    simp only [qek1 r (m - r) d (by omega), show r + (m - r) = m by omega]
    by_cases i1 : i < r
    .rw [if_neg (show ¬ i = r by omega), if_neg (show ¬ (r < i /\ i <= m) by omega)]
     by_cases j1 : j < r
     .rw [if_neg (show ¬ j = r by omega), if_neg (show ¬ (r < j /\ j <= m) by omega)]
      exact hA i j g1 g2 (by omega)
     .by_cases j2 : j = r
      .rw [if_pos j2]
       simpa using b3 i g1 i1
      .rw [if_neg j2, if_pos (by omega)]
       exact hA i (j - 1) g1 (by omega) (by omega)
    .by_cases i2 : i = r
     .rw [if_neg (show ¬ j = r by omega), if_pos (show r < j /\ j <= m by omega), if_pos i2]
      exact hS.asymmA (by simpa using b4 (j - 1) (by omega) (by omega))
     .rw [if_neg (show ¬ j = r by omega), if_pos (show r < j /\ j <= m by omega), if_neg i2, if_pos (by omega)]
      exact hA (i - 1) (j - 1) (by omega) (by omega) (by omega)
   .rename_i hm0 hm1
    obtain ⟨c1, c2, c3, c4, c5, c6⟩ := qaa1 hS h1 h2 hA hB
    generalize cutAt lt a m b d = s at *
    obtain ⟨mid, hmid⟩ : ∃ mid, mid = (a + b) / 2 := ⟨_, rfl⟩
    rw [<- hmid] at c3 c4 c5 c6 ⊢
    have hmd : mid + mid <= a + b /\ a + b <= mid + mid + 1 := by omega
    clear hmid
    obtain ⟨e, he⟩ : ∃ e, e = mid + m - s := ⟨_, rfl⟩
    simp only [<- he]
    rw [<- he] at c5
    rw [show mid + m - 1 - s = e - 1 by omega] at c6
    have hp1 : PermIn a b d (qfu s m e d) := qws c1 (by omega) h3
    have hg := qbl1 (d := d) c2 (show m <= e by omega) (show e <= d.size by omega)
    rw [show s + (e - m) = mid by omega] at hg
    generalize qfu s m e d = d1 at *
    have s1 : d1.size = d.size := hp1.1
    have o1 : SortedIn lt a s d1 := qcm (fun i j k1 k2 k3 => hA i j k1 k2 (by omega)) fun i k1 k2 => by rw [hg, if_neg (by omega), if_neg (by omega)]
    have o2 : SortedIn lt s mid d1 := fun i j k1 k2 k3 => by
     rw [hg, hg, if_pos (by omega), if_pos (by omega)]; exact hB _ _ (by omega) (by omega) (by omega)
    have o3 : SortedIn lt mid e d1 := fun i j k1 k2 k3 => by
     rw [hg, hg, if_neg (show ¬ (s <= j /\ j < mid) by omega), if_neg (show ¬ (s <= i /\ i < mid) by omega), if_pos (show mid <= j /\ j < e by omega), if_pos (show mid <= i /\ i < e by omega)]; exact hA _ _ (by omega) (by omega) (by omega)
    have o4 : SortedIn lt e b d1 := qcm (fun i j k1 k2 k3 => hB i j (by omega) k2 (by omega)) fun i k1 k2 => by rw [hg, if_neg (by omega), if_neg (by omega)]
    have sle : ∀ {i j : Nat}, a <= i -> i <= j -> j < m -> lt d[j]! d[i]! = false := fun {i j} k1 k2 k3 => by
     by_cases hk : i = j
     .rw [hk]; exact hS.irrefl _
     .exact hA i j k1 (by omega) k3
    have sle2 : ∀ {i j : Nat}, m <= i -> i <= j -> j < b -> lt d[j]! d[i]! = false := fun {i j} k1 k2 k3 => by
     by_cases hk : i = j
     .rw [hk]; exact hS.irrefl _
     .exact hB i j k1 (by omega) k3
    have cross : ∀ i, a <= i -> i < mid -> ∀ j, mid <= j -> j < b -> lt d1[j]! d1[i]! = false := fun i i1 i2 j j1 j2 => by
     rw [hg, hg, if_neg (show ¬ (s <= j /\ j < mid) by omega)]
     by_cases i3 : s <= i
     .rw [if_pos (show s <= i /\ i < mid from ⟨i3, i2⟩)]
      by_cases j3 : j < e
      .rw [if_pos ⟨j1, j3⟩]
       have k1 := c6 (by omega) (by omega)
       exact hS.ntrans _ _ _ (sle (i := s) (by omega) (by omega) (by omega)) (hS.ntrans _ _ _ k1 (sle2 (by omega) (by omega) (by omega)))
      .rw [if_neg (by omega)]
       exact sle2 (by omega) (by omega) j2
     .rw [if_neg (show ¬ (s <= i /\ i < mid) by omega), if_neg (show ¬ (mid <= i /\ i < e) by omega)]
      by_cases j3 : j < e
      .rw [if_pos ⟨j1, j3⟩]
       exact sle i1 (by omega) (by omega)
      .rw [if_neg (by omega)]
       have k1 := c5 (by omega) (by omega)
       exact hS.ntrans _ _ _ (sle2 (i := e) (by omega) (by omega) j2) (hS.ntrans _ _ _ k1 (sle i1 (by omega) (by omega)))
    have L : ∀ d2, d2 = (if a < s /\ s < mid then symM lt F a s mid d1 else d1) -> PermIn a mid d1 d2 /\ SortedIn lt a mid d2 := fun d2 h => by
     subst h
     split
     .exact qiv hS F a s mid d1 (by omega) (by omega) (by omega) (by omega) o1 o2
     .refine ⟨permIn_refl _ _ _, ?_⟩
      by_cases hs : s = a
      .rw [<- hs]; exact o2
      .rw [show mid = s by omega]; exact o1
    generalize hd2 : (if a < s /\ s < mid then symM lt F a s mid d1 else d1) = d2
    obtain ⟨p2, q2⟩ := L d2 hd2.symm
    have t3 : SortedIn lt mid e d2 := qcm o3 fun i k1 k2 => p2.2.1 i (by omega)
    have t4 : SortedIn lt e b d2 := qcm o4 fun i k1 k2 => p2.2.1 i (by omega)
    have R : ∀ d3, d3 = (if mid < e /\ e < b then symM lt F mid e b d2 else d2) -> PermIn mid b d2 d3 /\ SortedIn lt mid b d3 := fun d3 h => by
     subst h
     split
     .exact qiv hS F mid e b d2 (by omega) (by omega) (by omega) (by rw [p2.1]; omega) t3 t4
     .refine ⟨permIn_refl _ _ _, ?_⟩
      by_cases hs : e = mid
      .rw [<- hs]; exact t4
      .rw [show b = e by omega]; exact t3
    generalize hd3 : (if mid < e /\ e < b then symM lt F mid e b d2 else d2) = d3
    obtain ⟨p3, q3⟩ := R d3 hd3.symm
    have z2 : d2.size = d1.size := p2.1
    refine ⟨permIn_trans _ _ _ _ _ hp1 (permIn_trans _ _ _ _ _ (permIn_mono _ _ _ _ _ _ (Nat.le_refl _) (by omega) (by omega) p2) (permIn_mono _ _ _ _ _ _ (by omega) (Nat.le_refl _) (by omega) p3)), fun i j k1 k2 k3 => ?_⟩
    by_cases i1 : i < mid
    .by_cases j1 : j < mid
     .rw [p3.2.1 i (by omega), p3.2.1 j (by omega)]; exact q2 i j k1 k2 j1
     .rw [p3.2.1 i (by omega)]
      have a1 : ∀ k, a <= k -> k < mid -> ∀ j, mid <= j -> j < b -> lt d2[j]! d2[k]! = false := fun k k1 k2 j j1 j2 => by
       rw [p2.2.1 j (by omega)]
       exact permIn_all d1 d2 a mid (fun x => ∀ j, mid <= j -> j < b -> lt d1[j]! x = false) (by omega) p2 (fun i i1 i2 j j1 j2 => cross i i1 i2 j j1 j2) k k1 k2 j j1 j2
      exact permIn_all d2 d3 mid b (fun x => lt x d2[i]! = false) (by omega) p3 (fun j j1 j2 => a1 i k1 i1 j j1 j2) j (by omega) k3
    .exact q3 i j (by omega) k2 k3
variable (lt)
def qdv (n a : Nat) (d : Array α) : Array α := if a + 20 <= n then qdv n (a + 20) (insertionSort lt d a (a + 20)) else insertionSort lt d a n
termination_by n - a
def qft (s n a : Nat) (d : Array α) : Array α :=
 if _h : 0 < s /\ a + 2 * s <= n then qft s n (a + 2 * s) (symM lt (2 * s) a (a + s) (a + 2 * s) d)
 else if a + s < n then symM lt (n - a) a (a + s) n d else d
termination_by n - a
def qmj (n s : Nat) (d : Array α) : Array α := if _h : 0 < s /\ s < n then qmj n (2 * s) (qft lt s n 0 d) else d
termination_by n - s
def qem (n : Nat) (d : Array α) : Array α := qmj lt n 20 (qdv lt n 0 d)
variable {lt}
inductive qfv (lt : α -> α -> Bool) (s n : Nat) : Nat -> Array α -> Prop
 | last {a : Nat} {d : Array α} : n <= a + s -> SortedIn lt a n d -> qfv lt s n a d
 | more {a : Nat} {d : Array α} : a + s <= n -> SortedIn lt a (a + s) d -> qfv lt s n (a + s) d -> qfv lt s n a d
theorem qfv.cong {s n a : Nat} {d d' : Array α} (h : qfv lt s n a d) : (∀ i, a <= i -> i < n -> d'[i]! = d[i]!) -> qfv lt s n a d' := by
 induction h with
 | last h1 h2 => exact fun he => .last h1 (qcm h2 he)
 | more h1 h2 _ ih => exact fun he => .more h1 (qcm h2 fun i k1 k2 => he i k1 (by omega)) (ih fun i k1 k2 => he i (by omega) k2)
theorem qho (hS : SWO lt) (n : Nat) : ∀ (N a : Nat) (d : Array α), n - a <= N -> a <= n -> n <= d.size -> PermIn a n d (qdv lt n a d) /\ qfv lt 20 n a (qdv lt n a d)
 | 0, a, d, hN, h1, h2 => by
  rw [qdv, if_neg (by omega)]
  obtain ⟨p, q⟩ := insertionSort_holds (lt := lt) hS d a n h1 h2
  exact ⟨p, .last (by omega) q⟩
 | N + 1, a, d, hN, h1, h2 => by
  rw [qdv]
  split
  .rename_i h
   obtain ⟨p, q⟩ := insertionSort_holds (lt := lt) hS d a (a + 20) (by omega) (by omega)
   obtain ⟨p2, q2⟩ := qho hS n N (a + 20) (insertionSort lt d a (a + 20)) (by omega) h (by rw [p.1]; exact h2)
   exact ⟨permIn_trans _ _ _ _ _ (permIn_mono _ _ _ _ _ _ (Nat.le_refl _) h h2 p) (permIn_mono _ _ _ _ _ _ (by omega) (Nat.le_refl _) (by rw [p.1]; exact h2) p2), .more h (qcm q fun i k1 k2 => p2.2.1 i (by omega)) q2⟩
  .obtain ⟨p, q⟩ := insertionSort_holds (lt := lt) hS d a n h1 h2
   exact ⟨p, .last (by omega) q⟩
theorem qmc (hS : SWO lt) (s n : Nat) (hs : 0 < s) : ∀ (N a : Nat) (d : Array α), n - a <= N -> a <= n -> n <= d.size -> qfv lt s n a d -> PermIn a n d (qft lt s n a d) /\ qfv lt (2 * s) n a (qft lt s n a d)
 | N, a, d, hN, h1, h2, hc => by
  rw [qft]
  split
  .rename_i h
   have hh : SortedIn lt a (a + s) d /\ SortedIn lt (a + s) (a + 2 * s) d /\ qfv lt s n (a + 2 * s) d := by
    cases hc with
    | last c1 c2 => omega
    | more c1 c2 c3 =>
     cases c3 with
     | last c4 c5 =>
      have : n = a + 2 * s := by omega
      subst this
      exact ⟨c2, c5, .last (by omega) fun i j k1 k2 k3 => by omega⟩
     | more c4 c5 c6 =>
      rw [show a + s + s = a + 2 * s by omega] at c5 c6
      exact ⟨c2, c5, c6⟩
   obtain ⟨p, q⟩ := qiv hS (2 * s) a (a + s) (a + 2 * s) d (by omega) (by omega) (by omega) (by omega) hh.1 hh.2.1
   cases N with
   | zero => omega
   | succ N =>
    obtain ⟨p2, q2⟩ := qmc hS s n hs N (a + 2 * s) (symM lt (2 * s) a (a + s) (a + 2 * s) d) (by omega) h.2 (by rw [p.1]; exact h2) (hh.2.2.cong fun i k1 k2 => p.2.1 i (by omega))
    exact ⟨permIn_trans _ _ _ _ _ (permIn_mono _ _ _ _ _ _ (Nat.le_refl _) h.2 h2 p) (permIn_mono _ _ _ _ _ _ (by omega) (Nat.le_refl _) (by rw [p.1]; exact h2) p2), .more h.2 (qcm q fun i k1 k2 => p2.2.1 i (by omega)) q2⟩
  .rename_i h
   split
   .have hh : SortedIn lt a (a + s) d /\ SortedIn lt (a + s) n d := by
     cases hc with
     | last c1 c2 => omega
     | more c1 c2 c3 =>
      cases c3 with
      | last c4 c5 => exact ⟨c2, c5⟩
      | more c4 c5 c6 => omega
    obtain ⟨p, q⟩ := qiv hS (n - a) a (a + s) n d (by omega) (by omega) (by omega) h2 hh.1 hh.2
    exact ⟨p, .last (by omega) q⟩
   .refine ⟨permIn_refl _ _ _, .last (by omega) ?_⟩
    cases hc with
    | last c1 c2 => exact c2
    | more c1 c2 c3 => rw [show n = a + s by omega]; exact c2
theorem qmk (hS : SWO lt) (n : Nat) : ∀ (N s : Nat) (d : Array α), n - s <= N -> 0 < s -> n <= d.size -> qfv lt s n 0 d -> PermIn 0 n d (qmj lt n s d) /\ SortedIn lt 0 n (qmj lt n s d)
 | N, s, d, hN, h1, h2, hc => by
  rw [qmj]
  split
  .rename_i h
   obtain ⟨p, q⟩ := qmc hS s n h1 n 0 d (by omega) (by omega) h2 hc
   cases N with
   | zero => omega
   | succ N =>
    obtain ⟨p2, q2⟩ := qmk hS n N (2 * s) (qft lt s n 0 d) (by omega) (by omega) (by rw [p.1]; exact h2) q
    exact ⟨permIn_trans _ _ _ _ _ p p2, q2⟩
  .refine ⟨permIn_refl _ _ _, ?_⟩
   cases hc with
   | last c1 c2 => exact c2
   | more c1 c2 c3 => rw [show n = 0 + s by omega]; exact c2
theorem qud (hS : SWO lt) (d : Array α) : (qem lt d.size d).toList.Perm d.toList /\ (qem lt d.size d).toList.Pairwise fun x y => lt y x = false := by
 obtain ⟨p, q⟩ := qho hS d.size d.size 0 d (by omega) (by omega) (Nat.le_refl _)
 obtain ⟨p2, q2⟩ := qmk hS d.size d.size 20 _ (by omega) (by omega) (by rw [p.1]; exact Nat.le_refl _) q
 have p3 := permIn_trans _ _ _ _ _ p p2
 obtain ⟨R, hR⟩ : ∃ R, R = qem lt d.size d := ⟨_, rfl⟩
 change PermIn 0 d.size d (qem lt d.size d) at p3
 change SortedIn lt 0 d.size (qem lt d.size d) at q2
 rw [<- hR] at p3 q2 ⊢
 have hz : R.size = d.size := p3.1
 refine ⟨?_, ?_⟩
 .have := p3.2.2
  rw [show R.extract 0 d.size = R by rw [<- hz, Array.extract_size], Array.extract_size] at this
  exact this
 .rw [List.pairwise_iff_getElem]
  intro i j hi hj hij
  have e : ∀ (k : Nat) (h : k < R.size), R[k]! = R[k] := fun k h => getElem!_pos R k h
  have := q2 i j (by omega) hij (by rw [<- hz]; simpa using hj)
  rw [e i (by simpa using hi), e j (by simpa using hj)] at this
  exact this
end
end
end Go.Proofs.YtkedbjjfmejbhaaGreatDoor
namespace Go.Proofs.YtkedbjjfmejbhaaGreatDoor
open Go.RowKit Go.Lib
def opOk (o : Int) : Bool := decide (0 <= o) && decide (o <= 21) && decide (o ≠ 4)
def arO (o : Int) : Nat := if o = 0 \/ o = 1 \/ o = 2 \/ o = 3 \/ o = 5 then 0 else if o = 6 \/ o = 7 \/ o = 20 then 1 else if o = 21 then 3 else 2
theorem qfx (o : Int) : arO o <= 3 := by unfold arO; (repeat' split) <;> omega
def opsP (x : Ins) : List Int := if opOk x.op then [x.a, x.b, x.c].take (arO x.op) else []
def qbp (x : Ins) : Bool :=
  opOk x.op && (decide (arO x.op < 3 -> x.c = 0) && decide (arO x.op < 2 -> x.b = 0) && decide (arO x.op < 1 -> x.a = 0)) &&
  (if x.op = 0 \/ x.op = 3 then decide (x.s.size = 0) else if x.op = 2 then decide (x.s.size = 0) && decide (x.n = 0 \/ x.n = 1)
   else if x.op = 1 then decide (x.n = 0) && decide (x.s.size <= 200) else decide (x.n = 0) && decide (x.s.size = 0))
def qcv (r : Int) : Ex := .mk 4 r ByteArray.empty []
def exI (x : Ins) : Ex := .mk x.op x.n x.s ((opsP x).map qcv)
def tyI (cols types : List Int) (x : Ins) : Option Int := typeP [] cols types (exI x)
def verI (cols types : List Int) (done : List Bool) (x : Ins) : Int :=
  if qbp x = false then 2
  else if (x.tgt :: opsP x).any (fun r => decide (r < 0) || decide ((types.length : Int) <= r)) then 3
  else if x.op = 3 /\ (x.n < 0 \/ (cols.length : Int) <= x.n) then 3
  else if (opsP x).any (fun r => !done.getD r.toNat false) then 25
  else if tyI cols types x = some (types.getD x.tgt.toNat 0) then 0 else 13
def verL (cols types : List Int) : List Ins -> Nat -> List Bool -> (Int × Int) × List Bool
  | [], _, done => ((-1, 0), done)
  | x :: l, i, done => if verI cols types done x = 0 then verL cols types l (i + 1) (done.set x.tgt.toNat true) else (((i : Int), verI cols types done x), done)
def verP (c : Cod) (cols : List Int) : Int × Int :=
  if 1000 < c.ins.length \/ 1000 < c.types.length then (-1, 6)
  else if c.types.any (fun t => decide (t < 0) || decide (3 <= t)) then (-1, 13)
  else
    let r := verL cols c.types c.ins 0 (List.replicate c.types.length false)
    if r.1.2 ≠ 0 then r.1
    else if c.out < 0 \/ (c.types.length : Int) <= c.out then (-1, 3)
    else if r.2.getD c.out.toNat false = false then (-1, 25) else (-1, 0)
def opI (time : Int) (row : List Val) (x : Ins) (vs : List Val) : Val := if x.op = 21 then ifV vs else opV (fun _ _ => zeroV) time row [] x.op x.n x.s vs
def argsI (regs : List Val) (x : Ins) : List Val := (opsP x).map fun r => regs.getD r.toNat zeroV
def stepI (time : Int) (row : List Val) (regs : List Val) (x : Ins) : List Val := regs.set x.tgt.toNat (opI time row x (argsI regs x))
def regsI (time : Int) (row : List Val) (l : List Ins) (regs : List Val) : List Val := l.foldl (stepI time row) regs
def valC (c : Cod) (time : Int) (row : List Val) : Val := (regsI time row c.ins (List.replicate c.types.length zeroV)).getD c.out.toNat zeroV
def qfr (types : List Int) (done : List Bool) (regs : List Val) : Prop :=
  regs.length = types.length /\ done.length = types.length /\ ∀ r : Nat, done.getD r false = true -> (regs.getD r zeroV).k = types.getD r 0 /\ qr (regs.getD r zeroV)
structure InsOk (cols types : List Int) (done : List Bool) (x : Ins) : Prop where
  form : qbp x = true
  to0 : 0 <= x.tgt
  to1 : x.tgt < types.length
  args : ∀ r ∈ opsP x, 0 <= r /\ r < types.length /\ done.getD r.toNat false = true
  col : x.op = 3 -> 0 <= x.n /\ x.n < cols.length
  typ : tyI cols types x = some (types.getD x.tgt.toNat 0)
theorem qhi1 {cols types : List Int} {done : List Bool} {x : Ins} (h : verI cols types done x = 0) : InsOk cols types done x := by
  unfold verI at h
  split at h
  · cases h
  rename_i h1
  split at h
  · cases h
  rename_i h2
  split at h
  · cases h
  rename_i h3
  split at h
  · cases h
  rename_i h4
  split at h
  · rename_i h5
    rw [Bool.not_eq_true, List.any_eq_false] at h2 h4
    have h6 := h2 x.tgt (by simp)
    simp only [Bool.or_eq_true, decide_eq_true_eq, not_or] at h6
    refine ⟨by simpa using h1, by omega, by omega, fun r hr => ?_, fun h0 => by omega, h5⟩
    have h7 := h2 r (by simp [hr])
    have h8 := h4 r hr
    simp only [Bool.or_eq_true, decide_eq_true_eq, not_or] at h7
    refine ⟨by omega, by omega, by simpa using h8⟩
  · cases h
theorem InsOk.ver {cols types : List Int} {done : List Bool} {x : Ins} (h : InsOk cols types done x) : verI cols types done x = 0 := by
  unfold verI
  rw [if_neg (by rw [h.form]; simp), if_neg, if_neg, if_neg, if_pos h.typ]
  · rw [Bool.not_eq_true, List.any_eq_false]
    intro r hr
    rw [(h.args r hr).2.2]; simp
  · rintro ⟨h3, h4⟩
    have := h.col h3; omega
  · rw [Bool.not_eq_true, List.any_eq_false]
    intro r hr
    simp only [Bool.or_eq_true, decide_eq_true_eq, not_or]
    rcases List.mem_cons.1 hr with rfl | hr
    · have := h.to0; have := h.to1; omega
    · have := h.args r hr; omega
theorem InsOk.op {cols types : List Int} {done : List Bool} {x : Ins} (h : InsOk cols types done x) : 0 <= x.op /\ x.op <= 21 /\ x.op ≠ 4 := by
  have := h.form
  unfold qbp at this
  simp only [Bool.and_eq_true] at this
  have h2 := this.1.1
  unfold opOk at h2
  simp only [Bool.and_eq_true, decide_eq_true_eq] at h2
  exact ⟨h2.1.1, h2.1.2, h2.2⟩
theorem qjo : qde [] = true := by unfold qde; simp
theorem qpg {cols types : List Int} : ∀ (l : List Int) {ts : List Int}, tys [] cols types (l.map qcv) = some ts -> ts = l.map fun r => types.getD r.toNat 0
  | [], ts, h => by rw [List.map_nil, tys] at h; cases h; rfl
  | r :: l, ts, h => by
    rw [List.map_cons, tys] at h
    cases hr : ty [] cols types (qcv r) with
    | none => rw [hr] at h; cases h
    | some t =>
      rw [hr] at h
      cases hl : tys [] cols types (l.map qcv) with
      | none => rw [hl] at h; cases h
      | some us =>
        rw [hl] at h
        cases h
        rw [List.map_cons, <- qpg l hl]
        congr 1
        unfold qcv at hr
        rw [ty] at hr
        simp only [tys] at hr
        have h2 := qfd (.inr rfl) hr
        rw [if_neg (by decide)] at h2
        obtain ⟨h3, h4⟩ : 0 <= r /\ types[r.toNat]? = some t := by
          unfold pickT at h2
          split at h2
          · cases h2
          · cases hv : types[r.toNat]? with
            | none => rw [hv] at h2; cases h2
            | some v =>
              rw [hv] at h2; dsimp only at h2
              split at h2
              · cases h2; exact ⟨by omega, rfl⟩
              · cases h2
        rw [List.getD_eq_getElem?_getD, h4]; rfl
theorem InsOk.tail {cols types : List Int} {done : List Bool} {x : Ins} (h : InsOk cols types done x) : tailT [] cols types x.op x.n x.s ((opsP x).map fun r => types.getD r.toNat 0) = some (types.getD x.tgt.toNat 0) := by
  have := h.typ
  unfold tyI typeP at this
  rw [if_pos qjo] at this
  unfold tyD at this
  split at this
  · cases this
  unfold exI at this
  rw [ty] at this
  cases hl : tys [] cols types ((opsP x).map qcv) with
  | none => rw [hl] at this; cases this
  | some ts =>
    rw [hl] at this
    dsimp only at this
    rw [qpg _ hl] at this
    exact this
theorem qbh1 {cols types : List Int} {row : List Val} (hrow : qbu cols row) {x : Ins} {t : Int} {time : Int} {vs : List Val} (hop : x.op ≠ 4) (hs : ∀ v ∈ vs, qr v) (h : tailT [] cols types x.op x.n x.s (vs.map Val.k) = some t) :
    (opI time row x vs).k = t /\ qr (opI time row x vs) := by
  have h22 : x.op ≠ 22 := by
    intro e
    unfold tailT at h
    split at h
    · cases h
    · unfold callT at h
      split at h
      · cases h
      · simp at h
  have h2 : tailT [] cols [] x.op x.n x.s (vs.map Val.k) = some t := qfp (fun _ h => h) (fun e => absurd e hop) h
  unfold tailT at h2
  split at h2
  · cases h2
  unfold opI
  split at h2
  · rename_i hnil
    obtain rfl : vs = [] := by simpa using hnil
    obtain ⟨h21, -, h3⟩ := qqm (call := fun _ _ => zeroV) (time := time) (params := []) hrow rfl (by simp) h2
    rw [if_neg h21]; exact h3
  · exact (qjl (call := fun _ _ => zeroV) (time := time) (row := row) (params := []) hs h2).2
theorem qfr.args {types : List Int} {done : List Bool} {regs : List Val} (h : qfr types done regs) {cols : List Int} {x : Ins} (hx : InsOk cols types done x) :
    (argsI regs x).map Val.k = (opsP x).map (fun r => types.getD r.toNat 0) /\ ∀ v ∈ argsI regs x, qr v := by
  unfold argsI
  constructor
  · rw [List.map_map]
    exact List.map_congr_left fun r hr => (h.2.2 r.toNat (hx.args r hr).2.2).1
  · intro v hv
    obtain ⟨r, hr, rfl⟩ := List.mem_map.1 hv
    exact (h.2.2 r.toNat (hx.args r hr).2.2).2
theorem qfr.res {cols types : List Int} {row : List Val} (hrow : qbu cols row) {done : List Bool} {regs : List Val} (h : qfr types done regs) {x : Ins} (hx : InsOk cols types done x) (time : Int) :
    (opI time row x (argsI regs x)).k = types.getD x.tgt.toNat 0 /\ qr (opI time row x (argsI regs x)) := by
  obtain ⟨h1, h2⟩ := h.args hx
  exact qbh1 hrow hx.op.2.2 h2 (by rw [h1]; exact hx.tail)
theorem qq {α : Type} (l : List α) (i j : Nat) (a d : α) : (l.set i a).getD j d = if i = j /\ i < l.length then a else l.getD j d := by
  rw [List.getD_eq_getElem?_getD, List.getElem?_set]
  split
  · rename_i h; subst h
    split
    · rename_i h2; rw [if_pos ⟨rfl, h2⟩]; rfl
    · rename_i h2; rw [if_neg (by rintro ⟨-, h3⟩; exact h2 h3), List.getD_eq_getElem?_getD, List.getElem?_eq_none (by omega)]
  · rename_i h; rw [if_neg (by rintro ⟨h2, -⟩; exact h h2), List.getD_eq_getElem?_getD]
theorem qfr.step {cols types : List Int} {row : List Val} (hrow : qbu cols row) {done : List Bool} {regs : List Val} (h : qfr types done regs) {x : Ins} (hx : InsOk cols types done x) (time : Int) : qfr types (done.set x.tgt.toNat true) (stepI time row regs x) := by
  obtain ⟨h1, h2, h3⟩ := h
  refine ⟨by rw [stepI, List.length_set]; exact h1, by rw [List.length_set]; exact h2, fun r hr => ?_⟩
  have hto := hx.to1
  have hto0 := hx.to0
  rw [qq] at hr
  rw [stepI, qq]
  by_cases he : x.tgt.toNat = r
  · rw [if_pos ⟨he, by omega⟩, <- he]
    exact qfr.res hrow ⟨h1, h2, h3⟩ hx time
  · rw [if_neg (fun h => he h.1)] at hr ⊢
    exact h3 r hr
theorem qkg (types : List Int) : qfr types (List.replicate types.length false) (List.replicate types.length zeroV) := by
  refine ⟨by simp, by simp, fun r hr => ?_⟩
  rw [List.getD_eq_getElem?_getD, List.getElem?_replicate] at hr
  split at hr <;> cases hr
def AllOk (cols types : List Int) : List Ins -> List Bool -> Prop
  | [], _ => True
  | x :: l, done => InsOk cols types done x /\ AllOk cols types l (done.set x.tgt.toNat true)
def doneL : List Ins -> List Bool -> List Bool
  | [], done => done
  | x :: l, done => doneL l (done.set x.tgt.toNat true)
theorem qhj1 {cols types : List Int} : ∀ (l : List Ins) (i : Nat) (done : List Bool), (verL cols types l i done).1.2 = 0 -> AllOk cols types l done /\ verL cols types l i done = ((-1, 0), doneL l done)
  | [], i, done, _ => ⟨trivial, rfl⟩
  | x :: l, i, done, h => by
    rw [verL] at h ⊢
    split at h
    · rename_i h0
      rw [if_pos h0]
      obtain ⟨h1, h2⟩ := qhj1 l (i + 1) _ h
      exact ⟨⟨qhi1 h0, h1⟩, h2⟩
    · rename_i h0
      exact absurd h h0
theorem AllOk.verL {cols types : List Int} : ∀ (l : List Ins) (i : Nat) (done : List Bool), AllOk cols types l done -> verL cols types l i done = ((-1, 0), doneL l done)
  | [], i, done, _ => rfl
  | x :: l, i, done, h => by
    rw [Proofs.YtkedbjjfmejbhaaGreatDoor.verL, if_pos h.1.ver]
    exact AllOk.verL l (i + 1) _ h.2
structure CodOk (c : Cod) (cols : List Int) : Prop where
  ni : c.ins.length <= 1000
  nt : c.types.length <= 1000
  kinds : ∀ t ∈ c.types, 0 <= t /\ t < 3
  all : AllOk cols c.types c.ins (List.replicate c.types.length false)
  out0 : 0 <= c.out
  out1 : c.out < c.types.length
  out2 : (doneL c.ins (List.replicate c.types.length false)).getD c.out.toNat false = true
theorem qrf {c : Cod} {cols : List Int} : (verP c cols).2 = 0 ↔ CodOk c cols := by
  unfold verP
  constructor
  · intro h
    split at h
    · cases h
    rename_i h1
    split at h
    · cases h
    rename_i h2
    dsimp only at h
    split at h
    · rename_i h3; exact absurd h h3
    rename_i h3
    split at h
    · cases h
    rename_i h4
    split at h
    · cases h
    rename_i h5
    obtain ⟨h6, h7⟩ := qhj1 _ _ _ (Decidable.not_not.1 h3)
    rw [h7] at h5
    refine ⟨by omega, by omega, fun t ht => ?_, h6, by omega, by omega, by simpa using h5⟩
    rw [Bool.not_eq_true, List.any_eq_false] at h2
    have := h2 t ht
    simp only [Bool.or_eq_true, decide_eq_true_eq, not_or] at this
    omega
  · intro h
    have h7 := AllOk.verL c.ins 0 _ h.all
    rw [if_neg (by have := h.ni; have := h.nt; omega), if_neg, h7]
    · dsimp only
      rw [if_neg (by simp), if_neg (by have := h.out0; have := h.out1; omega), if_neg (by rw [h.out2]; simp)]
    · rw [Bool.not_eq_true, List.any_eq_false]
      intro t ht
      have := h.kinds t ht
      simp only [Bool.or_eq_true, decide_eq_true_eq, not_or]; omega
theorem AllOk.regs {cols types : List Int} {row : List Val} (hrow : qbu cols row) (time : Int) : ∀ (l : List Ins) {done : List Bool} {regs : List Val}, AllOk cols types l done -> qfr types done regs -> qfr types (doneL l done) (regsI time row l regs)
  | [], _, _, _, h => h
  | x :: l, done, regs, h, hr => AllOk.regs hrow time l h.2 (hr.step hrow h.1 time)
theorem CodOk.val {c : Cod} {cols : List Int} {row : List Val} (h : CodOk c cols) (hrow : qbu cols row) (time : Int) : (valC c time row).k = c.types.getD c.out.toNat 0 /\ qr (valC c time row) :=
  (AllOk.regs hrow time c.ins h.all (qkg c.types)).2.2 _ h.out2
structure Nd where
 x : Ins
 src : List Nat
def resN (time : Int) (row : List Val) : List Nd -> List Val -> List Val
 | [], acc => acc
 | d :: l, acc => resN time row l (acc ++ [opI time row d.x (d.src.map fun k => acc.getD k zeroV)])
def nodes : List Ins -> Nat -> List Nat -> List Nd
 | [], _, _ => []
 | x :: l, i, last => ⟨x, (opsP x).map fun r => last.getD r.toNat 0⟩ :: nodes l (i + 1) (last.set x.tgt.toNat i)
def lastL : List Ins -> Nat -> List Nat -> List Nat
 | [], _, last => last
 | x :: l, i, last => lastL l (i + 1) (last.set x.tgt.toNat i)
theorem qyt (time : Int) (row : List Val) : ∀ (l : List Nd) (acc : List Val), (resN time row l acc).length = acc.length + l.length
 | [], acc => rfl
 | d :: l, acc => by rw [resN, qyt time row l]; simp; omega
theorem qdd : ∀ (l : List Ins) (i : Nat) (last : List Nat), (nodes l i last).length = l.length
 | [], _, _ => rfl
 | x :: l, i, last => by rw [nodes, List.length_cons, qdd l, List.length_cons]
def Agree (done : List Bool) (regs : List Val) (last : List Nat) (acc : List Val) : Prop :=
 done.length = regs.length /\ last.length = regs.length /\ ∀ r : Nat, done.getD r false = true -> last.getD r 0 < acc.length /\ regs.getD r zeroV = acc.getD (last.getD r 0) zeroV
theorem Agree.args {cols types : List Int} {done : List Bool} {regs : List Val} {last : List Nat} {acc : List Val} (h : Agree done regs last acc) {x : Ins} (hx : InsOk cols types done x) :
  ((opsP x).map fun r => last.getD r.toNat 0).map (fun k => acc.getD k zeroV) = argsI regs x := by
 unfold argsI
 rw [List.map_map]
 exact List.map_congr_left fun r hr => (h.2.2 r.toNat (hx.args r hr).2.2).2.symm
theorem Agree.step {cols types : List Int} {done : List Bool} {regs : List Val} {last : List Nat} {acc : List Val} (h : Agree done regs last acc) {x : Ins} (hx : InsOk cols types done x) (hl : regs.length = types.length) (time : Int) (row : List Val) :
  Agree (done.set x.tgt.toNat true) (stepI time row regs x) (last.set x.tgt.toNat acc.length) (acc ++ [opI time row x (argsI regs x)]) := by
 obtain ⟨h1, h2, h3⟩ := h
 have h0 := hx.to0
 have h4 := hx.to1
 refine ⟨by simp [stepI, h1], by simp [stepI, h2], fun r hr => ?_⟩
 rw [qq] at hr
 rw [stepI, qq, qq]
 by_cases he : x.tgt.toNat = r
 .rw [if_pos ⟨he, by omega⟩, if_pos ⟨he, by omega⟩]
  refine ⟨by simp, ?_⟩
  rw [List.getD_eq_getElem?_getD, List.getElem?_append_right (Nat.le_refl _)]; simp
 .rw [if_neg (fun h => he h.1)] at hr
  rw [if_neg (fun h => he h.1), if_neg (fun h => he h.1)]
  obtain ⟨h5, h6⟩ := h3 r hr
  refine ⟨by rw [List.length_append]; exact Nat.lt_of_lt_of_le h5 (Nat.le_add_right _ _), ?_⟩
  rw [h6, List.getD_eq_getElem?_getD (l := acc ++ _), List.getElem?_append_left h5, List.getD_eq_getElem?_getD]
theorem qro {cols types : List Int} (time : Int) (row : List Val) : ∀ (l : List Ins) {done : List Bool} {regs : List Val} {last : List Nat} {acc : List Val}, AllOk cols types l done -> regs.length = types.length -> Agree done regs last acc ->
  Agree (doneL l done) (regsI time row l regs) (lastL l acc.length last) (resN time row (nodes l acc.length last) acc)
 | [], _, _, _, _, _, _, h => h
 | x :: l, done, regs, last, acc, ha, hl, h => by
  have h1 := h.step ha.1 hl time row
  have h2 := qro time row l ha.2 (by rw [stepI, List.length_set]; exact hl) h1
  rw [List.length_append, List.length_singleton] at h2
  rw [doneL, lastL, nodes, resN]
  rw [h.args ha.1]
  exact h2
theorem quu (n : Nat) : Agree (List.replicate n false) (List.replicate n zeroV) (List.replicate n 0) [] := by
 refine ⟨by simp, by simp, fun r hr => ?_⟩
 rw [List.getD_eq_getElem?_getD, List.getElem?_replicate] at hr
 split at hr <;> cases hr
def qx (c : Cod) : List Nd := nodes c.ins 0 (List.replicate c.types.length 0)
def rootC (c : Cod) : Nat := (lastL c.ins 0 (List.replicate c.types.length 0)).getD c.out.toNat 0
theorem CodOk.val_res {c : Cod} {cols : List Int} (h : CodOk c cols) (time : Int) (row : List Val) : rootC c < c.ins.length /\ valC c time row = (resN time row (qx c) []).getD (rootC c) zeroV := by
 have h1 := qro time row c.ins h.all (by simp) (quu c.types.length)
 obtain ⟨h2, h3⟩ := h1.2.2 _ h.out2
 rw [qyt, qdd] at h2
 simp only [List.length_nil, Nat.zero_add] at h2
 exact ⟨h2, h3⟩
end Go.Proofs.YtkedbjjfmejbhaaGreatDoor
