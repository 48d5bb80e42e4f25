/- The columns of a shape that are not right, one by one. -/
import Derived.RangeFuncNested
import Derived.RangeFuncBound
import Derived.RangeFuncCalls
import Derived.RangeFuncLeaves
import Derived.Shelf.Abstract
import Derived.Shelf.RegionOpen
import Derived.WalkKit
import Derived.OwnWalkIn
import Derived.TacticsInMore
import Derived.LoopNIn
import Derived.LoopIn
import Derived.Test.YtinmkhgadekabaaDoorShelf
import Derived.Lib.SplitLaws
import Derived.Lib.CountLaws
import Derived.Test.YtinmkhgadekabaaDoorGa13
namespace Go.Proofs.YtinmkhgadekabaaDoor
open Go.RowKit Go.Lib

def unitP (c : Col) : Bool := decide (c.unit.toList = []) || (decide (c.type = 0) && ownP c.unit.toList)
/-- column i of a shape is right -/
def okC (L : List Col) (i : Nat) (c : Col) : Bool := ownP c.name.toList && !decide (typeNameP c.type = []) && unitP c && decide (findP (L.take i) c.name.toList < 0)
/-- the wrong ones of the first k columns -/
def wrongs (L : List Col) : Nat → List Int
  | 0 => []
  | k + 1 => wrongs L k ++ (match L[k]? with | some c => if okC L k c then [] else [(k : Int)] | none => [])
theorem wrongs_len (L : List Col) : ∀ k, (wrongs L k).length ≤ k
  | 0 => Nat.le_refl _
  | k + 1 => by
    have := wrongs_len L k
    rw [wrongs, List.length_append]
    split
    · split <;> simp <;> omega
    · simp; omega
theorem wrongs_pre (L : List Col) {j : Nat} : ∀ {k}, j ≤ k → wrongs L j <+: wrongs L k
  | 0, h => by obtain rfl : j = 0 := by omega
               exact List.prefix_refl _
  | k + 1, h => by
    by_cases he : j = k + 1
    · subst he; exact List.prefix_refl _
    · exact (wrongs_pre L (k := k) (by omega)).trans (by rw [wrongs]; exact List.prefix_append _ _)
theorem wrongs_ok {L : List Col} {k : Nat} (h : k < L.length) (hok : okC L k L[k] = true) : wrongs L (k + 1) = wrongs L k := by
  rw [wrongs, List.getElem?_eq_getElem h]; simp [hok]
theorem wrongs_bad {L : List Col} {k : Nat} (h : k < L.length) (hok : okC L k L[k] = false) : wrongs L (k + 1) = wrongs L k ++ [(k : Int)] := by
  rw [wrongs, List.getElem?_eq_getElem h]; simp [hok]

theorem le_of {s : AS} {n : Nat} {R : List (Nat × AV)} (h : s.n = n ∧ s.n0 = 0 ∧ s.σ = (fun _ => .unborn) ∧ leC 0 s.t s.L R []) : s.le ⟨n, regs R, fun _ => .unborn, 0, []⟩ := by
  obtain ⟨n', t, σ, n0, L⟩ := s
  obtain ⟨h1, h2, h3, h4⟩ := h
  dsimp only at h1 h2 h3 h4
  subst h1; subst h2; subst h3
  exact leC_le (fun _ => trivial) h4

section
variable (L : List Col) (Y : Value)
def wrR (k : Nat) : List (Nat × AV) := [(0, .v Y), (1, .ep (.sl (L.map Col.av)) 0), (6, .sl (L.map Col.av)), (7, .int L.length), (8, .int k)]
def wrS (k : Nat) : AS := ⟨52, regs (wrR L Y k), fun _ => .unborn, 0, []⟩
end

set_option maxHeartbeats 2000000 in
theorem wrong1_in (n l z : Nat) (L : List Col) (hL : L.length ≤ 1000000) (hs : ∀ c ∈ L, c.name.size ≤ 1000000 ∧ c.unit.size ≤ 1000000) (J Jx : List Int → World → Prop) (hJ : ∀ pre A B, J pre A → Ext A B → J pre B)
    (hY : ∀ pre x W, J pre W → pre.length < L.length → YieldAt Fence.wide n Tryd.prog l #[.int .i64 x] W fun e W' => (e = .returned (.bool true) ∧ J (pre ++ [x]) W' ∧ KpZ z W W') ∨ (e = .returned (.bool false) ∧ Jx (pre ++ [x]) W'))
    (W : World) (p : Value) (X : St) (hSR : SR X) (hXw : X.w = W) (hXσ : X.σ = fun _ => .unborn) (hp : RC X (.ep (.sl (L.map Col.av)) 0) [p]) (hz : ∀ b o, X.S b o → b ≠ z) (hzl : z < W.heap.size) (h0 : J [] W) :
    Calls Tryd.prog 51 #[.func (.yield l) #[] #[], p] W fun e W' => (∃ v, e = .returned v) ∧ ((∃ xs, xs = wrongs L L.length ∧ J xs W') ∨ (∃ pre, pre ≠ [] ∧ pre <+: wrongs L L.length ∧ Jx pre W')) := by
  obtain ⟨Yv, hYv⟩ : ∃ Yv, Yv = Value.func (.yield l) #[] #[] := ⟨_, rfl⟩
  rw [← hYv]
  refine calls_of_wp Tryd.func51 rfl ?_
  rw [Tryd.ntmps51]
  have hB0 : Betw z ⟨52, atEntry [.v Yv, .ep (.sl (L.map Col.av)) 0] 0, fun _ => .unborn, 0, []⟩ { tmps := #[Yv, p] ++ Array.replicate (52 - (#[Yv, p] : Array Value).size) undef, defers := [] } W X := by
    refine ⟨⟨hXw, ?_, hSR, Fr.refl _, by simp, fun d => ?_, rfl, fun r _ => by rw [hXσ]⟩, hz, hzl, rfl, rfl, rfl⟩
    · rw [hXσ]; funext r; show _ = loc _ 0 [] r; unfold loc; simp
    · have := entry_regs (X := X) [.v Yv, .ep (.sl (L.map Col.av)) 0] [Yv, p] [] (52 - 2) ⟨_, _, rfl, by show RC X _ _; rw [RC], _, _, rfl, hp, rfl⟩ d (by simp)
      simpa using this
  refine wp_seq_awp ⟨X, hB0.con⟩ (K := fun s' => s'.n = 52 ∧ s'.n0 = 0 ∧ s'.σ = (fun _ => .unborn) ∧ leC 0 s'.t s'.L (wrR L Yv 0) []) ?_ fun s1 a1 w1 h1 ⟨X1, hc1⟩ => ?_
  · unfold wrR
    repeat' (first | ((with_reducible refine aguard (fun hg => ?_) (fun hg => ?_)) <;> (try simp only [hg]) <;> (try simp only [beq_iff_eq, beq_eq_false_iff_ne, ne_eq, decide_eq_true_eq, decide_eq_false_iff_not, bne_iff_ne, bne_eq_false_iff_eq] at hg) <;> (try (first | simp only [eq_false hg, if_true, if_false] | simp only [eq_true hg, if_true, if_false])) <;> (try simp (disch := first | omega | simp) [wrap_i64, -aseqC, -anyC])) | (with_reducible refine aseq_step ?_; try simp (disch := first | omega | simp) [wrap_i64, -aseqC, -anyC]) | (with_reducible refine any_step' ?_; try simp (disch := first | omega | simp) [wrap_i64, -aseqC, -anyC]) | (with_reducible refine aseq_end ?_; try simp (disch := first | omega | simp) [wrap_i64, -aseqC, -anyC]) | (with_reducible refine any_end' ?_; try simp (disch := first | omega | simp) [wrap_i64, -aseqC, -anyC]) | ((first | with_reducible refine sideG ?_ ?_ | with_reducible refine sideG2 ?_ ?_ | with_reducible refine sideS ?_ ?_ | with_reducible refine sideS2 ?_ ?_ | with_reducible refine sideS3 ?_ ?_ | with_reducible refine sideA ?_ ?_ | with_reducible refine sideA2 ?_ ?_ | with_reducible refine sideA3 ?_ ?_); (first | omega | assumption | (simp; done))) | (refine awp_seq_k fun K hK => ?_) | (refine awp_regionC ?_) | (refine awp_anyA true (by kernel_rfl) (by kernel_rfl) ?_) | (refine awp_anyA false (by kernel_rfl) (by kernel_rfl) ?_) | (refine hK _ ?_; clear hK; clear K) | (clear hK; clear K; refine hK _ ?_; clear hK; clear K) | (clear hK; clear K; clear hK; clear K; refine hK _ ?_; clear hK; clear K) | refine awp_block ?_ | (refine awp_condC ?_; simp (disch := first | omega | simp) [wrap_i64, -aseqC, -anyC]) | (refine awp_exit ?_; try simp (disch := first | omega | simp) [wrap_i64, -aseqC, -anyC]) | (refine awp_skip ?_; try simp (disch := first | omega | simp) [wrap_i64, -aseqC, -anyC]) | (refine awp_ret ?_; try simp (disch := first | omega | simp) [wrap_i64, -aseqC, -anyC]))
  obtain ⟨hE1, X1', hB1⟩ := hB0.next hc1 (le_of h1) rfl rfl rfl
  have hJ1 := hJ _ _ _ h0 hE1
  refine wp_block (wp_loop_ghost (fun m a w => ∃ k, m = L.length - k ∧ k ≤ L.length ∧ J (wrongs L k) w ∧ ∃ X, Betw z (wrS L Yv k) a w X) L.length ⟨0, by omega, by omega, hJ1, X1', hB1⟩ ?_)
  clear hJ1 hB1 hE1 h1 hc1 hB0 h0 hzl hz hp hXσ hXw hSR
  rintro m a w ⟨k, rfl, hk, hJk, X2, hB⟩
  refine wp_seq_awp ⟨X2, hB.con⟩ (K := fun s' => s'.n = 52 ∧ s'.n0 = 0 ∧ s'.σ = (fun _ => .unborn) ∧ leC 0 s'.t s'.L ((9, .bool (decide (k < L.length))) :: wrR L Yv k) []) ?_ fun s2 a2 w2 h2 ⟨X3, hc3⟩ => ?_
  · unfold wrS wrR
    repeat' (first | ((with_reducible refine aguard (fun hg => ?_) (fun hg => ?_)) <;> (try simp only [hg]) <;> (try simp only [beq_iff_eq, beq_eq_false_iff_ne, ne_eq, decide_eq_true_eq, decide_eq_false_iff_not, bne_iff_ne, bne_eq_false_iff_eq] at hg) <;> (try (first | simp only [eq_false hg, if_true, if_false] | simp only [eq_true hg, if_true, if_false])) <;> (try simp (disch := first | omega | simp) [wrap_i64, -aseqC, -anyC])) | (with_reducible refine aseq_step ?_; try simp (disch := first | omega | simp) [wrap_i64, -aseqC, -anyC]) | (with_reducible refine any_step' ?_; try simp (disch := first | omega | simp) [wrap_i64, -aseqC, -anyC]) | (with_reducible refine aseq_end ?_; try simp (disch := first | omega | simp) [wrap_i64, -aseqC, -anyC]) | (with_reducible refine any_end' ?_; try simp (disch := first | omega | simp) [wrap_i64, -aseqC, -anyC]) | ((first | with_reducible refine sideG ?_ ?_ | with_reducible refine sideG2 ?_ ?_ | with_reducible refine sideS ?_ ?_ | with_reducible refine sideS2 ?_ ?_ | with_reducible refine sideS3 ?_ ?_ | with_reducible refine sideA ?_ ?_ | with_reducible refine sideA2 ?_ ?_ | with_reducible refine sideA3 ?_ ?_); (first | omega | assumption | (simp; done))) | (refine awp_seq_k fun K hK => ?_) | (refine awp_regionC ?_) | (refine awp_anyA true (by kernel_rfl) (by kernel_rfl) ?_) | (refine awp_anyA false (by kernel_rfl) (by kernel_rfl) ?_) | (refine hK _ ?_; clear hK; clear K) | (clear hK; clear K; refine hK _ ?_; clear hK; clear K) | (clear hK; clear K; clear hK; clear K; refine hK _ ?_; clear hK; clear K) | refine awp_block ?_ | (refine awp_condC ?_; simp (disch := first | omega | simp) [wrap_i64, -aseqC, -anyC]) | (refine awp_exit ?_; try simp (disch := first | omega | simp) [wrap_i64, -aseqC, -anyC]) | (refine awp_skip ?_; try simp (disch := first | omega | simp) [wrap_i64, -aseqC, -anyC]) | (refine awp_ret ?_; try simp (disch := first | omega | simp) [wrap_i64, -aseqC, -anyC]))
  obtain ⟨hE3, X3', hB3⟩ := hB.next hc3 (le_of h2) rfl rfl rfl
  have hJ3 := hJ _ _ _ hJk hE3
  have h9 : a2.eval (.tmp 9) = .bool (decide (k < L.length)) := RR.v.1 (hB3.con.regs 9)
  refine wp_seq ?_
  by_cases hlt : k < L.length
  · rw [decide_eq_true hlt] at h9
    refine wp_cond h9 (wp_skip ?_)
    have hn := hs _ (List.getElem_mem hlt)
    have hf := find_g (L.take k) L[k].name (by rw [List.length_take]; omega)
    rw [List.map_take] at hf
    -- the end of a round, from whatever way it was reached
    have fin : ∀ a6 w6 X6 ok, Betw z ⟨52, regs (wrR L Yv k), fun _ => .unborn, 0, []⟩ a6 w6 X6 → ok = wrongs L (k + 1) → J ok w6 → ∀ (R6 : Code), awp Tryd.prog R6 (AThen (fun s' => s'.n = 52 ∧ s'.n0 = 0 ∧ s'.σ = (fun _ => .unborn) ∧ leC 0 s'.t s'.L (wrR L Yv (k + 1)) []) NoE) ⟨52, regs (wrR L Yv k), fun _ => .unborn, 0, []⟩ →
        ∀ Q, (∀ a' w', (∃ n', n' < L.length - k ∧ ∃ k', n' = L.length - k' ∧ k' ≤ L.length ∧ J (wrongs L k') w' ∧ ∃ X, Betw z (wrS L Yv k') a' w' X) → Q .normal a' w') → R6.wp Tryd.prog Q a6 w6 := fun a6 w6 X6 ok hB6 hok hJ6 R6 h6 Q hQ => by
      refine wp_awp ⟨X6, hB6.con⟩ h6 fun s7 a7 w7 h7 ⟨X7, hc7⟩ => hQ _ _ ?_
      obtain ⟨hE7, X7', hB7⟩ := hB6.next hc7 (le_of h7) rfl rfl rfl
      exact ⟨L.length - (k + 1), by omega, k + 1, rfl, by omega, by rw [← hok]; exact hJ _ _ _ hJ6 hE7, X7', hB7⟩
    refine wp_seq (wp_block ?_)
    refine wp_seq_awp3 ⟨X3', hB3.con⟩ (K := fun s4 => s4.n = 52 ∧ s4.n0 = 0 ∧ s4.σ = (fun _ => .unborn) ∧ leC 0 s4.t s4.L ((46, .bool (okC L k L[k])) :: (3, .int k) :: wrR L Yv k) []) ?_ fun s6 a6 w6 h6 ⟨X6, hc6⟩ => ?_
    rotate_left
    · -- behind the tests
      obtain ⟨hE6, X6', hB6⟩ := hB3.next hc6 (le_of h6) rfl rfl rfl
      have hJ6 := hJ _ _ _ hJ3 hE6
      have h46 : a6.eval (.tmp 46) = .bool (okC L k L[k]) := RR.v.1 (hB6.con.regs 46)
      cases hok : okC L k L[k] with
      | true =>
        rw [hok] at h46
        refine wp_cond h46 (wp_exit ?_)
        obtain ⟨X6b, hB6b⟩ := hB6.next hB6.con (s2 := wrS L Yv k) (by unfold wrS wrR; exact leC_le (fun _ => trivial) (by simp)) rfl rfl rfl |>.2
        refine fin _ _ X6b _ hB6b (wrongs_ok hlt hok).symm hJ6 _ ?_ _ (fun a' w' h => h)
        unfold wrR
        repeat' (first | ((with_reducible refine aguard (fun hg => ?_) (fun hg => ?_)) <;> (try simp only [hg]) <;> (try simp only [beq_iff_eq, beq_eq_false_iff_ne, ne_eq, decide_eq_true_eq, decide_eq_false_iff_not, bne_iff_ne, bne_eq_false_iff_eq] at hg) <;> (try (first | simp only [eq_false hg, if_true, if_false] | simp only [eq_true hg, if_true, if_false])) <;> (try simp (disch := first | omega | simp) [wrap_i64, -aseqC, -anyC])) | (with_reducible refine aseq_step ?_; try simp (disch := first | omega | simp) [wrap_i64, -aseqC, -anyC]) | (with_reducible refine any_step' ?_; try simp (disch := first | omega | simp) [wrap_i64, -aseqC, -anyC]) | (with_reducible refine aseq_end ?_; try simp (disch := first | omega | simp) [wrap_i64, -aseqC, -anyC]) | (with_reducible refine any_end' ?_; try simp (disch := first | omega | simp) [wrap_i64, -aseqC, -anyC]) | ((first | with_reducible refine sideG ?_ ?_ | with_reducible refine sideG2 ?_ ?_ | with_reducible refine sideS ?_ ?_ | with_reducible refine sideS2 ?_ ?_ | with_reducible refine sideS3 ?_ ?_ | with_reducible refine sideA ?_ ?_ | with_reducible refine sideA2 ?_ ?_ | with_reducible refine sideA3 ?_ ?_); (first | omega | assumption | (simp; done))) | (refine awp_seq_k fun K hK => ?_) | (refine awp_regionC ?_) | (refine awp_anyA true (by kernel_rfl) (by kernel_rfl) ?_) | (refine awp_anyA false (by kernel_rfl) (by kernel_rfl) ?_) | (refine hK _ ?_; clear hK; clear K) | (clear hK; clear K; refine hK _ ?_; clear hK; clear K) | (clear hK; clear K; clear hK; clear K; refine hK _ ?_; clear hK; clear K) | refine awp_block ?_ | (refine awp_condC ?_; simp (disch := first | omega | simp) [wrap_i64, -aseqC, -anyC]) | (refine awp_exit ?_; try simp (disch := first | omega | simp) [wrap_i64, -aseqC, -anyC]) | (refine awp_skip ?_; try simp (disch := first | omega | simp) [wrap_i64, -aseqC, -anyC]) | (refine awp_ret ?_; try simp (disch := first | omega | simp) [wrap_i64, -aseqC, -anyC]))
      | false =>
        rw [hok] at h46
        refine wp_cond h46 (wp_skip ?_)
        have e0 : a6.eval (.tmp 0) = .func (.yield l) #[] #[] := by rw [← hYv]; exact RR.v.1 (hB6.con.regs 0)
        have e3 : a6.eval (.tmp 3) = .int .i64 k := RR.v.1 (hB6.con.regs 3)
        have hsz : a6.tmps.size = 52 := hB6.con.size
        refine wp_seq (wp_yield (n := n) (l := l) (x := .int .i64 k) (y0 := 0) (i0 := 3) (d0 := 47) (d1 := 48) (d2 := 49) (d3 := 50) ⟨rfl, rfl, rfl⟩ ⟨rfl, rfl, rfl⟩ ⟨rfl, rfl, rfl⟩ ⟨rfl, rfl, rfl⟩ e0 e3 ⟨by decide, by decide, by rw [hsz]; decide, by rw [hsz]; decide, by rw [hsz]; decide⟩
          (hY (wrongs L k) k w6 hJ6 (by have := wrongs_len L k; omega)) (T := fun W' => J (wrongs L k ++ [(k : Int)]) W' ∧ KpZ z w6 W') (F := fun W' => Jx (wrongs L k ++ [(k : Int)]) W') (fun W' h => ?_) fun W' h => ?_)
        · -- the round says: go on
          refine wp_cond (t := false) (by simp [Act.eval, Act.put, hsz, Array.getD]) (wp_skip ?_)
          obtain ⟨X7, hB7⟩ := hB6.next hB6.con (s2 := wrS L Yv k) (by unfold wrS wrR; exact leC_le (fun _ => trivial) (by simp)) rfl rfl rfl |>.2
          obtain ⟨X8, hB8⟩ := hB7.round (a' := (((a6.put (some 47) (.func (.yield l) #[] #[])).put (some 48) (.int .i64 k)).put (some 49) (.bool true)).put (some 50) (.bool false)) h.2 (by simp [Act.put]) hB6.con.defers fun d => by
            by_cases hd : d = 47 ∨ d = 48 ∨ d = 49 ∨ d = 50
            · left
              rcases hd with rfl | rfl | rfl | rfl <;> rfl
            · right
              refine ⟨fun q => ?_, ?_⟩
              · unfold wrS wrR regs
                simp only [regs, upd]
                split
                · intro e; cases e
                · split
                  · intro e; cases e
                  · split
                    · intro e; cases e
                    · split
                      · intro e; cases e
                      · split <;> (intro e; cases e)
              · simp only [Act.put]
                rw [Array.getD_eq_getD_getElem?, Array.getD_eq_getD_getElem?, Array.getElem?_setIfInBounds_ne (by omega), Array.getElem?_setIfInBounds_ne (by omega), Array.getElem?_setIfInBounds_ne (by omega), Array.getElem?_setIfInBounds_ne (by omega)]
          refine fin _ _ X8 _ hB8 (wrongs_bad hlt hok).symm h.1 _ ?_ _ (fun a' w' h => h)
          unfold wrR
          repeat' (first | ((with_reducible refine aguard (fun hg => ?_) (fun hg => ?_)) <;> (try simp only [hg]) <;> (try simp only [beq_iff_eq, beq_eq_false_iff_ne, ne_eq, decide_eq_true_eq, decide_eq_false_iff_not, bne_iff_ne, bne_eq_false_iff_eq] at hg) <;> (try (first | simp only [eq_false hg, if_true, if_false] | simp only [eq_true hg, if_true, if_false])) <;> (try simp (disch := first | omega | simp) [wrap_i64, -aseqC, -anyC])) | (with_reducible refine aseq_step ?_; try simp (disch := first | omega | simp) [wrap_i64, -aseqC, -anyC]) | (with_reducible refine any_step' ?_; try simp (disch := first | omega | simp) [wrap_i64, -aseqC, -anyC]) | (with_reducible refine aseq_end ?_; try simp (disch := first | omega | simp) [wrap_i64, -aseqC, -anyC]) | (with_reducible refine any_end' ?_; try simp (disch := first | omega | simp) [wrap_i64, -aseqC, -anyC]) | ((first | with_reducible refine sideG ?_ ?_ | with_reducible refine sideG2 ?_ ?_ | with_reducible refine sideS ?_ ?_ | with_reducible refine sideS2 ?_ ?_ | with_reducible refine sideS3 ?_ ?_ | with_reducible refine sideA ?_ ?_ | with_reducible refine sideA2 ?_ ?_ | with_reducible refine sideA3 ?_ ?_); (first | omega | assumption | (simp; done))) | (refine awp_seq_k fun K hK => ?_) | (refine awp_regionC ?_) | (refine awp_anyA true (by kernel_rfl) (by kernel_rfl) ?_) | (refine awp_anyA false (by kernel_rfl) (by kernel_rfl) ?_) | (refine hK _ ?_; clear hK; clear K) | (clear hK; clear K; refine hK _ ?_; clear hK; clear K) | (clear hK; clear K; clear hK; clear K; refine hK _ ?_; clear hK; clear K) | refine awp_block ?_ | (refine awp_condC ?_; simp (disch := first | omega | simp) [wrap_i64, -aseqC, -anyC]) | (refine awp_exit ?_; try simp (disch := first | omega | simp) [wrap_i64, -aseqC, -anyC]) | (refine awp_skip ?_; try simp (disch := first | omega | simp) [wrap_i64, -aseqC, -anyC]) | (refine awp_ret ?_; try simp (disch := first | omega | simp) [wrap_i64, -aseqC, -anyC]))
        · -- the round says: no more
          refine wp_cond (t := true) (by simp [Act.eval, Act.put, hsz, Array.getD]) (wp_ret ?_)
          exact ⟨hB6.con.defers, _, results_none rfl _ _ _, ⟨_, rfl⟩, .inr ⟨_, by simp, (wrongs_bad hlt hok) ▸ wrongs_pre L (by omega), h⟩⟩
    · unfold wrR
      clear hc3 hB3 hB h2 hJ3 hJk fin
      repeat' (first | ((with_reducible refine aguard (fun hg => ?_) (fun hg => ?_)) <;> (try simp only [hg]) <;> (try simp only [beq_iff_eq, beq_eq_false_iff_ne, ne_eq, decide_eq_true_eq, decide_eq_false_iff_not, bne_iff_ne, bne_eq_false_iff_eq] at hg) <;> (try (first | simp only [eq_false hg, if_true, if_false] | simp only [eq_true hg, if_true, if_false])) <;> (try simp (disch := first | omega | simp) [wrap_i64, -aseqC, -anyC])) | (with_reducible refine aseq_step ?_; try simp (disch := first | omega | simp) [wrap_i64, -aseqC, -anyC]) | (with_reducible refine any_step' ?_; try simp (disch := first | omega | simp) [wrap_i64, -aseqC, -anyC]) | (with_reducible refine aseq_end ?_; try simp (disch := first | omega | simp) [wrap_i64, -aseqC, -anyC]) | (with_reducible refine any_end' ?_; try simp (disch := first | omega | simp) [wrap_i64, -aseqC, -anyC]) | ((first | with_reducible refine sideG ?_ ?_ | with_reducible refine sideG2 ?_ ?_ | with_reducible refine sideS ?_ ?_ | with_reducible refine sideS2 ?_ ?_ | with_reducible refine sideS3 ?_ ?_ | with_reducible refine sideA ?_ ?_ | with_reducible refine sideA2 ?_ ?_ | with_reducible refine sideA3 ?_ ?_); (first | omega | assumption | (simp; done))) | (refine acall (own_g _ hn.1) ?_; try simp (disch := first | omega | simp) [wrap_i64, -aseqC, -anyC]) | (refine agives (own_g _ hn.1) ?_; try simp (disch := first | omega | simp) [wrap_i64, -aseqC, -anyC]) | (refine acallAt (own_g _ hn.1) ?_; try simp (disch := first | omega | simp) [wrap_i64, -aseqC, -anyC]) | (refine acall (own_g _ hn.2) ?_; try simp (disch := first | omega | simp) [wrap_i64, -aseqC, -anyC]) | (refine agives (own_g _ hn.2) ?_; try simp (disch := first | omega | simp) [wrap_i64, -aseqC, -anyC]) | (refine acallAt (own_g _ hn.2) ?_; try simp (disch := first | omega | simp) [wrap_i64, -aseqC, -anyC]) | (refine acall (typeName_g _) ?_; try simp (disch := first | omega | simp) [wrap_i64, -aseqC, -anyC]) | (refine agives (typeName_g _) ?_; try simp (disch := first | omega | simp) [wrap_i64, -aseqC, -anyC]) | (refine acallAt (typeName_g _) ?_; try simp (disch := first | omega | simp) [wrap_i64, -aseqC, -anyC]) | (refine acall (hf) ?_; try simp (disch := first | omega | simp) [wrap_i64, -aseqC, -anyC]) | (refine agives (hf) ?_; try simp (disch := first | omega | simp) [wrap_i64, -aseqC, -anyC]) | (refine acallAt (hf) ?_; try simp (disch := first | omega | simp) [wrap_i64, -aseqC, -anyC]) | (refine awp_seq_k fun K hK => ?_) | (refine awp_regionC ?_) | (refine awp_anyA true (by kernel_rfl) (by kernel_rfl) ?_) | (refine awp_anyA false (by kernel_rfl) (by kernel_rfl) ?_) | (refine hK _ ?_; clear hK; clear K) | (clear hK; clear K; refine hK _ ?_; clear hK; clear K) | (clear hK; clear K; clear hK; clear K; refine hK _ ?_; clear hK; clear K) | refine awp_block ?_ | (refine awp_condC ?_; simp (disch := first | omega | simp) [wrap_i64, -aseqC, -anyC]) | (refine awp_exit ?_; try simp (disch := first | omega | simp) [wrap_i64, -aseqC, -anyC]) | (refine awp_skip ?_; try simp (disch := first | omega | simp) [wrap_i64, -aseqC, -anyC]) | (refine awp_ret ?_; try simp (disch := first | omega | simp) [wrap_i64, -aseqC, -anyC]))
      all_goals simp_all [okC, unitP]
  · rw [decide_eq_false hlt] at h9
    refine wp_cond h9 (wp_exit ?_)
    obtain rfl : k = L.length := by omega
    exact ⟨hB3.con.defers, _, results_none rfl _ _ _, ⟨_, rfl⟩, .inl ⟨_, rfl, hJ3⟩⟩
end Go.Proofs.YtinmkhgadekabaaDoor

/- Walk: whether a shape is right. -/
namespace Go.Proofs.YtinmkhgadekabaaDoor
open Go.RowKit Go.Lib Go.Shelf

attribute [local go_sem] Oper.semAt_some

def rightP (L : List Col) : Bool := decide (wrongs L L.length = []) && decide (1 ≤ L.length) && decide (L.length ≤ 12)

theorem cell_new_z (W : World) (v : Value) (t : TypeId) : (W.alloc (.cells #[v] t)).cell? ⟨W.heap.size, 0, none⟩ = some v ∧ (W.alloc (.cells #[v] t)).frozen? ⟨W.heap.size, 0, none⟩ = false := by
  have h : (W.alloc (.cells #[v] t)).heap[W.heap.size]? = some (.cells #[v] t (0, 0)) := heap_alloc_new W _
  constructor
  · unfold World.cell?; dsimp only; rw [h]; rfl
  · unfold World.frozen?; dsimp only; rw [h]; rfl
theorem cell_alloc_z {W : World} {a : Addr} {v : Value} (o : Obj) (h : W.cell? a = some v) : (W.alloc o).cell? a = some v := cell_kept h (World.grownBy_alloc W o none) (fun r e => by cases e)
theorem frozen_alloc_z {W : World} {a : Addr} {v : Value} (o : Obj) (h : W.cell? a = some v) (hf : W.frozen? a = false) : (W.alloc o).frozen? a = false := (frozen_kept h (World.grownBy_alloc W o none) (fun r e => by cases e)).trans hf

theorem wrong_in (n : Nat) (A : Option Addr) (l c : Nat) (w : World) : CallsIn Fence.wide n Tryd.prog 35 #[.slice A l c] w fun e w' => e = .returned (.func (.func 51) #[] #[.pointer (some ⟨w.heap.size, 0, none⟩)]) ∧ w' = w.alloc (.cells #[.slice A l c] 22) := by
  refine callsIn_of_wp Tryd.func35 rfl trivial ?_ rfl
  simp only [Tryd.ntmps35, List.size_toArray, List.length_cons, List.length_nil, Nat.reduceAdd, Nat.reduceSub, Array.replicate_succ, Array.replicate_zero, List.push_toArray, List.append_toArray, List.nil_append, List.cons_append]
  gi_wp2
  go_ret
  exact ⟨rfl, rfl⟩

/-- the iterator's promise, in every later world -/
theorem wrong_stops (n z : Nat) (L : List Col) (hL : L.length ≤ 1000000) (hs : ∀ c ∈ L, c.name.size ≤ 1000000 ∧ c.unit.size ≤ 1000000) (w w1 : World) (v : Value) (hR : RC (St.flat w) (.sl (L.map Col.av)) [v]) (hg : globsOk (CellsS (St.flat w))) (hz : z = w.heap.size) (hb : Below w.heap.size w w1) (hc : w1.cell? ⟨z + 1, 0, none⟩ = some v) (hz1 : z + 1 < w1.heap.size) :
    SeqStopsK Fence.wide n Tryd.prog 51 #[.pointer (some ⟨z + 1, 0, none⟩)] (fun x : Int => #[Value.int .i64 x]) (KpZ z) (fun xs => xs = wrongs L L.length) (fun pre => pre ≠ [] ∧ pre <+: wrongs L L.length) L.length w1 := by
  intro l J Jx W hW hJ hJx hY h0
  subst hz
  let X : St := { w := W, μ := fun _ => undef, S := fun b _ => b < W.heap.size ∧ b ≠ w.heap.size, σ := fun _ => .unborn }
  have hwW : Below w.heap.size w W := hb.trans (hW.mono hb.size)
  have hS : ∀ b o cs, CellsS (St.flat w) b o cs → CellsS X b o cs := fun b o cs => by
    induction cs generalizing o with
    | nil => intro _; trivial
    | cons u cs ih =>
      intro h
      have hlt : b < w.heap.size := h.2.1
      refine ⟨(hwW.cell (p := ⟨b, o, none⟩) hlt).trans h.1, ⟨Nat.lt_of_lt_of_le hlt hwW.size, by omega⟩, ih (o + 1) h.2.2⟩
  have hSR : SR X := ⟨fun _ => trivial, fun r r' b h _ => (by cases h), fun r b o h _ => (by cases h), fun b o h => h.1, hg.mono hS⟩
  have hcW : W.cell? ⟨w.heap.size + 1, 0, none⟩ = some v := (hW.cell (p := ⟨w.heap.size + 1, 0, none⟩) hz1).trans hc
  have hzW : w.heap.size + 1 < W.heap.size := Nat.lt_of_lt_of_le hz1 hW.size
  have hp : RC X (.ep (.sl (L.map Col.av)) 0) [.pointer (some ⟨w.heap.size + 1, 0, none⟩)] := by
    rw [RC]
    exact ⟨w.heap.size + 1, 0, [v], rfl, ⟨hcW, ⟨hzW, by omega⟩, trivial⟩, RC.tr (X := St.flat w) (Y := X) hS rfl rfl _ _ hR⟩
  have hJE : ∀ pre A B, (J pre A ∧ W.heap.size ≤ A.heap.size) → Ext A B → (J pre B ∧ W.heap.size ≤ B.heap.size) := fun pre A B h hE =>
    ⟨hJ pre A B none h.1 ⟨hE.os, hE.tape, hE.output, hE.size, fun b hb _ => hE.block b hb⟩ (fun r e => by cases e), Nat.le_trans h.2 hE.size⟩
  refine callsIn_wide.2 ((wrong1_in (n - 1) l w.heap.size L hL hs (fun pre A => J pre A ∧ W.heap.size ≤ A.heap.size) Jx hJE ?_ W (.pointer (some ⟨w.heap.size + 1, 0, none⟩)) X hSR rfl rfl hp (fun b o h => h.2) (by omega) ⟨h0, Nat.le_refl _⟩).mono ?_)
  · intro pre x W1 hj hlen
    obtain ⟨fn, tmps, assign, body, hy, hR1⟩ := hY pre x W1 hj.1 hlen
    refine ⟨fn, tmps, assign, body, hy, hR1.mono ?_⟩
    rintro e W' (⟨h1, h2, h3⟩ | h)
    · exact .inl ⟨h1, ⟨h2, Nat.le_trans hj.2 h3.1⟩, h3⟩
    · exact .inr h
  · rintro e W' ⟨hv, ⟨xs, h1, h2⟩ | ⟨pre, h1, h2, h3⟩⟩
    · exact ⟨hv, .inl ⟨xs, h1, h2.1⟩⟩
    · exact ⟨hv, .inr ⟨pre, ⟨h1, h2⟩, h3⟩⟩

set_option maxRecDepth 100000 in
set_option maxHeartbeats 4000000 in
theorem right_in (n : Nat) (hn : 3 ≤ n) (L : List Col) (hL : L.length ≤ 1000000) (hs : ∀ c ∈ L, c.name.size ≤ 1000000 ∧ c.unit.size ≤ 1000000) (A : Option Addr) (cap : Nat) (w : World) (hR : RC (St.flat w) (.sl (L.map Col.av)) [.slice A L.length cap]) (hg : globsOk (CellsS (St.flat w))) :
    CallsIn Fence.wide n Tryd.prog 11 #[.slice A L.length cap] w fun e w' => e = .returned (.bool (rightP L)) ∧ Below w.heap.size w w' := by
  have h1 : 1 ≤ n := by omega
  refine callsIn_of_wp_marks Tryd.func11 rfl trivial ?_ rfl
  simp only [Tryd.ntmps11, List.size_toArray, List.length_cons, List.length_nil, Nat.reduceAdd, Nat.reduceSub, Array.replicate_succ, Array.replicate_zero, List.push_toArray, List.append_toArray, List.nil_append, List.cons_append]
  gi_wp2
  refine ⟨trivial, (wrong_in (n - 1) _ _ _ _).mono ?_⟩
  rintro e w' ⟨rfl, rfl⟩
  gi_wp2
  have c0 := cell_new_z w (.bool false) 4
  have c1 := cell_new_z (w.alloc (.cells #[.bool false] 4)) (.slice A L.length cap) 22
  rw [World.size_alloc] at c1
  have hB0 : Below w.heap.size w ((w.alloc (.cells #[.bool false] 4)).alloc (.cells #[.slice A L.length cap] 22)) := ((Below.refl _ w).alloc (Nat.le_refl _) _).alloc (by simp) _
  refine wpIn_rangeFunc_ownF rfl h1 (gf := 51) (lb := #[.pointer (some ⟨w.heap.size + 1, 0, none⟩)]) rfl trivial (enters_of Tryd.func51 (by kernel_rfl) rfl)
    (wrong_stops (n - 1) w.heap.size L hL hs w _ (.slice A L.length cap) hR hg rfl hB0 c1.1 (by simp)) (fun h k => h.trans k) (fun W l o o' _ hl ho _ => KpZ.put hl ho) (Below.refl _ _) (by intro x; rfl)
    (fun pre W => (pre = [] ∧ W.cell? ⟨w.heap.size, 0, none⟩ = some (.bool false) ∧ W.frozen? ⟨w.heap.size, 0, none⟩ = false) ∧ Below w.heap.size w W)
    (fun c pre W => (c = .ret ∧ W.cell? ⟨w.heap.size, 0, none⟩ = some (.bool false)) ∧ Below w.heap.size w W)
    (OwnFrom.and (Own.from (fun s A B row hs hg hr => ⟨hs.1, cell_kept hs.2.1 hg hr, (frozen_kept hs.2.1 hg hr).trans hs.2.2⟩) _) (ownFrom_below (Nat.le_refl _) (by simp; omega)))
    (fun c => OwnFrom.and (Own.from (fun s A B row hs hg hr => ⟨hs.1, cell_kept hs.2 hg hr⟩) _) (ownFrom_below (Nat.le_refl _) (by simp; omega)))
    ⟨⟨rfl, cell_alloc_z _ c0.1, frozen_alloc_z _ c0.1 c0.2⟩, hB0⟩
    (fun x => { tmps := #[.slice A L.length cap, .tuple #[], .pointer (some ⟨w.heap.size, 0, none⟩), .slice A L.length cap, .func (.func 51) #[] #[.pointer (some ⟨w.heap.size + 1, 0, none⟩)], .int .i64 x, .tuple #[], .tuple #[], .tuple #[], .tuple #[], .tuple #[], .tuple #[], .tuple #[], .tuple #[]], defers := [] }) ?assign ?body ?done ?stop
  case assign =>
    intro l x W K hK
    refine wpIn_skip ?_
    show K _ W
    simpa using hK
  case body =>
    rintro l pre x W ⟨⟨hp, hcr, hfr⟩, hB⟩ _
    gi_wp2
    exact ⟨KeepsOthers.setCell _ _ _, ⟨rfl, World.cell?_setCell_same' _ _ _ (by rw [hcr]; rfl)⟩, hB.setCell (p := ⟨w.heap.size, 0, none⟩) (Nat.le_refl _) _⟩
  case done =>
    rintro D ys W hD rfl ⟨⟨hne, hcr, hfr⟩, hB⟩ hK
    have hw0 : decide (wrongs L L.length = []) = true := decide_eq_true hne
    have fin : ∀ b : Bool, b = rightP L → ∀ a : Act, a.tmps.getD 2 undef = .pointer (some ⟨w.heap.size, 0, none⟩) → a.defers = [{ target := .collected D, args := #[] }] →
        bodyPostM Fence.wide n Tryd.prog Tryd.f11 (fun e w' => e = Ending.returned (Value.bool (rightP L)) ∧ Below w.heap.size w w') Exit.ret a (W.setCell ⟨w.heap.size, 0, none⟩ (.bool b)) := fun b hb a ha hda => by
      have hK' := (KeepsOthers.setCell W ⟨w.heap.size, 0, none⟩ (.bool b)).same D _ hK rfl
      show LeavesInM _ _ _ _ _ _ _ _ _
      rw [hda]
      refine ⟨by simp, .inl ⟨_, _, rfl, run_takeDeferred hK', ?_⟩⟩
      have hc5 := cell_kept (World.cell?_setCell_same' W ⟨w.heap.size, 0, none⟩ (.bool b) (by rw [hcr]; rfl)) (grownBy_putObj' _ D (.deferred none)) (fun r e => by cases e; exact ⟨_, hK', rfl⟩)
      refine ⟨.bool b, ?_, by rw [hb], (hB.setCell (p := ⟨w.heap.size, 0, none⟩) (by simp) _).trans (belowK_b (w := w) (Nat.le_refl _) _ D _ _ (by simp at hD; omega) hK' rfl rfl)⟩
      have ha2 : a.tmps[2]?.getD (Value.tuple #[]) = .pointer (some ⟨w.heap.size, 0, none⟩) := by rw [← ha, Array.getD_eq_getD_getElem?]; rfl
      simp [results, Tryd.f11, go_sem, hc5, ha2]
    gi_wp2
    · rename_i hlen
      refine fin _ ?_ _ rfl rfl
      unfold rightP
      rw [hw0, decide_eq_true (p := 1 ≤ L.length) (by omega)]
      simp only [Bool.true_and]
      exact decide_eq_decide.2 (by omega)
    · rename_i hlen
      refine fin _ ?_ _ rfl rfl
      unfold rightP
      rw [hw0, decide_eq_false (p := 1 ≤ L.length) (by omega)]
      rfl
  case stop =>
    rintro D c pre W hD ⟨hp1, hp2⟩ ⟨⟨rfl, hcr⟩, hB⟩ hK
    have hw0 : rightP L = false := by
      unfold rightP
      rw [decide_eq_false (p := wrongs L L.length = []) fun e => hp1 (List.prefix_nil.1 (by rw [e] at hp2; exact hp2))]; rfl
    gi_wp2
    refine ⟨by simp, .inl ⟨_, _, rfl, run_takeDeferred hK, ?_⟩⟩
    have hc5 := cell_kept hcr (grownBy_putObj' _ D (.deferred none)) (fun r e => by cases e; exact ⟨_, hK, rfl⟩)
    refine ⟨.bool false, ?_, by rw [hw0], hB.trans (belowK_b (w := w) (Nat.le_refl _) W D _ _ (by simp at hD; omega) hK rfl rfl)⟩
    simp [results, Tryd.f11, go_sem, hc5]
end Go.Proofs.YtinmkhgadekabaaDoor

/- Contracts of the library's string functions, abstract; whether a shape is right. -/
namespace Go.Proofs.YtinmkhgadekabaaDoor
open Go.RowKit Go.Lib

theorem gives_ofS {P : Program} {f : FuncId} {args : List AV} {x : AV} (h : ∀ X vals, SR X → RRl X args vals → Calls P f vals.toArray X.w fun r w' => Ext X.w w' ∧ ∃ v, r = .returned v ∧ RR (X.later w') x v) : Gives P f args x := by
  intro σ X vals nx hS hσ hfin ha
  refine (h X vals hS ha).mono ?_
  rintro e w' ⟨he, v, rfl, hR⟩
  exact ⟨X.later w', v, x, rfl, rfl, ⟨rfl, hσ⟩, later_sr hS he, later_fr hS he, hR⟩
theorem gives_vS {P : Program} {f : FuncId} {args : List AV} {u : Value} (h : ∀ X vals, SR X → RRl X args vals → Calls P f vals.toArray X.w fun r w' => r = .returned u ∧ Ext X.w w') : Gives P f args (.v u) :=
  gives_ofS fun X vals hS ha => (h X vals hS ha).mono fun _ _ ⟨h1, h2⟩ => ⟨h2, u, h1, RR.v.2 rfl⟩
theorem arg_vv {X : St} {x v : Value} (h : RR1 X (.v x) v) : v = x := by
  have h' : RC X (.v x) [v] := h
  rw [RC] at h'; simpa using h'
theorem cellsS_flat {X : St} {b : Nat} : ∀ {cs : List Value} {off : Nat}, CellsS X b off cs → CellsS (St.flat X.w) b off cs
  | [], _, _ => trivial
  | _ :: _, _, h => ⟨h.1, World.block_lt_of_cell? _ _ h.1, cellsS_flat h.2.2⟩
theorem SR.flatg {X : St} (h : SR X) : globsOk (CellsS (St.flat X.w)) := h.glob.mono fun _ _ _ => cellsS_flat

theorem right_g (L : List Col) (hL : L.length ≤ 1000000) (hs : ∀ c ∈ L, c.name.size ≤ 1000000 ∧ c.unit.size ≤ 1000000) : Gives Tryd.prog 11 [.sl (L.map Col.av)] (.bool (rightP L)) :=
  gives_vS fun X vals hS ha => by
    obtain ⟨v0, _, rfl, h0, h1⟩ := ha
    cases h1
    have hr : RC X (.sl (L.map Col.av)) [v0] := h0
    have hd := rd_of_rc (D.sl (L.map Col.d)) [v0] (by rw [Col.ds_av]; exact hr)
    have hf := flat_rc hd
    rw [Col.ds_av] at hf
    rw [RC] at hr
    obtain ⟨A, cap, b, off, hv, -⟩ := hr
    obtain rfl : v0 = .slice A L.length cap := by simpa using hv
    exact callsIn_wide.1 (right_in 3 (by omega) L hL hs A cap X.w hf hS.flatg)

/- strings -/
def splitA (sep s : ByteArray) : List ByteArray := Lib.splitB sep 0 (Lib.countB s sep) s
theorem splitA_length (sep s : ByteArray) (h1 : 1 ≤ sep.size) : (splitA sep s).length = Lib.countB s sep + 1 := Lib.splitB_all sep h1 0 _ s rfl
theorem rcs_strs {X : St} : ∀ l : List ByteArray, RCs X (l.map AV.str) (l.map Value.string)
  | [] => rfl
  | c :: l => ⟨[_], _, rfl, by rw [RC], rcs_strs l⟩
theorem split_g (s sep : ByteArray) (hs : s.size < 4294967281) (h1 : 1 ≤ sep.size) : Gives Tryd.prog 34 [.str s, .str sep] (.sl ((splitA sep s).map AV.str)) :=
  gives_ofS fun X vals hS ha => by
    obtain ⟨v0, _, rfl, h2, v1, _, rfl, h3, h4⟩ := ha
    cases h4
    cases arg_vv h2; cases arg_vv h3
    obtain ⟨⟨m, hm⟩, -⟩ := hS.glob
    refine (Tryd.strings_Split s sep m X.w hs hm.1 h1).mono ?_
    rintro e w' ⟨rfl, rfl⟩
    have hE := (Ext.refl X.w).alloc (.cells ((splitA sep s).map Value.string).toArray 9)
    refine ⟨hE, _, rfl, ?_⟩
    show RC _ (.sl _) [_]
    rw [RC]
    have hlen := splitA_length sep s h1
    have hc := Lib.countB_le sep h1 _ s (Nat.le_refl _)
    refine ⟨_, _, X.w.heap.size, 0, by rw [List.length_map, hlen], by rw [List.length_map, hlen]; exact Nat.le_refl _, by omega, fun _ => rfl, ?_⟩
    refine RM.of (rcs_strs _) (cellsS_of _ 0 fun j u hj => ⟨?_, .inr ⟨Nat.le_refl _, by simp [World.size_alloc]⟩⟩)
    have := cells_new X.w ((splitA sep s).map Value.string).toArray 9 j u (by simpa using hj)
    rwa [addr_add] at this
theorem trim_g (s p : ByteArray) (hs : s.size ≤ 9223372036854775807) : Gives Tryd.prog 32 [.str s, .str p] (.str (bytesA (Lib.trimSuffix s.data.toList p.data.toList))) :=
  gives_vS fun X vals hS ha => by
    obtain ⟨v0, _, rfl, h2, v1, _, rfl, h3, h4⟩ := ha
    cases h4
    cases arg_vv h2; cases arg_vv h3
    refine (Tryd.strings_TrimSuffix s p X.w hs).mono ?_
    rintro e w' ⟨rfl, rfl⟩
    exact ⟨rfl, Ext.refl _⟩
theorem join_g (l : List ByteArray) (sep : ByteArray) (hl : l.length ≤ 140737488355328) (hlen : (Lib.join (l.map (·.data.toList)) sep.data.toList).length ≤ 140737488355328) : Gives Tryd.prog 33 [.sl (l.map AV.str), .str sep] (.str (bytesA (Lib.join (l.map (·.data.toList)) sep.data.toList))) :=
  gives_vS fun X vals hS ha => by
    obtain ⟨v0, _, rfl, h2, v1, _, rfl, h3, h4⟩ := ha
    cases h4
    cases arg_vv h3
    change RC X (.sl _) [v0] at h2
    rw [RC] at h2
    obtain ⟨A, cap, b, off, hv, hc1, hc2, hA, hm⟩ := h2
    rw [List.length_map] at hv hc1 hA
    obtain rfl : v0 = .slice A l.length cap := by simpa using hv
    cases l with
    | nil =>
      refine (Tryd.strings_Join_none A cap sep X.w).mono ?_
      rintro e w' ⟨rfl, rfl⟩
      exact ⟨rfl, Ext.refl _⟩
    | cons x l =>
      obtain rfl := hA (by simp)
      have hcell : ∀ (j : Nat) y, (x :: l)[j]? = some y → X.w.cell? ⟨b, off + j, none⟩ = some (.string y) := fun j y hj => by
        obtain ⟨cs, h5, h6⟩ := hm.at (sz := 1) (fun z hz => by obtain ⟨q, -, rfl⟩ := List.mem_map.1 hz; rfl) (k := j) (x := .str y) (by rw [List.getElem?_map, hj]; rfl)
        rw [RC] at h6; subst h6
        have := h5.1
        rwa [Nat.mul_one] at this
      have hb := World.block_lt_of_cell? X.w _ (hcell 0 x rfl)
      exact Tryd.strings_Join b off cap (x :: l) sep X.w hcell hb hl hc1 hlen
end Go.Proofs.YtinmkhgadekabaaDoor
