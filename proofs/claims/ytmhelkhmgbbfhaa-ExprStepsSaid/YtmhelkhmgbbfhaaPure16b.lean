/- Steps of expressions, on plain data. -/
import Derived.Test.YtmhelkhmgbbfhaaPure16
namespace Go.Proofs.Ytmhelkhmgbbfhaa
open Go.RowKit Go.Lib

def capS (n : Int) : Int := min n 1099511627776
/-- the sum of numbers, cut at each addition -/
def sumS (n : Int) : List Int → Int
  | [] => n
  | k :: l => sumS (capS (n + k)) l
def stepsOf (B : List Int) (op n : Int) (ks : List Int) : Int :=
  match (if op = 21 then ks else []) with
  | [a, b, c] => capS (1 + a + max b c)
  | _ => if op = 22 ∧ 0 ≤ n ∧ n < B.length then capS (sumS 1 ks + B.getD n.toNat 0) else sumS 1 ks
mutual
def countE (B : List Int) : Ex → Int
  | .mk op n _ l => stepsOf B op n (countL B l)
def countL (B : List Int) : List Ex → List Int
  | [] => []
  | e :: l => countE B e :: countL B l
end
theorem countL_map (B : List Int) : ∀ l, countL B l = l.map (countE B)
  | [] => rfl
  | e :: l => by rw [countL, countL_map B l, List.map_cons]
/-- numbers of steps -/
def GoodS (l : List Int) : Prop := ∀ k ∈ l, 0 ≤ k ∧ k ≤ 1099511627776
theorem capS_bd {n : Int} (h : 0 ≤ n) : 0 ≤ capS n ∧ capS n ≤ 1099511627776 := by unfold capS; omega
theorem sumS_bd : ∀ (l : List Int) (n : Int), GoodS l → 0 ≤ n → n ≤ 1099511627776 → 0 ≤ sumS n l ∧ sumS n l ≤ 1099511627776
  | [], n, _, h1, h2 => ⟨h1, h2⟩
  | k :: l, n, hg, h1, h2 => by
    have hk := hg k (by simp)
    have := capS_bd (n := n + k) (by omega)
    exact sumS_bd l _ (fun x hx => hg x (by simp [hx])) this.1 this.2
theorem goodS_getD {l : List Int} (h : GoodS l) (i : Nat) : 0 ≤ l.getD i 0 ∧ l.getD i 0 ≤ 1099511627776 := by
  rw [List.getD_eq_getElem?_getD]
  by_cases hi : i < l.length
  · rw [List.getElem?_eq_getElem hi]; exact h _ (List.getElem_mem hi)
  · rw [List.getElem?_eq_none (by omega)]; simp
theorem stepsOf_bd {B ks : List Int} (op n : Int) (hB : GoodS B) (hk : GoodS ks) : 0 ≤ stepsOf B op n ks ∧ stepsOf B op n ks ≤ 1099511627776 := by
  have h1 := sumS_bd ks 1 hk (by omega) (by omega)
  unfold stepsOf
  split
  · rename_i a b c h
    have h3 : ks = [a, b, c] := by by_cases ho : op = 21 <;> simp [ho] at h; exact h
    subst h3
    have ha := hk a (by simp); have hb := hk b (by simp); have hc := hk c (by simp)
    exact capS_bd (by omega)
  · split
    · have := goodS_getD hB n.toNat
      exact capS_bd (by omega)
    · exact h1
mutual
theorem countE_bd (B : List Int) (hB : GoodS B) : ∀ e, 0 ≤ countE B e ∧ countE B e ≤ 1099511627776
  | .mk op n _ l => by rw [countE]; exact stepsOf_bd op n hB (countL_good B hB l)
theorem countL_good (B : List Int) (hB : GoodS B) : ∀ l, GoodS (countL B l)
  | [] => by rw [countL]; intro k hk; simp at hk
  | e :: l => by
    rw [countL]; intro k hk
    rcases List.mem_cons.1 hk with rfl | hk
    · exact countE_bd B hB e
    · exact countL_good B hB l k hk
end
/-- steps of the bodies of functions, the first ones first -/
def bodiesS : List Int → List Fn → List Int
  | B, [] => B
  | B, f :: F => bodiesS (B ++ [countE B f.body]) F
theorem bodiesS_good : ∀ (F : List Fn) (B : List Int), GoodS B → GoodS (bodiesS B F)
  | [], _, h => h
  | f :: F, B, h => bodiesS_good F _ (fun k hk => by
      rcases List.mem_append.1 hk with hk | hk
      · exact h k hk
      · simp at hk; subst hk; exact countE_bd B h f.body)
def stepsP (F : List Fn) (e : Ex) : Int := countE (bodiesS [] F) e

end Go.Proofs.Ytmhelkhmgbbfhaa
