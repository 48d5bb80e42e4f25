/- More on readings: a slice's beginning, the empty slice, all of a list. -/
import Derived.Test.YtmhelkhmgbbfhaaQuiet
namespace Go.Proofs.Ytmhelkhmgbbfhaa
open Go.RowKit Go.Lib

theorem RdM.take {w : World} {S : Nat → Prop} : ∀ (l : List D) (b off k : Nat), RdM w S l b off → RdM w S (l.take k) b off
  | [], _, _, _, _ => by rw [List.take_nil, RdM]; trivial
  | d :: l, b, off, 0, _ => by rw [List.take_zero, RdM]; trivial
  | d :: l, b, off, k + 1, h => by
    rw [RdM] at h
    rw [List.take_succ_cons, RdM]
    exact ⟨h.1, RdM.take l b _ k h.2⟩
theorem RdM.drop {w : World} {S : Nat → Prop} {sz : Nat} : ∀ (l : List D) (b off k : Nat), RdM w S l b off → (∀ d ∈ l, d.width = sz) → RdM w S (l.drop k) b (off + k * sz)
  | [], _, _, _, _, _ => by rw [List.drop_nil, RdM]; trivial
  | d :: l, b, off, 0, h, _ => by simpa using h
  | d :: l, b, off, k + 1, h, hw => by
    rw [RdM] at h
    rw [List.drop_succ_cons]
    have hd : d.width = sz := hw d (by simp)
    have := RdM.drop l b (off + d.width) k h.2 (fun x hx => hw x (by simp [hx]))
    rw [hd] at this
    rwa [show off + (k + 1) * sz = off + sz + k * sz by rw [Nat.succ_mul]; omega]
/-- 'x[:k]' -/
theorem Rd.cut {w : World} {S : Nat → Prop} {l : List D} {b off cap k : Nat} (hk : k ≤ l.length) (h1 : l.length ≤ cap) (h2 : cap ≤ 9223372036854775807) (hS : S b) (h : RdM w S l b off) : Rd w S (.sl (l.take k)) [.slice (some ⟨b, off, none⟩) k cap] :=
  Rd.sl_mk (by rw [List.length_take]; omega) (by rw [List.length_take]; omega) h2 (fun _ => ⟨rfl, hS⟩) (RdM.take l b off k h)
theorem Rd.nil {w : World} {S : Nat → Prop} {cap : Nat} (A : Option Addr) (h : cap ≤ 9223372036854775807) : Rd w S (.sl []) [.slice A 0 cap] :=
  Rd.sl_mk (b := 0) (off := 0) rfl (by simp) h (by simp) (by rw [RdM]; trivial)

theorem all_range_false {n k : Nat} {p : Nat → Bool} (h : k < n) (hp : p k = false) : (List.range n).all p = false := by
  rw [List.all_eq_false]; exact ⟨k, List.mem_range.2 h, by rw [hp]; simp⟩
theorem all_range_true {n : Nat} {p : Nat → Bool} (h : ∀ i, i < n → p i = true) : (List.range n).all p = true := by
  rw [List.all_eq_true]; exact fun i hi => h i (List.mem_range.1 hi)
theorem all_at_false {α : Type} {l : List α} {k : Nat} {p : α → Bool} (h : k < l.length) (hp : p l[k] = false) : l.all p = false := by
  rw [List.all_eq_false]; exact ⟨l[k], List.getElem_mem h, by rw [hp]; simp⟩
theorem all_at_true {α : Type} {l : List α} {p : α → Bool} (h : ∀ i (hi : i < l.length), p l[i] = true) : l.all p = true := by
  rw [List.all_eq_true]; intro x hx; obtain ⟨i, hi, rfl⟩ := List.getElem_of_mem hx; exact h i hi

end Go.Proofs.Ytmhelkhmgbbfhaa
