/- The first element with a property, and what loops that look for it know. -/
import Derived.Test.YtkhmlicikbnmdaaDoorGa10
set_option linter.unusedSimpArgs false
set_option linter.unusedVariables false
namespace Go.Proofs.YtkhmlicikbnmdaaDoor

def idxP {α : Type} (p : α → Bool) : List α → Int
  | [] => -1
  | x :: l => if p x then 0 else if idxP p l = -1 then -1 else idxP p l + 1
section
variable {α : Type} {p : α → Bool}
theorem idxP_cons (x : α) (l : List α) : idxP p (x :: l) = if p x then 0 else if idxP p l = -1 then -1 else idxP p l + 1 := rfl
theorem idxP_ge : ∀ l : List α, -1 ≤ idxP p l
  | [] => by simp [idxP]
  | x :: l => by
    have := idxP_ge l
    rw [idxP_cons]
    split
    · omega
    · split <;> omega
theorem idxP_hit : ∀ {l : List α} {k : Nat} (h : k < l.length), p l[k] = true → (∀ j (h : j < l.length), j < k → p l[j] = false) → idxP p l = k
  | [], k, h, _, _ => by simp at h
  | x :: l, 0, h, h1, _ => by
    have h1' : p x = true := h1
    rw [idxP_cons, if_pos h1']; rfl
  | x :: l, k + 1, h, h1, h2 => by
    have h0 : p x = false := h2 0 (by simp) (by omega)
    have hk : k < l.length := by simpa using h
    have ih := idxP_hit (l := l) (k := k) hk (by simpa using h1) fun j hj hjk => by have := h2 (j + 1) (by simpa using hj) (by omega); simpa using this
    rw [idxP_cons, if_neg (by rw [h0]; simp), ih, if_neg (by omega)]
    omega
theorem idxP_miss : ∀ {l : List α}, (∀ j (h : j < l.length), p l[j] = false) → idxP p l = -1
  | [], _ => rfl
  | x :: l, h => by
    have h0 : p x = false := h 0 (by simp)
    rw [idxP_cons, if_neg (by rw [h0]; simp), idxP_miss (l := l) fun j hj => by have := h (j + 1) (by simpa using hj); simpa using this]
    rfl
theorem idxP_lt {l : List α} {k : Nat} (h : idxP p l = k) : ∃ hk : k < l.length, p l[k] = true ∧ ∀ j (h : j < l.length), j < k → p l[j] = false := by
  induction l generalizing k with
  | nil => simp [idxP] at h
  | cons x l ih =>
    rw [idxP_cons] at h
    split at h
    · rename_i hx
      obtain rfl : k = 0 := by omega
      exact ⟨by simp, hx, fun j _ hj => by omega⟩
    · rename_i hx
      split at h
      · omega
      · rename_i hn
        have hge := idxP_ge (p := p) l
        obtain ⟨hk, h1, h2⟩ := ih (k := k - 1) (by omega)
        obtain ⟨k', rfl⟩ : ∃ k', k = k' + 1 := ⟨k - 1, by omega⟩
        refine ⟨by simpa using hk, by simpa using h1, fun j hj hjk => ?_⟩
        cases j with
        | zero => simpa using hx
        | succ j => simpa using h2 j (by simpa using hj) (by omega)
theorem idxP_any (l : List α) : decide (0 ≤ idxP p l) = l.any p := by
  induction l with
  | nil => rfl
  | cons x l ih =>
    have hge := idxP_ge (p := p) l
    rw [List.any_cons, ← ih]
    rw [idxP_cons]
    by_cases hx : p x = true
    · rw [if_pos hx, hx]; rfl
    · rw [if_neg hx]
      have : p x = false := by simpa using hx
      rw [this, Bool.false_or]
      split
      · rename_i h; rw [h]
      · exact decide_eq_decide.2 (by omega)
theorem idxP_congr {q : α → Bool} : ∀ {l : List α}, (∀ x ∈ l, p x = q x) → idxP p l = idxP q l
  | [], _ => rfl
  | x :: l, h => by
    rw [idxP_cons, idxP_cons, h x (by simp), idxP_congr fun y hy => h y (by simp [hy])]
theorem all_hit {l : List α} {k : Nat} (h : k < l.length) (h1 : p l[k] = false) : l.all p = false := by
  rw [Bool.eq_false_iff]; intro h2
  rw [List.all_eq_true] at h2
  have := h2 l[k] (List.getElem_mem h)
  rw [h1] at this; cases this
theorem all_end {l : List α} (h : ∀ j (h : j < l.length), p l[j] = true) : l.all p = true := by
  rw [List.all_eq_true]
  intro x hx
  obtain ⟨j, hj, rfl⟩ := List.getElem_of_mem hx
  exact h j hj
/-- what is known of the elements ahead of k, one more -/
theorem upto_succ {C : α → Prop} {l : List α} {k : Nat} (h : ∀ j (h : j < l.length), j < k → C l[j]) (hk : ∀ h : k < l.length, C l[k]) : ∀ j (h : j < l.length), j < k + 1 → C l[j] := fun j hj hjk => by
  by_cases he : j = k
  · subst he; exact hk hj
  · exact h j hj (by omega)
theorem upto_all {C : α → Prop} {l : List α} {k : Nat} (h : ∀ j (h : j < l.length), j < k → C l[j]) (hk : ¬ k < l.length) : ∀ j (h : j < l.length), C l[j] := fun j hj => h j hj (by omega)
end

/-- a made slice of which the first k elements have been set -/
def fillV {α : Type} (f : α → AV) (z : AV) (L : List α) (k : Nat) : List AV := (L.take k).map f ++ List.replicate (L.length - k) z
section
variable {α : Type} {f : α → AV} {z : AV} {L : List α} {k : Nat}
theorem fillV_len (h : k ≤ L.length) : (fillV f z L k).length = L.length := by
  unfold fillV; simp only [List.length_append, List.length_map, List.length_take, List.length_replicate]; omega
theorem fillV_get (h : k < L.length) : (fillV f z L k)[k]? = some z := by
  unfold fillV
  have hl : ((L.take k).map f).length = k := by simp only [List.length_map, List.length_take]; omega
  rw [List.getElem?_append_right (by omega), hl, Nat.sub_self, List.getElem?_replicate, if_pos (by omega)]
theorem fillV_set (h : k < L.length) : (fillV f z L k).set k (f L[k]) = fillV f z L (k + 1) := by
  unfold fillV
  have hl : ((L.take k).map f).length = k := by simp only [List.length_map, List.length_take]; omega
  rw [List.set_append_right _ _ (by omega), hl, Nat.sub_self]
  obtain ⟨m, hm⟩ : ∃ m, L.length - k = m + 1 := ⟨L.length - k - 1, by omega⟩
  rw [hm, List.replicate_succ, List.set_cons_zero, show L.length - (k + 1) = m by omega, List.take_succ_eq_append_getElem h, List.map_append, List.append_assoc]
  rfl
theorem fillV_all : fillV f z L L.length = L.map f := by
  unfold fillV; simp
theorem fillV_zero : fillV f z L 0 = List.replicate L.length z := by
  unfold fillV; simp
theorem fillV_cls {m : Nat} (hf : ∀ x, (f x).cl m) (hz : z.cl m) : AV.cls m (fillV f z L k) := by
  rw [AV.cls_iff]
  intro x hx
  unfold fillV at hx
  rcases List.mem_append.1 hx with h | h
  · obtain ⟨y, -, rfl⟩ := List.mem_map.1 h; exact hf y
  · rw [(List.mem_replicate.1 h).2]; exact hz
end
end Go.Proofs.YtkhmlicikbnmdaaDoor
