/- Patterns, on plain data: parts, what they match. -/
import Derived.Lib.FieldsP
import Derived.Test.YtkhmlicikbnmdaaDoorGa10
import Derived.Test.YtkhmlicikbnmdaaDoorGa12
set_option linter.unusedSimpArgs false
set_option linter.unusedVariables false
namespace Go.Proofs.YtkhmlicikbnmdaaDoor

/-- A part of a pattern. -/
inductive Pt where
  | byte (b : UInt8)
  | star
  | any
  | cls (set : List UInt8) (neg : Bool)
  deriving DecidableEq, Inhabited

/-- the index of the first ] that is not the first byte -/
def closeI : List UInt8 → Option Nat
  | [] => none
  | _ :: r => (r.findIdx? (· == 93)).map (· + 1)
/-- the part at the head of a pattern, and how many bytes it has -/
def head : List UInt8 → Pt × Nat
  | [] => (.byte 0, 0)
  | 92 :: b :: _ => (.byte b, 2)
  | 42 :: _ => (.star, 1)
  | 63 :: _ => (.any, 1)
  | 91 :: 33 :: r => match closeI r with
    | some n => (.cls (r.take n) true, n + 3)
    | none => match closeI (33 :: r) with
      | some n => (.cls ((33 :: r).take n) false, n + 2)
      | none => (.byte 91, 1)
  | 91 :: r => match closeI r with
    | some n => (.cls (r.take n) false, n + 2)
    | none => (.byte 91, 1)
  | c :: _ => (.byte c, 1)
theorem findIdx_lt {r : List UInt8} {n : Nat} (h : r.findIdx? (· == 93) = some n) : n < r.length ∧ r[n]? = some 93 := by
  rw [List.findIdx?_eq_some_iff_getElem] at h
  obtain ⟨h1, h2, -⟩ := h
  refine ⟨h1, ?_⟩
  rw [List.getElem?_eq_getElem h1]
  simpa using h2
theorem closeI_lt {r : List UInt8} {n : Nat} (h : closeI r = some n) : 1 ≤ n ∧ n < r.length ∧ r[n]? = some 93 := by
  cases r with
  | nil => simp [closeI] at h
  | cons c r =>
    simp only [closeI, Option.map_eq_some_iff] at h
    obtain ⟨m, h1, rfl⟩ := h
    obtain ⟨h2, h3⟩ := findIdx_lt h1
    exact ⟨by omega, by simp; omega, by simpa using h3⟩
theorem head_len {p : List UInt8} (h : p ≠ []) : 1 ≤ (head p).2 ∧ (head p).2 ≤ p.length := by
  unfold head
  split
  · exact absurd rfl h
  · simp
  · simp
  · simp
  · rename_i r
    split
    · rename_i n hn
      have := closeI_lt hn
      simp; omega
    · split
      · rename_i n hn
        have := closeI_lt hn
        simp at this ⊢; omega
      · simp
  · split
    · rename_i n hn
      have := closeI_lt hn
      simp; omega
    · simp
  · simp
/-- the parts of a pattern -/
def partsF : Nat → List UInt8 → List Pt
  | 0, _ => []
  | _ + 1, [] => []
  | n + 1, c :: p => (head (c :: p)).1 :: partsF n ((c :: p).drop (head (c :: p)).2)
def partsP (p : List UInt8) : List Pt := partsF p.length p
theorem partsF_any : ∀ {n m : Nat} {p : List UInt8}, p.length ≤ n → p.length ≤ m → partsF n p = partsF m p
  | 0, 0, _, _, _ => rfl
  | 0, m + 1, [], _, _ => rfl
  | n + 1, 0, [], _, _ => rfl
  | n + 1, m + 1, [], _, _ => rfl
  | 0, _, c :: p, h, _ => by simp at h
  | n + 1, 0, c :: p, _, h => by simp at h
  | n + 1, m + 1, c :: p, h, k => by
    have := head_len (p := c :: p) (by simp)
    rw [partsF, partsF, partsF_any (m := m)]
    · rw [List.length_drop]; omega
    · rw [List.length_drop]; omega
theorem partsP_nil : partsP [] = [] := rfl
theorem partsP_cons {p : List UInt8} (h : p ≠ []) : partsP p = (head p).1 :: partsP (p.drop (head p).2) := by
  have hl := head_len h
  obtain ⟨c, q, rfl⟩ := List.exists_cons_of_ne_nil h
  unfold partsP
  rw [List.length_cons, partsF]
  congr 1
  refine partsF_any ?_ (Nat.le_refl _)
  rw [List.length_drop, List.length_cons]; omega
/-- has a set a byte -/
def inSet : List UInt8 → UInt8 → Bool
  | [], _ => false
  | a :: 45 :: b :: r, c => if a ≤ c ∧ c ≤ b then true else inSet r c
  | a :: r, c => if a = c then true else inSet r c
/-- does a part (no star) match a byte -/
def fitsP : Pt → UInt8 → Bool
  | .byte b, c => b == c
  | .star, _ => false
  | .any, _ => true
  | .cls set neg, c => inSet set c != neg
/-- does something hold of an end of a string -/
def anySuf (f : List UInt8 → Bool) : List UInt8 → Bool
  | [] => f []
  | c :: s => f (c :: s) || anySuf f s
/-- do parts match a string -/
def mat : List Pt → List UInt8 → Bool
  | [] => fun s => s.isEmpty
  | .star :: l => anySuf (mat l)
  | x :: l => fun s => match s with
    | [] => false
    | c :: s => fitsP x c && mat l s
theorem anySuf_iff {f : List UInt8 → Bool} : ∀ {s : List UInt8}, anySuf f s = true ↔ ∃ k, k ≤ s.length ∧ f (s.drop k) = true
  | [] => by rw [anySuf]; exact ⟨fun h => ⟨0, Nat.le_refl _, h⟩, fun ⟨k, hk, h⟩ => by simpa using h⟩
  | c :: s => by
    rw [anySuf, Bool.or_eq_true, anySuf_iff]
    constructor
    · rintro (h | ⟨k, hk, h⟩)
      · exact ⟨0, Nat.zero_le _, h⟩
      · exact ⟨k + 1, by simpa using hk, by simpa using h⟩
    · rintro ⟨k, hk, h⟩
      cases k with
      | zero => exact .inl h
      | succ k => exact .inr ⟨k, by simpa using hk, by simpa using h⟩
def patP (p s : List UInt8) : Bool := mat (partsP p) s

theorem mat_star {l : List Pt} {s : List UInt8} : mat (.star :: l) s = true ↔ ∃ k, k ≤ s.length ∧ mat l (s.drop k) = true := anySuf_iff
theorem mat_cons {x : Pt} {l : List Pt} (h : x ≠ .star) (s : List UInt8) : mat (x :: l) s = match s with | [] => false | c :: s => fitsP x c && mat l s := by
  cases x <;> first | exact absurd rfl h | rfl
theorem mat_nilS {x : Pt} {l : List Pt} (h : x ≠ .star) : mat (x :: l) [] = false := by rw [mat_cons h]
theorem mat_consS {x : Pt} {l : List Pt} (h : x ≠ .star) (c : UInt8) (s : List UInt8) : mat (x :: l) (c :: s) = (fitsP x c && mat l s) := by rw [mat_cons h]
/-- parts one after the other -/
theorem mat_append : ∀ {l m : List Pt} {s : List UInt8}, mat (l ++ m) s = true ↔ ∃ k, k ≤ s.length ∧ mat l (s.take k) = true ∧ mat m (s.drop k) = true
  | [], m, s => by
    simp only [List.nil_append]
    constructor
    · exact fun h => ⟨0, Nat.zero_le _, by simp [mat], by simpa using h⟩
    · rintro ⟨k, hk, h1, h2⟩
      have : s.take k = [] := by simpa [mat] using h1
      have h3 : k = 0 ∨ s = [] := by
        rcases List.take_eq_nil_iff.1 this with h | h
        · exact .inl h
        · exact .inr h
      rcases h3 with rfl | rfl
      · simpa using h2
      · simpa using h2
  | x :: l, m, s => by
    by_cases hx : x = .star
    · subst hx
      rw [List.cons_append, mat_star]
      constructor
      · rintro ⟨k, hk, h⟩
        obtain ⟨j, hj, h1, h2⟩ := mat_append.1 h
        rw [List.length_drop] at hj
        refine ⟨k + j, by omega, mat_star.2 ⟨k, by rw [List.length_take]; omega, ?_⟩, by rw [← List.drop_drop]; exact h2⟩
        rw [List.drop_take, Nat.add_sub_cancel_left]; exact h1
      · rintro ⟨k, hk, h1, h2⟩
        obtain ⟨j, hj, h3⟩ := mat_star.1 h1
        rw [List.length_take] at hj
        refine ⟨j, by omega, mat_append.2 ⟨k - j, by rw [List.length_drop]; omega, ?_, ?_⟩⟩
        · rw [List.drop_take] at h3; exact h3
        · rw [List.drop_drop, Nat.add_sub_cancel' (by omega)]; exact h2
    · rw [List.cons_append, mat_cons hx]
      cases s with
      | nil =>
        simp only [Bool.false_eq_true, false_iff]
        rintro ⟨k, hk, h1, h2⟩
        rw [List.take_nil, mat_cons hx] at h1
        cases h1
      | cons c s =>
        dsimp only
        rw [Bool.and_eq_true, mat_append]
        constructor
        · rintro ⟨h0, k, hk, h1, h2⟩
          exact ⟨k + 1, by simpa using hk, by rw [List.take_succ_cons, mat_cons hx]; simp [h0, h1], by simpa using h2⟩
        · rintro ⟨k, hk, h1, h2⟩
          cases k with
          | zero => rw [List.take_zero, mat_cons hx] at h1; cases h1
          | succ k =>
            rw [List.take_succ_cons, mat_cons hx] at h1
            simp only [Bool.and_eq_true] at h1
            exact ⟨h1.1, k, by simpa using hk, h1.2, by simpa using h2⟩
/-- parts without a star match as many bytes -/
theorem mat_len : ∀ {l : List Pt} {s : List UInt8}, (∀ x ∈ l, x ≠ .star) → mat l s = true → s.length = l.length
  | [], s, _, h => by simpa [mat] using h
  | x :: l, s, hl, h => by
    rw [mat_cons (hl x (by simp))] at h
    cases s with
    | nil => cases h
    | cons c s =>
      dsimp only at h
      rw [Bool.and_eq_true] at h
      simp [mat_len (fun y hy => hl y (by simp [hy])) h.2]
/-- after a later star the earlier one need not take more -/
theorem mat_later {pre l : List Pt} {s : List UInt8} {k : Nat} (hp : ∀ x ∈ pre, x ≠ .star) (hk : k ≤ s.length) (h : mat (pre ++ .star :: l) (s.drop k) = true) : ∃ m, k + pre.length ≤ m ∧ m ≤ s.length ∧ mat l (s.drop m) = true := by
  obtain ⟨j, hj, h1, h2⟩ := mat_append.1 h
  have hl := mat_len hp h1
  rw [List.length_drop] at hj
  rw [List.length_take, List.length_drop] at hl
  obtain ⟨i, hi, h3⟩ := mat_star.1 h2
  rw [List.drop_drop, List.length_drop] at hi
  rw [List.drop_drop, List.drop_drop, ← Nat.add_assoc] at h3
  exact ⟨k + j + i, by omega, by omega, h3⟩

/- the loop with one star to go back to -/
theorem lexN {x x' c c' C : Nat} (h : x' < x) (hc : c' < C) : x' * C + c' < x * C + c := by
  have h1 : (x' + 1) * C ≤ x * C := Nat.mul_le_mul_right _ h
  rw [Nat.succ_mul] at h1
  omega
/-- what holds at the loop's head -/
structure PInv (p s : List UInt8) (i at_ : Nat) (star : Option Nat) (again : Nat) : Prop where
  hi : i ≤ p.length
  ha : at_ ≤ s.length
  fr : star = none → patP p s = mat (partsP (p.drop i)) (s.drop at_)
  bk : ∀ st, star = some st → st < i ∧ again ≤ at_ ∧ ∃ pre, partsP (p.drop (st + 1)) = pre ++ partsP (p.drop i) ∧ (∀ x ∈ pre, x ≠ .star) ∧ pre.length = at_ - again ∧
    (patP p s = true ↔ mat (partsP (p.drop i)) (s.drop at_) = true ∨ ∃ k, again < k ∧ k ≤ s.length ∧ mat (partsP (p.drop (st + 1))) (s.drop k) = true)
theorem PInv.start (p s : List UInt8) : PInv p s 0 0 none 0 := ⟨Nat.zero_le _, Nat.zero_le _, fun _ => rfl, fun _ h => by cases h⟩
section
variable {p s : List UInt8} {i at_ again : Nat} {star : Option Nat}
theorem drop_ne (hi : i < p.length) : p.drop i ≠ [] := fun h => by
  have := congrArg List.length h
  rw [List.length_drop] at this; simp at this; omega
theorem parts_at (hi : i < p.length) : partsP (p.drop i) = (head (p.drop i)).1 :: partsP (p.drop (i + (head (p.drop i)).2)) := by
  rw [partsP_cons (drop_ne hi), List.drop_drop]
theorem head_star (hi : i < p.length) (h : p[i] = 42) : head (p.drop i) = (.star, 1) := by
  rw [List.drop_eq_getElem_cons hi, h]; rfl
theorem PInv.star_ (h : PInv p s i at_ star again) (hi : i < p.length) (hs : p[i] = 42) : PInv p s (i + 1) at_ (some i) at_ := by
  have hR := parts_at hi
  rw [head_star hi hs] at hR
  refine ⟨hi, h.ha, (fun e => by cases e), fun st e => ?_⟩
  cases e
  refine ⟨by omega, Nat.le_refl _, [], rfl, fun x hx => by simp at hx, by simp, ?_⟩
  have key : mat (partsP (p.drop i)) (s.drop at_) = true ↔ mat (partsP (p.drop (i + 1))) (s.drop at_) = true ∨ ∃ k, at_ < k ∧ k ≤ s.length ∧ mat (partsP (p.drop (i + 1))) (s.drop k) = true := by
    rw [hR, mat_star]
    constructor
    · rintro ⟨k, hk, h1⟩
      rw [List.length_drop] at hk
      rw [List.drop_drop] at h1
      by_cases h0 : k = 0
      · subst h0; exact .inl (by simpa using h1)
      · exact .inr ⟨at_ + k, by omega, by have := h.ha; omega, h1⟩
    · rintro (h1 | ⟨k, h1, h2, h3⟩)
      · exact ⟨0, Nat.zero_le _, by simpa using h1⟩
      · refine ⟨k - at_, by rw [List.length_drop]; omega, ?_⟩
        rw [List.drop_drop, Nat.add_sub_cancel' (by omega)]; exact h3
  cases hst : star with
  | none =>
    rw [h.fr hst]; exact key
  | some st =>
    obtain ⟨h1, h2, pre, h3, h4, h5, h6⟩ := h.bk st hst
    rw [h6, key]
    constructor
    · rintro (h7 | ⟨k, h7, h8, h9⟩)
      · exact h7
      · rw [h3, hR] at h9
        obtain ⟨m, g1, g2, g3⟩ := mat_later h4 h8 h9
        exact .inr ⟨m, by omega, g2, g3⟩
    · exact fun h7 => .inl h7
theorem PInv.one (h : PInv p s i at_ star again) (hi : i < p.length) (ha : at_ < s.length) (hs : p[i] ≠ 42) (hst : (head (p.drop i)).1 ≠ .star) (hf : fitsP (head (p.drop i)).1 s[at_] = true) : PInv p s (i + (head (p.drop i)).2) (at_ + 1) star again := by
  have hR := parts_at hi
  have hl := head_len (drop_ne hi)
  rw [List.length_drop] at hl
  have key : mat (partsP (p.drop i)) (s.drop at_) = mat (partsP (p.drop (i + (head (p.drop i)).2))) (s.drop (at_ + 1)) := by
    rw [hR, List.drop_eq_getElem_cons ha, mat_consS hst, hf, Bool.true_and]
  refine ⟨by omega, ha, fun e => (h.fr e).trans key, fun st e => ?_⟩
  obtain ⟨h1, h2, pre, h3, h4, h5, h6⟩ := h.bk st e
  refine ⟨by omega, by omega, pre ++ [(head (p.drop i)).1], by rw [h3, hR]; simp, fun x hx => ?_, by simp; omega, by rw [h6, key]⟩
  rcases List.mem_append.1 hx with hx | hx
  · exact h4 x hx
  · rw [List.mem_singleton.1 hx]; exact hst
/-- nothing matches here -/
def Miss (p s : List UInt8) (i at_ : Nat) : Prop := mat (partsP (p.drop i)) (s.drop at_) = false
theorem miss_end (hi : i = p.length) (ha : at_ < s.length) : Miss p s i at_ := by
  unfold Miss
  rw [hi, List.drop_length, List.drop_eq_getElem_cons ha]; rfl
theorem miss_short (hi : i < p.length) (hst : (head (p.drop i)).1 ≠ .star) (ha : at_ = s.length) : Miss p s i at_ := by
  unfold Miss
  rw [parts_at hi, ha, List.drop_length, mat_nilS hst]
theorem miss_fit (hi : i < p.length) (hst : (head (p.drop i)).1 ≠ .star) (ha : at_ < s.length) (hf : fitsP (head (p.drop i)).1 s[at_] = false) : Miss p s i at_ := by
  unfold Miss
  rw [parts_at hi, List.drop_eq_getElem_cons ha, mat_consS hst, hf, Bool.false_and]
theorem PInv.back {st : Nat} (h : PInv p s i at_ (some st) again) (hm : Miss p s i at_) (hag : again < s.length) : PInv p s (st + 1) (again + 1) (some st) (again + 1) := by
  obtain ⟨h1, h2, pre, h3, h4, h5, h6⟩ := h.bk st rfl
  have := h.hi
  refine ⟨by omega, hag, (fun e => by cases e), fun st' e => ?_⟩
  cases e
  refine ⟨by omega, Nat.le_refl _, [], rfl, fun x hx => by simp at hx, by simp, ?_⟩
  rw [h6]
  unfold Miss at hm
  rw [hm]
  constructor
  · rintro (h7 | ⟨k, h7, h8, h9⟩)
    · cases h7
    · by_cases hk : k = again + 1
      · subst hk; exact .inl h9
      · exact .inr ⟨k, by omega, h8, h9⟩
  · rintro (h7 | ⟨k, h7, h8, h9⟩)
    · exact .inr ⟨again + 1, by omega, hag, h7⟩
    · exact .inr ⟨k, by omega, h8, h9⟩
theorem PInv.yes (h : PInv p s i at_ star again) (hi : i = p.length) (ha : at_ = s.length) : patP p s = true := by
  have h0 : mat (partsP (p.drop i)) (s.drop at_) = true := by rw [hi, ha, List.drop_length, List.drop_length]; rfl
  cases hst : star with
  | none => rw [h.fr hst, h0]
  | some st =>
    obtain ⟨-, -, pre, -, -, -, h6⟩ := h.bk st hst
    exact h6.2 (.inl h0)
theorem PInv.no (h : PInv p s i at_ star again) (hm : Miss p s i at_) (hag : star = none ∨ again = s.length) : patP p s = false := by
  unfold Miss at hm
  cases hst : star with
  | none => rw [h.fr hst, hm]
  | some st =>
    obtain ⟨-, -, pre, -, -, -, h6⟩ := h.bk st hst
    rw [Bool.eq_false_iff]
    intro h7
    rcases h6.1 h7 with h8 | ⟨k, h8, h9, -⟩
    · rw [hm] at h8; cases h8
    · rcases hag with hag | hag
      · rw [hst] at hag; cases hag
      · omega
end
/-- what the loop's rounds lower -/
def pmeas (p s : List UInt8) (i : Nat) (star : Option Nat) (again : Nat) : Nat := ((p.length + 1 - (match star with | none => 0 | some st => st + 1)) * (s.length + 2) + (s.length + 1 - again)) * (p.length + 2) + (p.length + 1 - i)
theorem pmeas_star {p s : List UInt8} {i : Nat} {star : Option Nat} {again at_ : Nat} (hi : i < p.length) (h : ∀ st, star = some st → st < i) : pmeas p s (i + 1) (some i) at_ < pmeas p s i star again := by
  unfold pmeas
  refine lexN (lexN ?_ (by omega)) (by omega)
  cases star with
  | none => dsimp only; omega
  | some st => have := h st rfl; dsimp only; omega
theorem pmeas_one {p s : List UInt8} {i j : Nat} {star : Option Nat} {again : Nat} (hi : i < j) (hj : j ≤ p.length) : pmeas p s j star again < pmeas p s i star again := by
  unfold pmeas; omega
theorem pmeas_back {p s : List UInt8} {i st : Nat} {again : Nat} (hs : again < s.length) : pmeas p s (st + 1) (some st) (again + 1) < pmeas p s i (some st) again := by
  unfold pmeas
  refine lexN ?_ (by omega)
  dsimp only; omega
end Go.Proofs.YtkhmlicikbnmdaaDoor

/- Patterns, on plain data: rows of the reference, patterns put together, plain patterns. -/
namespace Go.Proofs.YtkhmlicikbnmdaaDoor

theorem mat_one {x : Pt} (h : x ≠ .star) {s : List UInt8} : mat [x] s = true ↔ ∃ c, s = [c] ∧ fitsP x c = true := by
  rw [mat_cons h]
  cases s with
  | nil => simp
  | cons c s =>
    dsimp only
    rw [Bool.and_eq_true]
    constructor
    · rintro ⟨h1, h2⟩
      have : s = [] := by simpa [mat] using h2
      subst this
      exact ⟨c, rfl, h1⟩
    · rintro ⟨d, h1, h2⟩
      cases h1
      exact ⟨h2, rfl⟩
theorem mat_any (s : List UInt8) : mat [.star] s = true := mat_star.2 ⟨s.length, Nat.le_refl _, by rw [List.drop_length]; rfl⟩
theorem mat_snoc_star {l : List Pt} {s : List UInt8} {k : Nat} (hk : k ≤ s.length) : mat (l ++ [.star]) (s.take k) = true ↔ ∃ j, j ≤ k ∧ mat l (s.take j) = true := by
  rw [mat_append]
  constructor
  · rintro ⟨j, hj, h1, -⟩
    rw [List.length_take] at hj
    rw [List.take_take] at h1
    exact ⟨j, by omega, by rwa [Nat.min_eq_left (by omega)] at h1⟩
  · rintro ⟨j, hj, h1⟩
    exact ⟨j, by rw [List.length_take]; omega, by rw [List.take_take, Nat.min_eq_left hj]; exact h1, mat_any _⟩
/-- a star's row -/
theorem row_star {l : List Pt} {s : List UInt8} {k : Nat} (hk : k ≤ s.length) : mat (l ++ [.star]) (s.take k) = (mat l (s.take k) || (decide (0 < k) && mat (l ++ [.star]) (s.take (k - 1)))) := by
  rw [Bool.eq_iff_iff, Bool.or_eq_true, Bool.and_eq_true, decide_eq_true_eq, mat_snoc_star hk, mat_snoc_star (by omega)]
  constructor
  · rintro ⟨j, hj, h⟩
    by_cases h0 : j = k
    · subst h0; exact .inl h
    · exact .inr ⟨by omega, j, by omega, h⟩
  · rintro (h | ⟨h0, j, hj, h⟩)
    · exact ⟨k, Nat.le_refl _, h⟩
    · exact ⟨j, by omega, h⟩
/-- another part's row -/
theorem row_one {l : List Pt} {x : Pt} (hx : x ≠ .star) {s : List UInt8} {k : Nat} (hk : k < s.length) : mat (l ++ [x]) (s.take (k + 1)) = (mat l (s.take k) && fitsP x s[k]) := by
  rw [Bool.eq_iff_iff, Bool.and_eq_true, mat_append]
  constructor
  · rintro ⟨j, hj, h1, h2⟩
    obtain ⟨c, h3, h4⟩ := (mat_one hx).1 h2
    rw [List.length_take] at hj
    have hl : (List.drop j (s.take (k + 1))).length = 1 := by rw [h3]; rfl
    rw [List.length_drop, List.length_take] at hl
    have hjk : j = k := by omega
    subst hjk
    rw [List.take_take, Nat.min_eq_left (by omega)] at h1
    have : List.drop j (s.take (j + 1)) = [s[j]] := by
      rw [List.drop_take, Nat.add_sub_cancel_left, List.drop_eq_getElem_cons hk]; rfl
    rw [this] at h3
    cases h3
    exact ⟨h1, h4⟩
  · rintro ⟨h1, h2⟩
    refine ⟨k, by rw [List.length_take]; omega, by rw [List.take_take, Nat.min_eq_left (by omega)]; exact h1, (mat_one hx).2 ⟨s[k], ?_, h2⟩⟩
    rw [List.drop_take, Nat.add_sub_cancel_left, List.drop_eq_getElem_cons hk]; rfl
theorem row_zero {l : List Pt} {x : Pt} (hx : x ≠ .star) : mat (l ++ [x]) [] = false := by
  rw [Bool.eq_false_iff]
  intro h
  obtain ⟨j, hj, -, h2⟩ := mat_append.1 h
  rw [List.drop_nil] at h2
  obtain ⟨c, h3, -⟩ := (mat_one hx).1 h2
  cases h3

/- patterns put together -/
theorem parts_star (p : List UInt8) : partsP (42 :: p) = .star :: partsP p := by
  rw [partsP_cons (by simp)]; rfl
theorem parts_any (p : List UInt8) : partsP (63 :: p) = .any :: partsP p := by
  rw [partsP_cons (by simp)]; rfl
/-- a string as a pattern that matches it alone -/
def escP : List UInt8 → List UInt8
  | [] => []
  | c :: s => if c = 42 ∨ c = 63 ∨ c = 91 ∨ c = 92 then 92 :: c :: escP s else c :: escP s
theorem head_byte {c : UInt8} {p : List UInt8} (h : ¬ (c = 42 ∨ c = 63 ∨ c = 91 ∨ c = 92)) : head (c :: p) = (.byte c, 1) := by
  unfold head
  split
  · rename_i e; cases e
  · rename_i e; cases e; simp at h
  · rename_i e; cases e; simp at h
  · rename_i e; cases e; simp at h
  · rename_i e; cases e; simp at h
  · rename_i e; cases e; simp at h
  · rename_i e; cases e; rfl
theorem parts_esc : ∀ (t p : List UInt8), partsP (escP t ++ p) = t.map .byte ++ partsP p
  | [], p => rfl
  | c :: t, p => by
    rw [escP]
    split
    · rw [partsP_cons (by simp)]
      show Pt.byte c :: partsP (escP t ++ p) = _
      rw [parts_esc t p]; rfl
    · rename_i h
      rw [List.cons_append, partsP_cons (by simp), head_byte h]
      show Pt.byte c :: partsP (escP t ++ p) = _
      rw [parts_esc t p]; rfl
theorem mat_bytes : ∀ (t : List UInt8) (l : List Pt) (s : List UInt8), mat (t.map .byte ++ l) (t ++ s) = mat l s
  | [], _, _ => rfl
  | c :: t, l, s => by
    rw [List.map_cons, List.cons_append, List.cons_append, mat_consS (by simp), mat_bytes t l s]
    simp [fitsP]
theorem mat_bytes_iff : ∀ {t s : List UInt8}, mat (t.map .byte) s = true ↔ s = t
  | [], s => by simp [mat]
  | c :: t, [] => by rw [List.map_cons, mat_nilS (by simp)]; simp
  | c :: t, d :: s => by
    rw [List.map_cons, mat_consS (by simp), Bool.and_eq_true, mat_bytes_iff, List.cons.injEq]
    unfold fitsP
    rw [beq_iff_eq]
    exact ⟨fun ⟨h1, h2⟩ => ⟨h1.symm, h2⟩, fun ⟨h1, h2⟩ => ⟨h1.symm, h2⟩⟩
/- a star at the end -/
theorem findIdx_snoc {r : List UInt8} : (r ++ [42]).findIdx? (· == 93) = r.findIdx? (· == 93) := by
  rw [List.findIdx?_append]
  cases r.findIdx? (· == 93) <;> rfl
theorem closeI_snoc {r : List UInt8} : closeI (r ++ [42]) = closeI r := by
  cases r with
  | nil => rfl
  | cons c r => rw [List.cons_append, closeI, closeI, findIdx_snoc]
theorem head_91 (q : List UInt8) : head (91 :: 33 :: q) = match closeI q with
    | some n => (.cls (q.take n) true, n + 3)
    | none => match closeI (33 :: q) with
      | some n => (.cls ((33 :: q).take n) false, n + 2)
      | none => (.byte 91, 1) := by
  rw [head]
  all_goals first | rfl | skip
theorem head_91' {d : UInt8} (hd : d ≠ 33) (q : List UInt8) : head (91 :: d :: q) = match closeI (d :: q) with | some n => (.cls ((d :: q).take n) false, n + 2) | none => (.byte 91, 1) := by
  rw [head]
  all_goals first | rfl | (intro r' hr'; cases hr'; exact hd rfl)
theorem head_snoc {p : List UInt8} (h : p ≠ []) (hl : p ≠ [92]) : head (p ++ [42]) = head p := by
  obtain ⟨c, r, rfl⟩ := List.exists_cons_of_ne_nil h
  by_cases hc : c = 42 ∨ c = 63 ∨ c = 91 ∨ c = 92
  · rcases hc with rfl | rfl | rfl | rfl
    · rfl
    · rfl
    · cases r with
      | nil => rfl
      | cons d r =>
        by_cases hd : d = 33
        · subst hd
          show head (91 :: 33 :: (r ++ [42])) = _
          rw [head_91, head_91, closeI_snoc, show (33 : UInt8) :: (r ++ [42]) = (33 :: r) ++ [42] from rfl, closeI_snoc]
          cases hc : closeI r with
          | some n =>
            have := closeI_lt hc
            dsimp only
            rw [List.take_append_of_le_length (by omega)]
          | none =>
            dsimp only
            cases hc2 : closeI (33 :: r) with
            | some n =>
              have := closeI_lt hc2
              dsimp only
              rw [List.take_append_of_le_length (by omega)]
            | none => rfl
        · show head (91 :: d :: (r ++ [42])) = _
          rw [head_91' hd, head_91' hd, show d :: (r ++ [42]) = (d :: r) ++ [42] from rfl, closeI_snoc]
          cases hc : closeI (d :: r) with
          | some n =>
            have := closeI_lt hc
            dsimp only
            rw [List.take_append_of_le_length (by omega)]
          | none => rfl
    · cases r with
      | nil => exact absurd rfl hl
      | cons b r => rfl
  · rw [List.cons_append, head_byte hc, head_byte hc]
theorem parts_snoc : ∀ {n : Nat} {p : List UInt8}, p.length ≤ n → p.getLast? ≠ some 92 → partsP (p ++ [42]) = partsP p ++ [.star]
  | _, [], _, _ => rfl
  | n + 1, c :: p, h, hl => by
    have hl1 : c :: p ≠ [92] := by rintro e; rw [e] at hl; exact hl rfl
    have hh := head_len (p := c :: p) (by simp)
    rw [partsP_cons (p := c :: p ++ [42]) (by simp), head_snoc (by simp) hl1, partsP_cons (p := c :: p) (by simp), List.cons_append]
    congr 1
    show partsP (List.drop (head (c :: p)).2 ((c :: p) ++ [42])) = partsP _ ++ _
    rw [List.drop_append_of_le_length hh.2]
    refine parts_snoc (n := n) (by rw [List.length_drop]; simp at h ⊢; omega) ?_
    rw [List.getLast?_drop]
    split
    · simp
    · exact hl
end Go.Proofs.YtkhmlicikbnmdaaDoor

/- Lines and fields, on plain data. -/
namespace Go.Proofs.YtkhmlicikbnmdaaDoor
open Go.Lib

/-- the pieces between the bytes b -/
def brk (b : UInt8) : List UInt8 → List (List UInt8)
  | [] => [[]]
  | c :: r => if c = b then [] :: brk b r else match brk b r with
    | h :: t => (c :: h) :: t
    | [] => [[c]]
theorem brk_ne (b : UInt8) : ∀ l, brk b l ≠ []
  | [] => by simp [brk]
  | c :: r => by
    rw [brk]
    split
    · simp
    · cases h : brk b r with
      | nil => simp
      | cons x t => simp
theorem brk_none {b : UInt8} : ∀ {l : List UInt8}, b ∉ l → brk b l = [l]
  | [], _ => rfl
  | c :: r, h => by
    rw [brk, if_neg (fun e => h (by simp [e])), brk_none (fun e => h (by simp [e]))]
theorem brk_app {b : UInt8} : ∀ {x r : List UInt8}, b ∉ x → brk b (x ++ b :: r) = x :: brk b r
  | [], r, _ => by rw [List.nil_append, brk, if_pos rfl]
  | c :: x, r, h => by
    rw [List.cons_append, brk, if_neg (fun e => h (by simp [e])), brk_app (fun e => h (by simp [e]))]
theorem brk_free {b : UInt8} : ∀ {l : List UInt8}, ∀ x ∈ brk b l, b ∉ x
  | [], x, h => by simp [brk] at h; subst h; simp
  | c :: r, x, h => by
    have ih := brk_free (b := b) (l := r)
    rw [brk] at h
    split at h
    · rcases List.mem_cons.1 h with rfl | h
      · simp
      · exact ih x h
    · rename_i hc
      cases hb : brk b r with
      | nil => exact absurd hb (brk_ne b r)
      | cons y t =>
        rw [hb] at h ih
        rcases List.mem_cons.1 h with rfl | h
        · have := ih y (by simp)
          simp [this, Ne.symm hc]
        · exact ih x (by simp [h])
/-- the lines of a string -/
def linesP (l : List UInt8) : List (List UInt8) := if l = [] then [] else brk 10 (if l.getLast? = some 10 then l.dropLast else l)
/-- the reference's: the last piece, if it is empty, is none -/
def rlines (l : List UInt8) : List (List UInt8) := if (brk 10 l).getLast? = some [] then (brk 10 l).dropLast else brk 10 l
theorem brk_snoc {b : UInt8} : ∀ (l : List UInt8), brk b (l ++ [b]) = brk b l ++ [[]]
  | [] => by simp [brk]
  | c :: r => by
    rw [List.cons_append, brk, brk, brk_snoc r]
    split
    · rfl
    · cases h : brk b r with
      | nil => exact absurd h (brk_ne b r)
      | cons x t => rfl
theorem brk_last {b : UInt8} : ∀ {l : List UInt8}, l ≠ [] → l.getLast? ≠ some b → (brk b l).getLast? ≠ some []
  | [c], _, h => by
    rw [brk, if_neg (fun e => h (by simp [e]))]; simp [brk]
  | c :: d :: r, _, h => by
    have ih := brk_last (b := b) (l := d :: r) (by simp) (by simpa using h)
    rw [brk]
    split
    · rw [List.getLast?_cons_of_ne_nil (brk_ne _ _)]; exact ih
    · cases hb : brk b (d :: r) with
      | nil => exact absurd hb (brk_ne _ _)
      | cons x t =>
        rw [hb] at ih
        cases t with
        | nil => simp at ih ⊢
        | cons y t => simpa using ih
theorem lines_eq (l : List UInt8) : rlines l = linesP l := by
  unfold linesP rlines
  by_cases h0 : l = []
  · subst h0; rfl
  · rw [if_neg h0]
    by_cases h1 : l.getLast? = some 10
    · rw [if_pos h1]
      obtain ⟨ys, rfl⟩ := List.getLast?_eq_some_iff.1 h1
      rw [brk_snoc, List.dropLast_concat]
      simp
    · rw [if_neg h1, if_neg (brk_last h0 h1)]
def unlinesP (L : List (List UInt8)) : List UInt8 := L.flatMap fun x => x ++ [10]
theorem brk_unlines : ∀ {L : List (List UInt8)}, (∀ x ∈ L, (10 : UInt8) ∉ x) → brk 10 (unlinesP L) = L ++ [[]]
  | [], _ => rfl
  | x :: L, h => by
    unfold unlinesP
    rw [List.flatMap_cons, List.append_assoc]
    show brk 10 (x ++ 10 :: unlinesP L) = _
    rw [brk_app (h x (by simp)), brk_unlines fun y hy => h y (by simp [hy])]; rfl
/-- lines of lines written -/
theorem lines_unlines {L : List (List UInt8)} (h : ∀ x ∈ L, (10 : UInt8) ∉ x) : linesP (unlinesP L) = L := by
  rw [← lines_eq]
  unfold rlines
  rw [brk_unlines h]; simp
theorem unlines_brk : ∀ (l : List UInt8), unlinesP (brk 10 l) = l ++ [10]
  | [] => rfl
  | c :: r => by
    have ih := unlines_brk r
    rw [brk]
    split
    · rename_i hc
      show [] ++ [10] ++ unlinesP (brk 10 r) = _
      rw [ih, hc]; rfl
    · cases hb : brk 10 r with
      | nil => exact absurd hb (brk_ne 10 r)
      | cons x t =>
        rw [hb] at ih
        show (c :: x) ++ [10] ++ unlinesP t = _
        have : x ++ [10] ++ unlinesP t = r ++ [10] := ih
        rw [List.cons_append, List.cons_append, this]; rfl
/-- lines written are the string, with an LF at its end -/
theorem unlines_lines (l : List UInt8) : unlinesP (linesP l) = if l = [] ∨ l.getLast? = some 10 then l else l ++ [10] := by
  unfold linesP
  by_cases h0 : l = []
  · subst h0; rfl
  · rw [if_neg h0]
    by_cases h1 : l.getLast? = some 10
    · rw [if_pos h1, if_pos (.inr h1), unlines_brk]
      obtain ⟨ys, rfl⟩ := List.getLast?_eq_some_iff.1 h1
      rw [List.dropLast_concat]
    · rw [if_neg h1, if_neg (by simp [h0, h1]), unlines_brk]
/-- a white byte -/
def whiteB (c : UInt8) : Bool := c == 32 || c == 9 || c == 10
/-- fields, with what is read of the next -/
def fldA : List UInt8 → List UInt8 → List (List UInt8)
  | now, [] => if now = [] then [] else [now]
  | now, c :: r => if whiteB c = true then (if now = [] then fldA [] r else now :: fldA [] r) else fldA (now ++ [c]) r
def fieldsP (l : List UInt8) : List (List UInt8) := fldA [] l
theorem fld_free : ∀ (l now : List UInt8), (∀ c ∈ now, whiteB c = false) → ∀ x ∈ fldA now l, x ≠ [] ∧ ∀ c ∈ x, whiteB c = false
  | [], now, h, x, hx => by
    rw [fldA] at hx
    split at hx
    · cases hx
    · rw [List.mem_singleton.1 hx]; exact ⟨‹_›, h⟩
  | c :: r, now, h, x, hx => by
    rw [fldA] at hx
    split at hx
    · split at hx
      · exact fld_free r [] (by simp) x hx
      · rcases List.mem_cons.1 hx with rfl | hx
        · exact ⟨‹_›, h⟩
        · exact fld_free r [] (by simp) x hx
    · rename_i hc
      refine fld_free r (now ++ [c]) (fun d hd => ?_) x hx
      rcases List.mem_append.1 hd with hd | hd
      · exact h d hd
      · rw [List.mem_singleton.1 hd]; simpa using hc
/-- fields over a white byte -/
theorem fld_white {b : UInt8} (hb : whiteB b = true) : ∀ (l now r : List UInt8), fldA now (l ++ b :: r) = fldA now l ++ fldA [] r
  | [], now, r => by
    have e1 : fldA now (b :: r) = if now = [] then fldA [] r else now :: fldA [] r := by rw [fldA, if_pos hb]
    have e2 : fldA now [] = if now = [] then [] else [now] := by rw [fldA]
    rw [List.nil_append, e1, e2]
    split <;> rfl
  | c :: l, now, r => by
    rw [List.cons_append, fldA, fldA]
    split
    · split
      · exact fld_white hb l [] r
      · rw [fld_white hb l [] r]; rfl
    · exact fld_white hb l _ r
theorem fields_unlines : ∀ (L : List (List UInt8)), fieldsP (unlinesP L) = L.flatMap fieldsP
  | [] => rfl
  | x :: L => by
    unfold unlinesP
    rw [List.flatMap_cons, List.append_assoc, List.flatMap_cons]
    show fldA [] (x ++ 10 :: unlinesP L) = _
    rw [fld_white (by decide)]
    have := fields_unlines L
    unfold fieldsP at this ⊢
    rw [this]
theorem fields_snoc (l : List UInt8) : fieldsP (l ++ [10]) = fieldsP l := by
  unfold fieldsP
  rw [fld_white (by decide), fldA]; simp
/-- the fields of a string are those of its lines -/
theorem fields_lines (l : List UInt8) : (linesP l).flatMap fieldsP = fieldsP l := by
  rw [← fields_unlines, unlines_lines]
  split
  · rfl
  · exact fields_snoc l
end Go.Proofs.YtkhmlicikbnmdaaDoor

/- Fields by runes are fields by bytes, if only bytes below 128 part them. -/
namespace Go.Proofs.YtkhmlicikbnmdaaDoor
open Go.Lib

def whiteR (n : Nat) : Bool := n == 32 || n == 9 || n == 10
theorem fld_skip : ∀ (x now r : List UInt8), (∀ c ∈ x, whiteB c = false) → fldA now (x ++ r) = fldA (now ++ x) r
  | [], now, r, _ => by simp
  | c :: x, now, r, h => by
    rw [List.cons_append, fldA, if_neg (by rw [h c (by simp)]; exact Bool.false_ne_true), fld_skip x (now ++ [c]) r fun d hd => h d (by simp [hd])]
    simp
theorem get_at {s : ByteArray} {i : Nat} (h : i < s.size) : s.get! i = s.data.toList[i]'(by rw [← Lib.size_eq]; exact h) := by
  have : i < s.data.size := h
  rw [Array.getElem_toList]
  show s.data[i]! = _
  rw [getElem!_pos s.data i this]
theorem decode_spec {s : ByteArray} {i : Nat} (h : i < s.size) :
    1 ≤ (Utf8.decode s i).2 ∧ i + (Utf8.decode s i).2 ≤ s.size ∧ ((Utf8.decode s i = ((s.get! i).toNat, 1) ∧ (s.get! i).toNat < 128) ∨ (128 ≤ (Utf8.decode s i).1 ∧ ∀ j, j < (Utf8.decode s i).2 → 128 ≤ (s.get! (i + j)).toNat)) := by
  unfold Utf8.decode
  simp only [Nat.add_zero]
  have e1 : (1 : Nat) = 1 := rfl
  by_cases c0 : (s.get! i).toNat < 128
  · rw [if_pos c0]
    exact ⟨Nat.le_refl _, by dsimp only; omega, .inl ⟨rfl, c0⟩⟩
  · rw [if_neg c0]
    have one : 1 ≤ (Utf8.runeError, 1).2 ∧ i + (Utf8.runeError, 1).2 ≤ s.size ∧ (((Utf8.runeError, 1) = ((s.get! i).toNat, 1) ∧ (s.get! i).toNat < 128) ∨ (128 ≤ (Utf8.runeError, 1).1 ∧ ∀ j, j < (Utf8.runeError, 1).2 → 128 ≤ (s.get! (i + j)).toNat)) := by
      refine ⟨by decide, by dsimp only; omega, .inr ⟨by decide, fun j hj => ?_⟩⟩
      have : j = 0 := by simpa using hj
      subst this
      simpa using c0
    have hc : ∀ k, (decide (i + k < s.size) && (s.get! (i + k)).toNat / 64 == 2) = true → i + k < s.size ∧ 128 ≤ (s.get! (i + k)).toNat := fun k hk => by
      rw [Bool.and_eq_true, decide_eq_true_eq, beq_iff_eq] at hk
      exact ⟨hk.1, by omega⟩
    split
    · rename_i h2
      rw [Bool.and_eq_true] at h2
      obtain ⟨-, h2⟩ := h2
      obtain ⟨g1, g2⟩ := hc 1 h2
      split
      · rename_i h3
        refine ⟨by dsimp only; omega, by dsimp only; omega, .inr ⟨by dsimp only; omega, fun j hj => ?_⟩⟩
        dsimp only at hj
        obtain rfl | rfl : j = 0 ∨ j = 1 := by omega
        · simpa using c0
        · exact g2
      · exact one
    · split
      · rename_i h2
        rw [Bool.and_eq_true, Bool.and_eq_true] at h2
        obtain ⟨⟨-, h2⟩, h3⟩ := h2
        obtain ⟨g1, g2⟩ := hc 1 h2
        obtain ⟨g3, g4⟩ := hc 2 h3
        split
        · rename_i h4
          rw [Bool.and_eq_true, decide_eq_true_eq] at h4
          refine ⟨by dsimp only; omega, by dsimp only; omega, .inr ⟨by dsimp only; omega, fun j hj => ?_⟩⟩
          dsimp only at hj
          obtain rfl | rfl | rfl : j = 0 ∨ j = 1 ∨ j = 2 := by omega
          · simpa using c0
          · exact g2
          · exact g4
        · exact one
      · split
        · rename_i h2
          rw [Bool.and_eq_true, Bool.and_eq_true, Bool.and_eq_true] at h2
          obtain ⟨⟨⟨-, h2⟩, h3⟩, h5⟩ := h2
          obtain ⟨g1, g2⟩ := hc 1 h2
          obtain ⟨g3, g4⟩ := hc 2 h3
          obtain ⟨g5, g6⟩ := hc 3 h5
          split
          · rename_i h4
            rw [Bool.and_eq_true, decide_eq_true_eq] at h4
            refine ⟨by dsimp only; omega, by dsimp only; omega, .inr ⟨by dsimp only; omega, fun j hj => ?_⟩⟩
            dsimp only at hj
            obtain rfl | rfl | rfl | rfl : j = 0 ∨ j = 1 ∨ j = 2 ∨ j = 3 := by omega
            · simpa using c0
            · exact g2
            · exact g4
            · exact g6
          · exact one
        · exact one
/-- the bytes of a stretch -/
def cutB (s : ByteArray) (a b : Nat) : List UInt8 := (s.data.toList.drop a).take (b - a)
theorem cut_snoc {s : ByteArray} {a p w : Nat} (h : a ≤ p) : cutB s a p ++ cutB s p (p + w) = cutB s a (p + w) := by
  unfold cutB
  have e : (s.data.toList.drop a).take (p + w - a) = (s.data.toList.drop a).take (p - a) ++ ((s.data.toList.drop a).drop (p - a)).take w := by
    rw [show p + w - a = p - a + w by omega, List.take_add]
  rw [e, List.drop_drop, show a + (p - a) = p by omega, Nat.add_sub_cancel_left]
theorem cut_ne {s : ByteArray} {a b : Nat} (h : a < b) (hb : b ≤ s.size) : cutB s a b ≠ [] := fun e => by
  have := congrArg List.length e
  unfold cutB at this
  rw [List.length_take, List.length_drop, ← Lib.size_eq] at this
  simp at this; omega
theorem spans_step {s : ByteArray} {pos : Nat} (f : Nat) (acc : List (Nat × Nat)) (st : Option Nat) (hp : pos < s.size) : spansFromP whiteR s (f + 1) pos st acc = (if whiteR (Utf8.decode s pos).1 then
        (match st with
         | some a => spansFromP whiteR s f (pos + (Utf8.decode s pos).2) none (acc ++ [(a, pos)])
         | none => spansFromP whiteR s f (pos + (Utf8.decode s pos).2) none acc)
       else
        (match st with
         | some a => spansFromP whiteR s f (pos + (Utf8.decode s pos).2) (some a) acc
         | none => spansFromP whiteR s f (pos + (Utf8.decode s pos).2) (some pos) acc)) := by
  conv => lhs; unfold spansFromP
  rw [if_pos hp]
  cases st <;> rfl
theorem fields_run (s : ByteArray) : ∀ (f pos : Nat) (st : Option Nat) (acc : List (Nat × Nat)), pos ≤ s.size → s.size ≤ f + pos → (∀ a, st = some a → a < pos) →
    (closeSpans s (spansFromP whiteR s f pos st acc)).map (fun x => cutB s x.1 x.2) = acc.map (fun x => cutB s x.1 x.2) ++ fldA (match st with | none => [] | some a => cutB s a pos) (s.data.toList.drop pos) := fun f => by
  have fin : ∀ (pos : Nat) (st : Option Nat) (acc : List (Nat × Nat)), pos = s.size → (∀ a, st = some a → a < pos) → (closeSpans s (acc, st)).map (fun x => cutB s x.1 x.2) = acc.map (fun x => cutB s x.1 x.2) ++ fldA (match st with | none => [] | some a => cutB s a pos) (s.data.toList.drop pos) := fun pos st acc hp hst => by
    rw [hp, List.drop_of_length_le (by rw [← Lib.size_eq]; exact Nat.le_refl _)]
    cases st with
    | none => simp [closeSpans, fldA]
    | some a =>
      have := hst a rfl
      unfold closeSpans
      dsimp only
      rw [fldA, if_neg (cut_ne (by omega) (Nat.le_refl _)), List.map_append]; rfl
  induction f with
  | zero =>
    intro pos st acc h1 h2 h3
    exact fin pos st acc (by omega) h3
  | succ f ih =>
    intro pos st acc h1 h2 h3
    by_cases hp : pos < s.size
    · rw [spans_step f acc st hp]
      obtain ⟨d1, d2, d3⟩ := decode_spec hp
      have hpl : pos < s.data.toList.length := by rw [← Lib.size_eq]; exact hp
      have hget := get_at hp
      rcases d3 with ⟨d3, d4⟩ | ⟨d3, d4⟩
      · -- one byte
        rw [d3]
        dsimp only
        have hdrop : s.data.toList.drop pos = s.data.toList[pos] :: s.data.toList.drop (pos + 1) := List.drop_eq_getElem_cons hpl
        have hw : whiteR (s.get! pos).toNat = whiteB s.data.toList[pos] := by
          rw [hget]
          unfold whiteR whiteB
          have e : ∀ (c : UInt8) (k : UInt8), (c.toNat == k.toNat) = (c == k) := fun c k => by
            rw [Bool.eq_iff_iff, beq_iff_eq, beq_iff_eq]; exact UInt8.toNat_inj
          rw [← e _ 32, ← e _ 9, ← e _ 10]; rfl
        rw [hw, hdrop, fldA]
        cases hb : whiteB s.data.toList[pos] with
        | true =>
          rw [if_pos rfl, if_pos rfl]
          cases st with
          | none => 
            dsimp only
            rw [if_pos rfl, ih _ _ _ (by omega) (by omega) (by simp)]
          | some a =>
            have ha := h3 a rfl
            dsimp only
            rw [if_neg (cut_ne ha h1), ih _ _ _ (by omega) (by omega) (by simp), List.map_append, List.append_assoc]; rfl
        | false =>
          rw [if_neg Bool.false_ne_true, if_neg Bool.false_ne_true]
          have hone : cutB s pos (pos + 1) = [s.data.toList[pos]] := by
            unfold cutB; rw [hdrop, Nat.add_sub_cancel_left]; rfl
          cases st with
          | none =>
            dsimp only
            rw [ih _ _ _ (by omega) (by omega) (by rintro a ⟨⟩; omega), List.nil_append, ← hone]
          | some a =>
            have ha := h3 a rfl
            dsimp only
            rw [ih _ _ _ (by omega) (by omega) (by rintro b ⟨⟩; omega), ← hone, cut_snoc (by omega)]
      · -- a rune of bytes from 128 on
        have hw : whiteR (Utf8.decode s pos).1 = false := by
          unfold whiteR
          rw [Bool.or_eq_false_iff, Bool.or_eq_false_iff, beq_eq_false_iff_ne, beq_eq_false_iff_ne, beq_eq_false_iff_ne]
          omega
        rw [hw, if_neg Bool.false_ne_true]
        generalize (Utf8.decode s pos).2 = w at d1 d2 d4
        have hsplit : s.data.toList.drop pos = cutB s pos (pos + w) ++ s.data.toList.drop (pos + w) := by
          unfold cutB
          rw [Nat.add_sub_cancel_left, ← List.drop_drop]
          exact (List.take_append_drop _ _).symm
        have hfree : ∀ c ∈ cutB s pos (pos + w), whiteB c = false := fun c hc => by
          obtain ⟨j, hj, rfl⟩ := List.getElem_of_mem hc
          unfold cutB at hj ⊢
          rw [List.length_take, List.length_drop, ← Lib.size_eq, Nat.add_sub_cancel_left] at hj
          rw [List.getElem_take, List.getElem_drop]
          have h5 := d4 j (by omega)
          rw [get_at (by omega)] at h5
          unfold whiteB
          rw [Bool.or_eq_false_iff, Bool.or_eq_false_iff, beq_eq_false_iff_ne, beq_eq_false_iff_ne, beq_eq_false_iff_ne]
          refine ⟨⟨?_, ?_⟩, ?_⟩ <;> (intro e; rw [e] at h5; exact absurd h5 (by decide))
        rw [hsplit, fld_skip _ _ _ hfree]
        cases st with
        | none =>
          dsimp only
          rw [ih _ _ _ d2 (by omega) (by rintro a ⟨⟩; omega)]; rfl
        | some a =>
          have ha := h3 a rfl
          dsimp only
          rw [ih _ _ _ d2 (by omega) (by rintro b ⟨⟩; omega), cut_snoc (by omega)]
    · rw [spansFromP_end _ _ _ _ _ _ hp]
      exact fin pos st acc (by omega) h3
theorem fields_goP (s : ByteArray) : (goFieldsP whiteR s).map (·.data.toList) = fieldsP s.data.toList := by
  have := fields_run s s.size 0 none [] (Nat.zero_le _) (by omega) (by simp)
  simp only [List.map_nil, List.nil_append, List.drop_zero] at this
  unfold goFieldsP spansOfP fieldsP
  rw [← this, List.map_map]
  refine List.map_congr_left fun x _ => ?_
  simp only [Function.comp]
  unfold cutB
  rw [ByteArray.data_extract, Array.toList_extract, List.extract_eq_take_drop]
end Go.Proofs.YtkhmlicikbnmdaaDoor

/- From contracts at worlds to abstract ones, and back. -/
namespace Go.Proofs.YtkhmlicikbnmdaaDoor
open Go.RowKit Go.Lib

mutual
def D.av : D → AV
  | .int n => .v (.int .i64 n)
  | .bool b => .v (.bool b)
  | .str s => .v (.string s)
  | .st l => .agg (D.cs l)
  | .sl l => .sl (D.avs l)
def D.cs : List D → List AV
  | [] => []
  | .st l' :: l => D.cs l' ++ D.cs l
  | .int n :: l => .v (.int .i64 n) :: D.cs l
  | .bool b :: l => .v (.bool b) :: D.cs l
  | .str s :: l => .v (.string s) :: D.cs l
  | .sl l' :: l => .sl (D.avs l') :: D.cs l
def D.avs : List D → List AV
  | [] => []
  | d :: l => d.av :: D.avs l
end
theorem D.avs_map : ∀ l : List D, D.avs l = l.map D.av
  | [] => by rw [D.avs]; rfl
  | d :: l => by rw [D.avs, D.avs_map l]; rfl
theorem D.cs_cons (d : D) (l : List D) : D.cs (d :: l) = (match d with | .st l' => D.cs l' | d => [d.av]) ++ D.cs l := by
  cases d <;> simp [D.cs, D.av]
mutual
theorem D.av_width : ∀ d : D, d.av.width = d.width
  | .int _ => by rw [D.av]; rfl
  | .bool _ => by rw [D.av]; rfl
  | .str _ => by rw [D.av]; rfl
  | .st l => by rw [D.av, D.width]; exact D.cs_len l
  | .sl _ => by rw [D.av]; rfl
theorem D.cs_len : ∀ l : List D, (D.cs l).length = D.widths l
  | [] => by rw [D.cs]; rfl
  | .st l' :: l => by rw [D.cs, List.length_append, D.cs_len l', D.cs_len l, D.widths, D.width]
  | .int n :: l => by rw [D.cs, List.length_cons, D.cs_len l, D.widths, D.width]; omega
  | .bool b :: l => by rw [D.cs, List.length_cons, D.cs_len l, D.widths, D.width]; omega
  | .str s :: l => by rw [D.cs, List.length_cons, D.cs_len l, D.widths, D.width]; omega
  | .sl l' :: l => by rw [D.cs, List.length_cons, D.cs_len l, D.widths, D.width]; omega
end
theorem R1s.split {X : St} : ∀ {a b : List AV} {cs : List Value}, R1s X (a ++ b) cs → ∃ c1 c2, cs = c1 ++ c2 ∧ R1s X a c1 ∧ R1s X b c2
  | [], b, cs, h => ⟨[], cs, rfl, by rw [R1s], h⟩
  | x :: a, b, cs, h => by
    rw [List.cons_append, R1s] at h
    obtain ⟨v, vs, rfl, h0, h1, h2⟩ := h
    obtain ⟨c1, c2, rfl, h3, h4⟩ := h2.split
    exact ⟨v :: c1, c2, rfl, by rw [R1s]; exact ⟨v, c1, rfl, h0, h1, h3⟩, h4⟩

mutual
theorem rd_of_rc {X : St} : ∀ (d : D) (cs : List Value), RC X d.av cs → Rd X.w Any d cs
  | .int n, cs, h => by rw [D.av, RC] at h; rw [Rd]; exact h
  | .bool n, cs, h => by rw [D.av, RC] at h; rw [Rd]; exact h
  | .str n, cs, h => by rw [D.av, RC] at h; rw [Rd]; exact h
  | .st l, cs, h => by rw [D.av, RC] at h; rw [Rd]; exact rdS_of_r1s l cs h
  | .sl l, cs, h => by
    rw [D.av, RC] at h; rw [Rd]
    obtain ⟨A, cap, b, off, h1, h2, h3, h4, h5⟩ := h
    have hl : (D.avs l).length = l.length := by rw [D.avs_map]; simp
    rw [hl] at h1 h2 h4
    exact ⟨A, cap, b, off, h1, h2, h3, fun h => ⟨h4 h, trivial⟩, rdM_of_rm l b off h5⟩
theorem rdS_of_r1s {X : St} : ∀ (l : List D) (cs : List Value), R1s X (D.cs l) cs → RdS X.w Any l cs
  | [], cs, h => by rw [D.cs, R1s] at h; rw [RdS]; exact h
  | .st l' :: l, cs, h => by
    rw [D.cs] at h
    obtain ⟨c1, c2, rfl, h1, h2⟩ := h.split
    rw [RdS]
    exact ⟨c1, c2, rfl, by rw [Rd]; exact rdS_of_r1s l' c1 h1, rdS_of_r1s l c2 h2⟩
  | .int n :: l, cs, h => by
    rw [D.cs, R1s] at h
    obtain ⟨v, vs, rfl, h0, h1, h2⟩ := h
    rw [RdS]; rw [RC] at h1
    exact ⟨[v], vs, rfl, by rw [Rd]; exact h1, rdS_of_r1s l vs h2⟩
  | .bool n :: l, cs, h => by
    rw [D.cs, R1s] at h
    obtain ⟨v, vs, rfl, h0, h1, h2⟩ := h
    rw [RdS]; rw [RC] at h1
    exact ⟨[v], vs, rfl, by rw [Rd]; exact h1, rdS_of_r1s l vs h2⟩
  | .str n :: l, cs, h => by
    rw [D.cs, R1s] at h
    obtain ⟨v, vs, rfl, h0, h1, h2⟩ := h
    rw [RdS]; rw [RC] at h1
    exact ⟨[v], vs, rfl, by rw [Rd]; exact h1, rdS_of_r1s l vs h2⟩
  | .sl l' :: l, cs, h => by
    rw [D.cs, R1s] at h
    obtain ⟨v, vs, rfl, h0, h1, h2⟩ := h
    rw [RdS]
    refine ⟨[v], vs, rfl, ?_, rdS_of_r1s l vs h2⟩
    rw [RC] at h1; rw [Rd]
    obtain ⟨A, cap, b, off, h3, h4, h5, h6, h7⟩ := h1
    have hl : (D.avs l').length = l'.length := by rw [D.avs_map]; simp
    rw [hl] at h3 h4 h6
    exact ⟨A, cap, b, off, h3, h4, h5, fun h => ⟨h6 h, trivial⟩, rdM_of_rm l' b off h7⟩
theorem rdM_of_rm {X : St} : ∀ (l : List D) (b off : Nat), RM X (D.avs l) b off → RdM X.w Any l b off
  | [], _, _, _ => by rw [RdM]; trivial
  | d :: l, b, off, h => by
    rw [D.avs, RM] at h; rw [RdM]
    obtain ⟨⟨cs, h1, h2⟩, h3⟩ := h
    rw [D.av_width] at h3
    exact ⟨⟨cs, h1.at, rd_of_rc d cs h2⟩, rdM_of_rm l b _ h3⟩
end

theorem cellsS_of_at {X : St} {b : Nat} (hS : ∀ o v, X.w.cell? ⟨b, o, none⟩ = some v → X.S b o) : ∀ {cs : List Value} {off : Nat}, CellsAt X.w b off cs → CellsS X b off cs
  | [], _, _ => trivial
  | _ :: _, _, h => ⟨h.1, hS _ _ h.1, cellsS_of_at hS h.2⟩
mutual
theorem rc_of_rd {X : St} {S : Nat → Prop} (hS : ∀ b o v, S b → X.w.cell? ⟨b, o, none⟩ = some v → X.S b o) : ∀ (d : D) (cs : List Value), Rd X.w S d cs → RC X d.av cs
  | .int n, cs, h => by rw [Rd] at h; rw [D.av, RC]; exact h
  | .bool n, cs, h => by rw [Rd] at h; rw [D.av, RC]; exact h
  | .str n, cs, h => by rw [Rd] at h; rw [D.av, RC]; exact h
  | .st l, cs, h => by rw [Rd] at h; rw [D.av, RC]; exact r1s_of_rdS hS l cs h
  | .sl l, cs, h => by
    rw [Rd] at h; rw [D.av, RC]
    obtain ⟨A, cap, b, off, h1, h2, h3, h4, h5⟩ := h
    have hl : (D.avs l).length = l.length := by rw [D.avs_map]; simp
    rw [hl]
    refine ⟨A, cap, b, off, h1, h2, h3, fun h => (h4 h).1, ?_⟩
    cases l with
    | nil => rw [D.avs, RM]; trivial
    | cons d l => exact rm_of_rdM hS (d :: l) b off (h4 (by simp)).2 h5
theorem r1s_of_rdS {X : St} {S : Nat → Prop} (hS : ∀ b o v, S b → X.w.cell? ⟨b, o, none⟩ = some v → X.S b o) : ∀ (l : List D) (cs : List Value), RdS X.w S l cs → R1s X (D.cs l) cs
  | [], cs, h => by rw [RdS] at h; rw [D.cs, R1s]; exact h
  | .st l' :: l, cs, h => by
    rw [RdS] at h
    obtain ⟨c1, c2, rfl, h1, h2⟩ := h
    rw [Rd] at h1
    rw [D.cs]
    exact (r1s_of_rdS hS l' c1 h1).append (r1s_of_rdS hS l c2 h2)
  | .int n :: l, cs, h => by
    rw [RdS] at h
    obtain ⟨c1, c2, rfl, h1, h2⟩ := h
    rw [Rd] at h1; subst h1
    rw [D.cs, R1s]
    exact ⟨_, c2, rfl, rfl, by rw [RC], r1s_of_rdS hS l c2 h2⟩
  | .bool n :: l, cs, h => by
    rw [RdS] at h
    obtain ⟨c1, c2, rfl, h1, h2⟩ := h
    rw [Rd] at h1; subst h1
    rw [D.cs, R1s]
    exact ⟨_, c2, rfl, rfl, by rw [RC], r1s_of_rdS hS l c2 h2⟩
  | .str n :: l, cs, h => by
    rw [RdS] at h
    obtain ⟨c1, c2, rfl, h1, h2⟩ := h
    rw [Rd] at h1; subst h1
    rw [D.cs, R1s]
    exact ⟨_, c2, rfl, rfl, by rw [RC], r1s_of_rdS hS l c2 h2⟩
  | .sl l' :: l, cs, h => by
    rw [RdS] at h
    obtain ⟨c1, c2, rfl, h1, h2⟩ := h
    rw [Rd] at h1
    obtain ⟨A, cap, b, off, rfl, h4, h5, h6, h7⟩ := h1
    rw [D.cs, R1s]
    refine ⟨_, c2, rfl, rfl, ?_, r1s_of_rdS hS l c2 h2⟩
    have hl : (D.avs l').length = l'.length := by rw [D.avs_map]; simp
    rw [RC, hl]
    refine ⟨A, cap, b, off, rfl, h4, h5, fun h => (h6 h).1, ?_⟩
    cases l' with
    | nil => rw [D.avs, RM]; trivial
    | cons d l' => exact rm_of_rdM hS (d :: l') b off (h6 (by simp)).2 h7
theorem rm_of_rdM {X : St} {S : Nat → Prop} (hS : ∀ b o v, S b → X.w.cell? ⟨b, o, none⟩ = some v → X.S b o) : ∀ (l : List D) (b off : Nat), S b → RdM X.w S l b off → RM X (D.avs l) b off
  | [], _, _, _, _ => by rw [D.avs, RM]; trivial
  | d :: l, b, off, hb, h => by
    rw [RdM] at h; rw [D.avs, RM]
    obtain ⟨⟨cs, h1, h2⟩, h3⟩ := h
    rw [D.av_width]
    exact ⟨⟨cs, cellsS_of_at (fun o v => hS b o v hb) h1, rc_of_rd hS d cs h2⟩, rm_of_rdM hS l b _ hb h3⟩
end

theorem later_rc {X : St} {w : World} {d : D} {cs : List Value} (h : Rd w (fun b => X.w.heap.size ≤ b ∧ b < w.heap.size) d cs) : RC (X.later w) d.av cs :=
  rc_of_rd (X := X.later w) (S := fun b => X.w.heap.size ≤ b ∧ b < w.heap.size) (fun _ _ _ hb _ => .inr hb) d cs h
theorem gives_of {P : Program} {f : FuncId} {args : List AV} {x : AV} (h : ∀ X vals, RRl X args vals → Calls P f vals.toArray X.w fun r w' => Ext X.w w' ∧ ∃ v, r = .returned v ∧ RR (X.later w') x v) : Gives P f args x := by
  intro σ X vals nx hS hσ hfin hargs
  refine (h X vals hargs).mono ?_
  rintro r w' ⟨he, v, rfl, hR⟩
  exact ⟨X.later w', v, x, rfl, rfl, ⟨rfl, hσ⟩, later_sr hS he, later_fr hS he, hR⟩
theorem gives_v {P : Program} {f : FuncId} {args : List AV} {u : Value} (h : ∀ X vals, RRl X args vals → Calls P f vals.toArray X.w fun r w' => r = .returned u ∧ Ext X.w w') : Gives P f args (.v u) :=
  gives_of fun X vals ha => (h X vals ha).mono fun _ _ ⟨h1, h2⟩ => ⟨h2, u, h1, RR.v.2 rfl⟩

/-- back: in a world where nothing is the call's own -/
def St.flat (w : World) : St := { w := w, μ := fun _ => undef, S := fun b _ => b < w.heap.size, σ := fun _ => .unborn }
theorem flat_sr (w : World) (hg : globsOk (GlobS (St.flat w))) : SR (St.flat w) where
  block := fun _ => trivial
  alone := fun r r' b h _ => by cases h
  apart := fun r b o h _ => by cases h
  old := fun _ _ h => h
  glob := hg
theorem flat_rc {w : World} {S : Nat → Prop} {d : D} {cs : List Value} (h : Rd w S d cs) : RC (St.flat w) d.av cs :=
  rc_of_rd (X := St.flat w) (S := S) (fun _ _ _ _ hc => World.block_lt_of_cell? w _ hc) d cs h
theorem calls_of_gives {P : Program} {f : FuncId} {args : List AV} {u : Value} {w : World} {vals : List Value} (h : Gives P f args (.v u)) (ha : RRl (St.flat w) args vals) (hg : globsOk (GlobS (St.flat w)) := by exact trivial) : Calls P f vals.toArray w fun r w' => r = .returned u ∧ Ext w w' := by
  refine (h _ (St.flat w) vals 0 (flat_sr w hg) rfl (fun _ _ => rfl) ha).mono ?_
  rintro e w' ⟨Y, v, x, rfl, rfl, ⟨rfl, -⟩, hS, hF, hR⟩
  rw [RR.v] at hR
  subst hR
  exact ⟨rfl, hF.os, hF.tape, hF.output, hF.size, fun k hk => hF.keep k hk fun r hr => by cases hr⟩
end Go.Proofs.YtkhmlicikbnmdaaDoor
