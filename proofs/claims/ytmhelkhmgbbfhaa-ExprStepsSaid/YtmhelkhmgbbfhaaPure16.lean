/- What the functions of layer 16 compute, on plain data. -/
import Derived.Test.YtmhelkhmgbbfhaaData16
namespace Go.Proofs.Ytmhelkhmgbbfhaa
open Go.RowKit Go.Lib

def kindB (n : Int) : Bool := decide (0 ≤ n) && decide (n < 3)

mutual
def light : Ex → Int → Int → Int
  | .mk _ _ s l, n, lv => if n - 1 < 0 ∨ lv < 1 ∨ (s.size : Int) > 300 then -1 else lightL l (n - 1) (lv - 1)
def lightL : List Ex → Int → Int → Int
  | [], n, _ => n
  | e :: l, n, lv => if n ≥ 0 then lightL l (light e n lv) lv else n
end
mutual
theorem light_le : ∀ (e : Ex) (n lv : Int), 0 ≤ n → -1 ≤ light e n lv ∧ light e n lv ≤ n
  | .mk _ _ s l, n, lv, h => by
    rw [light]; split
    · omega
    · have := lightL_le l (n - 1) (lv - 1) (by omega); omega
theorem lightL_le : ∀ (l : List Ex) (n lv : Int), -1 ≤ n → -1 ≤ lightL l n lv ∧ lightL l n lv ≤ n
  | [], n, lv, h => by rw [lightL]; omega
  | e :: l, n, lv, h => by
    rw [lightL]; split
    · have := light_le e n lv (by omega)
      have := lightL_le l (light e n lv) lv (by omega); omega
    · omega
end

/- parts and levels -/
mutual
def levels : Ex → Int
  | .mk _ _ _ l => levelsL l 0 + 1
def levelsL : List Ex → Int → Int
  | [], n => n
  | e :: l, n => levelsL l (max n (levels e))
end
mutual
def parts : Ex → Nat
  | .mk _ _ _ l => partsL l + 1
def partsL : List Ex → Nat
  | [] => 0
  | e :: l => parts e + partsL l
end
mutual
theorem levels_le : ∀ e : Ex, 1 ≤ levels e ∧ levels e ≤ parts e
  | .mk _ _ _ l => by have := levelsL_le l 0 0 (by omega) (by omega); rw [levels, parts]; omega
theorem levelsL_le : ∀ (l : List Ex) (n : Int) (m : Nat), 0 ≤ n → n ≤ m → n ≤ levelsL l n ∧ levelsL l n ≤ m + partsL l
  | [], n, m, _, _ => by rw [levelsL, partsL]; omega
  | e :: l, n, m, h0, h => by
    have h1 := levels_le e
    have h2 := levelsL_le l (max n (levels e)) (m + parts e) (by omega) (by omega)
    rw [levelsL, partsL]; omega
end
mutual
theorem light_parts : ∀ (e : Ex) (n lv : Int), 0 ≤ n → 0 ≤ light e n lv → (parts e : Int) + light e n lv = n
  | .mk _ _ s l, n, lv, h, h2 => by
    rw [light] at h2 ⊢
    split at h2
    · omega
    · rename_i hc
      rw [if_neg hc]
      have := lightL_parts l (n - 1) (lv - 1) (by omega) h2
      rw [parts]; omega
theorem lightL_parts : ∀ (l : List Ex) (n lv : Int), 0 ≤ n → 0 ≤ lightL l n lv → (partsL l : Int) + lightL l n lv = n
  | [], n, lv, _, _ => by rw [lightL, partsL]; omega
  | e :: l, n, lv, h, h2 => by
    rw [lightL, if_pos (by omega)] at h2 ⊢
    rw [partsL]
    by_cases hp : 0 ≤ light e n lv
    · have h3 := light_parts e n lv h hp
      have h4 := lightL_parts l (light e n lv) lv hp h2
      omega
    · exfalso
      have : lightL l (light e n lv) lv = light e n lv := by
        cases l with
        | nil => rw [lightL]
        | cons x xs => rw [lightL, if_neg (by omega)]
      omega
end
theorem partsL_len : ∀ l : List Ex, l.length ≤ partsL l
  | [] => by simp
  | e :: l => by have := levels_le e; have := partsL_len l; rw [partsL, List.length_cons]; omega
theorem partsL_mem : ∀ (l : List Ex) (e : Ex), e ∈ l → parts e ≤ partsL l
  | [], _, h => by simp at h
  | x :: l, e, h => by
    rw [partsL]
    rcases List.mem_cons.1 h with rfl | h
    · omega
    · have := partsL_mem l e h; omega
theorem parts_of_light {e : Ex} {n lv : Int} (h : 0 ≤ n) (h2 : 0 ≤ light e n lv) : (parts e : Int) ≤ n := by
  have := light_parts e n lv h h2; omega

/- types -/
def pickT (l : List Int) (n : Int) : Option Int :=
  if n < 0 then none else match l[n.toNat]? with
    | some t => if kindB t then some t else none
    | none => none

def callT (F : List Fn) (n : Int) (ts : List Int) : Option Int :=
  if n < 0 then none else match F[n.toNat]? with
    | some f => if f.params = ts then some f.res else none
    | none => none

def leafT (c p : List Int) (op n : Int) (s : ByteArray) : Option Int :=
  if op = 0 then some 0
  else if op = 2 then (if n = 0 ∨ n = 1 then some 2 else none)
  else if op = 3 then pickT c n
  else if op = 4 then pickT p n
  else if op = 1 then (if n = 0 ∧ (s.size : Int) ≤ 200 then some 1 else none)
  else if op = 5 then (if n = 0 then some 0 else none)
  else none

def operT (op n : Int) (ts : List Int) : Option Int :=
  if n ≠ 0 then none
  else if op = 6 then (if ts = [2] then some 2 else none)
  else if op = 7 then (if ts = [0] then some 0 else none)
  else if op = 20 then (if ts = [1] then some 0 else none)
  else if 8 ≤ op ∧ op ≤ 12 then (if ts = [0, 0] then some 0 else none)
  else if 13 ≤ op ∧ op ≤ 16 then (match ts with | [a, b] => if a = b then some 2 else none | _ => none)
  else if 17 ≤ op ∧ op ≤ 18 then (if ts = [2, 2] then some 2 else none)
  else if op = 19 then (if ts = [1, 1] then some 1 else none)
  else if op = 21 then (match ts with | [a, b, c] => if a = 2 ∧ b = c then some c else none | _ => none)
  else none

def tailT (F : List Fn) (c p : List Int) (op n : Int) (s : ByteArray) (ts : List Int) : Option Int :=
  if s.size ≠ 0 ∧ op ≠ 1 then none
  else if op = 22 then callT F n ts
  else if ts = [] then leafT c p op n s
  else operT op n ts

mutual
def ty (F : List Fn) (c p : List Int) : Ex → Option Int
  | .mk op n s l => match tys F c p l with
    | some ts => tailT F c p op n s ts
    | none => none
def tys (F : List Fn) (c p : List Int) : List Ex → Option (List Int)
  | [] => some []
  | e :: l => match ty F c p e with
    | some t => match tys F c p l with
      | some ts => some (t :: ts)
      | none => none
    | none => none
end

/-- the type of an expression of at most MaxDepth levels -/
def tyD (F : List Fn) (c p : List Int) (e : Ex) : Option Int := if levels e > 12 then none else ty F c p e

/-- the function with that number is right -/
def okF (F : List Fn) (i : Nat) : Bool := match F[i]? with
  | some f => f.params.all kindB && decide (tyD (F.take i) [] f.params f.body = some f.res) && decide ((f.params.length : Int) ≤ 6)
  | none => true
/-- functions are right -/
def rightF (F : List Fn) : Bool := decide ((F.length : Int) ≤ 20) && (List.range F.length).all (okF F)

def typeP (F : List Fn) (c p : List Int) (e : Ex) : Option Int := if rightF F then tyD F c p e else none

/-- a type and whether it is one, as a call returns them -/
def Answer (t : Option Int) (r : Ending) : Prop := ∃ (x : Int) (b : Bool), r = .returned (.tuple #[.int .i64 x, .bool b]) ∧ (if b then some x else none) = t
/-- and zero if it is none -/
def Answer0 (t : Option Int) (r : Ending) : Prop := r = .returned (.tuple #[.int .i64 (t.getD 0), .bool t.isSome])

/- values -/
def Val.v (x : Val) : Value := .agg #[.int .i64 x.k, .int .i64 x.n, .string x.s]
def numV (n : Int) : Val := ⟨0, n, ByteArray.empty⟩
def boolV (b : Bool) : Val := ⟨2, if b then 1 else 0, ByteArray.empty⟩
def textV (s : ByteArray) : Val := ⟨1, 0, s⟩

end Go.Proofs.Ytmhelkhmgbbfhaa
