/- Tokens, on plain data: what is written of tokens is read as them. -/
import Derived.Test.YtkhmlicikbnmdaaDoorGa19
set_option linter.unusedSimpArgs false
set_option linter.unusedVariables false
namespace Go.Proofs.YtkhmlicikbnmdaaDoor
open Go.RowKit Go.Lib

def wr1 (t : Tk) : List UInt8 := if t.kind = 5 then [] else if t.kind = 4 then [10] else wtext t ++ [32]
def writeP (L : List (Tk × Nat)) : List UInt8 := L.flatMap fun x => wr1 x.1
theorem writeP_cons (x : Tk × Nat) (L : List (Tk × Nat)) : writeP (x :: L) = wr1 x.1 ++ writeP L := by unfold writeP; rw [List.flatMap_cons]
theorem skip_self {l : List UInt8} (h : ∀ c, l.head? = some c → whiteC c = false ∧ c ≠ 35) : skipP false l = l := by
  cases l with
  | nil => rfl
  | cons c r =>
    obtain ⟨h1, h2⟩ := h c rfl
    rw [skipP, if_neg (by rw [h1]; simp), if_neg h2]
theorem lex_white (g : Nat) (r : List UInt8) (h m : Nat) (c : UInt8) (hc : whiteC c = true) : lexF (g + 1) (c :: r) h m = lexF (g + 1) r h m := by
  rw [lex_step, lex_step, show skipP false (c :: r) = skipP false r by rw [skipP, if_pos hc]]
theorem lex_back : ∀ (n : Nat) (l : List UInt8), l.length ≤ n → ∀ (f g h m : Nat) (L : List (Tk × Nat)), l.length < f → (writeP L).length < g → lexF f l h m = .ok L → lexF g (writeP L) h m = .ok L := fun n => by
  induction n with
  | zero =>
    intro l hl f g h m L hf hg hL
    have : l = [] := List.eq_nil_of_length_eq_zero (by omega)
    subst this
    obtain ⟨f, rfl⟩ : ∃ f', f = f' + 1 := ⟨f - 1, by omega⟩
    obtain ⟨g, rfl⟩ : ∃ g', g = g' + 1 := ⟨g - 1, by omega⟩
    have hL2 := hL
    rw [lex_step, show skipP false [] = [] from rfl, tok_nil] at hL
    split at hL
    · cases hL
    · cases hL
      show lexF (g + 1) [] h m = _
      rw [lexF_any 0 [] (Nat.le_refl _) (g + 1) (f + 1) h m (by simp) (by simp)]
      exact hL2
  | succ n ih =>
    intro l hl f g h m L hf hg hL
    obtain ⟨f, rfl⟩ : ∃ f', f = f' + 1 := ⟨f - 1, by omega⟩
    obtain ⟨g, rfl⟩ : ∃ g', g = g' + 1 := ⟨g - 1, by omega⟩
    rw [lex_step] at hL
    by_cases h3 : h ≥ 3000
    · rw [if_pos h3] at hL; cases hL
    · rw [if_neg h3] at hL
      by_cases hs : skipP false l = []
      · rw [hs, tok_nil] at hL
        cases hL
        show lexF (g + 1) [] h m = _
        rw [lex_step, if_neg h3, show skipP false [] = [] from rfl, tok_nil]
        rfl
      · cases ht : tokP (skipP false l) with
        | error e => rw [ht] at hL; cases hL
        | ok tk =>
          obtain ⟨t, k⟩ := tk
          rw [ht] at hL
          obtain ⟨h1, h2, h5⟩ := tok_self hs ht
          obtain ⟨o1, o2, o3⟩ := tok_own hs ht
          dsimp only at hL
          rw [if_neg h5] at hL
          have hsl := skip_len false l
          cases hr : lexF f ((skipP false l).drop k) (h + 1) (if t.kind = 4 then m + 1 else m) with
          | error e => rw [hr] at hL; cases hL
          | ok M =>
            rw [hr] at hL
            cases hL
            rw [writeP_cons, List.length_append] at hg
            rw [writeP_cons]
            by_cases h4 : t.kind = 4
            · have hw : wr1 t = [10] := by unfold wr1; rw [if_neg h5, if_pos h4]
              have hwt : wtext t = [10] := by unfold wtext; rw [if_neg (by omega), if_pos h4]
              have ht4 : t = ⟨4, [], 0⟩ := by
                rw [hwt, tokP, if_neg (by decide), if_neg (by decide), if_pos rfl] at o1
                cases o1; rfl
              rw [hw] at hg ⊢
              simp only [List.length_singleton] at hg
              have hI := ih ((skipP false l).drop k) (by rw [List.length_drop]; omega) f g (h + 1) _ M (by rw [List.length_drop]; omega) (by omega) hr
              rw [lex_step, if_neg h3, List.cons_append, List.nil_append, skip_lf, tokP, if_neg (by decide), if_neg (by decide), if_pos rfl]
              dsimp only
              rw [if_neg (by decide), if_pos rfl, List.drop_succ_cons, List.drop_zero]
              rw [if_pos h4] at hI
              rw [hI, ht4]
            · have hw : wr1 t = wtext t ++ [32] := by unfold wr1; rw [if_neg h5, if_neg h4]
              rw [hw] at hg ⊢
              simp only [List.length_append, List.length_singleton] at hg
              obtain ⟨w1, w2, w3, -⟩ := tok_app (x := 32 :: writeP M) (fun c hc => by cases hc; exact .inl rfl) o2 o1
              obtain ⟨g2, rfl⟩ : ∃ g', g = g' + 1 := ⟨g - 1, by omega⟩
              have hI := ih ((skipP false l).drop k) (by rw [List.length_drop]; omega) f (g2 + 1) (h + 1) _ M (by rw [List.length_drop]; omega) (by omega) hr
              have hsk : skipP false (wtext t ++ 32 :: writeP M) = wtext t ++ 32 :: writeP M := skip_self fun c hc => o3 c (by
                obtain ⟨d, r, hd⟩ := List.exists_cons_of_ne_nil o2
                rw [hd] at hc ⊢
                exact hc)
              rw [List.append_assoc, List.singleton_append, lex_step, if_neg h3, hsk, w1]
              dsimp only
              rw [if_neg h5, List.drop_left, lex_white _ _ _ _ _ (by decide), hI]
end Go.Proofs.YtkhmlicikbnmdaaDoor

/- Tokens, on plain data: what holds of the tokens of any text. -/
namespace Go.Proofs.YtkhmlicikbnmdaaDoor
open Go.RowKit Go.Lib

/-- what holds of a token -/
structure OkTk (t : Tk) : Prop where
  kind : t.kind ≤ 4
  zero : t.kind ≠ 1 → t.n = 0
  word : t.kind = 0 → t.text ≠ [] ∧ t.text.length ≤ 20 ∧ (∀ c ∈ t.text, partC c = true) ∧ ∀ c, t.text.head? = some c → digitC c = false
  num : t.kind = 1 → intP t.text = some t.n ∧ 0 ≤ t.n
  str : t.kind = 2 → t.text.length ≤ 200
theorem takeW_all {f : UInt8 → Bool} : ∀ (l : List UInt8), ∀ c ∈ l.takeWhile f, f c = true
  | [], c, h => by cases h
  | d :: l, c, h => by
    rw [List.takeWhile_cons] at h
    split at h
    · rcases List.mem_cons.1 h with rfl | h
      · assumption
      · exact takeW_all l c h
    · cases h
theorem digits_nn {l : List UInt8} {n : Int} (hl : l.all digitC = true) (h : intP l = some n) : 0 ≤ n := by
  obtain ⟨hi, rfl⟩ := intP_iff.1 h
  rcases Int.lt_or_le n 0 with hn | hn
  · exfalso
    have e : itoa n = 45 :: decDigits n.natAbs := by unfold itoa; rw [if_pos hn]
    rw [e, List.all_cons] at hl
    have : digitC 45 = false := by decide
    rw [this] at hl
    cases hl
  · exact hn
theorem tok_ok {l : List UInt8} {t : Tk} {k : Nat} (hl : l ≠ []) (h : tokP l = .ok (t, k)) : OkTk t := by
  obtain ⟨c, r, rfl⟩ := List.exists_cons_of_ne_nil hl
  rw [tokP] at h
  by_cases hp : partC c = true
  · rw [if_pos hp] at h
    have hall := takeW_all (f := partC) (c :: r)
    have hc : (c :: r).takeWhile partC = c :: r.takeWhile partC := by rw [List.takeWhile_cons, if_pos hp]
    rw [hc] at h hall
    cases hwt : wordTk (c :: r.takeWhile partC) with
    | error e => rw [hwt] at h; cases h
    | ok u =>
      rw [hwt] at h
      cases h
      rw [wordTk] at hwt
      by_cases hd : digitC c = true
      · rw [if_pos hd] at hwt
        split at hwt
        · cases hwt
        · rename_i hb
          have hdig : (c :: r.takeWhile partC).all digitC = true := by
            cases hx : (c :: r.takeWhile partC).all digitC with
            | true => rfl
            | false => exact absurd (.inl hx) hb
          cases hi : intP (c :: r.takeWhile partC) with
          | none => rw [hi] at hwt; cases hwt
          | some n =>
            rw [hi] at hwt
            cases hwt
            exact ⟨by simp, fun h => absurd rfl h, fun h => by simp at h, fun _ => ⟨hi, digits_nn hdig hi⟩, fun h => by simp at h⟩
      · rw [if_neg hd] at hwt
        split at hwt
        · cases hwt
        · rename_i hlen
          cases hwt
          exact ⟨by simp, fun _ => rfl, fun _ => ⟨by simp, by simpa using hlen, hall, fun d hd2 => by cases hd2; simpa using hd⟩, fun h => by simp at h, fun h => by simp at h⟩
  · rw [if_neg hp] at h
    by_cases h34 : c = 34
    · rw [if_pos h34] at h
      cases hq : quoteI r with
      | none => rw [hq] at h; cases h
      | some j =>
        rw [hq] at h
        dsimp only at h
        cases hu : unqP hxP ((c :: r).take (j + 2)) with
        | none => rw [hu] at h; cases h
        | some u =>
          rw [hu] at h
          dsimp only at h
          split at h
          · cases h
          · rename_i hlen
            cases h
            exact ⟨by simp, fun _ => rfl, fun h => by simp at h, fun h => by simp at h, fun _ => by simpa using hlen⟩
    · rw [if_neg h34] at h
      by_cases h10 : c = 10
      · rw [if_pos h10] at h
        cases h
        exact ⟨by simp, fun _ => rfl, fun h => by simp at h, fun h => by simp at h, fun h => by simp at h⟩
      · rw [if_neg h10] at h
        by_cases h0 : operI (c :: r) = 0
        · rw [if_pos h0] at h; cases h
        · rw [if_neg h0] at h
          cases h
          exact ⟨by simp, fun _ => rfl, fun h => by simp at h, fun h => by simp at h, fun h => by simp at h⟩
/-- tokens in a row, from a line on -/
def OkToks : List (Tk × Nat) → Nat → Prop
  | [], _ => False
  | [x], m => x = (⟨5, [], 0⟩, m)
  | x :: L, m => x.2 = m ∧ OkTk x.1 ∧ OkToks L (if x.1.kind = 4 then m + 1 else m)
theorem okToks_cons {x : Tk × Nat} {L : List (Tk × Nat)} {m : Nat} (hL : L ≠ []) : OkToks (x :: L) m ↔ x.2 = m ∧ OkTk x.1 ∧ OkToks L (if x.1.kind = 4 then m + 1 else m) := by
  cases L with
  | nil => exact absurd rfl hL
  | cons y L => rw [OkToks]; intro h; cases h
theorem lex_ok : ∀ (n : Nat) (l : List UInt8), l.length ≤ n → ∀ (f h m : Nat) (L : List (Tk × Nat)), l.length < f → lexF f l h m = .ok L → L ≠ [] ∧ OkToks L m ∧ L.length ≤ l.length + 1 := fun n => by
  induction n with
  | zero =>
    intro l hl f h m L hf hL
    have : l = [] := List.eq_nil_of_length_eq_zero (by omega)
    subst this
    obtain ⟨f, rfl⟩ : ∃ f', f = f' + 1 := ⟨f - 1, by omega⟩
    rw [lex_step, show skipP false [] = [] from rfl, tok_nil] at hL
    split at hL
    · cases hL
    · cases hL
      exact ⟨by simp, by show OkToks [_] m; rw [OkToks], by simp⟩
  | succ n ih =>
    intro l hl f h m L hf hL
    obtain ⟨f, rfl⟩ : ∃ f', f = f' + 1 := ⟨f - 1, by omega⟩
    rw [lex_step] at hL
    by_cases h3 : h ≥ 3000
    · rw [if_pos h3] at hL; cases hL
    · rw [if_neg h3] at hL
      by_cases hs : skipP false l = []
      · rw [hs, tok_nil] at hL
        cases hL
        exact ⟨by simp, by show OkToks [_] m; rw [OkToks], by simp⟩
      · cases ht : tokP (skipP false l) with
        | error e => rw [ht] at hL; cases hL
        | ok tk =>
          obtain ⟨t, k⟩ := tk
          rw [ht] at hL
          obtain ⟨h1, h2, h5⟩ := tok_self hs ht
          dsimp only at hL
          rw [if_neg h5] at hL
          have hsl := skip_len false l
          cases hr : lexF f ((skipP false l).drop k) (h + 1) (if t.kind = 4 then m + 1 else m) with
          | error e => rw [hr] at hL; cases hL
          | ok M =>
            rw [hr] at hL
            cases hL
            obtain ⟨hM, hok, hlen⟩ := ih ((skipP false l).drop k) (by rw [List.length_drop]; omega) f (h + 1) _ M (by rw [List.length_drop]; omega) hr
            rw [List.length_drop] at hlen
            exact ⟨by simp, (okToks_cons hM).2 ⟨rfl, tok_ok hs ht, hok⟩, by simp; omega⟩
end Go.Proofs.YtkhmlicikbnmdaaDoor
