/- Tokens, on plain data: white bytes, words, texts, operators; the tokens of a source. -/
import Derived.Test.YtkhmlicikbnmdaaDoorGa10
import Derived.Test.YtkhmlicikbnmdaaDoorGa12
import Derived.Test.YtkhmlicikbnmdaaDoorGa17
import Derived.Test.YtkhmlicikbnmdaaDoorGa18
set_option linter.unusedSimpArgs false
set_option linter.unusedVariables false
namespace Go.Proofs.YtkhmlicikbnmdaaDoor
open Go.RowKit Go.Lib

/-- A token: its kind, its text, its number (the line is the place's). -/
structure Tk where
  kind : Nat
  text : List UInt8
  n : Int
  deriving DecidableEq, Inhabited
def whiteC (c : UInt8) : Bool := c == 32 || c == 9 || c == 13
def digitC (c : UInt8) : Bool := decide (48 ≤ c.toNat ∧ c.toNat ≤ 57)
def partC (c : UInt8) : Bool := decide (97 ≤ c.toNat ∧ c.toNat ≤ 122) || decide (65 ≤ c.toNat ∧ c.toNat ≤ 90) || digitC c || c == 95
/-- what is left after white bytes and comments (true: within a comment) -/
def skipP : Bool → List UInt8 → List UInt8
  | _, [] => []
  | false, c :: r => if whiteC c = true then skipP false r else if c = 35 then skipP true r else c :: r
  | true, c :: r => if c = 10 then c :: r else skipP true r
/-- the place of the quote that ends a text: the bytes after the opening quote -/
def quoteI : List UInt8 → Option Nat
  | [] => none
  | 34 :: _ => some 0
  | [92] => none
  | 92 :: _ :: r => (quoteI r).map (· + 2)
  | _ :: r => (quoteI r).map (· + 1)
def ops1 : List UInt8 := [61, 60, 62, 43, 45, 42, 47, 37, 40, 41, 44, 46, 58, 63]
/-- the length of the operator at the head -/
def operI : List UInt8 → Nat
  | [] => 0
  | c :: r => if (c = 33 ∨ c = 60 ∨ c = 62) ∧ r.head? = some 61 ∨ c = 43 ∧ r.head? = some 43 then 2 else if c ∈ ops1 then 1 else 0
/-- the token of a word or number -/
def wordTk (w : List UInt8) : Except Nat Tk :=
  match w with
  | [] => .error 11
  | c :: r => if digitC c = true then
      (if (c :: r).all digitC = false ∨ r ≠ [] ∧ c = 48 then .error 11 else match intP (c :: r) with
        | some n => .ok ⟨1, c :: r, n⟩
        | none => .error 3)
    else if (c :: r).length > 20 then .error 11 else .ok ⟨0, c :: r, 0⟩
/-- the token at the head, and how many bytes it has -/
def tokP : List UInt8 → Except Nat (Tk × Nat)
  | [] => .ok (⟨5, [], 0⟩, 0)
  | c :: r =>
    if partC c = true then (wordTk ((c :: r).takeWhile partC)).map fun t => (t, ((c :: r).takeWhile partC).length)
    else if c = 34 then (match quoteI r with
      | none => .error 11
      | some k => match unqP hxP ((c :: r).take (k + 2)) with
        | some t => if t.length > 200 then .error 11 else .ok (⟨2, t, 0⟩, k + 2)
        | none => .error 11)
    else if c = 10 then .ok (⟨4, [], 0⟩, 1)
    else if operI (c :: r) = 0 then .error 11 else .ok (⟨3, (c :: r).take (operI (c :: r)), 0⟩, operI (c :: r))
/-- the tokens with their lines, the first of which is the acc-th -/
def lexF : Nat → List UInt8 → Nat → Nat → Except (Nat × Nat) (List (Tk × Nat))
  | 0, _, _, line => .error (6, line)
  | f + 1, l, have_, line =>
    let m := skipP false l
    if have_ ≥ 3000 then .error (6, line) else
    match tokP m with
    | .error e => .error (e, line)
    | .ok (t, k) => if t.kind = 5 then .ok [(t, line)] else
      match lexF f (m.drop k) (have_ + 1) (if t.kind = 4 then line + 1 else line) with
      | .error e => .error e
      | .ok L => .ok ((t, line) :: L)
def lexP (l : List UInt8) : Except (Nat × Nat) (List (Tk × Nat)) := if l.length > 8000 then .error (6, 0) else lexF (l.length + 2) l 0 1
end Go.Proofs.YtkhmlicikbnmdaaDoor

/- The scanner over the abstract store: a block of four cells (the source, the place, the line, the tokens) and the tokens' row. -/
namespace Go.Proofs.YtkhmlicikbnmdaaDoor
open Go.RowKit Go.Lib

/-- a token with its line -/
def tkAv (x : Tk × Nat) : AV := .agg [.int x.1.kind, .str (bytesA x.1.text), .int x.1.n, .int x.2]
@[simp] theorem tkAv_one (x : Tk × Nat) (m : Nat) : (tkAv x).cl m := by unfold tkAv; simp
@[simp] theorem tks_cls (L : List (Tk × Nat)) (m : Nat) : AV.cls m (L.map tkAv) := AV.cls_map (fun _ => by simp) L
@[simp] theorem tks_wid (L : List (Tk × Nat)) : AV.wid (L.map tkAv) 4 := AV.wid_map (f := tkAv) (fun _ => rfl) L
@[simp] theorem tks_elms (L : List (Tk × Nat)) : AV.elms (L.map tkAv) := AV.elms_map (f := tkAv) (fun _ => rfl) L
def scnC (r' : Nat) (src : ByteArray) (a line : Nat) (L : List (Tk × Nat)) : AB := .cells [.str src, .int a, .int line, .gs r' (L.map tkAv)] 73
structure Scn (σ : Nat → AB) (r r' : Nat) (src : ByteArray) (a line : Nat) (L : List (Tk × Nat)) : Prop where
  ne : r ≠ r'
  cells : σ r = scnC r' src a line L
  row : σ r' = .tail L.length 43 4
def scnT (σ : Nat → AB) (r r' : Nat) (src : ByteArray) (a line : Nat) (L : List (Tk × Nat)) : Nat → AB := upd (upd σ r (scnC r' src a line L)) r' (.tail L.length 43 4)
section
variable {σ : Nat → AB} {r r' : Nat} {src : ByteArray} {a line : Nat} {L : List (Tk × Nat)}
theorem Scn.lt (h : Scn σ r r' src a line L) {n : Nat} (hf : Fin σ n) : r < n ∧ r' < n := by
  refine ⟨Nat.lt_of_not_le fun hle => ?_, Nat.lt_of_not_le fun hle => ?_⟩
  · have := hf r hle; rw [h.cells] at this; cases this
  · have := hf r' hle; rw [h.row] at this; cases this
theorem scnT_fin (h : Scn σ r r' src a line L) (a' line' : Nat) (L' : List (Tk × Nat)) : ∀ n, Fin σ n → (∀ k, (σ k).cl n) → Fin (scnT σ r r' src a' line' L') n ∧ ∀ k, (scnT σ r r' src a' line' L' k).cl n := fun n hf hc => by
  obtain ⟨hr, hr'⟩ := h.lt hf
  unfold scnT
  refine ⟨fun k hk => ?_, fun k => ?_⟩
  · unfold upd
    rw [if_neg (by omega), if_neg (by omega)]
    exact hf k hk
  · unfold upd
    split
    · trivial
    · split
      · unfold scnC AB.cl
        simp [hr']
      · exact hc k
theorem scnT_self (h : Scn σ r r' src a line L) : scnT σ r r' src a line L = σ := by
  funext k
  unfold scnT upd
  split
  · rename_i e; rw [e, h.row]
  · split
    · rename_i e; rw [e, h.cells]
    · rfl
theorem scn_tr (h : Scn σ r r' src a line L) (a' line' : Nat) (L' : List (Tk × Nat)) : Scn (scnT σ r r' src a' line' L') r r' src a' line' L' := by
  refine ⟨h.ne, ?_, ?_⟩
  · unfold scnT upd; rw [if_neg h.ne, if_pos rfl]
  · unfold scnT upd; rw [if_pos rfl]
theorem scnT_scnT (h : r ≠ r') (a' line' : Nat) (L' : List (Tk × Nat)) : scnT (scnT σ r r' src a line L) r r' src a' line' L' = scnT σ r r' src a' line' L' := by
  funext k
  unfold scnT upd
  by_cases h1 : k = r'
  · simp [h1]
  · by_cases h2 : k = r <;> simp [h1, h2]
end
end Go.Proofs.YtkhmlicikbnmdaaDoor

/- Walks: what takes a token: the end, a line feed, an operator, a text. -/
namespace Go.Proofs.YtkhmlicikbnmdaaDoor
open Go.RowKit Go.Lib

/-- what a taker returns, and leaves -/
def takeZ (x : Except Nat (Tk × Nat)) : AV := .int (match x with | .error e => e | .ok _ => 0)
def takeT (σ : Nat → AB) (r r' : Nat) (src : ByteArray) (a line : Nat) (L : List (Tk × Nat)) (x : Except Nat (Tk × Nat)) : Nat → AB :=
  match x with
  | .error _ => scnT σ r r' src a line L
  | .ok (t, k) => scnT σ r r' src (a + k) (if t.kind = 4 then line + 1 else line) (L ++ [(t, line)])
section
variable {σ : Nat → AB} {r r' : Nat} {src : ByteArray} {a line : Nat} {L : List (Tk × Nat)}
theorem scnT_of {n : Nat} {av lv : Int} {l : List AV} (hne : ¬ r' = r) (hn : n = L.length) (hl : l = L.map tkAv) (ha : av = a) (hlv : lv = line) : upd (upd σ r' (.tail n 43 4)) r (.cells [.str src, .int av, .int lv, .gs r' l] 73) = scnT σ r r' src a line L := by
  subst hn; subst hl; subst ha; subst hlv
  funext k
  unfold scnT scnC upd
  by_cases h1 : k = r'
  · subst h1; simp [hne]
  · by_cases h2 : k = r
    · subst h2; simp [h1]
    · simp [h1, h2]
theorem tks_snoc (x : Tk × Nat) : (L.map tkAv) ++ [tkAv x] = (L ++ [x]).map tkAv := by rw [List.map_append]; rfl
theorem end_g (h : Scn σ r r' src a line L) (hl : L.length ≤ 5000) : AC Tryd.prog 75 [.ptr r 0] σ fun z τ => z = .int 0 ∧ τ = scnT σ r r' src a line (L ++ [(⟨5, [], 0⟩, line)]) := by
  refine acT_of_awp Tryd.func75 Tryd.ntmps75 rfl rfl (by decide) rfl (by intro n; simp) (scnT_fin h _ _ _) fun n0 hfin hcl hft => ?_
  obtain ⟨hr, hr'⟩ := h.lt hfin
  have h1 := h.cells
  have h2 := h.row
  unfold scnC at h1
  have hne := h.ne
  have hne' : ¬ r' = r := fun e => hne e.symm
  have hL : ∀ (τ : Nat → AB) (L : List AB), loc τ n0 L r = τ r := fun τ L => loc_lt _ _ _ _ hr
  have hL' : ∀ (τ : Nat → AB) (L : List AB), loc τ n0 L r' = τ r' := fun τ L => loc_lt _ _ _ _ hr'
  repeat' (first | ((with_reducible refine aguard (fun hg => ?_) (fun hg => ?_)) <;> (try simp only [hg]) <;> (try simp only [beq_iff_eq, beq_eq_false_iff_ne, ne_eq, decide_eq_true_eq, decide_eq_false_iff_not, bne_iff_ne, bne_eq_false_iff_eq] at hg) <;> (try (first | simp only [eq_false hg, if_true, if_false] | simp only [eq_true hg, if_true, if_false])) <;> (try simp (disch := first | omega | simp) [wrap_i64, -aseqC, -anyC, hr, hr', h1, h2, hne, hne', hL, hL'])) | (with_reducible refine aseq_step ?_; try simp (disch := first | omega | simp) [wrap_i64, -aseqC, -anyC, hr, hr', h1, h2, hne, hne', hL, hL']) | (with_reducible refine any_step' ?_; try simp (disch := first | omega | simp) [wrap_i64, -aseqC, -anyC, hr, hr', h1, h2, hne, hne', hL, hL']) | (with_reducible refine aseq_end ?_; try simp (disch := first | omega | simp) [wrap_i64, -aseqC, -anyC, hr, hr', h1, h2, hne, hne', hL, hL']) | (with_reducible refine any_end' ?_; try simp (disch := first | omega | simp) [wrap_i64, -aseqC, -anyC, hr, hr', h1, h2, hne, hne', hL, hL']) | ((first | with_reducible refine sideG ?_ ?_ | with_reducible refine sideG2 ?_ ?_ | with_reducible refine sideS ?_ ?_ | with_reducible refine sideS2 ?_ ?_ | with_reducible refine sideS3 ?_ ?_ | with_reducible refine sideA ?_ ?_ | with_reducible refine sideA2 ?_ ?_ | with_reducible refine sideA3 ?_ ?_); (first | omega | assumption | (simp; done))) | (refine awp_seq_k fun K hK => ?_) | (refine awp_regionC ?_) | (refine hK _ ?_; clear hK; clear K) | (clear hK; clear K; refine hK _ ?_; clear hK; clear K) | (clear hK; clear K; clear hK; clear K; refine hK _ ?_; clear hK; clear K) | refine awp_block ?_ | (refine awp_condC ?_; simp (disch := first | omega | simp) [wrap_i64, -aseqC, -anyC, hr, hr', h1, h2, hne, hne', hL, hL']) | (refine awp_exit ?_; try simp (disch := first | omega | simp) [wrap_i64, -aseqC, -anyC, hr, hr', h1, h2, hne, hne', hL, hL']) | (refine awp_skip ?_; try simp (disch := first | omega | simp) [wrap_i64, -aseqC, -anyC, hr, hr', h1, h2, hne, hne', hL, hL']) | (refine awp_ret ?_; try simp (disch := first | omega | simp) [wrap_i64, -aseqC, -anyC, hr, hr', h1, h2, hne, hne', hL, hL']))
  refine awp_anyA false (by kernel_rfl) (by kernel_rfl) ?_
  simp only [autoK, kind0]
  repeat' (first | ((with_reducible refine aguard (fun hg => ?_) (fun hg => ?_)) <;> (try simp only [hg]) <;> (try simp only [beq_iff_eq, beq_eq_false_iff_ne, ne_eq, decide_eq_true_eq, decide_eq_false_iff_not, bne_iff_ne, bne_eq_false_iff_eq] at hg) <;> (try (first | simp only [eq_false hg, if_true, if_false] | simp only [eq_true hg, if_true, if_false])) <;> (try simp (disch := first | omega | simp) [wrap_i64, -aseqC, -anyC, hr, hr', h1, h2, hne, hne', hL, hL'])) | (with_reducible refine aseq_step ?_; try simp (disch := first | omega | simp) [wrap_i64, -aseqC, -anyC, hr, hr', h1, h2, hne, hne', hL, hL']) | (with_reducible refine any_step' ?_; try simp (disch := first | omega | simp) [wrap_i64, -aseqC, -anyC, hr, hr', h1, h2, hne, hne', hL, hL']) | (with_reducible refine aseq_end ?_; try simp (disch := first | omega | simp) [wrap_i64, -aseqC, -anyC, hr, hr', h1, h2, hne, hne', hL, hL']) | (with_reducible refine any_end' ?_; try simp (disch := first | omega | simp) [wrap_i64, -aseqC, -anyC, hr, hr', h1, h2, hne, hne', hL, hL']) | ((first | with_reducible refine sideG ?_ ?_ | with_reducible refine sideG2 ?_ ?_ | with_reducible refine sideS ?_ ?_ | with_reducible refine sideS2 ?_ ?_ | with_reducible refine sideS3 ?_ ?_ | with_reducible refine sideA ?_ ?_ | with_reducible refine sideA2 ?_ ?_ | with_reducible refine sideA3 ?_ ?_); (first | omega | assumption | (simp; done))) | (refine awp_seq_k fun K hK => ?_) | (refine awp_regionC ?_) | (refine hK _ ?_; clear hK; clear K) | (clear hK; clear K; refine hK _ ?_; clear hK; clear K) | (clear hK; clear K; clear hK; clear K; refine hK _ ?_; clear hK; clear K) | refine awp_block ?_ | (refine awp_condC ?_; simp (disch := first | omega | simp) [wrap_i64, -aseqC, -anyC, hr, hr', h1, h2, hne, hne', hL, hL']) | (refine awp_exit ?_; try simp (disch := first | omega | simp) [wrap_i64, -aseqC, -anyC, hr, hr', h1, h2, hne, hne', hL, hL']) | (refine awp_skip ?_; try simp (disch := first | omega | simp) [wrap_i64, -aseqC, -anyC, hr, hr', h1, h2, hne, hne', hL, hL']) | (refine awp_ret ?_; try simp (disch := first | omega | simp) [wrap_i64, -aseqC, -anyC, hr, hr', h1, h2, hne, hne', hL, hL']))
  exact scnT_of hne' (by simp) (tks_snoc (⟨5, [], 0⟩, line)) rfl rfl
theorem feed_g (h : Scn σ r r' src a line L) (hl : L.length ≤ 5000) (ha : a ≤ 1000000) (hli : line ≤ 1000000) : AC Tryd.prog 79 [.ptr r 0] σ fun z τ => z = .int 0 ∧ τ = scnT σ r r' src (a + 1) (line + 1) (L ++ [(⟨4, [], 0⟩, line)]) := by
  refine acT_of_awp Tryd.func79 Tryd.ntmps79 rfl rfl (by decide) rfl (by intro n; simp) (scnT_fin h _ _ _) fun n0 hfin hcl hft => ?_
  obtain ⟨hr, hr'⟩ := h.lt hfin
  have h1 := h.cells
  have h2 := h.row
  unfold scnC at h1
  have hne := h.ne
  have hne' : ¬ r' = r := fun e => hne e.symm
  have hL : ∀ (τ : Nat → AB) (L : List AB), loc τ n0 L r = τ r := fun τ L => loc_lt _ _ _ _ hr
  have hL' : ∀ (τ : Nat → AB) (L : List AB), loc τ n0 L r' = τ r' := fun τ L => loc_lt _ _ _ _ hr'
  repeat' (first | ((with_reducible refine aguard (fun hg => ?_) (fun hg => ?_)) <;> (try simp only [hg]) <;> (try simp only [beq_iff_eq, beq_eq_false_iff_ne, ne_eq, decide_eq_true_eq, decide_eq_false_iff_not, bne_iff_ne, bne_eq_false_iff_eq] at hg) <;> (try (first | simp only [eq_false hg, if_true, if_false] | simp only [eq_true hg, if_true, if_false])) <;> (try simp (disch := first | omega | simp) [wrap_i64, -aseqC, -anyC, hr, hr', h1, h2, hne, hne', hL, hL'])) | (with_reducible refine aseq_step ?_; try simp (disch := first | omega | simp) [wrap_i64, -aseqC, -anyC, hr, hr', h1, h2, hne, hne', hL, hL']) | (with_reducible refine any_step' ?_; try simp (disch := first | omega | simp) [wrap_i64, -aseqC, -anyC, hr, hr', h1, h2, hne, hne', hL, hL']) | (with_reducible refine aseq_end ?_; try simp (disch := first | omega | simp) [wrap_i64, -aseqC, -anyC, hr, hr', h1, h2, hne, hne', hL, hL']) | (with_reducible refine any_end' ?_; try simp (disch := first | omega | simp) [wrap_i64, -aseqC, -anyC, hr, hr', h1, h2, hne, hne', hL, hL']) | ((first | with_reducible refine sideG ?_ ?_ | with_reducible refine sideG2 ?_ ?_ | with_reducible refine sideS ?_ ?_ | with_reducible refine sideS2 ?_ ?_ | with_reducible refine sideS3 ?_ ?_ | with_reducible refine sideA ?_ ?_ | with_reducible refine sideA2 ?_ ?_ | with_reducible refine sideA3 ?_ ?_); (first | omega | assumption | (simp; done))) | (refine awp_seq_k fun K hK => ?_) | (refine awp_regionC ?_) | (refine hK _ ?_; clear hK; clear K) | (clear hK; clear K; refine hK _ ?_; clear hK; clear K) | (clear hK; clear K; clear hK; clear K; refine hK _ ?_; clear hK; clear K) | refine awp_block ?_ | (refine awp_condC ?_; simp (disch := first | omega | simp) [wrap_i64, -aseqC, -anyC, hr, hr', h1, h2, hne, hne', hL, hL']) | (refine awp_exit ?_; try simp (disch := first | omega | simp) [wrap_i64, -aseqC, -anyC, hr, hr', h1, h2, hne, hne', hL, hL']) | (refine awp_skip ?_; try simp (disch := first | omega | simp) [wrap_i64, -aseqC, -anyC, hr, hr', h1, h2, hne, hne', hL, hL']) | (refine awp_ret ?_; try simp (disch := first | omega | simp) [wrap_i64, -aseqC, -anyC, hr, hr', h1, h2, hne, hne', hL, hL']))
  refine awp_anyQ [] r [.R, .R, .R, .R, .R, .M, .R, .R, .R, .M, .R, .R, .A, .R, .R, .R, .N, .R, .R, .R, .W, .R, .R, .W] (by kernel_rfl) (by kernel_rfl) (by simp) ?_
  repeat' (first | ((with_reducible refine aguard (fun hg => ?_) (fun hg => ?_)) <;> (try simp only [hg]) <;> (try simp only [beq_iff_eq, beq_eq_false_iff_ne, ne_eq, decide_eq_true_eq, decide_eq_false_iff_not, bne_iff_ne, bne_eq_false_iff_eq] at hg) <;> (try (first | simp only [eq_false hg, if_true, if_false] | simp only [eq_true hg, if_true, if_false])) <;> (try simp (disch := first | omega | simp) [wrap_i64, -aseqC, -anyC, hr, hr', h1, h2, hne, hne', hL, hL'])) | (with_reducible refine aseq_step ?_; try simp (disch := first | omega | simp) [wrap_i64, -aseqC, -anyC, hr, hr', h1, h2, hne, hne', hL, hL']) | (with_reducible refine any_step' ?_; try simp (disch := first | omega | simp) [wrap_i64, -aseqC, -anyC, hr, hr', h1, h2, hne, hne', hL, hL']) | (with_reducible refine aseq_end ?_; try simp (disch := first | omega | simp) [wrap_i64, -aseqC, -anyC, hr, hr', h1, h2, hne, hne', hL, hL']) | (with_reducible refine any_end' ?_; try simp (disch := first | omega | simp) [wrap_i64, -aseqC, -anyC, hr, hr', h1, h2, hne, hne', hL, hL']) | ((first | with_reducible refine sideG ?_ ?_ | with_reducible refine sideG2 ?_ ?_ | with_reducible refine sideS ?_ ?_ | with_reducible refine sideS2 ?_ ?_ | with_reducible refine sideS3 ?_ ?_ | with_reducible refine sideA ?_ ?_ | with_reducible refine sideA2 ?_ ?_ | with_reducible refine sideA3 ?_ ?_); (first | omega | assumption | (simp; done))) | (refine awp_seq_k fun K hK => ?_) | (refine awp_regionC ?_) | (refine hK _ ?_; clear hK; clear K) | (clear hK; clear K; refine hK _ ?_; clear hK; clear K) | (clear hK; clear K; clear hK; clear K; refine hK _ ?_; clear hK; clear K) | refine awp_block ?_ | (refine awp_condC ?_; simp (disch := first | omega | simp) [wrap_i64, -aseqC, -anyC, hr, hr', h1, h2, hne, hne', hL, hL']) | (refine awp_exit ?_; try simp (disch := first | omega | simp) [wrap_i64, -aseqC, -anyC, hr, hr', h1, h2, hne, hne', hL, hL']) | (refine awp_skip ?_; try simp (disch := first | omega | simp) [wrap_i64, -aseqC, -anyC, hr, hr', h1, h2, hne, hne', hL, hL']) | (refine awp_ret ?_; try simp (disch := first | omega | simp) [wrap_i64, -aseqC, -anyC, hr, hr', h1, h2, hne, hne', hL, hL']))
  exact scnT_of hne' (by simp) (tks_snoc (⟨4, [], 0⟩, line)) (by omega) (by omega)
end
end Go.Proofs.YtkhmlicikbnmdaaDoor

/- Tokens, on plain data: what follows does not change a token; what is skipped. -/
namespace Go.Proofs.YtkhmlicikbnmdaaDoor
open Go.RowKit Go.Lib

/-- a text that ends every token before it: empty, or with a white byte or a line feed at its head -/
def endsC (c : UInt8) : Prop := c = 32 ∨ c = 9 ∨ c = 13 ∨ c = 10
theorem ends_part {c : UInt8} (h : endsC c) : partC c = false := by rcases h with rfl | rfl | rfl | rfl <;> decide
theorem ends_op {c : UInt8} (h : endsC c) : c ≠ 61 ∧ c ≠ 43 := by rcases h with rfl | rfl | rfl | rfl <;> decide
theorem takeW_app {f : UInt8 → Bool} {x : List UInt8} (hx : ∀ c, x.head? = some c → f c = false) : ∀ l : List UInt8, (l ++ x).takeWhile f = l.takeWhile f
  | [] => by
    cases x with
    | nil => rfl
    | cons c x => rw [List.nil_append, List.takeWhile_cons, hx c rfl]; rfl
  | c :: l => by
    rw [List.cons_append, List.takeWhile_cons, List.takeWhile_cons, takeW_app hx l]
theorem quote_app {x : List UInt8} : ∀ (n : Nat) (r : List UInt8) (k : Nat), r.length ≤ n → quoteI r = some k → quoteI (r ++ x) = some k ∧ k < r.length := fun n => by
  induction n with
  | zero =>
    intro r k h hk
    have : r = [] := List.eq_nil_of_length_eq_zero (by omega)
    subst this; rw [quoteI] at hk; cases hk
  | succ n ih =>
    intro r k h hk
    cases r with
    | nil => rw [quoteI] at hk; cases hk
    | cons c r =>
      by_cases h34 : c = 34
      · subst h34
        rw [quoteI] at hk
        cases hk
        exact ⟨by rw [List.cons_append, quoteI], by simp⟩
      · by_cases h92 : c = 92
        · subst h92
          cases r with
          | nil => rw [quoteI] at hk; cases hk
          | cons d r =>
            rw [quoteI] at hk
            · cases hq : quoteI r with
              | none => rw [hq] at hk; cases hk
              | some j =>
                rw [hq] at hk
                cases hk
                obtain ⟨h1, h2⟩ := ih r j (by simp at h; omega) hq
                refine ⟨?_, by simp; omega⟩
                rw [List.cons_append, List.cons_append, quoteI, h1]; rfl
        · have e : ∀ r : List UInt8, quoteI (c :: r) = (quoteI r).map (· + 1) := fun r => by
            rw [quoteI]
            · exact h34
            · intro e _; exact h92 e
            · intro _ _ e; exact absurd e h92
          rw [e] at hk
          cases hq : quoteI r with
          | none => rw [hq] at hk; cases hk
          | some j =>
            rw [hq] at hk
            cases hk
            obtain ⟨h1, h2⟩ := ih r j (by simp at h; omega) hq
            refine ⟨?_, by simp; omega⟩
            rw [List.cons_append, e, h1]; rfl
theorem oper_app {l x : List UInt8} (hl : l ≠ []) (hx : ∀ c, x.head? = some c → endsC c) : operI (l ++ x) = operI l := by
  obtain ⟨c, r, rfl⟩ := List.exists_cons_of_ne_nil hl
  rw [List.cons_append, operI, operI]
  cases r with
  | cons d r => rfl
  | nil =>
    cases x with
    | nil => rfl
    | cons d x =>
      obtain ⟨h1, h2⟩ := ends_op (hx d rfl)
      simp [h1, h2]
theorem oper_len {l : List UInt8} (h : operI l ≠ 0) : operI l ≤ l.length ∧ l ≠ [] := by
  cases l with
  | nil => exact absurd rfl h
  | cons c r =>
    refine ⟨?_, by simp⟩
    rw [operI]
    split
    · rename_i h2
      cases r with
      | nil => simp at h2
      | cons d r => simp
    · split <;> simp
theorem tok_app {l x : List UInt8} {t : Tk} {k : Nat} (hx : ∀ c, x.head? = some c → endsC c) (hl : l ≠ []) (h : tokP l = .ok (t, k)) : tokP (l ++ x) = .ok (t, k) ∧ 1 ≤ k ∧ k ≤ l.length ∧ t.kind ≠ 5 := by
  obtain ⟨c, r, rfl⟩ := List.exists_cons_of_ne_nil hl
  have hw := takeW_app (f := partC) (x := x) (fun d hd => ends_part (hx d hd)) (c :: r)
  rw [List.cons_append] at hw ⊢
  rw [tokP] at h
  rw [tokP]
  by_cases hp : partC c = true
  · rw [if_pos hp] at h ⊢
    rw [hw]
    refine ⟨h, ?_⟩
    have hwl : 1 ≤ ((c :: r).takeWhile partC).length ∧ ((c :: r).takeWhile partC).length ≤ (c :: r).length := by
      rw [List.takeWhile_cons, if_pos hp]
      have := (List.takeWhile_sublist (l := r) (p := partC)).length_le
      simp; omega
    cases hwt : wordTk ((c :: r).takeWhile partC) with
    | error e => rw [hwt] at h; cases h
    | ok u =>
      rw [hwt] at h
      cases h
      refine ⟨hwl.1, hwl.2, ?_⟩
      unfold wordTk at hwt
      split at hwt
      · cases hwt
      · split at hwt
        · split at hwt
          · cases hwt
          · split at hwt
            · cases hwt; simp
            · cases hwt
        · split at hwt
          · cases hwt
          · cases hwt; simp
  · rw [if_neg hp] at h ⊢
    by_cases h34 : c = 34
    · rw [if_pos h34] at h ⊢
      cases hq : quoteI r with
      | none => rw [hq] at h; cases h
      | some j =>
        obtain ⟨q1, q2⟩ := quote_app (x := x) _ r j (Nat.le_refl _) hq
        rw [hq] at h
        rw [q1]
        dsimp only at h ⊢
        have e : (c :: (r ++ x)).take (j + 2) = (c :: r).take (j + 2) := by
          rw [← List.cons_append, List.take_append_of_le_length (by simp; omega)]
        rw [e]
        refine ⟨h, ?_⟩
        cases hu : unqP hxP ((c :: r).take (j + 2)) with
        | none => rw [hu] at h; cases h
        | some u =>
          rw [hu] at h
          dsimp only at h
          split at h
          · cases h
          · cases h; exact ⟨by omega, by simp; omega, by simp⟩
    · rw [if_neg h34] at h ⊢
      by_cases h10 : c = 10
      · rw [if_pos h10] at h ⊢
        cases h
        exact ⟨rfl, by omega, by simp, by decide⟩
      · rw [if_neg h10] at h ⊢
        have ho := oper_app (l := c :: r) (x := x) (by simp) hx
        rw [List.cons_append] at ho
        rw [ho]
        by_cases h0 : operI (c :: r) = 0
        · rw [if_pos h0] at h; cases h
        · rw [if_neg h0] at h ⊢
          cases h
          have hol := oper_len h0
          have e : (c :: (r ++ x)).take (operI (c :: r)) = (c :: r).take (operI (c :: r)) := by
            rw [← List.cons_append, List.take_append_of_le_length hol.1]
          rw [e]
          exact ⟨rfl, by omega, hol.1, by simp⟩
end Go.Proofs.YtkhmlicikbnmdaaDoor

/- Tokens, on plain data: lexing two texts one after the other. -/
namespace Go.Proofs.YtkhmlicikbnmdaaDoor
open Go.RowKit Go.Lib

theorem skip_len : ∀ (b : Bool) (l : List UInt8), (skipP b l).length ≤ l.length
  | b, [] => by cases b <;> simp [skipP]
  | false, c :: r => by
    rw [skipP]
    split
    · have := skip_len false r; simp; omega
    · split
      · have := skip_len true r; simp; omega
      · simp
  | true, c :: r => by
    rw [skipP]
    split
    · simp
    · have := skip_len true r; simp; omega
theorem skip_app {x : List UInt8} : ∀ (b : Bool) (l : List UInt8), skipP b l ≠ [] → skipP b (l ++ x) = skipP b l ++ x
  | b, [], h => absurd (by cases b <;> rfl) h
  | false, c :: r, h => by
    rw [skipP] at h
    rw [List.cons_append, skipP, skipP]
    by_cases hw : whiteC c = true
    · rw [if_pos hw] at h
      rw [if_pos hw, if_pos hw, skip_app false r h]
    · rw [if_neg hw] at h
      rw [if_neg hw, if_neg hw]
      by_cases h35 : c = 35
      · rw [if_pos h35] at h
        rw [if_pos h35, if_pos h35, skip_app true r h]
      · rw [if_neg h35, if_neg h35]; rfl
  | true, c :: r, h => by
    rw [skipP] at h
    rw [List.cons_append, skipP, skipP]
    by_cases h10 : c = 10
    · rw [if_pos h10, if_pos h10]; rfl
    · rw [if_neg h10] at h
      rw [if_neg h10, if_neg h10, skip_app true r h]
theorem skip_end {x : List UInt8} : ∀ (b : Bool) (l : List UInt8), skipP b l = [] → ∃ b', skipP b (l ++ x) = skipP b' x
  | b, [], _ => ⟨b, rfl⟩
  | false, c :: r, h => by
    rw [skipP] at h
    rw [List.cons_append, skipP]
    by_cases hw : whiteC c = true
    · rw [if_pos hw] at h
      rw [if_pos hw]
      exact skip_end false r h
    · rw [if_neg hw] at h
      rw [if_neg hw]
      by_cases h35 : c = 35
      · rw [if_pos h35] at h
        rw [if_pos h35]
        exact skip_end true r h
      · rw [if_neg h35] at h; cases h
  | true, c :: r, h => by
    rw [skipP] at h
    rw [List.cons_append, skipP]
    by_cases h10 : c = 10
    · rw [if_pos h10] at h; cases h
    · rw [if_neg h10] at h
      rw [if_neg h10]
      exact skip_end true r h
theorem skip_lf (b : Bool) (x : List UInt8) : skipP b (10 :: x) = 10 :: x := by
  cases b
  · rw [skipP, if_neg (by decide), if_neg (by decide)]
  · rw [skipP, if_pos rfl]
/-- one step -/
theorem lex_step (f : Nat) (l : List UInt8) (h n : Nat) : lexF (f + 1) l h n = if h ≥ 3000 then .error (6, n) else match tokP (skipP false l) with
    | .error e => .error (e, n)
    | .ok (t, k) => if t.kind = 5 then .ok [(t, n)] else match lexF f ((skipP false l).drop k) (h + 1) (if t.kind = 4 then n + 1 else n) with
      | .error e => .error e
      | .ok L => .ok ((t, n) :: L) := rfl
theorem tok_nil : tokP [] = .ok (⟨5, [], 0⟩, 0) := by rw [tokP]
theorem tok_self {l : List UInt8} {t : Tk} {k : Nat} (hl : l ≠ []) (h : tokP l = .ok (t, k)) : 1 ≤ k ∧ k ≤ l.length ∧ t.kind ≠ 5 := by
  have := tok_app (x := []) (fun c hc => by cases hc) hl h
  exact this.2
theorem lexF_any : ∀ (n : Nat) (l : List UInt8), l.length ≤ n → ∀ (f g h m : Nat), l.length < f → l.length < g → lexF f l h m = lexF g l h m := fun n => by
  induction n with
  | zero =>
    intro l hl f g h m hf hg
    have : l = [] := List.eq_nil_of_length_eq_zero (by omega)
    subst this
    obtain ⟨f, rfl⟩ : ∃ f', f = f' + 1 := ⟨f - 1, by omega⟩
    obtain ⟨g, rfl⟩ : ∃ g', g = g' + 1 := ⟨g - 1, by omega⟩
    rw [lex_step, lex_step, show skipP false [] = [] from rfl, tok_nil]
    rfl
  | succ n ih =>
    intro l hl f g h m hf hg
    obtain ⟨f, rfl⟩ : ∃ f', f = f' + 1 := ⟨f - 1, by omega⟩
    obtain ⟨g, rfl⟩ : ∃ g', g = g' + 1 := ⟨g - 1, by omega⟩
    rw [lex_step, lex_step]
    split
    · rfl
    · cases ht : tokP (skipP false l) with
      | error e => rfl
      | ok tk =>
        obtain ⟨t, k⟩ := tk
        dsimp only
        split
        · rfl
        · rename_i h5
          have hs : skipP false l ≠ [] := fun e => by
            rw [e, tok_nil] at ht
            cases ht
            exact h5 rfl
          obtain ⟨h1, h2, h3⟩ := tok_self hs ht
          have hsl := skip_len false l
          rw [ih ((skipP false l).drop k) (by rw [List.length_drop]; omega) f g (h + 1) _ (by rw [List.length_drop]; omega) (by rw [List.length_drop]; omega)]
/-- the tokens of a text, a line feed, and a text -/
theorem lex_app {x : List UInt8} : ∀ (n : Nat) (l : List UInt8), l.length ≤ n → ∀ (f g h m : Nat) (L : List (Tk × Nat)), l.length < f → (l ++ 10 :: x).length < g → lexF f l h m = .ok L →
    ∃ L0 last, L = L0 ++ [(⟨5, [], 0⟩, last)] ∧ lexF g (l ++ 10 :: x) h m = match lexF g (10 :: x) (h + L0.length) last with | .ok M => .ok (L0 ++ M) | .error e => .error e := fun n => by
  induction n with
  | zero =>
    intro l hl f g h m L hf hg hL
    have : l = [] := List.eq_nil_of_length_eq_zero (by omega)
    subst this
    obtain ⟨f, rfl⟩ : ∃ f', f = f' + 1 := ⟨f - 1, by omega⟩
    rw [lex_step, show skipP false [] = [] from rfl, tok_nil] at hL
    split at hL
    · cases hL
    · cases hL
      refine ⟨[], m, rfl, ?_⟩
      rw [List.nil_append, List.length_nil, Nat.add_zero]
      cases lexF g (10 :: x) h m <;> rfl
  | succ n ih =>
    intro l hl f g h m L hf hg hL
    obtain ⟨f, rfl⟩ : ∃ f', f = f' + 1 := ⟨f - 1, by omega⟩
    obtain ⟨g, rfl⟩ : ∃ g', g = g' + 1 := ⟨g - 1, by omega⟩
    rw [lex_step] at hL
    by_cases h3 : h ≥ 3000
    · rw [if_pos h3] at hL; cases hL
    · rw [if_neg h3] at hL
      by_cases hs : skipP false l = []
      · rw [hs, tok_nil] at hL
        cases hL
        refine ⟨[], m, rfl, ?_⟩
        obtain ⟨b, hb⟩ := skip_end (x := 10 :: x) false l hs
        have e : lexF (g + 1) (l ++ 10 :: x) h m = lexF (g + 1) (10 :: x) h m := by rw [lex_step, lex_step, hb, skip_lf, skip_lf]
        rw [e, List.length_nil, Nat.add_zero]
        cases lexF (g + 1) (10 :: x) h m <;> rfl
      · cases ht : tokP (skipP false l) with
        | error e => rw [ht] at hL; cases hL
        | ok tk =>
          obtain ⟨t, k⟩ := tk
          rw [ht] at hL
          obtain ⟨ha, h1, h2, h5⟩ := tok_app (x := 10 :: x) (fun c hc => by cases hc; exact .inr (.inr (.inr rfl))) hs ht
          dsimp only at hL
          rw [if_neg h5] at hL
          have hsl := skip_len false l
          cases hr : lexF f ((skipP false l).drop k) (h + 1) (if t.kind = 4 then m + 1 else m) with
          | error e => rw [hr] at hL; cases hL
          | ok M =>
            rw [hr] at hL
            cases hL
            rw [List.length_append, List.length_cons] at hg
            obtain ⟨L0, last, rfl, h6⟩ := ih ((skipP false l).drop k) (by rw [List.length_drop]; omega) f g (h + 1) _ M (by rw [List.length_drop]; omega) (by rw [List.length_append, List.length_cons, List.length_drop]; omega) hr
            refine ⟨(t, m) :: L0, last, rfl, ?_⟩
            rw [lex_step, if_neg h3, skip_app false l hs, ha]
            dsimp only
            rw [if_neg h5, List.drop_append_of_le_length h2, h6, List.length_cons, ← Nat.add_assoc, Nat.add_right_comm h L0.length 1]
            rw [lexF_any _ (10 :: x) (Nat.le_refl _) (g + 1) g _ _ (by rw [List.length_cons]; omega) (by rw [List.length_cons]; omega)]
            cases lexF g (10 :: x) (h + 1 + L0.length) last <;> rfl
end Go.Proofs.YtkhmlicikbnmdaaDoor

/- Tokens, on plain data: a token's own text is read as this token. -/
namespace Go.Proofs.YtkhmlicikbnmdaaDoor
open Go.RowKit Go.Lib

theorem quote_plain {c : UInt8} (h34 : c ≠ 34) (h92 : c ≠ 92) (r : List UInt8) : quoteI (c :: r) = (quoteI r).map (· + 1) := by
  rw [quoteI]
  · exact h34
  · intro e _; exact h92 e
  · intro _ _ e; exact absurd e h92
theorem quote_esc (d : UInt8) (r : List UInt8) : quoteI (92 :: d :: r) = (quoteI r).map (· + 2) := by rw [quoteI]
theorem hexd_ne (n : Nat) (h : n < 16) : hexd n ≠ 34 ∧ hexd n ≠ 92 := by
  have : ∀ n : _root_.Fin 16, hexd n.1 ≠ 34 ∧ hexd n.1 ≠ 92 := by decide
  exact this ⟨n, h⟩
theorem quote_mid : ∀ (t r : List UInt8), quoteI (qmid t ++ 34 :: r) = some (qmid t).length
  | [], r => by rw [show qmid [] = [] from rfl, List.nil_append, quoteI]; rfl
  | c :: t, r => by
    have ih := quote_mid t r
    have hc := c.toNat_lt
    rw [qmid_cons, List.append_assoc]
    by_cases h1 : c = 34 ∨ c = 92
    · have e : qB c = [92, c] := by unfold qB; rw [if_pos h1]
      rw [e, List.cons_append, List.cons_append, List.nil_append, quote_esc, ih]
      simp
    · by_cases h2 : c = 10
      · have e : qB c = [92, 110] := by unfold qB; rw [if_neg h1, if_pos h2]
        rw [e, List.cons_append, List.cons_append, List.nil_append, quote_esc, ih]
        simp
      · by_cases h3 : 32 ≤ c.toNat ∧ c.toNat ≤ 126
        · have e : qB c = [c] := by unfold qB; rw [if_neg h1, if_neg h2, if_pos h3]
          rw [e, List.cons_append, List.nil_append, quote_plain (fun h => h1 (.inl h)) (fun h => h1 (.inr h)), ih]
          simp
        · have e : qB c = [92, 120, hexd (c.toNat / 16), hexd (c.toNat % 16)] := by unfold qB; rw [if_neg h1, if_neg h2, if_neg h3]
          obtain ⟨a1, a2⟩ := hexd_ne (c.toNat / 16) (by omega)
          obtain ⟨b1, b2⟩ := hexd_ne (c.toNat % 16) (by omega)
          rw [e, List.cons_append, List.cons_append, List.cons_append, List.cons_append, List.nil_append, quote_esc, quote_plain a1 a2, quote_plain b1 b2, ih]
          simp
/-- how a token is written, without what follows -/
def wtext (t : Tk) : List UInt8 := if t.kind = 2 then qP t.text else if t.kind = 4 then [10] else t.text
theorem takeW_self {f : UInt8 → Bool} : ∀ l : List UInt8, (l.takeWhile f).takeWhile f = l.takeWhile f
  | [] => rfl
  | c :: l => by
    by_cases h : f c = true
    · rw [List.takeWhile_cons, if_pos h, List.takeWhile_cons, if_pos h, takeW_self l]
    · rw [List.takeWhile_cons, if_neg h]; rfl
theorem word_kind {w : List UInt8} {t : Tk} (h : wordTk w = .ok t) : t.text = w ∧ (t.kind = 0 ∨ t.kind = 1) := by
  unfold wordTk at h
  split at h
  · cases h
  · split at h
    · split at h
      · cases h
      · split at h
        · cases h; exact ⟨rfl, .inr rfl⟩
        · cases h
    · split at h
      · cases h
      · cases h; exact ⟨rfl, .inl rfl⟩
/-- a token's own text is read as this token -/
theorem tok_own {l : List UInt8} {t : Tk} {k : Nat} (hl : l ≠ []) (h : tokP l = .ok (t, k)) : tokP (wtext t) = .ok (t, (wtext t).length) ∧ wtext t ≠ [] ∧ ∀ c, (wtext t).head? = some c → whiteC c = false ∧ c ≠ 35 := by
  obtain ⟨c, r, rfl⟩ := List.exists_cons_of_ne_nil hl
  rw [tokP] at h
  by_cases hp : partC c = true
  · rw [if_pos hp] at h
    cases hwt : wordTk ((c :: r).takeWhile partC) with
    | error e => rw [hwt] at h; cases h
    | ok u =>
      rw [hwt] at h
      cases h
      obtain ⟨h1, h2⟩ := word_kind hwt
      have hw : wtext t = (c :: r).takeWhile partC := by
        unfold wtext
        rw [if_neg (by omega), if_neg (by omega), h1]
      have hc : (c :: r).takeWhile partC = c :: r.takeWhile partC := by rw [List.takeWhile_cons, if_pos hp]
      have hs := takeW_self (f := partC) (c :: r)
      refine ⟨?_, by rw [hw, hc]; simp, fun d hd => ?_⟩
      · rw [hw]
        rw [hc] at hs hwt ⊢
        rw [tokP, if_pos hp, hs, hwt]; rfl
      · rw [hw, hc] at hd
        cases hd
        have : ∀ c : UInt8, partC c = true → whiteC c = false ∧ c ≠ 35 := by
          intro c hc
          have hall : ∀ n : _root_.Fin 256, partC (UInt8.ofNat n.1) = true → whiteC (UInt8.ofNat n.1) = false ∧ UInt8.ofNat n.1 ≠ 35 := by decide +kernel
          have := hall ⟨c.toNat, c.toNat_lt⟩ (by simpa using hc)
          simpa using this
        exact this c hp
  · rw [if_neg hp] at h
    by_cases h34 : c = 34
    · rw [if_pos h34] at h
      cases hq : quoteI r with
      | none => rw [hq] at h; cases h
      | some j =>
        rw [hq] at h
        dsimp only at h
        cases hu : unqP hxP ((c :: r).take (j + 2)) with
        | none => rw [hu] at h; cases h
        | some u =>
          rw [hu] at h
          dsimp only at h
          split at h
          · cases h
          · rename_i hlen
            cases h
            have hw : wtext ⟨2, u, 0⟩ = 34 :: (qmid u ++ [34]) := rfl
            rw [hw]
            refine ⟨?_, by simp, fun d hd => by cases hd; decide⟩
            have e1 : (34 :: (qmid u ++ [34])).take ((qmid u).length + 2) = qP u := by
              rw [List.take_of_length_le (by simp)]; rfl
            rw [tokP, if_neg (by decide), if_pos rfl, quote_mid u []]
            dsimp only
            rw [e1, unq_q hxP_ok]
            dsimp only
            rw [if_neg hlen]
            simp
    · rw [if_neg h34] at h
      by_cases h10 : c = 10
      · rw [if_pos h10] at h
        cases h
        refine ⟨?_, by unfold wtext; simp, fun d hd => by cases hd; decide⟩
        show tokP [10] = _
        rw [tokP, if_neg (by decide), if_neg (by decide), if_pos rfl]; rfl
      · rw [if_neg h10] at h
        by_cases h0 : operI (c :: r) = 0
        · rw [if_pos h0] at h; cases h
        · rw [if_neg h0] at h
          cases h
          have hol := oper_len h0
          have hw : wtext ⟨3, (c :: r).take (operI (c :: r)), 0⟩ = (c :: r).take (operI (c :: r)) := rfl
          rw [hw]
          have hcase : operI (c :: r) = 2 ∧ (∃ d r', r = d :: r' ∧ ((c = 33 ∨ c = 60 ∨ c = 62) ∧ d = 61 ∨ c = 43 ∧ d = 43)) ∨ operI (c :: r) = 1 ∧ c ∈ ops1 := by
            unfold operI at h0 ⊢
            dsimp only at h0 ⊢
            split
            · rename_i h2
              refine .inl ⟨rfl, ?_⟩
              cases r with
              | nil => simp at h2
              | cons d r' => exact ⟨d, r', rfl, by simpa using h2⟩
            · rename_i h2
              rw [if_neg h2] at h0
              split
              · exact .inr ⟨rfl, ‹_›⟩
              · rename_i h3; rw [if_neg h3] at h0; exact absurd rfl h0
          rcases hcase with ⟨e2, d, r', rfl, h2⟩ | ⟨e1, h1⟩
          · rw [e2]
            show tokP [c, d] = .ok (⟨3, [c, d], 0⟩, 2) ∧ _
            have ho : operI [c, d] = 2 := by
              rw [operI, if_pos (by simpa using h2)]
            refine ⟨?_, by simp, fun d' hd => ?_⟩
            · rw [tokP, if_neg hp, if_neg h34, if_neg h10, ho, if_neg (by decide)]; rfl
            · cases hd
              rcases h2 with ⟨rfl | rfl | rfl, -⟩ | ⟨rfl, -⟩ <;> decide
          · rw [e1]
            show tokP [c] = .ok (⟨3, [c], 0⟩, 1) ∧ _
            have ho : operI [c] = 1 := by
              rw [operI, if_neg (by simp), if_pos h1]
            refine ⟨?_, by simp, fun d' hd => ?_⟩
            · rw [tokP, if_neg hp, if_neg h34, if_neg h10, ho, if_neg (by decide)]; rfl
            · cases hd
              have : ∀ c ∈ ops1, whiteC c = false ∧ c ≠ 35 := by decide
              exact this c h1
end Go.Proofs.YtkhmlicikbnmdaaDoor
