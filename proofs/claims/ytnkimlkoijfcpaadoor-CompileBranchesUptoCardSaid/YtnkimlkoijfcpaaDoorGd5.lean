/- What inlining returns has the value of the expression, on plain data. -/
import Derived.Test.YtnkimlkoijfcpaaDoorRows
import Derived.ProofKit
import Derived.Below
import Derived.ChangeSame
import Derived.HandedShaped
import Derived.Lay
import Derived.Shelf.Vars
import Derived.LaidMore
import Derived.Test.YtnkimlkoijfcpaaDoorGd1
import Derived.Test.YtnkimlkoijfcpaaDoorGd2
import Derived.Test.YtnkimlkoijfcpaaDoorGd4
set_option linter.unusedSimpArgs false
set_option linter.unusedVariables false
namespace Go.Proofs.YtnkimlkoijfcpaaDoor
open Go.RowKit Go.Lib
theorem qcx {F : List Fn} {c p : List Int} : ∀ (l : List Ex) {ts : List Int}, tys F c p l = some ts → ts.length = l.length
  | [], ts, h => by rw [tys] at h; cases h; rfl
  | e :: l, ts, h => by
    rw [tys] at h
    split at h
    · split at h
      · rename_i us hl
        cases h
        rw [List.length_cons, List.length_cons, qcx l hl]
      · cases h
    · cases h
theorem tys_get {F : List Fn} {c p : List Int} : ∀ (l : List Ex) {ts : List Int}, tys F c p l = some ts → ∀ (i : Nat) (x : Ex), l[i]? = some x → ∃ t, ts[i]? = some t ∧ ty F c p x = some t
  | [], ts, _, i, x, hx => by simp at hx
  | e :: l, ts, h, i, x, hx => by
    rw [tys] at h
    split at h
    · rename_i t he
      split at h
      · rename_i us hl
        cases h
        cases i with
        | zero => simp at hx; subst hx; exact ⟨t, rfl, he⟩
        | succ i => simpa using tys_get l hl i x (by simpa using hx)
      · cases h
    · cases h
theorem pickT_get {l : List Int} {n t : Int} (h : pickT l n = some t) : 0 ≤ n ∧ l[n.toNat]? = some t := by
  unfold pickT at h
  split at h
  · cases h
  · split at h
    · rename_i u hu
      split at h
      · cases h; exact ⟨by omega, hu⟩
      · cases h
    · cases h
mutual
theorem put_total {F : List Fn} {c p : List Int} {L : List Ex} (hL : L.length = p.length) : ∀ (e : Ex) {t : Int}, ty F c p e = some t → ∃ x, putP 4 L e = some x
  | .mk o n s l, t, ht => by
    rw [ty] at ht
    cases hl : tys F c p l with
    | none => rw [hl] at ht; cases ht
    | some ts =>
      rw [hl] at ht
      dsimp only at ht
      rw [putP]
      by_cases ho : o = 4
      · have hp := qek (.inr ho) ht
        rw [if_neg (by omega)] at hp
        obtain ⟨h0, h1⟩ := pickT_get hp
        rw [if_pos ho, if_neg (by omega)]
        have : n.toNat < L.length := by rw [hL]; exact (List.getElem?_eq_some_iff.1 h1).1
        exact ⟨L[n.toNat], List.getElem?_eq_getElem this⟩
      · rw [if_neg ho]
        obtain ⟨xs, hx⟩ := puts_total hL l hl
        rw [hx]; exact ⟨_, rfl⟩
theorem puts_total {F : List Fn} {c p : List Int} {L : List Ex} (hL : L.length = p.length) : ∀ (l : List Ex) {ts : List Int}, tys F c p l = some ts → ∃ xs, putPs 4 L l = some xs
  | [], ts, _ => ⟨[], by rw [putPs]⟩
  | e :: l, ts, h => by
    rw [tys] at h
    split at h
    · rename_i t he
      split at h
      · rename_i us hl
        obtain ⟨x, hx⟩ := put_total hL e he
        obtain ⟨xs, hxs⟩ := puts_total hL l hl
        rw [putPs, hx, hxs]; exact ⟨_, rfl⟩
      · cases h
    · cases h
end
theorem opV_call {call call2 : Int → List Val → Val} {time : Int} {row params : List Val} {op n : Int} {s : ByteArray} {vs : List Val} (h : op = 22 → call n vs = call2 n vs) : opV call time row params op n s vs = opV call2 time row params op n s vs := by
  unfold opV
  by_cases e : op = 22
  · subst e; rw [h rfl]
  · simp only [if_neg e]
theorem ev_fuel {F : List Fn} {time : Int} (hOk : ∀ i, i < F.length → okF F i = true) : ∀ (m : Nat) (e : Ex) {M : Nat} {c p : List Int} {R P : List Val} {t : Int}, m ≤ M → ty (F.take m) c p e = some t → ev (callN F time M) time R P e = ev (callN F time m) time R P e := by
  intro m
  induction m using Nat.strongRecOn with
  | ind m ihm =>
    have hcall : ∀ (M : Nat) (n : Int) (vs : List Val), m ≤ M → 0 ≤ n → n.toNat < m → n.toNat < F.length → callN F time M n vs = callN F time m n vs := fun M n vs hM h0 hlt hF => by
      obtain ⟨M, rfl⟩ : ∃ k, M = k + 1 := ⟨M - 1, by omega⟩
      obtain ⟨k, rfl⟩ : ∃ k, m = k + 1 := ⟨m - 1, by omega⟩
      have hf := List.getElem?_eq_getElem hF
      have hb := okF_body (hOk n.toNat hF) hf
      simp only [callN, hf]
      rw [ihm n.toNat hlt _ (M := M) (by omega) hb, ihm n.toNat hlt _ (M := k) (by omega) hb]
    intro e
    induction e using Ex.ind with
    | h o n s l ih =>
      intro M c p R P t hM ht
      rw [ty] at ht
      cases hl : tys (F.take m) c p l with
      | none => rw [hl] at ht; cases ht
      | some ts =>
        rw [hl] at ht
        dsimp only at ht
        have hvs : evs (callN F time M) time R P l = evs (callN F time m) time R P l := by
          rw [qes, qes]
          refine List.map_congr_left fun x hx => ?_
          obtain ⟨u, hu⟩ := tys_mem l hl x hx
          exact ih x hx hM hu
        rw [ev, ev, hvs]
        split
        · rfl
        · refine opV_call fun e22 => ?_
          subst e22
          unfold tailT at ht
          split at ht
          · cases ht
          · rw [if_pos rfl] at ht
            obtain ⟨h0, hlt, f, hf, -, -⟩ := qdx ht
            exact hcall M n _ hM h0 hlt (List.getElem?_eq_some_iff.1 hf).1
def InlOk (F : List Fn) (time : Int) (M : Nat) (bs : List (Option Ex)) : Prop :=
  ∀ (i : Nat) (b : Ex), bs[i]? = some (some b) → ∃ f : Fn, F[i]? = some f ∧ ty [] [] f.params b = some f.res ∧ ∀ (call : Int → List Val → Val) (P : List Val), P.map Val.k = f.params → (∀ v ∈ P, qbc v) → ev call time [] P b = callN F time M (i : Int) P
mutual
theorem inl_sem {F : List Fn} {time : Int} {M m : Nat} {bs : List (Option Ex)} (hOk : ∀ i, i < F.length → okF F i = true) (hbs : InlOk F time M bs) (hm : m = bs.length) (hM : m ≤ M) {c p : List Int} {R P : List Val} (hR : R.map Val.k = c) (hP : P.map Val.k = p) (sR : ∀ v ∈ R, qbc v) (sP : ∀ v ∈ P, qbc v) (call : Int → List Val → Val) :
    ∀ (e : Ex) {y : Ex} {t : Int}, ty (F.take m) c p e = some t → inlE bs e = some y → ty [] c p y = some t ∧ ev call time R P y = ev (callN F time M) time R P e
  | .mk o n s l, y, t, ht, hy => by
    rw [ty] at ht
    cases hl : tys (F.take m) c p l with
    | none => rw [hl] at ht; cases ht
    | some ts =>
      rw [hl] at ht
      dsimp only at ht
      rw [inlE] at hy
      cases hl2 : inlL bs l with
      | none => rw [hl2] at hy; cases hy
      | some ys =>
        rw [hl2] at hy
        dsimp only at hy
        obtain ⟨i1, i2⟩ := inls_sem hOk hbs hm hM hR hP sR sP call l hl hl2
        by_cases ho : o = 22
        · subst ho
          unfold tailT at ht
          split at ht
          · cases ht
          · rw [if_pos rfl] at ht
            obtain ⟨h0, hlt, f, hf, hpar, hres⟩ := qdx ht
            rw [if_pos ⟨rfl, h0, by omega⟩] at hy
            have hn : n.toNat < bs.length := by omega
            rw [List.getD_eq_getElem?_getD, List.getElem?_eq_getElem hn, Option.getD_some] at hy
            cases hb : bs[n.toNat] with
            | none => rw [hb] at hy; cases hy
            | some b =>
              rw [hb] at hy
              dsimp only at hy
              obtain ⟨f', hf', hty, hev⟩ := hbs n.toNat b (by rw [List.getElem?_eq_getElem hn, hb])
              rw [hf] at hf'; cases hf'
              obtain ⟨x, hx⟩ := put_total (L := ys) (by rw [hpar, qcx ys i1]) b hty
              rw [hx, Option.getD_some] at hy
              obtain ⟨rfl, -⟩ := fitX_parts hy
              have hk : (evs (callN F time M) time R P l).map Val.k = ts ∧ ∀ v ∈ evs (callN F time M) time R P l, qbc v := by
                refine evs_kinds (F := F.take m) (c := c) (p := p) l hl fun e he u hu => ?_
                exact ev_sound time hOk M e (ty_mono hM e hu) hR hP sR sP
              obtain ⟨j1, j2⟩ := put_sem (F := []) (call := call) (time := time) (c2 := c) (p2 := p) (R1 := []) (P1 := evs call time R P ys) (R2 := R) (P2 := P) (.inr rfl)
                (fun k u hp => by unfold pickT at hp; simp at hp)
                (fun k u hp => by
                  rw [if_pos rfl]
                  intro z hz
                  obtain ⟨-, h5⟩ := pickT_get hp
                  obtain ⟨u', h6, h7⟩ := tys_get ys i1 _ z hz
                  rw [hpar, h6] at h5
                  cases h5
                  refine ⟨h7, ?_⟩
                  rw [qes]
                  simp [List.getD_eq_getElem?_getD, hz]) b hx hty
              rw [j1, j2, hres]
              refine ⟨rfl, ?_⟩
              rw [i2, hev call _ (by rw [hk.1, hpar]) hk.2, ev, if_neg (by omega)]
              simp only [opV]
              rw [Int.toNat_of_nonneg h0]
              rfl
        · rw [if_neg (fun h => ho h.1)] at hy
          obtain ⟨rfl, -⟩ := fitX_parts hy
          refine ⟨?_, ?_⟩
          · rw [ty, i1]
            dsimp only
            unfold tailT at ht ⊢
            split at ht
            · cases ht
            · rename_i h1
              rw [if_neg h1]
              first | (rw [if_neg ho] at ht ⊢; exact ht) | (rw [if_neg ho] at ht; exact ht) | (rw [if_neg ho]; exact ht) | exact ht
          · rw [ev, ev, i2]
            split
            · rfl
            · exact opV_call fun h => absurd h ho
theorem inls_sem {F : List Fn} {time : Int} {M m : Nat} {bs : List (Option Ex)} (hOk : ∀ i, i < F.length → okF F i = true) (hbs : InlOk F time M bs) (hm : m = bs.length) (hM : m ≤ M) {c p : List Int} {R P : List Val} (hR : R.map Val.k = c) (hP : P.map Val.k = p) (sR : ∀ v ∈ R, qbc v) (sP : ∀ v ∈ P, qbc v) (call : Int → List Val → Val) :
    ∀ (l : List Ex) {ys : List Ex} {ts : List Int}, tys (F.take m) c p l = some ts → inlL bs l = some ys → tys [] c p ys = some ts ∧ evs call time R P ys = evs (callN F time M) time R P l
  | [], ys, ts, ht, hy => by
    rw [inlL] at hy; cases hy
    rw [tys] at ht; cases ht
    rw [tys, evs, evs]; exact ⟨rfl, rfl⟩
  | e :: l, ys, ts, ht, hy => by
    rw [tys] at ht
    cases he : ty (F.take m) c p e with
    | none => rw [he] at ht; cases ht
    | some t =>
      rw [he] at ht
      cases hl : tys (F.take m) c p l with
      | none => rw [hl] at ht; cases ht
      | some us =>
        rw [hl] at ht; cases ht
        rw [inlL] at hy
        cases hx1 : inlE bs e with
        | none => rw [hx1] at hy; cases hy
        | some x =>
          rw [hx1] at hy
          cases hx2 : inlL bs l with
          | none => rw [hx2] at hy; cases hy
          | some l' =>
            rw [hx2] at hy; cases hy
            obtain ⟨i1, i2⟩ := inl_sem hOk hbs hm hM hR hP sR sP call e he hx1
            obtain ⟨j1, j2⟩ := inls_sem hOk hbs hm hM hR hP sR sP call l hl hx2
            rw [tys, i1, j1, evs, evs, i2, j2]
            exact ⟨rfl, rfl⟩
end
end Go.Proofs.YtnkimlkoijfcpaaDoor

/- What Inline returns has the value of the expression. -/
namespace Go.Proofs.YtnkimlkoijfcpaaDoor
open Go.RowKit Go.Lib
def someV (k : Int) : Val := if k = 0 then numV 0 else if k = 1 then textV ByteArray.empty else boolV false
theorem someV_k {k : Int} (h : kindB k = true) : (someV k).k = k := by
  unfold kindB at h
  unfold someV
  simp only [Bool.or_eq_true, decide_eq_true_eq, Bool.and_eq_true] at h
  by_cases h0 : k = 0
  · rw [if_pos h0, h0]; rfl
  · by_cases h1 : k = 1
    · rw [if_neg h0, if_pos h1, h1]; rfl
    · rw [if_neg h0, if_neg h1]; show (2 : Int) = k; omega
theorem someV_sound (k : Int) : qbc (someV k) := by
  unfold someV
  split
  · exact qdo 0
  · split
    · exact sound_text (by decide)
    · exact qcb false
theorem inlB_ok {F : List Fn} {time : Int} (hOk : ∀ i, i < F.length → okF F i = true) : ∀ k, k ≤ F.length → InlOk F time F.length (inlB [] (F.take k))
  | 0, _ => by
    intro i b h
    rw [List.take_zero, inlB] at h
    simp at h
  | k + 1, hk => by
    have hkF : k < F.length := hk
    have ih := inlB_ok (time := time) hOk k (Nat.le_of_lt hkF)
    have hlen : (inlB [] (F.take k)).length = k := by rw [inlB_len]; simp; omega
    intro i b h
    rw [List.take_succ_eq_append_getElem hkF, inlB_snoc] at h
    generalize inlB [] (F.take k) = bs at ih hlen h
    by_cases hi : i < bs.length
    · rw [List.getElem?_append_left hi] at h
      exact ih i b h
    · have hik : i = k := by
        have := (List.getElem?_eq_some_iff.1 h).1
        simp at this
        omega
      subst hik
      rw [List.getElem?_append_right (by omega), hlen] at h
      simp at h
      have hf : F[i]? = some F[i] := List.getElem?_eq_getElem (by omega)
      have hb := okF_body (hOk i (by omega)) hf
      have hpk : ∀ k ∈ F[i].params, kindB k = true := by
        have := hOk i (by omega)
        unfold okF at this
        rw [hf] at this
        simp only [Bool.and_eq_true, List.all_eq_true] at this
        exact this.1.1
      have main := fun (call : Int → List Val → Val) (P : List Val) (h1 : P.map Val.k = F[i].params) (h2 : ∀ v ∈ P, qbc v) => inl_sem (time := time) (M := F.length) (m := i) (R := []) (P := P) hOk ih hlen.symm (by omega) rfl h1 (by simp) h2 call F[i].body hb h
      refine ⟨F[i], hf, ?_, fun call P h1 h2 => ?_⟩
      · refine (main (fun _ _ => zeroV) (F[i].params.map someV) ?_ ?_).1
        · rw [List.map_map]
          conv => rhs; rw [← List.map_id F[i].params]
          exact List.map_congr_left fun k hk => someV_k (hpk k hk)
        · intro v hv
          obtain ⟨k, -, rfl⟩ := List.mem_map.1 hv
          exact someV_sound k
      · rw [(main call P h1 h2).2]
        obtain ⟨j, hj⟩ : ∃ j, F.length = j + 1 := ⟨F.length - 1, by omega⟩
        rw [ev_fuel hOk i F[i].body (by omega) hb, hj]
        simp only [callN, Int.toNat_natCast, hf]
        rw [ev_fuel hOk i F[i].body (M := j) (by omega) hb]
theorem inline_sem {F : List Fn} {time : Int} {R : List Val} {e y : Ex} {t : Int} (hOk : ∀ i, i < F.length → okF F i = true) (hR : ∀ v ∈ R, qbc v) (ht : ty F (R.map Val.k) [] e = some t) (hy : qcd F e = some y) :
    ty [] (R.map Val.k) [] y = some t ∧ evalP [] time R y = evalP F time R e := by
  have hy' : inlE (inlB [] F) e = some y := by
    unfold qcd at hy
    split at hy
    · rename_i x hx
      split at hy
      · cases hy
      · cases hy; exact hx
    · cases hy
  have hok := inlB_ok (time := time) hOk F.length (Nat.le_refl _)
  rw [List.take_length] at hok
  exact inl_sem (M := F.length) (m := F.length) (P := []) hOk hok (by rw [inlB_len]; simp) (Nat.le_refl _) rfl rfl hR (by simp) _ e (by rw [List.take_length]; exact ht) hy'
end Go.Proofs.YtnkimlkoijfcpaaDoor

/- Layer 26 on plain data: folding keeps the type and the value. -/
namespace Go.Proofs.YtnkimlkoijfcpaaDoor
open Go.RowKit Go.Lib
def qbh (e : Ex) : Bool := decide (e.op = 0) || (decide (e.op = 1) || decide (e.op = 2))
theorem constE_iff (e : Ex) : qbh e = true ↔ e.op = 0 ∨ e.op = 1 ∨ e.op = 2 := by unfold qbh; simp
def qbf (v : Val) : Ex := if v.k = 0 then .mk 0 v.n ByteArray.empty [] else if v.k = 1 then .mk 1 0 v.s [] else if v.k = 2 then .mk 2 v.n ByteArray.empty [] else zeroE
def choiceP (o n : Int) (s : ByteArray) (l : List Ex) : Ex := match l with
  | [a, b, c] => if (qbh a = true ∧ a.n = 1) ∨ sameB b c = true then b else if qbh a = true then c else .mk o n s l
  | _ => .mk o n s l
def logicP (o n : Int) (s : ByteArray) (l : List Ex) : Ex := match l with
  | [a, b] => if qbh a = true then (if decide (a.n = 1) = decide (o = 17) then b else a) else if qbh b = true then (if decide (b.n = 1) = decide (o = 17) then a else b) else .mk o n s l
  | _ => .mk o n s l
def notP (o n : Int) (s : ByteArray) (l : List Ex) : Ex := match l with
  | [.mk o2 n2 s2 l2] => if o2 = 6 then (match l2 with | [x] => x | _ => .mk o n s l) else .mk o n s l
  | _ => .mk o n s l
def topF (o n : Int) (s : ByteArray) (l : List Ex) : Ex :=
  if l = [] then .mk o n s []
  else if o ≠ 22 ∧ l.all qbh = true then qbf (evalP [] 0 [] (.mk o n s l))
  else if o = 21 then choiceP o n s l
  else if o = 17 ∨ o = 18 then logicP o n s l
  else if o = 6 then notP o n s l
  else .mk o n s l
mutual
def foldE : Ex → Ex
  | .mk o n s l => topF o n s (foldL l)
def foldL : List Ex → List Ex
  | [] => []
  | e :: l => foldE e :: foldL l
end
theorem qeb : ∀ l, foldL l = l.map foldE
  | [] => by rw [foldL]; rfl
  | e :: l => by rw [foldL, qeb l]; rfl
theorem const_ev {call call2 : Int → List Val → Val} {t t2 : Int} {r r2 p p2 : List Val} (e : Ex) (h : qbh e = true) : ev call t r p e = ev call2 t2 r2 p2 e := by
  obtain ⟨o, n, s, l⟩ := e
  rw [constE_iff] at h
  simp only [Ex.op] at h
  rw [ev, ev, if_neg (by omega), if_neg (by omega)]
  rcases h with rfl | rfl | rfl <;> simp [opV]
def Snd (F : List Fn) (c p : List Int) (call : Int → List Val → Val) (time : Int) (row params : List Val) : Prop := ∀ e t, ty F c p e = some t → (ev call time row params e).k = t ∧ qbc (ev call time row params e)
theorem snd_nil {c : List Int} {time : Int} {row : List Val} (h : qbo c row) : Snd [] c [] (fun _ _ => zeroV) time row [] := fun e t ht =>
  ev_fit (F := []) time (by intro i hi; simp at hi) 0 e (by simpa using ht) h rfl (by simp)
theorem sound_kind {v : Val} (h : qbc v) : v.k = 0 ∨ v.k = 1 ∨ v.k = 2 := by
  obtain ⟨h, -⟩ := h
  unfold okV at h
  split at h
  · exact .inl ‹_›
  · split at h
    · exact .inr (.inl ‹_›)
    · simp only [Bool.and_eq_true, decide_eq_true_eq] at h; omega
theorem bytes_nil {s : ByteArray} (h : s.toList = []) : s = ByteArray.empty := by
  apply WideShapes.bytes_inj
  rw [← ByteArray.toList_eq, h, ← ByteArray.toList_eq, empty_list]
theorem sound_num' {v : Val} (h : qbc v) (hk : v.k = 0) : v = numV v.n := by
  obtain ⟨k, n, s⟩ := v
  obtain ⟨h, -⟩ := h
  simp only at hk; subst hk
  simp [okV] at h
  rw [bytes_nil h]; rfl
theorem sound_text' {v : Val} (h : qbc v) (hk : v.k = 1) : v = textV v.s ∧ v.s.size ≤ 200 := by
  obtain ⟨k, n, s⟩ := v
  obtain ⟨h, h2⟩ := h
  simp only at hk; subst hk
  simp [okV] at h
  exact ⟨by rw [h.1]; rfl, h2⟩
theorem qev {v : Val} (h : qbc v) (hk : v.k = 2) : v = boolV (decide (v.n = 1)) ∧ (v.n = 0 ∨ v.n = 1) := by
  obtain ⟨k, n, s⟩ := v
  obtain ⟨h, -⟩ := h
  simp only at hk; subst hk
  simp [okV] at h
  obtain ⟨h1, h2⟩ := h
  rw [bytes_nil h2]
  refine ⟨?_, h1⟩
  rcases h1 with rfl | rfl <;> rfl
theorem qbq {v : Val} (h : qbc v) (F : List Fn) (c p : List Int) : ty F c p (qbf v) = some v.k ∧ (∀ call time row params, ev call time row params (qbf v) = v) ∧ qbh (qbf v) = true ∧ (qbf v).args = [] := by
  have e0 : ByteArray.empty.size = 0 := rfl
  rcases sound_kind h with hk | hk | hk
  · have := sound_num' h hk
    generalize v.n = n at this
    subst this
    refine ⟨?_, ?_, rfl, rfl⟩
    · simp [qbf, numV, ty, tys, tailT, leafT, e0]
    · intros; simp [qbf, numV, ev, evs, opV]
  · obtain ⟨this, hs⟩ := sound_text' h hk
    generalize v.s = s at this hs
    subst this
    refine ⟨?_, ?_, rfl, rfl⟩
    · simp [qbf, textV, ty, tys, tailT, leafT]; omega
    · intros; simp [qbf, textV, ev, evs, opV]
  · obtain ⟨this, hb⟩ := qev h hk
    generalize decide (v.n = 1) = b at this
    subst this
    refine ⟨?_, ?_, rfl, rfl⟩
    · cases b <;> simp [qbf, boolV, ty, tys, tailT, leafT, e0]
    · intros; cases b <;> simp [qbf, boolV, ev, evs, opV]
theorem sameB_eq {a b : Ex} (h : sameB a b = true) : a = b := by
  revert b
  induction a using Ex.ind with
  | h o n s l ih =>
    rintro ⟨o2, n2, s2, l2⟩ h
    rw [sameB] at h
    simp only [Bool.and_eq_true, decide_eq_true_eq] at h
    obtain ⟨rfl, rfl, hs, hl⟩ := h
    have hs2 : s = s2 := WideShapes.bytes_inj (by rw [← ByteArray.toList_eq, hs, ByteArray.toList_eq])
    subst hs2
    have : ∀ (l l2 : List Ex), (∀ x ∈ l, ∀ {b : Ex}, sameB x b = true → x = b) → qcq l l2 = true → l = l2 := fun l => by
      induction l with
      | nil => intro l2 _ h; cases l2 with
        | nil => rfl
        | cons y l2 => simp [qcq] at h
      | cons x l ih2 =>
        intro l2 hx h
        cases l2 with
        | nil => simp [qcq] at h
        | cons y l2 =>
          rw [qcq, Bool.and_eq_true] at h
          rw [hx x (by simp) h.1, ih2 l2 (fun z hz => hx z (by simp [hz])) h.2]
    rw [this l l2 ih hl]
theorem size_empty {s : ByteArray} (h : s.size = 0) : s = ByteArray.empty := by
  apply WideShapes.bytes_inj
  have : s.data.toList.length = 0 := by rw [Array.length_toList]; exact h
  rw [List.length_eq_zero_iff.1 this]; rfl
theorem tys_nil {F : List Fn} {c p : List Int} {l : List Ex} (h : tys F c p l = some []) : l = [] := by
  have := qcx l h
  exact List.length_eq_zero_iff.1 this.symm
theorem qdh {F : List Fn} {c p : List Int} {e : Ex} {t : Int} (hc : qbh e = true) (h : ty F c p e = some t) : ∃ v, qbc v ∧ v.k = t ∧ qbf v = e := by
  obtain ⟨o, n, s, l⟩ := e
  rw [constE_iff] at hc
  simp only [Ex.op] at hc
  rw [ty] at h
  cases hl : tys F c p l with
  | none => rw [hl] at h; cases h
  | some ts =>
    rw [hl] at h
    dsimp only at h
    unfold tailT at h
    split at h
    · cases h
    rename_i hs
    rw [if_neg (by omega)] at h
    split at h
    · rename_i hts
      subst hts
      obtain rfl := tys_nil hl
      unfold leafT at h
      rcases hc with rfl | rfl | rfl
      · obtain rfl := size_empty (s := s) (by omega)
        simp at h
        exact ⟨numV n, qdo n, h, rfl⟩
      · simp at h
        obtain ⟨⟨rfl, h2⟩, rfl⟩ := h
        exact ⟨textV s, sound_text (by omega), rfl, rfl⟩
      · obtain rfl := size_empty (s := s) (by omega)
        simp at h
        obtain ⟨h1, rfl⟩ := h
        refine ⟨boolV (decide (n = 1)), qcb _, rfl, ?_⟩
        rcases h1 with rfl | rfl <;> rfl
    · exfalso
      unfold operT at h
      split at h
      · cases h
      rw [if_neg (by omega), if_neg (by omega), if_neg (by omega), if_neg (by omega), if_neg (by omega), if_neg (by omega), if_neg (by omega), if_neg (by omega)] at h
      cases h
theorem ty_mk {F : List Fn} {c p : List Int} {o n t : Int} {s : ByteArray} {l : List Ex} (h : ty F c p (.mk o n s l) = some t) : ∃ ts, tys F c p l = some ts ∧ tailT F c p o n s ts = some t := by
  rw [ty] at h
  cases hl : tys F c p l with
  | none => rw [hl] at h; cases h
  | some ts => rw [hl] at h; exact ⟨ts, rfl, h⟩
theorem qex {F : List Fn} {c p : List Int} {o n t : Int} {s : ByteArray} {l : List Ex} (h : ty F c p (.mk o n s l) = some t) (ho : o ≠ 22) (hl : l ≠ []) : ∃ ts, tys F c p l = some ts ∧ operT o n ts = some t ∧ n = 0 ∧ (o = 1 ∨ s.size = 0) ∧ 6 ≤ o ∧ o ≤ 21 := by
  obtain ⟨ts, h1, h2⟩ := ty_mk h
  unfold tailT at h2
  split at h2
  · cases h2
  rename_i hs
  try rw [if_neg ho] at h2
  split at h2
  · rename_i hts
    subst hts
    exact absurd (tys_nil h1) hl
  · have h3 := h2
    unfold operT at h3
    split at h3
    · cases h3
    rename_i hn
    refine ⟨ts, h1, h2, by omega, by omega, ?_⟩
    by_cases hh : 6 ≤ o ∧ o ≤ 21
    · exact hh
    · exfalso
      rw [if_neg (by omega), if_neg (by omega), if_neg (by omega), if_neg (by omega), if_neg (by omega), if_neg (by omega), if_neg (by omega), if_neg (by omega)] at h3
      cases h3
theorem tys1 {F : List Fn} {c p : List Int} {l : List Ex} {a : Int} (h : tys F c p l = some [a]) : ∃ x, l = [x] ∧ ty F c p x = some a := by
  match l, h with
  | [], h => rw [tys] at h; cases h
  | [x], h =>
    simp only [tys] at h
    cases hx : ty F c p x with
    | none => rw [hx] at h; cases h
    | some t => rw [hx] at h; cases h; exact ⟨x, rfl, hx⟩
  | x :: y :: r, h => have := qcx _ h; simp at this
theorem qdp {F : List Fn} {c p : List Int} {x : Ex} {l : List Ex} {ts : List Int} (h : tys F c p (x :: l) = some ts) : ∃ t us, ts = t :: us ∧ ty F c p x = some t ∧ tys F c p l = some us := by
  rw [tys] at h
  cases hx : ty F c p x with
  | none => rw [hx] at h; cases h
  | some t =>
    rw [hx] at h
    cases hl : tys F c p l with
    | none => rw [hl] at h; cases h
    | some us => rw [hl] at h; cases h; exact ⟨t, us, rfl, rfl, rfl⟩
theorem tys2 {F : List Fn} {c p : List Int} {l : List Ex} {a b : Int} (h : tys F c p l = some [a, b]) : ∃ x y, l = [x, y] ∧ ty F c p x = some a ∧ ty F c p y = some b := by
  match l, h with
  | [], h => rw [tys] at h; cases h
  | x :: l, h =>
    obtain ⟨t, us, e, h1, h2⟩ := qdp h
    cases e
    obtain ⟨y, rfl, h3⟩ := tys1 h2
    exact ⟨x, y, rfl, h1, h3⟩
theorem tys3 {F : List Fn} {c p : List Int} {l : List Ex} {a b d : Int} (h : tys F c p l = some [a, b, d]) : ∃ x y z, l = [x, y, z] ∧ ty F c p x = some a ∧ ty F c p y = some b ∧ ty F c p z = some d := by
  match l, h with
  | [], h => rw [tys] at h; cases h
  | x :: l, h =>
    obtain ⟨t, us, e, h1, h2⟩ := qdp h
    cases e
    obtain ⟨y, z, rfl, h3, h4⟩ := tys2 h2
    exact ⟨x, y, z, rfl, h1, h3, h4⟩
theorem op6_ts {o n t : Int} {ts : List Int} (h : operT o n ts = some t) (ho : o = 6) : ts = [2] ∧ t = 2 := by
  subst ho
  unfold operT at h
  split at h
  · cases h
  rw [if_pos rfl] at h
  split at h <;> cases h
  exact ⟨‹_›, rfl⟩
theorem op1718_ts {o n t : Int} {ts : List Int} (h : operT o n ts = some t) (ho : o = 17 ∨ o = 18) : ts = [2, 2] ∧ t = 2 := by
  unfold operT at h
  split at h
  · cases h
  rw [if_neg (by omega), if_neg (by omega), if_neg (by omega), if_neg (by omega), if_neg (by omega), if_pos (by omega)] at h
  split at h <;> cases h
  exact ⟨‹_›, rfl⟩
theorem op21_ts {o n t : Int} {ts : List Int} (h : operT o n ts = some t) (ho : o = 21) : ts = [2, t, t] := by
  subst ho
  unfold operT at h
  split at h
  · cases h
  rw [if_neg (by omega), if_neg (by omega), if_neg (by omega), if_neg (by omega), if_neg (by omega), if_neg (by omega), if_neg (by omega), if_pos rfl] at h
  split at h
  · split at h
    · rename_i hab; cases h; rw [hab.1, hab.2]
    · cases h
  · cases h
theorem consts_ty {F : List Fn} {c p : List Int} : ∀ (l : List Ex) {ts : List Int}, tys F c p l = some ts → l.all qbh = true → tys [] [] [] l = some ts
  | [], ts, h, _ => by rw [tys] at h ⊢; exact h
  | x :: l, ts, h, hc => by
    obtain ⟨t, us, rfl, h1, h2⟩ := qdp h
    rw [List.all_cons, Bool.and_eq_true] at hc
    obtain ⟨v, hv, rfl, rfl⟩ := qdh hc.1 h1
    rw [tys, (qbq hv [] [] []).1, consts_ty l h2 hc.2]
theorem consts_ev {call call2 : Int → List Val → Val} {t t2 : Int} {r r2 p p2 : List Val} : ∀ l : List Ex, l.all qbh = true → evs call t r p l = evs call2 t2 r2 p2 l
  | [], _ => by rw [evs, evs]
  | x :: l, h => by
    rw [List.all_cons, Bool.and_eq_true] at h
    rw [evs, evs, const_ev x h.1, consts_ev l h.2]
theorem ev_mk (call : Int → List Val → Val) (time : Int) (row params : List Val) (o n : Int) (s : ByteArray) (l : List Ex) : ev call time row params (.mk o n s l) = if o = 21 then ifV (evs call time row params l) else opV call time row params o n s (evs call time row params l) := by rw [ev]
theorem closed_ok {F : List Fn} {c p : List Int} {o n t : Int} {s : ByteArray} {l : List Ex} (h : ty F c p (.mk o n s l) = some t) (ho : o ≠ 22) (hl : l ≠ []) (hc : l.all qbh = true) :
    ty [] [] [] (.mk o n s l) = some t ∧ qbc (evalP [] 0 [] (.mk o n s l)) ∧ (evalP [] 0 [] (.mk o n s l)).k = t ∧ ∀ call time row params, ev call time row params (.mk o n s l) = evalP [] 0 [] (.mk o n s l) := by
  obtain ⟨ts, h1, h2, rfl, hs, h6, h21⟩ := qex h ho hl
  have h3 : ty [] [] [] (.mk o 0 s l) = some t := by
    rw [ty, consts_ty l h1 hc]
    dsimp only
    unfold tailT
    rw [if_neg (by omega), if_neg ho, if_neg, h2]
    rintro rfl
    exact hl (tys_nil h1)
  obtain ⟨h4, h5⟩ := snd_nil (time := 0) (qbo.nil []) _ _ h3
  refine ⟨h3, h5, h4, fun call time row params => ?_⟩
  show _ = ev (callN [] 0 0) 0 [] [] _
  rw [ev_mk, ev_mk, consts_ev (call2 := callN [] 0 0) (t2 := 0) (r2 := []) (p2 := []) l hc]
  split
  · rfl
  · have a0 : ¬ o = 0 := by omega
    have a1 : ¬ o = 1 := by omega
    have a2 : ¬ o = 2 := by omega
    have a3 : ¬ o = 3 := by omega
    have a4 : ¬ o = 4 := by omega
    have a5 : ¬ o = 5 := by omega
    simp only [opV, a0, a1, a2, a3, a4, a5, ho, if_false]
theorem bool_of {v : Val} (h : qbc v) (hk : v.k = 2) : boolV (decide (v.n = 1)) = v := (qev h hk).1.symm
theorem top_ok {F : List Fn} {c p : List Int} {o n t : Int} {s : ByteArray} {l : List Ex} (h : ty F c p (.mk o n s l) = some t) :
    ty F c p (topF o n s l) = some t ∧ ∀ call time row params, Snd F c p call time row params → ev call time row params (topF o n s l) = ev call time row params (.mk o n s l) := by
  unfold topF
  split
  · rename_i hl; subst hl; exact ⟨h, fun _ _ _ _ _ => rfl⟩
  rename_i hl
  split
  · rename_i hc
    obtain ⟨-, h1, h2, h3⟩ := closed_ok h hc.1 hl hc.2
    obtain ⟨g1, g2, -, -⟩ := qbq h1 F c p
    exact ⟨by rw [g1, h2], fun call time row params _ => by rw [g2, h3]⟩
  rename_i hnc
  split
  · rename_i ho
    subst ho
    obtain ⟨ts, h1, h2, rfl, hs, -, -⟩ := qex h (by omega) hl
    obtain rfl := op21_ts h2 rfl
    obtain ⟨x, y, z, rfl, hx, hy, hz⟩ := tys3 h1
    unfold choiceP
    dsimp only
    have hev : ∀ call time row params, ev call time row params (.mk 21 0 s [x, y, z]) = if (ev call time row params x).n = 1 then ev call time row params y else ev call time row params z := fun call time row params => by
      rw [ev_mk, if_pos rfl]; simp only [evs]; rfl
    split
    · rename_i hc
      refine ⟨hy, fun call time row params hS => ?_⟩
      rw [hev]
      rcases hc with hc | hc
      · obtain ⟨v, hv, hvk, rfl⟩ := qdh hc.1 hx
        rw [(qbq hv F c p).2.1]
        have hn : (qbf v).n = v.n := by unfold qbf; rw [if_neg (by omega), if_neg (by omega), if_pos hvk]; rfl
        rw [if_pos (by rw [← hn]; exact hc.2)]
      · rw [sameB_eq hc]; split <;> rfl
    · rename_i hc
      split
      · rename_i hcx
        refine ⟨hz, fun call time row params hS => ?_⟩
        rw [hev]
        obtain ⟨v, hv, hvk, rfl⟩ := qdh hcx hx
        have hn : (qbf v).n = v.n := by unfold qbf; rw [if_neg (by omega), if_neg (by omega), if_pos hvk]; rfl
        rw [(qbq hv F c p).2.1, if_neg (fun h1 => hc (.inl ⟨hcx, by rw [hn]; exact h1⟩))]
      · exact ⟨h, fun _ _ _ _ _ => rfl⟩
  split
  · rename_i ho
    obtain ⟨ts, h1, h2, rfl, hs, -, -⟩ := qex h (by omega) hl
    obtain ⟨rfl, rfl⟩ := op1718_ts h2 ho
    obtain ⟨x, y, rfl, hx, hy⟩ := tys2 h1
    unfold logicP
    dsimp only
    have hev : ∀ call time row params, ev call time row params (.mk o 0 s [x, y]) = if o = 17 then boolV (decide ((ev call time row params x).n = 1) && decide ((ev call time row params y).n = 1)) else boolV (decide ((ev call time row params x).n = 1) || decide ((ev call time row params y).n = 1)) := fun call time row params => by
      rw [ev_mk, if_neg (by omega)]
      rcases ho with rfl | rfl <;> simp [evs, opV, binV]
    have hcn : ∀ v : Val, qbc v → v.k = 2 → (qbf v).n = v.n := fun v _ hvk => by unfold qbf; rw [if_neg (by omega), if_neg (by omega), if_pos hvk]; rfl
    split
    · rename_i hcx
      obtain ⟨v, hv, hvk, rfl⟩ := qdh hcx hx
      rw [hcn v hv hvk]
      split
      · rename_i hd
        refine ⟨hy, fun call time row params hS => ?_⟩
        obtain ⟨k1, k2⟩ := hS _ _ hy
        rw [hev, (qbq hv F c p).2.1]
        rcases ho with rfl | rfl
        · simp at hd; simp [hd, bool_of k2 k1]
        · simp at hd; simp [hd, bool_of k2 k1]
      · rename_i hd
        refine ⟨hx, fun call time row params hS => ?_⟩
        rw [hev, (qbq hv F c p).2.1]
        have hb := bool_of hv hvk
        rcases ho with rfl | rfl
        · simp at hd; simp [hd] at hb ⊢; exact hb.symm
        · simp at hd; simp [hd] at hb ⊢; exact hb.symm
    · rename_i hcx
      split
      · rename_i hcy
        obtain ⟨v, hv, hvk, rfl⟩ := qdh hcy hy
        rw [hcn v hv hvk]
        split
        · rename_i hd
          refine ⟨hx, fun call time row params hS => ?_⟩
          obtain ⟨k1, k2⟩ := hS _ _ hx
          rw [hev, (qbq hv F c p).2.1]
          rcases ho with rfl | rfl
          · simp at hd; simp [hd, bool_of k2 k1]
          · simp at hd; simp [hd, bool_of k2 k1]
        · rename_i hd
          refine ⟨hy, fun call time row params hS => ?_⟩
          rw [hev, (qbq hv F c p).2.1]
          have hb := bool_of hv hvk
          rcases ho with rfl | rfl
          · simp at hd; simp [hd] at hb ⊢; exact hb.symm
          · simp at hd; simp [hd] at hb ⊢; exact hb.symm
      · exact ⟨h, fun _ _ _ _ _ => rfl⟩
  split
  · rename_i ho
    subst ho
    obtain ⟨ts, h1, h2, rfl, hs, -, -⟩ := qex h (by omega) hl
    obtain ⟨rfl, rfl⟩ := op6_ts h2 rfl
    obtain ⟨x, rfl, hx⟩ := tys1 h1
    obtain ⟨o2, n2, s2, l2⟩ := x
    unfold notP
    dsimp only
    split
    · rename_i ho2
      subst ho2
      obtain ⟨ts2, g1, g2, rfl, -, -, -⟩ := qex hx (by omega) (by
        rintro rfl
        rw [ty] at hx
        simp [tys, tailT, leafT] at hx)
      obtain ⟨rfl, -⟩ := op6_ts g2 rfl
      obtain ⟨y, rfl, hy⟩ := tys1 g1
      dsimp only
      refine ⟨hy, fun call time row params hS => ?_⟩
      obtain ⟨k1, k2⟩ := hS _ _ hy
      have hb := (qev k2 k1)
      rw [ev_mk, if_neg (by omega)]
      simp only [evs, ev_mk]
      obtain ⟨e1, e2⟩ := hb
      rcases e2 with e2 | e2 <;> simp [opV, e2, boolV] <;> rw [e1, e2] <;> rfl
    · exact ⟨h, fun _ _ _ _ _ => rfl⟩
  · exact ⟨h, fun _ _ _ _ _ => rfl⟩
theorem fold_ok {F : List Fn} {c p : List Int} (e : Ex) : ∀ {t : Int}, ty F c p e = some t → ty F c p (foldE e) = some t ∧ ∀ call time row params, Snd F c p call time row params → ev call time row params (foldE e) = ev call time row params e := by
  induction e using Ex.ind with
  | h o n s l ih =>
    intro t h
    obtain ⟨ts, h1, h2⟩ := ty_mk h
    have : ∀ (l : List Ex) {ts : List Int}, (∀ x ∈ l, ∀ {t : Int}, ty F c p x = some t → ty F c p (foldE x) = some t ∧ ∀ call time row params, Snd F c p call time row params → ev call time row params (foldE x) = ev call time row params x) → tys F c p l = some ts →
        tys F c p (foldL l) = some ts ∧ ∀ call time row params, Snd F c p call time row params → evs call time row params (foldL l) = evs call time row params l := fun l => by
      induction l with
      | nil => intro ts _ h; rw [foldL]; exact ⟨h, fun _ _ _ _ _ => rfl⟩
      | cons x l ih2 =>
        intro ts hx h
        obtain ⟨t, us, rfl, g1, g2⟩ := qdp h
        obtain ⟨g3, g4⟩ := hx x (by simp) g1
        obtain ⟨g5, g6⟩ := ih2 (fun z hz => hx z (by simp [hz])) g2
        rw [foldL]
        refine ⟨by rw [tys, g3, g5], fun call time row params hS => ?_⟩
        rw [evs, evs, g4 _ _ _ _ hS, g6 _ _ _ _ hS]
    obtain ⟨g1, g2⟩ := this l ih h1
    have h3 : ty F c p (.mk o n s (foldL l)) = some t := by rw [ty, g1]; exact h2
    obtain ⟨g3, g4⟩ := top_ok h3
    rw [foldE]
    refine ⟨g3, fun call time row params hS => ?_⟩
    rw [g4 _ _ _ _ hS, ev_mk, ev_mk, g2 _ _ _ _ hS]
end Go.Proofs.YtnkimlkoijfcpaaDoor

/- Walk: the columns that an expression reads, of the reference. -/
namespace Go.Proofs.YtnkimlkoijfcpaaDoor
open Go.RowKit Go.Lib
def withP : List Int → Int → List Int
  | [], n => [n]
  | a :: l, n => if a < n then a :: withP l n else if a = n then a :: l else n :: a :: l
def addAll (l ns : List Int) : List Int := ns.foldl withP l
mutual
def readsP : Ex → List Int
  | .mk o n _ l => readsL (if o = 3 then [n] else []) l
def readsL (acc : List Int) : List Ex → List Int
  | [] => acc
  | e :: l => readsL (addAll acc (readsP e)) l
end
end Go.Proofs.YtnkimlkoijfcpaaDoor

/- Layer 16 on plain data: what depends on the time. -/
namespace Go.Proofs.YtnkimlkoijfcpaaDoor
open Go.RowKit Go.Lib
mutual
def timE (B : List Bool) : Ex → Bool
  | .mk o n _ l => decide (o = 5) || (if o = 22 ∧ 0 ≤ n ∧ n < B.length then B.getD n.toNat false else false) || timL B l
def timL (B : List Bool) : List Ex → Bool
  | [] => false
  | e :: l => timE B e || timL B l
end
end Go.Proofs.YtnkimlkoijfcpaaDoor

/- A value depends on the columns that are read, and on the time only if it is read. -/
namespace Go.Proofs.YtnkimlkoijfcpaaDoor
open Go.RowKit Go.Lib
end Go.Proofs.YtnkimlkoijfcpaaDoor

/- Layer 26 on plain data: folding again changes nothing; sizes; what is folded and reads nothing is a constant. -/
namespace Go.Proofs.YtnkimlkoijfcpaaDoor
open Go.RowKit Go.Lib
inductive NF : Ex → Prop
  | mk (o n : Int) (s : ByteArray) (l : List Ex) (h : ∀ x ∈ l, NF x) (ht : topF o n s l = .mk o n s l) : NF (.mk o n s l)
theorem nf_leaf (o n : Int) (s : ByteArray) : NF (.mk o n s []) := .mk o n s [] (by simp) (by unfold topF; rw [if_pos rfl])
theorem nf_const (v : Val) : NF (qbf v) := by
  unfold qbf
  split
  · exact nf_leaf _ _ _
  · split
    · exact nf_leaf _ _ _
    · split <;> exact nf_leaf _ _ _
theorem NF.arg {o n : Int} {s : ByteArray} {l : List Ex} (h : NF (.mk o n s l)) : ∀ x ∈ l, NF x := by cases h; assumption
theorem top_cases (o n : Int) (s : ByteArray) (l : List Ex) : topF o n s l = .mk o n s l ∨ (∃ v, topF o n s l = qbf v) ∨ topF o n s l ∈ l ∨ ∃ n2 s2, l = [.mk 6 n2 s2 [topF o n s l]] := by
  unfold topF
  split
  · rename_i h; subst h; exact .inl rfl
  split
  · exact .inr (.inl ⟨_, rfl⟩)
  split
  · unfold choiceP
    split
    · split
      · exact .inr (.inr (.inl (by simp)))
      · split
        · exact .inr (.inr (.inl (by simp)))
        · exact .inl rfl
    · exact .inl rfl
  split
  · unfold logicP
    split
    · split
      · split
        · exact .inr (.inr (.inl (by simp)))
        · exact .inr (.inr (.inl (by simp)))
      · split
        · split
          · exact .inr (.inr (.inl (by simp)))
          · exact .inr (.inr (.inl (by simp)))
        · exact .inl rfl
    · exact .inl rfl
  split
  · unfold notP
    split
    · split
      · rename_i ho2
        subst ho2
        split
        · exact .inr (.inr (.inr ⟨_, _, rfl⟩))
        · exact .inl rfl
      · exact .inl rfl
    · exact .inl rfl
  · exact .inl rfl
theorem top_nf {o n : Int} {s : ByteArray} {l : List Ex} (h : ∀ x ∈ l, NF x) : NF (topF o n s l) := by
  rcases top_cases o n s l with h1 | ⟨v, h1⟩ | h1 | ⟨n2, s2, h1⟩
  · rw [h1]; exact .mk o n s l h h1
  · rw [h1]; exact nf_const v
  · exact h _ h1
  · generalize topF o n s l = y at h1 ⊢
    exact (h (.mk 6 n2 s2 [y]) (by rw [h1]; simp)).arg _ (by simp)
theorem fold_nf (e : Ex) : NF (foldE e) := by
  induction e using Ex.ind with
  | h o n s l ih =>
    rw [foldE]
    refine top_nf fun x hx => ?_
    rw [qeb] at hx
    obtain ⟨y, hy, rfl⟩ := List.mem_map.1 hx
    exact ih y hy
theorem partsL_map {f : Ex → Ex} : ∀ l : List Ex, (∀ x ∈ l, parts (f x) ≤ parts x) → qu (l.map f) ≤ qu l
  | [], _ => by simp [qu]
  | x :: l, h => by
    have h1 := h x (by simp)
    have h2 := partsL_map l fun y hy => h y (by simp [hy])
    rw [List.map_cons, qu, qu]; omega
theorem const_parts (v : Val) : parts (qbf v) = 1 ∧ levels (qbf v) = 1 := by
  unfold qbf zeroE
  split
  · exact ⟨by rw [parts, qu], by rw [levels, qv]; rfl⟩
  · split
    · exact ⟨by rw [parts, qu], by rw [levels, qv]; rfl⟩
    · split <;> exact ⟨by rw [parts, qu], by rw [levels, qv]; rfl⟩
theorem top_parts (o n : Int) (s : ByteArray) (l : List Ex) : parts (topF o n s l) ≤ parts (.mk o n s l) := by
  rcases top_cases o n s l with h1 | ⟨v, h1⟩ | h1 | ⟨n2, s2, h1⟩
  · rw [h1]; exact Nat.le_refl _
  · rw [h1, (const_parts v).1, parts]; omega
  · have := qbj l _ h1
    rw [parts.eq_1 o n s l]; omega
  · have h2 : parts (.mk o n s l) = qu l + 1 := by rw [parts]
    have h3 : qu l = qu [.mk 6 n2 s2 [topF o n s l]] := by rw [← h1]
    simp only [qu, parts] at h3
    omega
theorem fold_parts (e : Ex) : parts (foldE e) ≤ parts e := by
  induction e using Ex.ind with
  | h o n s l ih =>
    rw [foldE]
    refine Nat.le_trans (top_parts o n s _) ?_
    rw [parts, parts, qeb]
    have := partsL_map (f := foldE) l ih
    omega
theorem levelsL_map {f : Ex → Ex} : ∀ (l : List Ex) (n m : Int), n ≤ m → (∀ x ∈ l, levels (f x) ≤ levels x) → qv (l.map f) n ≤ qv l m
  | [], n, m, h, _ => by rw [List.map_nil, qv, qv]; exact h
  | x :: l, n, m, h, hx => by
    rw [List.map_cons, qv, qv]
    exact levelsL_map l _ _ (by have := hx x (by simp); omega) fun y hy => hx y (by simp [hy])
theorem top_levels (o n : Int) (s : ByteArray) (l : List Ex) : levels (topF o n s l) ≤ levels (.mk o n s l) := by
  have h0 := qdn (.mk o n s l)
  rcases top_cases o n s l with h1 | ⟨v, h1⟩ | h1 | ⟨n2, s2, h1⟩
  · rw [h1]; omega
  · rw [h1, (const_parts v).2]; omega
  · have := qdm l 0 _ h1
    rw [levels.eq_1 o n s l]; omega
  · have h2 : levels (.mk o n s l) = qv l 0 + 1 := by rw [levels]
    have h3 : qv l 0 = qv [.mk 6 n2 s2 [topF o n s l]] 0 := by rw [← h1]
    simp only [qv, levels] at h3
    omega
theorem fold_levels (e : Ex) : levels (foldE e) ≤ levels e := by
  induction e using Ex.ind with
  | h o n s l ih =>
    rw [foldE]
    refine Int.le_trans (top_levels o n s _) ?_
    rw [levels, levels, qeb]
    have := levelsL_map (f := foldE) l 0 0 (by omega) ih
    omega
end Go.Proofs.YtnkimlkoijfcpaaDoor

/- A law's entry: the arguments' readings as trees; and its end: true, and nothing that was there has changed. -/
namespace Go.Proofs.YtnkimlkoijfcpaaDoor
open Go.ChangeShapes Go.WideShapes Go.ChangeAt Go.RowKit Go.Lib
theorem Tryd.own : ownKnob Tryd.prog.godebug = none := by kernel_rfl
theorem Tryd.laidOut : laidOutB Tryd.prog = true := by kernel_rfl
section
variable {H : Type} {enc : TypeId × Value → H} {P : Program}
theorem post_of_below {f : Func} {s : ChangeSpec} {apart fresh handsOn again : Bool} {W W' : World} {args : Array Value} {v : Value} {ds gs : List (DataW H)} {before pa pv : List MemPlace}
    (hW : DataW.Whole enc P f.params.toList s.vars apart W args.toList ds gs before)
    (hres : ∀ (b : Nat) (sp : Nat → Bool) (hd : Bool), DataW.TrodAll enc P W' b sp hd f.resultTypes.toList (v.resultList f.resultTypes.size) (s.fn H (ds ++ gs)).results [])
    (hargs : ∀ sp : Nat → Bool, (∀ p ∈ before, sp p.block = true) → DataW.TrodAll enc P W' 0 sp true f.params.toList args.toList (s.fn H (ds ++ gs)).args pa)
    (hvars : ∀ sp : Nat → Bool, (∀ p ∈ before, sp p.block = true) → DataW.TrodVars enc P W' sp s.vars (s.fn H (ds ++ gs)).vars pv)
    (hps : before = pa ++ pv) (hb : Below W.heap.size W W')
    (hok : ∀ (j : Nat) (t : TypeId) (r : Value), f.resultTypes[j]? = some t → (v.resultList f.resultTypes.size)[j]? = some r → Value.okWide P W' .any 0 t r) :
    s.post enc P f apart fresh handsOn again W args v W' := by
  have hlt : ∀ p ∈ before, p.block < W.heap.size := fun p hp => hW.lt p hp
  have hold : ∀ p ∈ before, (fun b => decide (b < W.heap.size)) p.block = true := fun p hp => by simpa using hlt p hp
  refine ⟨ds, gs, before, [], pa, pv, hW, hres _ _ _, hargs _ hold, hvars _ hold, World.keptBut_mono (fun p hp => ⟨hp, ?_⟩) (hb.frame (· ∈ before)), fun _ => ?_⟩
  · rw [hps, List.mem_append] at hp
    exact Or.inr hp
  · obtain ⟨_, _, _, _, _, hz, hn⟩ := hW
    refine ⟨hok, _, _, ([] ++ pa) ++ pv, ⟨[] ++ pa, pv, trodAll_append (hargs _ (fun _ _ => rfl)) (hres _ _ _), hvars _ (fun _ _ => rfl), rfl, ?_, ?_⟩, ?_⟩
    · intro b off hp
      have hin : MemPlace.cell b off ∈ before := by rw [hps]; simpa using hp
      rw [hb.frozen (hlt _ hin)]
      exact hz b off hin
    · intro ha
      have := hn ha
      rw [hps] at this
      simpa using this
    · intro p hp _
      rw [hps]
      simpa using hp
theorem args_stay (hl : laidOutB P = true) {W W' : World} {sp : Nat → Bool} (hb : Below W.heap.size W W') : ∀ {ts : List TypeId} {vs : List Value} {ds : List (DataW H)} {ps : List MemPlace},
    (∀ t ∈ ts, P.readableRec t = true ∧ t < P.types.size) → DataW.TrodAll enc P W 0 (fun _ => true) true ts vs ds ps → (∀ p ∈ ps, p.block < W.heap.size) → (∀ p ∈ ps, sp p.block = true) →
    DataW.TrodAll enc P W' 0 sp true ts vs ds ps
  | [], [], [], _, _, h, _, _ => h
  | [], _ :: _, _, _, _, h, _, _ => h.elim
  | [], [], _ :: _, _, _, h, _, _ => h.elim
  | _ :: _, [], _, _, _, h, _, _ => h.elim
  | _ :: _, _ :: _, [], _, _, h, _, _ => h.elim
  | t :: ts, v :: vs, d :: ds, ps, ht, h, hlt, hsp => by
    obtain ⟨p, q, h1, h2, rfl⟩ := h
    refine ⟨p, q, WideElems.Trod_stays hl (ht t (by simp)).1 (ht t (by simp)).2 h1 (fun x hx => hb.same (hlt x (by simp [hx]))) (fun x hx => hsp x (by simp [hx])), ?_, rfl⟩
    exact args_stay hl hb (fun t h => ht t (by simp [h])) h2 (fun x hx => hlt x (by simp [hx])) (fun x hx => hsp x (by simp [hx]))
theorem law_post (hl : laidOutB P = true) {f : Func} {s : ChangeSpec} {apart fresh handsOn again : Bool} {W W' : World} {args : Array Value} {ds gs : List (DataW H)} {before : List MemPlace} {tb : TypeId}
    (hW : DataW.Whole enc P f.params.toList s.vars apart W args.toList ds gs before) (hv : s.vars = []) (hs : s.fn H (ds ++ gs) = { results := [.lit (.bool true)], args := ds })
    (hrt : f.resultTypes = #[tb]) (htb : P.underlying tb = some .bool) (hts0 : (f.params.toList.all fun t => P.readableRec t && decide (t < P.types.size)) = true) (hb : Below W.heap.size W W') :
    s.post enc P f apart fresh handsOn again W args (.bool true) W' := by
  have hts : ∀ t ∈ f.params.toList, P.readableRec t = true ∧ t < P.types.size := by
    intro t ht
    have := List.all_eq_true.1 hts0 t ht
    simpa using this
  have hlt : ∀ p ∈ before, p.block < W.heap.size := fun p hp => hW.lt p hp
  have hW2 := hW
  obtain ⟨p, q, hA, hV, rfl, -, -⟩ := hW
  rw [hv] at hV
  obtain ⟨rfl, rfl⟩ := trodVars_none hV
  refine post_of_below (pa := p) (pv := []) hW2 ?_ ?_ ?_ (by simp) hb ?_
  · intro b sp hd
    rw [hs, hrt]
    exact trodAll_mk1 ⟨1, by simp [DataW.trod, Value.cells, htb]⟩
  · intro sp hsp
    rw [hs]
    exact args_stay hl hb hts hA (fun x hx => hlt x (by simp [hx])) (fun x hx => hsp x (by simp [hx]))
  · intro sp hsp
    rw [hs, hv]
    exact rfl
  · intro j t r hj hr
    rw [hrt] at hj hr
    obtain rfl : j = 0 := by
      have := (Array.getElem?_eq_some_iff.1 hj).1
      simpa using this
    simp at hj
    subst hj
    have : r = .bool true := by simpa [Value.resultList] using hr.symm
    subst this
    simp [Value.okWide, htb, Cell.okWide, Cell.ok]
variable {w w0 : World} {sp : Nat → Bool} {hd : Bool} {b0 : Nat} {t : TypeId} {v : Value} {d : DataW H} {ps : List MemPlace}
theorem par_sl {e : TypeId} (ht : P.underlying t = some (.slice e)) (hval : Value.okWide P w0 .any b0 t v) (h : DataW.Trod enc P w 0 sp hd t v d ps) {α : Type} {f : α → D} (hf : ∀ N, Trods enc P w sp hd t f N) : ∃ x, Rd w Any (f x) [v] := by
  obtain ⟨a, len, cap, rfl⟩ := okWide_slice ht hval
  obtain ⟨fuel, h⟩ := h
  exact hf (fuel + 1) fuel _ _ (by omega) h
theorem par_st {fs : Array Field} (ht : P.underlying t = some (.struct fs)) (hval : Value.okWide P w0 .any b0 t v) (h : DataW.Trod enc P w 0 sp hd t v d ps) {α : Type} {f : α → D} (hf : ∀ N, Trods enc P w sp hd t f N) : ∃ x cs, v = .agg cs.toArray ∧ Rd w Any (f x) cs := by
  obtain ⟨cs, rfl, -⟩ := okWide_struct ht hval
  obtain ⟨fuel, h⟩ := h
  obtain ⟨x, hx⟩ := hf (fuel + 1) fuel _ _ (by omega) h
  exact ⟨x, cs.toList, rfl, hx⟩
end
end Go.Proofs.YtnkimlkoijfcpaaDoor

/- Lifting a law whose row lists variables: the world's shape and what the variables hold, both handed on. -/
namespace Go.Proofs.YtnkimlkoijfcpaaDoor
open Go.ChangeShapes Go.WideShapes Go.ChangeAt Go.RowKit Go.Lib
section
variable {H : Type} {enc : TypeId × Value → H}
end
end Go.Proofs.YtnkimlkoijfcpaaDoor

/- Typed views of api.Delta. -/
namespace Go.Proofs.YtnkimlkoijfcpaaDoor
open Go.RowKit Go.Lib
structure Delta where
  time : Int
  row : List Val
  n : Int
  deriving DecidableEq
def Delta.d (x : Delta) : D := .st [.int x.time, .sl (x.row.map Val.d), .int x.n]
theorem Delta.width (x : Delta) : x.d.width = 3 := by
  simp [Delta.d, D.width, D.widths]
theorem Delta.widths (l : List Delta) : ∀ d ∈ l.map Delta.d, d.width = 3 := by
  intro d hd; obtain ⟨x, -, rfl⟩ := List.mem_map.1 hd; exact Delta.width x
theorem Delta.open {w : World} {S : Nat → Prop} {x : Delta} {cs : List Value} (h : Rd w S x.d cs) : ∃ (A1 : Option Addr) (cap1 b1 off1 : Nat), cs = [.int .i64 x.time, .slice A1 x.row.length cap1, .int .i64 x.n] ∧ x.row.length ≤ cap1 ∧ cap1 ≤ 9223372036854775807 ∧ (0 < x.row.length → A1 = some ⟨b1, off1, none⟩ ∧ S b1) ∧ RdM w S (x.row.map Val.d) b1 off1 := by
  simp only [Delta.d, Delta.d, Rd, RdS, List.length_map] at h
  obtain ⟨_, _, rfl, rfl, ⟨_, _, rfl, ⟨A1, cap1, b1, off1, rfl, p1, q1, r1, s1⟩, ⟨_, _, rfl, rfl, rfl⟩⟩⟩ := h
  exact ⟨A1, cap1, b1, off1, by simp, p1, q1, r1, s1⟩
theorem Delta.at {w : World} {S : Nat → Prop} {l : List Delta} {b off : Nat} (hm : RdM w S (l.map Delta.d) b off) {k : Nat} (hk : k < l.length) : ∃ (A1 : Option Addr) (cap1 b1 off1 : Nat), w.cell? ⟨b, off + k * 3, none⟩ = some (.int .i64 l[k].time) ∧ w.cell? ⟨b, off + k * 3 + 1, none⟩ = some (.slice A1 l[k].row.length cap1) ∧ w.cell? ⟨b, off + k * 3 + 1 + 1, none⟩ = some (.int .i64 l[k].n) ∧ Rd w S l[k].d [.int .i64 l[k].time, .slice A1 l[k].row.length cap1, .int .i64 l[k].n] ∧ l[k].row.length ≤ cap1 ∧ cap1 ≤ 9223372036854775807 ∧ (0 < l[k].row.length → A1 = some ⟨b1, off1, none⟩ ∧ S b1) ∧ RdM w S (l[k].row.map Val.d) b1 off1 := by
  obtain ⟨cs, hc, hr⟩ := RdM.get _ b off hm (Delta.widths l) k (by simpa using hk)
  rw [List.getElem_map] at hr
  obtain ⟨A1, cap1, b1, off1, rfl, hf⟩ := Delta.open hr
  simp only [qbg, and_true] at hc
  obtain ⟨c0, c1, c2⟩ := hc
  exact ⟨A1, cap1, b1, off1, c0, c1, c2, hr, hf⟩
end Go.Proofs.YtnkimlkoijfcpaaDoor

/- Typed views of api.Ins. -/
namespace Go.Proofs.YtnkimlkoijfcpaaDoor
open Go.RowKit Go.Lib
structure Ins where
  op : Int
  to : Int
  a : Int
  b : Int
  c : Int
  n : Int
  s : ByteArray
  deriving DecidableEq
def Ins.d (x : Ins) : D := .st [.int x.op, .int x.to, .int x.a, .int x.b, .int x.c, .int x.n, .str x.s]
theorem Ins.width (x : Ins) : x.d.width = 7 := by
  simp [Ins.d, D.width, D.widths]
theorem Ins.widths (l : List Ins) : ∀ d ∈ l.map Ins.d, d.width = 7 := by
  intro d hd; obtain ⟨x, -, rfl⟩ := List.mem_map.1 hd; exact Ins.width x
theorem Ins.open {w : World} {S : Nat → Prop} {x : Ins} {cs : List Value} (h : Rd w S x.d cs) : cs = [.int .i64 x.op, .int .i64 x.to, .int .i64 x.a, .int .i64 x.b, .int .i64 x.c, .int .i64 x.n, .string x.s] := by
  simp only [Ins.d, Ins.d, Rd, RdS, List.length_map] at h
  obtain ⟨_, _, rfl, rfl, ⟨_, _, rfl, rfl, ⟨_, _, rfl, rfl, ⟨_, _, rfl, rfl, ⟨_, _, rfl, rfl, ⟨_, _, rfl, rfl, ⟨_, _, rfl, rfl, rfl⟩⟩⟩⟩⟩⟩⟩ := h
  simp
theorem Ins.at {w : World} {S : Nat → Prop} {l : List Ins} {b off : Nat} (hm : RdM w S (l.map Ins.d) b off) {k : Nat} (hk : k < l.length) : w.cell? ⟨b, off + k * 7, none⟩ = some (.int .i64 l[k].op) ∧ w.cell? ⟨b, off + k * 7 + 1, none⟩ = some (.int .i64 l[k].to) ∧ w.cell? ⟨b, off + k * 7 + 1 + 1, none⟩ = some (.int .i64 l[k].a) ∧ w.cell? ⟨b, off + k * 7 + 1 + 1 + 1, none⟩ = some (.int .i64 l[k].b) ∧ w.cell? ⟨b, off + k * 7 + 1 + 1 + 1 + 1, none⟩ = some (.int .i64 l[k].c) ∧ w.cell? ⟨b, off + k * 7 + 1 + 1 + 1 + 1 + 1, none⟩ = some (.int .i64 l[k].n) ∧ w.cell? ⟨b, off + k * 7 + 1 + 1 + 1 + 1 + 1 + 1, none⟩ = some (.string l[k].s) ∧ Rd w S l[k].d [.int .i64 l[k].op, .int .i64 l[k].to, .int .i64 l[k].a, .int .i64 l[k].b, .int .i64 l[k].c, .int .i64 l[k].n, .string l[k].s] := by
  obtain ⟨cs, hc, hr⟩ := RdM.get _ b off hm (Ins.widths l) k (by simpa using hk)
  rw [List.getElem_map] at hr
  obtain rfl := Ins.open hr
  simp only [qbg, and_true] at hc
  obtain ⟨c0, c1, c2, c3, c4, c5, c6⟩ := hc
  exact ⟨c0, c1, c2, c3, c4, c5, c6, hr⟩
end Go.Proofs.YtnkimlkoijfcpaaDoor

/- Typed views of api.Code. -/
namespace Go.Proofs.YtnkimlkoijfcpaaDoor
open Go.RowKit Go.Lib
structure Cod where
  ins : List Ins
  types : List Int
  out : Int
  deriving DecidableEq
def Cod.d (x : Cod) : D := .st [.sl (x.ins.map Ins.d), .sl (x.types.map D.int), .int x.out]
theorem Cod.width (x : Cod) : x.d.width = 3 := by
  simp [Cod.d, D.width, D.widths]
theorem Cod.widths (l : List Cod) : ∀ d ∈ l.map Cod.d, d.width = 3 := by
  intro d hd; obtain ⟨x, -, rfl⟩ := List.mem_map.1 hd; exact Cod.width x
theorem Cod.open {w : World} {S : Nat → Prop} {x : Cod} {cs : List Value} (h : Rd w S x.d cs) : ∃ (A1 : Option Addr) (cap1 b1 off1 : Nat) (A2 : Option Addr) (cap2 b2 off2 : Nat), cs = [.slice A1 x.ins.length cap1, .slice A2 x.types.length cap2, .int .i64 x.out] ∧ x.ins.length ≤ cap1 ∧ cap1 ≤ 9223372036854775807 ∧ (0 < x.ins.length → A1 = some ⟨b1, off1, none⟩ ∧ S b1) ∧ RdM w S (x.ins.map Ins.d) b1 off1 ∧ x.types.length ≤ cap2 ∧ cap2 ≤ 9223372036854775807 ∧ (0 < x.types.length → A2 = some ⟨b2, off2, none⟩ ∧ S b2) ∧ RdM w S (x.types.map D.int) b2 off2 := by
  simp only [Cod.d, Cod.d, Rd, RdS, List.length_map] at h
  obtain ⟨_, _, rfl, ⟨A1, cap1, b1, off1, rfl, p1, q1, r1, s1⟩, ⟨_, _, rfl, ⟨A2, cap2, b2, off2, rfl, p2, q2, r2, s2⟩, ⟨_, _, rfl, rfl, rfl⟩⟩⟩ := h
  exact ⟨A1, cap1, b1, off1, A2, cap2, b2, off2, by simp, p1, q1, r1, s1, p2, q2, r2, s2⟩
theorem Cod.at {w : World} {S : Nat → Prop} {l : List Cod} {b off : Nat} (hm : RdM w S (l.map Cod.d) b off) {k : Nat} (hk : k < l.length) : ∃ (A1 : Option Addr) (cap1 b1 off1 : Nat) (A2 : Option Addr) (cap2 b2 off2 : Nat), w.cell? ⟨b, off + k * 3, none⟩ = some (.slice A1 l[k].ins.length cap1) ∧ w.cell? ⟨b, off + k * 3 + 1, none⟩ = some (.slice A2 l[k].types.length cap2) ∧ w.cell? ⟨b, off + k * 3 + 1 + 1, none⟩ = some (.int .i64 l[k].out) ∧ Rd w S l[k].d [.slice A1 l[k].ins.length cap1, .slice A2 l[k].types.length cap2, .int .i64 l[k].out] ∧ l[k].ins.length ≤ cap1 ∧ cap1 ≤ 9223372036854775807 ∧ (0 < l[k].ins.length → A1 = some ⟨b1, off1, none⟩ ∧ S b1) ∧ RdM w S (l[k].ins.map Ins.d) b1 off1 ∧ l[k].types.length ≤ cap2 ∧ cap2 ≤ 9223372036854775807 ∧ (0 < l[k].types.length → A2 = some ⟨b2, off2, none⟩ ∧ S b2) ∧ RdM w S (l[k].types.map D.int) b2 off2 := by
  obtain ⟨cs, hc, hr⟩ := RdM.get _ b off hm (Cod.widths l) k (by simpa using hk)
  rw [List.getElem_map] at hr
  obtain ⟨A1, cap1, b1, off1, A2, cap2, b2, off2, rfl, hf⟩ := Cod.open hr
  simp only [qbg, and_true] at hc
  obtain ⟨c0, c1, c2⟩ := hc
  exact ⟨A1, cap1, b1, off1, A2, cap2, b2, off2, c0, c1, c2, hr, hf⟩
end Go.Proofs.YtnkimlkoijfcpaaDoor
