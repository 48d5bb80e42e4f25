/- Pure: how many parts are evaluated; at most the steps. -/
import Derived.Test.YtmhelkhmgbbfhaaGa12
namespace Go.Proofs.Ytmhelkhmgbbfhaa
open Go.RowKit Go.Lib

def cntOf (cc : Int → List Val → Int) (op n : Int) (vs : List Val) (ks : List Int) : Int :=
  if op = 21 then 1 + ks.getD 0 0 + (if (vs.getD 0 zeroV).n = 1 then ks.getD 1 0 else ks.getD 2 0)
  else 1 + sumI ks + (if op = 22 then cc n vs else 0)
mutual
def cnt (call : Int → List Val → Val) (cc : Int → List Val → Int) (time : Int) (row params : List Val) : Ex → Int
  | .mk op n _ l => cntOf cc op n (evs call time row params l) (cnts call cc time row params l)
def cnts (call : Int → List Val → Val) (cc : Int → List Val → Int) (time : Int) (row params : List Val) : List Ex → List Int
  | [] => []
  | e :: l => cnt call cc time row params e :: cnts call cc time row params l
end
def cntN (F : List Fn) (time : Int) : Nat → Int → List Val → Int
  | 0 => fun _ _ => 0
  | m + 1 => fun i vs => match F[i.toNat]? with
    | some f => cnt (callN F time m) (cntN F time m) time [] vs f.body
    | none => 0
theorem cnts_map (call : Int → List Val → Val) (cc : Int → List Val → Int) (time : Int) (row params : List Val) : ∀ l : List Ex, cnts call cc time row params l = l.map (cnt call cc time row params)
  | [] => by rw [cnts]; rfl
  | e :: l => by rw [cnts, cnts_map call cc time row params l]; rfl

theorem bodiesS_append : ∀ (F G : List Fn) (B : List Int), bodiesS B (F ++ G) = bodiesS (bodiesS B F) G
  | [], _, _ => rfl
  | f :: F, G, B => by rw [List.cons_append, bodiesS, bodiesS, bodiesS_append F G]
theorem bodiesS_ext : ∀ (F : List Fn) (B : List Int), ∃ T, bodiesS B F = B ++ T ∧ T.length = F.length
  | [], B => ⟨[], by rw [bodiesS]; simp, rfl⟩
  | f :: F, B => by
    obtain ⟨T, h1, h2⟩ := bodiesS_ext F (B ++ [countE B f.body])
    exact ⟨countE B f.body :: T, by rw [bodiesS, h1]; simp, by simp [h2]⟩
theorem bodiesS_len (F : List Fn) : (bodiesS [] F).length = F.length := by
  obtain ⟨T, h1, h2⟩ := bodiesS_ext F []
  rw [h1]; simpa using h2
theorem bodiesS_split (F : List Fn) (i : Nat) (h : i < F.length) : ∃ T, bodiesS [] F = bodiesS [] (F.take i) ++ countE (bodiesS [] (F.take i)) F[i].body :: T := by
  have h1 : F = F.take i ++ F[i] :: F.drop (i + 1) := by rw [List.getElem_cons_drop h, List.take_append_drop]
  have h2 : bodiesS [] F = bodiesS [] (F.take i ++ F[i] :: F.drop (i + 1)) := congrArg _ h1
  rw [h2, bodiesS_append, bodiesS]
  obtain ⟨T, h3, -⟩ := bodiesS_ext (F.drop (i + 1)) (bodiesS [] (F.take i) ++ [countE (bodiesS [] (F.take i)) F[i].body])
  exact ⟨T, by rw [h3]; simp⟩

theorem countE_congr {B B' : List Int} {m : Nat} (h : ∀ i, i < m → B.getD i 0 = B'.getD i 0) (h1 : m ≤ B.length) (h2 : m ≤ B'.length) (e : Ex) : wfS m e = true → countE B e = countE B' e := by
  induction e using Ex.ind with
  | h op n s l ih =>
    intro hw
    rw [wfS, wfSL_all] at hw
    simp only [Bool.and_eq_true, List.all_eq_true, Bool.or_eq_true, Bool.not_eq_true', decide_eq_false_iff_not, decide_eq_true_eq] at hw
    obtain ⟨⟨-, hc⟩, hl⟩ := hw
    have hL : countL B l = countL B' l := by
      rw [countL_map, countL_map]
      exact List.map_congr_left fun e he => ih e he (hl e he)
    rw [countE, countE, hL]
    unfold stepsOf
    split
    · rfl
    · by_cases ho : op = 22
      · obtain ⟨h3, h4⟩ := hc.resolve_left (fun h => h ho)
        rw [if_pos ⟨ho, h3, by omega⟩, if_pos ⟨ho, h3, by omega⟩, h n.toNat (by omega)]
      · rw [if_neg (fun h => ho h.1), if_neg (fun h => ho h.1)]
/-- the steps of a body of a right function -/
theorem body_steps {F : List Fn} (hOk : ∀ i, i < F.length → okF F i = true) (i : Nat) (h : i < F.length) : (bodiesS [] F).getD i 0 = countE (bodiesS [] F) F[i].body := by
  obtain ⟨T, hT⟩ := bodiesS_split F i h
  have hlen : (bodiesS [] (F.take i)).length = i := by rw [bodiesS_len]; simp; omega
  have h1 : (bodiesS [] F).getD i 0 = countE (bodiesS [] (F.take i)) F[i].body := by
    rw [hT, List.getD_eq_getElem?_getD, List.getElem?_append_right (by omega), hlen]; simp
  rw [h1]
  have hw : wfS i F[i].body = true := by
    have hb := okF_body (hOk i h) (List.getElem?_eq_getElem h)
    have := wfS_of_ty _ hb
    rwa [List.length_take, Nat.min_eq_left (by omega)] at this
  refine countE_congr (m := i) (fun j hj => ?_) (by omega) (by rw [bodiesS_len]; omega) _ hw
  rw [hT, List.getD_eq_getElem?_getD, List.getD_eq_getElem?_getD, List.getElem?_append_left (by omega)]

theorem sumI_le {l : List Ex} {f g : Ex → Int} (h : ∀ e ∈ l, 0 ≤ f e ∧ f e ≤ g e) : 0 ≤ sumI (l.map f) ∧ sumI (l.map f) ≤ sumI (l.map g) := by
  induction l with
  | nil => simp [sumI]
  | cons e l ih =>
    have h1 := h e (by simp)
    have h2 := ih fun x hx => h x (by simp [hx])
    simp only [List.map_cons, sumI]; omega
theorem sumI_mem {ks : List Int} (h : GoodS ks) {k : Int} (hk : k ∈ ks) : k ≤ sumI ks := by
  induction ks with
  | nil => simp at hk
  | cons x l ih =>
    have hl : GoodS l := fun y hy => h y (by simp [hy])
    have h0 := sumI_nonneg hl
    have hx := h x (by simp)
    rw [sumI]
    rcases List.mem_cons.1 hk with rfl | hk
    · omega
    · have := ih hl hk; omega

/-- the parts of the sum, where it is not cut -/
theorem stepsOf_open {B ks : List Int} {op n : Int} (hB : GoodS B) (hk : GoodS ks) (h3 : op = 21 → ks.length = 3) (h22 : op = 22 → 0 ≤ n ∧ n < B.length) (h : stepsOf B op n ks < 1099511627776) :
    (op = 21 → ∃ a b c, ks = [a, b, c] ∧ stepsOf B op n ks = 1 + a + max b c) ∧ (op ≠ 21 → stepsOf B op n ks = 1 + sumI ks + (if op = 22 then B.getD n.toNat 0 else 0)) := by
  constructor
  · rintro rfl
    obtain ⟨a, b, c, rfl⟩ := len_3s (h3 rfl)
    refine ⟨a, b, c, rfl, ?_⟩
    rw [stepsOf_if B _ n rfl] at h ⊢
    unfold capS at h ⊢; omega
  · intro ho
    have h0 := sumI_nonneg hk
    rw [stepsOf_sum B ks op n (Or.inl ho)] at h ⊢
    by_cases hc : op = 22
    · have hn := h22 hc
      have hb := goodS_getD hB n.toNat
      rw [if_pos ⟨hc, hn⟩] at h ⊢
      rw [if_pos hc]
      rw [sumS_eq ks 1 hk (by omega) (by omega)] at h ⊢
      unfold capS at h ⊢; omega
    · rw [if_neg (fun h => hc h.1)] at h ⊢
      rw [if_neg hc]
      rw [sumS_eq ks 1 hk (by omega) (by omega)] at h ⊢
      unfold capS at h ⊢; omega

theorem cnt_le {F : List Fn} (time : Int) (hOk : ∀ i, i < F.length → okF F i = true) : ∀ (m : Nat) (e : Ex) {c p : List Int} {row params : List Val} {t : Int}, ty (F.take m) c p e = some t → countE (bodiesS [] F) e < 1099511627776 →
    0 ≤ cnt (callN F time m) (cntN F time m) time row params e ∧ cnt (callN F time m) (cntN F time m) time row params e ≤ countE (bodiesS [] F) e := by
  have hB : GoodS (bodiesS [] F) := bodiesS_good F [] (fun k hk => by simp at hk)
  intro m
  induction m with
  | zero =>
    intro e
    induction e using Ex.ind with
    | h op n s l ih =>
    intro c p row params t ht hle
    have hw := wfS_of_ty _ ht
    obtain ⟨ts, hl⟩ : ∃ ts, tys (F.take 0) c p l = some ts := by
      rw [ty] at ht
      cases hl : tys (F.take 0) c p l with
      | none => rw [hl] at ht; cases ht
      | some ts => exact ⟨ts, rfl⟩
    rw [wfS, wfSL_all] at hw
    simp only [Bool.and_eq_true, List.all_eq_true, Bool.or_eq_true, Bool.not_eq_true', decide_eq_false_iff_not, decide_eq_true_eq] at hw
    obtain ⟨⟨hw1, hw2⟩, -⟩ := hw
    have hks : GoodS (countL (bodiesS [] F) l) := countL_good _ hB l
    have h22 : ¬ op = 22 := fun h => by
      have := hw2.resolve_left (fun k => k h); simp at this; omega
    rw [countE] at hle ⊢
    obtain ⟨o1, o2⟩ := stepsOf_open hB hks (fun h => by rw [countL_map, List.length_map]; exact hw1.resolve_left (fun k => k h)) (fun h => absurd h h22) hle
    rw [cnt]
    unfold cntOf
    by_cases h21 : op = 21
    · rw [if_pos h21]
      obtain ⟨a, b, d, hk, hs⟩ := o1 h21
      rw [hs] at hle ⊢
      have hl3 : l.length = 3 := hw1.resolve_left (fun k => k h21)
      match l, hl3 with
      | [x, y, z], _ =>
        simp only [countL_map, List.map_cons, List.map_nil, List.cons.injEq, and_true] at hk
        obtain ⟨rfl, rfl, rfl⟩ := hk
        have hg := hks; rw [countL_map] at hg
        have g1 := hg (countE (bodiesS [] F) x) (by simp)
        have g2 := hg (countE (bodiesS [] F) y) (by simp)
        have g3 := hg (countE (bodiesS [] F) z) (by simp)
        obtain ⟨t1, ht1⟩ := tys_mem _ hl x (by simp)
        obtain ⟨t2, ht2⟩ := tys_mem _ hl y (by simp)
        obtain ⟨t3, ht3⟩ := tys_mem _ hl z (by simp)
        have i1 := ih x (by simp) (row := row) (params := params) ht1 (by omega)
        have i2 := ih y (by simp) (row := row) (params := params) ht2 (by omega)
        have i3 := ih z (by simp) (row := row) (params := params) ht3 (by omega)
        simp only [cnts, List.getD_cons_zero, List.getD_cons_succ]
        split <;> omega
    · rw [if_neg h21, if_neg h22]
      have hs := o2 h21
      rw [if_neg h22] at hs
      rw [hs] at hle ⊢
      rw [cnts_map, countL_map] at *
      have := sumI_le (l := l) (f := cnt (callN F time 0) (cntN F time 0) time row params) (g := countE (bodiesS [] F)) fun e he => by
        obtain ⟨t', ht'⟩ := tys_mem l hl e he
        exact ih e he ht' (by have := sumI_mem hks (List.mem_map_of_mem he); omega)
      omega
  | succ m ihm =>
    intro e
    induction e using Ex.ind with
    | h op n s l ih =>
    intro c p row params t ht hle
    have hw := wfS_of_ty _ ht
    obtain ⟨ts, hl, htt⟩ : ∃ ts, tys (F.take (m + 1)) c p l = some ts ∧ tailT (F.take (m + 1)) c p op n s ts = some t := by
      rw [ty] at ht
      cases hl : tys (F.take (m + 1)) c p l with
      | none => rw [hl] at ht; cases ht
      | some ts => rw [hl] at ht; exact ⟨ts, rfl, ht⟩
    rw [wfS, wfSL_all] at hw
    simp only [Bool.and_eq_true, List.all_eq_true, Bool.or_eq_true, Bool.not_eq_true', decide_eq_false_iff_not, decide_eq_true_eq] at hw
    obtain ⟨⟨hw1, hw2⟩, -⟩ := hw
    have hks : GoodS (countL (bodiesS [] F) l) := countL_good _ hB l
    rw [countE] at hle ⊢
    obtain ⟨o1, o2⟩ := stepsOf_open hB hks (fun h => by rw [countL_map, List.length_map]; exact hw1.resolve_left (fun k => k h)) (fun h => by
      have := hw2.resolve_left (fun k => k h)
      rw [List.length_take] at this; rw [bodiesS_len]; omega) hle
    rw [cnt]
    unfold cntOf
    by_cases h21 : op = 21
    · rw [if_pos h21]
      obtain ⟨a, b, d, hk, hs⟩ := o1 h21
      rw [hs] at hle ⊢
      have hl3 : l.length = 3 := hw1.resolve_left (fun k => k h21)
      match l, hl3 with
      | [x, y, z], _ =>
        simp only [countL_map, List.map_cons, List.map_nil, List.cons.injEq, and_true] at hk
        obtain ⟨rfl, rfl, rfl⟩ := hk
        have hg := hks; rw [countL_map] at hg
        have g1 := hg (countE (bodiesS [] F) x) (by simp)
        have g2 := hg (countE (bodiesS [] F) y) (by simp)
        have g3 := hg (countE (bodiesS [] F) z) (by simp)
        obtain ⟨t1, ht1⟩ := tys_mem _ hl x (by simp)
        obtain ⟨t2, ht2⟩ := tys_mem _ hl y (by simp)
        obtain ⟨t3, ht3⟩ := tys_mem _ hl z (by simp)
        have i1 := ih x (by simp) (row := row) (params := params) ht1 (by omega)
        have i2 := ih y (by simp) (row := row) (params := params) ht2 (by omega)
        have i3 := ih z (by simp) (row := row) (params := params) ht3 (by omega)
        simp only [cnts, List.getD_cons_zero, List.getD_cons_succ]
        split <;> omega
    · rw [if_neg h21]
      have hs := o2 h21
      rw [hs] at hle ⊢
      have hbd := goodS_getD hB n.toNat
      rw [cnts_map, countL_map] at *
      have hsum := sumI_le (l := l) (f := cnt (callN F time (m + 1)) (cntN F time (m + 1)) time row params) (g := countE (bodiesS [] F)) fun e he => by
        obtain ⟨t', ht'⟩ := tys_mem l hl e he
        refine ih e he ht' ?_
        have := sumI_mem hks (List.mem_map_of_mem he)
        split at hle <;> omega
      by_cases h22 : op = 22
      · rw [if_pos h22] at hs hle ⊢
        rw [if_pos h22]
        subst h22
        unfold tailT at htt
        split at htt
        · cases htt
        rw [if_pos rfl] at htt
        obtain ⟨h0, hlt, f, hf, hpar, hres⟩ := callT_some htt
        have hfl := (List.getElem?_eq_some_iff.1 hf).1
        have hfk : F[n.toNat] = f := (List.getElem?_eq_some_iff.1 hf).2
        have hb := ty_mono (m := m) (by omega) f.body (okF_body (hOk n.toNat hfl) hf)
        have hbs := body_steps hOk n.toNat hfl
        rw [hfk] at hbs
        have := ihm f.body (row := []) (params := evs (callN F time (m + 1)) time row params l) hb (by have := sumI_nonneg hks; omega)
        have hv : cntN F time (m + 1) n (evs (callN F time (m + 1)) time row params l) = cnt (callN F time m) (cntN F time m) time [] (evs (callN F time (m + 1)) time row params l) f.body := by simp only [cntN, hf]
        rw [hv]
        omega
      · rw [if_neg h22]
        rw [if_neg h22]
        omega
end Go.Proofs.Ytmhelkhmgbbfhaa
