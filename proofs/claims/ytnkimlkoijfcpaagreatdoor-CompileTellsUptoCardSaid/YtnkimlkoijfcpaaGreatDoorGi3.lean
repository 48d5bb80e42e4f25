/- Layer 26 on plain data: folding keeps the type and the value. -/
import Derived.Test.YtnkimlkoijfcpaaGreatDoorRows
import Derived.ProofKit
import Derived.Below
import Derived.ChangeSame
import Derived.HandedShaped
import Derived.Lay
import Derived.Shelf.Vars
import Derived.LaidMore
import Derived.Test.YtnkimlkoijfcpaaGreatDoorGi1
import Derived.Test.YtnkimlkoijfcpaaGreatDoorGi2
set_option linter.unusedSimpArgs false
set_option linter.unusedVariables false
namespace Go.Proofs.YtnkimlkoijfcpaaGreatDoor
open Go.RowKit Go.Lib
def qx (e : Ex) : Bool := decide (e.op = 0) || (decide (e.op = 1) || decide (e.op = 2))
theorem constE_iff (e : Ex) : qx e = true ↔ e.op = 0 ∨ e.op = 1 ∨ e.op = 2 := by unfold qx; simp
def qbg (v : Val) : Ex := if v.k = 0 then .mk 0 v.n ByteArray.empty [] else if v.k = 1 then .mk 1 0 v.s [] else if v.k = 2 then .mk 2 v.n ByteArray.empty [] else zeroE
def choiceP (o n : Int) (s : ByteArray) (l : List Ex) : Ex := match l with
  | [a, b, c] => if (qx a = true ∧ a.n = 1) ∨ sameB b c = true then b else if qx a = true then c else .mk o n s l
  | _ => .mk o n s l
def logicP (o n : Int) (s : ByteArray) (l : List Ex) : Ex := match l with
  | [a, b] => if qx a = true then (if decide (a.n = 1) = decide (o = 17) then b else a) else if qx b = true then (if decide (b.n = 1) = decide (o = 17) then a else b) else .mk o n s l
  | _ => .mk o n s l
def notP (o n : Int) (s : ByteArray) (l : List Ex) : Ex := match l with
  | [.mk o2 n2 s2 l2] => if o2 = 6 then (match l2 with | [x] => x | _ => .mk o n s l) else .mk o n s l
  | _ => .mk o n s l
def topF (o n : Int) (s : ByteArray) (l : List Ex) : Ex :=
  if l = [] then .mk o n s []
  else if o ≠ 22 ∧ l.all qx = true then qbg (evalP [] 0 [] (.mk o n s l))
  else if o = 21 then choiceP o n s l
  else if o = 17 ∨ o = 18 then logicP o n s l
  else if o = 6 then notP o n s l
  else .mk o n s l
mutual
def foldE : Ex → Ex
  | .mk o n s l => topF o n s (foldL l)
def foldL : List Ex → List Ex
  | [] => []
  | e :: l => foldE e :: foldL l
end
theorem qdz : ∀ l, foldL l = l.map foldE
  | [] => by rw [foldL]; rfl
  | e :: l => by rw [foldL, qdz l]; rfl
theorem const_ev {call call2 : Int → List Val → Val} {t t2 : Int} {r r2 p p2 : List Val} (e : Ex) (h : qx e = true) : ev call t r p e = ev call2 t2 r2 p2 e := by
  obtain ⟨o, n, s, l⟩ := e
  rw [constE_iff] at h
  simp only [Ex.op] at h
  rw [ev, ev, if_neg (by omega), if_neg (by omega)]
  rcases h with rfl | rfl | rfl <;> simp [opV]
def Snd (F : List Fn) (c p : List Int) (call : Int → List Val → Val) (time : Int) (row params : List Val) : Prop := ∀ e t, ty F c p e = some t → (ev call time row params e).k = t ∧ qz (ev call time row params e)
theorem snd_nil {c : List Int} {time : Int} {row : List Val} (h : qce c row) : Snd [] c [] (fun _ _ => zeroV) time row [] := fun e t ht =>
  ev_fit (F := []) time (by intro i hi; simp at hi) 0 e (by simpa using ht) h rfl (by simp)
theorem sound_kind {v : Val} (h : qz v) : v.k = 0 ∨ v.k = 1 ∨ v.k = 2 := by
  obtain ⟨h, -⟩ := h
  unfold okV at h
  split at h
  · exact .inl ‹_›
  · split at h
    · exact .inr (.inl ‹_›)
    · simp only [Bool.and_eq_true, decide_eq_true_eq] at h; omega
theorem bytes_nil {s : ByteArray} (h : s.toList = []) : s = ByteArray.empty := by
  apply WideShapes.bytes_inj
  rw [← ByteArray.toList_eq, h, ← ByteArray.toList_eq, empty_list]
theorem sound_num' {v : Val} (h : qz v) (hk : v.k = 0) : v = numV v.n := by
  obtain ⟨k, n, s⟩ := v
  obtain ⟨h, -⟩ := h
  simp only at hk; subst hk
  simp [okV] at h
  rw [bytes_nil h]; rfl
theorem sound_text' {v : Val} (h : qz v) (hk : v.k = 1) : v = textV v.s ∧ v.s.size ≤ 200 := by
  obtain ⟨k, n, s⟩ := v
  obtain ⟨h, h2⟩ := h
  simp only at hk; subst hk
  simp [okV] at h
  exact ⟨by rw [h.1]; rfl, h2⟩
theorem sound_bool' {v : Val} (h : qz v) (hk : v.k = 2) : v = boolV (decide (v.n = 1)) ∧ (v.n = 0 ∨ v.n = 1) := by
  obtain ⟨k, n, s⟩ := v
  obtain ⟨h, -⟩ := h
  simp only at hk; subst hk
  simp [okV] at h
  obtain ⟨h1, h2⟩ := h
  rw [bytes_nil h2]
  refine ⟨?_, h1⟩
  rcases h1 with rfl | rfl <;> rfl
theorem qcg {v : Val} (h : qz v) (F : List Fn) (c p : List Int) : ty F c p (qbg v) = some v.k ∧ (∀ call time row params, ev call time row params (qbg v) = v) ∧ qx (qbg v) = true ∧ (qbg v).args = [] := by
  have e0 : ByteArray.empty.size = 0 := rfl
  rcases sound_kind h with hk | hk | hk
  · have := sound_num' h hk
    generalize v.n = n at this
    subst this
    refine ⟨?_, ?_, rfl, rfl⟩
    · simp [qbg, numV, ty, tys, tailT, leafT, e0]
    · intros; simp [qbg, numV, ev, evs, opV]
  · obtain ⟨this, hs⟩ := sound_text' h hk
    generalize v.s = s at this hs
    subst this
    refine ⟨?_, ?_, rfl, rfl⟩
    · simp [qbg, textV, ty, tys, tailT, leafT]; omega
    · intros; simp [qbg, textV, ev, evs, opV]
  · obtain ⟨this, hb⟩ := sound_bool' h hk
    generalize decide (v.n = 1) = b at this
    subst this
    refine ⟨?_, ?_, rfl, rfl⟩
    · cases b <;> simp [qbg, boolV, ty, tys, tailT, leafT, e0]
    · intros; cases b <;> simp [qbg, boolV, ev, evs, opV]
theorem sameB_eq {a b : Ex} (h : sameB a b = true) : a = b := by
  revert b
  induction a using Ex.ind with
  | h o n s l ih =>
    rintro ⟨o2, n2, s2, l2⟩ h
    rw [sameB] at h
    simp only [Bool.and_eq_true, decide_eq_true_eq] at h
    obtain ⟨rfl, rfl, hs, hl⟩ := h
    have hs2 : s = s2 := WideShapes.bytes_inj (by rw [← ByteArray.toList_eq, hs, ByteArray.toList_eq])
    subst hs2
    have : ∀ (l l2 : List Ex), (∀ x ∈ l, ∀ {b : Ex}, sameB x b = true → x = b) → qbq l l2 = true → l = l2 := fun l => by
      induction l with
      | nil => intro l2 _ h; cases l2 with
        | nil => rfl
        | cons y l2 => simp [qbq] at h
      | cons x l ih2 =>
        intro l2 hx h
        cases l2 with
        | nil => simp [qbq] at h
        | cons y l2 =>
          rw [qbq, Bool.and_eq_true] at h
          rw [hx x (by simp) h.1, ih2 l2 (fun z hz => hx z (by simp [hz])) h.2]
    rw [this l l2 ih hl]
theorem size_empty {s : ByteArray} (h : s.size = 0) : s = ByteArray.empty := by
  apply WideShapes.bytes_inj
  have : s.data.toList.length = 0 := by rw [Array.length_toList]; exact h
  rw [List.length_eq_zero_iff.1 this]; rfl
theorem tys_nil {F : List Fn} {c p : List Int} {l : List Ex} (h : tys F c p l = some []) : l = [] := by
  have := qcw l h
  exact List.length_eq_zero_iff.1 this.symm
theorem qdu {F : List Fn} {c p : List Int} {e : Ex} {t : Int} (hc : qx e = true) (h : ty F c p e = some t) : ∃ v, qz v ∧ v.k = t ∧ qbg v = e := by
  obtain ⟨o, n, s, l⟩ := e
  rw [constE_iff] at hc
  simp only [Ex.op] at hc
  rw [ty] at h
  cases hl : tys F c p l with
  | none => rw [hl] at h; cases h
  | some ts =>
    rw [hl] at h
    dsimp only at h
    unfold tailT at h
    split at h
    · cases h
    rename_i hs
    rw [if_neg (by omega)] at h
    split at h
    · rename_i hts
      subst hts
      obtain rfl := tys_nil hl
      unfold leafT at h
      rcases hc with rfl | rfl | rfl
      · obtain rfl := size_empty (s := s) (by omega)
        simp at h
        exact ⟨numV n, qdq n, h, rfl⟩
      · simp at h
        obtain ⟨⟨rfl, h2⟩, rfl⟩ := h
        exact ⟨textV s, sound_text (by omega), rfl, rfl⟩
      · obtain rfl := size_empty (s := s) (by omega)
        simp at h
        obtain ⟨h1, rfl⟩ := h
        refine ⟨boolV (decide (n = 1)), qdi _, rfl, ?_⟩
        rcases h1 with rfl | rfl <;> rfl
    · exfalso
      unfold operT at h
      split at h
      · cases h
      rw [if_neg (by omega), if_neg (by omega), if_neg (by omega), if_neg (by omega), if_neg (by omega), if_neg (by omega), if_neg (by omega), if_neg (by omega)] at h
      cases h
theorem ty_mk {F : List Fn} {c p : List Int} {o n t : Int} {s : ByteArray} {l : List Ex} (h : ty F c p (.mk o n s l) = some t) : ∃ ts, tys F c p l = some ts ∧ tailT F c p o n s ts = some t := by
  rw [ty] at h
  cases hl : tys F c p l with
  | none => rw [hl] at h; cases h
  | some ts => rw [hl] at h; exact ⟨ts, rfl, h⟩
theorem ty_oper {F : List Fn} {c p : List Int} {o n t : Int} {s : ByteArray} {l : List Ex} (h : ty F c p (.mk o n s l) = some t) (ho : o ≠ 22) (hl : l ≠ []) : ∃ ts, tys F c p l = some ts ∧ operT o n ts = some t ∧ n = 0 ∧ (o = 1 ∨ s.size = 0) ∧ 6 ≤ o ∧ o ≤ 21 := by
  obtain ⟨ts, h1, h2⟩ := ty_mk h
  unfold tailT at h2
  split at h2
  · cases h2
  rename_i hs
  try rw [if_neg ho] at h2
  split at h2
  · rename_i hts
    subst hts
    exact absurd (tys_nil h1) hl
  · have h3 := h2
    unfold operT at h3
    split at h3
    · cases h3
    rename_i hn
    refine ⟨ts, h1, h2, by omega, by omega, ?_⟩
    by_cases hh : 6 ≤ o ∧ o ≤ 21
    · exact hh
    · exfalso
      rw [if_neg (by omega), if_neg (by omega), if_neg (by omega), if_neg (by omega), if_neg (by omega), if_neg (by omega), if_neg (by omega), if_neg (by omega)] at h3
      cases h3
theorem tys1 {F : List Fn} {c p : List Int} {l : List Ex} {a : Int} (h : tys F c p l = some [a]) : ∃ x, l = [x] ∧ ty F c p x = some a := by
  match l, h with
  | [], h => rw [tys] at h; cases h
  | [x], h =>
    simp only [tys] at h
    cases hx : ty F c p x with
    | none => rw [hx] at h; cases h
    | some t => rw [hx] at h; cases h; exact ⟨x, rfl, hx⟩
  | x :: y :: r, h => have := qcw _ h; simp at this
theorem qcb {F : List Fn} {c p : List Int} {x : Ex} {l : List Ex} {ts : List Int} (h : tys F c p (x :: l) = some ts) : ∃ t us, ts = t :: us ∧ ty F c p x = some t ∧ tys F c p l = some us := by
  rw [tys] at h
  cases hx : ty F c p x with
  | none => rw [hx] at h; cases h
  | some t =>
    rw [hx] at h
    cases hl : tys F c p l with
    | none => rw [hl] at h; cases h
    | some us => rw [hl] at h; cases h; exact ⟨t, us, rfl, rfl, rfl⟩
theorem tys2 {F : List Fn} {c p : List Int} {l : List Ex} {a b : Int} (h : tys F c p l = some [a, b]) : ∃ x y, l = [x, y] ∧ ty F c p x = some a ∧ ty F c p y = some b := by
  match l, h with
  | [], h => rw [tys] at h; cases h
  | x :: l, h =>
    obtain ⟨t, us, e, h1, h2⟩ := qcb h
    cases e
    obtain ⟨y, rfl, h3⟩ := tys1 h2
    exact ⟨x, y, rfl, h1, h3⟩
theorem tys3 {F : List Fn} {c p : List Int} {l : List Ex} {a b d : Int} (h : tys F c p l = some [a, b, d]) : ∃ x y z, l = [x, y, z] ∧ ty F c p x = some a ∧ ty F c p y = some b ∧ ty F c p z = some d := by
  match l, h with
  | [], h => rw [tys] at h; cases h
  | x :: l, h =>
    obtain ⟨t, us, e, h1, h2⟩ := qcb h
    cases e
    obtain ⟨y, z, rfl, h3, h4⟩ := tys2 h2
    exact ⟨x, y, z, rfl, h1, h3, h4⟩
theorem op6_ts {o n t : Int} {ts : List Int} (h : operT o n ts = some t) (ho : o = 6) : ts = [2] ∧ t = 2 := by
  subst ho
  unfold operT at h
  split at h
  · cases h
  rw [if_pos rfl] at h
  split at h <;> cases h
  exact ⟨‹_›, rfl⟩
theorem op1718_ts {o n t : Int} {ts : List Int} (h : operT o n ts = some t) (ho : o = 17 ∨ o = 18) : ts = [2, 2] ∧ t = 2 := by
  unfold operT at h
  split at h
  · cases h
  rw [if_neg (by omega), if_neg (by omega), if_neg (by omega), if_neg (by omega), if_neg (by omega), if_pos (by omega)] at h
  split at h <;> cases h
  exact ⟨‹_›, rfl⟩
theorem op21_ts {o n t : Int} {ts : List Int} (h : operT o n ts = some t) (ho : o = 21) : ts = [2, t, t] := by
  subst ho
  unfold operT at h
  split at h
  · cases h
  rw [if_neg (by omega), if_neg (by omega), if_neg (by omega), if_neg (by omega), if_neg (by omega), if_neg (by omega), if_neg (by omega), if_pos rfl] at h
  split at h
  · split at h
    · rename_i hab; cases h; rw [hab.1, hab.2]
    · cases h
  · cases h
theorem consts_ty {F : List Fn} {c p : List Int} : ∀ (l : List Ex) {ts : List Int}, tys F c p l = some ts → l.all qx = true → tys [] [] [] l = some ts
  | [], ts, h, _ => by rw [tys] at h ⊢; exact h
  | x :: l, ts, h, hc => by
    obtain ⟨t, us, rfl, h1, h2⟩ := qcb h
    rw [List.all_cons, Bool.and_eq_true] at hc
    obtain ⟨v, hv, rfl, rfl⟩ := qdu hc.1 h1
    rw [tys, (qcg hv [] [] []).1, consts_ty l h2 hc.2]
theorem consts_ev {call call2 : Int → List Val → Val} {t t2 : Int} {r r2 p p2 : List Val} : ∀ l : List Ex, l.all qx = true → evs call t r p l = evs call2 t2 r2 p2 l
  | [], _ => by rw [evs, evs]
  | x :: l, h => by
    rw [List.all_cons, Bool.and_eq_true] at h
    rw [evs, evs, const_ev x h.1, consts_ev l h.2]
theorem ev_mk (call : Int → List Val → Val) (time : Int) (row params : List Val) (o n : Int) (s : ByteArray) (l : List Ex) : ev call time row params (.mk o n s l) = if o = 21 then ifV (evs call time row params l) else opV call time row params o n s (evs call time row params l) := by rw [ev]
theorem closed_ok {F : List Fn} {c p : List Int} {o n t : Int} {s : ByteArray} {l : List Ex} (h : ty F c p (.mk o n s l) = some t) (ho : o ≠ 22) (hl : l ≠ []) (hc : l.all qx = true) :
    ty [] [] [] (.mk o n s l) = some t ∧ qz (evalP [] 0 [] (.mk o n s l)) ∧ (evalP [] 0 [] (.mk o n s l)).k = t ∧ ∀ call time row params, ev call time row params (.mk o n s l) = evalP [] 0 [] (.mk o n s l) := by
  obtain ⟨ts, h1, h2, rfl, hs, h6, h21⟩ := ty_oper h ho hl
  have h3 : ty [] [] [] (.mk o 0 s l) = some t := by
    rw [ty, consts_ty l h1 hc]
    dsimp only
    unfold tailT
    rw [if_neg (by omega), if_neg ho, if_neg, h2]
    rintro rfl
    exact hl (tys_nil h1)
  obtain ⟨h4, h5⟩ := snd_nil (time := 0) (qce.nil []) _ _ h3
  refine ⟨h3, h5, h4, fun call time row params => ?_⟩
  show _ = ev (callN [] 0 0) 0 [] [] _
  rw [ev_mk, ev_mk, consts_ev (call2 := callN [] 0 0) (t2 := 0) (r2 := []) (p2 := []) l hc]
  split
  · rfl
  · have a0 : ¬ o = 0 := by omega
    have a1 : ¬ o = 1 := by omega
    have a2 : ¬ o = 2 := by omega
    have a3 : ¬ o = 3 := by omega
    have a4 : ¬ o = 4 := by omega
    have a5 : ¬ o = 5 := by omega
    simp only [opV, a0, a1, a2, a3, a4, a5, ho, if_false]
theorem bool_of {v : Val} (h : qz v) (hk : v.k = 2) : boolV (decide (v.n = 1)) = v := (sound_bool' h hk).1.symm
theorem top_ok {F : List Fn} {c p : List Int} {o n t : Int} {s : ByteArray} {l : List Ex} (h : ty F c p (.mk o n s l) = some t) :
    ty F c p (topF o n s l) = some t ∧ ∀ call time row params, Snd F c p call time row params → ev call time row params (topF o n s l) = ev call time row params (.mk o n s l) := by
  unfold topF
  split
  · rename_i hl; subst hl; exact ⟨h, fun _ _ _ _ _ => rfl⟩
  rename_i hl
  split
  · rename_i hc
    obtain ⟨-, h1, h2, h3⟩ := closed_ok h hc.1 hl hc.2
    obtain ⟨g1, g2, -, -⟩ := qcg h1 F c p
    exact ⟨by rw [g1, h2], fun call time row params _ => by rw [g2, h3]⟩
  rename_i hnc
  split
  · rename_i ho
    subst ho
    obtain ⟨ts, h1, h2, rfl, hs, -, -⟩ := ty_oper h (by omega) hl
    obtain rfl := op21_ts h2 rfl
    obtain ⟨x, y, z, rfl, hx, hy, hz⟩ := tys3 h1
    unfold choiceP
    dsimp only
    have hev : ∀ call time row params, ev call time row params (.mk 21 0 s [x, y, z]) = if (ev call time row params x).n = 1 then ev call time row params y else ev call time row params z := fun call time row params => by
      rw [ev_mk, if_pos rfl]; simp only [evs]; rfl
    split
    · rename_i hc
      refine ⟨hy, fun call time row params hS => ?_⟩
      rw [hev]
      rcases hc with hc | hc
      · obtain ⟨v, hv, hvk, rfl⟩ := qdu hc.1 hx
        rw [(qcg hv F c p).2.1]
        have hn : (qbg v).n = v.n := by unfold qbg; rw [if_neg (by omega), if_neg (by omega), if_pos hvk]; rfl
        rw [if_pos (by rw [← hn]; exact hc.2)]
      · rw [sameB_eq hc]; split <;> rfl
    · rename_i hc
      split
      · rename_i hcx
        refine ⟨hz, fun call time row params hS => ?_⟩
        rw [hev]
        obtain ⟨v, hv, hvk, rfl⟩ := qdu hcx hx
        have hn : (qbg v).n = v.n := by unfold qbg; rw [if_neg (by omega), if_neg (by omega), if_pos hvk]; rfl
        rw [(qcg hv F c p).2.1, if_neg (fun h1 => hc (.inl ⟨hcx, by rw [hn]; exact h1⟩))]
      · exact ⟨h, fun _ _ _ _ _ => rfl⟩
  split
  · rename_i ho
    obtain ⟨ts, h1, h2, rfl, hs, -, -⟩ := ty_oper h (by omega) hl
    obtain ⟨rfl, rfl⟩ := op1718_ts h2 ho
    obtain ⟨x, y, rfl, hx, hy⟩ := tys2 h1
    unfold logicP
    dsimp only
    have hev : ∀ call time row params, ev call time row params (.mk o 0 s [x, y]) = if o = 17 then boolV (decide ((ev call time row params x).n = 1) && decide ((ev call time row params y).n = 1)) else boolV (decide ((ev call time row params x).n = 1) || decide ((ev call time row params y).n = 1)) := fun call time row params => by
      rw [ev_mk, if_neg (by omega)]
      rcases ho with rfl | rfl <;> simp [evs, opV, binV]
    have hcn : ∀ v : Val, qz v → v.k = 2 → (qbg v).n = v.n := fun v _ hvk => by unfold qbg; rw [if_neg (by omega), if_neg (by omega), if_pos hvk]; rfl
    split
    · rename_i hcx
      obtain ⟨v, hv, hvk, rfl⟩ := qdu hcx hx
      rw [hcn v hv hvk]
      split
      · rename_i hd
        refine ⟨hy, fun call time row params hS => ?_⟩
        obtain ⟨k1, k2⟩ := hS _ _ hy
        rw [hev, (qcg hv F c p).2.1]
        rcases ho with rfl | rfl
        · simp at hd; simp [hd, bool_of k2 k1]
        · simp at hd; simp [hd, bool_of k2 k1]
      · rename_i hd
        refine ⟨hx, fun call time row params hS => ?_⟩
        rw [hev, (qcg hv F c p).2.1]
        have hb := bool_of hv hvk
        rcases ho with rfl | rfl
        · simp at hd; simp [hd] at hb ⊢; exact hb.symm
        · simp at hd; simp [hd] at hb ⊢; exact hb.symm
    · rename_i hcx
      split
      · rename_i hcy
        obtain ⟨v, hv, hvk, rfl⟩ := qdu hcy hy
        rw [hcn v hv hvk]
        split
        · rename_i hd
          refine ⟨hx, fun call time row params hS => ?_⟩
          obtain ⟨k1, k2⟩ := hS _ _ hx
          rw [hev, (qcg hv F c p).2.1]
          rcases ho with rfl | rfl
          · simp at hd; simp [hd, bool_of k2 k1]
          · simp at hd; simp [hd, bool_of k2 k1]
        · rename_i hd
          refine ⟨hy, fun call time row params hS => ?_⟩
          rw [hev, (qcg hv F c p).2.1]
          have hb := bool_of hv hvk
          rcases ho with rfl | rfl
          · simp at hd; simp [hd] at hb ⊢; exact hb.symm
          · simp at hd; simp [hd] at hb ⊢; exact hb.symm
      · exact ⟨h, fun _ _ _ _ _ => rfl⟩
  split
  · rename_i ho
    subst ho
    obtain ⟨ts, h1, h2, rfl, hs, -, -⟩ := ty_oper h (by omega) hl
    obtain ⟨rfl, rfl⟩ := op6_ts h2 rfl
    obtain ⟨x, rfl, hx⟩ := tys1 h1
    obtain ⟨o2, n2, s2, l2⟩ := x
    unfold notP
    dsimp only
    split
    · rename_i ho2
      subst ho2
      obtain ⟨ts2, g1, g2, rfl, -, -, -⟩ := ty_oper hx (by omega) (by
        rintro rfl
        rw [ty] at hx
        simp [tys, tailT, leafT] at hx)
      obtain ⟨rfl, -⟩ := op6_ts g2 rfl
      obtain ⟨y, rfl, hy⟩ := tys1 g1
      dsimp only
      refine ⟨hy, fun call time row params hS => ?_⟩
      obtain ⟨k1, k2⟩ := hS _ _ hy
      have hb := (sound_bool' k2 k1)
      rw [ev_mk, if_neg (by omega)]
      simp only [evs, ev_mk]
      obtain ⟨e1, e2⟩ := hb
      rcases e2 with e2 | e2 <;> simp [opV, e2, boolV] <;> rw [e1, e2] <;> rfl
    · exact ⟨h, fun _ _ _ _ _ => rfl⟩
  · exact ⟨h, fun _ _ _ _ _ => rfl⟩
theorem fold_ok {F : List Fn} {c p : List Int} (e : Ex) : ∀ {t : Int}, ty F c p e = some t → ty F c p (foldE e) = some t ∧ ∀ call time row params, Snd F c p call time row params → ev call time row params (foldE e) = ev call time row params e := by
  induction e using Ex.ind with
  | h o n s l ih =>
    intro t h
    obtain ⟨ts, h1, h2⟩ := ty_mk h
    have : ∀ (l : List Ex) {ts : List Int}, (∀ x ∈ l, ∀ {t : Int}, ty F c p x = some t → ty F c p (foldE x) = some t ∧ ∀ call time row params, Snd F c p call time row params → ev call time row params (foldE x) = ev call time row params x) → tys F c p l = some ts →
        tys F c p (foldL l) = some ts ∧ ∀ call time row params, Snd F c p call time row params → evs call time row params (foldL l) = evs call time row params l := fun l => by
      induction l with
      | nil => intro ts _ h; rw [foldL]; exact ⟨h, fun _ _ _ _ _ => rfl⟩
      | cons x l ih2 =>
        intro ts hx h
        obtain ⟨t, us, rfl, g1, g2⟩ := qcb h
        obtain ⟨g3, g4⟩ := hx x (by simp) g1
        obtain ⟨g5, g6⟩ := ih2 (fun z hz => hx z (by simp [hz])) g2
        rw [foldL]
        refine ⟨by rw [tys, g3, g5], fun call time row params hS => ?_⟩
        rw [evs, evs, g4 _ _ _ _ hS, g6 _ _ _ _ hS]
    obtain ⟨g1, g2⟩ := this l ih h1
    have h3 : ty F c p (.mk o n s (foldL l)) = some t := by rw [ty, g1]; exact h2
    obtain ⟨g3, g4⟩ := top_ok h3
    rw [foldE]
    refine ⟨g3, fun call time row params hS => ?_⟩
    rw [g4 _ _ _ _ hS, ev_mk, ev_mk, g2 _ _ _ _ hS]
end Go.Proofs.YtnkimlkoijfcpaaGreatDoor

/- Walk: the columns that an expression reads, of the reference. -/
namespace Go.Proofs.YtnkimlkoijfcpaaGreatDoor
open Go.RowKit Go.Lib
end Go.Proofs.YtnkimlkoijfcpaaGreatDoor

/- Layer 16 on plain data: what depends on the time. -/
namespace Go.Proofs.YtnkimlkoijfcpaaGreatDoor
open Go.RowKit Go.Lib
end Go.Proofs.YtnkimlkoijfcpaaGreatDoor

/- A value depends on the columns that are read, and on the time only if it is read. -/
namespace Go.Proofs.YtnkimlkoijfcpaaGreatDoor
open Go.RowKit Go.Lib
end Go.Proofs.YtnkimlkoijfcpaaGreatDoor

/- Layer 26 on plain data: folding again changes nothing; sizes; what is folded and reads nothing is a constant. -/
namespace Go.Proofs.YtnkimlkoijfcpaaGreatDoor
open Go.RowKit Go.Lib
inductive NF : Ex → Prop
  | mk (o n : Int) (s : ByteArray) (l : List Ex) (h : ∀ x ∈ l, NF x) (ht : topF o n s l = .mk o n s l) : NF (.mk o n s l)
theorem NF.arg {o n : Int} {s : ByteArray} {l : List Ex} (h : NF (.mk o n s l)) : ∀ x ∈ l, NF x := by cases h; assumption
theorem top_cases (o n : Int) (s : ByteArray) (l : List Ex) : topF o n s l = .mk o n s l ∨ (∃ v, topF o n s l = qbg v) ∨ topF o n s l ∈ l ∨ ∃ n2 s2, l = [.mk 6 n2 s2 [topF o n s l]] := by
  unfold topF
  split
  · rename_i h; subst h; exact .inl rfl
  split
  · exact .inr (.inl ⟨_, rfl⟩)
  split
  · unfold choiceP
    split
    · split
      · exact .inr (.inr (.inl (by simp)))
      · split
        · exact .inr (.inr (.inl (by simp)))
        · exact .inl rfl
    · exact .inl rfl
  split
  · unfold logicP
    split
    · split
      · split
        · exact .inr (.inr (.inl (by simp)))
        · exact .inr (.inr (.inl (by simp)))
      · split
        · split
          · exact .inr (.inr (.inl (by simp)))
          · exact .inr (.inr (.inl (by simp)))
        · exact .inl rfl
    · exact .inl rfl
  split
  · unfold notP
    split
    · split
      · rename_i ho2
        subst ho2
        split
        · exact .inr (.inr (.inr ⟨_, _, rfl⟩))
        · exact .inl rfl
      · exact .inl rfl
    · exact .inl rfl
  · exact .inl rfl
theorem partsL_map {f : Ex → Ex} : ∀ l : List Ex, (∀ x ∈ l, parts (f x) ≤ parts x) → qu (l.map f) ≤ qu l
  | [], _ => by simp [qu]
  | x :: l, h => by
    have h1 := h x (by simp)
    have h2 := partsL_map l fun y hy => h y (by simp [hy])
    rw [List.map_cons, qu, qu]; omega
theorem const_parts (v : Val) : parts (qbg v) = 1 ∧ levels (qbg v) = 1 := by
  unfold qbg zeroE
  split
  · exact ⟨by rw [parts, qu], by rw [levels, qw]; rfl⟩
  · split
    · exact ⟨by rw [parts, qu], by rw [levels, qw]; rfl⟩
    · split <;> exact ⟨by rw [parts, qu], by rw [levels, qw]; rfl⟩
theorem top_parts (o n : Int) (s : ByteArray) (l : List Ex) : parts (topF o n s l) ≤ parts (.mk o n s l) := by
  rcases top_cases o n s l with h1 | ⟨v, h1⟩ | h1 | ⟨n2, s2, h1⟩
  · rw [h1]; exact Nat.le_refl _
  · rw [h1, (const_parts v).1, parts]; omega
  · have := qbb l _ h1
    rw [parts.eq_1 o n s l]; omega
  · have h2 : parts (.mk o n s l) = qu l + 1 := by rw [parts]
    have h3 : qu l = qu [.mk 6 n2 s2 [topF o n s l]] := by rw [← h1]
    simp only [qu, parts] at h3
    omega
theorem fold_parts (e : Ex) : parts (foldE e) ≤ parts e := by
  induction e using Ex.ind with
  | h o n s l ih =>
    rw [foldE]
    refine Nat.le_trans (top_parts o n s _) ?_
    rw [parts, parts, qdz]
    have := partsL_map (f := foldE) l ih
    omega
theorem levelsL_map {f : Ex → Ex} : ∀ (l : List Ex) (n m : Int), n ≤ m → (∀ x ∈ l, levels (f x) ≤ levels x) → qw (l.map f) n ≤ qw l m
  | [], n, m, h, _ => by rw [List.map_nil, qw, qw]; exact h
  | x :: l, n, m, h, hx => by
    rw [List.map_cons, qw, qw]
    exact levelsL_map l _ _ (by have := hx x (by simp); omega) fun y hy => hx y (by simp [hy])
theorem top_levels (o n : Int) (s : ByteArray) (l : List Ex) : levels (topF o n s l) ≤ levels (.mk o n s l) := by
  have h0 := qcx (.mk o n s l)
  rcases top_cases o n s l with h1 | ⟨v, h1⟩ | h1 | ⟨n2, s2, h1⟩
  · rw [h1]; omega
  · rw [h1, (const_parts v).2]; omega
  · have := qdm l 0 _ h1
    rw [levels.eq_1 o n s l]; omega
  · have h2 : levels (.mk o n s l) = qw l 0 + 1 := by rw [levels]
    have h3 : qw l 0 = qw [.mk 6 n2 s2 [topF o n s l]] 0 := by rw [← h1]
    simp only [qw, levels] at h3
    omega
theorem fold_levels (e : Ex) : levels (foldE e) ≤ levels e := by
  induction e using Ex.ind with
  | h o n s l ih =>
    rw [foldE]
    refine Int.le_trans (top_levels o n s _) ?_
    rw [levels, levels, qdz]
    have := levelsL_map (f := foldE) l 0 0 (by omega) ih
    omega
end Go.Proofs.YtnkimlkoijfcpaaGreatDoor

/- A law's entry: the arguments' readings as trees; and its end: true, and nothing that was there has changed. -/
namespace Go.Proofs.YtnkimlkoijfcpaaGreatDoor
open Go.ChangeShapes Go.WideShapes Go.ChangeAt Go.RowKit Go.Lib
theorem Tryz.own : ownKnob Tryz.prog.godebug = none := by kernel_rfl
theorem Tryz.laidOut : laidOutB Tryz.prog = true := by kernel_rfl
section
variable {H : Type} {enc : TypeId × Value → H} {P : Program}
theorem post_of_below {f : Func} {s : ChangeSpec} {apart fresh handsOn again : Bool} {W W' : World} {args : Array Value} {v : Value} {ds gs : List (DataW H)} {before pa pv : List MemPlace}
    (hW : DataW.Whole enc P f.params.toList s.vars apart W args.toList ds gs before)
    (hres : ∀ (b : Nat) (sp : Nat → Bool) (hd : Bool), DataW.TrodAll enc P W' b sp hd f.resultTypes.toList (v.resultList f.resultTypes.size) (s.fn H (ds ++ gs)).results [])
    (hargs : ∀ sp : Nat → Bool, (∀ p ∈ before, sp p.block = true) → DataW.TrodAll enc P W' 0 sp true f.params.toList args.toList (s.fn H (ds ++ gs)).args pa)
    (hvars : ∀ sp : Nat → Bool, (∀ p ∈ before, sp p.block = true) → DataW.TrodVars enc P W' sp s.vars (s.fn H (ds ++ gs)).vars pv)
    (hps : before = pa ++ pv) (hb : Below W.heap.size W W')
    (hok : ∀ (j : Nat) (t : TypeId) (r : Value), f.resultTypes[j]? = some t → (v.resultList f.resultTypes.size)[j]? = some r → Value.okWide P W' .any 0 t r) :
    s.post enc P f apart fresh handsOn again W args v W' := by
  have hlt : ∀ p ∈ before, p.block < W.heap.size := fun p hp => hW.lt p hp
  have hold : ∀ p ∈ before, (fun b => decide (b < W.heap.size)) p.block = true := fun p hp => by simpa using hlt p hp
  refine ⟨ds, gs, before, [], pa, pv, hW, hres _ _ _, hargs _ hold, hvars _ hold, World.keptBut_mono (fun p hp => ⟨hp, ?_⟩) (hb.frame (· ∈ before)), fun _ => ?_⟩
  · rw [hps, List.mem_append] at hp
    exact Or.inr hp
  · obtain ⟨_, _, _, _, _, hz, hn⟩ := hW
    refine ⟨hok, _, _, ([] ++ pa) ++ pv, ⟨[] ++ pa, pv, trodAll_append (hargs _ (fun _ _ => rfl)) (hres _ _ _), hvars _ (fun _ _ => rfl), rfl, ?_, ?_⟩, ?_⟩
    · intro b off hp
      have hin : MemPlace.cell b off ∈ before := by rw [hps]; simpa using hp
      rw [hb.frozen (hlt _ hin)]
      exact hz b off hin
    · intro ha
      have := hn ha
      rw [hps] at this
      simpa using this
    · intro p hp _
      rw [hps]
      simpa using hp
theorem args_stay (hl : laidOutB P = true) {W W' : World} {sp : Nat → Bool} (hb : Below W.heap.size W W') : ∀ {ts : List TypeId} {vs : List Value} {ds : List (DataW H)} {ps : List MemPlace},
    (∀ t ∈ ts, P.readableRec t = true ∧ t < P.types.size) → DataW.TrodAll enc P W 0 (fun _ => true) true ts vs ds ps → (∀ p ∈ ps, p.block < W.heap.size) → (∀ p ∈ ps, sp p.block = true) →
    DataW.TrodAll enc P W' 0 sp true ts vs ds ps
  | [], [], [], _, _, h, _, _ => h
  | [], _ :: _, _, _, _, h, _, _ => h.elim
  | [], [], _ :: _, _, _, h, _, _ => h.elim
  | _ :: _, [], _, _, _, h, _, _ => h.elim
  | _ :: _, _ :: _, [], _, _, h, _, _ => h.elim
  | t :: ts, v :: vs, d :: ds, ps, ht, h, hlt, hsp => by
    obtain ⟨p, q, h1, h2, rfl⟩ := h
    refine ⟨p, q, WideElems.Trod_stays hl (ht t (by simp)).1 (ht t (by simp)).2 h1 (fun x hx => hb.same (hlt x (by simp [hx]))) (fun x hx => hsp x (by simp [hx])), ?_, rfl⟩
    exact args_stay hl hb (fun t h => ht t (by simp [h])) h2 (fun x hx => hlt x (by simp [hx])) (fun x hx => hsp x (by simp [hx]))
theorem law_post (hl : laidOutB P = true) {f : Func} {s : ChangeSpec} {apart fresh handsOn again : Bool} {W W' : World} {args : Array Value} {ds gs : List (DataW H)} {before : List MemPlace} {tb : TypeId}
    (hW : DataW.Whole enc P f.params.toList s.vars apart W args.toList ds gs before) (hv : s.vars = []) (hs : s.fn H (ds ++ gs) = { results := [.lit (.bool true)], args := ds })
    (hrt : f.resultTypes = #[tb]) (htb : P.underlying tb = some .bool) (hts0 : (f.params.toList.all fun t => P.readableRec t && decide (t < P.types.size)) = true) (hb : Below W.heap.size W W') :
    s.post enc P f apart fresh handsOn again W args (.bool true) W' := by
  have hts : ∀ t ∈ f.params.toList, P.readableRec t = true ∧ t < P.types.size := by
    intro t ht
    have := List.all_eq_true.1 hts0 t ht
    simpa using this
  have hlt : ∀ p ∈ before, p.block < W.heap.size := fun p hp => hW.lt p hp
  have hW2 := hW
  obtain ⟨p, q, hA, hV, rfl, -, -⟩ := hW
  rw [hv] at hV
  obtain ⟨rfl, rfl⟩ := trodVars_none hV
  refine post_of_below (pa := p) (pv := []) hW2 ?_ ?_ ?_ (by simp) hb ?_
  · intro b sp hd
    rw [hs, hrt]
    exact trodAll_mk1 ⟨1, by simp [DataW.trod, Value.cells, htb]⟩
  · intro sp hsp
    rw [hs]
    exact args_stay hl hb hts hA (fun x hx => hlt x (by simp [hx])) (fun x hx => hsp x (by simp [hx]))
  · intro sp hsp
    rw [hs, hv]
    exact rfl
  · intro j t r hj hr
    rw [hrt] at hj hr
    obtain rfl : j = 0 := by
      have := (Array.getElem?_eq_some_iff.1 hj).1
      simpa using this
    simp at hj
    subst hj
    have : r = .bool true := by simpa [Value.resultList] using hr.symm
    subst this
    simp [Value.okWide, htb, Cell.okWide, Cell.ok]
variable {w w0 : World} {sp : Nat → Bool} {hd : Bool} {b0 : Nat} {t : TypeId} {v : Value} {d : DataW H} {ps : List MemPlace}
theorem par_sl {e : TypeId} (ht : P.underlying t = some (.slice e)) (hval : Value.okWide P w0 .any b0 t v) (h : DataW.Trod enc P w 0 sp hd t v d ps) {α : Type} {f : α → D} (hf : ∀ N, Trods enc P w sp hd t f N) : ∃ x, Rd w Any (f x) [v] := by
  obtain ⟨a, len, cap, rfl⟩ := okWide_slice ht hval
  obtain ⟨fuel, h⟩ := h
  exact hf (fuel + 1) fuel _ _ (by omega) h
theorem par_st {fs : Array Field} (ht : P.underlying t = some (.struct fs)) (hval : Value.okWide P w0 .any b0 t v) (h : DataW.Trod enc P w 0 sp hd t v d ps) {α : Type} {f : α → D} (hf : ∀ N, Trods enc P w sp hd t f N) : ∃ x cs, v = .agg cs.toArray ∧ Rd w Any (f x) cs := by
  obtain ⟨cs, rfl, -⟩ := okWide_struct ht hval
  obtain ⟨fuel, h⟩ := h
  obtain ⟨x, hx⟩ := hf (fuel + 1) fuel _ _ (by omega) h
  exact ⟨x, cs.toList, rfl, hx⟩
end
end Go.Proofs.YtnkimlkoijfcpaaGreatDoor

/- Lifting a law whose row lists variables: the world's shape and what the variables hold, both handed on. -/
namespace Go.Proofs.YtnkimlkoijfcpaaGreatDoor
open Go.ChangeShapes Go.WideShapes Go.ChangeAt Go.RowKit Go.Lib
section
variable {H : Type} {enc : TypeId × Value → H}
end
end Go.Proofs.YtnkimlkoijfcpaaGreatDoor

/- Typed views of api.Delta. -/
namespace Go.Proofs.YtnkimlkoijfcpaaGreatDoor
open Go.RowKit Go.Lib
structure Delta where
  time : Int
  row : List Val
  n : Int
  deriving DecidableEq
def Delta.d (x : Delta) : D := .st [.int x.time, .sl (x.row.map Val.d), .int x.n]
theorem Delta.width (x : Delta) : x.d.width = 3 := by
  simp [Delta.d, D.width, D.widths]
theorem Delta.widths (l : List Delta) : ∀ d ∈ l.map Delta.d, d.width = 3 := by
  intro d hd; obtain ⟨x, -, rfl⟩ := List.mem_map.1 hd; exact Delta.width x
theorem Delta.open {w : World} {S : Nat → Prop} {x : Delta} {cs : List Value} (h : Rd w S x.d cs) : ∃ (A1 : Option Addr) (cap1 b1 off1 : Nat), cs = [.int .i64 x.time, .slice A1 x.row.length cap1, .int .i64 x.n] ∧ x.row.length ≤ cap1 ∧ cap1 ≤ 9223372036854775807 ∧ (0 < x.row.length → A1 = some ⟨b1, off1, none⟩ ∧ S b1) ∧ RdM w S (x.row.map Val.d) b1 off1 := by
  simp only [Delta.d, Delta.d, Rd, RdS, List.length_map] at h
  obtain ⟨_, _, rfl, rfl, ⟨_, _, rfl, ⟨A1, cap1, b1, off1, rfl, p1, q1, r1, s1⟩, ⟨_, _, rfl, rfl, rfl⟩⟩⟩ := h
  exact ⟨A1, cap1, b1, off1, by simp, p1, q1, r1, s1⟩
theorem Delta.at {w : World} {S : Nat → Prop} {l : List Delta} {b off : Nat} (hm : RdM w S (l.map Delta.d) b off) {k : Nat} (hk : k < l.length) : ∃ (A1 : Option Addr) (cap1 b1 off1 : Nat), w.cell? ⟨b, off + k * 3, none⟩ = some (.int .i64 l[k].time) ∧ w.cell? ⟨b, off + k * 3 + 1, none⟩ = some (.slice A1 l[k].row.length cap1) ∧ w.cell? ⟨b, off + k * 3 + 1 + 1, none⟩ = some (.int .i64 l[k].n) ∧ Rd w S l[k].d [.int .i64 l[k].time, .slice A1 l[k].row.length cap1, .int .i64 l[k].n] ∧ l[k].row.length ≤ cap1 ∧ cap1 ≤ 9223372036854775807 ∧ (0 < l[k].row.length → A1 = some ⟨b1, off1, none⟩ ∧ S b1) ∧ RdM w S (l[k].row.map Val.d) b1 off1 := by
  obtain ⟨cs, hc, hr⟩ := RdM.get _ b off hm (Delta.widths l) k (by simpa using hk)
  rw [List.getElem_map] at hr
  obtain ⟨A1, cap1, b1, off1, rfl, hf⟩ := Delta.open hr
  simp only [qbe, and_true] at hc
  obtain ⟨c0, c1, c2⟩ := hc
  exact ⟨A1, cap1, b1, off1, c0, c1, c2, hr, hf⟩
end Go.Proofs.YtnkimlkoijfcpaaGreatDoor

/- Typed views of api.Ins. -/
namespace Go.Proofs.YtnkimlkoijfcpaaGreatDoor
open Go.RowKit Go.Lib
structure Ins where
  op : Int
  to : Int
  a : Int
  b : Int
  c : Int
  n : Int
  s : ByteArray
  deriving DecidableEq
def Ins.d (x : Ins) : D := .st [.int x.op, .int x.to, .int x.a, .int x.b, .int x.c, .int x.n, .str x.s]
theorem Ins.width (x : Ins) : x.d.width = 7 := by
  simp [Ins.d, D.width, D.widths]
theorem Ins.widths (l : List Ins) : ∀ d ∈ l.map Ins.d, d.width = 7 := by
  intro d hd; obtain ⟨x, -, rfl⟩ := List.mem_map.1 hd; exact Ins.width x
theorem Ins.open {w : World} {S : Nat → Prop} {x : Ins} {cs : List Value} (h : Rd w S x.d cs) : cs = [.int .i64 x.op, .int .i64 x.to, .int .i64 x.a, .int .i64 x.b, .int .i64 x.c, .int .i64 x.n, .string x.s] := by
  simp only [Ins.d, Ins.d, Rd, RdS, List.length_map] at h
  obtain ⟨_, _, rfl, rfl, ⟨_, _, rfl, rfl, ⟨_, _, rfl, rfl, ⟨_, _, rfl, rfl, ⟨_, _, rfl, rfl, ⟨_, _, rfl, rfl, ⟨_, _, rfl, rfl, rfl⟩⟩⟩⟩⟩⟩⟩ := h
  simp
theorem Ins.at {w : World} {S : Nat → Prop} {l : List Ins} {b off : Nat} (hm : RdM w S (l.map Ins.d) b off) {k : Nat} (hk : k < l.length) : w.cell? ⟨b, off + k * 7, none⟩ = some (.int .i64 l[k].op) ∧ w.cell? ⟨b, off + k * 7 + 1, none⟩ = some (.int .i64 l[k].to) ∧ w.cell? ⟨b, off + k * 7 + 1 + 1, none⟩ = some (.int .i64 l[k].a) ∧ w.cell? ⟨b, off + k * 7 + 1 + 1 + 1, none⟩ = some (.int .i64 l[k].b) ∧ w.cell? ⟨b, off + k * 7 + 1 + 1 + 1 + 1, none⟩ = some (.int .i64 l[k].c) ∧ w.cell? ⟨b, off + k * 7 + 1 + 1 + 1 + 1 + 1, none⟩ = some (.int .i64 l[k].n) ∧ w.cell? ⟨b, off + k * 7 + 1 + 1 + 1 + 1 + 1 + 1, none⟩ = some (.string l[k].s) ∧ Rd w S l[k].d [.int .i64 l[k].op, .int .i64 l[k].to, .int .i64 l[k].a, .int .i64 l[k].b, .int .i64 l[k].c, .int .i64 l[k].n, .string l[k].s] := by
  obtain ⟨cs, hc, hr⟩ := RdM.get _ b off hm (Ins.widths l) k (by simpa using hk)
  rw [List.getElem_map] at hr
  obtain rfl := Ins.open hr
  simp only [qbe, and_true] at hc
  obtain ⟨c0, c1, c2, c3, c4, c5, c6⟩ := hc
  exact ⟨c0, c1, c2, c3, c4, c5, c6, hr⟩
end Go.Proofs.YtnkimlkoijfcpaaGreatDoor

/- Typed views of api.Code. -/
namespace Go.Proofs.YtnkimlkoijfcpaaGreatDoor
open Go.RowKit Go.Lib
structure Cod where
  ins : List Ins
  types : List Int
  out : Int
  deriving DecidableEq
def Cod.d (x : Cod) : D := .st [.sl (x.ins.map Ins.d), .sl (x.types.map D.int), .int x.out]
theorem Cod.width (x : Cod) : x.d.width = 3 := by
  simp [Cod.d, D.width, D.widths]
theorem Cod.widths (l : List Cod) : ∀ d ∈ l.map Cod.d, d.width = 3 := by
  intro d hd; obtain ⟨x, -, rfl⟩ := List.mem_map.1 hd; exact Cod.width x
theorem Cod.open {w : World} {S : Nat → Prop} {x : Cod} {cs : List Value} (h : Rd w S x.d cs) : ∃ (A1 : Option Addr) (cap1 b1 off1 : Nat) (A2 : Option Addr) (cap2 b2 off2 : Nat), cs = [.slice A1 x.ins.length cap1, .slice A2 x.types.length cap2, .int .i64 x.out] ∧ x.ins.length ≤ cap1 ∧ cap1 ≤ 9223372036854775807 ∧ (0 < x.ins.length → A1 = some ⟨b1, off1, none⟩ ∧ S b1) ∧ RdM w S (x.ins.map Ins.d) b1 off1 ∧ x.types.length ≤ cap2 ∧ cap2 ≤ 9223372036854775807 ∧ (0 < x.types.length → A2 = some ⟨b2, off2, none⟩ ∧ S b2) ∧ RdM w S (x.types.map D.int) b2 off2 := by
  simp only [Cod.d, Cod.d, Rd, RdS, List.length_map] at h
  obtain ⟨_, _, rfl, ⟨A1, cap1, b1, off1, rfl, p1, q1, r1, s1⟩, ⟨_, _, rfl, ⟨A2, cap2, b2, off2, rfl, p2, q2, r2, s2⟩, ⟨_, _, rfl, rfl, rfl⟩⟩⟩ := h
  exact ⟨A1, cap1, b1, off1, A2, cap2, b2, off2, by simp, p1, q1, r1, s1, p2, q2, r2, s2⟩
theorem Cod.at {w : World} {S : Nat → Prop} {l : List Cod} {b off : Nat} (hm : RdM w S (l.map Cod.d) b off) {k : Nat} (hk : k < l.length) : ∃ (A1 : Option Addr) (cap1 b1 off1 : Nat) (A2 : Option Addr) (cap2 b2 off2 : Nat), w.cell? ⟨b, off + k * 3, none⟩ = some (.slice A1 l[k].ins.length cap1) ∧ w.cell? ⟨b, off + k * 3 + 1, none⟩ = some (.slice A2 l[k].types.length cap2) ∧ w.cell? ⟨b, off + k * 3 + 1 + 1, none⟩ = some (.int .i64 l[k].out) ∧ Rd w S l[k].d [.slice A1 l[k].ins.length cap1, .slice A2 l[k].types.length cap2, .int .i64 l[k].out] ∧ l[k].ins.length ≤ cap1 ∧ cap1 ≤ 9223372036854775807 ∧ (0 < l[k].ins.length → A1 = some ⟨b1, off1, none⟩ ∧ S b1) ∧ RdM w S (l[k].ins.map Ins.d) b1 off1 ∧ l[k].types.length ≤ cap2 ∧ cap2 ≤ 9223372036854775807 ∧ (0 < l[k].types.length → A2 = some ⟨b2, off2, none⟩ ∧ S b2) ∧ RdM w S (l[k].types.map D.int) b2 off2 := by
  obtain ⟨cs, hc, hr⟩ := RdM.get _ b off hm (Cod.widths l) k (by simpa using hk)
  rw [List.getElem_map] at hr
  obtain ⟨A1, cap1, b1, off1, A2, cap2, b2, off2, rfl, hf⟩ := Cod.open hr
  simp only [qbe, and_true] at hc
  obtain ⟨c0, c1, c2⟩ := hc
  exact ⟨A1, cap1, b1, off1, A2, cap2, b2, off2, c0, c1, c2, hr, hf⟩
end Go.Proofs.YtnkimlkoijfcpaaGreatDoor

/- Layer 25 on plain data: programs of the bytecode, when they are right, and what they compute. -/
namespace Go.Proofs.YtnkimlkoijfcpaaGreatDoor
open Go.RowKit Go.Lib
def opOk (o : Int) : Bool := decide (0 ≤ o) && decide (o ≤ 21) && decide (o ≠ 4)
def arO (o : Int) : Nat := if o = 0 ∨ o = 1 ∨ o = 2 ∨ o = 3 ∨ o = 5 then 0 else if o = 6 ∨ o = 7 ∨ o = 20 then 1 else if o = 21 then 3 else 2
theorem arO_le (o : Int) : arO o ≤ 3 := by unfold arO; (repeat' split) <;> omega
def opsP (x : Ins) : List Int := if opOk x.op then [x.a, x.b, x.c].take (arO x.op) else []
def qcd (x : Ins) : Bool :=
  opOk x.op && (decide (arO x.op < 3 → x.c = 0) && decide (arO x.op < 2 → x.b = 0) && decide (arO x.op < 1 → x.a = 0)) &&
  (if x.op = 0 ∨ x.op = 3 then decide (x.s.size = 0) else if x.op = 2 then decide (x.s.size = 0) && decide (x.n = 0 ∨ x.n = 1)
   else if x.op = 1 then decide (x.n = 0) && decide (x.s.size ≤ 200) else decide (x.n = 0) && decide (x.s.size = 0))
def paramE (r : Int) : Ex := .mk 4 r ByteArray.empty []
def exI (x : Ins) : Ex := .mk x.op x.n x.s ((opsP x).map paramE)
def tyI (cols types : List Int) (x : Ins) : Option Int := typeP [] cols types (exI x)
def verI (cols types : List Int) (done : List Bool) (x : Ins) : Int :=
  if qcd x = false then 2
  else if (x.to :: opsP x).any (fun r => decide (r < 0) || decide ((types.length : Int) ≤ r)) then 3
  else if x.op = 3 ∧ (x.n < 0 ∨ (cols.length : Int) ≤ x.n) then 3
  else if (opsP x).any (fun r => !done.getD r.toNat false) then 25
  else if tyI cols types x = some (types.getD x.to.toNat 0) then 0 else 13
def opI (time : Int) (row : List Val) (x : Ins) (vs : List Val) : Val := if x.op = 21 then ifV vs else opV (fun _ _ => zeroV) time row [] x.op x.n x.s vs
def argsI (regs : List Val) (x : Ins) : List Val := (opsP x).map fun r => regs.getD r.toNat zeroV
def stepI (time : Int) (row : List Val) (regs : List Val) (x : Ins) : List Val := regs.set x.to.toNat (opI time row x (argsI regs x))
def regsI (time : Int) (row : List Val) (l : List Ins) (regs : List Val) : List Val := l.foldl (stepI time row) regs
def valC (c : Cod) (time : Int) (row : List Val) : Val := (regsI time row c.ins (List.replicate c.types.length zeroV)).getD c.out.toNat zeroV
def RegsOk (types : List Int) (done : List Bool) (regs : List Val) : Prop :=
  regs.length = types.length ∧ done.length = types.length ∧ ∀ r : Nat, done.getD r false = true → (regs.getD r zeroV).k = types.getD r 0 ∧ qz (regs.getD r zeroV)
structure InsOk (cols types : List Int) (done : List Bool) (x : Ins) : Prop where
  form : qcd x = true
  to0 : 0 ≤ x.to
  to1 : x.to < types.length
  args : ∀ r ∈ opsP x, 0 ≤ r ∧ r < types.length ∧ done.getD r.toNat false = true
  col : x.op = 3 → 0 ≤ x.n ∧ x.n < cols.length
  typ : tyI cols types x = some (types.getD x.to.toNat 0)
theorem InsOk.ver {cols types : List Int} {done : List Bool} {x : Ins} (h : InsOk cols types done x) : verI cols types done x = 0 := by
  unfold verI
  rw [if_neg (by rw [h.form]; simp), if_neg, if_neg, if_neg, if_pos h.typ]
  · rw [Bool.not_eq_true, List.any_eq_false]
    intro r hr
    rw [(h.args r hr).2.2]; simp
  · rintro ⟨h3, h4⟩
    have := h.col h3; omega
  · rw [Bool.not_eq_true, List.any_eq_false]
    intro r hr
    simp only [Bool.or_eq_true, decide_eq_true_eq, not_or]
    rcases List.mem_cons.1 hr with rfl | hr
    · have := h.to0; have := h.to1; omega
    · have := h.args r hr; omega
theorem InsOk.op {cols types : List Int} {done : List Bool} {x : Ins} (h : InsOk cols types done x) : 0 ≤ x.op ∧ x.op ≤ 21 ∧ x.op ≠ 4 := by
  have := h.form
  unfold qcd at this
  simp only [Bool.and_eq_true] at this
  have h2 := this.1.1
  unfold opOk at h2
  simp only [Bool.and_eq_true, decide_eq_true_eq] at h2
  exact ⟨h2.1.1, h2.1.2, h2.2⟩
theorem rightF_nil : qdc [] = true := by unfold qdc; simp
theorem tys_params {cols types : List Int} : ∀ (l : List Int) {ts : List Int}, tys [] cols types (l.map paramE) = some ts → ts = l.map fun r => types.getD r.toNat 0
  | [], ts, h => by rw [List.map_nil, tys] at h; cases h; rfl
  | r :: l, ts, h => by
    rw [List.map_cons, tys] at h
    cases hr : ty [] cols types (paramE r) with
    | none => rw [hr] at h; cases h
    | some t =>
      rw [hr] at h
      cases hl : tys [] cols types (l.map paramE) with
      | none => rw [hl] at h; cases h
      | some us =>
        rw [hl] at h
        cases h
        rw [List.map_cons, ← tys_params l hl]
        congr 1
        unfold paramE at hr
        rw [ty] at hr
        simp only [tys] at hr
        have h2 := qef (.inr rfl) hr
        rw [if_neg (by decide)] at h2
        obtain ⟨h3, h4⟩ : 0 ≤ r ∧ types[r.toNat]? = some t := by
          unfold pickT at h2
          split at h2
          · cases h2
          · cases hv : types[r.toNat]? with
            | none => rw [hv] at h2; cases h2
            | some v =>
              rw [hv] at h2; dsimp only at h2
              split at h2
              · cases h2; exact ⟨by omega, rfl⟩
              · cases h2
        rw [List.getD_eq_getElem?_getD, h4]; rfl
theorem InsOk.tail {cols types : List Int} {done : List Bool} {x : Ins} (h : InsOk cols types done x) : tailT [] cols types x.op x.n x.s ((opsP x).map fun r => types.getD r.toNat 0) = some (types.getD x.to.toNat 0) := by
  have := h.typ
  unfold tyI typeP at this
  rw [if_pos rightF_nil] at this
  unfold tyD at this
  split at this
  · cases this
  unfold exI at this
  rw [ty] at this
  cases hl : tys [] cols types ((opsP x).map paramE) with
  | none => rw [hl] at this; cases this
  | some ts =>
    rw [hl] at this
    dsimp only at this
    rw [tys_params _ hl] at this
    exact this
theorem tail_sound {cols types : List Int} {row : List Val} (hrow : qce cols row) {x : Ins} {t : Int} {time : Int} {vs : List Val} (hop : x.op ≠ 4) (hs : ∀ v ∈ vs, qz v) (h : tailT [] cols types x.op x.n x.s (vs.map Val.k) = some t) :
    (opI time row x vs).k = t ∧ qz (opI time row x vs) := by
  have h22 : x.op ≠ 22 := by
    intro e
    unfold tailT at h
    split at h
    · cases h
    · unfold callT at h
      split at h
      · cases h
      · simp at h
  have h2 : tailT [] cols [] x.op x.n x.s (vs.map Val.k) = some t := qer (fun _ h => h) (fun e => absurd e hop) h
  unfold tailT at h2
  split at h2
  · cases h2
  unfold opI
  split at h2
  · rename_i hnil
    obtain rfl : vs = [] := by simpa using hnil
    obtain ⟨h21, -, h3⟩ := leaf_fit (call := fun _ _ => zeroV) (time := time) (params := []) hrow rfl (by simp) h2
    rw [if_neg h21]; exact h3
  · exact (oper_sound (call := fun _ _ => zeroV) (time := time) (row := row) (params := []) hs h2).2
theorem RegsOk.args {types : List Int} {done : List Bool} {regs : List Val} (h : RegsOk types done regs) {cols : List Int} {x : Ins} (hx : InsOk cols types done x) :
    (argsI regs x).map Val.k = (opsP x).map (fun r => types.getD r.toNat 0) ∧ ∀ v ∈ argsI regs x, qz v := by
  unfold argsI
  constructor
  · rw [List.map_map]
    exact List.map_congr_left fun r hr => (h.2.2 r.toNat (hx.args r hr).2.2).1
  · intro v hv
    obtain ⟨r, hr, rfl⟩ := List.mem_map.1 hv
    exact (h.2.2 r.toNat (hx.args r hr).2.2).2
theorem RegsOk.res {cols types : List Int} {row : List Val} (hrow : qce cols row) {done : List Bool} {regs : List Val} (h : RegsOk types done regs) {x : Ins} (hx : InsOk cols types done x) (time : Int) :
    (opI time row x (argsI regs x)).k = types.getD x.to.toNat 0 ∧ qz (opI time row x (argsI regs x)) := by
  obtain ⟨h1, h2⟩ := h.args hx
  exact tail_sound hrow hx.op.2.2 h2 (by rw [h1]; exact hx.tail)
theorem qy {α : Type} (l : List α) (i j : Nat) (a d : α) : (l.set i a).getD j d = if i = j ∧ i < l.length then a else l.getD j d := by
  rw [List.getD_eq_getElem?_getD, List.getElem?_set]
  split
  · rename_i h; subst h
    split
    · rename_i h2; rw [if_pos ⟨rfl, h2⟩]; rfl
    · rename_i h2; rw [if_neg (by rintro ⟨-, h3⟩; exact h2 h3), List.getD_eq_getElem?_getD, List.getElem?_eq_none (by omega)]
  · rename_i h; rw [if_neg (by rintro ⟨h2, -⟩; exact h h2), List.getD_eq_getElem?_getD]
theorem RegsOk.step {cols types : List Int} {row : List Val} (hrow : qce cols row) {done : List Bool} {regs : List Val} (h : RegsOk types done regs) {x : Ins} (hx : InsOk cols types done x) (time : Int) : RegsOk types (done.set x.to.toNat true) (stepI time row regs x) := by
  obtain ⟨h1, h2, h3⟩ := h
  refine ⟨by rw [stepI, List.length_set]; exact h1, by rw [List.length_set]; exact h2, fun r hr => ?_⟩
  have hto := hx.to1
  have hto0 := hx.to0
  rw [qy] at hr
  rw [stepI, qy]
  by_cases he : x.to.toNat = r
  · rw [if_pos ⟨he, by omega⟩, ← he]
    exact RegsOk.res hrow ⟨h1, h2, h3⟩ hx time
  · rw [if_neg (fun h => he h.1)] at hr ⊢
    exact h3 r hr
theorem regsOk_start (types : List Int) : RegsOk types (List.replicate types.length false) (List.replicate types.length zeroV) := by
  refine ⟨by simp, by simp, fun r hr => ?_⟩
  rw [List.getD_eq_getElem?_getD, List.getElem?_replicate] at hr
  split at hr <;> cases hr
def AllOk (cols types : List Int) : List Ins → List Bool → Prop
  | [], _ => True
  | x :: l, done => InsOk cols types done x ∧ AllOk cols types l (done.set x.to.toNat true)
def doneL : List Ins → List Bool → List Bool
  | [], done => done
  | x :: l, done => doneL l (done.set x.to.toNat true)
structure CodOk (c : Cod) (cols : List Int) : Prop where
  ni : c.ins.length ≤ 1000
  nt : c.types.length ≤ 1000
  kinds : ∀ t ∈ c.types, 0 ≤ t ∧ t < 3
  all : AllOk cols c.types c.ins (List.replicate c.types.length false)
  out0 : 0 ≤ c.out
  out1 : c.out < c.types.length
  out2 : (doneL c.ins (List.replicate c.types.length false)).getD c.out.toNat false = true
theorem AllOk.regs {cols types : List Int} {row : List Val} (hrow : qce cols row) (time : Int) : ∀ (l : List Ins) {done : List Bool} {regs : List Val}, AllOk cols types l done → RegsOk types done regs → RegsOk types (doneL l done) (regsI time row l regs)
  | [], _, _, _, h => h
  | x :: l, done, regs, h, hr => AllOk.regs hrow time l h.2 (hr.step hrow h.1 time)
theorem CodOk.val {c : Cod} {cols : List Int} {row : List Val} (h : CodOk c cols) (hrow : qce cols row) (time : Int) : (valC c time row).k = c.types.getD c.out.toNat 0 ∧ qz (valC c time row) :=
  (AllOk.regs hrow time c.ins h.all (regsOk_start c.types)).2.2 _ h.out2
end Go.Proofs.YtnkimlkoijfcpaaGreatDoor

/- Layer 25 on plain data: the results of a program, one after the other; where each operand comes from. -/
namespace Go.Proofs.YtnkimlkoijfcpaaGreatDoor
open Go.RowKit Go.Lib
structure Nd where
  x : Ins
  src : List Nat
def resN (time : Int) (row : List Val) : List Nd → List Val → List Val
  | [], acc => acc
  | d :: l, acc => resN time row l (acc ++ [opI time row d.x (d.src.map fun k => acc.getD k zeroV)])
def nodes : List Ins → Nat → List Nat → List Nd
  | [], _, _ => []
  | x :: l, i, last => ⟨x, (opsP x).map fun r => last.getD r.toNat 0⟩ :: nodes l (i + 1) (last.set x.to.toNat i)
def lastL : List Ins → Nat → List Nat → List Nat
  | [], _, last => last
  | x :: l, i, last => lastL l (i + 1) (last.set x.to.toNat i)
theorem resN_len (time : Int) (row : List Val) : ∀ (l : List Nd) (acc : List Val), (resN time row l acc).length = acc.length + l.length
  | [], acc => rfl
  | d :: l, acc => by rw [resN, resN_len time row l]; simp; omega
theorem qbp : ∀ (l : List Ins) (i : Nat) (last : List Nat), (nodes l i last).length = l.length
  | [], _, _ => rfl
  | x :: l, i, last => by rw [nodes, List.length_cons, qbp l, List.length_cons]
def Agree (done : List Bool) (regs : List Val) (last : List Nat) (acc : List Val) : Prop :=
  done.length = regs.length ∧ last.length = regs.length ∧ ∀ r : Nat, done.getD r false = true → last.getD r 0 < acc.length ∧ regs.getD r zeroV = acc.getD (last.getD r 0) zeroV
theorem Agree.args {cols types : List Int} {done : List Bool} {regs : List Val} {last : List Nat} {acc : List Val} (h : Agree done regs last acc) {x : Ins} (hx : InsOk cols types done x) :
    ((opsP x).map fun r => last.getD r.toNat 0).map (fun k => acc.getD k zeroV) = argsI regs x := by
  unfold argsI
  rw [List.map_map]
  exact List.map_congr_left fun r hr => (h.2.2 r.toNat (hx.args r hr).2.2).2.symm
theorem Agree.step {cols types : List Int} {done : List Bool} {regs : List Val} {last : List Nat} {acc : List Val} (h : Agree done regs last acc) {x : Ins} (hx : InsOk cols types done x) (hl : regs.length = types.length) (time : Int) (row : List Val) :
    Agree (done.set x.to.toNat true) (stepI time row regs x) (last.set x.to.toNat acc.length) (acc ++ [opI time row x (argsI regs x)]) := by
  obtain ⟨h1, h2, h3⟩ := h
  have h0 := hx.to0
  have h4 := hx.to1
  refine ⟨by simp [stepI, h1], by simp [stepI, h2], fun r hr => ?_⟩
  rw [qy] at hr
  rw [stepI, qy, qy]
  by_cases he : x.to.toNat = r
  · rw [if_pos ⟨he, by omega⟩, if_pos ⟨he, by omega⟩]
    refine ⟨by simp, ?_⟩
    rw [List.getD_eq_getElem?_getD, List.getElem?_append_right (Nat.le_refl _)]; simp
  · rw [if_neg (fun h => he h.1)] at hr
    rw [if_neg (fun h => he h.1), if_neg (fun h => he h.1)]
    obtain ⟨h5, h6⟩ := h3 r hr
    refine ⟨by rw [List.length_append]; exact Nat.lt_of_lt_of_le h5 (Nat.le_add_right _ _), ?_⟩
    rw [h6, List.getD_eq_getElem?_getD (l := acc ++ _), List.getElem?_append_left h5, List.getD_eq_getElem?_getD]
theorem agree_all {cols types : List Int} (time : Int) (row : List Val) : ∀ (l : List Ins) {done : List Bool} {regs : List Val} {last : List Nat} {acc : List Val}, AllOk cols types l done → regs.length = types.length → Agree done regs last acc →
    Agree (doneL l done) (regsI time row l regs) (lastL l acc.length last) (resN time row (nodes l acc.length last) acc)
  | [], _, _, _, _, _, _, h => h
  | x :: l, done, regs, last, acc, ha, hl, h => by
    have h1 := h.step ha.1 hl time row
    have h2 := agree_all time row l ha.2 (by rw [stepI, List.length_set]; exact hl) h1
    rw [List.length_append, List.length_singleton] at h2
    rw [doneL, lastL, nodes, resN]
    rw [h.args ha.1]
    exact h2
theorem agree_start (n : Nat) : Agree (List.replicate n false) (List.replicate n zeroV) (List.replicate n 0) [] := by
  refine ⟨by simp, by simp, fun r hr => ?_⟩
  rw [List.getD_eq_getElem?_getD, List.getElem?_replicate] at hr
  split at hr <;> cases hr
def qv (c : Cod) : List Nd := nodes c.ins 0 (List.replicate c.types.length 0)
def rootC (c : Cod) : Nat := (lastL c.ins 0 (List.replicate c.types.length 0)).getD c.out.toNat 0
theorem CodOk.val_res {c : Cod} {cols : List Int} (h : CodOk c cols) (time : Int) (row : List Val) : rootC c < c.ins.length ∧ valC c time row = (resN time row (qv c) []).getD (rootC c) zeroV := by
  have h1 := agree_all time row c.ins h.all (by simp) (agree_start c.types.length)
  obtain ⟨h2, h3⟩ := h1.2.2 _ h.out2
  rw [resN_len, qbp] at h2
  simp only [List.length_nil, Nat.zero_add] at h2
  exact ⟨h2, h3⟩
end Go.Proofs.YtnkimlkoijfcpaaGreatDoor
