/- Layer 26 on plain data: folding keeps the type and the value. -/
import Derived.Test.YtkedbjjfmejbhaaGreatDoorRows
import Derived.ProofKit
import Derived.Below
import Derived.ChangeSame
import Derived.HandedShaped
import Derived.Lay
import Derived.Shelf.Vars
import Derived.LaidMore
import Derived.Test.YtkedbjjfmejbhaaGreatDoorGe1
import Derived.Test.YtkedbjjfmejbhaaGreatDoorGe2
set_option linter.unusedSimpArgs false
set_option linter.unusedVariables false
namespace Go.Proofs.YtkedbjjfmejbhaaGreatDoor
open Go.RowKit Go.Lib
def qbg (e : Ex) : Bool := decide (e.op = 0) || (decide (e.op = 1) || decide (e.op = 2))
theorem qns (e : Ex) : qbg e = true ↔ e.op = 0 \/ e.op = 1 \/ e.op = 2 := by unfold qbg; simp
def qca (v : Val) : Ex := if v.k = 0 then .mk 0 v.n ByteArray.empty [] else if v.k = 1 then .mk 1 0 v.s [] else if v.k = 2 then .mk 2 v.n ByteArray.empty [] else zeroE
def qhq (o n : Int) (s : ByteArray) (l : List Ex) : Ex := match l with
 | [a, b, c] => if (qbg a = true /\ a.n = 1) \/ sameB b c = true then b else if qbg a = true then c else .mk o n s l
 | _ => .mk o n s l
def qma (o n : Int) (s : ByteArray) (l : List Ex) : Ex := match l with
 | [a, b] => if qbg a = true then (if decide (a.n = 1) = decide (o = 17) then b else a) else if qbg b = true then (if decide (b.n = 1) = decide (o = 17) then a else b) else .mk o n s l
 | _ => .mk o n s l
def notP (o n : Int) (s : ByteArray) (l : List Ex) : Ex := match l with
 | [.mk o2 n2 s2 l2] => if o2 = 6 then (match l2 with | [x] => x | _ => .mk o n s l) else .mk o n s l
 | _ => .mk o n s l
def topF (o n : Int) (s : ByteArray) (l : List Ex) : Ex :=
 if l = [] then .mk o n s []
 else if o ≠ 22 /\ l.all qbg = true then qca (evalP [] 0 [] (.mk o n s l))
 else if o = 21 then qhq o n s l
 else if o = 17 \/ o = 18 then qma o n s l
 else if o = 6 then notP o n s l
 else .mk o n s l
mutual
def foldE : Ex -> Ex
 | .mk o n s l => topF o n s (foldL l)
def foldL : List Ex -> List Ex
 | [] => []
 | e :: l => foldE e :: foldL l
end
theorem qgb : ∀ l, foldL l = l.map foldE
 | [] => by rw [foldL]; rfl
 | e :: l => by rw [foldL, qgb l]; rfl
theorem qil1 {call call2 : Int -> List Val -> Val} {t t2 : Int} {r r2 p p2 : List Val} (e : Ex) (h : qbg e = true) : ev call t r p e = ev call2 t2 r2 p2 e := by
 obtain ⟨o, n, s, l⟩ := e
 rw [qns] at h
 simp only [Ex.op] at h
 rw [ev, ev, if_neg (by omega), if_neg (by omega)]
 rcases h with rfl | rfl | rfl <;> simp [opV]
def Snd (F : List Fn) (c p : List Int) (call : Int -> List Val -> Val) (time : Int) (row params : List Val) : Prop := ∀ e t, ty F c p e = some t -> (ev call time row params e).k = t /\ qr (ev call time row params e)
theorem qgd1 {c : List Int} {time : Int} {row : List Val} (h : qbu c row) : Snd [] c [] (fun _ _ => zeroV) time row [] := fun e t ht =>
 qxi (F := []) time (by intro i hi; simp at hi) 0 e (by simpa using ht) h rfl (by simp)
theorem qbb1 {v : Val} (h : qr v) : v.k = 0 \/ v.k = 1 \/ v.k = 2 := by
 obtain ⟨h, -⟩ := h
 unfold okV at h
 split at h
 .exact .inl ‹_›
 .split at h
  .exact .inr (.inl ‹_›)
  .simp only [Bool.and_eq_true, decide_eq_true_eq] at h; omega
theorem qrw {s : ByteArray} (h : s.toList = []) : s = ByteArray.empty := by
 apply WideShapes.bytes_inj
 rw [<- ByteArray.toList_eq, h, <- ByteArray.toList_eq, qgw]
theorem qbc1 {v : Val} (h : qr v) (hk : v.k = 0) : v = numV v.n := by
 obtain ⟨k, n, s⟩ := v
 obtain ⟨h, -⟩ := h
 simp only at hk; subst hk
 simp [okV] at h
 rw [qrw h]; rfl
theorem qwn {v : Val} (h : qr v) (hk : v.k = 1) : v = textV v.s /\ v.s.size <= 200 := by
 obtain ⟨k, n, s⟩ := v
 obtain ⟨h, h2⟩ := h
 simp only at hk; subst hk
 simp [okV] at h
 exact ⟨by rw [h.1]; rfl, h2⟩
theorem qhx {v : Val} (h : qr v) (hk : v.k = 2) : v = boolV (decide (v.n = 1)) /\ (v.n = 0 \/ v.n = 1) := by
 obtain ⟨k, n, s⟩ := v
 obtain ⟨h, -⟩ := h
 simp only at hk; subst hk
 simp [okV] at h
 obtain ⟨h1, h2⟩ := h
 rw [qrw h2]
 refine ⟨?_, h1⟩
 rcases h1 with rfl | rfl <;> rfl
theorem qda {v : Val} (h : qr v) (F : List Fn) (c p : List Int) : ty F c p (qca v) = some v.k /\ (∀ call time row params, ev call time row params (qca v) = v) /\ qbg (qca v) = true /\ (qca v).args = [] := by
 have e0 : ByteArray.empty.size = 0 := rfl
 rcases qbb1 h with hk | hk | hk
 .have := qbc1 h hk
  generalize v.n = n at this
  subst this
  refine ⟨?_, ?_, rfl, rfl⟩
  .simp [qca, numV, ty, tys, tailT, leafT, e0]
  .intros; simp [qca, numV, ev, evs, opV]
 .obtain ⟨this, hs⟩ := qwn h hk
  generalize v.s = s at this hs
  subst this
  refine ⟨?_, ?_, rfl, rfl⟩
  .simp [qca, textV, ty, tys, tailT, leafT]; omega
  .intros; simp [qca, textV, ev, evs, opV]
 .obtain ⟨this, hb⟩ := qhx h hk
  generalize decide (v.n = 1) = b at this
  subst this
  refine ⟨?_, ?_, rfl, rfl⟩
  .cases b <;> simp [qca, boolV, ty, tys, tailT, leafT, e0]
  .intros; cases b <;> simp [qca, boolV, ev, evs, opV]
theorem qyx {a b : Ex} (h : sameB a b = true) : a = b := by
 revert b
 induction a using Ex.ind with
 | h o n s l ih =>
  rintro ⟨o2, n2, s2, l2⟩ h
  rw [sameB] at h
  simp only [Bool.and_eq_true, decide_eq_true_eq] at h
  obtain ⟨rfl, rfl, hs, hl⟩ := h
  have hs2 : s = s2 := WideShapes.bytes_inj (by rw [<- ByteArray.toList_eq, hs, ByteArray.toList_eq])
  subst hs2
  have : ∀ (l l2 : List Ex), (∀ x ∈ l, ∀ {b : Ex}, sameB x b = true -> x = b) -> qcy l l2 = true -> l = l2 := fun l => by
   induction l with
   | nil => intro l2 _ h; cases l2 with
    | nil => rfl
    | cons y l2 => simp [qcy] at h
   | cons x l ih2 =>
    intro l2 hx h
    cases l2 with
    | nil => simp [qcy] at h
    | cons y l2 =>
     rw [qcy, Bool.and_eq_true] at h
     rw [hx x (by simp) h.1, ih2 l2 (fun z hz => hx z (by simp [hz])) h.2]
  rw [this l l2 ih hl]
theorem qjr {s : ByteArray} (h : s.size = 0) : s = ByteArray.empty := by
 apply WideShapes.bytes_inj
 have : s.data.toList.length = 0 := by rw [Array.length_toList]; exact h
 rw [List.length_eq_zero_iff.1 this]; rfl
theorem qwu {F : List Fn} {c p : List Int} {l : List Ex} (h : tys F c p l = some []) : l = [] := by
 have := qdl l h
 exact List.length_eq_zero_iff.1 this.symm
theorem qgu {F : List Fn} {c p : List Int} {e : Ex} {t : Int} (hc : qbg e = true) (h : ty F c p e = some t) : ∃ v, qr v /\ v.k = t /\ qca v = e := by
 obtain ⟨o, n, s, l⟩ := e
 rw [qns] at hc
 simp only [Ex.op] at hc
 rw [ty] at h
 cases hl : tys F c p l with
 | none => rw [hl] at h; cases h
 | some ts =>
  rw [hl] at h
  dsimp only at h
  unfold tailT at h
  split at h
  .cases h
  rename_i hs
  rw [if_neg (by omega)] at h
  split at h
  .rename_i hts
   subst hts
   obtain rfl := qwu hl
   unfold leafT at h
   rcases hc with rfl | rfl | rfl
   .obtain rfl := qjr (s := s) (by omega)
    simp at h
    exact ⟨numV n, qel n, h, rfl⟩
   .simp at h
    obtain ⟨⟨rfl, h2⟩, rfl⟩ := h
    exact ⟨textV s, qhe (by omega), rfl, rfl⟩
   .obtain rfl := qjr (s := s) (by omega)
    simp at h
    obtain ⟨h1, rfl⟩ := h
    refine ⟨boolV (decide (n = 1)), qeb _, rfl, ?_⟩
    rcases h1 with rfl | rfl <;> rfl
  .exfalso
   unfold operT at h
   split at h
   .cases h
   rw [if_neg (by omega), if_neg (by omega), if_neg (by omega), if_neg (by omega), if_neg (by omega), if_neg (by omega), if_neg (by omega), if_neg (by omega)] at h
   cases h
theorem ty_mk {F : List Fn} {c p : List Int} {o n t : Int} {s : ByteArray} {l : List Ex} (h : ty F c p (.mk o n s l) = some t) : ∃ ts, tys F c p l = some ts /\ tailT F c p o n s ts = some t := by
 rw [ty] at h
 cases hl : tys F c p l with
 | none => rw [hl] at h; cases h
 | some ts => rw [hl] at h; exact ⟨ts, rfl, h⟩
theorem qhz {F : List Fn} {c p : List Int} {o n t : Int} {s : ByteArray} {l : List Ex} (h : ty F c p (.mk o n s l) = some t) (ho : o ≠ 22) (hl : l ≠ []) : ∃ ts, tys F c p l = some ts /\ operT o n ts = some t /\ n = 0 /\ (o = 1 \/ s.size = 0) /\ 6 <= o /\ o <= 21 := by
 obtain ⟨ts, h1, h2⟩ := ty_mk h
 unfold tailT at h2
 split at h2
 .cases h2
 rename_i hs
 try rw [if_neg ho] at h2
 split at h2
 .rename_i hts
  subst hts
  exact absurd (qwu h1) hl
 .have h3 := h2
  unfold operT at h3
  split at h3
  .cases h3
  rename_i hn
  refine ⟨ts, h1, h2, by omega, by omega, ?_⟩
  by_cases hh : 6 <= o /\ o <= 21
  .exact hh
  .exfalso
   rw [if_neg (by omega), if_neg (by omega), if_neg (by omega), if_neg (by omega), if_neg (by omega), if_neg (by omega), if_neg (by omega), if_neg (by omega)] at h3
   cases h3
theorem tys1 {F : List Fn} {c p : List Int} {l : List Ex} {a : Int} (h : tys F c p l = some [a]) : ∃ x, l = [x] /\ ty F c p x = some a := by
 match l, h with
 | [], h => rw [tys] at h; cases h
 | [x], h =>
  simp only [tys] at h
  cases hx : ty F c p x with
  | none => rw [hx] at h; cases h
  | some t => rw [hx] at h; cases h; exact ⟨x, rfl, hx⟩
 | x :: y :: r, h => have := qdl _ h; simp at this
theorem qep {F : List Fn} {c p : List Int} {x : Ex} {l : List Ex} {ts : List Int} (h : tys F c p (x :: l) = some ts) : ∃ t us, ts = t :: us /\ ty F c p x = some t /\ tys F c p l = some us := by
 rw [tys] at h
 cases hx : ty F c p x with
 | none => rw [hx] at h; cases h
 | some t =>
  rw [hx] at h
  cases hl : tys F c p l with
  | none => rw [hl] at h; cases h
  | some us => rw [hl] at h; cases h; exact ⟨t, us, rfl, rfl, rfl⟩
theorem tys2 {F : List Fn} {c p : List Int} {l : List Ex} {a b : Int} (h : tys F c p l = some [a, b]) : ∃ x y, l = [x, y] /\ ty F c p x = some a /\ ty F c p y = some b := by
 match l, h with
 | [], h => rw [tys] at h; cases h
 | x :: l, h =>
  obtain ⟨t, us, e, h1, h2⟩ := qep h
  cases e
  obtain ⟨y, rfl, h3⟩ := tys1 h2
  exact ⟨x, y, rfl, h1, h3⟩
theorem tys3 {F : List Fn} {c p : List Int} {l : List Ex} {a b d : Int} (h : tys F c p l = some [a, b, d]) : ∃ x y z, l = [x, y, z] /\ ty F c p x = some a /\ ty F c p y = some b /\ ty F c p z = some d := by
 match l, h with
 | [], h => rw [tys] at h; cases h
 | x :: l, h =>
  obtain ⟨t, us, e, h1, h2⟩ := qep h
  cases e
  obtain ⟨y, z, rfl, h3, h4⟩ := tys2 h2
  exact ⟨x, y, z, rfl, h1, h3, h4⟩
theorem qlo1 {o n t : Int} {ts : List Int} (h : operT o n ts = some t) (ho : o = 6) : ts = [2] /\ t = 2 := by
 subst ho
 unfold operT at h
 split at h
 .cases h
 rw [if_pos rfl] at h
 split at h <;> cases h
 exact ⟨‹_›, rfl⟩
theorem qes1 {o n t : Int} {ts : List Int} (h : operT o n ts = some t) (ho : o = 17 \/ o = 18) : ts = [2, 2] /\ t = 2 := by
 unfold operT at h
 split at h
 .cases h
 rw [if_neg (by omega), if_neg (by omega), if_neg (by omega), if_neg (by omega), if_neg (by omega), if_pos (by omega)] at h
 split at h <;> cases h
 exact ⟨‹_›, rfl⟩
theorem qet1 {o n t : Int} {ts : List Int} (h : operT o n ts = some t) (ho : o = 21) : ts = [2, t, t] := by
 subst ho
 unfold operT at h
 split at h
 .cases h
 rw [if_neg (by omega), if_neg (by omega), if_neg (by omega), if_neg (by omega), if_neg (by omega), if_neg (by omega), if_neg (by omega), if_pos rfl] at h
 split at h
 .split at h
  .rename_i hab; cases h; rw [hab.1, hab.2]
  .cases h
 .cases h
theorem qsf {F : List Fn} {c p : List Int} : ∀ (l : List Ex) {ts : List Int}, tys F c p l = some ts -> l.all qbg = true -> tys [] [] [] l = some ts
 | [], ts, h, _ => by rw [tys] at h ⊢; exact h
 | x :: l, ts, h, hc => by
  obtain ⟨t, us, rfl, h1, h2⟩ := qep h
  rw [List.all_cons, Bool.and_eq_true] at hc
  obtain ⟨v, hv, rfl, rfl⟩ := qgu hc.1 h1
  rw [tys, (qda hv [] [] []).1, qsf l h2 hc.2]
theorem qse {call call2 : Int -> List Val -> Val} {t t2 : Int} {r r2 p p2 : List Val} : ∀ l : List Ex, l.all qbg = true -> evs call t r p l = evs call2 t2 r2 p2 l
 | [], _ => by rw [evs, evs]
 | x :: l, h => by
  rw [List.all_cons, Bool.and_eq_true] at h
  rw [evs, evs, qil1 x h.1, qse l h.2]
theorem ev_mk (call : Int -> List Val -> Val) (time : Int) (row params : List Val) (o n : Int) (s : ByteArray) (l : List Ex) : ev call time row params (.mk o n s l) = if o = 21 then ifV (evs call time row params l) else opV call time row params o n s (evs call time row params l) := by rw [ev]
theorem qci1 {F : List Fn} {c p : List Int} {o n t : Int} {s : ByteArray} {l : List Ex} (h : ty F c p (.mk o n s l) = some t) (ho : o ≠ 22) (hl : l ≠ []) (hc : l.all qbg = true) :
  ty [] [] [] (.mk o n s l) = some t /\ qr (evalP [] 0 [] (.mk o n s l)) /\ (evalP [] 0 [] (.mk o n s l)).k = t /\ ∀ call time row params, ev call time row params (.mk o n s l) = evalP [] 0 [] (.mk o n s l) := by
 obtain ⟨ts, h1, h2, rfl, hs, h6, h21⟩ := qhz h ho hl
 have h3 : ty [] [] [] (.mk o 0 s l) = some t := by
  rw [ty, qsf l h1 hc]
  dsimp only
  unfold tailT
  rw [if_neg (by omega), if_neg ho, if_neg, h2]
  rintro rfl
  exact hl (qwu h1)
 obtain ⟨h4, h5⟩ := qgd1 (time := 0) (qbu.nil []) _ _ h3
 refine ⟨h3, h5, h4, fun call time row params => ?_⟩
 show _ = ev (callN [] 0 0) 0 [] [] _
 rw [ev_mk, ev_mk, qse (call2 := callN [] 0 0) (t2 := 0) (r2 := []) (p2 := []) l hc]
 split
 .rfl
 .have a0 : ¬ o = 0 := by omega
  have a1 : ¬ o = 1 := by omega
  have a2 : ¬ o = 2 := by omega
  have a3 : ¬ o = 3 := by omega
  have a4 : ¬ o = 4 := by omega
  have a5 : ¬ o = 5 := by omega
  simp only [opV, a0, a1, a2, a3, a4, a5, ho, if_false]
theorem qjd {v : Val} (h : qr v) (hk : v.k = 2) : boolV (decide (v.n = 1)) = v := (qhx h hk).1.symm
theorem qsr1 {F : List Fn} {c p : List Int} {o n t : Int} {s : ByteArray} {l : List Ex} (h : ty F c p (.mk o n s l) = some t) :
  ty F c p (topF o n s l) = some t /\ ∀ call time row params, Snd F c p call time row params -> ev call time row params (topF o n s l) = ev call time row params (.mk o n s l) := by
 unfold topF
 split
 .rename_i hl; subst hl; exact ⟨h, fun _ _ _ _ _ => rfl⟩
 rename_i hl
 split
 .rename_i hc
  obtain ⟨-, h1, h2, h3⟩ := qci1 h hc.1 hl hc.2
  obtain ⟨g1, g2, -, -⟩ := qda h1 F c p
  exact ⟨by rw [g1, h2], fun call time row params _ => by rw [g2, h3]⟩
 rename_i hnc
 split
 .rename_i ho
  subst ho
  obtain ⟨ts, h1, h2, rfl, hs, -, -⟩ := qhz h (by omega) hl
  obtain rfl := qet1 h2 rfl
  obtain ⟨x, y, z, rfl, hx, hy, hz⟩ := tys3 h1
  unfold qhq
  dsimp only
  have hev : ∀ call time row params, ev call time row params (.mk 21 0 s [x, y, z]) = if (ev call time row params x).n = 1 then ev call time row params y else ev call time row params z := fun call time row params => by
   rw [ev_mk, if_pos rfl]; simp only [evs]; rfl
  split
  .rename_i hc
   refine ⟨hy, fun call time row params hS => ?_⟩
   rw [hev]
   rcases hc with hc | hc
   .obtain ⟨v, hv, hvk, rfl⟩ := qgu hc.1 hx
    rw [(qda hv F c p).2.1]
    have hn : (qca v).n = v.n := by unfold qca; rw [if_neg (by omega), if_neg (by omega), if_pos hvk]; rfl
    rw [if_pos (by rw [<- hn]; exact hc.2)]
   .rw [qyx hc]; split <;> rfl
  .rename_i hc
   split
   .rename_i hcx
    refine ⟨hz, fun call time row params hS => ?_⟩
    rw [hev]
    obtain ⟨v, hv, hvk, rfl⟩ := qgu hcx hx
    have hn : (qca v).n = v.n := by unfold qca; rw [if_neg (by omega), if_neg (by omega), if_pos hvk]; rfl
    rw [(qda hv F c p).2.1, if_neg (fun h1 => hc (.inl ⟨hcx, by rw [hn]; exact h1⟩))]
   .exact ⟨h, fun _ _ _ _ _ => rfl⟩
 split
 .rename_i ho
  obtain ⟨ts, h1, h2, rfl, hs, -, -⟩ := qhz h (by omega) hl
  obtain ⟨rfl, rfl⟩ := qes1 h2 ho
  obtain ⟨x, y, rfl, hx, hy⟩ := tys2 h1
  unfold qma
  dsimp only
  have hev : ∀ call time row params, ev call time row params (.mk o 0 s [x, y]) = if o = 17 then boolV (decide ((ev call time row params x).n = 1) && decide ((ev call time row params y).n = 1)) else boolV (decide ((ev call time row params x).n = 1) || decide ((ev call time row params y).n = 1)) := fun call time row params => by
   rw [ev_mk, if_neg (by omega)]
   rcases ho with rfl | rfl <;> simp [evs, opV, binV]
  have hcn : ∀ v : Val, qr v -> v.k = 2 -> (qca v).n = v.n := fun v _ hvk => by unfold qca; rw [if_neg (by omega), if_neg (by omega), if_pos hvk]; rfl
  split
  .rename_i hcx
   obtain ⟨v, hv, hvk, rfl⟩ := qgu hcx hx
   rw [hcn v hv hvk]
   split
   .rename_i hd
    refine ⟨hy, fun call time row params hS => ?_⟩
    obtain ⟨k1, k2⟩ := hS _ _ hy
    rw [hev, (qda hv F c p).2.1]
    rcases ho with rfl | rfl
    .simp at hd; simp [hd, qjd k2 k1]
    .simp at hd; simp [hd, qjd k2 k1]
   .rename_i hd
    refine ⟨hx, fun call time row params hS => ?_⟩
    rw [hev, (qda hv F c p).2.1]
    have hb := qjd hv hvk
    rcases ho with rfl | rfl
    .simp at hd; simp [hd] at hb ⊢; exact hb.symm
    .simp at hd; simp [hd] at hb ⊢; exact hb.symm
  .rename_i hcx
   split
   .rename_i hcy
    obtain ⟨v, hv, hvk, rfl⟩ := qgu hcy hy
    rw [hcn v hv hvk]
    split
    .rename_i hd
     refine ⟨hx, fun call time row params hS => ?_⟩
     obtain ⟨k1, k2⟩ := hS _ _ hx
     rw [hev, (qda hv F c p).2.1]
     rcases ho with rfl | rfl
     .simp at hd; simp [hd, qjd k2 k1]
     .simp at hd; simp [hd, qjd k2 k1]
    .rename_i hd
     refine ⟨hy, fun call time row params hS => ?_⟩
     rw [hev, (qda hv F c p).2.1]
     have hb := qjd hv hvk
     rcases ho with rfl | rfl
     .simp at hd; simp [hd] at hb ⊢; exact hb.symm
     .simp at hd; simp [hd] at hb ⊢; exact hb.symm
   .exact ⟨h, fun _ _ _ _ _ => rfl⟩
 split
 .rename_i ho
  subst ho
  obtain ⟨ts, h1, h2, rfl, hs, -, -⟩ := qhz h (by omega) hl
  obtain ⟨rfl, rfl⟩ := qlo1 h2 rfl
  obtain ⟨x, rfl, hx⟩ := tys1 h1
  obtain ⟨o2, n2, s2, l2⟩ := x
  unfold notP
  dsimp only
  split
  .rename_i ho2
   subst ho2
   obtain ⟨ts2, g1, g2, rfl, -, -, -⟩ := qhz hx (by omega) (by
    rintro rfl
    rw [ty] at hx
    simp [tys, tailT, leafT] at hx)
   obtain ⟨rfl, -⟩ := qlo1 g2 rfl
   obtain ⟨y, rfl, hy⟩ := tys1 g1
   dsimp only
   refine ⟨hy, fun call time row params hS => ?_⟩
   obtain ⟨k1, k2⟩ := hS _ _ hy
   have hb := (qhx k2 k1)
   rw [ev_mk, if_neg (by omega)]
   simp only [evs, ev_mk]
   obtain ⟨e1, e2⟩ := hb
   rcases e2 with e2 | e2 <;> simp [opV, e2, boolV] <;> rw [e1, e2] <;> rfl
  .exact ⟨h, fun _ _ _ _ _ => rfl⟩
 .exact ⟨h, fun _ _ _ _ _ => rfl⟩
theorem qvs {F : List Fn} {c p : List Int} (e : Ex) : ∀ {t : Int}, ty F c p e = some t -> ty F c p (foldE e) = some t /\ ∀ call time row params, Snd F c p call time row params -> ev call time row params (foldE e) = ev call time row params e := by
 induction e using Ex.ind with
 | h o n s l ih =>
  intro t h
  obtain ⟨ts, h1, h2⟩ := ty_mk h
  have : ∀ (l : List Ex) {ts : List Int}, (∀ x ∈ l, ∀ {t : Int}, ty F c p x = some t -> ty F c p (foldE x) = some t /\ ∀ call time row params, Snd F c p call time row params -> ev call time row params (foldE x) = ev call time row params x) -> tys F c p l = some ts ->
    tys F c p (foldL l) = some ts /\ ∀ call time row params, Snd F c p call time row params -> evs call time row params (foldL l) = evs call time row params l := fun l => by
   induction l with
   | nil => intro ts _ h; rw [foldL]; exact ⟨h, fun _ _ _ _ _ => rfl⟩
   | cons x l ih2 =>
    intro ts hx h
    obtain ⟨t, us, rfl, g1, g2⟩ := qep h
    obtain ⟨g3, g4⟩ := hx x (by simp) g1
    obtain ⟨g5, g6⟩ := ih2 (fun z hz => hx z (by simp [hz])) g2
    rw [foldL]
    refine ⟨by rw [tys, g3, g5], fun call time row params hS => ?_⟩
    rw [evs, evs, g4 _ _ _ _ hS, g6 _ _ _ _ hS]
  obtain ⟨g1, g2⟩ := this l ih h1
  have h3 : ty F c p (.mk o n s (foldL l)) = some t := by rw [ty, g1]; exact h2
  obtain ⟨g3, g4⟩ := qsr1 h3
  rw [foldE]
  refine ⟨g3, fun call time row params hS => ?_⟩
  rw [g4 _ _ _ _ hS, ev_mk, ev_mk, g2 _ _ _ _ hS]



inductive NF : Ex -> Prop
 | mk (o n : Int) (s : ByteArray) (l : List Ex) (h : ∀ x ∈ l, NF x) (ht : topF o n s l = .mk o n s l) : NF (.mk o n s l)
theorem NF.arg {o n : Int} {s : ByteArray} {l : List Ex} (h : NF (.mk o n s l)) : ∀ x ∈ l, NF x := by cases h; assumption
theorem qui (o n : Int) (s : ByteArray) (l : List Ex) : topF o n s l = .mk o n s l \/ (∃ v, topF o n s l = qca v) \/ topF o n s l ∈ l \/ ∃ n2 s2, l = [.mk 6 n2 s2 [topF o n s l]] := by
 unfold topF
 split
 .rename_i h; subst h; exact .inl rfl
 split
 .exact .inr (.inl ⟨_, rfl⟩)
 split
 .unfold qhq
  split
  .split
   .exact .inr (.inr (.inl (by simp)))
   .split
    .exact .inr (.inr (.inl (by simp)))
    .exact .inl rfl
  .exact .inl rfl
 split
 .unfold qma
  split
  .split
   .split
    .exact .inr (.inr (.inl (by simp)))
    .exact .inr (.inr (.inl (by simp)))
   .split
    .split
     .exact .inr (.inr (.inl (by simp)))
     .exact .inr (.inr (.inl (by simp)))
    .exact .inl rfl
  .exact .inl rfl
 split
 .unfold notP
  split
  .split
   .rename_i ho2
    subst ho2
    split
    .exact .inr (.inr (.inr ⟨_, _, rfl⟩))
    .exact .inl rfl
   .exact .inl rfl
  .exact .inl rfl
 .exact .inl rfl
theorem qjm {f : Ex -> Ex} : ∀ l : List Ex, (∀ x ∈ l, parts (f x) <= parts x) -> qm (l.map f) <= qm l
 | [], _ => by simp [qm]
 | x :: l, h => by
  have h1 := h x (by simp)
  have h2 := qjm l fun y hy => h y (by simp [hy])
  rw [List.map_cons, qm, qm]; omega
theorem qlm (v : Val) : parts (qca v) = 1 /\ levels (qca v) = 1 := by
 unfold qca zeroE
 split
 .exact ⟨by rw [parts, qm], by rw [levels, qp]; rfl⟩
 .split
  .exact ⟨by rw [parts, qm], by rw [levels, qp]; rfl⟩
  .split <;> exact ⟨by rw [parts, qm], by rw [levels, qp]; rfl⟩
theorem qgq1 (o n : Int) (s : ByteArray) (l : List Ex) : parts (topF o n s l) <= parts (.mk o n s l) := by
 rcases qui o n s l with h1 | ⟨v, h1⟩ | h1 | ⟨n2, s2, h1⟩
 .rw [h1]; exact Nat.le_refl _
 .rw [h1, (qlm v).1, parts]; omega
 .have := qbh l _ h1
  rw [parts.eq_1 o n s l]; omega
 .have h2 : parts (.mk o n s l) = qm l + 1 := by rw [parts]
  have h3 : qm l = qm [.mk 6 n2 s2 [topF o n s l]] := by rw [<- h1]
  simp only [qm, parts] at h3
  omega
theorem qoa (e : Ex) : parts (foldE e) <= parts e := by
 induction e using Ex.ind with
 | h o n s l ih =>
  rw [foldE]
  refine Nat.le_trans (qgq1 o n s _) ?_
  rw [parts, parts, qgb]
  have := qjm (f := foldE) l ih
  omega
theorem qlz {f : Ex -> Ex} : ∀ (l : List Ex) (n m : Int), n <= m -> (∀ x ∈ l, levels (f x) <= levels x) -> qp (l.map f) n <= qp l m
 | [], n, m, h, _ => by rw [List.map_nil, qp, qp]; exact h
 | x :: l, n, m, h, hx => by
  rw [List.map_cons, qp, qp]
  exact qlz l _ _ (by have := hx x (by simp); omega) fun y hy => hx y (by simp [hy])
theorem qbi1 (o n : Int) (s : ByteArray) (l : List Ex) : levels (topF o n s l) <= levels (.mk o n s l) := by
 have h0 := qcl (.mk o n s l)
 rcases qui o n s l with h1 | ⟨v, h1⟩ | h1 | ⟨n2, s2, h1⟩
 .rw [h1]; omega
 .rw [h1, (qlm v).2]; omega
 .have := qeh l 0 _ h1
  rw [levels.eq_1 o n s l]; omega
 .have h2 : levels (.mk o n s l) = qp l 0 + 1 := by rw [levels]
  have h3 : qp l 0 = qp [.mk 6 n2 s2 [topF o n s l]] 0 := by rw [<- h1]
  simp only [qp, levels] at h3
  omega
theorem qvr (e : Ex) : levels (foldE e) <= levels e := by
 induction e using Ex.ind with
 | h o n s l ih =>
  rw [foldE]
  refine Int.le_trans (qbi1 o n s _) ?_
  rw [levels, levels, qgb]
  have := qlz (f := foldE) l 0 0 (by omega) ih
  omega
end Go.Proofs.YtkedbjjfmejbhaaGreatDoor
namespace Go.Proofs.YtkedbjjfmejbhaaGreatDoor
open Go.ChangeShapes Go.WideShapes Go.ChangeAt Go.RowKit Go.Lib
theorem Tryz.own : ownKnob Tryz.prog.godebug = none := by kernel_rfl
theorem Tryz.laidOut : laidOutB Tryz.prog = true := by kernel_rfl
section
variable {H : Type} {enc : TypeId × Value -> H} {P : Program}
theorem qqs {f : Func} {s : ChangeSpec} {apart fresh handsOn again : Bool} {W W' : World} {args : Array Value} {v : Value} {ds gs : List (DataW H)} {before pa pv : List MemPlace}
  (hW : DataW.Whole enc P f.params.toList s.vars apart W args.toList ds gs before)
  (hres : ∀ (b : Nat) (sp : Nat -> Bool) (hd : Bool), DataW.TrodAll enc P W' b sp hd f.resultTypes.toList (v.resultList f.resultTypes.size) (s.fn H (ds ++ gs)).results [])
  (hargs : ∀ sp : Nat -> Bool, (∀ p ∈ before, sp p.block = true) -> DataW.TrodAll enc P W' 0 sp true f.params.toList args.toList (s.fn H (ds ++ gs)).args pa)
  (hvars : ∀ sp : Nat -> Bool, (∀ p ∈ before, sp p.block = true) -> DataW.TrodVars enc P W' sp s.vars (s.fn H (ds ++ gs)).vars pv)
  (hps : before = pa ++ pv) (hb : Below W.heap.size W W')
  (hok : ∀ (j : Nat) (t : TypeId) (r : Value), f.resultTypes[j]? = some t -> (v.resultList f.resultTypes.size)[j]? = some r -> Value.okWide P W' .any 0 t r) :
  s.post enc P f apart fresh handsOn again W args v W' := by
 have hlt : ∀ p ∈ before, p.block < W.heap.size := fun p hp => hW.lt p hp
 have hold : ∀ p ∈ before, (fun b => decide (b < W.heap.size)) p.block = true := fun p hp => by simpa using hlt p hp
 refine ⟨ds, gs, before, [], pa, pv, hW, hres _ _ _, hargs _ hold, hvars _ hold, World.keptBut_mono (fun p hp => ⟨hp, ?_⟩) (hb.frame (· ∈ before)), fun _ => ?_⟩
 .rw [hps, List.mem_append] at hp
  exact Or.inr hp
 .obtain ⟨_, _, _, _, _, hz, hn⟩ := hW
  refine ⟨hok, _, _, ([] ++ pa) ++ pv, ⟨[] ++ pa, pv, trodAll_append (hargs _ (fun _ _ => rfl)) (hres _ _ _), hvars _ (fun _ _ => rfl), rfl, ?_, ?_⟩, ?_⟩
  .intro b off hp
   have hin : MemPlace.cell b off ∈ before := by rw [hps]; simpa using hp
   rw [hb.frozen (hlt _ hin)]
   exact hz b off hin
  .intro ha
   have := hn ha
   rw [hps] at this
   simpa using this
  .intro p hp _
   rw [hps]
   simpa using hp
theorem qrr (hl : laidOutB P = true) {W W' : World} {sp : Nat -> Bool} (hb : Below W.heap.size W W') : ∀ {ts : List TypeId} {vs : List Value} {ds : List (DataW H)} {ps : List MemPlace},
  (∀ t ∈ ts, P.readableRec t = true /\ t < P.types.size) -> DataW.TrodAll enc P W 0 (fun _ => true) true ts vs ds ps -> (∀ p ∈ ps, p.block < W.heap.size) -> (∀ p ∈ ps, sp p.block = true) ->
  DataW.TrodAll enc P W' 0 sp true ts vs ds ps
 | [], [], [], _, _, h, _, _ => h
 | [], _ :: _, _, _, _, h, _, _ => h.elim
 | [], [], _ :: _, _, _, h, _, _ => h.elim
 | _ :: _, [], _, _, _, h, _, _ => h.elim
 | _ :: _, _ :: _, [], _, _, h, _, _ => h.elim
 | t :: ts, v :: vs, d :: ds, ps, ht, h, hlt, hsp => by
  obtain ⟨p, q, h1, h2, rfl⟩ := h
  refine ⟨p, q, WideElems.Trod_stays hl (ht t (by simp)).1 (ht t (by simp)).2 h1 (fun x hx => hb.same (hlt x (by simp [hx]))) (fun x hx => hsp x (by simp [hx])), ?_, rfl⟩
  exact qrr hl hb (fun t h => ht t (by simp [h])) h2 (fun x hx => hlt x (by simp [hx])) (fun x hx => hsp x (by simp [hx]))
theorem qjj1 (hl : laidOutB P = true) {f : Func} {s : ChangeSpec} {apart fresh handsOn again : Bool} {W W' : World} {args : Array Value} {ds gs : List (DataW H)} {before : List MemPlace} {tb : TypeId}
  (hW : DataW.Whole enc P f.params.toList s.vars apart W args.toList ds gs before) (hv : s.vars = []) (hs : s.fn H (ds ++ gs) = { results := [.lit (.bool true)], args := ds })
  (hrt : f.resultTypes = #[tb]) (htb : P.underlying tb = some .bool) (hts0 : (f.params.toList.all fun t => P.readableRec t && decide (t < P.types.size)) = true) (hb : Below W.heap.size W W') :
  s.post enc P f apart fresh handsOn again W args (.bool true) W' := by
 have hts : ∀ t ∈ f.params.toList, P.readableRec t = true /\ t < P.types.size := by
  intro t ht
  have := List.all_eq_true.1 hts0 t ht
  simpa using this
 have hlt : ∀ p ∈ before, p.block < W.heap.size := fun p hp => hW.lt p hp
 have hW2 := hW
 obtain ⟨p, q, hA, hV, rfl, -, -⟩ := hW
 rw [hv] at hV
 obtain ⟨rfl, rfl⟩ := trodVars_none hV
 refine qqs (pa := p) (pv := []) hW2 ?_ ?_ ?_ (by simp) hb ?_
 .intro b sp hd
  rw [hs, hrt]
  exact trodAll_mk1 ⟨1, by simp [DataW.trod, Value.cells, htb]⟩
 .intro sp hsp
  rw [hs]
  exact qrr hl hb hts hA (fun x hx => hlt x (by simp [hx])) (fun x hx => hsp x (by simp [hx]))
 .intro sp hsp
  rw [hs, hv]
  exact rfl
 .intro j t r hj hr
  rw [hrt] at hj hr
  obtain rfl : j = 0 := by
   have := (Array.getElem?_eq_some_iff.1 hj).1
   simpa using this
  simp at hj
  subst hj
  have : r = .bool true := by simpa [Value.resultList] using hr.symm
  subst this
  simp [Value.okWide, htb, Cell.okWide, Cell.ok]
variable {w w0 : World} {sp : Nat -> Bool} {hd : Bool} {b0 : Nat} {t : TypeId} {v : Value} {d : DataW H} {ps : List MemPlace}
theorem qez1 {e : TypeId} (ht : P.underlying t = some (.slice e)) (hval : Value.okWide P w0 .any b0 t v) (h : DataW.Trod enc P w 0 sp hd t v d ps) {α : Type} {f : α -> D} (hf : ∀ N, Trods enc P w sp hd t f N) : ∃ x, Rd w Any (f x) [v] := by
 obtain ⟨a, len, cap, rfl⟩ := okWide_slice ht hval
 obtain ⟨fuel, h⟩ := h
 exact hf (fuel + 1) fuel _ _ (by omega) h
theorem qry1 {fs : Array Field} (ht : P.underlying t = some (.struct fs)) (hval : Value.okWide P w0 .any b0 t v) (h : DataW.Trod enc P w 0 sp hd t v d ps) {α : Type} {f : α -> D} (hf : ∀ N, Trods enc P w sp hd t f N) : ∃ x cs, v = .agg cs.toArray /\ Rd w Any (f x) cs := by
 obtain ⟨cs, rfl, -⟩ := okWide_struct ht hval
 obtain ⟨fuel, h⟩ := h
 obtain ⟨x, hx⟩ := hf (fuel + 1) fuel _ _ (by omega) h
 exact ⟨x, cs.toList, rfl, hx⟩
end
section
variable {H : Type} {enc : TypeId × Value -> H}
end
end Go.Proofs.YtkedbjjfmejbhaaGreatDoor
namespace Go.Proofs.YtkedbjjfmejbhaaGreatDoor
open Go.RowKit Go.Lib
structure Delta where
 time : Int
 row : List Val
 n : Int
 deriving DecidableEq
def Delta.d (x : Delta) : D := .st [.int x.time, .sl (x.row.map Val.d), .int x.n]
theorem Delta.width (x : Delta) : x.d.width = 3 := by
 simp [Delta.d, D.width, D.widths]
theorem Delta.widths (l : List Delta) : ∀ d ∈ l.map Delta.d, d.width = 3 := by
 intro d hd; obtain ⟨x, -, rfl⟩ := List.mem_map.1 hd; exact Delta.width x
theorem Delta.open {w : World} {S : Nat -> Prop} {x : Delta} {cs : List Value} (h : Rd w S x.d cs) : ∃ (A1 : Option Addr) (cap1 b1 off1 : Nat), cs = [.int .i64 x.time, .slice A1 x.row.length cap1, .int .i64 x.n] /\ x.row.length <= cap1 /\ cap1 <= 9223372036854775807 /\ (0 < x.row.length -> A1 = some ⟨b1, off1, none⟩ /\ S b1) /\ RdM w S (x.row.map Val.d) b1 off1 := by
 simp only [Delta.d, Delta.d, Rd, RdS, List.length_map] at h
 obtain ⟨_, _, rfl, rfl, ⟨_, _, rfl, ⟨A1, cap1, b1, off1, rfl, p1, q1, r1, s1⟩, ⟨_, _, rfl, rfl, rfl⟩⟩⟩ := h
 exact ⟨A1, cap1, b1, off1, by simp, p1, q1, r1, s1⟩
theorem Delta.at {w : World} {S : Nat -> Prop} {l : List Delta} {b off : Nat} (hm : RdM w S (l.map Delta.d) b off) {k : Nat} (hk : k < l.length) : ∃ (A1 : Option Addr) (cap1 b1 off1 : Nat), w.cell? ⟨b, off + k * 3, none⟩ = some (.int .i64 l[k].time) /\ w.cell? ⟨b, off + k * 3 + 1, none⟩ = some (.slice A1 l[k].row.length cap1) /\ w.cell? ⟨b, off + k * 3 + 1 + 1, none⟩ = some (.int .i64 l[k].n) /\ Rd w S l[k].d [.int .i64 l[k].time, .slice A1 l[k].row.length cap1, .int .i64 l[k].n] /\ l[k].row.length <= cap1 /\ cap1 <= 9223372036854775807 /\ (0 < l[k].row.length -> A1 = some ⟨b1, off1, none⟩ /\ S b1) /\ RdM w S (l[k].row.map Val.d) b1 off1 := by
 obtain ⟨cs, hc, hr⟩ := RdM.get _ b off hm (Delta.widths l) k (by simpa using hk)
 rw [List.getElem_map] at hr
 obtain ⟨A1, cap1, b1, off1, rfl, hf⟩ := Delta.open hr
 simp only [qw, and_true] at hc
 obtain ⟨c0, c1, c2⟩ := hc
 exact ⟨A1, cap1, b1, off1, c0, c1, c2, hr, hf⟩
structure Ins where
 op : Int
 tgt : Int
 a : Int
 b : Int
 c : Int
 n : Int
 s : ByteArray
 deriving DecidableEq
def Ins.d (x : Ins) : D := .st [.int x.op, .int x.tgt, .int x.a, .int x.b, .int x.c, .int x.n, .str x.s]
theorem Ins.width (x : Ins) : x.d.width = 7 := by
 simp [Ins.d, D.width, D.widths]
theorem Ins.widths (l : List Ins) : ∀ d ∈ l.map Ins.d, d.width = 7 := by
 intro d hd; obtain ⟨x, -, rfl⟩ := List.mem_map.1 hd; exact Ins.width x
theorem Ins.open {w : World} {S : Nat -> Prop} {x : Ins} {cs : List Value} (h : Rd w S x.d cs) : cs = [.int .i64 x.op, .int .i64 x.tgt, .int .i64 x.a, .int .i64 x.b, .int .i64 x.c, .int .i64 x.n, .string x.s] := by
 simp only [Ins.d, Ins.d, Rd, RdS, List.length_map] at h
 obtain ⟨_, _, rfl, rfl, ⟨_, _, rfl, rfl, ⟨_, _, rfl, rfl, ⟨_, _, rfl, rfl, ⟨_, _, rfl, rfl, ⟨_, _, rfl, rfl, ⟨_, _, rfl, rfl, rfl⟩⟩⟩⟩⟩⟩⟩ := h
 simp
theorem Ins.at {w : World} {S : Nat -> Prop} {l : List Ins} {b off : Nat} (hm : RdM w S (l.map Ins.d) b off) {k : Nat} (hk : k < l.length) : w.cell? ⟨b, off + k * 7, none⟩ = some (.int .i64 l[k].op) /\ w.cell? ⟨b, off + k * 7 + 1, none⟩ = some (.int .i64 l[k].tgt) /\ w.cell? ⟨b, off + k * 7 + 1 + 1, none⟩ = some (.int .i64 l[k].a) /\ w.cell? ⟨b, off + k * 7 + 1 + 1 + 1, none⟩ = some (.int .i64 l[k].b) /\ w.cell? ⟨b, off + k * 7 + 1 + 1 + 1 + 1, none⟩ = some (.int .i64 l[k].c) /\ w.cell? ⟨b, off + k * 7 + 1 + 1 + 1 + 1 + 1, none⟩ = some (.int .i64 l[k].n) /\ w.cell? ⟨b, off + k * 7 + 1 + 1 + 1 + 1 + 1 + 1, none⟩ = some (.string l[k].s) /\ Rd w S l[k].d [.int .i64 l[k].op, .int .i64 l[k].tgt, .int .i64 l[k].a, .int .i64 l[k].b, .int .i64 l[k].c, .int .i64 l[k].n, .string l[k].s] := by
 obtain ⟨cs, hc, hr⟩ := RdM.get _ b off hm (Ins.widths l) k (by simpa using hk)
 rw [List.getElem_map] at hr
 obtain rfl := Ins.open hr
 simp only [qw, and_true] at hc
 obtain ⟨c0, c1, c2, c3, c4, c5, c6⟩ := hc
 exact ⟨c0, c1, c2, c3, c4, c5, c6, hr⟩
structure Cod where
 ins : List Ins
 types : List Int
 out : Int
 deriving DecidableEq
def Cod.d (x : Cod) : D := .st [.sl (x.ins.map Ins.d), .sl (x.types.map D.int), .int x.out]
theorem Cod.width (x : Cod) : x.d.width = 3 := by
 simp [Cod.d, D.width, D.widths]
theorem Cod.widths (l : List Cod) : ∀ d ∈ l.map Cod.d, d.width = 3 := by
 intro d hd; obtain ⟨x, -, rfl⟩ := List.mem_map.1 hd; exact Cod.width x
theorem Cod.open {w : World} {S : Nat -> Prop} {x : Cod} {cs : List Value} (h : Rd w S x.d cs) : ∃ (A1 : Option Addr) (cap1 b1 off1 : Nat) (A2 : Option Addr) (cap2 b2 off2 : Nat), cs = [.slice A1 x.ins.length cap1, .slice A2 x.types.length cap2, .int .i64 x.out] /\ x.ins.length <= cap1 /\ cap1 <= 9223372036854775807 /\ (0 < x.ins.length -> A1 = some ⟨b1, off1, none⟩ /\ S b1) /\ RdM w S (x.ins.map Ins.d) b1 off1 /\ x.types.length <= cap2 /\ cap2 <= 9223372036854775807 /\ (0 < x.types.length -> A2 = some ⟨b2, off2, none⟩ /\ S b2) /\ RdM w S (x.types.map D.int) b2 off2 := by
 simp only [Cod.d, Cod.d, Rd, RdS, List.length_map] at h
 obtain ⟨_, _, rfl, ⟨A1, cap1, b1, off1, rfl, p1, q1, r1, s1⟩, ⟨_, _, rfl, ⟨A2, cap2, b2, off2, rfl, p2, q2, r2, s2⟩, ⟨_, _, rfl, rfl, rfl⟩⟩⟩ := h
 exact ⟨A1, cap1, b1, off1, A2, cap2, b2, off2, by simp, p1, q1, r1, s1, p2, q2, r2, s2⟩
theorem Cod.at {w : World} {S : Nat -> Prop} {l : List Cod} {b off : Nat} (hm : RdM w S (l.map Cod.d) b off) {k : Nat} (hk : k < l.length) : ∃ (A1 : Option Addr) (cap1 b1 off1 : Nat) (A2 : Option Addr) (cap2 b2 off2 : Nat), w.cell? ⟨b, off + k * 3, none⟩ = some (.slice A1 l[k].ins.length cap1) /\ w.cell? ⟨b, off + k * 3 + 1, none⟩ = some (.slice A2 l[k].types.length cap2) /\ w.cell? ⟨b, off + k * 3 + 1 + 1, none⟩ = some (.int .i64 l[k].out) /\ Rd w S l[k].d [.slice A1 l[k].ins.length cap1, .slice A2 l[k].types.length cap2, .int .i64 l[k].out] /\ l[k].ins.length <= cap1 /\ cap1 <= 9223372036854775807 /\ (0 < l[k].ins.length -> A1 = some ⟨b1, off1, none⟩ /\ S b1) /\ RdM w S (l[k].ins.map Ins.d) b1 off1 /\ l[k].types.length <= cap2 /\ cap2 <= 9223372036854775807 /\ (0 < l[k].types.length -> A2 = some ⟨b2, off2, none⟩ /\ S b2) /\ RdM w S (l[k].types.map D.int) b2 off2 := by
 obtain ⟨cs, hc, hr⟩ := RdM.get _ b off hm (Cod.widths l) k (by simpa using hk)
 rw [List.getElem_map] at hr
 obtain ⟨A1, cap1, b1, off1, A2, cap2, b2, off2, rfl, hf⟩ := Cod.open hr
 simp only [qw, and_true] at hc
 obtain ⟨c0, c1, c2⟩ := hc
 exact ⟨A1, cap1, b1, off1, A2, cap2, b2, off2, c0, c1, c2, hr, hf⟩
theorem Tryz.info3 : (Tryz.prog.info? 3).map (fun i => (i.zero, i.size, i.bytes)) = some (some (.int .i64 0), 1, 8) := by kernel_rfl
theorem qgl1 (n : Int) (ks : List Int) (k : Nat) (h : k < ks.length) : sumS n (ks.take (k + 1)) = capS (sumS n (ks.take k) + ks[k]) := by
 induction ks generalizing n k with
 | nil => simp at h
 | cons x l ih =>
  cases k with
  | zero => simp [sumS]
  | succ k =>
   rw [List.take_succ_cons, List.take_succ_cons, sumS, sumS, ih _ k (by simpa using h)]; rfl
theorem qbe1 (B ks : List Int) (n : Int) {a b c : Int} (h : ks = [a, b, c]) : qfo B 21 n ks = capS (1 + a + max b c) := by
 subst h; simp [qfo]
theorem qwp (B ks : List Int) (op n : Int) (h : op ≠ 21 \/ ks.length ≠ 3) : qfo B op n ks = if op = 22 /\ 0 <= n /\ n < B.length then capS (sumS 1 ks + B.getD n.toNat 0) else sumS 1 ks := by
 unfold qfo
 split
 .rename_i a b c hx
  exfalso
  by_cases ho : op = 21
  .simp [ho] at hx; subst hx; simp [ho] at h
  .simp [ho] at hx
 .rfl
theorem qrl1 {l : List Int} (h : l.length = 3) : ∃ a b c, l = [a, b, c] := by
 match l, h with | [a, b, c], _ => exact ⟨a, b, c, rfl⟩
set_option maxRecDepth 100000 in
set_option maxHeartbeats 4000000 in
theorem qov (B : List Int) (hB : GoodS B) (e : Ex) : ∀ (S S1 : Nat -> Prop) (vB : Value) (cs : List Value) (w : World), Rd w S1 (.sl (B.map D.int)) [vB] -> Rd w S e.d cs -> parts e <= 1000000 ->
    Calls Tryz.prog 54 #[vB, .agg cs.toArray] w fun r w' => r = .returned (.int .i64 (qcs B e)) /\ Ext w w' := by
  induction e using Ex.ind with | h o m s l ih => ?_
  intro S S1 vB cs w hvB hr hbd
  obtain ⟨A, cap, b, off, rfl, hl1, hl2, hl3, hm⟩ := Ex.open hr
  obtain ⟨AB, capB, bB, offB, rfl, B1, B2, B3, B4⟩ := Rd.sl_open hvB
  simp only [Ex.args, Ex.op, Ex.n, Ex.s, List.length_map] at *
  have hll : l.length <= 1000000 := by rw [parts] at hbd; have := qbq l; omega
  have hvB' := Lib.hid hvB; have hl3' := Lib.hid hl3; have hm' := Lib.hid hm; have B3' := Lib.hid B3; have B4' := Lib.hid B4
  have hB' := Lib.hid hB
  have H := Lib.hid (show qcs B (.mk o m s l) = qfo B o m (l.map (qcs B)) by rw [qcs, qjg])
  have hks : GoodS (l.map (qcs B)) := by rw [<- qjg]; exact qhr B hB l
  have hks' := Lib.hid hks
  clear hvB hr hl3 hm B3 B4 hB hks
  go_enter Tryz.func54, Tryz.ntmps54
  go_wp2_with fail
  go_loopw [6, 7] (fun x i wr => ∃ (k : Nat), k <= l.length /\ i = .int .i64 k /\ wr.ownsRow (w.heap.size + 1) 3 1 x k (((l.map (qcs B)).take k).map (Value.int .i64)) /\ Ext (w.alloc (.cells #[.int .i64 o, .int .i64 m, .string s, .slice A l.length cap] 44)) wr) (fun _ i _ => l.length - (RowKit.intOf i).toNat)
  case atStart => exact ⟨0, by omega, rfl, World.ownsRow_nil _ _ _ _, Ext.refl _⟩
  case round =>
    obtain ⟨k, hk, rfl, hown, hb⟩ := hrel
    have e0 : wr.cell? ⟨w.heap.size, 0, none⟩ = some (.int .i64 o) := hb.at (by go_simp)
    have e1 : wr.cell? ⟨w.heap.size, 1, none⟩ = some (.int .i64 m) := hb.at (by go_simp)
    have e3 : wr.cell? ⟨w.heap.size, 3, none⟩ = some (.slice A l.length cap) := hb.at (by go_simp)
    have hw : Ext w wr := ((Ext.refl _).alloc _).trans hb
    by_cases hlt : k < l.length
    · obtain ⟨rfl, hSb⟩ := hl3'.out (by omega)
      obtain ⟨A1, cap1, b1, off1, c0, c1, c2, c3, hr', -⟩ := Ex.at (hm'.out.ext (fun _ => hSb) hw) hlt
      have hr2 := Lib.hid hr'
      have hSb' := Lib.hid hSb
      clear hr' hSb
      have hpb : parts l[k] <= 1000000 := by rw [parts] at hbd; have := qbh l l[k] (List.getElem_mem hlt); omega
      go_wp2_with fail
      refine (ih l[k] (List.getElem_mem hlt) S S1 _ _ wr (hvB'.out.ext hw) hr2.out hpb).mono ?_
      rintro r w1 ⟨rfl, he⟩
      have hown1 : w1.ownsRow (w.heap.size + 1) 3 1 _ k (((l.map (qcs B)).take k).map (Value.int .i64)) := qey1 hown he
      have hsz := (hb.trans he).size
      have hd := Lib.hid (show (((l.map (qcs B)).take (k + 1)).map (Value.int .i64)) = (((l.map (qcs B)).take k).map (Value.int .i64)) ++ [Value.int .i64 (qcs B l[k])] by rw [List.take_succ_eq_append_getElem (by simpa using hlt)]; simp)
      go_wp2_with (at_builtin; refine qpi _ _ _ rfl _ _ _ rfl (w.heap.size + 1) 3 1 8 _ Tryz.underlying23 Tryz.info3 rfl (by decide) (by decide) _ _ _ rfl hown1 rfl rfl (by intro u hu; simp at hu; subst hu; rfl) (by omega) (by simpa using hsz) ?_; intro v' w2 hown2 hg2 hn2)
      go_roundw
      case rel => exact ⟨k + 1, by omega, by go_num, by rw [hd.out]; exact hown2, (hb.trans he).grown hown1 (by simp) hg2⟩
      case measure => simp [RowKit.intOf]; omega
    · have hkl : k = l.length := by omega
      subst hkl
      obtain ⟨ks, hks2⟩ : ∃ ks, ks = l.map (qcs B) := ⟨_, rfl⟩
      rw [<- hks2] at hown H hks'
      have hlen : ks.length = l.length := by rw [hks2]; simp
      rw [<- hlen] at hown
      rw [List.take_length] at hown
      have hR := qyj (S := Any) hown (fun _ _ => trivial)
      obtain ⟨A9, cap9, b9, off9, rfl, z1, z2, z3, z4⟩ := Rd.sl_open hR
      simp only [List.length_map] at *
      have z3' := Lib.hid z3; have z4' := Lib.hid z4
      have hlen' := Lib.hid hlen
      have hkl2 : ks.length <= 1000000 := by omega
      clear hR z3 z4 hown hlt hks2 hlen
      by_cases h3 : o = 21 /\ ks.length = 3
      · obtain ⟨rfl, hl⟩ := h3
        obtain ⟨x0, x1, x2, rfl⟩ := qrl1 hl
        obtain ⟨rfl, -⟩ := z3'.out (by simp)
        have y0 := qlw z4'.out (k := 0) (by simp)
        have y1 := qlw z4'.out (k := 1) (by simp)
        have y2 := qlw z4'.out (k := 2) (by simp)
        simp only [List.getElem_cons_zero, List.getElem_cons_succ, Nat.add_zero, List.length_cons, List.length_nil, Nat.zero_add, Nat.reduceAdd] at *
        have k0 := hks'.out x0 (by simp)
        have k1 := hks'.out x1 (by simp)
        have k2 := hks'.out x2 (by simp)
        have H2 := Lib.hid (H.out.trans (qbe1 B _ m rfl))
        clear H
        have gy0 := ExtW.at y0
        have gy1 := ExtW.at y1
        have gy2 := ExtW.at y2
        go_wp2_with fail
        refine qrk (by kernel_rfl) (by kernel_rfl) ?_
        repeat (go_big_quiet_step ((fail)))
        refine wpQuiet_nil ?_
        intro w1 he
        go_wp2_with fail
        all_goals
          go_ret
          exact ⟨qhv (by rw [H2.out]; unfold capS; omega), hw.trans he⟩
      · have h3' : o ≠ 21 \/ ks.length ≠ 3 := by
          by_cases ho : o = 21
          · right; exact fun h => h3 ⟨ho, h⟩
          · left; exact ho
        have H2 := Lib.hid (H.out.trans (qwp B ks o m h3'))
        clear H h3
        obtain ⟨wo, rfl⟩ : ∃ wo : World, wo = wr := ⟨_, rfl⟩
        have h3c := Lib.hid h3'
        clear h3'
        have hcond : (o = 21 /\ ¬ ks.length = 3) \/ (o == 21) = false := by
          by_cases ho : o = 21
          · left; exact ⟨ho, h3c.out.resolve_left (fun h => h ho)⟩
          · right; simp [ho]
        rcases hcond with ⟨rfl, hq⟩ | hq
        all_goals
          go_wp2_with fail
          go_loopw [5, 8] (fun x i wr => ∃ (j : Nat) (q : Int), j <= ks.length /\ i = .int .i64 j /\ x = .int .i64 q /\ 0 <= q /\ q <= 1099511627776 /\ Hid (q = sumS 1 (ks.take j)) /\ Ext wo wr) (fun _ i _ => ks.length - (RowKit.intOf i).toNat)
          case atStart => exact ⟨0, 1, by omega, rfl, rfl, by omega, by omega, Lib.hid rfl, Ext.refl _⟩
          case round =>
            obtain ⟨j, q, hj, rfl, rfl, hq1, hq2, HH, hx⟩ := hrel
            have e0 := hx.at e0
            have e1 := hx.at e1
            by_cases hjl : j < ks.length
            · obtain ⟨rfl, -⟩ := z3'.out (by omega)
              have y0 := hx.at (qlw z4'.out hjl)
              have hkb := hks'.out ks[j] (List.getElem_mem hjl)
              have HH2 := Lib.hid (show capS (q + ks[j]) = sumS 1 (ks.take (j + 1)) by rw [qgl1 1 ks j hjl, <- HH.out])
              have hcb := qpp (n := q + ks[j]) (by omega)
              clear HH
              go_wp2_with fail
              all_goals
                go_roundw
                case rel => exact ⟨j + 1, capS (q + ks[j]), by omega, by go_num, by first | rfl | (simp [capS, Int.min_def]; done) | (simp only [capS]; congr 1; omega), by omega, by omega, HH2, hx⟩
                case measure => simp [RowKit.intOf]; omega
            · have hjk : j = ks.length := by omega
              subst hjk
              have HH2 := Lib.hid (show q = sumS 1 ks by rw [HH.out, List.take_length])
              clear HH
              first
                | (have h22 : (21 : Int) ≠ 22 := by decide
                   have H3 := Lib.hid (H2.out.trans (if_neg (fun h => absurd h.1 (by decide))))
                   clear H2 h22
                   go_wp2_with fail
                   go_ret
                   exact ⟨qhv (by rw [H3.out, HH2.out]), hw.trans hx⟩)
                | (by_cases hc : o = 22 /\ 0 <= m /\ m < B.length
                   · obtain ⟨rfl, hm1, hm2⟩ := hc
                     obtain ⟨j, rfl⟩ := Int.eq_ofNat_of_zero_le hm1
                     have hjB : j < B.length := by omega
                     obtain ⟨rfl, hSB⟩ := B3'.out (by omega)
                     have y0 := (qlw (B4'.out.ext (fun _ => hSB) (hw.trans hx)) hjB)
                     have hSB' := Lib.hid hSB
                     clear hSB
                     have H3 := Lib.hid (H2.out.trans (if_pos ⟨rfl, hm1, hm2⟩))
                     have hgB := hB'.out B[j] (List.getElem_mem hjB)
                     have H4 := Lib.hid (show B.getD (j : Int).toNat 0 = B[j] by simp [List.getD_eq_getElem?_getD, List.getElem?_eq_getElem hjB])
                     clear H2
                     go_wp2_with fail
                     all_goals
                       go_ret
                       exact ⟨qhv (by rw [H3.out, H4.out, <- HH2.out]; unfold capS; omega), hw.trans hx⟩
                   · have H3 := Lib.hid (H2.out.trans (if_neg hc))
                     clear H2
                     by_cases h22 : o = 22
                     · subst h22
                       have hc2 : m < 0 \/ (B.length : Int) <= m := by omega
                       clear hc
                       rcases hc2 with hc | hc
                       · have hm1 : ¬ 0 <= m := by omega
                         go_wp2_with fail
                         all_goals
                           go_ret
                           exact ⟨qhv (by rw [H3.out, HH2.out]), hw.trans hx⟩
                       · have hm1 : ¬ m < (B.length : Int) := by omega
                         have hm0 : 0 <= m := by omega
                         all_goals
                           go_wp2_with fail
                           go_ret
                           exact ⟨qhv (by rw [H3.out, HH2.out]), hw.trans hx⟩
                     · have h22b : (o == 22) = false := by simp [h22]
                       clear hc
                       go_wp2_with fail
                       go_ret
                       exact ⟨qhv (by rw [H3.out, HH2.out]), hw.trans hx⟩)
set_option maxRecDepth 10000 in
set_option maxHeartbeats 2000000 in
theorem qba1 (F : List Fn) (e : Ex) (S S1 : Nat -> Prop) (vF : Value) (cs : List Value) (w : World) (hF : Rd w S1 (.sl (F.map Fn.d)) [vF]) (hr : Rd w S e.d cs) (hbd : parts e <= 1000000) (hp : ∀ f ∈ F, parts f.body <= 1000000) (hlen : F.length <= 1000000) :
    Calls Tryz.prog 21 #[vF, .agg cs.toArray] w fun r w' => r = .returned (.int .i64 (qmx F e)) /\ Ext w w' := by
  obtain ⟨A, cap, b, off, rfl, hl1, hl2, hl3, hm⟩ := Ex.open hr
  obtain ⟨AF, capF, bF, offF, rfl, F1, F2, F3, F4⟩ := Rd.sl_open hF
  simp only [List.length_map] at *
  have hr' := Lib.hid hr; have F3' := Lib.hid F3; have F4' := Lib.hid F4; have hp' := Lib.hid hp
  clear hF hr hm hl3 F3 F4 hp
  go_enter Tryz.func21, Tryz.ntmps21
  go_wp2_with fail
  go_loopw [5, 6] (fun x i wr => ∃ (k : Nat) (B : List Int), k <= F.length /\ i = .int .i64 k /\ B.length = k /\ wr.ownsRow (w.heap.size + 1) 3 1 x k (B.map (Value.int .i64)) /\ Hid (GoodS B /\ qfy [] F = qfy B (F.drop k)) /\ Ext (w.alloc (.cells #[.int .i64 e.op, .int .i64 e.n, .string e.s, .slice A e.args.length cap] 44)) wr) (fun _ i _ => F.length - (RowKit.intOf i).toNat)
  case atStart => exact ⟨0, [], by omega, rfl, rfl, World.ownsRow_nil _ _ _ _, Lib.hid ⟨fun k hk => by simp at hk, rfl⟩, Ext.refl _⟩
  case round =>
    obtain ⟨k, B, hk, rfl, hBk, hown, HH, hb⟩ := hrel
    have hBk' := Lib.hid hBk
    have e0 : wr.cell? ⟨w.heap.size, 0, none⟩ = some (.int .i64 e.op) := hb.at (by go_simp)
    have e1 : wr.cell? ⟨w.heap.size, 1, none⟩ = some (.int .i64 e.n) := hb.at (by go_simp)
    have e2 : wr.cell? ⟨w.heap.size, 2, none⟩ = some (.string e.s) := hb.at (by go_simp)
    have e3 : wr.cell? ⟨w.heap.size, 3, none⟩ = some (.slice A e.args.length cap) := hb.at (by go_simp)
    have hw : Ext w wr := ((Ext.refl _).alloc _).trans hb
    subst hBk
    have hR := qyj (S := Any) hown (fun _ _ => trivial)
    have hR' := Lib.hid hR
    clear hR
    by_cases hlt : B.length < F.length
    · obtain ⟨rfl, hSb⟩ := F3'.out (by omega)
      obtain ⟨A1, cap1, b1, off1, A2, cap2, b2, off2, c0, c1, c2, c3, c4, c5, c6, hr0, q1, q2, q3, q4, q5, q6, q7, q8⟩ := Fn.at (F4'.out.ext (fun _ => hSb) hw) hlt
      have hbod := Lib.hid (Ex.mk_rd q5 q6 q7 q8)
      have hpb := hp'.out F[B.length] (List.getElem_mem hlt)
      have hSb' := Lib.hid hSb
      clear hr0 q3 q4 q5 q7 q8 hSb
      go_wp2_with fail
      refine (qov B HH.out.1 F[B.length].body _ Any _ _ wr hR'.out hbod.out hpb).mono ?_
      rintro r w1 ⟨rfl, he⟩
      have hown1 := qey1 hown he
      have hsz := (hb.trans he).size
      go_wp2_with (at_builtin; refine qpi _ _ _ rfl _ _ _ rfl (w.heap.size + 1) 3 1 8 _ Tryz.underlying23 Tryz.info3 rfl (by decide) (by decide) _ _ _ rfl hown1 rfl rfl (by intro u hu; simp at hu; subst hu; rfl) (by omega) (by simpa using hsz) ?_; intro v' w2 hown2 hg2 hn2)
      have HH2 := Lib.hid (show GoodS (B ++ [qcs B F[B.length].body]) /\ qfy [] F = qfy (B ++ [qcs B F[B.length].body]) (F.drop (B.length + 1)) from ⟨fun x hx => by
        rcases List.mem_append.1 hx with hx | hx
        · exact HH.out.1 x hx
        · simp at hx; subst hx; exact qsg B HH.out.1 _, by rw [HH.out.2, List.drop_eq_getElem_cons hlt, qfy]⟩)
      go_roundw
      case rel => exact ⟨B.length + 1, B ++ [qcs B F[B.length].body], by omega, by go_num, by simp, by simpa using hown2, HH2, (hb.trans he).grown hown1 (by simp) hg2⟩
      case measure => simp [RowKit.intOf]; omega
    · have hkl : F.drop B.length = [] := List.drop_eq_nil_of_le (by omega)
      have H := Lib.hid (show qmx F e = qcs B e by unfold qmx; rw [HH.out.2, hkl, qfy])
      clear hkl
      go_wp2_with fail
      refine (qov B HH.out.1 e S Any _ _ wr hR'.out (hr'.out.ext hw) hbd).mono ?_
      rintro r w1 ⟨rfl, he⟩
      go_wp2_with fail
      go_ret
      exact ⟨qhv (by rw [H.out]), hw.trans he⟩
structure Agg where
 kind : Int
 col : Int
 name : ByteArray
 deriving DecidableEq
def Agg.d (x : Agg) : D := .st [.int x.kind, .int x.col, .str x.name]
theorem Agg.width (x : Agg) : x.d.width = 3 := by
 simp [Agg.d, D.width, D.widths]
theorem Agg.widths (l : List Agg) : ∀ d ∈ l.map Agg.d, d.width = 3 := by
 intro d hd; obtain ⟨x, -, rfl⟩ := List.mem_map.1 hd; exact Agg.width x
theorem Agg.open {w : World} {S : Nat -> Prop} {x : Agg} {cs : List Value} (h : Rd w S x.d cs) : cs = [.int .i64 x.kind, .int .i64 x.col, .string x.name] := by
 simp only [Agg.d, Agg.d, Rd, RdS, List.length_map] at h
 obtain ⟨_, _, rfl, rfl, ⟨_, _, rfl, rfl, ⟨_, _, rfl, rfl, rfl⟩⟩⟩ := h
 simp
theorem Agg.at {w : World} {S : Nat -> Prop} {l : List Agg} {b off : Nat} (hm : RdM w S (l.map Agg.d) b off) {k : Nat} (hk : k < l.length) : w.cell? ⟨b, off + k * 3, none⟩ = some (.int .i64 l[k].kind) /\ w.cell? ⟨b, off + k * 3 + 1, none⟩ = some (.int .i64 l[k].col) /\ w.cell? ⟨b, off + k * 3 + 1 + 1, none⟩ = some (.string l[k].name) /\ Rd w S l[k].d [.int .i64 l[k].kind, .int .i64 l[k].col, .string l[k].name] := by
 obtain ⟨cs, hc, hr⟩ := RdM.get _ b off hm (Agg.widths l) k (by simpa using hk)
 rw [List.getElem_map] at hr
 obtain rfl := Agg.open hr
 simp only [qw, and_true] at hc
 obtain ⟨c0, c1, c2⟩ := hc
 exact ⟨c0, c1, c2, hr⟩
structure Col where
 name : ByteArray
 type : Int
 unit : ByteArray
 deriving DecidableEq
def Col.d (x : Col) : D := .st [.str x.name, .int x.type, .str x.unit]
theorem Col.width (x : Col) : x.d.width = 3 := by
 simp [Col.d, D.width, D.widths]
theorem Col.widths (l : List Col) : ∀ d ∈ l.map Col.d, d.width = 3 := by
 intro d hd; obtain ⟨x, -, rfl⟩ := List.mem_map.1 hd; exact Col.width x
theorem Col.open {w : World} {S : Nat -> Prop} {x : Col} {cs : List Value} (h : Rd w S x.d cs) : cs = [.string x.name, .int .i64 x.type, .string x.unit] := by
 simp only [Col.d, Col.d, Rd, RdS, List.length_map] at h
 obtain ⟨_, _, rfl, rfl, ⟨_, _, rfl, rfl, ⟨_, _, rfl, rfl, rfl⟩⟩⟩ := h
 simp
theorem Col.at {w : World} {S : Nat -> Prop} {l : List Col} {b off : Nat} (hm : RdM w S (l.map Col.d) b off) {k : Nat} (hk : k < l.length) : w.cell? ⟨b, off + k * 3, none⟩ = some (.string l[k].name) /\ w.cell? ⟨b, off + k * 3 + 1, none⟩ = some (.int .i64 l[k].type) /\ w.cell? ⟨b, off + k * 3 + 1 + 1, none⟩ = some (.string l[k].unit) /\ Rd w S l[k].d [.string l[k].name, .int .i64 l[k].type, .string l[k].unit] := by
 obtain ⟨cs, hc, hr⟩ := RdM.get _ b off hm (Col.widths l) k (by simpa using hk)
 rw [List.getElem_map] at hr
 obtain rfl := Col.open hr
 simp only [qw, and_true] at hc
 obtain ⟨c0, c1, c2⟩ := hc
 exact ⟨c0, c1, c2, hr⟩
end Go.Proofs.YtkedbjjfmejbhaaGreatDoor
