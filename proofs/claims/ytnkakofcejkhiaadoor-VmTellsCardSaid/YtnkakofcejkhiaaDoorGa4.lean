/- What evaluating computes, on plain data; a typed expression's value is right. -/
import Derived.StillTail
import Derived.OrdersHeld
import Derived.Deep.RegionHeld3
import Derived.Maps.AppendAt
import Derived.Test.YtnkakofcejkhiaaDoorGa1
import Derived.Test.YtnkakofcejkhiaaDoorGa3
set_option linter.unusedSimpArgs false
set_option linter.unusedVariables false
namespace Go.Proofs.YtnkakofcejkhiaaDoor
open Go.RowKit Go.Lib
def zeroV : Val := ⟨0, 0, ByteArray.empty⟩
def binV (op : Int) (a b : Val) : Val :=
  if op = 8 then numV (wrap64 (a.n + b.n))
  else if op = 9 then numV (wrap64 (a.n - b.n))
  else if op = 10 then numV (wrap64 (a.n * b.n))
  else if op = 11 then numV (divI a.n b.n)
  else if op = 12 then numV (modI a.n b.n)
  else if op = 13 then boolV (eqV a b)
  else if op = 14 then boolV (!eqV a b)
  else if op = 15 then boolV (decide (cmpV a b < 0))
  else if op = 16 then boolV (decide (cmpV a b ≤ 0))
  else if op = 17 then boolV (decide (a.n = 1) && decide (b.n = 1))
  else if op = 18 then boolV (decide (a.n = 1) || decide (b.n = 1))
  else textV (joinS a.s b.s)
def opV (call : Int → List Val → Val) (time : Int) (row params : List Val) (op n : Int) (s : ByteArray) (vs : List Val) : Val :=
  if op = 0 then numV n
  else if op = 1 then textV s
  else if op = 2 then boolV (decide (n = 1))
  else if op = 3 then row.getD n.toNat zeroV
  else if op = 4 then params.getD n.toNat zeroV
  else if op = 5 then numV time
  else if op = 6 then boolV (decide ((vs.getD 0 zeroV).n = 0))
  else if op = 7 then numV (wrap64 (-(vs.getD 0 zeroV).n))
  else if op = 20 then numV (vs.getD 0 zeroV).s.size
  else if op = 22 then call n vs
  else binV op (vs.getD 0 zeroV) (vs.getD 1 zeroV)
def ifV (vs : List Val) : Val := if (vs.getD 0 zeroV).n = 1 then vs.getD 1 zeroV else vs.getD 2 zeroV
mutual
def ev (call : Int → List Val → Val) (time : Int) (row params : List Val) : Ex → Val
  | .mk op n s l => if op = 21 then ifV (evs call time row params l) else opV call time row params op n s (evs call time row params l)
def evs (call : Int → List Val → Val) (time : Int) (row params : List Val) : List Ex → List Val
  | [] => []
  | e :: l => ev call time row params e :: evs call time row params l
end
def callN (F : List Fn) (time : Int) : Nat → Int → List Val → Val
  | 0 => fun _ _ => zeroV
  | m + 1 => fun i vs => match F[i.toNat]? with
    | some f => ev (callN F time m) time [] vs f.body
    | none => zeroV
theorem evs_map (call : Int → List Val → Val) (time : Int) (row params : List Val) : ∀ l : List Ex, evs call time row params l = l.map (ev call time row params)
  | [] => by rw [evs]; rfl
  | e :: l => by rw [evs, evs_map call time row params l]; rfl
def qbh (v : Val) : Prop := okV v = true ∧ v.s.size ≤ 200
theorem empty_list : ByteArray.empty.toList = [] := by
  rw [ByteArray.toList, ByteArray.toList.loop]; rfl
@[simp] theorem numV_k (n : Int) : (numV n).k = 0 := rfl
@[simp] theorem boolV_k (b : Bool) : (boolV b).k = 2 := rfl
@[simp] theorem textV_k (s : ByteArray) : (textV s).k = 1 := rfl
theorem sound_num (n : Int) : qbh (numV n) := by
  refine ⟨?_, by simp [numV]⟩
  simp [numV, okV, empty_list]
theorem sound_bool (b : Bool) : qbh (boolV b) := by
  refine ⟨?_, by simp [boolV]⟩
  cases b <;> simp [boolV, okV, empty_list]
theorem sound_text {s : ByteArray} (h : s.size ≤ 200) : qbh (textV s) := by
  refine ⟨?_, h⟩
  show okV ⟨1, 0, s⟩ = true
  have h2 : (s.size : Int) ≤ 200 := by omega
  unfold okV
  simp only [show ¬ ((1 : Int) = 0) by decide, if_false, if_true, h2, decide_true, Bool.and_self]
theorem joinS_size (a b : ByteArray) : (joinS a b).size ≤ 200 := by
  unfold joinS; rw [ByteArray.size_extract]; omega
theorem callT_mono {F : List Fn} {i m : Nat} (h : i ≤ m) {n r : Int} {ts : List Int} (hc : callT (F.take i) n ts = some r) : callT (F.take m) n ts = some r := by
  unfold callT at *
  split at hc
  · cases hc
  · rename_i hn
    rw [if_neg hn]
    cases hf : (F.take i)[n.toNat]? with
    | none => rw [hf] at hc; cases hc
    | some f =>
      rw [hf] at hc
      have : (F.take m)[n.toNat]? = some f := by
        rw [List.getElem?_take] at hf ⊢
        split at hf
        · rw [if_pos (by omega)]; exact hf
        · cases hf
      rw [this]; exact hc
theorem tailT_mono {F : List Fn} {i m : Nat} (h : i ≤ m) {c p : List Int} {op n r : Int} {s : ByteArray} {ts : List Int} (hc : tailT (F.take i) c p op n s ts = some r) : tailT (F.take m) c p op n s ts = some r := by
  unfold tailT at *
  split at hc
  · cases hc
  · rename_i h1
    rw [if_neg h1]
    split at hc
    · rename_i h2; rw [if_pos h2]; exact callT_mono h hc
    · rename_i h2; rw [if_neg h2]; exact hc
mutual
theorem ty_mono {F : List Fn} {i m : Nat} (h : i ≤ m) {c p : List Int} : ∀ (e : Ex) {r : Int}, ty (F.take i) c p e = some r → ty (F.take m) c p e = some r
  | .mk op n s l, r, hc => by
    rw [ty] at hc ⊢
    cases hl : tys (F.take i) c p l with
    | none => rw [hl] at hc; cases hc
    | some ts => rw [hl] at hc; rw [tys_mono h l hl]; exact tailT_mono h hc
theorem tys_mono {F : List Fn} {i m : Nat} (h : i ≤ m) {c p : List Int} : ∀ (l : List Ex) {ts : List Int}, tys (F.take i) c p l = some ts → tys (F.take m) c p l = some ts
  | [], ts, hc => by rw [tys] at hc ⊢; exact hc
  | e :: l, ts, hc => by
    rw [tys] at hc ⊢
    cases he : ty (F.take i) c p e with
    | none => rw [he] at hc; cases hc
    | some t =>
      rw [he] at hc; rw [ty_mono h e he]
      cases hl : tys (F.take i) c p l with
      | none => rw [hl] at hc; cases hc
      | some us => rw [hl] at hc; rw [tys_mono h l hl]; exact hc
end
theorem callT_some {F : List Fn} {m : Nat} {n r : Int} {ts : List Int} (hc : callT (F.take m) n ts = some r) : 0 ≤ n ∧ n.toNat < m ∧ ∃ f, F[n.toNat]? = some f ∧ f.params = ts ∧ f.res = r := by
  unfold callT at hc
  split at hc
  · cases hc
  · rename_i hn
    cases hf : (F.take m)[n.toNat]? with
    | none => rw [hf] at hc; cases hc
    | some f =>
      rw [hf] at hc
      rw [List.getElem?_take] at hf
      split at hf
      · rename_i hlt
        dsimp at hc
        split at hc
        · rename_i hp
          exact ⟨by omega, hlt, f, hf, hp, by injection hc⟩
        · cases hc
      · cases hf
theorem okF_body {F : List Fn} {i : Nat} {f : Fn} (h : okF F i = true) (hf : F[i]? = some f) : ty (F.take i) [] f.params f.body = some f.res := by
  unfold okF at h
  rw [hf] at h
  simp only [Bool.and_eq_true, decide_eq_true_eq] at h
  have h2 := h.1.2
  unfold tyD at h2
  split at h2
  · cases h2
  · exact h2
theorem pick_sound {c : List Int} {row : List Val} {n t : Int} (hk : row.map Val.k = c) (hs : ∀ v ∈ row, qbh v) (h : pickT c n = some t) : 0 ≤ n ∧ n.toNat < row.length ∧ (row.getD n.toNat zeroV).k = t ∧ qbh (row.getD n.toNat zeroV) := by
  subst hk
  unfold pickT at h
  split at h
  · cases h
  · rename_i hn
    rw [List.getElem?_map] at h
    cases hv : row[n.toNat]? with
    | none => rw [hv] at h; cases h
    | some v =>
      rw [hv] at h
      obtain ⟨hl, hv2⟩ := List.getElem?_eq_some_iff.1 hv
      have hg : row.getD n.toNat zeroV = v := by rw [List.getD_eq_getElem?_getD, hv]; rfl
      rw [hg]
      dsimp at h
      split at h
      · exact ⟨by omega, hl, by injection h, hs v (by rw [← hv2]; exact List.getElem_mem hl)⟩
      · cases h
def qca (c : List Int) (R : List Val) : Prop := ∃ R0 R1, R = R0 ++ R1 ∧ R0.map Val.k = c ∧ ∀ v ∈ R0, qbh v
theorem qca.of {R : List Val} (h : ∀ v ∈ R, qbh v) : qca (R.map Val.k) R := ⟨R, [], by simp, rfl, h⟩
theorem qca.nil (R : List Val) : qca [] R := ⟨[], R, rfl, rfl, by simp⟩
theorem pick_fit {c : List Int} {row : List Val} {n t : Int} (hf : qca c row) (h : pickT c n = some t) : 0 ≤ n ∧ n.toNat < row.length ∧ (row.getD n.toNat zeroV).k = t ∧ qbh (row.getD n.toNat zeroV) := by
  obtain ⟨R0, R1, rfl, hk, hs⟩ := hf
  obtain ⟨h1, h2, h3, h4⟩ := pick_sound hk hs h
  have hg : (R0 ++ R1).getD n.toNat zeroV = R0.getD n.toNat zeroV := by rw [List.getD_eq_getElem?_getD, List.getElem?_append_left h2, List.getD_eq_getElem?_getD]
  rw [hg]
  exact ⟨h1, by simp; omega, h3, h4⟩
theorem three_of {vs : List Val} {a b c : Int} (h : vs.map Val.k = [a, b, c]) : ∃ x y z, vs = [x, y, z] ∧ x.k = a ∧ y.k = b ∧ z.k = c := by
  match vs, h with
  | [x, y, z], h => simp at h; exact ⟨x, y, z, rfl, h.1, h.2.1, h.2.2⟩
theorem oper_sound {call : Int → List Val → Val} {time : Int} {row params vs : List Val} {op n t : Int} {s : ByteArray} (hs : ∀ v ∈ vs, qbh v) (h : operT op n (vs.map Val.k) = some t) :
    op ≠ 22 ∧ (if op = 21 then ifV vs else opV call time row params op n s vs).k = t ∧ qbh (if op = 21 then ifV vs else opV call time row params op n s vs) := by
  unfold operT at h
  split at h
  · cases h
  split at h
  · subst op; split at h <;> cases h
    simp [opV]; exact sound_bool _
  split at h
  · subst op; split at h <;> cases h
    simp [opV]; exact sound_num _
  split at h
  · subst op; split at h <;> cases h
    simp [opV]; exact sound_num _
  split at h
  · rename_i ho
    split at h <;> cases h
    have : op = 8 ∨ op = 9 ∨ op = 10 ∨ op = 11 ∨ op = 12 := by omega
    rcases this with rfl | rfl | rfl | rfl | rfl
    all_goals simp [opV, binV]; exact sound_num _
  split at h
  · rename_i ho
    have hb : t = 2 := by
      split at h
      · split at h <;> cases h
        rfl
      · cases h
    subst hb
    have : op = 13 ∨ op = 14 ∨ op = 15 ∨ op = 16 := by omega
    rcases this with rfl | rfl | rfl | rfl
    all_goals simp [opV, binV]; exact sound_bool _
  split at h
  · rename_i ho
    split at h <;> cases h
    have : op = 17 ∨ op = 18 := by omega
    rcases this with rfl | rfl
    all_goals simp [opV, binV]; exact sound_bool _
  split at h
  · subst op; split at h <;> cases h
    simp [opV, binV]; exact sound_text (joinS_size _ _)
  split at h
  · subst op
    split at h
    · rename_i a b c hk
      split at h
      · rename_i hab
        cases h
        obtain ⟨x, y, z, rfl, hx, hy, hz⟩ := three_of hk
        refine ⟨by decide, ?_⟩
        rw [if_pos rfl]
        unfold ifV
        simp only [List.getD_cons_zero, List.getD_cons_succ]
        split
        · exact ⟨by rw [hy]; exact hab.2, hs y (by simp)⟩
        · exact ⟨hz, hs z (by simp)⟩
      · cases h
    · cases h
  · cases h
theorem leaf_fit {call : Int → List Val → Val} {time : Int} {row params : List Val} {c p : List Int} {op n t : Int} {s : ByteArray} (hc : qca c row) (hp : params.map Val.k = p) (hq : ∀ v ∈ params, qbh v) (h : leafT c p op n s = some t) :
    op ≠ 21 ∧ op ≠ 22 ∧ (opV call time row params op n s []).k = t ∧ qbh (opV call time row params op n s []) := by
  unfold leafT at h
  split at h
  · subst op; cases h
    simp [opV]; exact sound_num _
  split at h
  · subst op; split at h <;> cases h
    simp [opV]; exact sound_bool _
  split at h
  · subst op
    have := pick_fit hc h
    simp only [opV]; exact ⟨by decide, by decide, this.2.2⟩
  split at h
  · subst op
    have := pick_sound hp hq h
    simp only [opV]; exact ⟨by decide, by decide, this.2.2⟩
  split at h
  · subst op
    split at h
    · rename_i hh
      cases h
      simp [opV]; exact sound_text (by omega)
    · cases h
  split at h
  · subst op; split at h <;> cases h
    simp [opV]; exact sound_num _
  · cases h
theorem evs_kinds {F : List Fn} {call : Int → List Val → Val} {time : Int} {row params : List Val} {c p : List Int} : ∀ (l : List Ex) {ts : List Int}, tys F c p l = some ts →
    (∀ e ∈ l, ∀ t, ty F c p e = some t → (ev call time row params e).k = t ∧ qbh (ev call time row params e)) →
    (evs call time row params l).map Val.k = ts ∧ ∀ v ∈ evs call time row params l, qbh v
  | [], ts, hc, _ => by rw [tys] at hc; cases hc; rw [evs]; simp
  | x :: l, ts, hc, ih => by
    rw [tys] at hc
    cases hx : ty F c p x with
    | none => rw [hx] at hc; cases hc
    | some t =>
      rw [hx] at hc
      cases hl : tys F c p l with
      | none => rw [hl] at hc; cases hc
      | some us =>
        rw [hl] at hc
        cases hc
        have h1 := ih x (by simp) t hx
        have h2 := evs_kinds l hl (fun e he => ih e (by simp [he]))
        rw [evs]
        refine ⟨by rw [List.map_cons, h1.1, h2.1], ?_⟩
        intro v hv
        rcases List.mem_cons.1 hv with rfl | hv
        · exact h1.2
        · exact h2.2 v hv
theorem ev_fit {F : List Fn} (time : Int) (hF : ∀ i, i < F.length → okF F i = true) : ∀ (m : Nat) (e : Ex) {c p : List Int} {row params : List Val} {t : Int}, ty (F.take m) c p e = some t →
    qca c row → params.map Val.k = p → (∀ v ∈ params, qbh v) →
    (ev (callN F time m) time row params e).k = t ∧ qbh (ev (callN F time m) time row params e) := by
  intro m
  induction m with
  | zero =>
    intro e
    induction e using Ex.ind with
    | h op n s l ih =>
    intro c p row params t ht hc hp hq
    rw [ty] at ht
    cases hl : tys (F.take 0) c p l with
    | none => rw [hl] at ht; cases ht
    | some ts =>
      rw [hl] at ht
      dsimp only at ht
      have hk := evs_kinds (call := callN F time 0) (time := time) (row := row) (params := params) l hl (fun e he t h => ih e he h hc hp hq)
      rw [ev]
      unfold tailT at ht
      split at ht
      · cases ht
      split at ht
      · rw [List.take_zero] at ht
        unfold callT at ht
        split at ht
        · cases ht
        · simp at ht
      split at ht
      · rename_i hnil
        obtain ⟨hk1, hk2⟩ := hk
        have he : evs (callN F time 0) time row params l = [] := by rw [hnil] at hk1; simpa using hk1
        rw [he]
        obtain ⟨a, b, d⟩ := leaf_fit (call := callN F time 0) (time := time) hc hp hq ht
        rw [if_neg a]; exact d
      · obtain ⟨hk1, hk2⟩ := hk
        rw [← hk1] at ht
        exact (oper_sound hk2 ht).2
  | succ m ihm =>
    intro e
    induction e using Ex.ind with
    | h op n s l ih =>
    intro c p row params t ht hc hp hq
    rw [ty] at ht
    cases hl : tys (F.take (m + 1)) c p l with
    | none => rw [hl] at ht; cases ht
    | some ts =>
      rw [hl] at ht
      dsimp only at ht
      have hk := evs_kinds (call := callN F time (m + 1)) (time := time) (row := row) (params := params) l hl (fun e he t h => ih e he h hc hp hq)
      rw [ev]
      unfold tailT at ht
      split at ht
      · cases ht
      split at ht
      · rename_i ho
        subst ho
        obtain ⟨h0, hlt, f, hf, hpar, hres⟩ := callT_some ht
        have hfl : n.toNat < F.length := (List.getElem?_eq_some_iff.1 hf).1
        have hb := ty_mono (m := m) (by omega) f.body (okF_body (hF n.toNat hfl) hf)
        have := ihm f.body hb (row := []) (params := evs (callN F time (m + 1)) time row params l) (qca.nil []) (by rw [hk.1, hpar]) hk.2
        simp only [opV]
        rw [← hres]
        simp only [callN, hf]
        exact this
      split at ht
      · rename_i hnil
        obtain ⟨hk1, hk2⟩ := hk
        have he : evs (callN F time (m + 1)) time row params l = [] := by rw [hnil] at hk1; simpa using hk1
        rw [he]
        obtain ⟨a, b, d⟩ := leaf_fit (call := callN F time (m + 1)) (time := time) hc hp hq ht
        rw [if_neg a]; exact d
      · obtain ⟨hk1, hk2⟩ := hk
        rw [← hk1] at ht
        exact (oper_sound hk2 ht).2
theorem ev_sound {F : List Fn} (time : Int) (hF : ∀ i, i < F.length → okF F i = true) : ∀ (m : Nat) (e : Ex) {c p : List Int} {row params : List Val} {t : Int}, ty (F.take m) c p e = some t →
    row.map Val.k = c → params.map Val.k = p → (∀ v ∈ row, qbh v) → (∀ v ∈ params, qbh v) →
    (ev (callN F time m) time row params e).k = t ∧ qbh (ev (callN F time m) time row params e) :=
  fun m e _ _ row params _ ht hc hp hr hq => by
    subst hc
    exact ev_fit time hF m e ht (qca.of hr) hp hq
def evalP (F : List Fn) (time : Int) (R : List Val) (e : Ex) : Val := ev (callN F time F.length) time R [] e
end Go.Proofs.YtnkakofcejkhiaaDoor

/- Replacing and inlining, on plain data. -/
namespace Go.Proofs.YtnkakofcejkhiaaDoor
open Go.RowKit Go.Lib
def zeroE : Ex := .mk 0 0 ByteArray.empty []
mutual
def putP (op : Int) (L : List Ex) : Ex → Option Ex
  | .mk o n s l => if o = op then (if n < 0 then none else L[n.toNat]?) else match putPs op L l with
    | some l' => some (.mk o n s l')
    | none => none
def putPs (op : Int) (L : List Ex) : List Ex → Option (List Ex)
  | [] => some []
  | e :: l => match putP op L e with
    | some x => match putPs op L l with
      | some xs => some (x :: xs)
      | none => none
    | none => none
end
def fitX (x : Ex) : Option Ex := if 1000 < parts x then none else some x
mutual
def inlE (bs : List (Option Ex)) : Ex → Option Ex
  | .mk o n s l => match inlL bs l with
    | none => none
    | some ys => if o = 22 ∧ 0 ≤ n ∧ n < bs.length then (match bs.getD n.toNat none with
        | none => none
        | some b => fitX ((putP 4 ys b).getD zeroE))
      else fitX (.mk o n s ys)
def inlL (bs : List (Option Ex)) : List Ex → Option (List Ex)
  | [] => some []
  | e :: l => match inlE bs e with
    | none => none
    | some x => match inlL bs l with
      | none => none
      | some xs => some (x :: xs)
end
end Go.Proofs.YtnkakofcejkhiaaDoor

/- Inlining on plain data: facts. -/
namespace Go.Proofs.YtnkakofcejkhiaaDoor
open Go.RowKit Go.Lib
theorem fitX_parts {x y : Ex} (h : fitX x = some y) : x = y ∧ parts y ≤ 1000 := by
  unfold fitX at h
  split at h
  · cases h
  · cases h; exact ⟨rfl, by omega⟩
mutual
theorem putP_parts {op : Int} {L : List Ex} {K : Nat} (hK : 1 ≤ K) (hL : ∀ y ∈ L, parts y ≤ K) : ∀ (e : Ex) {x : Ex}, putP op L e = some x → parts x ≤ parts e * K
  | .mk o n s l, x, h => by
    rw [putP] at h
    split at h
    · split at h
      · cases h
      · have := hL x (List.mem_of_getElem? h)
        rw [parts, Nat.succ_mul]; omega
    · cases hl : putPs op L l with
      | none => rw [hl] at h; cases h
      | some ys =>
        rw [hl] at h; cases h
        have := putPs_parts hK hL l hl
        rw [parts, parts, Nat.succ_mul]; omega
theorem putPs_parts {op : Int} {L : List Ex} {K : Nat} (hK : 1 ≤ K) (hL : ∀ y ∈ L, parts y ≤ K) : ∀ (l : List Ex) {ys : List Ex}, putPs op L l = some ys → qcc ys ≤ qcc l * K
  | [], ys, h => by rw [putPs] at h; cases h; simp [qcc]
  | e :: l, ys, h => by
    rw [putPs] at h
    cases he : putP op L e with
    | none => rw [he] at h; cases h
    | some x =>
      rw [he] at h
      cases hl : putPs op L l with
      | none => rw [hl] at h; cases h
      | some xs =>
        rw [hl] at h; cases h
        have h1 := putP_parts hK hL e he
        have h2 := putPs_parts hK hL l hl
        rw [qcc, qcc, Nat.add_mul]; omega
end
end Go.Proofs.YtnkakofcejkhiaaDoor

/- Putting expressions in the place of columns or parameters: types and values, on plain data. -/
namespace Go.Proofs.YtnkakofcejkhiaaDoor
open Go.RowKit Go.Lib
theorem operT_col {op n : Int} {ts : List Int} (h : op = 3 ∨ op = 4) : operT op n ts = none := by
  unfold operT
  split
  · rfl
  · rw [if_neg (by omega), if_neg (by omega), if_neg (by omega), if_neg (by omega), if_neg (by omega), if_neg (by omega), if_neg (by omega), if_neg (by omega)]
theorem tailT_col {F : List Fn} {c p : List Int} {op n t : Int} {s : ByteArray} {ts : List Int} (h : op = 3 ∨ op = 4) (ht : tailT F c p op n s ts = some t) : (if op = 3 then pickT c n else pickT p n) = some t := by
  unfold tailT at ht
  split at ht
  · cases ht
  · rw [if_neg (by omega)] at ht
    split at ht
    · unfold leafT at ht
      rw [if_neg (by omega), if_neg (by omega)] at ht
      by_cases h3 : op = 3
      · rw [if_pos h3] at ht ⊢; exact ht
      · rw [if_neg h3, if_pos (by omega)] at ht; rw [if_neg h3]; exact ht
    · rw [operT_col h] at ht; cases ht
theorem tailT_other {F : List Fn} {c p c2 p2 : List Int} {op n t : Int} {s : ByteArray} {ts : List Int} (h3 : op = 3 → pickT c n = some t → pickT c2 n = some t) (h4 : op = 4 → pickT p n = some t → pickT p2 n = some t) (ht : tailT F c p op n s ts = some t) : tailT F c2 p2 op n s ts = some t := by
  unfold tailT at ht ⊢
  split at ht
  · cases ht
  · rename_i h1
    rw [if_neg h1]
    split at ht
    · rename_i h2; rw [if_pos h2]; exact ht
    · rename_i h2
      rw [if_neg h2]
      split at ht
      · rename_i h5
        rw [if_pos h5]
        unfold leafT at ht ⊢
        by_cases e3 : op = 3
        · subst e3; exact h3 rfl ht
        · by_cases e4 : op = 4
          · subst e4; exact h4 rfl ht
          · simp only [if_neg e3, if_neg e4] at ht ⊢
            exact ht
      · rename_i h5; rw [if_neg h5]; exact ht
theorem ev_colp (call : Int → List Val → Val) (time : Int) (row params : List Val) {op : Int} (n : Int) (s : ByteArray) (l : List Ex) (h : op = 3 ∨ op = 4) : ev call time row params (.mk op n s l) = if op = 3 then row.getD n.toNat zeroV else params.getD n.toNat zeroV := by
  rw [ev, if_neg (by omega), opV]
  rw [if_neg (by omega), if_neg (by omega), if_neg (by omega)]
  by_cases h3 : op = 3
  · rw [if_pos h3, if_pos h3]
  · rw [if_neg h3, if_neg h3, if_pos (by omega)]
theorem opV_other {call : Int → List Val → Val} {time : Int} {row params row2 params2 : List Val} {op n : Int} {s : ByteArray} {vs : List Val} (h3 : op = 3 → row2.getD n.toNat zeroV = row.getD n.toNat zeroV) (h4 : op = 4 → params2.getD n.toNat zeroV = params.getD n.toNat zeroV) :
    opV call time row2 params2 op n s vs = opV call time row params op n s vs := by
  unfold opV
  by_cases e3 : op = 3
  · subst e3; rw [h3 rfl]; rfl
  · by_cases e4 : op = 4
    · subst e4; rw [h4 rfl]; rfl
    · simp only [if_neg e3, if_neg e4]
section
variable {F : List Fn} {call : Int → List Val → Val} {time : Int} {L : List Ex} {op : Int} {c1 p1 c2 p2 : List Int} {R1 P1 R2 P2 : List Val}
mutual
theorem put_sem (hop : op = 3 ∨ op = 4)
    (h3 : ∀ n t, pickT c1 n = some t → if op = 3 then (∀ x, L[n.toNat]? = some x → ty F c2 p2 x = some t ∧ ev call time R2 P2 x = R1.getD n.toNat zeroV) else (pickT c2 n = some t ∧ R2.getD n.toNat zeroV = R1.getD n.toNat zeroV))
    (h4 : ∀ n t, pickT p1 n = some t → if op = 4 then (∀ x, L[n.toNat]? = some x → ty F c2 p2 x = some t ∧ ev call time R2 P2 x = P1.getD n.toNat zeroV) else (pickT p2 n = some t ∧ P2.getD n.toNat zeroV = P1.getD n.toNat zeroV)) :
    ∀ (e : Ex) {x : Ex} {t : Int}, putP op L e = some x → ty F c1 p1 e = some t → ty F c2 p2 x = some t ∧ ev call time R2 P2 x = ev call time R1 P1 e
  | .mk o n s l, x, t, hx, ht => by
    rw [ty] at ht
    cases hl : tys F c1 p1 l with
    | none => rw [hl] at ht; cases ht
    | some ts =>
      rw [hl] at ht
      dsimp only at ht
      rw [putP] at hx
      by_cases ho : o = op
      · rw [if_pos ho] at hx
        split at hx
        · cases hx
        · subst ho
          have hp := tailT_col hop ht
          rw [ev_colp call time R1 P1 n s l hop]
          by_cases e3 : o = 3
          · rw [if_pos e3] at hp ⊢
            have := h3 n t hp
            rw [if_pos e3] at this
            exact this x hx
          · rw [if_neg e3] at hp ⊢
            have := h4 n t hp
            rw [if_pos (by omega)] at this
            exact this x hx
      · rw [if_neg ho] at hx
        cases hl2 : putPs op L l with
        | none => rw [hl2] at hx; cases hx
        | some l' =>
          rw [hl2] at hx
          cases hx
          obtain ⟨i1, i2⟩ := puts_sem hop h3 h4 l hl2 hl
          have k3 : o = 3 → pickT c1 n = some t → pickT c2 n = some t ∧ R2.getD n.toNat zeroV = R1.getD n.toNat zeroV := fun e3 hp => by
            have := h3 n t hp
            rw [if_neg (by omega)] at this
            exact this
          have k4 : o = 4 → pickT p1 n = some t → pickT p2 n = some t ∧ P2.getD n.toNat zeroV = P1.getD n.toNat zeroV := fun e4 hp => by
            have := h4 n t hp
            rw [if_neg (by omega)] at this
            exact this
          refine ⟨?_, ?_⟩
          · rw [ty, i1]
            exact tailT_other (fun a b => (k3 a b).1) (fun a b => (k4 a b).1) ht
          · rw [ev, ev, i2]
            split
            · rfl
            · refine opV_other (fun e3 => ?_) (fun e4 => ?_)
              · have := tailT_col (.inl e3) ht
                rw [if_pos e3] at this
                exact (k3 e3 this).2
              · have := tailT_col (.inr e4) ht
                rw [if_neg (by omega)] at this
                exact (k4 e4 this).2
theorem puts_sem (hop : op = 3 ∨ op = 4)
    (h3 : ∀ n t, pickT c1 n = some t → if op = 3 then (∀ x, L[n.toNat]? = some x → ty F c2 p2 x = some t ∧ ev call time R2 P2 x = R1.getD n.toNat zeroV) else (pickT c2 n = some t ∧ R2.getD n.toNat zeroV = R1.getD n.toNat zeroV))
    (h4 : ∀ n t, pickT p1 n = some t → if op = 4 then (∀ x, L[n.toNat]? = some x → ty F c2 p2 x = some t ∧ ev call time R2 P2 x = P1.getD n.toNat zeroV) else (pickT p2 n = some t ∧ P2.getD n.toNat zeroV = P1.getD n.toNat zeroV)) :
    ∀ (l : List Ex) {xs : List Ex} {ts : List Int}, putPs op L l = some xs → tys F c1 p1 l = some ts → tys F c2 p2 xs = some ts ∧ evs call time R2 P2 xs = evs call time R1 P1 l
  | [], xs, ts, hx, ht => by
    rw [putPs] at hx; cases hx
    rw [tys] at ht; cases ht
    rw [tys, evs, evs]; exact ⟨rfl, rfl⟩
  | e :: l, xs, ts, hx, ht => by
    rw [tys] at ht
    cases he : ty F c1 p1 e with
    | none => rw [he] at ht; cases ht
    | some t =>
      rw [he] at ht
      cases hl : tys F c1 p1 l with
      | none => rw [hl] at ht; cases ht
      | some us =>
        rw [hl] at ht; cases ht
        rw [putPs] at hx
        cases hx1 : putP op L e with
        | none => rw [hx1] at hx; cases hx
        | some x =>
          rw [hx1] at hx
          cases hx2 : putPs op L l with
          | none => rw [hx2] at hx; cases hx
          | some l' =>
            rw [hx2] at hx; cases hx
            obtain ⟨i1, i2⟩ := put_sem hop h3 h4 e hx1 he
            obtain ⟨j1, j2⟩ := puts_sem hop h3 h4 l hx2 hl
            rw [tys, i1, j1, evs, evs, i2, j2]
            exact ⟨rfl, rfl⟩
end
end
end Go.Proofs.YtnkakofcejkhiaaDoor

/- Layer 25 on plain data: programs of the bytecode, when they are right, and what they compute. -/
namespace Go.Proofs.YtnkakofcejkhiaaDoor
open Go.RowKit Go.Lib
def opOk (o : Int) : Bool := decide (0 ≤ o) && decide (o ≤ 21) && decide (o ≠ 4)
def arO (o : Int) : Nat := if o = 0 ∨ o = 1 ∨ o = 2 ∨ o = 3 ∨ o = 5 then 0 else if o = 6 ∨ o = 7 ∨ o = 20 then 1 else if o = 21 then 3 else 2
theorem arO_le (o : Int) : arO o ≤ 3 := by unfold arO; (repeat' split) <;> omega
def opsP (x : Ins) : List Int := if opOk x.op then [x.a, x.b, x.c].take (arO x.op) else []
def qbw (x : Ins) : Bool :=
  opOk x.op && (decide (arO x.op < 3 → x.c = 0) && decide (arO x.op < 2 → x.b = 0) && decide (arO x.op < 1 → x.a = 0)) &&
  (if x.op = 0 ∨ x.op = 3 then decide (x.s.size = 0) else if x.op = 2 then decide (x.s.size = 0) && decide (x.n = 0 ∨ x.n = 1)
   else if x.op = 1 then decide (x.n = 0) && decide (x.s.size ≤ 200) else decide (x.n = 0) && decide (x.s.size = 0))
def qcp (r : Int) : Ex := .mk 4 r ByteArray.empty []
def exI (x : Ins) : Ex := .mk x.op x.n x.s ((opsP x).map qcp)
def tyI (cols types : List Int) (x : Ins) : Option Int := typeP [] cols types (exI x)
def verI (cols types : List Int) (done : List Bool) (x : Ins) : Int :=
  if qbw x = false then 2
  else if (x.to :: opsP x).any (fun r => decide (r < 0) || decide ((types.length : Int) ≤ r)) then 3
  else if x.op = 3 ∧ (x.n < 0 ∨ (cols.length : Int) ≤ x.n) then 3
  else if (opsP x).any (fun r => !done.getD r.toNat false) then 25
  else if tyI cols types x = some (types.getD x.to.toNat 0) then 0 else 13
def verL (cols types : List Int) : List Ins → Nat → List Bool → (Int × Int) × List Bool
  | [], _, done => ((-1, 0), done)
  | x :: l, i, done => if verI cols types done x = 0 then verL cols types l (i + 1) (done.set x.to.toNat true) else (((i : Int), verI cols types done x), done)
def verP (c : Cod) (cols : List Int) : Int × Int :=
  if 1000 < c.ins.length ∨ 1000 < c.types.length then (-1, 6)
  else if c.types.any (fun t => decide (t < 0) || decide (3 ≤ t)) then (-1, 13)
  else
    let r := verL cols c.types c.ins 0 (List.replicate c.types.length false)
    if r.1.2 ≠ 0 then r.1
    else if c.out < 0 ∨ (c.types.length : Int) ≤ c.out then (-1, 3)
    else if r.2.getD c.out.toNat false = false then (-1, 25) else (-1, 0)
def opI (time : Int) (row : List Val) (x : Ins) (vs : List Val) : Val := if x.op = 21 then ifV vs else opV (fun _ _ => zeroV) time row [] x.op x.n x.s vs
def argsI (regs : List Val) (x : Ins) : List Val := (opsP x).map fun r => regs.getD r.toNat zeroV
def stepI (time : Int) (row : List Val) (regs : List Val) (x : Ins) : List Val := regs.set x.to.toNat (opI time row x (argsI regs x))
def regsI (time : Int) (row : List Val) (l : List Ins) (regs : List Val) : List Val := l.foldl (stepI time row) regs
def valC (c : Cod) (time : Int) (row : List Val) : Val := (regsI time row c.ins (List.replicate c.types.length zeroV)).getD c.out.toNat zeroV
def RegsOk (types : List Int) (done : List Bool) (regs : List Val) : Prop :=
  regs.length = types.length ∧ done.length = types.length ∧ ∀ r : Nat, done.getD r false = true → (regs.getD r zeroV).k = types.getD r 0 ∧ qbh (regs.getD r zeroV)
structure InsOk (cols types : List Int) (done : List Bool) (x : Ins) : Prop where
  form : qbw x = true
  to0 : 0 ≤ x.to
  to1 : x.to < types.length
  args : ∀ r ∈ opsP x, 0 ≤ r ∧ r < types.length ∧ done.getD r.toNat false = true
  col : x.op = 3 → 0 ≤ x.n ∧ x.n < cols.length
  typ : tyI cols types x = some (types.getD x.to.toNat 0)
theorem verI_ok {cols types : List Int} {done : List Bool} {x : Ins} (h : verI cols types done x = 0) : InsOk cols types done x := by
  unfold verI at h
  split at h
  · cases h
  rename_i h1
  split at h
  · cases h
  rename_i h2
  split at h
  · cases h
  rename_i h3
  split at h
  · cases h
  rename_i h4
  split at h
  · rename_i h5
    rw [Bool.not_eq_true, List.any_eq_false] at h2 h4
    have h6 := h2 x.to (by simp)
    simp only [Bool.or_eq_true, decide_eq_true_eq, not_or] at h6
    refine ⟨by simpa using h1, by omega, by omega, fun r hr => ?_, fun h0 => by omega, h5⟩
    have h7 := h2 r (by simp [hr])
    have h8 := h4 r hr
    simp only [Bool.or_eq_true, decide_eq_true_eq, not_or] at h7
    refine ⟨by omega, by omega, by simpa using h8⟩
  · cases h
theorem InsOk.ver {cols types : List Int} {done : List Bool} {x : Ins} (h : InsOk cols types done x) : verI cols types done x = 0 := by
  unfold verI
  rw [if_neg (by rw [h.form]; simp), if_neg, if_neg, if_neg, if_pos h.typ]
  · rw [Bool.not_eq_true, List.any_eq_false]
    intro r hr
    rw [(h.args r hr).2.2]; simp
  · rintro ⟨h3, h4⟩
    have := h.col h3; omega
  · rw [Bool.not_eq_true, List.any_eq_false]
    intro r hr
    simp only [Bool.or_eq_true, decide_eq_true_eq, not_or]
    rcases List.mem_cons.1 hr with rfl | hr
    · have := h.to0; have := h.to1; omega
    · have := h.args r hr; omega
theorem InsOk.op {cols types : List Int} {done : List Bool} {x : Ins} (h : InsOk cols types done x) : 0 ≤ x.op ∧ x.op ≤ 21 ∧ x.op ≠ 4 := by
  have := h.form
  unfold qbw at this
  simp only [Bool.and_eq_true] at this
  have h2 := this.1.1
  unfold opOk at h2
  simp only [Bool.and_eq_true, decide_eq_true_eq] at h2
  exact ⟨h2.1.1, h2.1.2, h2.2⟩
theorem rightF_nil : rightF [] = true := by unfold rightF; simp
theorem tys_params {cols types : List Int} : ∀ (l : List Int) {ts : List Int}, tys [] cols types (l.map qcp) = some ts → ts = l.map fun r => types.getD r.toNat 0
  | [], ts, h => by rw [List.map_nil, tys] at h; cases h; rfl
  | r :: l, ts, h => by
    rw [List.map_cons, tys] at h
    cases hr : ty [] cols types (qcp r) with
    | none => rw [hr] at h; cases h
    | some t =>
      rw [hr] at h
      cases hl : tys [] cols types (l.map qcp) with
      | none => rw [hl] at h; cases h
      | some us =>
        rw [hl] at h
        cases h
        rw [List.map_cons, ← tys_params l hl]
        congr 1
        unfold qcp at hr
        rw [ty] at hr
        simp only [tys] at hr
        have h2 := tailT_col (.inr rfl) hr
        rw [if_neg (by decide)] at h2
        obtain ⟨h3, h4⟩ : 0 ≤ r ∧ types[r.toNat]? = some t := by
          unfold pickT at h2
          split at h2
          · cases h2
          · cases hv : types[r.toNat]? with
            | none => rw [hv] at h2; cases h2
            | some v =>
              rw [hv] at h2; dsimp only at h2
              split at h2
              · cases h2; exact ⟨by omega, rfl⟩
              · cases h2
        rw [List.getD_eq_getElem?_getD, h4]; rfl
theorem InsOk.tail {cols types : List Int} {done : List Bool} {x : Ins} (h : InsOk cols types done x) : tailT [] cols types x.op x.n x.s ((opsP x).map fun r => types.getD r.toNat 0) = some (types.getD x.to.toNat 0) := by
  have := h.typ
  unfold tyI typeP at this
  rw [if_pos rightF_nil] at this
  unfold tyD at this
  split at this
  · cases this
  unfold exI at this
  rw [ty] at this
  cases hl : tys [] cols types ((opsP x).map qcp) with
  | none => rw [hl] at this; cases this
  | some ts =>
    rw [hl] at this
    dsimp only at this
    rw [tys_params _ hl] at this
    exact this
theorem tail_sound {cols types : List Int} {row : List Val} (hrow : qca cols row) {x : Ins} {t : Int} {time : Int} {vs : List Val} (hop : x.op ≠ 4) (hs : ∀ v ∈ vs, qbh v) (h : tailT [] cols types x.op x.n x.s (vs.map Val.k) = some t) :
    (opI time row x vs).k = t ∧ qbh (opI time row x vs) := by
  have h22 : x.op ≠ 22 := by
    intro e
    unfold tailT at h
    split at h
    · cases h
    · unfold callT at h
      split at h
      · cases h
      · simp at h
  have h2 : tailT [] cols [] x.op x.n x.s (vs.map Val.k) = some t := tailT_other (fun _ h => h) (fun e => absurd e hop) h
  unfold tailT at h2
  split at h2
  · cases h2
  unfold opI
  split at h2
  · rename_i hnil
    obtain rfl : vs = [] := by simpa using hnil
    obtain ⟨h21, -, h3⟩ := leaf_fit (call := fun _ _ => zeroV) (time := time) (params := []) hrow rfl (by simp) h2
    rw [if_neg h21]; exact h3
  · exact (oper_sound (call := fun _ _ => zeroV) (time := time) (row := row) (params := []) hs h2).2
theorem RegsOk.args {types : List Int} {done : List Bool} {regs : List Val} (h : RegsOk types done regs) {cols : List Int} {x : Ins} (hx : InsOk cols types done x) :
    (argsI regs x).map Val.k = (opsP x).map (fun r => types.getD r.toNat 0) ∧ ∀ v ∈ argsI regs x, qbh v := by
  unfold argsI
  constructor
  · rw [List.map_map]
    exact List.map_congr_left fun r hr => (h.2.2 r.toNat (hx.args r hr).2.2).1
  · intro v hv
    obtain ⟨r, hr, rfl⟩ := List.mem_map.1 hv
    exact (h.2.2 r.toNat (hx.args r hr).2.2).2
theorem RegsOk.res {cols types : List Int} {row : List Val} (hrow : qca cols row) {done : List Bool} {regs : List Val} (h : RegsOk types done regs) {x : Ins} (hx : InsOk cols types done x) (time : Int) :
    (opI time row x (argsI regs x)).k = types.getD x.to.toNat 0 ∧ qbh (opI time row x (argsI regs x)) := by
  obtain ⟨h1, h2⟩ := h.args hx
  exact tail_sound hrow hx.op.2.2 h2 (by rw [h1]; exact hx.tail)
theorem qcr {α : Type} (l : List α) (i j : Nat) (a d : α) : (l.set i a).getD j d = if i = j ∧ i < l.length then a else l.getD j d := by
  rw [List.getD_eq_getElem?_getD, List.getElem?_set]
  split
  · rename_i h; subst h
    split
    · rename_i h2; rw [if_pos ⟨rfl, h2⟩]; rfl
    · rename_i h2; rw [if_neg (by rintro ⟨-, h3⟩; exact h2 h3), List.getD_eq_getElem?_getD, List.getElem?_eq_none (by omega)]
  · rename_i h; rw [if_neg (by rintro ⟨h2, -⟩; exact h h2), List.getD_eq_getElem?_getD]
theorem RegsOk.step {cols types : List Int} {row : List Val} (hrow : qca cols row) {done : List Bool} {regs : List Val} (h : RegsOk types done regs) {x : Ins} (hx : InsOk cols types done x) (time : Int) : RegsOk types (done.set x.to.toNat true) (stepI time row regs x) := by
  obtain ⟨h1, h2, h3⟩ := h
  refine ⟨by rw [stepI, List.length_set]; exact h1, by rw [List.length_set]; exact h2, fun r hr => ?_⟩
  have hto := hx.to1
  have hto0 := hx.to0
  rw [qcr] at hr
  rw [stepI, qcr]
  by_cases he : x.to.toNat = r
  · rw [if_pos ⟨he, by omega⟩, ← he]
    exact RegsOk.res hrow ⟨h1, h2, h3⟩ hx time
  · rw [if_neg (fun h => he h.1)] at hr ⊢
    exact h3 r hr
theorem regsOk_start (types : List Int) : RegsOk types (List.replicate types.length false) (List.replicate types.length zeroV) := by
  refine ⟨by simp, by simp, fun r hr => ?_⟩
  rw [List.getD_eq_getElem?_getD, List.getElem?_replicate] at hr
  split at hr <;> cases hr
def AllOk (cols types : List Int) : List Ins → List Bool → Prop
  | [], _ => True
  | x :: l, done => InsOk cols types done x ∧ AllOk cols types l (done.set x.to.toNat true)
def doneL : List Ins → List Bool → List Bool
  | [], done => done
  | x :: l, done => doneL l (done.set x.to.toNat true)
theorem verL_ok {cols types : List Int} : ∀ (l : List Ins) (i : Nat) (done : List Bool), (verL cols types l i done).1.2 = 0 → AllOk cols types l done ∧ verL cols types l i done = ((-1, 0), doneL l done)
  | [], i, done, _ => ⟨trivial, rfl⟩
  | x :: l, i, done, h => by
    rw [verL] at h ⊢
    split at h
    · rename_i h0
      rw [if_pos h0]
      obtain ⟨h1, h2⟩ := verL_ok l (i + 1) _ h
      exact ⟨⟨verI_ok h0, h1⟩, h2⟩
    · rename_i h0
      exact absurd h h0
theorem AllOk.verL {cols types : List Int} : ∀ (l : List Ins) (i : Nat) (done : List Bool), AllOk cols types l done → verL cols types l i done = ((-1, 0), doneL l done)
  | [], i, done, _ => rfl
  | x :: l, i, done, h => by
    rw [Proofs.YtnkakofcejkhiaaDoor.verL, if_pos h.1.ver]
    exact AllOk.verL l (i + 1) _ h.2
structure CodOk (c : Cod) (cols : List Int) : Prop where
  ni : c.ins.length ≤ 1000
  nt : c.types.length ≤ 1000
  kinds : ∀ t ∈ c.types, 0 ≤ t ∧ t < 3
  all : AllOk cols c.types c.ins (List.replicate c.types.length false)
  out0 : 0 ≤ c.out
  out1 : c.out < c.types.length
  out2 : (doneL c.ins (List.replicate c.types.length false)).getD c.out.toNat false = true
theorem verP_ok {c : Cod} {cols : List Int} : (verP c cols).2 = 0 ↔ CodOk c cols := by
  unfold verP
  constructor
  · intro h
    split at h
    · cases h
    rename_i h1
    split at h
    · cases h
    rename_i h2
    dsimp only at h
    split at h
    · rename_i h3; exact absurd h h3
    rename_i h3
    split at h
    · cases h
    rename_i h4
    split at h
    · cases h
    rename_i h5
    obtain ⟨h6, h7⟩ := verL_ok _ _ _ (Decidable.not_not.1 h3)
    rw [h7] at h5
    refine ⟨by omega, by omega, fun t ht => ?_, h6, by omega, by omega, by simpa using h5⟩
    rw [Bool.not_eq_true, List.any_eq_false] at h2
    have := h2 t ht
    simp only [Bool.or_eq_true, decide_eq_true_eq, not_or] at this
    omega
  · intro h
    have h7 := AllOk.verL c.ins 0 _ h.all
    rw [if_neg (by have := h.ni; have := h.nt; omega), if_neg, h7]
    · dsimp only
      rw [if_neg (by simp), if_neg (by have := h.out0; have := h.out1; omega), if_neg (by rw [h.out2]; simp)]
    · rw [Bool.not_eq_true, List.any_eq_false]
      intro t ht
      have := h.kinds t ht
      simp only [Bool.or_eq_true, decide_eq_true_eq, not_or]; omega
theorem AllOk.regs {cols types : List Int} {row : List Val} (hrow : qca cols row) (time : Int) : ∀ (l : List Ins) {done : List Bool} {regs : List Val}, AllOk cols types l done → RegsOk types done regs → RegsOk types (doneL l done) (regsI time row l regs)
  | [], _, _, _, h => h
  | x :: l, done, regs, h, hr => AllOk.regs hrow time l h.2 (hr.step hrow h.1 time)
theorem CodOk.val {c : Cod} {cols : List Int} {row : List Val} (h : CodOk c cols) (hrow : qca cols row) (time : Int) : (valC c time row).k = c.types.getD c.out.toNat 0 ∧ qbh (valC c time row) :=
  (AllOk.regs hrow time c.ins h.all (regsOk_start c.types)).2.2 _ h.out2
end Go.Proofs.YtnkakofcejkhiaaDoor

/- Layer 25 on plain data: the results of a program, one after the other; where each operand comes from. -/
namespace Go.Proofs.YtnkakofcejkhiaaDoor
open Go.RowKit Go.Lib
structure Nd where
  x : Ins
  src : List Nat
def resN (time : Int) (row : List Val) : List Nd → List Val → List Val
  | [], acc => acc
  | d :: l, acc => resN time row l (acc ++ [opI time row d.x (d.src.map fun k => acc.getD k zeroV)])
def nodes : List Ins → Nat → List Nat → List Nd
  | [], _, _ => []
  | x :: l, i, last => ⟨x, (opsP x).map fun r => last.getD r.toNat 0⟩ :: nodes l (i + 1) (last.set x.to.toNat i)
def lastL : List Ins → Nat → List Nat → List Nat
  | [], _, last => last
  | x :: l, i, last => lastL l (i + 1) (last.set x.to.toNat i)
theorem resN_len (time : Int) (row : List Val) : ∀ (l : List Nd) (acc : List Val), (resN time row l acc).length = acc.length + l.length
  | [], acc => rfl
  | d :: l, acc => by rw [resN, resN_len time row l]; simp; omega
theorem nodes_len : ∀ (l : List Ins) (i : Nat) (last : List Nat), (nodes l i last).length = l.length
  | [], _, _ => rfl
  | x :: l, i, last => by rw [nodes, List.length_cons, nodes_len l, List.length_cons]
theorem resN_append (time : Int) (row : List Val) : ∀ (a b : List Nd) (acc : List Val), resN time row (a ++ b) acc = resN time row b (resN time row a acc)
  | [], b, acc => rfl
  | d :: a, b, acc => by rw [List.cons_append, resN, resN, resN_append time row a b]
def Agree (done : List Bool) (regs : List Val) (last : List Nat) (acc : List Val) : Prop :=
  done.length = regs.length ∧ last.length = regs.length ∧ ∀ r : Nat, done.getD r false = true → last.getD r 0 < acc.length ∧ regs.getD r zeroV = acc.getD (last.getD r 0) zeroV
theorem Agree.args {cols types : List Int} {done : List Bool} {regs : List Val} {last : List Nat} {acc : List Val} (h : Agree done regs last acc) {x : Ins} (hx : InsOk cols types done x) :
    ((opsP x).map fun r => last.getD r.toNat 0).map (fun k => acc.getD k zeroV) = argsI regs x := by
  unfold argsI
  rw [List.map_map]
  exact List.map_congr_left fun r hr => (h.2.2 r.toNat (hx.args r hr).2.2).2.symm
theorem Agree.step {cols types : List Int} {done : List Bool} {regs : List Val} {last : List Nat} {acc : List Val} (h : Agree done regs last acc) {x : Ins} (hx : InsOk cols types done x) (hl : regs.length = types.length) (time : Int) (row : List Val) :
    Agree (done.set x.to.toNat true) (stepI time row regs x) (last.set x.to.toNat acc.length) (acc ++ [opI time row x (argsI regs x)]) := by
  obtain ⟨h1, h2, h3⟩ := h
  have h0 := hx.to0
  have h4 := hx.to1
  refine ⟨by simp [stepI, h1], by simp [stepI, h2], fun r hr => ?_⟩
  rw [qcr] at hr
  rw [stepI, qcr, qcr]
  by_cases he : x.to.toNat = r
  · rw [if_pos ⟨he, by omega⟩, if_pos ⟨he, by omega⟩]
    refine ⟨by simp, ?_⟩
    rw [List.getD_eq_getElem?_getD, List.getElem?_append_right (Nat.le_refl _)]; simp
  · rw [if_neg (fun h => he h.1)] at hr
    rw [if_neg (fun h => he h.1), if_neg (fun h => he h.1)]
    obtain ⟨h5, h6⟩ := h3 r hr
    refine ⟨by rw [List.length_append]; exact Nat.lt_of_lt_of_le h5 (Nat.le_add_right _ _), ?_⟩
    rw [h6, List.getD_eq_getElem?_getD (l := acc ++ _), List.getElem?_append_left h5, List.getD_eq_getElem?_getD]
theorem agree_all {cols types : List Int} (time : Int) (row : List Val) : ∀ (l : List Ins) {done : List Bool} {regs : List Val} {last : List Nat} {acc : List Val}, AllOk cols types l done → regs.length = types.length → Agree done regs last acc →
    Agree (doneL l done) (regsI time row l regs) (lastL l acc.length last) (resN time row (nodes l acc.length last) acc)
  | [], _, _, _, _, _, _, h => h
  | x :: l, done, regs, last, acc, ha, hl, h => by
    have h1 := h.step ha.1 hl time row
    have h2 := agree_all time row l ha.2 (by rw [stepI, List.length_set]; exact hl) h1
    rw [List.length_append, List.length_singleton] at h2
    rw [doneL, lastL, nodes, resN]
    rw [h.args ha.1]
    exact h2
theorem agree_start (n : Nat) : Agree (List.replicate n false) (List.replicate n zeroV) (List.replicate n 0) [] := by
  refine ⟨by simp, by simp, fun r hr => ?_⟩
  rw [List.getD_eq_getElem?_getD, List.getElem?_replicate] at hr
  split at hr <;> cases hr
def nodesC (c : Cod) : List Nd := nodes c.ins 0 (List.replicate c.types.length 0)
def rootC (c : Cod) : Nat := (lastL c.ins 0 (List.replicate c.types.length 0)).getD c.out.toNat 0
theorem CodOk.val_res {c : Cod} {cols : List Int} (h : CodOk c cols) (time : Int) (row : List Val) : rootC c < c.ins.length ∧ valC c time row = (resN time row (nodesC c) []).getD (rootC c) zeroV := by
  have h1 := agree_all time row c.ins h.all (by simp) (agree_start c.types.length)
  obtain ⟨h2, h3⟩ := h1.2.2 _ h.out2
  rw [resN_len, nodes_len] at h2
  simp only [List.length_nil, Nat.zero_add] at h2
  exact ⟨h2, h3⟩
end Go.Proofs.YtnkakofcejkhiaaDoor

/- Layer 25 on plain data: which instructions are needed; Trim keeps the value. -/
namespace Go.Proofs.YtnkakofcejkhiaaDoor
open Go.RowKit Go.Lib
def srcOf (ds : List Nd) (i : Nat) : List Nat := (ds.getD i ⟨⟨0, 0, 0, 0, 0, 0, ByteArray.empty⟩, []⟩).src
def Early (ds : List Nd) : Prop := ∀ i, i < ds.length → ∀ k ∈ srcOf ds i, k < i
def rank (need : List Bool) : Nat → Nat
  | 0 => 0
  | i + 1 => rank need i + if need.getD i false then 1 else 0
structure Trimmed (need : List Bool) (i : Nat) (done done' : List Bool) (last last' : List Nat) (acc acc' : List Val) : Prop where
  al : acc.length = i
  al' : acc'.length = rank need i
  dl : done'.length = done.length
  ll : last'.length = done.length
  l0 : last.length = done.length
  lt : ∀ r : Nat, done.getD r false = true → last.getD r 0 < i
  reg : ∀ r : Nat, done.getD r false = true → need.getD (last.getD r 0) false = true → done'.getD r false = true ∧ last'.getD r 0 = rank need (last.getD r 0)
  res : ∀ j, j < i → need.getD j false = true → acc'.getD (rank need j) zeroV = acc.getD j zeroV
theorem nodes_early {cols types : List Int} : ∀ (l : List Ins) (i : Nat) (done : List Bool) (last : List Nat), AllOk cols types l done → last.length = types.length → done.length = types.length → (∀ r : Nat, done.getD r false = true → last.getD r 0 < i) → ∀ k, k < l.length → ∀ s ∈ srcOf (nodes l i last) k, s < i + k
  | [], _, _, _, _, _, _, _ => fun k hk => by simp at hk
  | x :: l, i, done, last, ha, hl, hd, h => by
    intro k hk s hs
    rw [nodes] at hs
    unfold srcOf at hs
    cases k with
    | zero =>
      rw [List.getD_cons_zero] at hs
      obtain ⟨r, hr, rfl⟩ := List.mem_map.1 hs
      exact h r.toNat (ha.1.args r hr).2.2
    | succ k =>
      rw [List.getD_cons_succ] at hs
      have := nodes_early l (i + 1) _ _ ha.2 (by rw [List.length_set]; exact hl) (by rw [List.length_set]; exact hd) (fun r hr => by
        have h1 := ha.1.to1
        have h0 := ha.1.to0
        rw [qcr] at hr ⊢
        by_cases he : x.to.toNat = r
        · rw [if_pos ⟨he, by omega⟩]; omega
        · rw [if_neg (fun h => he h.1)] at hr ⊢
          have := h r hr; omega) k (by simpa using hk) s hs
      omega
theorem CodOk.early {c : Cod} {cols : List Int} (h : CodOk c cols) : Early (nodesC c) := fun i hi k hk => by
  have := nodes_early c.ins 0 _ _ h.all (by simp) (by simp) (fun r hr => by
    rw [List.getD_eq_getElem?_getD, List.getElem?_replicate] at hr
    split at hr <;> cases hr) i (by unfold nodesC at hi; rwa [nodes_len] at hi) k hk
  omega
theorem no_done {n r : Nat} (h : (List.replicate n false).getD r false = true) : False := by
  rw [List.getD_eq_getElem?_getD, List.getElem?_replicate] at h
  split at h <;> cases h
end Go.Proofs.YtnkakofcejkhiaaDoor

/- Layer 25 on plain data: Compact keeps the value. -/
namespace Go.Proofs.YtnkakofcejkhiaaDoor
open Go.RowKit Go.Lib
structure NdOk (cols rt : List Int) (i : Nat) (d : Nd) : Prop where
  form : qbw d.x = true
  col : d.x.op = 3 → 0 ≤ d.x.n ∧ d.x.n < cols.length
  ar : d.src.length = (opsP d.x).length
  lt : ∀ s ∈ d.src, s < i
  typ : tailT [] cols [] d.x.op d.x.n d.x.s (d.src.map fun s => rt.getD s 0) = some (rt.getD i 0)
structure CompS where
  ins : List Ins
  holds : List Nat
  tys : List Int
  place : List Nat
theorem opsP_len (x : Ins) : (opsP x).length = if opOk x.op then arO x.op else 0 := by
  unfold opsP
  split
  · rw [List.length_take]; have := arO_le x.op; simp; omega
  · rfl
theorem form_op {x : Ins} (h : qbw x = true) : opOk x.op = true := by
  unfold qbw at h
  simp only [Bool.and_eq_true] at h
  exact h.1.1
structure CompInv (e : List Nat) (rt T : List Int) (i n : Nat) (s : CompS) (done : List Bool) (last : List Nat) : Prop where
  hl : s.holds.length = s.tys.length
  alive : ∀ j, j < i → i ≤ e.getD j 0 → s.place.getD j 0 < s.holds.length ∧ s.holds.getD (s.place.getD j 0) 0 = j
  ty : ∀ j, j < i → s.place.getD j 0 < s.tys.length ∧ s.tys.getD (s.place.getD j 0) 0 = rt.getD j 0
  dl : done.length = T.length
  ll : last.length = T.length
  dn : ∀ k, k < s.holds.length → done.getD k false = true ∧ last.getD k 0 = s.holds.getD k 0
  pl : s.place.length = n
  few : s.tys.length ≤ i
end Go.Proofs.YtnkakofcejkhiaaDoor

/- Typed views of api.Delta. -/
namespace Go.Proofs.YtnkakofcejkhiaaDoor
open Go.RowKit Go.Lib
structure Delta where
  time : Int
  row : List Val
  n : Int
  deriving DecidableEq
def Delta.d (x : Delta) : D := .st [.int x.time, .sl (x.row.map Val.d), .int x.n]
theorem Delta.width (x : Delta) : x.d.width = 3 := by
  simp [Delta.d, D.width, D.widths]
theorem Delta.widths (l : List Delta) : ∀ d ∈ l.map Delta.d, d.width = 3 := by
  intro d hd; obtain ⟨x, -, rfl⟩ := List.mem_map.1 hd; exact Delta.width x
theorem Delta.open {w : World} {S : Nat → Prop} {x : Delta} {cs : List Value} (h : Rd w S x.d cs) : ∃ (A1 : Option Addr) (cap1 b1 off1 : Nat), cs = [.int .i64 x.time, .slice A1 x.row.length cap1, .int .i64 x.n] ∧ x.row.length ≤ cap1 ∧ cap1 ≤ 9223372036854775807 ∧ (0 < x.row.length → A1 = some ⟨b1, off1, none⟩ ∧ S b1) ∧ RdM w S (x.row.map Val.d) b1 off1 := by
  simp only [Delta.d, Delta.d, Rd, RdS, List.length_map] at h
  obtain ⟨_, _, rfl, rfl, ⟨_, _, rfl, ⟨A1, cap1, b1, off1, rfl, p1, q1, r1, s1⟩, ⟨_, _, rfl, rfl, rfl⟩⟩⟩ := h
  exact ⟨A1, cap1, b1, off1, by simp, p1, q1, r1, s1⟩
theorem Delta.at {w : World} {S : Nat → Prop} {l : List Delta} {b off : Nat} (hm : RdM w S (l.map Delta.d) b off) {k : Nat} (hk : k < l.length) : ∃ (A1 : Option Addr) (cap1 b1 off1 : Nat), w.cell? ⟨b, off + k * 3, none⟩ = some (.int .i64 l[k].time) ∧ w.cell? ⟨b, off + k * 3 + 1, none⟩ = some (.slice A1 l[k].row.length cap1) ∧ w.cell? ⟨b, off + k * 3 + 1 + 1, none⟩ = some (.int .i64 l[k].n) ∧ Rd w S l[k].d [.int .i64 l[k].time, .slice A1 l[k].row.length cap1, .int .i64 l[k].n] ∧ l[k].row.length ≤ cap1 ∧ cap1 ≤ 9223372036854775807 ∧ (0 < l[k].row.length → A1 = some ⟨b1, off1, none⟩ ∧ S b1) ∧ RdM w S (l[k].row.map Val.d) b1 off1 := by
  obtain ⟨cs, hc, hr⟩ := RdM.get _ b off hm (Delta.widths l) k (by simpa using hk)
  rw [List.getElem_map] at hr
  obtain ⟨A1, cap1, b1, off1, rfl, hf⟩ := Delta.open hr
  simp only [qbc, and_true] at hc
  obtain ⟨c0, c1, c2⟩ := hc
  exact ⟨A1, cap1, b1, off1, c0, c1, c2, hr, hf⟩
end Go.Proofs.YtnkakofcejkhiaaDoor

/- What is known of the variables of the program, in every world: nobody writes them. -/
namespace Go.Proofs.YtnkakofcejkhiaaDoor
def qz : List Value := [.string ⟨#[105, 110, 116]⟩, .string ⟨#[116, 101, 120, 116]⟩, .string ⟨#[98, 111, 111, 108]⟩, .string ⟨#[99, 111, 108]⟩, .string ⟨#[]⟩, .string ⟨#[116, 105, 109, 101]⟩, .string ⟨#[110, 111, 116]⟩, .string ⟨#[110, 101, 103]⟩, .string ⟨#[97, 100, 100]⟩, .string ⟨#[115, 117, 98]⟩, .string ⟨#[109, 117, 108]⟩, .string ⟨#[100, 105, 118]⟩, .string ⟨#[109, 111, 100]⟩, .string ⟨#[101, 113]⟩, .string ⟨#[110, 101]⟩, .string ⟨#[108, 116]⟩, .string ⟨#[108, 101]⟩, .string ⟨#[97, 110, 100]⟩, .string ⟨#[111, 114]⟩, .string ⟨#[99, 111, 110, 99, 97, 116]⟩, .string ⟨#[108, 101, 110]⟩, .string ⟨#[105, 102]⟩, .string ⟨#[]⟩]
def globsOk (C : Nat → Nat → List Value → Prop) : Prop := (∃ _m : Unit, C 0 0 qz) ∧ True
theorem globsOk.mono {C C' : Nat → Nat → List Value → Prop} (hC : ∀ b o cs, C b o cs → C' b o cs) (h : globsOk C) : globsOk C' := by
  obtain ⟨⟨m0, h0⟩, -⟩ := h
  exact ⟨⟨m0, hC _ _ _ h0⟩, trivial⟩
def gtab (g : Nat) : Option (List Value) := if g = 0 then some qz else none
theorem gtab_ok {C : Nat → Nat → List Value → Prop} (h : globsOk C) {g : Nat} {cs : List Value} (hg : gtab g = some cs) : C g 0 cs := by
  unfold gtab at hg
  obtain ⟨⟨m0, h0⟩, -⟩ := h
  split at hg
  · rename_i e; subst e; cases hg; exact h0
  cases hg
@[simp] theorem gtab_namesTab : gtab 0 = some qz := rfl
@[simp] theorem namesTab_0 : qz[0]? = some (.string ⟨#[105, 110, 116]⟩) := rfl
@[simp] theorem namesTab_1 : qz[1]? = some (.string ⟨#[116, 101, 120, 116]⟩) := rfl
@[simp] theorem namesTab_2 : qz[2]? = some (.string ⟨#[98, 111, 111, 108]⟩) := rfl
@[simp] theorem namesTab_3 : qz[3]? = some (.string ⟨#[99, 111, 108]⟩) := rfl
@[simp] theorem namesTab_4 : qz[4]? = some (.string ⟨#[]⟩) := rfl
@[simp] theorem namesTab_5 : qz[5]? = some (.string ⟨#[116, 105, 109, 101]⟩) := rfl
@[simp] theorem namesTab_6 : qz[6]? = some (.string ⟨#[110, 111, 116]⟩) := rfl
@[simp] theorem namesTab_7 : qz[7]? = some (.string ⟨#[110, 101, 103]⟩) := rfl
@[simp] theorem namesTab_8 : qz[8]? = some (.string ⟨#[97, 100, 100]⟩) := rfl
@[simp] theorem namesTab_9 : qz[9]? = some (.string ⟨#[115, 117, 98]⟩) := rfl
@[simp] theorem namesTab_10 : qz[10]? = some (.string ⟨#[109, 117, 108]⟩) := rfl
@[simp] theorem namesTab_11 : qz[11]? = some (.string ⟨#[100, 105, 118]⟩) := rfl
@[simp] theorem namesTab_12 : qz[12]? = some (.string ⟨#[109, 111, 100]⟩) := rfl
@[simp] theorem namesTab_13 : qz[13]? = some (.string ⟨#[101, 113]⟩) := rfl
@[simp] theorem namesTab_14 : qz[14]? = some (.string ⟨#[110, 101]⟩) := rfl
@[simp] theorem namesTab_15 : qz[15]? = some (.string ⟨#[108, 116]⟩) := rfl
@[simp] theorem namesTab_16 : qz[16]? = some (.string ⟨#[108, 101]⟩) := rfl
@[simp] theorem namesTab_17 : qz[17]? = some (.string ⟨#[97, 110, 100]⟩) := rfl
@[simp] theorem namesTab_18 : qz[18]? = some (.string ⟨#[111, 114]⟩) := rfl
@[simp] theorem namesTab_19 : qz[19]? = some (.string ⟨#[99, 111, 110, 99, 97, 116]⟩) := rfl
@[simp] theorem namesTab_20 : qz[20]? = some (.string ⟨#[108, 101, 110]⟩) := rfl
@[simp] theorem namesTab_21 : qz[21]? = some (.string ⟨#[105, 102]⟩) := rfl
@[simp] theorem namesTab_22 : qz[22]? = some (.string ⟨#[]⟩) := rfl
end Go.Proofs.YtnkakofcejkhiaaDoor

/- Regions that draw their order: all operations but the last ones read or call quietly (in a class of worlds), the last ones stand in one order. -/
namespace Go.Proofs.YtnkakofcejkhiaaDoor
open Go.RowKit Go.Lib
section
variable {P : Program} {ops : Array Oper} {md : Region.Mode} {C : World → Prop}
end
end Go.Proofs.YtnkakofcejkhiaaDoor

/- Regions that draw their order: reads, then operations in one order that make new memory while the reads may still come between them, then a tail in one order. -/
namespace Go.Proofs.YtnkakofcejkhiaaDoor
open Go.RowKit Go.Lib
section
variable {P : Program} {ops : Array Oper} {md : Region.Mode} {C : World → Prop} {Q : Exit → Act → World → Prop}
end
end Go.Proofs.YtnkakofcejkhiaaDoor

/- Slices of trees that the call itself makes: appending an element whose memory is new. -/
namespace Go.Proofs.YtnkakofcejkhiaaDoor
open Go.RowKit Go.Lib
def OwnE (w : World) (B : Nat) (e : TypeId) (size : Nat) (v : Value) (ds : List D) : Prop :=
  ∃ xs, w.ownsRow B e size v ds.length xs ∧ RdS w (fun b => B ≤ b ∧ b < w.heap.size ∧ some b ≠ v.ownBlock) ds xs
theorem OwnE.nil (w : World) (B : Nat) (e : TypeId) (size : Nat) : OwnE w B e size (.slice none 0 0) [] := ⟨[], World.ownsRow_nil _ _ _ _, by rw [RdS]⟩
theorem OwnE.ext {w w' : World} {B : Nat} {e : TypeId} {size : Nat} {v : Value} {ds : List D} (h : OwnE w B e size v ds) (he : Ext w w') : OwnE w' B e size v ds := by
  obtain ⟨xs, h1, h2⟩ := h
  exact ⟨xs, own_ext h1 he, RdS.keep (fun b hb _ => he.block b hb.2.1) (fun b hb => ⟨hb.1, Nat.lt_of_lt_of_le hb.2.1 he.size, hb.2.2⟩) ds xs h2⟩
theorem OwnE.set {w : World} {B : Nat} {e : TypeId} {size : Nat} {v : Value} {ds : List D} (h : OwnE w B e size v ds) {p : Addr} (hp : p.block < B) (u : Value) : OwnE (w.setCell p u) B e size v ds := by
  obtain ⟨xs, h1, h2⟩ := h
  have hb : ∀ b, B ≤ b → (w.setCell p u).heap[b]? = w.heap[b]? := fun b hb => by
    exact Below.heap_setCell w p u b (by omega)
  have hs : (w.setCell p u).heap.size = w.heap.size := by simp
  refine ⟨xs, ⟨h1.1, ?_⟩, RdS.keep (fun b hx _ => hb b hx.1) (fun b hx => by rw [hs]; exact hx) ds xs h2⟩
  rcases h1.2 with h3 | ⟨g, cap, cur, hv, hg, hh, r⟩
  · exact Or.inl h3
  · exact Or.inr ⟨g, cap, cur, hv, hg, (hb g hg).trans hh, r⟩
theorem OwnE.rd {w : World} {B : Nat} {e : TypeId} {size : Nat} {v : Value} {ds : List D} (h : OwnE w B e size v ds) : Rd w (fun b => B ≤ b ∧ b < w.heap.size) (.sl ds) [v] := by
  obtain ⟨xs, h1, h2⟩ := h
  exact own_rd h1 h2 (fun b hb => ⟨hb.1, hb.2.1⟩) (fun b hb => by have := h1.lt b hb; exact this)
theorem OwnE.own {w : World} {B : Nat} {e : TypeId} {size : Nat} {v : Value} {ds : List D} (h : OwnE w B e size v ds) : ∀ b, v.ownBlock = some b → B ≤ b ∧ b < w.heap.size := by
  obtain ⟨xs, h1, h2⟩ := h
  exact fun b hb => h1.lt b hb
theorem OwnE.form {w : World} {B : Nat} {e : TypeId} {size : Nat} {v : Value} {ds : List D} (h : OwnE w B e size v ds) {n : Nat} (hn : ds.length = n) : ∃ A cap, v = .slice A n cap ∧ n ≤ cap ∧ cap ≤ 9223372036854775807 := by
  subst hn
  obtain ⟨A, cap, b, off, h1, h2, h3, -⟩ := Rd.sl_open h.rd
  exact ⟨A, cap, h1, h2, h3⟩
end Go.Proofs.YtnkakofcejkhiaaDoor

/- Regions that draw their order: reads (also late ones) and operations that stand alone, in any sequence; then a tail in one order. -/
namespace Go.Proofs.YtnkakofcejkhiaaDoor
open Go.RowKit Go.Lib
section
variable {P : Program} {ops : Array Oper} {md : Region.Mode} {C : World → Prop} {Q : Exit → Act → World → Prop}
end
end Go.Proofs.YtnkakofcejkhiaaDoor

/- Walks: the number of parts, of the reference. -/
namespace Go.Proofs.YtnkakofcejkhiaaDoor
open Go.RowKit Go.Lib
end Go.Proofs.YtnkakofcejkhiaaDoor
