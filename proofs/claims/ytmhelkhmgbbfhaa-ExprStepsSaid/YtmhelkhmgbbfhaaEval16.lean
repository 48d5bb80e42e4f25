/- What evaluating computes, on plain data; a typed expression's value is right. -/
import Derived.Test.YtmhelkhmgbbfhaaArith16
import Derived.Test.YtmhelkhmgbbfhaaFits16
import Derived.Test.YtmhelkhmgbbfhaaRightP16
namespace Go.Proofs.Ytmhelkhmgbbfhaa
open Go.RowKit Go.Lib

def zeroV : Val := ⟨0, 0, ByteArray.empty⟩

def binV (op : Int) (a b : Val) : Val :=
  if op = 8 then numV (wrap64 (a.n + b.n))
  else if op = 9 then numV (wrap64 (a.n - b.n))
  else if op = 10 then numV (wrap64 (a.n * b.n))
  else if op = 11 then numV (divI a.n b.n)
  else if op = 12 then numV (modI a.n b.n)
  else if op = 13 then boolV (eqV a b)
  else if op = 14 then boolV (!eqV a b)
  else if op = 15 then boolV (decide (cmpV a b < 0))
  else if op = 16 then boolV (decide (cmpV a b ≤ 0))
  else if op = 17 then boolV (decide (a.n = 1) && decide (b.n = 1))
  else if op = 18 then boolV (decide (a.n = 1) || decide (b.n = 1))
  else textV (joinS a.s b.s)

def opV (call : Int → List Val → Val) (time : Int) (row params : List Val) (op n : Int) (s : ByteArray) (vs : List Val) : Val :=
  if op = 0 then numV n
  else if op = 1 then textV s
  else if op = 2 then boolV (decide (n = 1))
  else if op = 3 then row.getD n.toNat zeroV
  else if op = 4 then params.getD n.toNat zeroV
  else if op = 5 then numV time
  else if op = 6 then boolV (decide ((vs.getD 0 zeroV).n = 0))
  else if op = 7 then numV (wrap64 (-(vs.getD 0 zeroV).n))
  else if op = 20 then numV (vs.getD 0 zeroV).s.size
  else if op = 22 then call n vs
  else binV op (vs.getD 0 zeroV) (vs.getD 1 zeroV)

def ifV (vs : List Val) : Val := if (vs.getD 0 zeroV).n = 1 then vs.getD 1 zeroV else vs.getD 2 zeroV

mutual
def ev (call : Int → List Val → Val) (time : Int) (row params : List Val) : Ex → Val
  | .mk op n s l => if op = 21 then ifV (evs call time row params l) else opV call time row params op n s (evs call time row params l)
def evs (call : Int → List Val → Val) (time : Int) (row params : List Val) : List Ex → List Val
  | [] => []
  | e :: l => ev call time row params e :: evs call time row params l
end

def callN (F : List Fn) (time : Int) : Nat → Int → List Val → Val
  | 0 => fun _ _ => zeroV
  | m + 1 => fun i vs => match F[i.toNat]? with
    | some f => ev (callN F time m) time [] vs f.body
    | none => zeroV

theorem evs_map (call : Int → List Val → Val) (time : Int) (row params : List Val) : ∀ l : List Ex, evs call time row params l = l.map (ev call time row params)
  | [] => by rw [evs]; rfl
  | e :: l => by rw [evs, evs_map call time row params l]; rfl

def soundV (v : Val) : Prop := okV v = true ∧ v.s.size ≤ 200

theorem empty_list : ByteArray.empty.toList = [] := by
  rw [ByteArray.toList, ByteArray.toList.loop]; rfl
@[simp] theorem numV_k (n : Int) : (numV n).k = 0 := rfl
@[simp] theorem boolV_k (b : Bool) : (boolV b).k = 2 := rfl
@[simp] theorem textV_k (s : ByteArray) : (textV s).k = 1 := rfl
theorem sound_num (n : Int) : soundV (numV n) := by
  refine ⟨?_, by simp [numV]⟩
  simp [numV, okV, empty_list]
theorem sound_bool (b : Bool) : soundV (boolV b) := by
  refine ⟨?_, by simp [boolV]⟩
  cases b <;> simp [boolV, okV, empty_list]
theorem sound_text {s : ByteArray} (h : s.size ≤ 200) : soundV (textV s) := by
  refine ⟨?_, h⟩
  show okV ⟨1, 0, s⟩ = true
  have h2 : (s.size : Int) ≤ 200 := by omega
  unfold okV
  simp only [show ¬ ((1 : Int) = 0) by decide, if_false, if_true, h2, decide_true, Bool.and_self]

theorem joinS_size (a b : ByteArray) : (joinS a b).size ≤ 200 := by
  unfold joinS; rw [ByteArray.size_extract]; omega

/-- with more functions in front, a type stays -/
theorem callT_mono {F : List Fn} {i m : Nat} (h : i ≤ m) {n r : Int} {ts : List Int} (hc : callT (F.take i) n ts = some r) : callT (F.take m) n ts = some r := by
  unfold callT at *
  split at hc
  · cases hc
  · rename_i hn
    rw [if_neg hn]
    cases hf : (F.take i)[n.toNat]? with
    | none => rw [hf] at hc; cases hc
    | some f =>
      rw [hf] at hc
      have : (F.take m)[n.toNat]? = some f := by
        rw [List.getElem?_take] at hf ⊢
        split at hf
        · rw [if_pos (by omega)]; exact hf
        · cases hf
      rw [this]; exact hc
theorem tailT_mono {F : List Fn} {i m : Nat} (h : i ≤ m) {c p : List Int} {op n r : Int} {s : ByteArray} {ts : List Int} (hc : tailT (F.take i) c p op n s ts = some r) : tailT (F.take m) c p op n s ts = some r := by
  unfold tailT at *
  split at hc
  · cases hc
  · rename_i h1
    rw [if_neg h1]
    split at hc
    · rename_i h2; rw [if_pos h2]; exact callT_mono h hc
    · rename_i h2; rw [if_neg h2]; exact hc
mutual
theorem ty_mono {F : List Fn} {i m : Nat} (h : i ≤ m) {c p : List Int} : ∀ (e : Ex) {r : Int}, ty (F.take i) c p e = some r → ty (F.take m) c p e = some r
  | .mk op n s l, r, hc => by
    rw [ty] at hc ⊢
    cases hl : tys (F.take i) c p l with
    | none => rw [hl] at hc; cases hc
    | some ts => rw [hl] at hc; rw [tys_mono h l hl]; exact tailT_mono h hc
theorem tys_mono {F : List Fn} {i m : Nat} (h : i ≤ m) {c p : List Int} : ∀ (l : List Ex) {ts : List Int}, tys (F.take i) c p l = some ts → tys (F.take m) c p l = some ts
  | [], ts, hc => by rw [tys] at hc ⊢; exact hc
  | e :: l, ts, hc => by
    rw [tys] at hc ⊢
    cases he : ty (F.take i) c p e with
    | none => rw [he] at hc; cases hc
    | some t =>
      rw [he] at hc; rw [ty_mono h e he]
      cases hl : tys (F.take i) c p l with
      | none => rw [hl] at hc; cases hc
      | some us => rw [hl] at hc; rw [tys_mono h l hl]; exact hc
end

/-- the types of parts are those of the expression's parts -/
theorem tys_mem {F : List Fn} {c p : List Int} : ∀ (l : List Ex) {ts : List Int}, tys F c p l = some ts → ∀ e ∈ l, ∃ t, ty F c p e = some t
  | [], _, _, e, he => by cases he
  | x :: l, ts, hc, e, he => by
    rw [tys] at hc
    cases hx : ty F c p x with
    | none => rw [hx] at hc; cases hc
    | some t =>
      rw [hx] at hc
      cases hl : tys F c p l with
      | none => rw [hl] at hc; cases hc
      | some us =>
        rcases List.mem_cons.1 he with rfl | he
        · exact ⟨t, hx⟩
        · exact tys_mem l hl e he

theorem callT_some {F : List Fn} {m : Nat} {n r : Int} {ts : List Int} (hc : callT (F.take m) n ts = some r) : 0 ≤ n ∧ n.toNat < m ∧ ∃ f, F[n.toNat]? = some f ∧ f.params = ts ∧ f.res = r := by
  unfold callT at hc
  split at hc
  · cases hc
  · rename_i hn
    cases hf : (F.take m)[n.toNat]? with
    | none => rw [hf] at hc; cases hc
    | some f =>
      rw [hf] at hc
      rw [List.getElem?_take] at hf
      split at hf
      · rename_i hlt
        dsimp at hc
        split at hc
        · rename_i hp
          exact ⟨by omega, hlt, f, hf, hp, by injection hc⟩
        · cases hc
      · cases hf

theorem okF_body {F : List Fn} {i : Nat} {f : Fn} (h : okF F i = true) (hf : F[i]? = some f) : ty (F.take i) [] f.params f.body = some f.res := by
  unfold okF at h
  rw [hf] at h
  simp only [Bool.and_eq_true, decide_eq_true_eq] at h
  have h2 := h.1.2
  unfold tyD at h2
  split at h2
  · cases h2
  · exact h2

theorem pick_sound {c : List Int} {row : List Val} {n t : Int} (hk : row.map Val.k = c) (hs : ∀ v ∈ row, soundV v) (h : pickT c n = some t) : 0 ≤ n ∧ n.toNat < row.length ∧ (row.getD n.toNat zeroV).k = t ∧ soundV (row.getD n.toNat zeroV) := by
  subst hk
  unfold pickT at h
  split at h
  · cases h
  · rename_i hn
    rw [List.getElem?_map] at h
    cases hv : row[n.toNat]? with
    | none => rw [hv] at h; cases h
    | some v =>
      rw [hv] at h
      obtain ⟨hl, hv2⟩ := List.getElem?_eq_some_iff.1 hv
      have hg : row.getD n.toNat zeroV = v := by rw [List.getD_eq_getElem?_getD, hv]; rfl
      rw [hg]
      dsimp at h
      split at h
      · exact ⟨by omega, hl, by injection h, hs v (by rw [← hv2]; exact List.getElem_mem hl)⟩
      · cases h

theorem two_of {vs : List Val} {a b : Int} (h : vs.map Val.k = [a, b]) : ∃ x y, vs = [x, y] ∧ x.k = a ∧ y.k = b := by
  match vs, h with
  | [x, y], h => simp at h; exact ⟨x, y, rfl, h.1, h.2⟩
theorem one_of {vs : List Val} {a : Int} (h : vs.map Val.k = [a]) : ∃ x, vs = [x] ∧ x.k = a := by
  match vs, h with
  | [x], h => simp at h; exact ⟨x, rfl, h⟩
theorem three_of {vs : List Val} {a b c : Int} (h : vs.map Val.k = [a, b, c]) : ∃ x y z, vs = [x, y, z] ∧ x.k = a ∧ y.k = b ∧ z.k = c := by
  match vs, h with
  | [x, y, z], h => simp at h; exact ⟨x, y, z, rfl, h.1, h.2.1, h.2.2⟩

theorem oper_sound {call : Int → List Val → Val} {time : Int} {row params vs : List Val} {op n t : Int} {s : ByteArray} (hs : ∀ v ∈ vs, soundV v) (h : operT op n (vs.map Val.k) = some t) :
    op ≠ 22 ∧ (if op = 21 then ifV vs else opV call time row params op n s vs).k = t ∧ soundV (if op = 21 then ifV vs else opV call time row params op n s vs) := by
  unfold operT at h
  split at h
  · cases h
  split at h
  · subst op; split at h <;> cases h
    simp [opV]; exact sound_bool _
  split at h
  · subst op; split at h <;> cases h
    simp [opV]; exact sound_num _
  split at h
  · subst op; split at h <;> cases h
    simp [opV]; exact sound_num _
  split at h
  · rename_i ho
    split at h <;> cases h
    have : op = 8 ∨ op = 9 ∨ op = 10 ∨ op = 11 ∨ op = 12 := by omega
    rcases this with rfl | rfl | rfl | rfl | rfl
    all_goals simp [opV, binV]; exact sound_num _
  split at h
  · rename_i ho
    have hb : t = 2 := by
      split at h
      · split at h <;> cases h
        rfl
      · cases h
    subst hb
    have : op = 13 ∨ op = 14 ∨ op = 15 ∨ op = 16 := by omega
    rcases this with rfl | rfl | rfl | rfl
    all_goals simp [opV, binV]; exact sound_bool _
  split at h
  · rename_i ho
    split at h <;> cases h
    have : op = 17 ∨ op = 18 := by omega
    rcases this with rfl | rfl
    all_goals simp [opV, binV]; exact sound_bool _
  split at h
  · subst op; split at h <;> cases h
    simp [opV, binV]; exact sound_text (joinS_size _ _)
  split at h
  · subst op
    split at h
    · rename_i a b c hk
      split at h
      · rename_i hab
        cases h
        obtain ⟨x, y, z, rfl, hx, hy, hz⟩ := three_of hk
        refine ⟨by decide, ?_⟩
        rw [if_pos rfl]
        unfold ifV
        simp only [List.getD_cons_zero, List.getD_cons_succ]
        split
        · exact ⟨by rw [hy]; exact hab.2, hs y (by simp)⟩
        · exact ⟨hz, hs z (by simp)⟩
      · cases h
    · cases h
  · cases h

theorem leaf_sound {call : Int → List Val → Val} {time : Int} {row params : List Val} {c p : List Int} {op n t : Int} {s : ByteArray} (hc : row.map Val.k = c) (hp : params.map Val.k = p) (hr : ∀ v ∈ row, soundV v) (hq : ∀ v ∈ params, soundV v) (h : leafT c p op n s = some t) :
    op ≠ 21 ∧ op ≠ 22 ∧ (opV call time row params op n s []).k = t ∧ soundV (opV call time row params op n s []) := by
  unfold leafT at h
  split at h
  · subst op; cases h
    simp [opV]; exact sound_num _
  split at h
  · subst op; split at h <;> cases h
    simp [opV]; exact sound_bool _
  split at h
  · subst op
    have := pick_sound hc hr h
    simp only [opV]; exact ⟨by decide, by decide, this.2.2⟩
  split at h
  · subst op
    have := pick_sound hp hq h
    simp only [opV]; exact ⟨by decide, by decide, this.2.2⟩
  split at h
  · subst op
    split at h
    · rename_i hh
      cases h
      simp [opV]; exact sound_text (by omega)
    · cases h
  split at h
  · subst op; split at h <;> cases h
    simp [opV]; exact sound_num _
  · cases h

theorem evs_kinds {F : List Fn} {call : Int → List Val → Val} {time : Int} {row params : List Val} {c p : List Int} : ∀ (l : List Ex) {ts : List Int}, tys F c p l = some ts →
    (∀ e ∈ l, ∀ t, ty F c p e = some t → (ev call time row params e).k = t ∧ soundV (ev call time row params e)) →
    (evs call time row params l).map Val.k = ts ∧ ∀ v ∈ evs call time row params l, soundV v
  | [], ts, hc, _ => by rw [tys] at hc; cases hc; rw [evs]; simp
  | x :: l, ts, hc, ih => by
    rw [tys] at hc
    cases hx : ty F c p x with
    | none => rw [hx] at hc; cases hc
    | some t =>
      rw [hx] at hc
      cases hl : tys F c p l with
      | none => rw [hl] at hc; cases hc
      | some us =>
        rw [hl] at hc
        cases hc
        have h1 := ih x (by simp) t hx
        have h2 := evs_kinds l hl (fun e he => ih e (by simp [he]))
        rw [evs]
        refine ⟨by rw [List.map_cons, h1.1, h2.1], ?_⟩
        intro v hv
        rcases List.mem_cons.1 hv with rfl | hv
        · exact h1.2
        · exact h2.2 v hv

theorem ev_sound {F : List Fn} (time : Int) (hF : ∀ i, i < F.length → okF F i = true) : ∀ (m : Nat) (e : Ex) {c p : List Int} {row params : List Val} {t : Int}, ty (F.take m) c p e = some t →
    row.map Val.k = c → params.map Val.k = p → (∀ v ∈ row, soundV v) → (∀ v ∈ params, soundV v) →
    (ev (callN F time m) time row params e).k = t ∧ soundV (ev (callN F time m) time row params e) := by
  intro m
  induction m with
  | zero =>
    intro e
    induction e using Ex.ind with
    | h op n s l ih =>
    intro c p row params t ht hc hp hr hq
    rw [ty] at ht
    cases hl : tys (F.take 0) c p l with
    | none => rw [hl] at ht; cases ht
    | some ts =>
      rw [hl] at ht
      dsimp only at ht
      have hk := evs_kinds (call := callN F time 0) (time := time) (row := row) (params := params) l hl (fun e he t h => ih e he h hc hp hr hq)
      rw [ev]
      unfold tailT at ht
      split at ht
      · cases ht
      split at ht
      · rw [List.take_zero] at ht
        unfold callT at ht
        split at ht
        · cases ht
        · simp at ht
      split at ht
      · rename_i hnil
        obtain ⟨hk1, hk2⟩ := hk
        have he : evs (callN F time 0) time row params l = [] := by rw [hnil] at hk1; simpa using hk1
        rw [he]
        obtain ⟨a, b, d⟩ := leaf_sound (call := callN F time 0) (time := time) hc hp hr hq ht
        rw [if_neg a]; exact d
      · obtain ⟨hk1, hk2⟩ := hk
        rw [← hk1] at ht
        exact (oper_sound hk2 ht).2
  | succ m ihm =>
    intro e
    induction e using Ex.ind with
    | h op n s l ih =>
    intro c p row params t ht hc hp hr hq
    rw [ty] at ht
    cases hl : tys (F.take (m + 1)) c p l with
    | none => rw [hl] at ht; cases ht
    | some ts =>
      rw [hl] at ht
      dsimp only at ht
      have hk := evs_kinds (call := callN F time (m + 1)) (time := time) (row := row) (params := params) l hl (fun e he t h => ih e he h hc hp hr hq)
      rw [ev]
      unfold tailT at ht
      split at ht
      · cases ht
      split at ht
      · rename_i ho
        subst ho
        obtain ⟨h0, hlt, f, hf, hpar, hres⟩ := callT_some ht
        have hfl : n.toNat < F.length := (List.getElem?_eq_some_iff.1 hf).1
        have hb := ty_mono (m := m) (by omega) f.body (okF_body (hF n.toNat hfl) hf)
        have := ihm f.body hb (row := []) (params := evs (callN F time (m + 1)) time row params l) rfl (by rw [hk.1, hpar]) (by simp) hk.2
        simp only [opV]
        rw [← hres]
        simp only [callN, hf]
        exact this
      split at ht
      · rename_i hnil
        obtain ⟨hk1, hk2⟩ := hk
        have he : evs (callN F time (m + 1)) time row params l = [] := by rw [hnil] at hk1; simpa using hk1
        rw [he]
        obtain ⟨a, b, d⟩ := leaf_sound (call := callN F time (m + 1)) (time := time) hc hp hr hq ht
        rw [if_neg a]; exact d
      · obtain ⟨hk1, hk2⟩ := hk
        rw [← hk1] at ht
        exact (oper_sound hk2 ht).2
end Go.Proofs.Ytmhelkhmgbbfhaa
