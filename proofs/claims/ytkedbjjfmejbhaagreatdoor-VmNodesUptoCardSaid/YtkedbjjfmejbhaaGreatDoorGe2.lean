/- What evaluating computes, on plain data; a typed expression's value is right. -/
import Derived.Test.YtkedbjjfmejbhaaGreatDoorGe1
set_option linter.unusedSimpArgs false
set_option linter.unusedVariables false
namespace Go.Proofs.YtkedbjjfmejbhaaGreatDoor
open Go.RowKit Go.Lib
def zeroV : Val := ⟨0, 0, ByteArray.empty⟩
def binV (op : Int) (a b : Val) : Val :=
 if op = 8 then numV (wrap64 (a.n + b.n))
 else if op = 9 then numV (wrap64 (a.n - b.n))
 else if op = 10 then numV (wrap64 (a.n * b.n))
 else if op = 11 then numV (divI a.n b.n)
 else if op = 12 then numV (modI a.n b.n)
 else if op = 13 then boolV (eqV a b)
 else if op = 14 then boolV (!eqV a b)
 else if op = 15 then boolV (decide (cmpV a b < 0))
 else if op = 16 then boolV (decide (cmpV a b <= 0))
 else if op = 17 then boolV (decide (a.n = 1) && decide (b.n = 1))
 else if op = 18 then boolV (decide (a.n = 1) || decide (b.n = 1))
 else textV (joinS a.s b.s)
def opV (call : Int -> List Val -> Val) (time : Int) (row params : List Val) (op n : Int) (s : ByteArray) (vs : List Val) : Val :=
 if op = 0 then numV n
 else if op = 1 then textV s
 else if op = 2 then boolV (decide (n = 1))
 else if op = 3 then row.getD n.toNat zeroV
 else if op = 4 then params.getD n.toNat zeroV
 else if op = 5 then numV time
 else if op = 6 then boolV (decide ((vs.getD 0 zeroV).n = 0))
 else if op = 7 then numV (wrap64 (-(vs.getD 0 zeroV).n))
 else if op = 20 then numV (vs.getD 0 zeroV).s.size
 else if op = 22 then call n vs
 else binV op (vs.getD 0 zeroV) (vs.getD 1 zeroV)
def ifV (vs : List Val) : Val := if (vs.getD 0 zeroV).n = 1 then vs.getD 1 zeroV else vs.getD 2 zeroV
mutual
def ev (call : Int -> List Val -> Val) (time : Int) (row params : List Val) : Ex -> Val
 | .mk op n s l => if op = 21 then ifV (evs call time row params l) else opV call time row params op n s (evs call time row params l)
def evs (call : Int -> List Val -> Val) (time : Int) (row params : List Val) : List Ex -> List Val
 | [] => []
 | e :: l => ev call time row params e :: evs call time row params l
end
def callN (F : List Fn) (time : Int) : Nat -> Int -> List Val -> Val
 | 0 => fun _ _ => zeroV
 | m + 1 => fun i vs => match F[i.toNat]? with
  | some f => ev (callN F time m) time [] vs f.body
  | none => zeroV
theorem qfk (call : Int -> List Val -> Val) (time : Int) (row params : List Val) : ∀ l : List Ex, evs call time row params l = l.map (ev call time row params)
 | [] => by rw [evs]; rfl
 | e :: l => by rw [evs, qfk call time row params l]; rfl
def qr (v : Val) : Prop := okV v = true /\ v.s.size <= 200
theorem qgw : ByteArray.empty.toList = [] := by
 rw [ByteArray.toList, ByteArray.toList.loop]; rfl
@[simp] theorem numV_k (n : Int) : (numV n).k = 0 := rfl
@[simp] theorem qtn1 (b : Bool) : (boolV b).k = 2 := rfl
@[simp] theorem qug1 (s : ByteArray) : (textV s).k = 1 := rfl
theorem qel (n : Int) : qr (numV n) := by
 refine ⟨?_, by simp [numV]⟩
 simp [numV, okV, qgw]
theorem qeb (b : Bool) : qr (boolV b) := by
 refine ⟨?_, by simp [boolV]⟩
 cases b <;> simp [boolV, okV, qgw]
theorem qhe {s : ByteArray} (h : s.size <= 200) : qr (textV s) := by
 refine ⟨?_, h⟩
 show okV ⟨1, 0, s⟩ = true
 have h2 : (s.size : Int) <= 200 := by omega
 unfold okV
 simp only [show ¬ ((1 : Int) = 0) by decide, if_false, if_true, h2, decide_true, Bool.and_self]
theorem qoi (a b : ByteArray) : (joinS a b).size <= 200 := by
 unfold joinS; rw [ByteArray.size_extract]; omega
theorem qzw {F : List Fn} {i m : Nat} (h : i <= m) {n r : Int} {ts : List Int} (hc : callT (F.take i) n ts = some r) : callT (F.take m) n ts = some r := by
 unfold callT at *
 split at hc
 .cases hc
 .rename_i hn
  rw [if_neg hn]
  cases hf : (F.take i)[n.toNat]? with
  | none => rw [hf] at hc; cases hc
  | some f =>
   rw [hf] at hc
   have : (F.take m)[n.toNat]? = some f := by
    rw [List.getElem?_take] at hf ⊢
    split at hf
    .rw [if_pos (by omega)]; exact hf
    .cases hf
   rw [this]; exact hc
theorem qbf1 {F : List Fn} {i m : Nat} (h : i <= m) {c p : List Int} {op n r : Int} {s : ByteArray} {ts : List Int} (hc : tailT (F.take i) c p op n s ts = some r) : tailT (F.take m) c p op n s ts = some r := by
 unfold tailT at *
 split at hc
 .cases hc
 .rename_i h1
  rw [if_neg h1]
  split at hc
  .rename_i h2; rw [if_pos h2]; exact qzw h hc
  .rename_i h2; rw [if_neg h2]; exact hc
mutual
theorem qrd {F : List Fn} {i m : Nat} (h : i <= m) {c p : List Int} : ∀ (e : Ex) {r : Int}, ty (F.take i) c p e = some r -> ty (F.take m) c p e = some r
 | .mk op n s l, r, hc => by
  rw [ty] at hc ⊢
  cases hl : tys (F.take i) c p l with
  | none => rw [hl] at hc; cases hc
  | some ts => rw [hl] at hc; rw [qzc h l hl]; exact qbf1 h hc
theorem qzc {F : List Fn} {i m : Nat} (h : i <= m) {c p : List Int} : ∀ (l : List Ex) {ts : List Int}, tys (F.take i) c p l = some ts -> tys (F.take m) c p l = some ts
 | [], ts, hc => by rw [tys] at hc ⊢; exact hc
 | e :: l, ts, hc => by
  rw [tys] at hc ⊢
  cases he : ty (F.take i) c p e with
  | none => rw [he] at hc; cases hc
  | some t =>
   rw [he] at hc; rw [qrd h e he]
   cases hl : tys (F.take i) c p l with
   | none => rw [hl] at hc; cases hc
   | some us => rw [hl] at hc; rw [qzc h l hl]; exact hc
end
theorem qgm {F : List Fn} {c p : List Int} : ∀ (l : List Ex) {ts : List Int}, tys F c p l = some ts -> ∀ e ∈ l, ∃ t, ty F c p e = some t
 | [], _, _, e, he => by cases he
 | x :: l, ts, hc, e, he => by
  rw [tys] at hc
  cases hx : ty F c p x with
  | none => rw [hx] at hc; cases hc
  | some t =>
   rw [hx] at hc
   cases hl : tys F c p l with
   | none => rw [hl] at hc; cases hc
   | some us =>
    rcases List.mem_cons.1 he with rfl | he
    .exact ⟨t, hx⟩
    .exact qgm l hl e he
theorem qev {F : List Fn} {m : Nat} {n r : Int} {ts : List Int} (hc : callT (F.take m) n ts = some r) : 0 <= n /\ n.toNat < m /\ ∃ f, F[n.toNat]? = some f /\ f.params = ts /\ f.res = r := by
 unfold callT at hc
 split at hc
 .cases hc
 .rename_i hn
  cases hf : (F.take m)[n.toNat]? with
  | none => rw [hf] at hc; cases hc
  | some f =>
   rw [hf] at hc
   rw [List.getElem?_take] at hf
   split at hf
   .rename_i hlt
    dsimp at hc
    split at hc
    .rename_i hp
     exact ⟨by omega, hlt, f, hf, hp, by injection hc⟩
    .cases hc
   .cases hf
theorem qhb {F : List Fn} {i : Nat} {f : Fn} (h : okF F i = true) (hf : F[i]? = some f) : ty (F.take i) [] f.params f.body = some f.res := by
 unfold okF at h
 rw [hf] at h
 simp only [Bool.and_eq_true, decide_eq_true_eq] at h
 have h2 := h.1.2
 unfold tyD at h2
 split at h2
 .cases h2
 .exact h2
theorem qjn {c : List Int} {row : List Val} {n t : Int} (hk : row.map Val.k = c) (hs : ∀ v ∈ row, qr v) (h : pickT c n = some t) : 0 <= n /\ n.toNat < row.length /\ (row.getD n.toNat zeroV).k = t /\ qr (row.getD n.toNat zeroV) := by
 subst hk
 unfold pickT at h
 split at h
 .cases h
 .rename_i hn
  rw [List.getElem?_map] at h
  cases hv : row[n.toNat]? with
  | none => rw [hv] at h; cases h
  | some v =>
   rw [hv] at h
   obtain ⟨hl, hv2⟩ := List.getElem?_eq_some_iff.1 hv
   have hg : row.getD n.toNat zeroV = v := by rw [List.getD_eq_getElem?_getD, hv]; rfl
   rw [hg]
   dsimp at h
   split at h
   .exact ⟨by omega, hl, by injection h, hs v (by rw [<- hv2]; exact List.getElem_mem hl)⟩
   .cases h
def qbu (c : List Int) (R : List Val) : Prop := ∃ R0 R1, R = R0 ++ R1 /\ R0.map Val.k = c /\ ∀ v ∈ R0, qr v
theorem qbu.of {R : List Val} (h : ∀ v ∈ R, qr v) : qbu (R.map Val.k) R := ⟨R, [], by simp, rfl, h⟩
theorem qbu.nil (R : List Val) : qbu [] R := ⟨[], R, rfl, rfl, by simp⟩
theorem qyk {c : List Int} {row : List Val} {n t : Int} (hf : qbu c row) (h : pickT c n = some t) : 0 <= n /\ n.toNat < row.length /\ (row.getD n.toNat zeroV).k = t /\ qr (row.getD n.toNat zeroV) := by
 obtain ⟨R0, R1, rfl, hk, hs⟩ := hf
 obtain ⟨h1, h2, h3, h4⟩ := qjn hk hs h
 have hg : (R0 ++ R1).getD n.toNat zeroV = R0.getD n.toNat zeroV := by rw [List.getD_eq_getElem?_getD, List.getElem?_append_left h2, List.getD_eq_getElem?_getD]
 rw [hg]
 exact ⟨h1, by simp; omega, h3, h4⟩
theorem qks1 {vs : List Val} {a b c : Int} (h : vs.map Val.k = [a, b, c]) : ∃ x y z, vs = [x, y, z] /\ x.k = a /\ y.k = b /\ z.k = c := by
 match vs, h with
 | [x, y, z], h => simp at h; exact ⟨x, y, z, rfl, h.1, h.2.1, h.2.2⟩
theorem qjl {call : Int -> List Val -> Val} {time : Int} {row params vs : List Val} {op n t : Int} {s : ByteArray} (hs : ∀ v ∈ vs, qr v) (h : operT op n (vs.map Val.k) = some t) :
  op ≠ 22 /\ (if op = 21 then ifV vs else opV call time row params op n s vs).k = t /\ qr (if op = 21 then ifV vs else opV call time row params op n s vs) := by
 unfold operT at h
 split at h
 .cases h
 split at h
 .subst op; split at h <;> cases h
  simp [opV]; exact qeb _
 split at h
 .subst op; split at h <;> cases h
  simp [opV]; exact qel _
 split at h
 .subst op; split at h <;> cases h
  simp [opV]; exact qel _
 split at h
 .rename_i ho
  split at h <;> cases h
  have : op = 8 \/ op = 9 \/ op = 10 \/ op = 11 \/ op = 12 := by omega
  rcases this with rfl | rfl | rfl | rfl | rfl
  all_goals simp [opV, binV]; exact qel _
 split at h
 .rename_i ho
  have hb : t = 2 := by
   split at h
   .split at h <;> cases h
    rfl
   .cases h
  subst hb
  have : op = 13 \/ op = 14 \/ op = 15 \/ op = 16 := by omega
  rcases this with rfl | rfl | rfl | rfl
  all_goals simp [opV, binV]; exact qeb _
 split at h
 .rename_i ho
  split at h <;> cases h
  have : op = 17 \/ op = 18 := by omega
  rcases this with rfl | rfl
  all_goals simp [opV, binV]; exact qeb _
 split at h
 .subst op; split at h <;> cases h
  simp [opV, binV]; exact qhe (qoi _ _)
 split at h
 .subst op
  split at h
  .rename_i a b c hk
   split at h
   .rename_i hab
    cases h
    obtain ⟨x, y, z, rfl, hx, hy, hz⟩ := qks1 hk
    refine ⟨by decide, ?_⟩
    rw [if_pos rfl]
    unfold ifV
    simp only [List.getD_cons_zero, List.getD_cons_succ]
    split
    .exact ⟨by rw [hy]; exact hab.2, hs y (by simp)⟩
    .exact ⟨hz, hs z (by simp)⟩
   .cases h
  .cases h
 .cases h
theorem qqm {call : Int -> List Val -> Val} {time : Int} {row params : List Val} {c p : List Int} {op n t : Int} {s : ByteArray} (hc : qbu c row) (hp : params.map Val.k = p) (hq : ∀ v ∈ params, qr v) (h : leafT c p op n s = some t) :
  op ≠ 21 /\ op ≠ 22 /\ (opV call time row params op n s []).k = t /\ qr (opV call time row params op n s []) := by
 unfold leafT at h
 split at h
 .subst op; cases h
  simp [opV]; exact qel _
 split at h
 .subst op; split at h <;> cases h
  simp [opV]; exact qeb _
 split at h
 .subst op
  have := qyk hc h
  simp only [opV]; exact ⟨by decide, by decide, this.2.2⟩
 split at h
 .subst op
  have := qjn hp hq h
  simp only [opV]; exact ⟨by decide, by decide, this.2.2⟩
 split at h
 .subst op
  split at h
  .rename_i hh
   cases h
   simp [opV]; exact qhe (by omega)
  .cases h
 split at h
 .subst op; split at h <;> cases h
  simp [opV]; exact qel _
 .cases h
theorem qga {F : List Fn} {call : Int -> List Val -> Val} {time : Int} {row params : List Val} {c p : List Int} : ∀ (l : List Ex) {ts : List Int}, tys F c p l = some ts ->
  (∀ e ∈ l, ∀ t, ty F c p e = some t -> (ev call time row params e).k = t /\ qr (ev call time row params e)) ->
  (evs call time row params l).map Val.k = ts /\ ∀ v ∈ evs call time row params l, qr v
 | [], ts, hc, _ => by rw [tys] at hc; cases hc; rw [evs]; simp
 | x :: l, ts, hc, ih => by
  rw [tys] at hc
  cases hx : ty F c p x with
  | none => rw [hx] at hc; cases hc
  | some t =>
   rw [hx] at hc
   cases hl : tys F c p l with
   | none => rw [hl] at hc; cases hc
   | some us =>
    rw [hl] at hc
    cases hc
    have h1 := ih x (by simp) t hx
    have h2 := qga l hl (fun e he => ih e (by simp [he]))
    rw [evs]
    refine ⟨by rw [List.map_cons, h1.1, h2.1], ?_⟩
    intro v hv
    rcases List.mem_cons.1 hv with rfl | hv
    .exact h1.2
    .exact h2.2 v hv
theorem qxi {F : List Fn} (time : Int) (hF : ∀ i, i < F.length -> okF F i = true) : ∀ (m : Nat) (e : Ex) {c p : List Int} {row params : List Val} {t : Int}, ty (F.take m) c p e = some t ->
  qbu c row -> params.map Val.k = p -> (∀ v ∈ params, qr v) ->
  (ev (callN F time m) time row params e).k = t /\ qr (ev (callN F time m) time row params e) := by
 intro m
 induction m with
 | zero =>
  intro e
  induction e using Ex.ind with
  | h op n s l ih =>
  intro c p row params t ht hc hp hq
  rw [ty] at ht
  cases hl : tys (F.take 0) c p l with
  | none => rw [hl] at ht; cases ht
  | some ts =>
   rw [hl] at ht
   dsimp only at ht
   have hk := qga (call := callN F time 0) (time := time) (row := row) (params := params) l hl (fun e he t h => ih e he h hc hp hq)
   rw [ev]
   unfold tailT at ht
   split at ht
   .cases ht
   split at ht
   .rw [List.take_zero] at ht
    unfold callT at ht
    split at ht
    .cases ht
    .simp at ht
   split at ht
   .rename_i hnil
    obtain ⟨hk1, hk2⟩ := hk
    have he : evs (callN F time 0) time row params l = [] := by rw [hnil] at hk1; simpa using hk1
    rw [he]
    obtain ⟨a, b, d⟩ := qqm (call := callN F time 0) (time := time) hc hp hq ht
    rw [if_neg a]; exact d
   .obtain ⟨hk1, hk2⟩ := hk
    rw [<- hk1] at ht
    exact (qjl hk2 ht).2
 | succ m ihm =>
  intro e
  induction e using Ex.ind with
  | h op n s l ih =>
  intro c p row params t ht hc hp hq
  rw [ty] at ht
  cases hl : tys (F.take (m + 1)) c p l with
  | none => rw [hl] at ht; cases ht
  | some ts =>
   rw [hl] at ht
   dsimp only at ht
   have hk := qga (call := callN F time (m + 1)) (time := time) (row := row) (params := params) l hl (fun e he t h => ih e he h hc hp hq)
   rw [ev]
   unfold tailT at ht
   split at ht
   .cases ht
   split at ht
   .rename_i ho
    subst ho
    obtain ⟨h0, hlt, f, hf, hpar, hres⟩ := qev ht
    have hfl : n.toNat < F.length := (List.getElem?_eq_some_iff.1 hf).1
    have hb := qrd (m := m) (by omega) f.body (qhb (hF n.toNat hfl) hf)
    have := ihm f.body hb (row := []) (params := evs (callN F time (m + 1)) time row params l) (qbu.nil []) (by rw [hk.1, hpar]) hk.2
    simp only [opV]
    rw [<- hres]
    simp only [callN, hf]
    exact this
   split at ht
   .rename_i hnil
    obtain ⟨hk1, hk2⟩ := hk
    have he : evs (callN F time (m + 1)) time row params l = [] := by rw [hnil] at hk1; simpa using hk1
    rw [he]
    obtain ⟨a, b, d⟩ := qqm (call := callN F time (m + 1)) (time := time) hc hp hq ht
    rw [if_neg a]; exact d
   .obtain ⟨hk1, hk2⟩ := hk
    rw [<- hk1] at ht
    exact (qjl hk2 ht).2
theorem qip1 {F : List Fn} (time : Int) (hF : ∀ i, i < F.length -> okF F i = true) : ∀ (m : Nat) (e : Ex) {c p : List Int} {row params : List Val} {t : Int}, ty (F.take m) c p e = some t ->
  row.map Val.k = c -> params.map Val.k = p -> (∀ v ∈ row, qr v) -> (∀ v ∈ params, qr v) ->
  (ev (callN F time m) time row params e).k = t /\ qr (ev (callN F time m) time row params e) :=
 fun m e _ _ row params _ ht hc hp hr hq => by
  subst hc
  exact qxi time hF m e ht (qbu.of hr) hp hq
def evalP (F : List Fn) (time : Int) (R : List Val) (e : Ex) : Val := ev (callN F time F.length) time R [] e
theorem qtc {bs : List (Option Ex)} {e x : Ex} (hx : inlE bs e = some x) : ∀ (l : List Ex) {ys : List Ex}, inlL bs l = some ys -> inlL bs (l ++ [e]) = some (ys ++ [x])
 | [], ys, h => by rw [inlL] at h; cases h; simp only [List.nil_append, inlL, hx]
 | a :: l, ys, h => by
  rw [inlL] at h
  cases he : inlE bs a with
  | none => rw [he] at h; cases h
  | some z =>
   rw [he] at h
   cases hl : inlL bs l with
   | none => rw [hl] at h; cases h
   | some xs =>
    rw [hl] at h; cases h
    rw [List.cons_append, inlL, he, qtc hx l hl]; rfl
theorem qtb {bs : List (Option Ex)} : ∀ (l : List Ex) {e : Ex}, e ∈ l -> inlE bs e = none -> inlL bs l = none
 | [], _, h, _ => by cases h
 | a :: l, e, h, hn => by
  rw [inlL]
  rcases List.mem_cons.1 h with rfl | h
  .rw [hn]
  .rw [qtb l h hn]
   cases inlE bs a <;> rfl
theorem qxo {bs : List (Option Ex)} : ∀ (l : List Ex) {ys : List Ex}, inlL bs l = some ys -> ∀ y ∈ ys, ∃ e ∈ l, inlE bs e = some y
 | [], ys, h, y, hy => by rw [inlL] at h; cases h; cases hy
 | e :: l, ys, h, y, hy => by
  rw [inlL] at h
  cases he : inlE bs e with
  | none => rw [he] at h; cases h
  | some x =>
   rw [he] at h
   cases hl : inlL bs l with
   | none => rw [hl] at h; cases h
   | some xs =>
    rw [hl] at h; cases h
    rcases List.mem_cons.1 hy with rfl | hy
    .exact ⟨e, by simp, he⟩
    .obtain ⟨e', h1, h2⟩ := qxo l hl y hy
     exact ⟨e', by simp [h1], h2⟩
theorem qgy {x y : Ex} (h : fitX x = some y) : x = y /\ parts y <= 1000 := by
 unfold fitX at h
 split at h
 .cases h
 .cases h; exact ⟨rfl, by omega⟩
theorem qgz {bs : List (Option Ex)} {e y : Ex} (h : inlE bs e = some y) : parts y <= 1000 := by
 obtain ⟨o, n, s, l⟩ := e
 rw [inlE] at h
 cases hl : inlL bs l with
 | none => rw [hl] at h; cases h
 | some ys =>
  rw [hl] at h
  dsimp only at h
  split at h
  .cases hb : bs.getD n.toNat none with
   | none => rw [hb] at h; cases h
   | some b => rw [hb] at h; exact (qgy h).2
  .exact (qgy h).2
theorem qke {K : Nat} : ∀ (l : List Ex), (∀ e ∈ l, parts e <= K) -> qm l <= l.length * K
 | [], _ => by simp [qm]
 | e :: l, h => by
  have h1 := h e (by simp)
  have h2 := qke l (fun x hx => h x (by simp [hx]))
  rw [qm, List.length_cons, Nat.succ_mul]; omega
mutual
theorem qoq {op : Int} {L : List Ex} {K : Nat} (hK : 1 <= K) (hL : ∀ y ∈ L, parts y <= K) : ∀ (e : Ex) {x : Ex}, putP op L e = some x -> parts x <= parts e * K
 | .mk o n s l, x, h => by
  rw [putP] at h
  split at h
  .split at h
   .cases h
   .have := hL x (List.mem_of_getElem? h)
    rw [parts, Nat.succ_mul]; omega
  .cases hl : putPs op L l with
   | none => rw [hl] at h; cases h
   | some ys =>
    rw [hl] at h; cases h
    have := qmn hK hL l hl
    rw [parts, parts, Nat.succ_mul]; omega
theorem qmn {op : Int} {L : List Ex} {K : Nat} (hK : 1 <= K) (hL : ∀ y ∈ L, parts y <= K) : ∀ (l : List Ex) {ys : List Ex}, putPs op L l = some ys -> qm ys <= qm l * K
 | [], ys, h => by rw [putPs] at h; cases h; simp [qm]
 | e :: l, ys, h => by
  rw [putPs] at h
  cases he : putP op L e with
  | none => rw [he] at h; cases h
  | some x =>
   rw [he] at h
   cases hl : putPs op L l with
   | none => rw [hl] at h; cases h
   | some xs =>
    rw [hl] at h; cases h
    have h1 := qoq hK hL e he
    have h2 := qmn hK hL l hl
    rw [qm, qm, Nat.add_mul]; omega
end
theorem qlv : ∀ (F : List Fn) (f : Fn) (bs : List (Option Ex)), inlB bs (F ++ [f]) = inlB bs F ++ [inlE (inlB bs F) f.body]
 | [], f, bs => rfl
 | g :: F, f, bs => by rw [List.cons_append, inlB, qlv F f, inlB]
theorem qkp : ∀ (F : List Fn) (bs : List (Option Ex)), (inlB bs F).length = bs.length + F.length
 | [], bs => rfl
 | g :: F, bs => by rw [inlB, qkp F]; simp; omega
theorem qap1 (F : List Fn) : ∀ b ∈ inlB [] F, parts (b.getD zeroE) <= 1000 := by
 have : ∀ (F : List Fn) (bs : List (Option Ex)), (∀ b ∈ bs, parts (b.getD zeroE) <= 1000) -> ∀ b ∈ inlB bs F, parts (b.getD zeroE) <= 1000 := fun F => by
  induction F with
  | nil => intro bs h; exact h
  | cons f F ih =>
   intro bs h
   rw [inlB]
   refine ih _ fun b hb => ?_
   rcases List.mem_append.1 hb with hb | hb
   .exact h b hb
   .simp at hb; subst hb
    cases hx : inlE bs f.body with
    | none => show parts zeroE <= 1000; simp [zeroE, parts, qm]
    | some y => exact qgz hx
 exact this F [] (by simp)
theorem qev1 {op n : Int} {ts : List Int} (h : op = 3 \/ op = 4) : operT op n ts = none := by
 unfold operT
 split
 .rfl
 .rw [if_neg (by omega), if_neg (by omega), if_neg (by omega), if_neg (by omega), if_neg (by omega), if_neg (by omega), if_neg (by omega), if_neg (by omega)]
theorem qfd {F : List Fn} {c p : List Int} {op n t : Int} {s : ByteArray} {ts : List Int} (h : op = 3 \/ op = 4) (ht : tailT F c p op n s ts = some t) : (if op = 3 then pickT c n else pickT p n) = some t := by
 unfold tailT at ht
 split at ht
 .cases ht
 .rw [if_neg (by omega)] at ht
  split at ht
  .unfold leafT at ht
   rw [if_neg (by omega), if_neg (by omega)] at ht
   by_cases h3 : op = 3
   .rw [if_pos h3] at ht ⊢; exact ht
   .rw [if_neg h3, if_pos (by omega)] at ht; rw [if_neg h3]; exact ht
  .rw [qev1 h] at ht; cases ht
theorem qfp {F : List Fn} {c p c2 p2 : List Int} {op n t : Int} {s : ByteArray} {ts : List Int} (h3 : op = 3 -> pickT c n = some t -> pickT c2 n = some t) (h4 : op = 4 -> pickT p n = some t -> pickT p2 n = some t) (ht : tailT F c p op n s ts = some t) : tailT F c2 p2 op n s ts = some t := by
 unfold tailT at ht ⊢
 split at ht
 .cases ht
 .rename_i h1
  rw [if_neg h1]
  split at ht
  .rename_i h2; rw [if_pos h2]; exact ht
  .rename_i h2
   rw [if_neg h2]
   split at ht
   .rename_i h5
    rw [if_pos h5]
    unfold leafT at ht ⊢
    by_cases e3 : op = 3
    .subst e3; exact h3 rfl ht
    .by_cases e4 : op = 4
     .subst e4; exact h4 rfl ht
     .simp only [if_neg e3, if_neg e4] at ht ⊢
      exact ht
   .rename_i h5; rw [if_neg h5]; exact ht
theorem qmo1 (call : Int -> List Val -> Val) (time : Int) (row params : List Val) {op : Int} (n : Int) (s : ByteArray) (l : List Ex) (h : op = 3 \/ op = 4) : ev call time row params (.mk op n s l) = if op = 3 then row.getD n.toNat zeroV else params.getD n.toNat zeroV := by
 rw [ev, if_neg (by omega), opV]
 rw [if_neg (by omega), if_neg (by omega), if_neg (by omega)]
 by_cases h3 : op = 3
 .rw [if_pos h3, if_pos h3]
 .rw [if_neg h3, if_neg h3, if_pos (by omega)]
theorem qeu1 {call : Int -> List Val -> Val} {time : Int} {row params row2 params2 : List Val} {op n : Int} {s : ByteArray} {vs : List Val} (h3 : op = 3 -> row2.getD n.toNat zeroV = row.getD n.toNat zeroV) (h4 : op = 4 -> params2.getD n.toNat zeroV = params.getD n.toNat zeroV) :
  opV call time row2 params2 op n s vs = opV call time row params op n s vs := by
 unfold opV
 by_cases e3 : op = 3
 .subst e3; rw [h3 rfl]; rfl
 .by_cases e4 : op = 4
  .subst e4; rw [h4 rfl]; rfl
  .simp only [if_neg e3, if_neg e4]
section
variable {F : List Fn} {call : Int -> List Val -> Val} {time : Int} {L : List Ex} {op : Int} {c1 p1 c2 p2 : List Int} {R1 P1 R2 P2 : List Val}
mutual
theorem qfh1 (hop : op = 3 \/ op = 4)
  (h3 : ∀ n t, pickT c1 n = some t -> if op = 3 then (∀ x, L[n.toNat]? = some x -> ty F c2 p2 x = some t /\ ev call time R2 P2 x = R1.getD n.toNat zeroV) else (pickT c2 n = some t /\ R2.getD n.toNat zeroV = R1.getD n.toNat zeroV))
  (h4 : ∀ n t, pickT p1 n = some t -> if op = 4 then (∀ x, L[n.toNat]? = some x -> ty F c2 p2 x = some t /\ ev call time R2 P2 x = P1.getD n.toNat zeroV) else (pickT p2 n = some t /\ P2.getD n.toNat zeroV = P1.getD n.toNat zeroV)) :
  ∀ (e : Ex) {x : Ex} {t : Int}, putP op L e = some x -> ty F c1 p1 e = some t -> ty F c2 p2 x = some t /\ ev call time R2 P2 x = ev call time R1 P1 e
 | .mk o n s l, x, t, hx, ht => by
  rw [ty] at ht
  cases hl : tys F c1 p1 l with
  | none => rw [hl] at ht; cases ht
  | some ts =>
   rw [hl] at ht
   dsimp only at ht
   rw [putP] at hx
   by_cases ho : o = op
   .rw [if_pos ho] at hx
    split at hx
    .cases hx
    .subst ho
     have hp := qfd hop ht
     rw [qmo1 call time R1 P1 n s l hop]
     by_cases e3 : o = 3
     .rw [if_pos e3] at hp ⊢
      have := h3 n t hp
      rw [if_pos e3] at this
      exact this x hx
     .rw [if_neg e3] at hp ⊢
      have := h4 n t hp
      rw [if_pos (by omega)] at this
      exact this x hx
   .rw [if_neg ho] at hx
    cases hl2 : putPs op L l with
    | none => rw [hl2] at hx; cases hx
    | some l' =>
     rw [hl2] at hx
     cases hx
     obtain ⟨i1, i2⟩ := qyn hop h3 h4 l hl2 hl
     have k3 : o = 3 -> pickT c1 n = some t -> pickT c2 n = some t /\ R2.getD n.toNat zeroV = R1.getD n.toNat zeroV := fun e3 hp => by
      have := h3 n t hp
      rw [if_neg (by omega)] at this
      exact this
     have k4 : o = 4 -> pickT p1 n = some t -> pickT p2 n = some t /\ P2.getD n.toNat zeroV = P1.getD n.toNat zeroV := fun e4 hp => by
      have := h4 n t hp
      rw [if_neg (by omega)] at this
      exact this
     refine ⟨?_, ?_⟩
     .rw [ty, i1]
      exact qfp (fun a b => (k3 a b).1) (fun a b => (k4 a b).1) ht
     .rw [ev, ev, i2]
      split
      .rfl
      .refine qeu1 (fun e3 => ?_) (fun e4 => ?_)
       .have := qfd (.inl e3) ht
        rw [if_pos e3] at this
        exact (k3 e3 this).2
       .have := qfd (.inr e4) ht
        rw [if_neg (by omega)] at this
        exact (k4 e4 this).2
theorem qyn (hop : op = 3 \/ op = 4)
  (h3 : ∀ n t, pickT c1 n = some t -> if op = 3 then (∀ x, L[n.toNat]? = some x -> ty F c2 p2 x = some t /\ ev call time R2 P2 x = R1.getD n.toNat zeroV) else (pickT c2 n = some t /\ R2.getD n.toNat zeroV = R1.getD n.toNat zeroV))
  (h4 : ∀ n t, pickT p1 n = some t -> if op = 4 then (∀ x, L[n.toNat]? = some x -> ty F c2 p2 x = some t /\ ev call time R2 P2 x = P1.getD n.toNat zeroV) else (pickT p2 n = some t /\ P2.getD n.toNat zeroV = P1.getD n.toNat zeroV)) :
  ∀ (l : List Ex) {xs : List Ex} {ts : List Int}, putPs op L l = some xs -> tys F c1 p1 l = some ts -> tys F c2 p2 xs = some ts /\ evs call time R2 P2 xs = evs call time R1 P1 l
 | [], xs, ts, hx, ht => by
  rw [putPs] at hx; cases hx
  rw [tys] at ht; cases ht
  rw [tys, evs, evs]; exact ⟨rfl, rfl⟩
 | e :: l, xs, ts, hx, ht => by
  rw [tys] at ht
  cases he : ty F c1 p1 e with
  | none => rw [he] at ht; cases ht
  | some t =>
   rw [he] at ht
   cases hl : tys F c1 p1 l with
   | none => rw [hl] at ht; cases ht
   | some us =>
    rw [hl] at ht; cases ht
    rw [putPs] at hx
    cases hx1 : putP op L e with
    | none => rw [hx1] at hx; cases hx
    | some x =>
     rw [hx1] at hx
     cases hx2 : putPs op L l with
     | none => rw [hx2] at hx; cases hx
     | some l' =>
      rw [hx2] at hx; cases hx
      obtain ⟨i1, i2⟩ := qfh1 hop h3 h4 e hx1 he
      obtain ⟨j1, j2⟩ := qyn hop h3 h4 l hx2 hl
      rw [tys, i1, j1, evs, evs, i2, j2]
      exact ⟨rfl, rfl⟩
end
end
theorem qdl {F : List Fn} {c p : List Int} : ∀ (l : List Ex) {ts : List Int}, tys F c p l = some ts -> ts.length = l.length
 | [], ts, h => by rw [tys] at h; cases h; rfl
 | e :: l, ts, h => by
  rw [tys] at h
  split at h
  .split at h
   .rename_i us hl
    cases h
    rw [List.length_cons, List.length_cons, qdl l hl]
   .cases h
  .cases h
theorem qhe1 {F : List Fn} {c p : List Int} : ∀ (l : List Ex) {ts : List Int}, tys F c p l = some ts -> ∀ (i : Nat) (x : Ex), l[i]? = some x -> ∃ t, ts[i]? = some t /\ ty F c p x = some t
 | [], ts, _, i, x, hx => by simp at hx
 | e :: l, ts, h, i, x, hx => by
  rw [tys] at h
  split at h
  .rename_i t he
   split at h
   .rename_i us hl
    cases h
    cases i with
    | zero => simp at hx; subst hx; exact ⟨t, rfl, he⟩
    | succ i => simpa using qhe1 l hl i x (by simpa using hx)
   .cases h
  .cases h
theorem qml {l : List Int} {n t : Int} (h : pickT l n = some t) : 0 <= n /\ l[n.toNat]? = some t := by
 unfold pickT at h
 split at h
 .cases h
 .split at h
  .rename_i u hu
   split at h
   .cases h; exact ⟨by omega, hu⟩
   .cases h
  .cases h
mutual
theorem qts {F : List Fn} {c p : List Int} {L : List Ex} (hL : L.length = p.length) : ∀ (e : Ex) {t : Int}, ty F c p e = some t -> ∃ x, putP 4 L e = some x
 | .mk o n s l, t, ht => by
  rw [ty] at ht
  cases hl : tys F c p l with
  | none => rw [hl] at ht; cases ht
  | some ts =>
   rw [hl] at ht
   dsimp only at ht
   rw [putP]
   by_cases ho : o = 4
   .have hp := qfd (.inr ho) ht
    rw [if_neg (by omega)] at hp
    obtain ⟨h0, h1⟩ := qml hp
    rw [if_pos ho, if_neg (by omega)]
    have : n.toNat < L.length := by rw [hL]; exact (List.getElem?_eq_some_iff.1 h1).1
    exact ⟨L[n.toNat], List.getElem?_eq_getElem this⟩
   .rw [if_neg ho]
    obtain ⟨xs, hx⟩ := qou hL l hl
    rw [hx]; exact ⟨_, rfl⟩
theorem qou {F : List Fn} {c p : List Int} {L : List Ex} (hL : L.length = p.length) : ∀ (l : List Ex) {ts : List Int}, tys F c p l = some ts -> ∃ xs, putPs 4 L l = some xs
 | [], ts, _ => ⟨[], by rw [putPs]⟩
 | e :: l, ts, h => by
  rw [tys] at h
  split at h
  .rename_i t he
   split at h
   .rename_i us hl
    obtain ⟨x, hx⟩ := qts hL e he
    obtain ⟨xs, hxs⟩ := qou hL l hl
    rw [putPs, hx, hxs]; exact ⟨_, rfl⟩
   .cases h
  .cases h
end
theorem qyf {call call2 : Int -> List Val -> Val} {time : Int} {row params : List Val} {op n : Int} {s : ByteArray} {vs : List Val} (h : op = 22 -> call n vs = call2 n vs) : opV call time row params op n s vs = opV call2 time row params op n s vs := by
 unfold opV
 by_cases e : op = 22
 .subst e; rw [h rfl]
 .simp only [if_neg e]
theorem qcz1 {F : List Fn} {time : Int} (hOk : ∀ i, i < F.length -> okF F i = true) : ∀ (m : Nat) (e : Ex) {M : Nat} {c p : List Int} {R P : List Val} {t : Int}, m <= M -> ty (F.take m) c p e = some t -> ev (callN F time M) time R P e = ev (callN F time m) time R P e := by
 intro m
 induction m using Nat.strongRecOn with
 | ind m ihm =>
  have hcall : ∀ (M : Nat) (n : Int) (vs : List Val), m <= M -> 0 <= n -> n.toNat < m -> n.toNat < F.length -> callN F time M n vs = callN F time m n vs := fun M n vs hM h0 hlt hF => by
   obtain ⟨M, rfl⟩ : ∃ k, M = k + 1 := ⟨M - 1, by omega⟩
   obtain ⟨k, rfl⟩ : ∃ k, m = k + 1 := ⟨m - 1, by omega⟩
   have hf := List.getElem?_eq_getElem hF
   have hb := qhb (hOk n.toNat hF) hf
   simp only [callN, hf]
   rw [ihm n.toNat hlt _ (M := M) (by omega) hb, ihm n.toNat hlt _ (M := k) (by omega) hb]
  intro e
  induction e using Ex.ind with
  | h o n s l ih =>
   intro M c p R P t hM ht
   rw [ty] at ht
   cases hl : tys (F.take m) c p l with
   | none => rw [hl] at ht; cases ht
   | some ts =>
    rw [hl] at ht
    dsimp only at ht
    have hvs : evs (callN F time M) time R P l = evs (callN F time m) time R P l := by
     rw [qfk, qfk]
     refine List.map_congr_left fun x hx => ?_
     obtain ⟨u, hu⟩ := qgm l hl x hx
     exact ih x hx hM hu
    rw [ev, ev, hvs]
    split
    .rfl
    .refine qyf fun e22 => ?_
     subst e22
     unfold tailT at ht
     split at ht
     .cases ht
     .rw [if_pos rfl] at ht
      obtain ⟨h0, hlt, f, hf, -, -⟩ := qev ht
      exact hcall M n _ hM h0 hlt (List.getElem?_eq_some_iff.1 hf).1
def InlOk (F : List Fn) (time : Int) (M : Nat) (bs : List (Option Ex)) : Prop :=
 ∀ (i : Nat) (b : Ex), bs[i]? = some (some b) -> ∃ f : Fn, F[i]? = some f /\ ty [] [] f.params b = some f.res /\ ∀ (call : Int -> List Val -> Val) (P : List Val), P.map Val.k = f.params -> (∀ v ∈ P, qr v) -> ev call time [] P b = callN F time M (i : Int) P
mutual
theorem qwa {F : List Fn} {time : Int} {M m : Nat} {bs : List (Option Ex)} (hOk : ∀ i, i < F.length -> okF F i = true) (hbs : InlOk F time M bs) (hm : m = bs.length) (hM : m <= M) {c p : List Int} {R P : List Val} (hR : R.map Val.k = c) (hP : P.map Val.k = p) (sR : ∀ v ∈ R, qr v) (sP : ∀ v ∈ P, qr v) (call : Int -> List Val -> Val) :
  ∀ (e : Ex) {y : Ex} {t : Int}, ty (F.take m) c p e = some t -> inlE bs e = some y -> ty [] c p y = some t /\ ev call time R P y = ev (callN F time M) time R P e
 | .mk o n s l, y, t, ht, hy => by
  rw [ty] at ht
  cases hl : tys (F.take m) c p l with
  | none => rw [hl] at ht; cases ht
  | some ts =>
   rw [hl] at ht
   dsimp only at ht
   rw [inlE] at hy
   cases hl2 : inlL bs l with
   | none => rw [hl2] at hy; cases hy
   | some ys =>
    rw [hl2] at hy
    dsimp only at hy
    obtain ⟨i1, i2⟩ := qxq hOk hbs hm hM hR hP sR sP call l hl hl2
    by_cases ho : o = 22
    .subst ho
     unfold tailT at ht
     split at ht
     .cases ht
     .rw [if_pos rfl] at ht
      obtain ⟨h0, hlt, f, hf, hpar, hres⟩ := qev ht
      rw [if_pos ⟨rfl, h0, by omega⟩] at hy
      have hn : n.toNat < bs.length := by omega
      rw [List.getD_eq_getElem?_getD, List.getElem?_eq_getElem hn, Option.getD_some] at hy
      cases hb : bs[n.toNat] with
      | none => rw [hb] at hy; cases hy
      | some b =>
       rw [hb] at hy
       dsimp only at hy
       obtain ⟨f', hf', hty, hev⟩ := hbs n.toNat b (by rw [List.getElem?_eq_getElem hn, hb])
       rw [hf] at hf'; cases hf'
       obtain ⟨x, hx⟩ := qts (L := ys) (by rw [hpar, qdl ys i1]) b hty
       rw [hx, Option.getD_some] at hy
       obtain ⟨rfl, -⟩ := qgy hy
       have hk : (evs (callN F time M) time R P l).map Val.k = ts /\ ∀ v ∈ evs (callN F time M) time R P l, qr v := by
        refine qga (F := F.take m) (c := c) (p := p) l hl fun e he u hu => ?_
        exact qip1 time hOk M e (qrd hM e hu) hR hP sR sP
       obtain ⟨j1, j2⟩ := qfh1 (F := []) (call := call) (time := time) (c2 := c) (p2 := p) (R1 := []) (P1 := evs call time R P ys) (R2 := R) (P2 := P) (.inr rfl)
        (fun k u hp => by unfold pickT at hp; simp at hp)
        (fun k u hp => by
         rw [if_pos rfl]
         intro z hz
         obtain ⟨-, h5⟩ := qml hp
         obtain ⟨u', h6, h7⟩ := qhe1 ys i1 _ z hz
         rw [hpar, h6] at h5
         cases h5
         refine ⟨h7, ?_⟩
         rw [qfk]
         simp [List.getD_eq_getElem?_getD, hz]) b hx hty
       rw [j1, j2, hres]
       refine ⟨rfl, ?_⟩
       rw [i2, hev call _ (by rw [hk.1, hpar]) hk.2, ev, if_neg (by omega)]
       simp only [opV]
       rw [Int.toNat_of_nonneg h0]
       rfl
    .rw [if_neg (fun h => ho h.1)] at hy
     obtain ⟨rfl, -⟩ := qgy hy
     refine ⟨?_, ?_⟩
     .rw [ty, i1]
      dsimp only
      unfold tailT at ht ⊢
      split at ht
      .cases ht
      .rename_i h1
       rw [if_neg h1]
       first | (rw [if_neg ho] at ht ⊢; exact ht) | (rw [if_neg ho] at ht; exact ht) | (rw [if_neg ho]; exact ht) | exact ht
     .rw [ev, ev, i2]
      split
      .rfl
      .exact qyf fun h => absurd h ho
theorem qxq {F : List Fn} {time : Int} {M m : Nat} {bs : List (Option Ex)} (hOk : ∀ i, i < F.length -> okF F i = true) (hbs : InlOk F time M bs) (hm : m = bs.length) (hM : m <= M) {c p : List Int} {R P : List Val} (hR : R.map Val.k = c) (hP : P.map Val.k = p) (sR : ∀ v ∈ R, qr v) (sP : ∀ v ∈ P, qr v) (call : Int -> List Val -> Val) :
  ∀ (l : List Ex) {ys : List Ex} {ts : List Int}, tys (F.take m) c p l = some ts -> inlL bs l = some ys -> tys [] c p ys = some ts /\ evs call time R P ys = evs (callN F time M) time R P l
 | [], ys, ts, ht, hy => by
  rw [inlL] at hy; cases hy
  rw [tys] at ht; cases ht
  rw [tys, evs, evs]; exact ⟨rfl, rfl⟩
 | e :: l, ys, ts, ht, hy => by
  rw [tys] at ht
  cases he : ty (F.take m) c p e with
  | none => rw [he] at ht; cases ht
  | some t =>
   rw [he] at ht
   cases hl : tys (F.take m) c p l with
   | none => rw [hl] at ht; cases ht
   | some us =>
    rw [hl] at ht; cases ht
    rw [inlL] at hy
    cases hx1 : inlE bs e with
    | none => rw [hx1] at hy; cases hy
    | some x =>
     rw [hx1] at hy
     cases hx2 : inlL bs l with
     | none => rw [hx2] at hy; cases hy
     | some l' =>
      rw [hx2] at hy; cases hy
      obtain ⟨i1, i2⟩ := qwa hOk hbs hm hM hR hP sR sP call e he hx1
      obtain ⟨j1, j2⟩ := qxq hOk hbs hm hM hR hP sR sP call l hl hx2
      rw [tys, i1, j1, evs, evs, i2, j2]
      exact ⟨rfl, rfl⟩
end
def someV (k : Int) : Val := if k = 0 then numV 0 else if k = 1 then textV ByteArray.empty else boolV false
theorem qwm {k : Int} (h : kindB k = true) : (someV k).k = k := by
 unfold kindB at h
 unfold someV
 simp only [Bool.or_eq_true, decide_eq_true_eq, Bool.and_eq_true] at h
 by_cases h0 : k = 0
 .rw [if_pos h0, h0]; rfl
 .by_cases h1 : k = 1
  .rw [if_neg h0, if_pos h1, h1]; rfl
  .rw [if_neg h0, if_neg h1]; show (2 : Int) = k; omega
theorem qmv (k : Int) : qr (someV k) := by
 unfold someV
 split
 .exact qel 0
 .split
  .exact qhe (by decide)
  .exact qeb false
theorem qdt1 {F : List Fn} {time : Int} (hOk : ∀ i, i < F.length -> okF F i = true) : ∀ k, k <= F.length -> InlOk F time F.length (inlB [] (F.take k))
 | 0, _ => by
  intro i b h
  rw [List.take_zero, inlB] at h
  simp at h
 | k + 1, hk => by
  have hkF : k < F.length := hk
  have ih := qdt1 (time := time) hOk k (Nat.le_of_lt hkF)
  have hlen : (inlB [] (F.take k)).length = k := by rw [qkp]; simp; omega
  intro i b h
  rw [List.take_succ_eq_append_getElem hkF, qlv] at h
  generalize inlB [] (F.take k) = bs at ih hlen h
  by_cases hi : i < bs.length
  .rw [List.getElem?_append_left hi] at h
   exact ih i b h
  .have hik : i = k := by
    have := (List.getElem?_eq_some_iff.1 h).1
    simp at this
    omega
   subst hik
   rw [List.getElem?_append_right (by omega), hlen] at h
   simp at h
   have hf : F[i]? = some F[i] := List.getElem?_eq_getElem (by omega)
   have hb := qhb (hOk i (by omega)) hf
   have hpk : ∀ k ∈ F[i].params, kindB k = true := by
    have := hOk i (by omega)
    unfold okF at this
    rw [hf] at this
    simp only [Bool.and_eq_true, List.all_eq_true] at this
    exact this.1.1
   have main := fun (call : Int -> List Val -> Val) (P : List Val) (h1 : P.map Val.k = F[i].params) (h2 : ∀ v ∈ P, qr v) => qwa (time := time) (M := F.length) (m := i) (R := []) (P := P) hOk ih hlen.symm (by omega) rfl h1 (by simp) h2 call F[i].body hb h
   refine ⟨F[i], hf, ?_, fun call P h1 h2 => ?_⟩
   .refine (main (fun _ _ => zeroV) (F[i].params.map someV) ?_ ?_).1
    .rw [List.map_map]
     conv => rhs; rw [<- List.map_id F[i].params]
     exact List.map_congr_left fun k hk => qwm (hpk k hk)
    .intro v hv
     obtain ⟨k, -, rfl⟩ := List.mem_map.1 hv
     exact qmv k
   .rw [(main call P h1 h2).2]
    obtain ⟨j, hj⟩ : ∃ j, F.length = j + 1 := ⟨F.length - 1, by omega⟩
    rw [qcz1 hOk i F[i].body (by omega) hb, hj]
    simp only [callN, Int.toNat_natCast, hf]
    rw [qcz1 hOk i F[i].body (M := j) (by omega) hb]
theorem qog {F : List Fn} {time : Int} {R : List Val} {e y : Ex} {t : Int} (hOk : ∀ i, i < F.length -> okF F i = true) (hR : ∀ v ∈ R, qr v) (ht : ty F (R.map Val.k) [] e = some t) (hy : qbj F e = some y) :
  ty [] (R.map Val.k) [] y = some t /\ evalP [] time R y = evalP F time R e := by
 have hy' : inlE (inlB [] F) e = some y := by
  unfold qbj at hy
  split at hy
  .rename_i x hx
   split at hy
   .cases hy
   .cases hy; exact hx
  .cases hy
 have hok := qdt1 (time := time) hOk F.length (Nat.le_refl _)
 rw [List.take_length] at hok
 exact qwa (M := F.length) (m := F.length) (P := []) hOk hok (by rw [qkp]; simp) (Nat.le_refl _) rfl rfl hR (by simp) _ e (by rw [List.take_length]; exact ht) hy'
end Go.Proofs.YtkedbjjfmejbhaaGreatDoor
