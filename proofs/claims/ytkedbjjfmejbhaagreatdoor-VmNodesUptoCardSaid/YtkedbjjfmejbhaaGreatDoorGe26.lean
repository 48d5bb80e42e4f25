/- Walks of layer 26: constants, and folding. -/
import Derived.Test.YtkedbjjfmejbhaaGreatDoorGe1
import Derived.Test.YtkedbjjfmejbhaaGreatDoorGe2
import Derived.Test.YtkedbjjfmejbhaaGreatDoorGe3
import Derived.Test.YtkedbjjfmejbhaaGreatDoorGe5
import Derived.Test.YtkedbjjfmejbhaaGreatDoorGe12
import Derived.Test.YtkedbjjfmejbhaaGreatDoorGe14
import Derived.Test.YtkedbjjfmejbhaaGreatDoorGe15
import Derived.Test.YtkedbjjfmejbhaaGreatDoorGe19
import Derived.Test.YtkedbjjfmejbhaaGreatDoorGe23
import Derived.Test.YtkedbjjfmejbhaaGreatDoorGe24
import Derived.Test.YtkedbjjfmejbhaaGreatDoorGe25
set_option linter.unusedSimpArgs false
set_option linter.unusedVariables false
namespace Go.Proofs.YtkedbjjfmejbhaaGreatDoor
open Go.RowKit Go.Lib
@[simp] theorem Ex.av_keep (x : AV) (o : Nat) (e : Ex) : x.keep o e.av = e.av := by
 have h := e.av_pub
 rw [Ex.av_eq] at h ⊢
 exact qxt (by simp) h x o
set_option maxHeartbeats 4000000 in
theorem qgv (e : Ex) : Gives Tryz.prog 65 [e.av] (.bool (qbg e)) := by
 obtain ⟨o, n, s, l⟩ := e
 refine qg Tryz.func65 Tryz.ntmps65 fun σ n0 hcl hft => ?_
 repeat' (first | ((first | ((with_reducible refine qj (fun hg => ?_) (fun hg => ?_)) <;> (try simp only [hg]) <;> (try simp only [gS] at hg) <;> (try (first | simp only [eq_false hg, gI] | simp only [eq_true hg, gI]))) | refine Stp.m ?_) <;> (try simp (disch := first | omega | simp) [qc, -qe, -qi])) | refine qb fun K hK => ?_ | refine qa ?_ | (refine hK _ ?_; clear hK K))
 all_goals (unfold qbg; simp_all [Ex.op])
 all_goals (by_cases h2 : o = 2 <;> simp [h2])
set_option maxHeartbeats 4000000 in
theorem qzg (v : Val) : Gives Tryz.prog 66 [v.av] (.tup [(qca v).av, .bool (decide (v.k = 0 \/ v.k = 1 \/ v.k = 2))]) := by
 obtain ⟨k, n, s⟩ := v
 refine qg Tryz.func66 Tryz.ntmps66 fun σ n0 hcl hft => ?_
 repeat' (first | ((first | ((with_reducible refine qj (fun hg => ?_) (fun hg => ?_)) <;> (try simp only [hg]) <;> (try simp only [gS] at hg) <;> (try (first | simp only [eq_false hg, gI] | simp only [eq_true hg, gI]))) | refine Stp.m ?_) <;> (try simp (disch := first | omega | simp) [qc, -qe, -qi])) | refine qb fun K hK => ?_ | refine qa ?_ | refine qd ?_ | (refine hK _ ?_; clear hK K) | clear hK K)
 all_goals simp_all [qca, zeroE]
set_option maxHeartbeats 4000000 in
theorem qig1 (n : Int) (s : ByteArray) (a b c : Ex) (hp : parts b <= 1000000) : Gives Tryz.prog 67 [(Ex.mk 21 n s [a, b, c]).av] (qhq 21 n s [a, b, c]).av := by
 have c1 := qgv a
 have c2 := qsi1 b c hp
 obtain ⟨R, hR⟩ : ∃ R, R = qhq 21 n s [a, b, c] := ⟨_, rfl⟩
 rw [<- hR]
 unfold qhq at hR
 refine qg Tryz.func67 Tryz.ntmps67 fun σ n0 hcl hft => ?_
 repeat' (first | ((first | ((with_reducible refine qj (fun hg => ?_) (fun hg => ?_)) <;> (try simp only [hg]) <;> (try simp only [gS] at hg) <;> (try (first | simp only [eq_false hg, gI] | simp only [eq_true hg, gI]))) | refine Stp.m ?_ | refine qh ?_ | refine agH ?_) <;> (try simp (disch := first | omega | simp) [qc, -qe, -qi])) | refine qb fun K hK => ?_ | refine qa ?_ | refine qf ?_ | refine qd ?_ | (refine hK _ ?_; clear hK K) | clear hK K)
 all_goals (rw [hR]; simp_all)
set_option maxHeartbeats 4000000 in
theorem qnl1 (o n : Int) (s : ByteArray) (a b : Ex) : Gives Tryz.prog 68 [(Ex.mk o n s [a, b]).av] (qma o n s [a, b]).av := by
 have c1 := qgv a
 have c2 := qgv b
 obtain ⟨R, hR⟩ : ∃ R, R = qma o n s [a, b] := ⟨_, rfl⟩
 rw [<- hR]
 unfold qma at hR
 dsimp only at hR
 refine qg Tryz.func68 Tryz.ntmps68 fun σ n0 hcl hft => ?_
 repeat' (first | (refine Stp.m ?_ <;> try simp (disch := first | omega | simp) [qc, -qe, -qi]) | refine qb fun K hK => ?_ | refine qa ?_ | refine qd ?_ | (refine hK _ ?_; clear hK K))
 refine qk hcl (fun k : Nat => [(1, .ptr n0 0), (2, .ptr (n0 + 1) 0), (6, .sl [a.av, b.av]), (7, .int 2), (8, .int k)]) (fun _ => [.cells [.int o, .int n, .str s, .sl [a.av, b.av]] 44, .cells [.int 0, .int 0, .str ByteArray.empty, .v (.slice none 0 0)] 44])
  (fun k => k <= 2 /\ (0 < k -> qbg a = false) /\ (1 < k -> qbg b = false)) (fun k => 2 - k) 0 (by simp) (by simp) fun k ⟨hk, h1, h2⟩ => ?_
 match k, hk, h1, h2 with
 | 0, _, _, _ =>
  cases hca : qbg a with
  | true =>
   rw [hca] at c1
   repeat' (first | ((first | ((with_reducible refine qj (fun hg => ?_) (fun hg => ?_)) <;> (try simp only [hg]) <;> (try simp only [gS] at hg) <;> (try (first | simp only [eq_false hg, gI] | simp only [eq_true hg, gI]))) | refine Stp.m ?_ | refine qh ?_) <;> (try simp (disch := first | omega | simp) [qc, -qe, -qi])) | refine qb fun K hK => ?_ | refine qa ?_ | refine qd ?_ | (refine hK _ ?_; clear hK K) | clear hK K)
   all_goals (rw [hR]; by_cases q1 : a.n = 1 <;> by_cases q2 : o = 17 <;> first | (simp_all; done) | (rename_i hg; exact absurd (by rw [beq_eq_false_iff_ne.2 q1, beq_eq_false_iff_ne.2 q2]) hg))
  | false =>
   rw [hca] at c1
   repeat' (first | ((first | refine Stp.m ?_ | refine qh ?_) <;> (try simp (disch := first | omega | simp) [qc, -qe, -qi])) | refine qb fun K hK => ?_ | refine qa ?_ | refine qd ?_ | (refine hK _ ?_; clear hK K) | clear hK K)
   exact ⟨1, ⟨by omega, by omega⟩, by omega, rfl⟩
 | 1, _, h1, _ =>
  have hca := h1 (by omega)
  cases hcb : qbg b with
  | true =>
   rw [hcb] at c2
   repeat' (first | ((first | ((with_reducible refine qj (fun hg => ?_) (fun hg => ?_)) <;> (try simp only [hg]) <;> (try simp only [gS] at hg) <;> (try (first | simp only [eq_false hg, gI] | simp only [eq_true hg, gI]))) | refine Stp.m ?_ | refine qh ?_) <;> (try simp (disch := first | omega | simp) [qc, -qe, -qi])) | refine qb fun K hK => ?_ | refine qa ?_ | refine qd ?_ | (refine hK _ ?_; clear hK K) | clear hK K)
   all_goals (rw [hR]; by_cases q1 : b.n = 1 <;> by_cases q2 : o = 17 <;> first | (simp_all; done) | (rename_i hg; exact absurd (by rw [beq_eq_false_iff_ne.2 q1, beq_eq_false_iff_ne.2 q2]) hg))
  | false =>
   rw [hcb] at c2
   repeat' (first | ((first | refine Stp.m ?_ | refine qh ?_) <;> (try simp (disch := first | omega | simp) [qc, -qe, -qi])) | refine qb fun K hK => ?_ | refine qa ?_ | refine qd ?_ | (refine hK _ ?_; clear hK K) | clear hK K)
   exact ⟨2, ⟨by omega, fun _ => hca⟩, by omega, rfl⟩
 | 2, _, h1, h2 =>
  have hca := h1 (by omega)
  have hcb := h2 (by omega)
  repeat' (first | (refine Stp.m ?_ <;> try simp (disch := first | omega | simp) [qc, -qe, -qi]) | refine qb fun K hK => ?_ | refine qa ?_ | (refine hK _ ?_; clear hK K) | clear hK K)
  all_goals (rw [hR]; simp_all)
theorem qdh1 (e : Ex) : Gives Tryz.prog 64 [e.av] (.bool (!qbg e)) := by
 refine qg Tryz.func64 Tryz.ntmps64 fun σ n0 hcl hft => ?_
 repeat' (first | ((first | refine Stp.m ?_ | refine acall (qgv e) ?_) <;> (try simp (disch := first | omega | simp) [qc, -qe, -qi])) | refine qb fun K hK => ?_ | refine qa ?_ | (refine hK _ ?_; clear hK K))
theorem qqy1 (L : List Ex) (hL : L.length <= 1000000) : Gives Tryz.prog 109 [.sl (L.map Ex.av), .fn 64 []] (.int (idxP (fun e => !qbg e) L)) := by
 refine qg Tryz.func109 Tryz.ntmps109 fun σ n0 hcl hft => ?_
 repeat' (first | (refine Stp.m ?_ <;> try simp (disch := first | omega | simp) [qc, -qe, -qi]) | refine qb fun K hK => ?_ | refine qa ?_ | refine qd ?_ | (refine hK _ ?_; clear hK K))
 refine qk hcl (fun k : Nat => [(0, .sl (L.map Ex.av)), (1, .fn 64 []), (7, .int L.length), (8, .int k)]) (fun _ => [])
  (fun k => k <= L.length /\ ∀ j (h : j < L.length), j < k -> qbg L[j] = true) (fun k => L.length - k) 0 (by simp) (by simp) fun k ⟨hk, he⟩ => ?_
 by_cases hlt : k < L.length
 .cases hr : qbg L[k] with
  | true =>
   have c1 := qdh1 L[k]
   rw [hr] at c1
   repeat' (first | ((first | refine Stp.m ?_ | refine qh ?_) <;> (try simp (disch := first | omega | simp) [qc, -qe, -qi, hlt])) | refine qb fun K hK => ?_ | refine qa ?_ | refine qd ?_ | (refine hK _ ?_; clear hK K) | clear hK K)
   exact ⟨k + 1, ⟨by omega, qdr (C := fun v : Ex => qbg v = true) he fun _ => hr⟩, by omega, by simp⟩
  | false =>
   have c1 := qdh1 L[k]
   rw [hr] at c1
   repeat' (first | ((first | refine Stp.m ?_ | refine qh ?_) <;> (try simp (disch := first | omega | simp) [qc, -qe, -qi, hlt])) | refine qb fun K hK => ?_ | refine qa ?_ | refine qd ?_ | (refine hK _ ?_; clear hK K) | clear hK K)
   exact (qil (p := fun v => !qbg v) hlt (by simp [hr]) fun j h1 h2 => by simpa using he j h1 h2).symm
 .repeat' (first | (refine Stp.m ?_ <;> try simp (disch := first | omega | simp) [qc, -qe, -qi, hlt]) | refine qb fun K hK => ?_ | refine qa ?_ | (refine hK _ ?_; clear hK K) | clear hK K)
  exact (qge (p := fun v => !qbg v) (qfq (C := fun v : Ex => (!qbg v) = false) (fun j h1 h2 => by simpa using he j h1 h2) hlt)).symm
theorem qco1 (L : List Ex) (hL : L.length <= 1000000) : Gives Tryz.prog 63 [.sl (L.map Ex.av), .fn 64 []] (.bool (!L.all qbg)) := by
 have h : decide (0 <= idxP (fun e => !qbg e) L) = !L.all qbg := by rw [qik, List.not_all_eq_any_not]
 rw [<- h]
 refine qg Tryz.func63 Tryz.ntmps63 fun σ n0 hcl hft => ?_
 repeat' (first | ((first | refine Stp.m ?_ | refine acall (qqy1 L hL) ?_) <;> (try simp (disch := first | omega | simp) [qc, -qe, -qi])) | refine qb fun K hK => ?_ | refine qa ?_ | (refine hK _ ?_; clear hK K))
theorem qzz {F : List Fn} {c p : List Int} {x : Ex} {t : Int} (hc : qbg x = true) (h : ty F c p x = some t) : ty [] [] [] x = some t := by
 obtain ⟨v, h1, rfl, rfl⟩ := qgu hc h
 exact (qda h1 [] [] []).1
theorem qln {F : List Fn} {c p : List Int} : ∀ {l : List Ex} {ts : List Int}, (∀ x ∈ l, qbg x = true) -> tys F c p l = some ts -> tys [] [] [] l = some ts
 | [], ts, _, h => by rw [tys] at h ⊢; exact h
 | x :: l, ts, hc, h => by
  obtain ⟨t, us, rfl, g1, g2⟩ := qep h
  rw [tys, qzz (hc x (by simp)) g1, qln (fun y hy => hc y (by simp [hy])) g2]
theorem qcj1 {F : List Fn} {c p : List Int} {o n : Int} {s : ByteArray} {l : List Ex} {t : Int} (ho : o ≠ 22) (hne : l ≠ []) (hc : ∀ x ∈ l, qbg x = true) (h : ty F c p (.mk o n s l) = some t) : ty [] [] [] (.mk o n s l) = some t := by
 obtain ⟨ts, h1, h2⟩ := ty_mk h
 have hts : ts ≠ [] := fun e => hne (by have := qdl l h1; rw [e] at this; exact List.length_eq_zero_iff.1 this.symm)
 rw [ty, qln hc h1]
 dsimp only
 unfold tailT at h2 ⊢
 rw [if_neg ho, if_neg hts] at h2 ⊢
 exact h2
theorem ty_op {c : List Int} {o n : Int} {s : ByteArray} {l : List Ex} {t : Int} (h : ty [] c [] (.mk o n s l) = some t) : o ≠ 22 := fun e => by
 have h1 := (qyz h).1
 rw [e] at h1
 revert h1; decide
theorem qmj1 {m : Nat} {x : AV} (h : x.cl m) (n : Nat) : AV.cls m (List.replicate n x) := AV.cls_iff.2 fun y hy => by rw [List.eq_of_mem_replicate hy]; exact h
theorem qxm {F : List Fn} {c p : List Int} : ∀ {l : List Ex} {ts : List Int}, tys F c p l = some ts -> tys F c p (l.map foldE) = some ts
 | [], _, h => h
 | x :: l, _, h => by
  obtain ⟨t, us, rfl, g1, g2⟩ := qep h
  rw [List.map_cons, tys, (qvs x g1).1, qxm g2]
theorem qiw {F : List Fn} {c p : List Int} {o n : Int} {s : ByteArray} {l : List Ex} {t : Int} (ho : 6 <= o) (h : ty F c p (.mk o n s l) = some t) (h22 : o ≠ 22 := by first | exact ty_op h | omega) : ∃ ts, operT o n ts = some t /\ ts.length = l.length /\ tys F c p l = some ts := by
 have hl : l ≠ [] := fun e => by
  subst e
  obtain ⟨ts, h1, h2⟩ := ty_mk h
  obtain rfl : ts = [] := by rw [tys] at h1; exact (Option.some.inj h1).symm
  unfold tailT at h2
  split at h2
  .cases h2
  simp only [h22, if_false, if_true] at h2
  unfold leafT at h2
  rw [if_neg (by omega), if_neg (by omega), if_neg (by omega), if_neg (by omega)] at h2
  split at h2
  .omega
  .split at h2
   .omega
   .cases h2
 obtain ⟨ts, h1, h2, -⟩ := qhz h h22 hl
 exact ⟨ts, h2, qdl l h1, h1⟩
theorem qyg {n : Int} {ts : List Int} {t : Int} (h : operT 6 n ts = some t) : ts = [2] := by
 unfold operT at h
 split at h
 .cases h
 rw [if_pos rfl] at h
 split at h
 .assumption
 .cases h
theorem qfy1 {F : List Fn} {c p : List Int} {n : Int} {s : ByteArray} {l : List Ex} {t : Int} (h : ty F c p (.mk 6 n s l) = some t) : ∃ x, l = [x] /\ (x.op = 6 -> ∃ y, x.args = [y]) := by
 obtain ⟨ts, h1, h2, h3⟩ := qiw (by omega) h
 rw [qyg h1] at h2
 match l, h2 with
 | [x], _ =>
  refine ⟨x, rfl, fun hx => ?_⟩
  obtain ⟨u, us, rfl, g1, -⟩ := qep h3
  obtain ⟨o2, n2, s2, l2⟩ := x
  simp only [Ex.op] at hx
  subst hx
  obtain ⟨ts2, k1, k2, -⟩ := qiw (by omega) g1
  rw [qyg k1] at k2
  match l2, k2 with
  | [y], _ => exact ⟨y, rfl⟩
theorem qkj1 {F : List Fn} {c p : List Int} {n : Int} {s : ByteArray} {l : List Ex} {t : Int} (h : ty F c p (.mk 21 n s l) = some t) : ∃ a b d, l = [a, b, d] := by
 obtain ⟨ts, h1, h2, -⟩ := qiw (by omega) h
 unfold operT at h1
 split at h1
 .cases h1
 rw [if_neg (by omega), if_neg (by omega), if_neg (by omega), if_neg (by omega), if_neg (by omega), if_neg (by omega), if_neg (by omega), if_pos rfl] at h1
 split at h1
 .match l, h2 with
  | [a, b, d], _ => exact ⟨a, b, d, rfl⟩
 .cases h1
theorem qfz1 {F : List Fn} {c p : List Int} {o n : Int} {s : ByteArray} {l : List Ex} {t : Int} (ho : o = 17 \/ o = 18) (h : ty F c p (.mk o n s l) = some t) : ∃ a b, l = [a, b] := by
 obtain ⟨ts, h1, h2, -⟩ := qiw (by omega) h
 unfold operT at h1
 split at h1
 .cases h1
 rw [if_neg (by omega), if_neg (by omega), if_neg (by omega), if_neg (by omega), if_neg (by omega), if_pos (by omega)] at h1
 split at h1
 .rename_i hts
  rw [hts] at h2
  match l, h2 with
  | [a, b], _ => exact ⟨a, b, rfl⟩
 .cases h1
def zeroA : AV := .agg [.int 0, .int 0, .str ByteArray.empty, .v (.slice none 0 0)]
set_option maxHeartbeats 8000000 in
theorem qqh1 {F : List Fn} {c p : List Int} (e : Ex) : ∀ {t : Int}, ty F c p e = some t -> parts e <= 1000000 -> Gives Tryz.prog 35 [e.av] (foldE e).av := by
 induction e using Ex.ind with | h o n s l ih => ?_
 intro t ht hp
 have hl : l.length <= 1000000 := by rw [parts] at hp; have := qbq l; omega
 have hpl : ∀ x ∈ l, parts x <= 1000000 := fun x hx => by rw [parts] at hp; have := qbh l x hx; omega
 have htl : ∀ x ∈ l, ∃ u, ty F c p x = some u := by
  obtain ⟨ts, h1, -⟩ := ty_mk ht
  exact qgm l h1
 obtain ⟨ts, hts, htt⟩ := ty_mk ht
 have hsz : 48 * l.length <= 281474976710656 := by omega
 obtain ⟨R, hR⟩ : ∃ R, R = foldE (.mk o n s l) := ⟨_, rfl⟩
 rw [<- hR]
 rw [foldE, qgb] at hR
 refine qg Tryz.func35 Tryz.ntmps35 fun σ n0 hcl hft => ?_
 repeat' (first | (refine Stp.m ?_ <;> try simp (disch := first | omega | simp) [qc, -qe, -qi, hsz]) | refine sideA ?_ | refine qb fun K hK => ?_ | refine qa ?_ | refine qd ?_ | (refine hK _ ?_; clear hK K))
 refine qk hcl (fun k : Nat => [(1, .ptr n0 0), (2, .ptr (n0 + 1) 0), (3, .own (n0 + 2) l.length), (13, .sl (l.map Ex.av)), (14, .int l.length), (15, .int k)]) (fun k => [.cells [.int o, .int n, .str s, .sl (l.map Ex.av)] 44, .cells [.int 0, .int 0, .str ByteArray.empty, .v (.slice none 0 0)] 44, .vec (fillV (fun x => (foldE x).av) zeroA l k) 44 4])
  (fun k => k <= l.length) (fun k => l.length - k) 0 (by simp) (by simp [qnv, zeroA] <;> exact qmj1 (by simp) _) fun k hk => ?_
 by_cases hlt : k < l.length
 .obtain ⟨u, hu⟩ := htl l[k] (List.getElem_mem hlt)
  have c1 := ih l[k] (List.getElem_mem hlt) hu (hpl _ (List.getElem_mem hlt))
  have hfl : (fillV (fun x => (foldE x).av) zeroA l k).length = l.length := qsn (by omega)
  have hge : (fillV (fun x => (foldE x).av) zeroA l k)[k]'(by rw [hfl]; exact hlt) = .agg [.int 0, .int 0, .str ByteArray.empty, .v (.slice none 0 0)] := by
   have := qsm (f := fun x => (foldE x).av) (z := zeroA) hlt
   rw [List.getElem?_eq_getElem (by rw [hfl]; exact hlt)] at this
   injection this with this
  have hst := qso (f := fun x => (foldE x).av) (z := zeroA) hlt
  repeat' (first | ((first | refine Stp.m ?_ | refine qh ?_) <;> (try simp (disch := first | omega | simp) [qc, -qe, -qi, hlt, hfl, hge])) | refine qb fun K hK => ?_ | refine qa ?_ | refine qd ?_ | (refine hK _ ?_; clear hK K) | clear hK K)
  exact ⟨k + 1, by omega, by omega, hst, qsl (fun x => (foldE x).av_cl _) (by simp [zeroA]) , by omega⟩
 .obtain rfl : k = l.length := by omega
  rw [qsk]
  refine qdg 3 2 (k := l.length) (by simp) (by rfl) (by simp) ?_
  refine qie1 3 (r := n0 + 3) (l := l.map fun x => (foldE x).av) (by simp) ?_
  obtain ⟨l', hl'⟩ : ∃ l', l' = l.map foldE := ⟨_, rfl⟩
  have hm : (l.map fun x => (foldE x).av) = l'.map Ex.av := by rw [hl', List.map_map]; rfl
  have hlen : l'.length = l.length := by rw [hl', List.length_map]
  have ht' : ty F c p (.mk o n s l') = some t := by rw [hl', ty, qxm hts]; exact htt
  have hp' : parts (Ex.mk o n s l') <= 1000000 := by
   rw [parts] at hp ⊢
   have := qjm (f := foldE) l fun x _ => qoa x
   rw [hl']; omega
  rw [hm]
  rw [<- hl'] at hR
  clear hl' hm
  unfold topF at hR
  by_cases hnil : l = []
  .subst hnil
   obtain rfl := List.eq_nil_of_length_eq_zero hlen
   rw [if_pos rfl] at hR
   repeat' (first | (refine Stp.m ?_ <;> try simp (disch := first | omega | simp) [qc, -qe, -qi]) | refine qb fun K hK => ?_ | refine qa ?_ | (refine hK _ ?_; clear hK K) | clear hK K)
   all_goals (rw [hR]; simp)
  have hne : l' ≠ [] := fun e => hnil (List.eq_nil_of_length_eq_zero (by rw [<- hlen, e]; rfl))
  have hn0 : ¬ (l'.length : Int) = 0 := fun e => hne (List.eq_nil_of_length_eq_zero (by omega))
  have hn1 : ((l'.length : Int) == 0) = false := beq_eq_false_iff_ne.2 hn0
  rw [if_neg hne] at hR
  by_cases ho : o = 22
  .subst ho
   rw [if_neg fun h => h.1 rfl, if_neg (by decide), if_neg (by decide), if_neg (by decide)] at hR
   repeat' (first | (refine Stp.m ?_ <;> try simp (disch := first | omega | simp) [qc, -qe, -qi, hne, hn0, hn1]) | refine qb fun K hK => ?_ | refine qa ?_ | refine qd ?_ | (refine hK _ ?_; clear hK K) | clear hK K)
   all_goals first | exact absurd (by assumption) hn0 | (exfalso; omega) | (rw [hR]; simp; done) | (rw [hR]; done) | (rw [hR]; exact rfl) | rfl
  have ho22 : (o == 22) = false := beq_eq_false_iff_ne.2 ho
  have ho23 : (o != 22) = true := by rw [bne, ho22]; rfl
  by_cases hall : l'.all qbg = true
  .rw [if_pos ⟨ho, hall⟩] at hR
   have c1 := qco1 l' (by omega)
   have c2 := qnu [] 0 [] (.mk o n s l') t (by simp) (by simp) hp' (qcj1 ho hne (fun x hx => List.all_eq_true.1 hall x hx) ht') (qbu.nil [])
   have c3 := qzg (evalP [] 0 [] (.mk o n s l'))
   rw [hall] at c1
   rw [<- hR] at c3
   simp only [Ex.av_mk, List.map_nil] at c2
   repeat' (first | ((first | refine Stp.m ?_ | refine qh ?_) <;> (try simp (disch := first | omega | simp) [qc, -qe, -qi, ho22, ho23, hne, hn0, hn1])) | refine qb fun K hK => ?_ | refine qa ?_ | (refine hK _ ?_; clear hK K) | clear hK K)
   all_goals first | exact absurd (by assumption) hn0 | (exfalso; omega) | (rw [hR]; simp; done) | (rw [hR]; done) | (rw [hR]; exact rfl) | rfl
  .rw [if_neg fun h => hall h.2] at hR
   have c1 := qco1 l' (by omega)
   rw [Bool.eq_false_iff.2 hall] at c1
   by_cases h21 : o = 21
   .subst h21
    obtain ⟨a, b, d, rfl⟩ := qkj1 ht'
    have c2 := qig1 n s a b d (by rw [parts] at hp'; have := qbh [a, b, d] b (by simp); omega)
    rw [if_pos rfl] at hR
    rw [<- hR] at c2
    simp only [Ex.av_mk, List.map_cons, List.map_nil] at c2
    repeat' (first | ((first | refine Stp.m ?_ | refine qh ?_) <;> (try simp (disch := first | omega | simp) [qc, -qe, -qi, hne])) | refine qb fun K hK => ?_ | refine qa ?_ | refine qd ?_ | (refine hK _ ?_; clear hK K) | clear hK K)
    all_goals first | exact absurd (by assumption) hn0 | (exfalso; omega) | (rw [hR]; simp; done) | (rw [hR]; done) | (rw [hR]; exact rfl) | rfl
   .rw [if_neg h21] at hR
    by_cases h17 : o = 17 \/ o = 18
    .obtain ⟨a, b, rfl⟩ := qfz1 h17 ht'
     have c2 := qnl1 o n s a b
     have h211 : (o == 21) = false := beq_eq_false_iff_ne.2 h21
     rw [if_pos h17] at hR
     rw [<- hR] at c2
     simp only [Ex.av_mk, List.map_cons, List.map_nil] at c2
     repeat' (first | ((first | ((with_reducible refine qj (fun hg => ?_) (fun hg => ?_)) <;> (try simp only [hg]) <;> (try simp only [gS] at hg) <;> (try (first | simp only [eq_false hg, gI] | simp only [eq_true hg, gI]))) | refine Stp.m ?_ | refine qh ?_) <;> (try simp (disch := first | omega | simp) [qc, -qe, -qi, ho22, ho23, hne, hn0, hn1, h211])) | refine sideA ?_ | refine qb fun K hK => ?_ | refine qa ?_ | refine qd ?_ | (refine hK _ ?_; clear hK K) | clear hK K)
     all_goals first | exact absurd (by assumption) hn0 | (exfalso; omega) | (rw [hR]; simp; done) | (rw [hR]; done) | (rw [hR]; exact rfl) | rfl
    .rw [if_neg h17] at hR
     have h171 : (o == 17) = false := beq_eq_false_iff_ne.2 fun e => h17 (.inl e)
     have h172 : (o == 18) = false := beq_eq_false_iff_ne.2 fun e => h17 (.inr e)
     have h211 : (o == 21) = false := beq_eq_false_iff_ne.2 h21
     by_cases h6 : o = 6
     .subst h6
      obtain ⟨x, rfl, hx⟩ := qfy1 ht'
      rw [if_pos rfl] at hR
      obtain ⟨o2, n2, s2, l2⟩ := x
      unfold notP at hR
      dsimp only at hR
      by_cases h26 : o2 = 6
      .subst h26
       obtain ⟨y, rfl⟩ := hx rfl
       rw [if_pos rfl] at hR
       simp only [Ex.av_mk, List.map_cons, List.map_nil] at c1
       repeat' (first | ((first | refine Stp.m ?_ | refine qh ?_) <;> (try simp (disch := first | omega | simp) [qc, -qe, -qi])) | refine qb fun K hK => ?_ | refine qa ?_ | refine qd ?_ | (refine hK _ ?_; clear hK K) | clear hK K)
       all_goals first | exact absurd (by assumption) hn0 | (exfalso; omega) | (rw [hR]; simp; done) | (rw [hR]; done) | (rw [hR]; exact rfl) | rfl
      .rw [if_neg h26] at hR
       have h27 : (o2 == 6) = false := beq_eq_false_iff_ne.2 h26
       simp only [Ex.av_mk, List.map_cons, List.map_nil] at c1
       repeat' (first | ((first | refine Stp.m ?_ | refine qh ?_) <;> (try simp (disch := first | omega | simp) [qc, -qe, -qi, h27])) | refine qb fun K hK => ?_ | refine qa ?_ | refine qd ?_ | (refine hK _ ?_; clear hK K) | clear hK K)
       all_goals first | exact absurd (by assumption) hn0 | (exfalso; omega) | (rw [hR]; simp; done) | (rw [hR]; done) | (rw [hR]; exact rfl) | rfl
     .rw [if_neg h6] at hR
      have h61 : (o == 6) = false := beq_eq_false_iff_ne.2 h6
      repeat' (first | ((first | refine Stp.m ?_ | refine qh ?_) <;> (try simp (disch := first | omega | simp) [qc, -qe, -qi, ho22, ho23, hne, hn0, hn1, h211, h171, h172, h61])) | refine qb fun K hK => ?_ | refine qa ?_ | refine qd ?_ | (refine hK _ ?_; clear hK K) | clear hK K)
      all_goals first | exact absurd (by assumption) hn0 | (exfalso; omega) | (rw [hR]; simp; done) | (rw [hR]; done) | (rw [hR]; exact rfl) | rfl
@[simp] def exr (o : Option Ex) : AV := .tup [(o.getD zeroE).av, .bool o.isSome]
@[simp] theorem qtm1 : zeroE.av = .agg [.int 0, .int 0, .str ByteArray.empty, .sl []] := by unfold zeroE; rw [Ex.av_mk]; rfl
set_option maxHeartbeats 4000000 in
theorem qjx1 (e : Ex) : parts e <= 1000000 -> Gives Tryz.prog 163 [e.av] e.av := by
 induction e using Ex.ind with | h o n s l ih => ?_
 intro hb
 have hl : l.length <= 1000000 := by rw [parts] at hb; have := qbq l; omega
 refine qg Tryz.func163 Tryz.ntmps163 fun σ n0 hcl hft => ?_
 repeat' (first | (refine Stp.m ?_ <;> try simp (disch := first | omega | simp) [qc, -qe, -qi]) | refine qb fun K hK => ?_ | refine qa ?_ | refine qd ?_ | (refine hK _ ?_; clear hK K))
 refine qco 2 3 44 4 (by rfl) (by rfl) ?_
 refine qk hcl (fun k : Nat => [(1, .ptr n0 0), (2, .ptr (n0 + 1) 0), (3, .ptr (n0 + 2) 0), (14, .sl (l.map Ex.av)), (15, .int l.length), (16, .int k)])
  (fun k => [.cells [.int o, .int n, .str s, .sl (l.map Ex.av)] 44, .cells [.int 0, .int 0, .str ByteArray.empty, .v (.slice none 0 0)] 44, .cells [.int o, .int n, .str s, .gs (n0 + 3) ((l.take k).map Ex.av)] 44, .tail k 44 4])
  (fun k => k <= l.length) (fun k => l.length - k) 0 (by simp) (by simp) fun k hk => ?_
 have hcls : ∀ m k, AV.cls m (List.take k (l.map Ex.av)) := fun m k => by rw [<- List.map_take]; exact AV.cls_map (fun e => e.av_cl m) _
 by_cases hlt : k < l.length
 .have hpk : parts l[k] <= 1000000 := by rw [parts] at hb; have := qbh l l[k] (List.getElem_mem hlt); omega
  have c1 := ih _ (List.getElem_mem hlt) hpk
  have hlk : min k l.length = k := by omega
  have bs : (k + 1) * 40 <= 140737488355328 := by omega
  repeat' (first | ((first | refine Stp.m ?_ | refine agH ?_) <;> (try simp (disch := first | omega | simp) [qc, -qe, -qi, hlt, hlk, bs, hcls])) | with_reducible refine qgp (id := 5) false (by kernel_rfl) (by kernel_rfl) ?_ | refine sideA ?_ | refine qb fun K hK => ?_ | refine qa ?_ | refine qd ?_ | (refine hK _ ?_; clear hK K) | clear hK K)
  exact ⟨k + 1, by omega, by omega, by simp [List.take_add_one, hlt, hcls]⟩
 .obtain rfl : k = l.length := by omega
  rw [List.take_length]
  repeat' (first | (refine Stp.m ?_ <;> try simp (disch := first | omega | simp) [qc, -qe, -qi, hlt]) | refine qb fun K hK => ?_ | refine qa ?_ | (refine hK _ ?_; clear hK K) | clear hK K)
set_option maxHeartbeats 4000000 in
theorem put_g (op : Int) (L : List Ex) (hL : ∀ x ∈ L, parts x <= 1000000) (e : Ex) : parts e <= 1000000 -> Gives Tryz.prog 106 [e.av, .int op, .sl (L.map Ex.av)] (exr (putP op L e)) := by
 induction e using Ex.ind with | h o n s l ih => ?_
 intro hb
 have hl : l.length <= 1000000 := by rw [parts] at hb; have := qbq l; omega
 obtain ⟨R, hR⟩ : ∃ R, R = putP op L (.mk o n s l) := ⟨_, rfl⟩
 rw [<- hR]
 rw [putP] at hR
 refine qg Tryz.func106 Tryz.ntmps106 fun σ n0 hcl hft => ?_
 by_cases ho : o = op
 .have hob : (o == op) = true := beq_iff_eq.2 ho
  rw [if_pos ho] at hR
  by_cases hn : n < 0
  .rw [if_pos hn] at hR
   repeat' (first | (refine Stp.m ?_ <;> try simp (disch := first | omega | simp) [qc, -qe, -qi, hob, hn]) | refine qb fun K hK => ?_ | refine qa ?_ | (refine hK _ ?_; clear hK K) | clear hK K)
   all_goals (rw [hR]; simp)
  .rw [if_neg hn] at hR
   by_cases hn2 : n.toNat < L.length
   .have c1 := qjx1 L[n.toNat] (hL _ (List.getElem_mem hn2))
    have hn3 : n < L.length := by omega
    have hn4 : ¬ (L.length : Int) <= n := by omega
    rw [List.getElem?_eq_getElem hn2] at hR
    repeat' (first | ((first | refine Stp.m ?_ | refine qh ?_) <;> (try simp (disch := first | omega | simp) [qc, -qe, -qi, hob, hn, hn2, hn3, hn4])) | refine sideA ?_ | refine qb fun K hK => ?_ | refine qa ?_ | (refine hK _ ?_; clear hK K) | clear hK K)
    all_goals (rw [hR]; simp)
   .have hn4 : (L.length : Int) <= n := by omega
    rw [List.getElem?_eq_none (by omega)] at hR
    repeat' (first | (refine Stp.m ?_ <;> try simp (disch := first | omega | simp) [qc, -qe, -qi, hob, hn, hn4]) | refine qb fun K hK => ?_ | refine qa ?_ | (refine hK _ ?_; clear hK K) | clear hK K)
    all_goals (rw [hR]; simp)
 .have hob : (o == op) = false := beq_eq_false_iff_ne.2 ho
  rw [if_neg ho] at hR
  repeat' (first | (refine Stp.m ?_ <;> try simp (disch := first | omega | simp) [qc, -qe, -qi, hob]) | refine qb fun K hK => ?_ | refine qa ?_ | refine qd ?_ | (refine hK _ ?_; clear hK K))
  refine qco 2 3 44 4 (by rfl) (by rfl) ?_
  refine qk hcl (fun ys : List Ex => [(1, .int op), (2, .sl (L.map Ex.av)), (3, .ptr n0 0), (6, .ptr (n0 + 1) 0), (7, .bool false), (8, .ptr (n0 + 2) 0), (42, .sl (l.map Ex.av)), (43, .int l.length), (44, .int ys.length)])
   (fun ys => [.cells [.int o, .int n, .str s, .sl (l.map Ex.av)] 44, .cells [.int 0, .int 0, .str ByteArray.empty, .v (.slice none 0 0)] 44, .cells [.int o, .int n, .str s, .gs (n0 + 3) (ys.map Ex.av)] 44, .tail ys.length 44 4])
   (fun ys => ys.length <= l.length /\ putPs op L (l.take ys.length) = some ys) (fun ys => l.length - ys.length) [] (by simp [putPs]) (by simp) fun ys ⟨hk, hys⟩ => ?_
  by_cases hlt : ys.length < l.length
  .have hpk : parts l[ys.length] <= 1000000 := by rw [parts] at hb; have := qbh l l[ys.length] (List.getElem_mem hlt); omega
   have c1 := ih _ (List.getElem_mem hlt) hpk
   have bs : (ys.length + 1) * 40 <= 140737488355328 := by omega
   cases hx : putP op L l[ys.length] with
   | none =>
    rw [hx] at c1
    rw [qor l (List.getElem_mem hlt) hx] at hR
    repeat' (first | ((first | refine Stp.m ?_ | refine qh ?_) <;> (try simp (disch := first | omega | simp) [qc, -qe, -qi, hlt, bs])) | refine qb fun K hK => ?_ | refine qa ?_ | refine qd ?_ | (refine hK _ ?_; clear hK K) | clear hK K)
    all_goals (rw [hR]; simp)
   | some x =>
    rw [hx] at c1
    have hst : putPs op L (l.take (ys.length + 1)) = some (ys ++ [x]) := by
     rw [List.take_succ_eq_append_getElem hlt]; exact qos hx _ hys
    repeat' (first | ((first | refine Stp.m ?_ | refine qh ?_) <;> (try simp (disch := first | omega | simp) [qc, -qe, -qi, hlt, bs])) | refine sideA ?_ | refine qb fun K hK => ?_ | refine qa ?_ | refine qd ?_ | (refine hK _ ?_; clear hK K) | clear hK K)
    exact ⟨ys ++ [x], ⟨by simp; omega, by simpa using hst⟩, by simp; omega, by simp⟩
  .have hyl : ys.length = l.length := by omega
   rw [hyl, List.take_length] at hys
   rw [hys] at hR
   repeat' (first | (refine Stp.m ?_ <;> try simp (disch := first | omega | simp) [qc, -qe, -qi, hlt]) | refine qb fun K hK => ?_ | refine qa ?_ | (refine hK _ ?_; clear hK K) | clear hK K)
   all_goals (rw [hR]; simp)
theorem qnf1 (e : Ex) (k : Int) (hk : 0 <= k /\ k <= 1000000000000) (r : Nat) (σ : Nat -> AB) (hσ : σ r = .cells [.int k] 3) : AC Tryz.prog 108 [e.av, .ptr r 0] σ fun y τ => y = .tup [] /\ τ = upd σ r (.cells [.int (k + 1)] 3) := by
 refine qcg Tryz.func108 Tryz.ntmps108 rfl rfl (by decide) rfl (by intro n; first | (simp; done) | exact hcl' n | (simp; exact hcl' n)) (by intro n; simp) ?_ fun n0 hrn hcl hft => ?_
 .rw [hσ]; simp
 have hl : ∀ L, loc σ n0 L r = .cells [.int k] 3 := fun L => by rw [qcf _ _ _ _ hrn, hσ]
 repeat (first | (refine qb fun K hK => ?_) | (refine qa ?_; simp (disch := first | omega | simp) [qc, hl, hrn]) | (refine hK _ ?_; clear hK; clear K) | (clear hK; clear K; refine hK _ ?_; clear hK; clear K) | (clear hK; clear K; clear hK; clear K; refine hK _ ?_; clear hK; clear K) | refine qd ?_ | (refine qt ?_; simp (disch := first | omega | simp) [qc, hl, hrn]) | (refine qba ?_; simp (disch := first | omega | simp)) | (refine qbb ?_; simp (disch := first | omega | simp)) | (refine qbl ?_; simp (disch := first | omega | simp)))
theorem qph (e : Ex) : ∀ (k : Int) (r : Nat) (σ : Nat -> AB), 0 <= k -> k + parts e <= 1000000000000 -> σ r = .cells [.int k] 3 -> AC Tryz.prog 107 [e.av, .fn 108 [.ptr r 0]] σ fun y τ => y = .tup [] /\ τ = upd σ r (.cells [.int (k + parts e)] 3) := by
 induction e using Ex.ind with | h o n s l ih => ?_
 intro k r σ h0 hk hσ
 refine qcg Tryz.func107 Tryz.ntmps107 rfl rfl (by decide) rfl (by intro n; first | (simp; done) | exact hcl' n | (simp; exact hcl' n)) (by intro n; simp) ?_ fun n0 hrn hcl hft => ?_
 .rw [hσ]; simp
 have hl : ∀ L, loc σ n0 L r = .cells [.int k] 3 := fun L => by rw [qcf _ _ _ _ hrn, hσ]
 have hp : parts (.mk o n s l) = qm l + 1 := by rw [parts]
 have hll := qbq l
 rw [hp] at hk ⊢
 have hc := qnf1 (.mk o n s l) k ⟨h0, by omega⟩ r _ (hl [.cells [.int o, .int n, .str s, .sl (l.map Ex.av)] 44])
 rw [Ex.av_mk] at hc
 repeat (first | (refine qb fun K hK => ?_) | (refine qa ?_; simp (disch := first | omega | simp) [qc]) | (refine hK _ ?_; clear hK; clear K) | (clear hK; clear K; refine hK _ ?_; clear hK; clear K) | (clear hK; clear K; clear hK; clear K; refine hK _ ?_; clear hK; clear K) | refine qd ?_ | (refine qt ?_; simp (disch := first | omega | simp) [qc]) | (refine qba ?_; simp (disch := first | omega | simp)) | (refine qbb ?_; simp (disch := first | omega | simp)) | (refine qbl ?_; simp (disch := first | omega | simp)))
 refine qdu r _ hc (by simp [hl]) ?_
 simp (disch := first | omega | simp) [qc]
 repeat (first | (refine qb fun K hK => ?_) | (refine qa ?_; simp (disch := first | omega | simp) [qc]) | (refine hK _ ?_; clear hK; clear K) | (clear hK; clear K; refine hK _ ?_; clear hK; clear K) | (clear hK; clear K; clear hK; clear K; refine hK _ ?_; clear hK; clear K) | refine qd ?_ | (refine qt ?_; simp (disch := first | omega | simp) [qc]) | (refine qba ?_; simp (disch := first | omega | simp)) | (refine qbb ?_; simp (disch := first | omega | simp)) | (refine qbl ?_; simp (disch := first | omega | simp)))
 refine qbx (fun j : Nat => upd σ r (.cells [.int (k + 1 + qm (l.take j))] 3)) (fun j => [(1, .fn 108 [.ptr r 0]), (2, .ptr n0 0), (10, .sl (l.map Ex.av)), (11, .int l.length), (12, .int j)]) (fun _ => [.cells [.int o, .int n, .str s, .sl (l.map Ex.av)] 44]) (fun j => j <= l.length) (fun j => l.length - j) 0 (fun j _ => qbz hcl (by simp)) (by simp) ⟨fun q _ => by simp [qm], by simp [hrn]; omega⟩ (qbz hcl (by simp)) fun j hj => ?_
 by_cases hlt : j < l.length
 .have htk := qhu l j hlt
  have htl := qcw l (j + 1)
  repeat (first | (refine qb fun K hK => ?_) | (refine qa ?_; simp (disch := first | omega | simp) [qc, hlt]) | (refine hK _ ?_; clear hK; clear K) | (clear hK; clear K; refine hK _ ?_; clear hK; clear K) | (clear hK; clear K; clear hK; clear K; refine hK _ ?_; clear hK; clear K) | refine qd ?_ | (refine qt ?_; simp (disch := first | omega | simp) [qc, hlt]) | (refine qba ?_; simp (disch := first | omega | simp)) | (refine qbb ?_; simp (disch := first | omega | simp)) | (refine qbl ?_; simp (disch := first | omega | simp)))
  have hst : ∀ L, loc (upd σ r (.cells [.int (k + 1 + qm (l.take j))] 3)) n0 L r = .cells [.int (k + 1 + qm (l.take j))] 3 := fun L => by rw [qcf _ _ _ _ hrn]; simp [upd]
  refine qdu r _ (ih l[j] (List.getElem_mem hlt) _ r _ (by omega) (by omega) (hst _)) (by simp [hst]) ?_
  simp (disch := first | omega | simp) [qc, hrn]
  repeat (first | (refine qb fun K hK => ?_) | (refine qa ?_; simp (disch := first | omega | simp) [qc]) | (refine hK _ ?_; clear hK; clear K) | (clear hK; clear K; refine hK _ ?_; clear hK; clear K) | (clear hK; clear K; clear hK; clear K; refine hK _ ?_; clear hK; clear K) | refine qd ?_ | (refine qt ?_; simp (disch := first | omega | simp) [qc]) | (refine qba ?_; simp (disch := first | omega | simp)) | (refine qbb ?_; simp (disch := first | omega | simp)) | (refine qbl ?_; simp (disch := first | omega | simp)))
  refine ⟨qbz hcl (by simp), j + 1, by omega, by omega, ⟨fun q _ => ?_, by simp; omega⟩⟩
  rw [htk, show k + 1 + (qm (l.take j) : Int) + parts l[j] = k + 1 + ((qm (l.take j) + parts l[j] : Nat) : Int) by omega]
 .have hjl : j = l.length := by omega
  subst hjl
  rw [List.take_length]
  repeat (first | (refine qb fun K hK => ?_) | (refine qa ?_; simp (disch := first | omega | simp) [qc]) | (refine hK _ ?_; clear hK; clear K) | (clear hK; clear K; refine hK _ ?_; clear hK; clear K) | (clear hK; clear K; clear hK; clear K; refine hK _ ?_; clear hK; clear K) | refine qd ?_ | (refine qt ?_; simp (disch := first | omega | simp) [qc]) | (refine qba ?_; simp (disch := first | omega | simp)) | (refine qbb ?_; simp (disch := first | omega | simp)) | (refine qbl ?_; simp (disch := first | omega | simp)))
  rw [show k + 1 + (qm l : Int) = k + ((qm l : Int) + 1) by omega]
@[simp] def bodyA (o : Option Ex) : AV := .agg [.int (o.getD zeroE).op, .int (o.getD zeroE).n, .str (o.getD zeroE).s, .sl ((o.getD zeroE).args.map Ex.av), .bool o.isSome]
@[simp] theorem qpq1 (l : List (Option Ex)) (m : Nat) : AV.cls m (l.map bodyA) := AV.cls_map (fun f => by simp [-Ex.av_fold]) l
@[simp] theorem qpr1 (l : List (Option Ex)) : AV.wid (l.map bodyA) 5 := AV.wid_map (f := bodyA) (fun a => rfl) l
@[simp] theorem qmi1 (l : List (Option Ex)) : AV.elms (l.map bodyA) := AV.elms_map (f := bodyA) (fun a => rfl) l
set_option maxHeartbeats 1000000 in
theorem qjg1 (bs : List (Option Ex)) (hbs : ∀ b ∈ bs, parts (b.getD zeroE) <= 1000) (e : Ex) : parts e <= 1000 -> wfS bs.length e = true ->
  Gives Tryz.prog 61 [e.av, .sl (bs.map bodyA)] (bodyA (inlE bs e)) := by
 induction e using Ex.ind with | h o n s l ih => ?_
 intro hpb hwf
 have hl : l.length <= 999 := by rw [parts] at hpb; have := qbq l; omega
 rw [wfS, qri] at hwf
 simp only [Bool.and_eq_true, List.all_eq_true, Bool.or_eq_true, Bool.not_eq_true', decide_eq_false_iff_not, decide_eq_true_eq] at hwf
 obtain ⟨⟨-, hw2⟩, hw3⟩ := hwf
 obtain ⟨R, hR⟩ : ∃ R, R = inlE bs (.mk o n s l) := ⟨_, rfl⟩
 rw [<- hR]
 refine qg Tryz.func61 Tryz.ntmps61 fun σ n0 hcl hft => ?_
 repeat (first | (refine qb fun K hK => ?_) | (refine qa ?_; simp (disch := first | omega | simp) [qc]) | (refine hK _ ?_; clear hK; clear K) | (clear hK; clear K; refine hK _ ?_; clear hK; clear K) | (clear hK; clear K; clear hK; clear K; refine hK _ ?_; clear hK; clear K) | refine qd ?_ | (refine qt ?_; simp (disch := first | omega | simp) [qc]) | (refine qba ?_; simp (disch := first | omega | simp)) | (refine qbb ?_; simp (disch := first | omega | simp)) | (refine qbl ?_; simp (disch := first | omega | simp)))
 refine qco 2 3 44 4 (by rfl) (by rfl) ?_
 refine qk hcl (fun ys : List Ex => [(1, .sl (bs.map bodyA)), (2, .ptr n0 0), (4, .ptr (n0 + 1) 0), (5, .ptr (n0 + 2) 0), (19, .sl (l.map Ex.av)), (20, .int l.length), (21, .int ys.length)]) (fun ys => [.cells [.int o, .int n, .str s, .sl (l.map Ex.av)] 44, .cells [.int 0, .int 0, .str ByteArray.empty, .v (.slice none 0 0), .bool false] 114, .cells [.int o, .int n, .str s, .gs (n0 + 3) (ys.map Ex.av)] 44, .tail ys.length 44 4])
  (fun ys => ∃ k, k <= l.length /\ ys.length = k /\ inlL bs (l.take k) = some ys) (fun ys => l.length - ys.length) [] (by exact ⟨0, by omega, rfl, by rw [List.take_zero, inlL]⟩) (by simp) fun ys hys => ?_
 obtain ⟨k, hk, rfl, hys⟩ := hys
 by_cases hlt : ys.length < l.length
 .have hpk : parts l[ys.length] <= 1000 := by rw [parts] at hpb; have := qbh l l[ys.length] (List.getElem_mem hlt); omega
  have hc := ih _ (List.getElem_mem hlt) hpk (hw3 _ (List.getElem_mem hlt))
  cases hx : inlE bs l[ys.length] with
  | none =>
   obtain rfl : R = none := by rw [hR, inlE, qtb l (List.getElem_mem hlt) hx]
   rw [hx] at hc
   repeat' (first | ((first | refine Stp.m ?_ | refine qh ?_) <;> (try simp (disch := first | omega | simp) [qc, -qe, -qi, hlt])) | refine qb fun K hK => ?_ | refine qa ?_ | refine qd ?_ | (refine hK _ ?_; clear hK K))
  | some y =>
   rw [hx] at hc
   have hsz : (ys.length + 1) * 64 <= 140737488355328 := by omega
   repeat' (first | ((first | refine Stp.m ?_ | refine qh ?_) <;> (try simp (disch := first | omega | simp) [qc, -qe, -qi, hlt, hsz])) | refine sideA ?_ | refine qb fun K hK => ?_ | refine qa ?_ | refine qd ?_ | (refine hK _ ?_; clear hK K) | clear hK K)
   refine ⟨ys ++ [y], ⟨_, ?_, rfl, ?_⟩, by simp; omega, by simp⟩
   .simp; omega
   rw [List.length_append, List.length_singleton, List.take_succ_eq_append_getElem hlt]
   exact qtc hx _ hys
 .have hyl : ys.length = l.length := by omega
  rw [hyl, List.take_length] at hys
  have hyp : ∀ y ∈ ys, parts y <= 1000 := fun y hy => by
   obtain ⟨e, -, he⟩ := qxo l hys y hy
   exact qgz he
  have tail : ∀ (Z : Ex) (NP : Nat), parts Z = NP -> NP <= 1000000 -> R = fitX Z -> (1000 < NP -> R = none) /\ (¬ 1000 < NP -> R = some Z) := fun Z NP h1 _ h2 => by
   rw [h2, fitX, h1]
   exact ⟨fun h => if_pos h, fun h => if_neg h⟩
  by_cases ho : o = 22
  .subst ho
   obtain ⟨h0, h1⟩ := hw2.resolve_left (by simp)
   have hn : n.toNat < bs.length := by omega
   cases hb : bs[n.toNat] with
   | none =>
    obtain rfl : R = none := by rw [hR, inlE, hys]; dsimp only; rw [if_pos ⟨rfl, h0, h1⟩, List.getD_eq_getElem?_getD, List.getElem?_eq_getElem hn, hb]; rfl
    repeat (first | (refine qb fun K hK => ?_) | (refine qa ?_; simp (disch := first | omega | simp) [qc, hyl, h0, h1, hb]) | (refine hK _ ?_; clear hK; clear K) | (clear hK; clear K; refine hK _ ?_; clear hK; clear K) | (clear hK; clear K; clear hK; clear K; refine hK _ ?_; clear hK; clear K) | refine qd ?_ | (refine qt ?_; simp (disch := first | omega | simp) [qc, hyl, h0, h1, hb]) | (refine qba ?_; simp (disch := first | omega | simp)) | (refine qbb ?_; simp (disch := first | omega | simp)) | (refine qbl ?_; simp (disch := first | omega | simp)))
   | some b =>
    have hRb : R = fitX ((putP 4 ys b).getD zeroE) := by rw [hR, inlE, hys]; dsimp only; rw [if_pos ⟨rfl, h0, h1⟩, List.getD_eq_getElem?_getD, List.getElem?_eq_getElem hn, hb]; rfl
    have hpb2 : parts b <= 1000 := hbs (some b) (by rw [<- hb]; exact List.getElem_mem hn)
    have hpp : parts ((putP 4 ys b).getD zeroE) <= 1000000 := by
     cases hput : putP 4 ys b with
     | none => decide
     | some x => have h2 := qoq (K := 1000) (by omega) hyp b hput; have : parts b * 1000 <= 1000 * 1000 := Nat.mul_le_mul_right _ hpb2; show parts x <= _; omega
    have hcall := put_g 4 ys (fun x hx => by have := hyp x hx; omega) b (by omega)
    obtain ⟨Z, hZ⟩ : ∃ Z, Z = (putP 4 ys b).getD zeroE := ⟨_, rfl⟩
    have hcall2 : Gives Tryz.prog 106 [b.av, .int 4, .sl (ys.map Ex.av)] (.tup [Z.av, .bool (putP 4 ys b).isSome]) := by rw [hZ]; exact hcall
    rw [<- hZ] at hRb hpp
    obtain ⟨t1, t2⟩ := tail Z _ rfl hpp hRb
    repeat' (first | ((first | refine Stp.m ?_ | refine qh ?_) <;> (try simp (disch := first | omega | simp) [qc, -qe, -qi, hyl, h0, h1, hb])) | refine qb fun K hK => ?_ | refine qa ?_ | (refine hK _ ?_; clear hK K) | clear hK K)
    refine qdu (n0 + 5) _ (qph Z 0 (n0 + 5) _ (by omega) (by omega) (by simp)) (by simp) ?_
    generalize parts Z = NP at *
    by_cases hbig : 1000 < NP
    .obtain rfl := t1 hbig
     have hbig' : (1000 : Int) < NP := by omega
     simp (disch := first | omega | simp) [qc]
     repeat (first | (refine qb fun K hK => ?_) | (refine qa ?_; simp (disch := first | omega | simp) [qc, hbig']) | (refine hK _ ?_; clear hK; clear K) | (clear hK; clear K; refine hK _ ?_; clear hK; clear K) | (clear hK; clear K; clear hK; clear K; refine hK _ ?_; clear hK; clear K) | refine qd ?_ | (refine qt ?_; simp (disch := first | omega | simp) [qc, hbig']) | (refine qba ?_; simp (disch := first | omega | simp)) | (refine qbb ?_; simp (disch := first | omega | simp)) | (refine qbl ?_; simp (disch := first | omega | simp)))
     exact ⟨rfl, rfl, rfl, rfl⟩
    .obtain rfl := t2 hbig
     have hbig' : ¬ (1000 : Int) < NP := by omega
     simp (disch := first | omega | simp) [qc]
     repeat (first | (refine qb fun K hK => ?_) | (refine qa ?_; simp (disch := first | omega | simp) [qc, hbig']) | (refine hK _ ?_; clear hK; clear K) | (clear hK; clear K; refine hK _ ?_; clear hK; clear K) | (clear hK; clear K; clear hK; clear K; refine hK _ ?_; clear hK; clear K) | refine qd ?_ | (refine qt ?_; simp (disch := first | omega | simp) [qc, hbig']) | (refine qba ?_; simp (disch := first | omega | simp)) | (refine qbb ?_; simp (disch := first | omega | simp)) | (refine qbl ?_; simp (disch := first | omega | simp)))
  .have hRb : R = fitX (.mk o n s ys) := by rw [hR, inlE, hys]; dsimp only; rw [if_neg (fun h => ho h.1)]
   have hpp : parts (.mk o n s ys) <= 1000000 := by
    have h2 := qke (K := 1000) ys hyp
    have : ys.length * 1000 <= 999 * 1000 := Nat.mul_le_mul_right _ (by omega)
    rw [parts]; omega
   generalize hZ : Ex.mk o n s ys = Z at *
   have hZf : AV.agg [.int o, .int n, .str s, .sl (ys.map Ex.av)] = Z.av := by rw [<- hZ, Ex.av_mk]
   have hZo : Z.op = o /\ Z.n = n /\ Z.s = s /\ Z.args = ys := by rw [<- hZ]; exact ⟨rfl, rfl, rfl, rfl⟩
   obtain ⟨t1, t2⟩ := tail Z _ rfl hpp hRb
   have h22 : (o == 22) = false := by simp [ho]
   repeat (first | (refine qb fun K hK => ?_) | (refine qa ?_; simp (disch := first | omega | simp) [qc, hyl, h22]) | (refine hK _ ?_; clear hK; clear K) | (clear hK; clear K; refine hK _ ?_; clear hK; clear K) | (clear hK; clear K; clear hK; clear K; refine hK _ ?_; clear hK; clear K) | refine qd ?_ | (refine qt ?_; simp (disch := first | omega | simp) [qc, hyl, h22]) | (refine qba ?_; simp (disch := first | omega | simp)) | (refine qbb ?_; simp (disch := first | omega | simp)) | (refine qbl ?_; simp (disch := first | omega | simp)))
   refine qdu (n0 + 4) _ (by rw [hZf]; exact qph Z 0 (n0 + 4) _ (by omega) (by omega) (by simp)) (by simp) ?_
   generalize parts Z = NP at *
   by_cases hbig : 1000 < NP
   .obtain rfl := t1 hbig
    have hbig' : (1000 : Int) < NP := by omega
    simp (disch := first | omega | simp) [qc]
    repeat (first | (refine qb fun K hK => ?_) | (refine qa ?_; simp (disch := first | omega | simp) [qc, hbig']) | (refine hK _ ?_; clear hK; clear K) | (clear hK; clear K; refine hK _ ?_; clear hK; clear K) | (clear hK; clear K; clear hK; clear K; refine hK _ ?_; clear hK; clear K) | refine qd ?_ | (refine qt ?_; simp (disch := first | omega | simp) [qc, hbig']) | (refine qba ?_; simp (disch := first | omega | simp)) | (refine qbb ?_; simp (disch := first | omega | simp)) | (refine qbl ?_; simp (disch := first | omega | simp)))
    exact ⟨rfl, rfl, rfl, rfl⟩
   .obtain rfl := t2 hbig
    have hbig' : ¬ (1000 : Int) < NP := by omega
    simp (disch := first | omega | simp) [qc]
    repeat (first | (refine qb fun K hK => ?_) | (refine qa ?_; simp (disch := first | omega | simp) [qc, hbig', hZo]) | (refine hK _ ?_; clear hK; clear K) | (clear hK; clear K; refine hK _ ?_; clear hK; clear K) | (clear hK; clear K; clear hK; clear K; refine hK _ ?_; clear hK; clear K) | refine qd ?_ | (refine qt ?_; simp (disch := first | omega | simp) [qc, hbig', hZo]) | (refine qba ?_; simp (disch := first | omega | simp)) | (refine qbb ?_; simp (disch := first | omega | simp)) | (refine qbl ?_; simp (disch := first | omega | simp)))
    exact ⟨hZo.1.symm, hZo.2.1.symm, hZo.2.2.1.symm, by rw [hZo.2.2.2]⟩
set_option maxHeartbeats 1000000 in
theorem qhu1 (F : List Fn) (hF : ∀ f ∈ F, parts f.body <= 1000) (hlF : F.length <= 1000) (hwF : ∀ i (h : i < F.length), wfS i F[i].body = true) (e : Ex) (he : parts e <= 1000) (hwf : wfS F.length e = true) :
  Gives Tryz.prog 33 [.sl (F.map Fn.av), e.av] (exr (qbj F e)) := by
 obtain ⟨R, hR⟩ : ∃ R, R = qbj F e := ⟨_, rfl⟩
 rw [<- hR]
 refine qg Tryz.func33 Tryz.ntmps33 fun σ n0 hcl hft => ?_
 repeat (first | (refine qb fun K hK => ?_) | (refine qa ?_; simp (disch := first | omega | simp) [qc]) | (refine hK _ ?_; clear hK; clear K) | (clear hK; clear K; refine hK _ ?_; clear hK; clear K) | (clear hK; clear K; clear hK; clear K; refine hK _ ?_; clear hK; clear K) | refine qd ?_ | (refine qt ?_; simp (disch := first | omega | simp) [qc]) | (refine qba ?_; simp (disch := first | omega | simp)) | (refine qbb ?_; simp (disch := first | omega | simp)) | (refine qbl ?_; simp (disch := first | omega | simp)))
 refine qbn 6 114 5 (by simp) ?_
 simp only [List.length_append, List.length_cons, List.length_nil, Nat.zero_add, Nat.reduceAdd, List.cons_append, List.nil_append]
 refine qk hcl (fun k : Nat => [(3, .ptr n0 0), (4, .ptr (n0 + 1) 0), (6, .gs (n0 + 2) ((inlB [] (F.take k)).map bodyA)), (10, .sl (F.map Fn.av)), (11, .int F.length), (12, .int k)]) (fun k => [.cells [.int e.op, .int e.n, .str e.s, .sl (e.args.map Ex.av)] 44, .cells [.int 0, .int 0, .str ByteArray.empty, .v (.slice none 0 0)] 44, .tail k 114 5])
  (fun k => k <= F.length) (fun k => F.length - k) 0 (by simp) (by simp [inlB]) fun k hk => ?_
 have hlen : (inlB [] (F.take k)).length = k := by rw [qkp]; simp; omega
 have hbs := qap1 (F.take k)
 have hsn : ∀ (h : k < F.length), inlB [] (F.take (k + 1)) = inlB [] (F.take k) ++ [inlE (inlB [] (F.take k)) F[k].body] := fun h => by rw [List.take_succ_eq_append_getElem h, qlv]
 have hfin : k = F.length -> qbj F e = match inlE (inlB [] (F.take k)) e with
   | some x => if 12 < levels x then none else some x
   | none => none := fun h => by rw [h, List.take_length]; rfl
 generalize inlB [] (F.take k) = bs at *
 have hcall := fun e he hw => qjg1 bs hbs e he hw
 by_cases hlt : k < F.length
 .repeat (first | (refine qb fun K hK => ?_) | (refine qa ?_; simp (disch := first | omega | simp) [qc, hlt]) | (refine hK _ ?_; clear hK; clear K) | (clear hK; clear K; refine hK _ ?_; clear hK; clear K) | (clear hK; clear K; clear hK; clear K; refine hK _ ?_; clear hK; clear K) | refine qd ?_ | (refine qt ?_; simp (disch := first | omega | simp) [qc, hlt]) | (refine qba ?_; simp (disch := first | omega | simp)) | (refine qbb ?_; simp (disch := first | omega | simp)) | (refine qbl ?_; simp (disch := first | omega | simp)))
  refine acall (hcall F[k].body (hF _ (List.getElem_mem hlt)) (by rw [hlen]; exact hwF k hlt)) ?_
  simp (disch := first | omega | simp) [qc, hlen]
  refine ⟨by omega, ?_⟩
  repeat (first | (refine qb fun K hK => ?_) | (refine qa ?_; simp (disch := first | omega | simp) [qc]) | (refine hK _ ?_; clear hK; clear K) | (clear hK; clear K; refine hK _ ?_; clear hK; clear K) | (clear hK; clear K; clear hK; clear K; refine hK _ ?_; clear hK; clear K) | refine qd ?_ | (refine qt ?_; simp (disch := first | omega | simp) [qc]) | (refine qba ?_; simp (disch := first | omega | simp)) | (refine qbb ?_; simp (disch := first | omega | simp)) | (refine qbl ?_; simp (disch := first | omega | simp)))
  refine ⟨k + 1, by omega, by omega, ?_⟩
  rw [hsn hlt]
  simp
 .have hkl : k = F.length := by omega
  have hRR := hR.trans (hfin hkl)
  have hc := hcall e he (by rw [hlen, hkl]; exact hwf)
  have hlv : levels ((inlE bs e).getD zeroE) <= 1000000 := by
   cases hx : inlE bs e with
   | none => show levels zeroE <= _; decide
   | some y => have := qgz hx; have := qcl y; show levels y <= _; omega
  have hlvg := qxv _ hlv
  subst hkl
  cases hx : inlE bs e with
  | none =>
   rw [hx] at hc
   obtain rfl : R = none := by rw [hRR, hx]
   repeat' (first | ((first | refine Stp.m ?_ | refine qh ?_) <;> (try simp (disch := first | omega | simp) [qc, -qe, -qi])) | refine qb fun K hK => ?_ | refine qa ?_ | (refine hK _ ?_; clear hK K) | clear hK K)
  | some y =>
   rw [hx] at hRR hlvg hc
   replace hlvg : Gives Tryz.prog 62 [y.av] (.int (levels y)) := hlvg
   by_cases h12 : 12 < levels y
   .obtain rfl : R = none := by rw [hRR]; dsimp only; rw [if_pos h12]
    have h12' : (12 : Int) < levels y := by omega
    repeat' (first | ((first | refine Stp.m ?_ | refine qh ?_) <;> (try simp (disch := first | omega | simp) [qc, -qe, -qi, h12'])) | refine qb fun K hK => ?_ | refine qa ?_ | (refine hK _ ?_; clear hK K) | clear hK K)
   .obtain rfl : R = some y := by rw [hRR]; dsimp only; rw [if_neg h12]
    have h12' : ¬ (12 : Int) < levels y := by omega
    repeat' (first | ((first | refine Stp.m ?_ | refine qh ?_) <;> (try simp (disch := first | omega | simp) [qc, -qe, -qi, h12'])) | refine qb fun K hK => ?_ | refine qa ?_ | (refine hK _ ?_; clear hK K) | clear hK K)
section
variable {P : Program} {ev : Operand -> AV} {σ : Nat -> AB}
theorem qag1 {t e : TypeId} {n g : Nat} {p i : Operand} {ik : IntKind} {k : Int} {ag : Bool} {sz : Nat} (ht : P.underlying t = some (.array n e)) (hs : tinfo P e = some (ag, sz)) (hp : ev p = .v (.pointer (some ⟨g, 0, none⟩))) (hi : ev i = .v (.int ik k)) (h0 : 0 <= k) (h1 : k < n) :
  FOp P ev σ (.indexAddr t p i) (.v (.pointer (some ⟨g, k.toNat * sz, none⟩))) none := FOp.of fun X a oper ho hS hsub hev => by
 have h := hev p (by simp [Op.operands])
 have h2 := hev i (by simp [Op.operands])
 rw [hp, RR.v] at h; rw [hi, RR.v] at h2
 refine ⟨.pointer (some ⟨g, k.toNat * sz, none⟩), ?_, RR.v.2 rfl⟩
 have := (qbs hs X.w).2
 simp [execOp, ho, h, h2, Instr.indexAt, Instr.sureAddr, asIntOf, underlying, ht, h0, h1, this, qbd]
theorem qdp1 {t : TypeId} {p : Operand} {g o n : Nat} {cs : List Value} {v : Value} (ht : tinfo P t = some (false, n)) (hp : ev p = .v (.pointer (some ⟨g, o, none⟩))) (hg : gtab g = some cs) (hv : cs[o]? = some v) :
  FOp P ev σ (.load t p) (.v v) none := FOp.of fun X a oper ho hS hsub hev => by
 have h := hev p (by simp [Op.operands])
 rw [hp, RR.v] at h
 have hG := qvy hS.glob hg
 have hc := hG.1.at.get o v hv
 rw [Nat.zero_add] at hc
 refine ⟨v, ?_, RR.v.2 rfl⟩
 have h1 : (loadVar t ⟨g, o, none⟩).run P X.w = .ok v X.w := by simp [loadVar, (qbs ht X.w).1, hc]
 simp [execOp, ho, h, Instr.loadAt, Instr.sureAddr, h1]
theorem rcs_v {X : St} : ∀ cs : List Value, RCs X (cs.map AV.v) cs
 | [] => rfl
 | c :: cs => ⟨[c], cs, rfl, by rw [RC], rcs_v cs⟩
theorem qam1 {t e : TypeId} {n g : Nat} {p : Operand} {cs : List Value} {ag : Bool} {sz : Nat} (ht : P.underlying t = some (.array n e)) (hs : tinfo P e = some (ag, sz)) (hp : ev p = .v (.pointer (some ⟨g, 0, none⟩))) (hg : gtab g = some cs) (hn : cs.length = n) (h1 : n <= 1000000) :
  FOp P ev σ (.slice t p none none none) (.sl (cs.map AV.v)) none := FOp.of fun X a oper ho hS hsub hev => by
 have h := hev p (by simp [Op.operands])
 rw [hp, RR.v] at h
 have hG := qvy hS.glob hg
 have hsz := (qbs hs X.w).2
 subst hn
 refine ⟨.slice (some (if cs.length = 0 then ⟨g, 0, none⟩ else (⟨g, 0, none⟩ : Addr).add (0 * sz))) cs.length cs.length, ?_, ?_⟩
 .simp [execOp, ho, h, Instr.sliceAt, Instr.sureAddr, underlying, ht, Instr.sliceBounds, hsz]
 .show RC X (.sl _) [_]
  rw [RC]
  refine ⟨_, cs.length, g, 0, by rw [List.length_map], by rw [List.length_map]; exact Nat.le_refl _, by omega, fun h0 => ?_, RM.of (rcs_v cs) hG.1⟩
  rw [List.length_map] at h0
  rw [if_neg (by omega)]
  simp [qbd]
end
def aevG (P : Program) (s : AS) (o : Op) (K : AV -> AS -> Prop) : Prop :=
 match o with
 | .indexAddr t p i => match P.underlying t with
  | some (.array n e) => match tinfo P e, s.eval p, s.eval i with
   | some (_, sz), .v (.pointer (some ⟨g, 0, none⟩)), .v (.int _ k) => 0 <= k /\ k < n /\ K (.v (.pointer (some ⟨g, k.toNat * sz, none⟩))) s
   | _, _, _ => False
  | _ => aev P s (.indexAddr t p i) K
 | .load t p => match s.eval p with
  | .v (.pointer (some ⟨g, o, none⟩)) => match tinfo P t, gtab g with
   | some (false, _), some cs => match cs[o]? with
    | some v => K (.v v) s
    | none => False
   | _, _ => False
  | _ => aev P s (.load t p) K
 | .slice t p none none none => match P.underlying t with
  | some (.array n e) => match tinfo P e, s.eval p with
   | some _, .v (.pointer (some ⟨g, 0, none⟩)) => match gtab g with
    | some cs => cs.length = n /\ n <= 1000000 /\ K (.sl (cs.map AV.v)) s
    | none => False
   | _, _ => False
  | _ => aev P s (.slice t p none none none) K
 | o => aev P s o K
theorem qzk {P : Program} {s : AS} {o : Op} {K : AV -> AS -> Prop} (h : aevG P s o K) : EOp P s o K := by
 unfold aevG at h
 split at h
 .split at h
  .split at h
   .exact qhs (nb := none) (qag1 ‹_› ‹_› ‹_› ‹_› h.1 h.2.1) h.2.2
   .exact h.elim
  .exact qck h
 .split at h
  .split at h
   .split at h
    .exact qhs (nb := none) (qdp1 ‹_› ‹_› ‹_› ‹_›) h
    .exact h.elim
   .exact h.elim
  .exact qck h
 .split at h
  .split at h
   .split at h
    .exact qhs (nb := none) (qam1 ‹_› (ag := _) (sz := _) ‹_› ‹_› ‹_› h.1 h.2.1) h.2.2
    .exact h.elim
   .exact h.elim
  .exact qck h
 .exact qck h
def aseqG (P : Program) (ops : Array Oper) (K : AS -> Prop) : List Oper -> AS -> Prop
 | [], s => K s
 | o :: l, s => match awant ops o s.t with
  | some b => qbm b (aevG P s o.op (fun x s1 => dstOk o.dst s1.n /\ aseqG P ops K l (s1.put o.dst x))) (dstOk o.dst s.n /\ aseqG P ops K l (s.put o.dst (.v undef)))
  | none => False
theorem qhj {P : Program} {ops : Array Oper} {K : AS -> Prop} : ∀ {l : List Oper} {s : AS}, aseqG P ops K l s -> aseq P ops K l s
 | [], _, h => h
 | o :: l, s, h => by
  rw [aseqG] at h
  rw [aseq]
  split at h
  .rename_i b hb
   cases b with
   | true => exact ⟨true, hb, (qzk (h.1 rfl)).mono fun x s1 ⟨h1, h2⟩ => ⟨h1, qhj h2⟩⟩
   | false => exact ⟨false, hb, (h.2 rfl).1, qhj (h.2 rfl).2⟩
  .exact h.elim
theorem qhn {P : Program} {s : AS} {id : Nat} {l : List Oper} {Q : Exit -> AS -> Prop} (h : aseqG P l.toArray (Q .normal) l s) : awp P (.region id l.toArray false) Q s := qdh (qhj h)
instance {P : Program} {ops : Array Oper} {K : AS -> Prop} {o : Oper} {l : List Oper} {s : AS} : Stp (aseqG P ops K (o :: l) s) (match awant ops o s.t with
  | some b => qbm b (aevG P s o.op (fun x s1 => dstOk o.dst s1.n /\ aseqG P ops K l (s1.put o.dst x))) (dstOk o.dst s.n /\ aseqG P ops K l (s.put o.dst (.v undef)))
  | none => False) := ⟨fun h => h⟩
instance {P : Program} {ops : Array Oper} {K : AS -> Prop} {s : AS} : Stp (aseqG P ops K [] s) (K s) := ⟨fun h => h⟩
attribute [simp] aevG
instance {P : Program} {ops : Array Oper} {K : AS -> Prop} {l : List Oper} {s : AS} : Inhabited (Tag (aseqG P ops K l s)) := ⟨⟨⟩⟩
end Go.Proofs.YtkedbjjfmejbhaaGreatDoor
