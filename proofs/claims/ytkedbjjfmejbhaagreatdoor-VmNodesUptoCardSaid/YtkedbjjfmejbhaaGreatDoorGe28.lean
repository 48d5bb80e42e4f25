/- Walk of layer 26: Compile. -/
import Derived.Test.YtkedbjjfmejbhaaGreatDoorGe5
import Derived.Test.YtkedbjjfmejbhaaGreatDoorGe9
import Derived.Test.YtkedbjjfmejbhaaGreatDoorGe15
import Derived.Test.YtkedbjjfmejbhaaGreatDoorGe16
import Derived.Test.YtkedbjjfmejbhaaGreatDoorGe17
import Derived.Test.YtkedbjjfmejbhaaGreatDoorGe19
import Derived.Test.YtkedbjjfmejbhaaGreatDoorGe21
import Derived.Test.YtkedbjjfmejbhaaGreatDoorGe23
import Derived.Test.YtkedbjjfmejbhaaGreatDoorGe24
import Derived.Test.YtkedbjjfmejbhaaGreatDoorGe25
import Derived.Test.YtkedbjjfmejbhaaGreatDoorGe26
import Derived.Test.YtkedbjjfmejbhaaGreatDoorGe27
set_option linter.unusedSimpArgs false
set_option linter.unusedVariables false
namespace Go.Proofs.YtkedbjjfmejbhaaGreatDoor
open Go.RowKit Go.Lib
theorem qca1 {P : Program} {code : Code} {Q : Exit -> AS -> Prop} {n n0 : Nat} {t : Nat -> AV} {σ : Nat -> AB} {L : List AB} (i : Nat) {I I' : Obj -> Prop} (hL : L[i]? = some (.obj I)) (hI : ∀ o, I o -> I' o)
  (h : awp P code Q ⟨n, t, σ, n0, L.set i (.obj I')⟩) : awp P code Q ⟨n, t, σ, n0, L⟩ := by
 intro X0 a w ⟨X, hc⟩
 have hi := (List.getElem?_eq_some_iff.1 hL).1
 have hst : (AS.mk n t σ n0 L).st (n0 + i) = .obj I := by
  show loc σ n0 L (n0 + i) = _
  unfold loc
  rw [if_neg (by omega), Nat.add_sub_cancel_left, List.getD_eq_getElem?_getD, hL]; rfl
 have hset : (AS.mk n t σ n0 L).set (n0 + i) (.obj I') = ⟨n, t, σ, n0, L.set i (.obj I')⟩ := by
  unfold AS.set; dsimp only; rw [if_neg (by omega), Nat.add_sub_cancel_left]
 have hX : X.σ (n0 + i) = .obj I := by rw [hc.σ, hst]
 have hlt : n0 + i < (AS.mk n t σ n0 L).nx := by show n0 + i < n0 + L.length; omega
 have hT : Turns X X.w X.S (n0 + i) (.obj I') (X.μ (n0 + i)) :=
  {grown := ⟨rfl, rfl, rfl, Nat.le_refl _, fun _ _ _ => rfl⟩
   blk := fun b2 h => .inl (by unfold St.blk; rw [hX]; exact h)
   ver := by
    unfold Ver
    rw [hX]
    exact ⟨⟨I', by simp [St.turn, upd]⟩, by simp [St.turn, upd]⟩
   keepS := fun b2 o h1 h2 => rfl
   more := fun _ _ h => h
   less := fun _ _ h => .inl h
   apart := fun b2 o h1 h2 => by
    obtain ⟨_, e, s2, h3, -⟩ := hc.sr.apart (n0 + i) b2 o (by unfold St.blk; rw [hX]; exact h1) h2
    rw [hX] at h3; cases h3
   old := fun b2 h => by
    have : X.blk (n0 + i) = some b2 := by unfold St.blk; rw [hX]; exact h
    exact hc.sr.lt this }
 have hw := hc.w
 subst hw
 have hB := hc.sr.block (n0 + i)
 rw [hX] at hB
 obtain ⟨b, o, h1, h2, h3⟩ := hB
 have hcon := qgt (v := X.μ (n0 + i)) hc (by rw [hst]; simp) hT ⟨b, o, h1, h2, hI o h3⟩
 rw [hset] at hcon
 exact h X0 a X.w ⟨_, hcon⟩
theorem qqi1 {P : Program} {f : FuncId} {args : List AV} {n n0 : Nat} {t : Nat -> AV} {σ : Nat -> AB} {L : List AB} {K : AV -> AS -> Prop} {x : AV} (L' : List AB) (h : AC P f args (loc σ n0 L) fun y τ => y = x /\ τ = loc σ n0 L') (hK : K x ⟨n, t, σ, n0, L'⟩) : ACall P f args ⟨n, t, σ, n0, L⟩ K :=
 ⟨x, ⟨n, t, σ, n0, L'⟩, h, ⟨rfl, rfl, rfl⟩, hK⟩
theorem qpd1 {cols : List Int} {σ : Nat -> AB} {n0 : Nat} {b0 b1 o m ta tb : AB} {M : List Ex} :
  stM cols (n0 + 3) (n0 + 4) (n0 + 5) (n0 + 2) M (loc σ n0 [b0, b1, o, m, ta, tb]) = loc σ n0 [b0, b1, .obj (mapI (entI M M 0)), mkB cols M (n0 + 4) (n0 + 5) (n0 + 2), .tail M.length 58 7, .tail M.length 3 1] := by
 funext r
 unfold stM loc
 by_cases hr : r < n0
 .rw [if_neg (by omega), if_neg (by omega), if_neg (by omega), if_neg (by omega), if_pos hr, if_pos hr]
 .obtain ⟨i, rfl⟩ : ∃ i, r = n0 + i := ⟨r - n0, by omega⟩
  rw [if_neg hr, if_neg hr, Nat.add_sub_cancel_left]
  match i with
  | 0 => simp
  | 1 => simp
  | 2 => simp
  | 3 => simp
  | 4 => simp
  | 5 => simp
  | i + 6 => simp
theorem qhw1 {P : Program} {code : Code} {Q : Exit -> AS -> Prop} {n n0 : Nat} {t : Nat -> AV} {σ : Nat -> AB} {b0 b1 : AB} {x y z : AV} {T : TypeId}
  (h : awp P code Q ⟨n, t, σ, n0, [b0, b1, .obj (mapI []), .cells [x, .gs (n0 + 4) [], .gs (n0 + 5) [], y, z] T, .tail 0 58 7, .tail 0 3 1]⟩) :
  awp P code Q ⟨n, t, σ, n0, [b0, b1, .obj fun o => o = .map #[] 0, .cells [x, .v (.slice none 0 0), .v (.slice none 0 0), y, z] T]⟩ := by
 refine qca1 2 (I' := mapI []) (by rfl) (fun o ho => by rw [ho]; exact qjo1) ?_
 refine qco 3 1 58 7 (by rfl) (by rfl) ?_
 refine qco 3 2 3 1 (by rfl) (by rfl) ?_
 exact h
set_option maxRecDepth 100000 in
set_option maxHeartbeats 16000000 in
theorem qbo1 (F : List Fn) (cols : List Int) (e : Ex) (hF : ∀ f ∈ F, parts f.body <= 1000) (hlF : F.length <= 1000) (hcols : cols.length <= 1000000) (he : parts e <= 1000) (hn : n64 e) (hFn : ∀ f ∈ F, n64 f.body) :
  Gives Tryz.prog 8 [.sl (F.map Fn.av), .sl (cols.map AV.int), e.av] (.tup [(qcx F cols e).1.av, .int (qcx F cols e).2]) := by
 obtain ⟨R, hR⟩ : ∃ R, R = qcx F cols e := ⟨_, rfl⟩
 rw [<- hR]
 unfold qcx at hR
 have c1 := qhb1 F cols [] e (by omega) (fun f hf => by have := hF f hf; omega)
 simp only [List.map_nil] at c1
 cases ht : typeP F cols [] e with
 | none =>
  rw [ht] at hR c1
  simp only [Option.getD_none, Option.isSome_none] at c1
  refine qg Tryz.func8 Tryz.ntmps8 fun σ n0 hcl hft => ?_
  repeat' (first | ((first | refine Stp.m ?_ | refine qh ?_) <;> (try simp (disch := first | omega | simp) [qc, -qe, -qi])) | refine qb fun K hK => ?_ | refine qa ?_ | (refine hK _ ?_; clear hK K) | clear hK K)
  all_goals (rw [hR]; simp [qzf, Cod.av, -Cod.av_fold])
 | some t =>
  rw [ht] at hR c1
  simp only [Option.getD_some, Option.isSome_some] at c1
  obtain ⟨h1, h2, h3, h4⟩ := qiy ht
  have c2 := qhu1 F hF hlF (qoh1 h2) e he (qup e h3)
  unfold exr at c2
  cases hy : qbj F e with
  | none =>
   rw [hy] at hR c2
   simp only [Option.getD_none, Option.isSome_none] at c2
   refine qg Tryz.func8 Tryz.ntmps8 fun σ n0 hcl hft => ?_
   repeat' (first | ((first | refine Stp.m ?_ | refine qh ?_) <;> (try simp (disch := first | omega | simp) [qc, -qe, -qi])) | refine qb fun K hK => ?_ | refine qa ?_ | (refine hK _ ?_; clear hK K) | clear hK K)
   all_goals (rw [hR]; simp [qzf, Cod.av, -Cod.av_fold])
  | some y =>
   rw [hy] at hR c2
   simp only [Option.getD_some, Option.isSome_some] at c2
   obtain ⟨g1, g2, g3, g4, g5⟩ := qll ht hy
   have gn := qit1 y (qaq1 hFn hn hy)
   have c3 := qqh1 y g1 (by omega)
   have gk := qlr1 g3 g4
   have c5 := qcn1 gk.1
   have hR1 : R.1 = compP (rawP cols (foldE y)) := by rw [hR]
   have hR0 : R.2 = 0 := by rw [hR]
   clear hR
   rw [<- hR1] at c5
   generalize foldE y = f at *
   unfold rawP Cod.av at c5
   dsimp only at c5
   have hpg : qfw cols [] := ⟨fun i y h => by simp at h, fun i j y h => by simp at h, by simp⟩
   obtain ⟨M, hM⟩ : ∃ M, M = qbf f [] := ⟨_, rfl⟩
   rw [<- hM] at c5
   rw [List.map_map] at c5
   refine qg Tryz.func8 Tryz.ntmps8 fun σ n0 hcl hft => ?_
   have c6 : ∀ b0 b1, AC Tryz.prog 34 [.ptr (n0 + 3) 0, f.av] (loc σ n0 [b0, b1, .obj (mapI []), .cells [.sl (cols.map AV.int), .gs (n0 + 4) [], .gs (n0 + 5) [], .v (.int .i64 0), .own (n0 + 2) 0] 86, .tail 0 58 7, .tail 0 3 1]) fun y τ => y = .int (findE M f) /\
     τ = loc σ n0 [b0, b1, .obj (mapI (entI M M 0)), mkB cols M (n0 + 4) (n0 + 5) (n0 + 2), .tail M.length 58 7, .tail M.length 3 1] := fun b0 b1 => by
    have h := qqk1 cols hcols (n0 + 3) (n0 + 4) (n0 + 5) (n0 + 2) f [] (loc σ n0 [b0, b1, .obj (mapI []), .cells [.sl (cols.map AV.int), .gs (n0 + 4) [], .gs (n0 + 5) [], .v (.int .i64 0), .own (n0 + 2) 0] 86, .tail 0 58 7, .tail 0 3 1]) hpg g3 gn (by simp; omega) ⟨by simp [loc, mkB, rawI] <;> omega, by simp [loc] <;> omega, by simp [loc] <;> omega, by simp [loc, entI] <;> omega⟩
    rw [qpd1, <- hM] at h
    exact h
   repeat' (first | ((first | refine Stp.m ?_ | refine qhw1 ?_ | refine qqi1 _ (c6 _ _) ?_ | refine qh ?_) <;> (try simp (disch := first | omega | simp) [qc, -qe, -qi, mkB])) | refine qb fun K hK => ?_ | refine qa ?_ | (refine hK _ ?_; clear hK K))
   all_goals (first | rfl | (rw [hR0]; done) | (simp [hR0]; done))

theorem qzv (time : Int) (m : Nat) : callN [] time m = fun _ _ => zeroV := by
 funext i vs; exact qrx time m i vs


theorem qtf : ∀ (l : List Ins) (i0 : Nat) (last : List Nat) (r : Nat), (∀ j (h : j < l.length), l[j].tgt.toNat ≠ r) -> (lastL l i0 last).getD r 0 = last.getD r 0
 | [], _, _, _, _ => rfl
 | y :: l, k, last, r, h => by
  rw [lastL, qtf l _ _ _ fun j hj => h (j + 1) (by simpa using hj), qq, if_neg (fun e => h 0 (by simp) e.1)]
theorem qed1 : ∀ (l : List Ins) (i0 : Nat) (last : List Nat) (r : Nat), r < last.length -> (∃ i, ∃ h : i < l.length, l[i].tgt.toNat = r) -> ∃ j, ∃ h : j < l.length, (lastL l i0 last).getD r 0 = i0 + j /\ l[j].tgt.toNat = r
 | [], _, _, _, _, ⟨_, h, _⟩ => absurd h (by simp)
 | x :: l, i0, last, r, hr, ⟨i, hi, he⟩ => by
  by_cases hex : ∃ i, ∃ h : i < l.length, l[i].tgt.toNat = r
  .obtain ⟨j, hj, h1, h2⟩ := qed1 l (i0 + 1) (last.set x.tgt.toNat i0) r (by simpa using hr) hex
   exact ⟨j + 1, by simpa using hj, by rw [lastL, h1]; omega, by simpa using h2⟩
  .have hx : x.tgt.toNat = r := by
    cases i with
    | zero => simpa using he
    | succ i => exact absurd ⟨i, by simpa using hi, by simpa using he⟩ hex
   refine ⟨0, by simp, ?_, by simpa using hx⟩
   rw [lastL, qtf l _ _ _ fun j hj e => hex ⟨j, hj, e⟩, qq, if_pos ⟨hx, by rw [hx]; exact hr⟩]; rfl
theorem qlp : ∀ (l : List Ins) (done : List Bool) (r : Nat), (doneL l done).getD r false = true -> done.getD r false = false -> ∃ i, ∃ h : i < l.length, l[i].tgt.toNat = r
 | [], done, r, h1, h2 => by rw [doneL] at h1; rw [h1] at h2; cases h2
 | x :: l, done, r, h1, h2 => by
  by_cases hx : x.tgt.toNat = r
  .exact ⟨0, by simp, hx⟩
  .rw [doneL] at h1
   obtain ⟨i, hi, h⟩ := qlp l _ r h1 (by rw [qq, if_neg (fun e => hx e.1)]; exact h2)
   exact ⟨i + 1, by simpa using hi, h⟩
theorem qer1 : ∀ (l : List Ins) (i : Nat) (last : List Nat) (k : Nat), ((nodes l i last)[k]?).map Nd.x = l[k]?
 | [], _, _, k => by rw [nodes]; simp
 | x :: l, i, last, 0 => by rw [nodes]; rfl
 | x :: l, i, last, k + 1 => by rw [nodes, List.getElem?_cons_succ, List.getElem?_cons_succ, qer1 l]
theorem qfp1 {c : Cod} {cols : List Int} (h : CodOk c cols) : ∃ d, (qx c)[rootC c]? = some d /\ d.x.tgt.toNat = c.out.toNat := by
 have o0 := h.out0
 have o1 := h.out1
 obtain ⟨j, hj, h1, h2⟩ := qed1 c.ins 0 (List.replicate c.types.length 0) c.out.toNat (by simp; omega) (qlp c.ins _ _ h.out2 (by rw [List.getD_eq_getElem?_getD, List.getElem?_replicate]; split <;> rfl))
 have hr : rootC c = j := by unfold rootC; rw [h1]; omega
 have hx := qer1 c.ins 0 (List.replicate c.types.length 0) j
 rw [List.getElem?_eq_getElem hj] at hx
 rw [hr]
 cases hd : (qx c)[j]? with
 | none => unfold qx at hd; rw [hd] at hx; cases hx
 | some d =>
  unfold qx at hd
  rw [hd] at hx
  have hx2 : d.x = c.ins[j] := Option.some.inj hx
  exact ⟨d, rfl, by rw [hx2]; exact h2⟩
theorem qcm1 {c : Cod} {cols : List Int} (h : CodOk c cols) : (compP c).types.getD (compP c).out.toNat 0 = c.types.getD c.out.toNat 0 := by
 obtain ⟨h1, -, -, h4, h5, -⟩ := qlk h 0 []
 obtain ⟨ht, -, -⟩ := qwq h 0 []
 obtain ⟨a, ha, ha2⟩ := qfp1 h1
 obtain ⟨b, hb, hb2⟩ := qfp1 ht
 have hk : ((qx (compP c)).map (keyN (compP c).types))[rootC (compP c)]? = ((qx (trimP c)).map (keyN (trimP c).types))[rootC (trimP c)]? := by rw [h5, h4]
 rw [List.getElem?_map, List.getElem?_map, ha, hb] at hk
 have hk2 := Option.some.inj hk
 unfold keyN at hk2
 simp only [Prod.mk.injEq] at hk2
 rw [ha2, hb2] at hk2
 exact hk2.2.2.2.2
theorem qij1 {cols : List Int} {f : Ex} (h : TypE cols f) (hp : parts f <= 1000) : CodOk (compP (rawP cols f)) cols /\ (∀ time row, valC (compP (rawP cols f)) time row = ev (fun _ _ => zeroV) time row [] f) /\ (compP (rawP cols f)).types.getD (compP (rawP cols f)).out.toNat 0 = typE cols f := by
 obtain ⟨h1, h2, h3⟩ := qlr1 h hp
 refine ⟨(qcl1 h1 0 []).1, fun time row => ?_, by rw [qcm1 h1]; exact h3⟩
 rw [(qcl1 h1 time row).2.1, h2]
theorem qcb1 (x : Ins) : Ins.eqB (bareI x) x = true ↔ (3 <= arO x.op \/ x.c = 0) /\ (2 <= arO x.op \/ x.b = 0) /\ (1 <= arO x.op \/ x.a = 0) /\ ((x.op = 0 \/ x.op = 2 \/ x.op = 3) \/ x.n = 0) /\ (x.op = 1 \/ x.s.size = 0) := by
 rw [Ins.eqB_iff]
 obtain ⟨o, t, a, b, c, n, s⟩ := x
 unfold bareI
 simp only [Ins.mk.injEq, true_and]
 have hs : (if o = 1 then s else ByteArray.empty) = s ↔ (o = 1 \/ s.size = 0) := by
  split
  .rename_i h; exact ⟨fun _ => .inl h, fun _ => rfl⟩
  .rename_i h
   exact ⟨fun e => .inr (by rw [<- e]; rfl), fun e => by rcases e with e | e; exact absurd e h; exact (qjr e).symm⟩
 rw [hs]
 have hi : ∀ (p : Prop) [Decidable p] (v : Int), (if p then v else 0) = v ↔ (p \/ v = 0) := fun p _ v => by
  split
  .rename_i h; exact ⟨fun _ => .inl h, fun _ => rfl⟩
  .rename_i h; exact ⟨fun e => .inr e.symm, fun e => e.elim (fun e => absurd e h) fun e => e.symm⟩
 rw [hi, hi, hi, hi]
 constructor
 .rintro ⟨h1, h2, h3, h4, h5⟩; exact ⟨h3, h2, h1, h4, h5⟩
 .rintro ⟨h1, h2, h3, h4, h5⟩; exact ⟨h3, h2, h1, h4, h5⟩
theorem qdq1 (x : Ins) : qbp x = (opOk x.op && (Ins.eqB (bareI x) x && (decide ((x.s.size : Int) <= 200) && decide (x.op = 2 -> x.n = 0 \/ x.n = 1)))) := by
 have h := qcb1 x
 have hle := qfx x.op
 unfold qbp
 cases ho : opOk x.op
 .rfl
 rw [Bool.true_and, Bool.true_and, Bool.eq_iff_iff]
 simp only [Bool.and_eq_true, h, decide_eq_true_eq]
 by_cases h0 : x.op = 0 \/ x.op = 3
 .rw [if_pos h0]
  simp only [decide_eq_true_eq]
  omega
 .rw [if_neg h0]
  by_cases h2 : x.op = 2
  .rw [if_pos h2]
   simp only [Bool.and_eq_true, decide_eq_true_eq]
   omega
  .rw [if_neg h2]
   by_cases h1 : x.op = 1
   .rw [if_pos h1]
    simp only [Bool.and_eq_true, decide_eq_true_eq]
    omega
   .rw [if_neg h1]
    simp only [Bool.and_eq_true, decide_eq_true_eq]
    omega
set_option maxHeartbeats 1000000 in
theorem qjb1 (x : Ins) : Gives Tryz.prog 145 [x.av] (.bool (qbp x)) := by
 have c1 := qlh1 x.op
 have c2 := qqq1 x
 obtain ⟨R, hR⟩ : ∃ R, R = qbp x := ⟨_, rfl⟩
 rw [<- hR]
 rw [qdq1] at hR
 generalize opOk x.op = b at *
 cases b
 .refine qg Tryz.func145 Tryz.ntmps145 fun σ n0 hcl hft => ?_
  repeat' (first | ((first | ((with_reducible refine qj (fun hg => ?_) (fun hg => ?_)) <;> (try simp only [hg]) <;> (try simp only [gS] at hg) <;> (try (first | simp only [eq_false hg, gI] | simp only [eq_true hg, gI]))) | refine Stp.m ?_ | refine qh ?_ | refine agH ?_) <;> (try simp (disch := first | omega | simp) [qc, -qe, -qi])) | refine sideA ?_ | refine qb fun K hK => ?_ | refine qa ?_ | refine qf ?_ | refine qd ?_ | (refine hK _ ?_; clear hK K) | clear hK K)
  all_goals (subst hR; simp_all)
 generalize bareI x = y at *
 cases hy : Ins.eqB y x
 .rw [hy] at hR
  refine qg Tryz.func145 Tryz.ntmps145 fun σ n0 hcl hft => ?_
  repeat' (first | ((first | ((with_reducible refine qj (fun hg => ?_) (fun hg => ?_)) <;> (try simp only [hg]) <;> (try simp only [gS] at hg) <;> (try (first | simp only [eq_false hg, gI] | simp only [eq_true hg, gI]))) | refine Stp.m ?_ | refine qh ?_ | refine agH ?_) <;> (try simp (disch := first | omega | simp) [qc, -qe, -qi, hy])) | refine sideA ?_ | refine qb fun K hK => ?_ | refine qa ?_ | refine qf ?_ | refine qd ?_ | (refine hK _ ?_; clear hK K) | clear hK K)
  all_goals (subst hR; simp_all)
 rw [hy] at hR
 by_cases hs : (x.s.size : Int) <= 200
 .have hsh : ((x.n).fdiv 2 = 0) ↔ (x.n = 0 \/ x.n = 1) := by
   rw [Int.fdiv_eq_ediv_of_nonneg _ (by omega)]
   omega
  refine qg Tryz.func145 Tryz.ntmps145 fun σ n0 hcl hft => ?_
  repeat' (first | ((first | ((with_reducible refine qj (fun hg => ?_) (fun hg => ?_)) <;> (try simp only [hg]) <;> (try simp only [gS] at hg) <;> (try (first | simp only [eq_false hg, gI] | simp only [eq_true hg, gI]))) | refine Stp.m ?_ | refine qh ?_ | refine agH ?_) <;> (try simp (disch := first | omega | simp) [qc, -qe, -qi, hy, hs])) | refine sideA ?_ | refine qb fun K hK => ?_ | refine qa ?_ | refine qf ?_ | refine qd ?_ | (refine hK _ ?_; clear hK K) | clear hK K)
  .rw [hR]; simp [hs, hg]
  .rw [show (2 : Int) ^ min 1 IntKind.i64.bits = 2 from rfl, hR, Bool.eq_iff_iff]
   simp only [beq_iff_eq, hsh]
   simp [hs, hg]
 .refine qg Tryz.func145 Tryz.ntmps145 fun σ n0 hcl hft => ?_
  repeat' (first | ((first | ((with_reducible refine qj (fun hg => ?_) (fun hg => ?_)) <;> (try simp only [hg]) <;> (try simp only [gS] at hg) <;> (try (first | simp only [eq_false hg, gI] | simp only [eq_true hg, gI]))) | refine Stp.m ?_ | refine qh ?_ | refine agH ?_) <;> (try simp (disch := first | omega | simp) [qc, -qe, -qi, hy, hs])) | refine sideA ?_ | refine qb fun K hK => ?_ | refine qa ?_ | refine qf ?_ | refine qd ?_ | (refine hK _ ?_; clear hK K) | clear hK K)
  all_goals (subst hR; simp_all)
  all_goals omega
theorem bad_g (done : List Bool) (r : Int) (h0 : 0 <= r) (h1 : r < done.length) (σ : Nat -> AB) (b d : Nat) (hb : σ b = .cells [.own d done.length] 150) (hd : σ d = .vec (done.map AV.bool) 4 1) :
  qbc Tryz.prog 146 [.int r, .ptr b 0] σ (.bool (!done.getD r.toNat false)) := by
 have hg : done[r.toNat]? = some (done.getD r.toNat false) := by
  rw [List.getD_eq_getElem?_getD, List.getElem?_eq_getElem (by omega)]; rfl
 refine qn Tryz.func146 Tryz.ntmps146 rfl rfl (by decide) rfl (by intro n; simp) fun n0 hfin hcl hft => ?_
 have hloc := qbv hfin hb (by simp)
 have hloc2 := qbv hfin hd (by simp)
 repeat' (first | ((first | ((with_reducible refine qj (fun hg => ?_) (fun hg => ?_)) <;> (try simp only [hg]) <;> (try simp only [gS] at hg) <;> (try (first | simp only [eq_false hg, gI] | simp only [eq_true hg, gI]))) | refine Stp.m ?_) <;> (try simp (disch := first | omega | simp) [qc, -qe, -qi, hloc, hloc2, h0, h1])) | refine sideA ?_ | refine qb fun K hK => ?_ | refine qa ?_ | refine qf ?_ | refine qd ?_ | (refine hK _ ?_; clear hK K) | clear hK K)
def offR (types : List Int) (r : Int) : Bool := decide (r < 0) || decide ((types.length : Int) <= r)
theorem EOp.frz {P : Program} {s : AS} {o : Op} {K : AV -> AS -> Prop} {r n : Nat} {l : List AV} {et : TypeId} {sz : Nat} (h : EOp P s o fun x s1 => x = .own r n /\ n = l.length /\ s1.st r = .vec l et sz /\ K (.gs s1.nx l) ((s1.set r .dead).ext (some (.tail l.length et sz)))) : EOp P s o K := by
 intro X0 a w X oper ho hc Q
 refine OwpA.mono ?_ (h X0 a w X oper ho hc Q)
 rintro a' w' ⟨v, x, s1, X', e1, ⟨rfl, hn, hσ, hK⟩, hc', hr⟩
 obtain ⟨X2, hw, hc2, hF, hR⟩ := qnr hc' hσ
 exact ⟨v, _, _, X2, e1, hK, hc2, hR v n hn hr⟩
theorem qiq1 (s : AS) (ab cd : AB) : ((s.ext (some ab)).set s.nx .dead).ext (some cd) = (s.ext (some .dead)).ext (some cd) := by
 have h : (s.ext (some ab)).set s.nx .dead = s.ext (some .dead) := by
  unfold AS.set AS.ext AS.nx
  dsimp only
  rw [if_neg (by omega), Nat.add_sub_cancel_left]
  simp
 rw [h]
def aevZ (P : Program) (s : AS) (o : Op) (K : AV -> AS -> Prop) : Prop :=
 match o with
 | .buildSlice t n ⟨p :: ps⟩ => match vinfo P t with
  | some (e, sz, _) => n = (p :: ps).length /\ n * sz <= 16777216 /\ bldS sz 0 ((p :: ps).map fun p => (p.1, s.eval p.2)) /\ AV.wid ((p :: ps).map fun p => (s.eval p.2).pub) sz /\
    K (.gs (s.n0 + (s.L.length + 1)) ((p :: ps).map fun p => (s.eval p.2).pub)) ((s.ext (some .dead)).ext (some (.tail n e sz)))
  | none => False
 | o => aev P s o K
theorem qzo {P : Program} {s : AS} {o : Op} {K : AV -> AS -> Prop} (h : aevZ P s o K) : EOp P s o K := by
 unfold aevZ at h
 split at h
 .rename_i t n p ps
  split at h
  .rename_i e sz _ hv
   obtain ⟨h1, h2, h3, h4, h5⟩ := h
   have hlen : ((p :: ps).map fun p => (s.eval p.2).pub).length = n := by rw [List.length_map, h1]
   refine EOp.frz (r := s.nx) (n := n) (l := (p :: ps).map fun p => (s.eval p.2).pub) (et := e) (sz := sz) (qhs (nb := some _) (qob hv h1 h2 h3 h4) ⟨rfl, hlen.symm, ?_, ?_⟩)
   .show loc s.σ s.n0 (s.L ++ [_]) (s.n0 + s.L.length) = _
    rw [qee1]; simp
   .rw [qiq1, hlen]
    have : (s.ext (some (AB.vec ((p :: ps).map fun p => (s.eval p.2).pub) e sz))).nx = s.n0 + (s.L.length + 1) := by
     show s.n0 + (s.L ++ [_]).length = _
     simp
    rw [this]
    exact h5
  .exact h.elim
 .exact qck h
def aseqZ (P : Program) (ops : Array Oper) (K : AS -> Prop) : List Oper -> AS -> Prop
 | [], s => K s
 | o :: l, s => match awant ops o s.t with
  | some b => qbm b (aevZ P s o.op (fun x s1 => dstOk o.dst s1.n /\ aseqZ P ops K l (s1.put o.dst x))) (dstOk o.dst s.n /\ aseqZ P ops K l (s.put o.dst (.v undef)))
  | none => False
theorem qhm {P : Program} {ops : Array Oper} {K : AS -> Prop} : ∀ {l : List Oper} {s : AS}, aseqZ P ops K l s -> aseq P ops K l s
 | [], _, h => h
 | o :: l, s, h => by
  rw [aseqZ] at h
  rw [aseq]
  split at h
  .rename_i b hb
   cases b with
   | true => exact ⟨true, hb, (qzo (h.1 rfl)).mono fun x s1 ⟨h1, h2⟩ => ⟨h1, qhm h2⟩⟩
   | false => exact ⟨false, hb, (h.2 rfl).1, qhm (h.2 rfl).2⟩
  .exact h.elim
theorem qvg {P : Program} {s : AS} {id : Nat} {l : List Oper} {Q : Exit -> AS -> Prop} (h : aseqZ P l.toArray (Q .normal) l s) : awp P (.region id l.toArray false) Q s := qdh (qhm h)
instance {P : Program} {ops : Array Oper} {K : AS -> Prop} {o : Oper} {l : List Oper} {s : AS} : Stp (aseqZ P ops K (o :: l) s) (match awant ops o s.t with
  | some b => qbm b (aevZ P s o.op (fun x s1 => dstOk o.dst s1.n /\ aseqZ P ops K l (s1.put o.dst x))) (dstOk o.dst s.n /\ aseqZ P ops K l (s.put o.dst (.v undef)))
  | none => False) := ⟨fun h => h⟩
instance {P : Program} {ops : Array Oper} {K : AS -> Prop} {s : AS} : Stp (aseqZ P ops K [] s) (K s) := ⟨fun h => h⟩
attribute [simp] aevZ
set_option maxHeartbeats 4000000 in
theorem ver_g (x : Ins) (cols types : List Int) (done : List Bool) (hdl : done.length = types.length) (ht : types.length <= 1000) (hc : cols.length <= 1000000) (σ : Nat -> AB) (d : Nat) (hd : σ d = .vec (done.map AV.bool) 4 1) :
  qbc Tryz.prog 93 [x.av, .sl (cols.map AV.int), .sl (types.map AV.int), .own d done.length] σ (.int (verI cols types done x)) := by
 have c0 := qjb1 x
 have c1 := ops_g x
 obtain ⟨R, hR⟩ : ∃ R, R = verI cols types done x := ⟨_, rfl⟩
 rw [<- hR]
 unfold verI at hR
 cases hf : qbp x
 .rw [hf] at c0 hR
  refine qn Tryz.func93 Tryz.ntmps93 rfl rfl (by decide) rfl (by intro n; simp) fun n0 hfin hcl hft => ?_
  have hrn := qcu hfin hd (by simp)
  repeat' (first | ((first | ((with_reducible refine qj (fun hg => ?_) (fun hg => ?_)) <;> (try simp only [hg]) <;> (try simp only [gS] at hg) <;> (try (first | simp only [eq_false hg, gI] | simp only [eq_true hg, gI]))) | refine Stp.m ?_ | refine qh ?_ | refine agH ?_ | refine qbk (c0) ?_) <;> (try simp (disch := first | omega | simp) [qc, -qe, -qi, hrn])) | refine sideA ?_ | refine qb fun K hK => ?_ | refine qa ?_ | refine qf ?_ | refine qd ?_ | (refine hK _ ?_; clear hK K) | clear hK K)
  rw [hR]; rfl
 rw [hf] at c0 hR
 rw [if_neg (by simp)] at hR
 have hol : (opsP x).length <= 3 := by
  have h1 := qhc x
  have h2 := qfx x.op
  split at h1 <;> omega
 refine qn Tryz.func93 Tryz.ntmps93 rfl rfl (by decide) rfl (by intro n; simp) fun n0 hfin hcl hft => ?_
 have hrn := qcu hfin hd (by simp)
 have hloc := qbv hfin hd (by simp)
 have hsz : (1 + (opsP x).length) * 8 <= 140737488355328 := by omega
 have c2 : ∀ τ : Nat -> AB, (∀ r ∈ opsP x, 0 <= r /\ r < types.length) -> τ (n0 + 1) = .cells [.own d done.length] 150 -> τ d = .vec (done.map AV.bool) 4 1 ->
   qbc Tryz.prog 91 [.sl ((opsP x).map AV.int), .fn 146 [.ptr (n0 + 1) 0]] τ (.bool ((opsP x).any fun r => !done.getD r.toNat false)) := fun τ hr h1 h2 =>
  qcq1 (opsP x) _ _ (by kernel_rfl) (n0 + 1) τ h1 (fun r hm => bad_g done r (hr r hm).1 (by rw [hdl]; exact (hr r hm).2) τ (n0 + 1) d h1 h2) (by omega)
 have hpx : parts (exI x) <= 1000000 := by
  have h1 : ∀ l : List Int, qm (l.map qcv) = l.length := fun l => by
   induction l with
   | nil => rfl
   | cons r l ih => rw [List.map_cons, qm, ih]; unfold qcv; rw [parts, qm, List.length_cons]; omega
  unfold exI; rw [parts, h1]; omega
 have c3 : Gives Tryz.prog 32 [.sl [], .sl (cols.map AV.int), .sl (types.map AV.int), .agg [.int x.op, .int x.n, .str x.s, .sl ((opsP x).map fun r => (qcv r).av)]] (.tup [.int ((tyI cols types x).getD 0), .bool (tyI cols types x).isSome]) := by
  have h1 := qhb1 [] cols types (exI x) hpx (by simp)
  unfold exI at h1
  rw [Ex.av_mk, List.map_map] at h1
  exact h1
 repeat' (first | ((first | ((with_reducible refine qj (fun hg => ?_) (fun hg => ?_)) <;> (try simp only [hg]) <;> (try simp only [gS] at hg) <;> (try (first | simp only [eq_false hg, gI] | simp only [eq_true hg, gI]))) | refine Stp.m ?_ | refine qh ?_ | refine agH ?_ | refine qbk (c0) ?_ | refine qbk (c1) ?_) <;> (try simp (disch := first | omega | simp) [qc, -qe, -qi, hrn, hloc, hsz])) | with_reducible refine qvg (id := 4) ?_ | refine sideA ?_ | refine qb fun K hK => ?_ | refine qa ?_ | refine qf ?_ | refine qd ?_ | (refine hK _ ?_; clear hK K) | clear hK K)
 obtain ⟨L, hL⟩ : ∃ L, L = x.tgt :: opsP x := ⟨_, rfl⟩
 have hLa : AV.int x.tgt :: (opsP x).map AV.int = L.map AV.int := by rw [hL]; rfl
 have hLl : (opsP x).length + 1 = L.length := by rw [hL]; rfl
 refine qk hcl (fun k : Nat => [(1, .sl (cols.map AV.int)), (2, .sl (types.map AV.int)), (4, .ptr n0 0), (7, .ptr (n0 + 1) 0), (9, .sl ((opsP x).map AV.int)), (26, .gs (n0 + 3) (L.map AV.int)), (27, .int L.length), (28, .int k)])
  (fun _ => [.cells [.int x.op, .int x.tgt, .int x.a, .int x.b, .int x.c, .int x.n, .str x.s] 58, .cells [.own d done.length] 150, .dead, .tail (1 + (opsP x).length) 3 1])
  (fun k => k <= L.length /\ ∀ j (h : j < L.length), j < k -> offR types L[j] = false) (fun k => L.length - k) 0 (by simp) (by simp; exact ⟨by omega, hLa, by omega⟩) fun k ⟨hk, he⟩ => ?_
 by_cases hlt : k < L.length
 .have hbad : offR types L[k] = true -> 3 = R := fun ho => by
   rw [hR, if_pos]
   rw [<- hL]
   exact List.any_eq_true.2 ⟨L[k], List.getElem_mem _, ho⟩
  repeat' (first | ((first | ((with_reducible refine qj (fun hg => ?_) (fun hg => ?_)) <;> (try simp only [hg]) <;> (try simp only [gS] at hg) <;> (try (first | simp only [eq_false hg, gI] | simp only [eq_true hg, gI]))) | refine Stp.m ?_) <;> (try simp (disch := first | omega | simp) [qc, -qe, -qi, hrn, hlt])) | refine sideA ?_ | refine qb fun K hK => ?_ | refine qa ?_ | refine qf ?_ | refine qd ?_ | (refine hK _ ?_; clear hK K) | clear hK K)
  all_goals
   first
   | exact hbad (by unfold offR; simp; omega)
   | exact ⟨k + 1, ⟨by omega, qdr (C := fun r => offR types r = false) he fun _ => by unfold offR; simp; omega⟩, by omega, by simp; omega⟩
 have hall : ∀ r ∈ L, offR types r = false := fun r hr => by
  obtain ⟨j, hj, rfl⟩ := List.mem_iff_getElem.1 hr
  exact he j hj (by omega)
 have hin : ∀ r ∈ L, 0 <= r /\ r < types.length := fun r hr => by
  have := hall r hr
  unfold offR at this
  simp at this; omega
 rw [if_neg (by rw [Bool.not_eq_true, <- hL, List.any_eq_false]; intro r hr; have := hall r hr; unfold offR at this; rw [this]; simp)] at hR
 have hx0 := hin x.tgt (by rw [hL]; simp)
 have hxs : ∀ r ∈ opsP x, 0 <= r /\ r < types.length := fun r hr => hin r (by rw [hL]; simp [hr])
 have hdn : d < n0 + 4 := by omega
 have hex : ∀ r : Int, (AV.agg [.int 4, .int r, .str ByteArray.empty, .sl []]) = (qcv r).av := fun r => by unfold qcv; rw [Ex.av_mk]; rfl
 cases hany : (opsP x).any fun r => !done.getD r.toNat false
 .rw [hany] at c2 hR
  repeat' (first | ((first | ((with_reducible refine qj (fun hg => ?_) (fun hg => ?_)) <;> (try simp only [hg]) <;> (try simp only [gS] at hg) <;> (try (first | simp only [eq_false hg, gI] | simp only [eq_true hg, gI]))) | refine Stp.m ?_ | refine acall (c2 _ hxs (by simp) (hloc _)) ?_ | refine qet (c2 _ hxs (by simp) (hloc _)) ?_ | refine qbk (c2 _ hxs (by simp) (hloc _)) ?_) <;> (try simp (disch := first | omega | simp) [qc, -qe, -qi, hrn, hlt, hdn])) | refine sideA ?_ | refine qb fun K hK => ?_ | refine qa ?_ | refine qf ?_ | refine qd ?_ | (refine hK _ ?_; clear hK K) | clear hK K)
  any_goals (rw [hR, if_pos (by omega)]; done)
  all_goals
   have hncol : ¬ (x.op = 3 /\ (x.n < 0 \/ (cols.length : Int) <= x.n)) := by omega
   rw [if_neg hncol, if_neg (by simp)] at hR
   refine qco 4 3 44 4 (by rfl) (by rfl) ?_
   refine qk hcl (fun k : Nat => [(1, .sl (cols.map AV.int)), (2, .sl (types.map AV.int)), (4, .ptr n0 0), (12, .ptr (n0 + 4) 0), (66, .sl ((opsP x).map AV.int)), (67, .int (opsP x).length), (68, .int k)])
    (fun k => [.cells [.int x.op, .int x.tgt, .int x.a, .int x.b, .int x.c, .int x.n, .str x.s] 58, .cells [.own d done.length] 150, .dead, .tail (1 + (opsP x).length) 3 1,
     .cells [.int x.op, .int x.n, .str x.s, .gs (n0 + 5) (((opsP x).take k).map fun r => (qcv r).av)] 44, .tail k 44 4])
    (fun k => k <= (opsP x).length) (fun k => (opsP x).length - k) 0 (by simp) (by simp; omega) fun k hk2 => ?_
   by_cases hlt2 : k < (opsP x).length
   .have htk : ((opsP x).map fun r => (qcv r).av).take (k + 1) = ((opsP x).map fun r => (qcv r).av).take k ++ [(qcv (opsP x)[k]).av] := by
     rw [List.take_succ_eq_append_getElem (by simpa using hlt2), List.getElem_map]
    have hsz2 : (k + 1) * 56 <= 140737488355328 := by omega
    repeat' (first | ((first | ((with_reducible refine qj (fun hg => ?_) (fun hg => ?_)) <;> (try simp only [hg]) <;> (try simp only [gS] at hg) <;> (try (first | simp only [eq_false hg, gI] | simp only [eq_true hg, gI]))) | refine Stp.m ?_) <;> (try simp (disch := first | omega | simp) [qc, -qe, -qi, hlt2, hex, hsz2, hdn])) | refine sideA ?_ | refine qb fun K hK => ?_ | refine qa ?_ | refine qf ?_ | refine qd ?_ | (refine hK _ ?_; clear hK K) | clear hK K)
    exact ⟨k + 1, by omega, by omega, ⟨htk.symm, rfl⟩, by omega, by omega⟩
   .obtain rfl : k = (opsP x).length := by omega
    cases hT : tyI cols types x
    .rw [hT] at c3 hR
     repeat' (first | ((first | ((with_reducible refine qj (fun hg => ?_) (fun hg => ?_)) <;> (try simp only [hg]) <;> (try simp only [gS] at hg) <;> (try (first | simp only [eq_false hg, gI] | simp only [eq_true hg, gI]))) | refine Stp.m ?_ | refine qh ?_ | refine agH ?_ | refine qbk (c3) ?_) <;> (try simp (disch := first | omega | simp) [qc, -qe, -qi, hlt2, hdn])) | refine sideA ?_ | refine qb fun K hK => ?_ | refine qa ?_ | refine qf ?_ | refine qd ?_ | (refine hK _ ?_; clear hK K) | clear hK K)
     rw [hR]; simp
    .rename_i t
     have hgt : types.getD x.tgt.toNat 0 = types[x.tgt.toNat]'(by omega) := by rw [List.getD_eq_getElem?_getD, List.getElem?_eq_getElem (by omega)]; rfl
     rw [hT, hgt] at hR
     rw [hT] at c3
     repeat' (first | ((first | ((with_reducible refine qj (fun hg => ?_) (fun hg => ?_)) <;> (try simp only [hg]) <;> (try simp only [gS] at hg) <;> (try (first | simp only [eq_false hg, gI] | simp only [eq_true hg, gI]))) | refine Stp.m ?_ | refine qh ?_ | refine agH ?_ | refine qbk (c3) ?_) <;> (try simp (disch := first | omega | simp) [qc, -qe, -qi, hlt2, hdn])) | refine sideA ?_ | refine qb fun K hK => ?_ | refine qa ?_ | refine qf ?_ | refine qd ?_ | (refine hK _ ?_; clear hK K) | clear hK K)
     all_goals (rw [hR]; simp_all)
 .rw [hany] at c2 hR
  repeat' (first | ((first | ((with_reducible refine qj (fun hg => ?_) (fun hg => ?_)) <;> (try simp only [hg]) <;> (try simp only [gS] at hg) <;> (try (first | simp only [eq_false hg, gI] | simp only [eq_true hg, gI]))) | refine Stp.m ?_ | refine acall (c2 _ hxs (by simp) (hloc _)) ?_ | refine qet (c2 _ hxs (by simp) (hloc _)) ?_ | refine qbk (c2 _ hxs (by simp) (hloc _)) ?_) <;> (try simp (disch := first | omega | simp) [qc, -qe, -qi, hrn, hlt, hdn])) | refine sideA ?_ | refine qb fun K hK => ?_ | refine qa ?_ | refine qf ?_ | refine qd ?_ | (refine hK _ ?_; clear hK K) | clear hK K)
  all_goals first | (rw [hR, if_pos (by omega)]; done) | (rw [hR, if_neg (by omega), if_pos rfl]; done)
theorem qpk1 (t : Int) : Gives Tryz.prog 92 [.int t] (.bool (decide (t < 0) || decide (3 <= t))) := by
 refine qg Tryz.func92 Tryz.ntmps92 fun σ n0 hcl hft => ?_
 repeat' (first | ((first | ((with_reducible refine qj (fun hg => ?_) (fun hg => ?_)) <;> (try simp only [hg]) <;> (try simp only [gS] at hg) <;> (try (first | simp only [eq_false hg, gI] | simp only [eq_true hg, gI]))) | refine Stp.m ?_) <;> (try simp (disch := first | omega | simp) [qc, -qe, -qi])) | refine sideA ?_ | refine qb fun K hK => ?_ | refine qa ?_ | refine qf ?_ | refine qd ?_ | (refine hK _ ?_; clear hK K) | clear hK K)
 all_goals simp_all
 all_goals omega
set_option maxHeartbeats 4000000 in
theorem qrg (c : Cod) (cols : List Int) (hc : cols.length <= 1000000) : Gives Tryz.prog 49 [c.av, .sl (cols.map AV.int)] (.tup [.int (verP c cols).1, .int (verP c cols).2]) := by
 obtain ⟨R, hR⟩ : ∃ R, R = verP c cols := ⟨_, rfl⟩
 rw [<- hR]
 unfold verP at hR
 obtain ⟨ins, types, out⟩ := c
 simp only at hR
 by_cases h1 : 1000 < ins.length \/ 1000 < types.length
 .rw [if_pos h1] at hR
  refine qg Tryz.func49 Tryz.ntmps49 fun σ n0 hcl hft => ?_
  repeat' (first | ((first | ((with_reducible refine qj (fun hg => ?_) (fun hg => ?_)) <;> (try simp only [hg]) <;> (try simp only [gS] at hg) <;> (try (first | simp only [eq_false hg, gI] | simp only [eq_true hg, gI]))) | refine Stp.m ?_) <;> (try simp (disch := first | omega | simp) [qc, -qe, -qi])) | refine sideA ?_ | refine qb fun K hK => ?_ | refine qa ?_ | refine qf ?_ | refine qd ?_ | (refine hK _ ?_; clear hK K) | clear hK K)
  all_goals (rw [hR]; first | (simp; done) | omega)
 rw [if_neg h1] at hR
 have h1a : ¬ (1000 : Int) < ins.length := by omega
 have h1b : ¬ (1000 : Int) < types.length := by omega
 have c1 := qcp1 types (fun t => decide (t < 0) || decide (3 <= t)) 92 (by kernel_rfl) (fun t _ => qpk1 t) (by omega)
 cases hk : types.any (fun t => decide (t < 0) || decide (3 <= t))
 .rw [hk] at c1 hR
  rw [if_neg (by simp)] at hR
  obtain ⟨V, hV⟩ : ∃ V, V = verL cols types ins 0 (List.replicate types.length false) := ⟨_, rfl⟩
  rw [<- hV] at hR
  try dsimp only at hR
  have hsz : 1 * types.length <= 281474976710656 := by omega
  refine qg Tryz.func49 Tryz.ntmps49 fun σ n0 hcl hft => ?_
  repeat' (first | ((first | ((with_reducible refine qj (fun hg => ?_) (fun hg => ?_)) <;> (try simp only [hg]) <;> (try simp only [gS] at hg) <;> (try (first | simp only [eq_false hg, gI] | simp only [eq_true hg, gI]))) | refine Stp.m ?_ | refine qh ?_ | refine agH ?_) <;> (try simp (disch := first | omega | simp) [qc, -qe, -qi, h1a, h1b, hsz])) | refine sideA ?_ | refine qb fun K hK => ?_ | refine qa ?_ | refine qf ?_ | refine qd ?_ | (refine hK _ ?_; clear hK K) | clear hK K)
  refine qk hcl (fun b : Nat × List Bool => [(1, .sl (cols.map AV.int)), (2, .ptr n0 0), (6, .own (n0 + 1) types.length), (28, .sl (ins.map Ins.av)), (29, .int ins.length), (30, .int b.1)])
   (fun b => [.cells [.sl (ins.map Ins.av), .sl (types.map AV.int), .int out] 39, .vec (b.2.map AV.bool) 4 1])
   (fun b => b.1 <= ins.length /\ b.2.length = types.length /\ V = verL cols types (ins.drop b.1) b.1 b.2) (fun b => ins.length - b.1) (0, List.replicate types.length false) ⟨by omega, by simp, hV⟩ (by simp) fun ⟨k, D⟩ ⟨hk1, hD, hVk⟩ => ?_
  simp only at hk1 hD hVk
  by_cases hlt : k < ins.length
  .have hdr : ins.drop k = ins[k] :: ins.drop (k + 1) := List.drop_eq_getElem_cons hlt
   rw [hdr, verL] at hVk
   have c2 : ∀ τ : Nat -> AB, τ (n0 + 1) = .vec (D.map AV.bool) 4 1 -> qbc Tryz.prog 93 [ins[k].av, .sl (cols.map AV.int), .sl (types.map AV.int), .own (n0 + 1) types.length] τ (.int (verI cols types D ins[k])) := fun τ h => by
    have := ver_g ins[k] cols types D hD (by omega) hc τ (n0 + 1) h
    rwa [hD] at this
   by_cases hv : verI cols types D ins[k] = 0
   .rw [if_pos hv] at hVk
    rw [hv] at c2
    have hok := qhi1 hv
    have t0 := hok.to0
    have t1 : ins[k].tgt < D.length := by rw [hD]; exact hok.to1
    repeat' (first | ((first | ((with_reducible refine qj (fun hg => ?_) (fun hg => ?_)) <;> (try simp only [hg]) <;> (try simp only [gS] at hg) <;> (try (first | simp only [eq_false hg, gI] | simp only [eq_true hg, gI]))) | refine Stp.m ?_ | refine acall (c2 _ (by simp)) ?_ | refine qet (c2 _ (by simp)) ?_ | refine qbk (c2 _ (by simp)) ?_) <;> (try simp (disch := first | omega | simp) [qc, -qe, -qi, hlt, hD, t0, t1])) | refine sideA ?_ | refine qb fun K hK => ?_ | refine qa ?_ | refine qf ?_ | refine qd ?_ | (refine hK _ ?_; clear hK K) | clear hK K)
    exact ⟨k + 1, D.set ins[k].tgt.toNat true, ⟨by omega, by rw [List.length_set]; exact hD, hVk⟩, by omega, by rw [List.map_set], by omega⟩
   .rw [if_neg hv] at hVk
    repeat' (first | ((first | ((with_reducible refine qj (fun hg => ?_) (fun hg => ?_)) <;> (try simp only [hg]) <;> (try simp only [gS] at hg) <;> (try (first | simp only [eq_false hg, gI] | simp only [eq_true hg, gI]))) | refine Stp.m ?_ | refine acall (c2 _ (by simp)) ?_ | refine qet (c2 _ (by simp)) ?_ | refine qbk (c2 _ (by simp)) ?_) <;> (try simp (disch := first | omega | simp) [qc, -qe, -qi, hlt, hD, hv])) | refine sideA ?_ | refine qb fun K hK => ?_ | refine qa ?_ | refine qf ?_ | refine qd ?_ | (refine hK _ ?_; clear hK K) | clear hK K)
    all_goals
     first
     | exact absurd (by assumption) hv
     | (rw [hR, hVk]; dsimp only; rw [if_pos hv]; exact ⟨rfl, rfl⟩)
  .have hVe : V = ((-1, 0), D) := by rw [hVk, List.drop_eq_nil_of_le (by omega)]; rfl
   rw [hVe] at hR
   dsimp only at hR
   rw [if_neg (by simp)] at hR
   have hD' : types.length = D.length := hD.symm
   by_cases ho : out < 0 \/ (types.length : Int) <= out
   .rw [if_pos ho] at hR
    repeat' (first | ((first | ((with_reducible refine qj (fun hg => ?_) (fun hg => ?_)) <;> (try simp only [hg]) <;> (try simp only [gS] at hg) <;> (try (first | simp only [eq_false hg, gI] | simp only [eq_true hg, gI]))) | refine Stp.m ?_) <;> (try simp (disch := first | omega | simp) [qc, -qe, -qi, hlt, hD'])) | refine sideA ?_ | refine qb fun K hK => ?_ | refine qa ?_ | refine qf ?_ | refine qd ?_ | (refine hK _ ?_; clear hK K) | clear hK K)
    all_goals
     first
     | (rw [hR]; exact ⟨rfl, rfl⟩)
     | (exfalso; omega)
   .rw [if_neg ho] at hR
    have o0 : ¬ out < 0 := by omega
    have o0' : 0 <= out := by omega
    have o1 : ¬ (types.length : Int) <= out := by omega
    have o2 : out < types.length := by omega
    have o3 : out < D.length := by omega
    have hgd : D.getD out.toNat false = D[out.toNat]'(by omega) := by rw [List.getD_eq_getElem?_getD, List.getElem?_eq_getElem (by omega)]; rfl
    rw [hgd] at hR
    generalize hB : D[out.toNat]'(by omega) = B at hR
    cases B
    .repeat' (first | ((first | ((with_reducible refine qj (fun hg => ?_) (fun hg => ?_)) <;> (try simp only [hg]) <;> (try simp only [gS] at hg) <;> (try (first | simp only [eq_false hg, gI] | simp only [eq_true hg, gI]))) | refine Stp.m ?_) <;> (try simp (disch := first | omega | simp) [qc, -qe, -qi, hlt, hD, o0, o0', o1, o2, o3, hB])) | refine sideA ?_ | refine qb fun K hK => ?_ | refine qa ?_ | refine qf ?_ | refine qd ?_ | (refine hK _ ?_; clear hK K) | clear hK K)
     rw [hR]; simp
    .repeat' (first | ((first | ((with_reducible refine qj (fun hg => ?_) (fun hg => ?_)) <;> (try simp only [hg]) <;> (try simp only [gS] at hg) <;> (try (first | simp only [eq_false hg, gI] | simp only [eq_true hg, gI]))) | refine Stp.m ?_) <;> (try simp (disch := first | omega | simp) [qc, -qe, -qi, hlt, hD, o0, o0', o1, o2, o3, hB])) | refine sideA ?_ | refine qb fun K hK => ?_ | refine qa ?_ | refine qf ?_ | refine qd ?_ | (refine hK _ ?_; clear hK K) | clear hK K)
     rw [hR]; simp
 .rw [hk] at c1 hR
  rw [if_pos rfl] at hR
  refine qg Tryz.func49 Tryz.ntmps49 fun σ n0 hcl hft => ?_
  repeat' (first | ((first | ((with_reducible refine qj (fun hg => ?_) (fun hg => ?_)) <;> (try simp only [hg]) <;> (try simp only [gS] at hg) <;> (try (first | simp only [eq_false hg, gI] | simp only [eq_true hg, gI]))) | refine Stp.m ?_ | refine qh ?_ | refine agH ?_) <;> (try simp (disch := first | omega | simp) [qc, -qe, -qi, h1a, h1b])) | refine sideA ?_ | refine qb fun K hK => ?_ | refine qa ?_ | refine qf ?_ | refine qd ?_ | (refine hK _ ?_; clear hK K) | clear hK K)
  all_goals (rw [hR]; first | (simp; done) | omega)
theorem qik1 {F : List Fn} {cols : List Int} {e y : Ex} {t time : Int} {row : List Val} (hOk : ∀ i, i < F.length -> okF F i = true) (ht : ty F cols [] e = some t) (hy : qbj F e = some y) (g1 : ty [] cols [] y = some t) (hk : row.map Val.k = cols) (hs : ∀ v ∈ row, qr v) :
  ev (fun _ _ => zeroV) time row [] (foldE y) = evalP F time row e := by
 subst hk
 rw [(qvs y g1).2 _ _ _ _ (qgd1 (qbu.of hs)), <- (qog hOk hs ht hy).2]
 unfold evalP
 rw [qzv]
structure Mach (σ : Nat -> AB) (m v : Nat) (L : List Delta) (regs : List AV) : Prop where
 hm : σ m = .cells [.sl (L.map Delta.av), .own v regs.length] 159
 hv : σ v = .vec regs 53 1
theorem Mach.upto {σ τ : Nat -> AB} {m v : Nat} {L : List Delta} {regs : List AV} (h : Mach σ m v L regs) (hu : Upto σ τ) : Mach τ m v L regs := ⟨hu.at h.hm (by simp), hu.at h.hv (by simp)⟩
theorem Upto.trans {σ τ υ : Nat -> AB} (h : Upto σ τ) (h2 : Upto τ υ) : Upto σ υ := fun r hr => by
 rw [h2 r (by rw [h r hr]; exact hr), h r hr]
theorem qqu1 {σ : Nat -> AB} {n0 r : Nat} (hfin : Fin σ n0) (h : σ r ≠ .unborn) : r < n0 := Nat.lt_of_not_le fun hn => h (hfin r hn)
def Caps (σ : Nat -> AB) (caps : List AV) : Prop := ∀ n0, Fin σ n0 -> AV.cls n0 caps
set_option maxHeartbeats 4000000 in
theorem qkn {σ : Nat -> AB} {m v f : Nat} {L : List Delta} {regs : List AV} (hM : Mach σ m v L regs) (hf : enters Tryz.prog f = true) (caps : List AV) (hcap : Caps σ caps) (hL : L.length <= 1000000) (G : Delta -> Val)
  (h : ∀ τ, Upto σ τ -> ∀ i (h : i < L.length), qbc Tryz.prog f (.int i :: caps) τ (G L[i]).av) : qbc Tryz.prog 148 [.ptr m 0, .fn f caps] σ (.sl (L.map fun d => (G d).av)) := by
 have hsz : 32 * L.length <= 281474976710656 := by omega
 refine qn Tryz.func148 Tryz.ntmps148 rfl rfl (by decide) rfl (by intro n; simp) fun n0 hfin hcl hft => ?_
 have hl1 := qbv hfin hM.hm (by simp)
 have hmn := qcu hfin hM.hm (by simp)
 have hvn := qcu hfin hM.hv (by simp)
 have hcc := hcap n0 hfin
 repeat' (first | ((first | ((with_reducible refine qj (fun hg => ?_) (fun hg => ?_)) <;> (try simp only [hg]) <;> (try simp only [gS] at hg) <;> (try (first | simp only [eq_false hg, gI] | simp only [eq_true hg, gI]))) | refine Stp.m ?_) <;> (try simp (disch := first | omega | simp) [qc, -qe, -qi, hl1, hsz, hmn, hvn, hcc])) | refine sideA ?_ | refine qb fun K hK => ?_ | refine qa ?_ | refine qf ?_ | refine qd ?_ | (refine hK _ ?_; clear hK K) | clear hK K)
 refine qk hcl (fun k : Nat => [(1, .fn f caps), (5, .own n0 L.length), (17, .int L.length), (18, .int k)]) (fun k => [.vec (fillV (fun d => (G d).av) zeroV.av L k) 63 3])
  (fun k => k <= L.length) (fun k => L.length - k) 0 (by simp) (by simp [qnv, zeroV, Val.av, -Val.av_fold]; exact AV.cls_mono (by omega) _ hcc) fun k hk => ?_
 by_cases hlt : k < L.length
 .have c1 := h _ (qja hfin [.vec (fillV (fun d => (G d).av) zeroV.av L k) 63 3]) k hlt
  have hfl : (fillV (fun d => (G d).av) zeroV.av L k).length = L.length := qsn (by omega)
  have hge : (fillV (fun d => (G d).av) zeroV.av L k)[k]'(by rw [hfl]; exact hlt) = .agg [.int 0, .int 0, .str ByteArray.empty] := by
   have := qsm (f := fun d => (G d).av) (z := zeroV.av) hlt
   rw [List.getElem?_eq_getElem (by rw [hfl]; exact hlt)] at this
   injection this with this
  have hst := qso (f := fun d => (G d).av) (z := zeroV.av) hlt
  have hcc1 : AV.cls (n0 + 1) caps := AV.cls_mono (by omega) _ hcc
  repeat' (first | ((first | ((with_reducible refine qj (fun hg => ?_) (fun hg => ?_)) <;> (try simp only [hg]) <;> (try simp only [gS] at hg) <;> (try (first | simp only [eq_false hg, gI] | simp only [eq_true hg, gI]))) | refine Stp.m ?_ | refine qh ?_ | refine agH ?_ | refine qbk (c1) ?_) <;> (try simp (disch := first | omega | simp) [qc, -qe, -qi, hlt, hcc, hcc1, hf, hfl, hge])) | refine sideA ?_ | refine qb fun K hK => ?_ | refine qa ?_ | refine qf ?_ | refine qd ?_ | (refine hK _ ?_; clear hK K) | clear hK K)
  exact ⟨k + 1, by omega, by omega, hst, qsl (fun x => (G x).av_cl _) (Val.av_cl _ _), by omega⟩
 .obtain rfl : k = L.length := by omega
  rw [qsk]
  refine qdg 5 0 (k := L.length) (by simp) (by rfl) (by simp) ?_
  repeat' (first | ((first | ((with_reducible refine qj (fun hg => ?_) (fun hg => ?_)) <;> (try simp only [hg]) <;> (try simp only [gS] at hg) <;> (try (first | simp only [eq_false hg, gI] | simp only [eq_true hg, gI]))) | refine Stp.m ?_) <;> (try simp (disch := first | omega | simp) [qc, -qe, -qi, hlt])) | refine sideA ?_ | refine qb fun K hK => ?_ | refine qa ?_ | refine qf ?_ | refine qd ?_ | (refine hK _ ?_; clear hK K) | clear hK K)
theorem qpq {σ : Nat -> AB} {l : List Nat} (h : ∀ r ∈ l, σ r ≠ .unborn) : Caps σ (l.map fun r => AV.ptr r 0) := fun n0 hfin => AV.cls_iff.2 fun x hx => by
 obtain ⟨r, hr, rfl⟩ := List.mem_map.1 hx
 have := qqu1 hfin (h r hr)
 simpa using this
section
variable {σ : Nat -> AB} {m v : Nat} {L : List Delta} {regs : List AV} {x : Ins}
set_option maxHeartbeats 4000000 in
theorem qkl1 (hM : Mach σ m v L regs) (hL : L.length <= 1000000) (hop : x.op = 0 \/ x.op = 1 \/ x.op = 2 \/ x.op = 3 \/ x.op = 5) (hc : x.op = 3 -> ∀ d ∈ L, 0 <= x.n /\ x.n < d.row.length) :
  qbc Tryz.prog 95 [.ptr m 0, x.av] σ (.sl (L.map fun d => (opI d.time d.row x []).av)) := by
 refine qn Tryz.func95 Tryz.ntmps95 rfl rfl (by decide) rfl (by intro n; simp) fun n0 hfin hcl hft => ?_
 have hmn := qcu hfin hM.hm (by simp)
 have hvn := qcu hfin hM.hv (by simp)
 have hu := qja hfin [.cells [.ptr m 0] 156, .cells [.int x.op, .int x.tgt, .int x.a, .int x.b, .int x.c, .int x.n, .str x.s] 58]
 have hM2 := hM.upto hu
 have c1 := qkn hM2 (f := 149) (by kernel_rfl) _ (qpq (l := [n0 + 1, n0]) (by simp)) hL (fun d => opI d.time d.row x []) fun τ ht i hi =>
  qgg1 (ht.at (r := n0 + 1) (by simp) (by simp)) (ht.at (r := n0) (by simp) (by simp)) (hM2.upto ht).hm hi hop fun h3 => hc h3 _ (List.getElem_mem _)
 repeat' (first | ((first | ((with_reducible refine qj (fun hg => ?_) (fun hg => ?_)) <;> (try simp only [hg]) <;> (try simp only [gS] at hg) <;> (try (first | simp only [eq_false hg, gI] | simp only [eq_true hg, gI]))) | refine Stp.m ?_ | refine qh ?_ | refine agH ?_ | refine qbk (c1) ?_) <;> (try simp (disch := first | omega | simp) [qc, -qe, -qi, hmn, hvn])) | refine sideA ?_ | refine qb fun K hK => ?_ | refine qa ?_ | refine qf ?_ | refine qd ?_ | (refine hK _ ?_; clear hK K) | clear hK K)
set_option maxHeartbeats 4000000 in
theorem one_g (hM : Mach σ m v L regs) (hL : L.length <= 1000000) (hop : x.op = 6 \/ x.op = 7 \/ x.op = 20) {gA : Delta -> Val} (zA : 0 <= x.a) (hA : regs[x.a.toNat]? = some (.sl ((L.map gA).map Val.av))) :
  qbc Tryz.prog 96 [.ptr m 0, x.av] σ (.sl (L.map fun d => (opI d.time d.row x [gA d]).av)) := by
 obtain ⟨A, eA⟩ : ∃ A, A = L.map gA := ⟨_, rfl⟩
 rw [<- eA] at hA
 have lA : A.length = L.length := by rw [eA, List.length_map]
 have iA : ∀ i (h : i < L.length), A[i]'(by omega) = gA L[i] := fun i h => by subst eA; rw [List.getElem_map]
 have qA : x.a < regs.length := by have := (List.getElem?_eq_some_iff.1 hA).1; omega
 have rA : regs[x.a.toNat]'(by omega) = .sl (A.map Val.av) := (List.getElem?_eq_some_iff.1 hA).2
 refine qn Tryz.func96 Tryz.ntmps96 rfl rfl (by decide) rfl (by intro n; simp) fun n0 hfin hcl hft => ?_
 have hmn := qcu hfin hM.hm (by simp)
 have hvn := qcu hfin hM.hv (by simp)
 have hl1 := qbv hfin hM.hm (by simp)
 have hl2 := qbv hfin hM.hv (by simp)
 have hu := qja hfin [.cells [.int x.op, .int x.tgt, .int x.a, .int x.b, .int x.c, .int x.n, .str x.s] 58, .cells [.sl (A.map Val.av)] 53]
 have hM2 := hM.upto hu
 have c1 := qkn hM2 (f := 151) (by kernel_rfl) _ (qpq (l := [n0, n0 + 1]) (by simp)) hL (fun d => opI d.time d.row x [gA d]) fun τ ht i hi => by
  have := qrr1 (A := A) (ht.at (r := n0) (by simp) (by simp)) (ht.at (r := n0 + 1) (by simp) (by simp)) (i := i) (by omega) hop L[i].time L[i].row
  rw [iA i hi] at this
  exact this
 repeat' (first | ((first | ((with_reducible refine qj (fun hg => ?_) (fun hg => ?_)) <;> (try simp only [hg]) <;> (try simp only [gS] at hg) <;> (try (first | simp only [eq_false hg, gI] | simp only [eq_true hg, gI]))) | refine Stp.m ?_ | refine qh ?_ | refine agH ?_ | refine qbk (c1) ?_) <;> (try simp (disch := first | omega | simp) [qc, -qe, -qi, hl1, hl2, hmn, hvn, zA, qA, rA])) | refine sideA ?_ | refine qb fun K hK => ?_ | refine qa ?_ | refine qf ?_ | refine qd ?_ | (refine hK _ ?_; clear hK K) | clear hK K)
set_option maxHeartbeats 4000000 in
theorem two_g (hM : Mach σ m v L regs) (hL : L.length <= 1000000) (hop : 8 <= x.op /\ x.op <= 19) {gA : Delta -> Val} (zA : 0 <= x.a) (hA : regs[x.a.toNat]? = some (.sl ((L.map gA).map Val.av))) {gB : Delta -> Val} (zB : 0 <= x.b) (hB : regs[x.b.toNat]? = some (.sl ((L.map gB).map Val.av))) (hs : ∀ d ∈ L, (gA d).s.size + (gB d).s.size <= 1000) :
  qbc Tryz.prog 97 [.ptr m 0, x.av] σ (.sl (L.map fun d => (opI d.time d.row x [gA d, gB d]).av)) := by
 obtain ⟨A, eA⟩ : ∃ A, A = L.map gA := ⟨_, rfl⟩
 rw [<- eA] at hA
 have lA : A.length = L.length := by rw [eA, List.length_map]
 have iA : ∀ i (h : i < L.length), A[i]'(by omega) = gA L[i] := fun i h => by subst eA; rw [List.getElem_map]
 have qA : x.a < regs.length := by have := (List.getElem?_eq_some_iff.1 hA).1; omega
 have rA : regs[x.a.toNat]'(by omega) = .sl (A.map Val.av) := (List.getElem?_eq_some_iff.1 hA).2
 obtain ⟨B, eB⟩ : ∃ B, B = L.map gB := ⟨_, rfl⟩
 rw [<- eB] at hB
 have lB : B.length = L.length := by rw [eB, List.length_map]
 have iB : ∀ i (h : i < L.length), B[i]'(by omega) = gB L[i] := fun i h => by subst eB; rw [List.getElem_map]
 have qB : x.b < regs.length := by have := (List.getElem?_eq_some_iff.1 hB).1; omega
 have rB : regs[x.b.toNat]'(by omega) = .sl (B.map Val.av) := (List.getElem?_eq_some_iff.1 hB).2
 refine qn Tryz.func97 Tryz.ntmps97 rfl rfl (by decide) rfl (by intro n; simp) fun n0 hfin hcl hft => ?_
 have hmn := qcu hfin hM.hm (by simp)
 have hvn := qcu hfin hM.hv (by simp)
 have hl1 := qbv hfin hM.hm (by simp)
 have hl2 := qbv hfin hM.hv (by simp)
 have hu := qja hfin [.cells [.int x.op, .int x.tgt, .int x.a, .int x.b, .int x.c, .int x.n, .str x.s] 58, .cells [.sl (A.map Val.av)] 53, .cells [.sl (B.map Val.av)] 53]
 have hM2 := hM.upto hu
 have c1 := qkn hM2 (f := 152) (by kernel_rfl) _ (qpq (l := [n0, n0 + 1, n0 + 2]) (by simp)) hL (fun d => opI d.time d.row x [gA d, gB d]) fun τ ht i hi => by
  have := qst1 (A := A) (B := B) (ht.at (r := n0) (by simp) (by simp)) (ht.at (r := n0 + 1) (by simp) (by simp)) (ht.at (r := n0 + 2) (by simp) (by simp)) (i := i) (by omega) (by omega) hop (by rw [iA i hi, iB i hi]; exact hs _ (List.getElem_mem _)) L[i].time L[i].row
  rw [iA i hi, iB i hi] at this
  exact this
 repeat' (first | ((first | ((with_reducible refine qj (fun hg => ?_) (fun hg => ?_)) <;> (try simp only [hg]) <;> (try simp only [gS] at hg) <;> (try (first | simp only [eq_false hg, gI] | simp only [eq_true hg, gI]))) | refine Stp.m ?_ | refine qh ?_ | refine agH ?_ | refine qbk (c1) ?_) <;> (try simp (disch := first | omega | simp) [qc, -qe, -qi, hl1, hl2, hmn, hvn, zA, qA, rA, zB, qB, rB])) | with_reducible refine qpm (id := 1) [.cells [.int x.op, .int x.tgt, .int x.a, .int x.b, .int x.c, .int x.n, .str x.s] 58] [.R, .R, .R, .R, .R, .R, .R, .R, .R, .R, .R, .R, .R, .R, .R, .R, .M, .M, .W, .W] (by kernel_rfl) (by kernel_rfl) (by simp) ?_ | refine sideA ?_ | refine qb fun K hK => ?_ | refine qa ?_ | refine qf ?_ | refine qd ?_ | (refine hK _ ?_; clear hK K) | clear hK K)
set_option maxHeartbeats 4000000 in
theorem qph1 (hM : Mach σ m v L regs) (hL : L.length <= 1000000) (hop : x.op = 21) {gA : Delta -> Val} (zA : 0 <= x.a) (hA : regs[x.a.toNat]? = some (.sl ((L.map gA).map Val.av))) {gB : Delta -> Val} (zB : 0 <= x.b) (hB : regs[x.b.toNat]? = some (.sl ((L.map gB).map Val.av))) {gC : Delta -> Val} (zC : 0 <= x.c) (hC : regs[x.c.toNat]? = some (.sl ((L.map gC).map Val.av))) :
  qbc Tryz.prog 98 [.ptr m 0, x.av] σ (.sl (L.map fun d => (opI d.time d.row x [gA d, gB d, gC d]).av)) := by
 obtain ⟨A, eA⟩ : ∃ A, A = L.map gA := ⟨_, rfl⟩
 rw [<- eA] at hA
 have lA : A.length = L.length := by rw [eA, List.length_map]
 have iA : ∀ i (h : i < L.length), A[i]'(by omega) = gA L[i] := fun i h => by subst eA; rw [List.getElem_map]
 have qA : x.a < regs.length := by have := (List.getElem?_eq_some_iff.1 hA).1; omega
 have rA : regs[x.a.toNat]'(by omega) = .sl (A.map Val.av) := (List.getElem?_eq_some_iff.1 hA).2
 obtain ⟨B, eB⟩ : ∃ B, B = L.map gB := ⟨_, rfl⟩
 rw [<- eB] at hB
 have lB : B.length = L.length := by rw [eB, List.length_map]
 have iB : ∀ i (h : i < L.length), B[i]'(by omega) = gB L[i] := fun i h => by subst eB; rw [List.getElem_map]
 have qB : x.b < regs.length := by have := (List.getElem?_eq_some_iff.1 hB).1; omega
 have rB : regs[x.b.toNat]'(by omega) = .sl (B.map Val.av) := (List.getElem?_eq_some_iff.1 hB).2
 obtain ⟨C, eC⟩ : ∃ C, C = L.map gC := ⟨_, rfl⟩
 rw [<- eC] at hC
 have lC : C.length = L.length := by rw [eC, List.length_map]
 have iC : ∀ i (h : i < L.length), C[i]'(by omega) = gC L[i] := fun i h => by subst eC; rw [List.getElem_map]
 have qC : x.c < regs.length := by have := (List.getElem?_eq_some_iff.1 hC).1; omega
 have rC : regs[x.c.toNat]'(by omega) = .sl (C.map Val.av) := (List.getElem?_eq_some_iff.1 hC).2
 refine qn Tryz.func98 Tryz.ntmps98 rfl rfl (by decide) rfl (by intro n; simp) fun n0 hfin hcl hft => ?_
 have hmn := qcu hfin hM.hm (by simp)
 have hvn := qcu hfin hM.hv (by simp)
 have hl1 := qbv hfin hM.hm (by simp)
 have hl2 := qbv hfin hM.hv (by simp)
 have hu := qja hfin [.cells [.int x.op, .int x.tgt, .int x.a, .int x.b, .int x.c, .int x.n, .str x.s] 58, .cells [.sl (A.map Val.av)] 53, .cells [.sl (B.map Val.av)] 53, .cells [.sl (C.map Val.av)] 53]
 have hM2 := hM.upto hu
 have c1 := qkn hM2 (f := 154) (by kernel_rfl) _ (qpq (l := [n0 + 1, n0 + 2, n0 + 3]) (by simp)) hL (fun d => opI d.time d.row x [gA d, gB d, gC d]) fun τ ht i hi => by
  have := qkr1 (A := A) (B := B) (C := C) (ht.at (r := n0 + 1) (by simp) (by simp)) (ht.at (r := n0 + 2) (by simp) (by simp)) (ht.at (r := n0 + 3) (by simp) (by simp)) (i := i) (by omega) (by omega) (by omega)
  rw [iA i hi, iB i hi, iC i hi] at this
  unfold opI
  rw [if_pos hop]
  exact this
 repeat' (first | ((first | ((with_reducible refine qj (fun hg => ?_) (fun hg => ?_)) <;> (try simp only [hg]) <;> (try simp only [gS] at hg) <;> (try (first | simp only [eq_false hg, gI] | simp only [eq_true hg, gI]))) | refine Stp.m ?_ | refine qh ?_ | refine agH ?_ | refine qbk (c1) ?_) <;> (try simp (disch := first | omega | simp) [qc, -qe, -qi, hl1, hl2, hmn, hvn, zA, qA, rA, zB, qB, rB, zC, qC, rC])) | with_reducible refine qpm (id := 1) [.cells [.int x.op, .int x.tgt, .int x.a, .int x.b, .int x.c, .int x.n, .str x.s] 58] [.R, .R, .R, .R, .R, .R, .R, .R, .R, .R, .R, .R, .R, .R, .R, .R, .R, .R, .R, .R, .R, .R, .R, .R, .M, .M, .M, .W, .W, .W] (by kernel_rfl) (by kernel_rfl) (by simp) ?_ | refine sideA ?_ | refine qb fun K hK => ?_ | refine qa ?_ | refine qf ?_ | refine qd ?_ | (refine hK _ ?_; clear hK K) | clear hK K)
end
end Go.Proofs.YtkedbjjfmejbhaaGreatDoor
