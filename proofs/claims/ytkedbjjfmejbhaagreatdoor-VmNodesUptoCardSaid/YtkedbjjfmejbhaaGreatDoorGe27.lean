/- Walks of layer 25: operations, operands, and whether an instruction is formed. -/
import Derived.Test.YtkedbjjfmejbhaaGreatDoorGe3
import Derived.Test.YtkedbjjfmejbhaaGreatDoorGe4
import Derived.Test.YtkedbjjfmejbhaaGreatDoorGe5
import Derived.Test.YtkedbjjfmejbhaaGreatDoorGe15
import Derived.Test.YtkedbjjfmejbhaaGreatDoorGe16
import Derived.Test.YtkedbjjfmejbhaaGreatDoorGe18
import Derived.Test.YtkedbjjfmejbhaaGreatDoorGe19
import Derived.Test.YtkedbjjfmejbhaaGreatDoorGe21
import Derived.Test.YtkedbjjfmejbhaaGreatDoorGe26
set_option linter.unusedSimpArgs false
set_option linter.unusedVariables false
namespace Go.Proofs.YtkedbjjfmejbhaaGreatDoor
open Go.RowKit Go.Lib
theorem qlh1 (o : Int) : Gives Tryz.prog 155 [.int o] (.bool (opOk o)) := by
 by_cases h : 0 <= o /\ o < 23
 .have h2 : o = 0 \/ o = 1 \/ o = 2 \/ o = 3 \/ o = 4 \/ o = 5 \/ o = 6 \/ o = 7 \/ o = 8 \/ o = 9 \/ o = 10 \/ o = 11 \/ o = 12 \/ o = 13 \/ o = 14 \/ o = 15 \/ o = 16 \/ o = 17 \/ o = 18 \/ o = 19 \/ o = 20 \/ o = 21 \/ o = 22 := by omega
  clear h
  rcases h2 with rfl | rfl | rfl | rfl | rfl | rfl | rfl | rfl | rfl | rfl | rfl | rfl | rfl | rfl | rfl | rfl | rfl | rfl | rfl | rfl | rfl | rfl | rfl
  all_goals
   refine qg Tryz.func155 Tryz.ntmps155 fun σ n0 hcl hft => ?_
   repeat' (first | ((first | ((with_reducible refine qj (fun hg => ?_) (fun hg => ?_)) <;> (try simp only [hg]) <;> (try simp only [gS] at hg) <;> (try (first | simp only [eq_false hg, gI] | simp only [eq_true hg, gI]))) | refine Stp.m ?_) <;> (try simp (disch := first | omega | simp) [qc, -qe, -qi])) | with_reducible refine qhn (id := 1) ?_ | refine sideA ?_ | refine qb fun K hK => ?_ | refine qa ?_ | refine qf ?_ | refine qd ?_ | (refine hK _ ?_; clear hK K) | clear hK K)
   try rfl
 .have hf : opOk o = false := by unfold opOk; simp; omega
  rw [hf]
  by_cases h0 : 0 <= o
  .have h1 : ¬ o < 23 := by omega
   refine qg Tryz.func155 Tryz.ntmps155 fun σ n0 hcl hft => ?_
   repeat' (first | ((first | ((with_reducible refine qj (fun hg => ?_) (fun hg => ?_)) <;> (try simp only [hg]) <;> (try simp only [gS] at hg) <;> (try (first | simp only [eq_false hg, gI] | simp only [eq_true hg, gI]))) | refine Stp.m ?_) <;> (try simp (disch := first | omega | simp) [qc, -qe, -qi, h0, h1])) | with_reducible refine qhn (id := 1) ?_ | refine sideA ?_ | refine qb fun K hK => ?_ | refine qa ?_ | refine qf ?_ | refine qd ?_ | (refine hK _ ?_; clear hK K) | clear hK K)
  .refine qg Tryz.func155 Tryz.ntmps155 fun σ n0 hcl hft => ?_
   repeat' (first | ((first | ((with_reducible refine qj (fun hg => ?_) (fun hg => ?_)) <;> (try simp only [hg]) <;> (try simp only [gS] at hg) <;> (try (first | simp only [eq_false hg, gI] | simp only [eq_true hg, gI]))) | refine Stp.m ?_) <;> (try simp (disch := first | omega | simp) [qc, -qe, -qi, h0])) | with_reducible refine qhn (id := 1) ?_ | refine sideA ?_ | refine qb fun K hK => ?_ | refine qa ?_ | refine qf ?_ | refine qd ?_ | (refine hK _ ?_; clear hK K) | clear hK K)
theorem qbw1 (o : Int) : Gives Tryz.prog 156 [.int o] (.int (arO o)) := by
 obtain ⟨R, hR⟩ : ∃ R, R = arO o := ⟨_, rfl⟩
 rw [<- hR]
 unfold arO at hR
 refine qg Tryz.func156 Tryz.ntmps156 fun σ n0 hcl hft => ?_
 repeat' (first | ((first | ((with_reducible refine qj (fun hg => ?_) (fun hg => ?_)) <;> (try simp only [hg]) <;> (try simp only [gS] at hg) <;> (try (first | simp only [eq_false hg, gI] | simp only [eq_true hg, gI]))) | refine Stp.m ?_) <;> (try simp (disch := first | omega | simp) [qc, -qe, -qi])) | refine sideA ?_ | refine qb fun K hK => ?_ | refine qa ?_ | refine qf ?_ | refine qd ?_ | (refine hK _ ?_; clear hK K) | clear hK K)
 all_goals (subst hR; simp_all)
theorem ops_g (x : Ins) : Gives Tryz.prog 99 [x.av] (.sl ((opsP x).map AV.int)) := by
 have c1 := qlh1 x.op
 have c2 := qbw1 x.op
 have hle := qfx x.op
 unfold opsP
 generalize opOk x.op = b at *
 generalize arO x.op = n at *
 have hcl : ∀ m, AV.cls m ([AV.int x.a, .int x.b, .int x.c].take n) := fun m => AV.cls_take (by simp) n
 cases b
 .refine qg Tryz.func99 Tryz.ntmps99 fun σ n0 hcl hft => ?_
  repeat' (first | ((first | ((with_reducible refine qj (fun hg => ?_) (fun hg => ?_)) <;> (try simp only [hg]) <;> (try simp only [gS] at hg) <;> (try (first | simp only [eq_false hg, gI] | simp only [eq_true hg, gI]))) | refine Stp.m ?_ | refine qh ?_ | refine agH ?_) <;> (try simp (disch := first | omega | simp) [qc, -qe, -qi])) | refine sideA ?_ | refine qb fun K hK => ?_ | refine qa ?_ | refine qf ?_ | refine qd ?_ | (refine hK _ ?_; clear hK K) | clear hK K)
 .refine qg Tryz.func99 Tryz.ntmps99 fun σ n0 hcl hft => ?_
  repeat' (first | ((first | ((with_reducible refine qj (fun hg => ?_) (fun hg => ?_)) <;> (try simp only [hg]) <;> (try simp only [gS] at hg) <;> (try (first | simp only [eq_false hg, gI] | simp only [eq_true hg, gI]))) | refine Stp.m ?_ | refine qh ?_ | refine agH ?_) <;> (try simp (disch := first | omega | simp) [qc, -qe, -qi])) | refine sideA ?_ | refine qb fun K hK => ?_ | refine qa ?_ | refine qf ?_ | refine qd ?_ | (refine hK _ ?_; clear hK K) | clear hK K)
  all_goals first | exact hcl _ | simp_all
def bareI (x : Ins) : Ins := ⟨x.op, x.tgt, if 1 <= arO x.op then x.a else 0, if 2 <= arO x.op then x.b else 0, if 3 <= arO x.op then x.c else 0, if x.op = 0 \/ x.op = 2 \/ x.op = 3 then x.n else 0, if x.op = 1 then x.s else ByteArray.empty⟩
set_option maxHeartbeats 4000000 in
theorem qqq1 (x : Ins) : Gives Tryz.prog 180 [x.av] (bareI x).av := by
 have c2 := qbw1 x.op
 have hle := qfx x.op
 obtain ⟨R, hR⟩ : ∃ R, R = bareI x := ⟨_, rfl⟩
 rw [<- hR]
 unfold bareI at hR
 generalize arO x.op = n at *
 have hn : n = 0 \/ n = 1 \/ n = 2 \/ n = 3 := by omega
 rcases hn with rfl | rfl | rfl | rfl
 all_goals
  refine qg Tryz.func180 Tryz.ntmps180 fun σ n0 hcl hft => ?_
  repeat' (first | ((first | ((with_reducible refine qj (fun hg => ?_) (fun hg => ?_)) <;> (try simp only [hg]) <;> (try simp only [gS] at hg) <;> (try (first | simp only [eq_false hg, gI] | simp only [eq_true hg, gI]))) | refine Stp.m ?_ | refine qh ?_ | refine agH ?_) <;> (try simp (disch := first | omega | simp) [qc, -qe, -qi])) | refine sideA ?_ | refine qb fun K hK => ?_ | refine qa ?_ | refine qf ?_ | refine qd ?_ | (refine hK _ ?_; clear hK K) | clear hK K)
  all_goals
   subst hR
   simp_all [Ins.av, -Ins.av_fold]
def natAv (l : List Nat) : List AV := l.map fun k : Nat => AV.int (k : Int)
def srcAv (ds : List Nd) : List AV := ds.map fun d => AV.sl (natAv d.src)
@[simp] theorem qrn1 (l : List Nat) : (natAv l).length = l.length := by simp [natAv]
@[simp] theorem qsk1 (l : List Nd) : (srcAv l).length = l.length := by simp [srcAv]
@[simp] theorem qen1 (l : List Nat) (i : Nat) (h : i < (natAv l).length) : (natAv l)[i] = AV.int (l[i]'(by simpa using h)) := by simp [natAv]
@[simp] theorem qgh1 (l : List Nd) (i : Nat) (h : i < (srcAv l).length) : (srcAv l)[i] = AV.sl (natAv (l[i]'(by simpa using h)).src) := by simp [srcAv]
@[simp] theorem qen1? (l : List Nat) (i : Nat) : (natAv l)[i]? = (l[i]?).map fun k : Nat => AV.int (k : Int) := by simp [natAv]
@[simp] theorem qgh1? (l : List Nd) (i : Nat) : (srcAv l)[i]? = (l[i]?).map fun d : Nd => AV.sl (natAv d.src) := by simp [srcAv]
@[simp] theorem qye (l : List Nat) (m : Nat) : AV.cls m (natAv l) := AV.cls_map (f := fun k : Nat => AV.int (k : Int)) (fun _ => by simp) l
@[simp] theorem qro1 (l : List Nat) : AV.wid (natAv l) 1 := AV.wid_map (f := fun k : Nat => AV.int (k : Int)) (fun _ => rfl) l
@[simp] theorem qqf1 (l : List Nat) : AV.elms (natAv l) := AV.elms_map (f := fun k : Nat => AV.int (k : Int)) (fun _ => rfl) l
@[simp] theorem qtk1 (l : List Nd) (m : Nat) : AV.cls m (srcAv l) := AV.cls_map (f := fun d : Nd => AV.sl (natAv d.src)) (fun d => by simp) l
@[simp] theorem qsl1 (l : List Nd) : AV.wid (srcAv l) 1 := AV.wid_map (f := fun d : Nd => AV.sl (natAv d.src)) (fun _ => rfl) l
@[simp] theorem qqg1 (l : List Nd) : AV.elms (srcAv l) := AV.elms_map (f := fun d : Nd => AV.sl (natAv d.src)) (fun _ => rfl) l
set_option maxHeartbeats 4000000 in
theorem qub {c : Cod} {cols : List Int} (h : CodOk c cols) : Gives Tryz.prog 70 [c.av] (.tup [.sl (srcAv (qx c)), .int (rootC c)]) := by
 unfold qx rootC
 obtain ⟨ins, types, out⟩ := c
 have hni := h.ni
 have hnt := h.nt
 simp only at hni hnt
 have hsz : 8 * types.length <= 281474976710656 := by omega
 have hsz1 : 1 * types.length <= 281474976710656 := by omega
 have hal := h.all
 have o0 : 0 <= out := h.out0
 have o1 : out < types.length := h.out1
 have o2 := h.out2
 simp only at hal o2
 simp only
 refine qg Tryz.func70 Tryz.ntmps70 fun σ n0 hcl hft => ?_
 repeat' (first | ((first | ((with_reducible refine qj (fun hg => ?_) (fun hg => ?_)) <;> (try simp only [hg]) <;> (try simp only [gS] at hg) <;> (try (first | simp only [eq_false hg, gI] | simp only [eq_true hg, gI]))) | refine Stp.m ?_) <;> (try simp (disch := first | omega | simp) [qc, -qe, -qi, hsz, hsz1])) | refine sideA ?_ | refine qb fun K hK => ?_ | refine qa ?_ | refine qf ?_ | refine qd ?_ | (refine hK _ ?_; clear hK K) | clear hK K)
 refine qk hcl (fun b : Nat × List Int => [(1, .ptr n0 0), (4, .own (n0 + 1) types.length), (16, .own (n0 + 1) types.length), (17, .int types.length), (18, .int b.1)])
  (fun b => [.cells [.sl (ins.map Ins.av), .sl (types.map AV.int), .int out] 39, .vec (b.2.map AV.int) 3 1])
  (fun b => b.1 <= types.length /\ b.2.length = types.length) (fun b => types.length - b.1) (0, List.replicate types.length 0) ⟨by omega, by simp⟩ (by simp) fun ⟨k, G⟩ ⟨hk, hG⟩ => ?_
 simp only at hk hG
 by_cases hlt : k < types.length
 .repeat' (first | ((first | ((with_reducible refine qj (fun hg => ?_) (fun hg => ?_)) <;> (try simp only [hg]) <;> (try simp only [gS] at hg) <;> (try (first | simp only [eq_false hg, gI] | simp only [eq_true hg, gI]))) | refine Stp.m ?_) <;> (try simp (disch := first | omega | simp) [qc, -qe, -qi, hlt, hG])) | refine sideA ?_ | refine qb fun K hK => ?_ | refine qa ?_ | refine qf ?_ | refine qd ?_ | (refine hK _ ?_; clear hK K) | clear hK K)
  exact ⟨k + 1, G.set k (-1), ⟨by omega, by rw [List.length_set]; exact hG⟩, by omega, by rw [List.map_set], by omega⟩
 .repeat' (first | ((first | ((with_reducible refine qj (fun hg => ?_) (fun hg => ?_)) <;> (try simp only [hg]) <;> (try simp only [gS] at hg) <;> (try (first | simp only [eq_false hg, gI] | simp only [eq_true hg, gI]))) | refine Stp.m ?_) <;> (try simp (disch := first | omega | simp) [qc, -qe, -qi, hlt, hG])) | refine sideA ?_ | refine qb fun K hK => ?_ | refine qa ?_ | refine qf ?_ | refine qd ?_ | (refine hK _ ?_; clear hK K) | clear hK K)
  refine qbn 6 23 1 (by simp) ?_
  refine qk hcl (fun b : Nat × List Int => [(1, .ptr n0 0), (4, .own (n0 + 1) types.length), (6, .gs (n0 + 2) (srcAv (nodes (ins.take b.1) 0 (List.replicate types.length 0)))), (26, .sl (ins.map Ins.av)), (27, .int ins.length), (28, .int b.1)])
   (fun b => [.cells [.sl (ins.map Ins.av), .sl (types.map AV.int), .int out] 39, .vec (b.2.map AV.int) 3 1, .tail b.1 23 1])
   (fun b => b.1 <= ins.length /\ b.2.length = types.length /\ ∀ r : Nat, (doneL (ins.take b.1) (List.replicate types.length false)).getD r false = true -> b.2[r]? = some ((lastL (ins.take b.1) 0 (List.replicate types.length 0)).getD r 0 : Int))
   (fun b => ins.length - b.1) (0, G) ⟨by omega, hG, fun r hr => (qme hr).elim⟩ (by simp [nodes, srcAv]) fun ⟨k, G⟩ ⟨hk, hG, hR⟩ => ?_
  simp only at hk hG hR
  by_cases hlt2 : k < ins.length
  .have hx := AllOk.at ins k _ hlt2 hal
   have c2 := ops_g ins[k]
   have t0 := hx.to0
   have t1 : ins[k].tgt < types.length := hx.to1
   repeat' (first | ((first | ((with_reducible refine qj (fun hg => ?_) (fun hg => ?_)) <;> (try simp only [hg]) <;> (try simp only [gS] at hg) <;> (try (first | simp only [eq_false hg, gI] | simp only [eq_true hg, gI]))) | refine Stp.m ?_ | refine qh ?_ | refine agH ?_) <;> (try simp (disch := first | omega | simp) [qc, -qe, -qi, hlt2, hG])) | refine sideA ?_ | refine qb fun K hK => ?_ | refine qa ?_ | refine qf ?_ | refine qd ?_ | (refine hK _ ?_; clear hK K) | clear hK K)
   refine qbn 9 3 1 (by simp) ?_
   have htk : ins.take (k + 1) = ins.take k ++ [ins[k]] := List.take_succ_eq_append_getElem hlt2
   have hxa := hx.args
   have hol : (opsP ins[k]).length <= 3 := by rw [qhc]; split <;> first | exact qfx _ | omega
   generalize hops : opsP ins[k] = ops at *
   have hnew : nodes (ins.take (k + 1)) 0 (List.replicate types.length 0) = nodes (ins.take k) 0 (List.replicate types.length 0) ++ [⟨ins[k], ops.map fun r => (lastL (ins.take k) 0 (List.replicate types.length 0)).getD r.toNat 0⟩] := by rw [htk, qon, hops]
   have hstep : ∀ r : Nat, (doneL (ins.take (k + 1)) (List.replicate types.length false)).getD r false = true -> (G.set ins[k].tgt.toNat k)[r]? = some ((lastL (ins.take (k + 1)) 0 (List.replicate types.length 0)).getD r 0 : Int) := fun r hr => by
    rw [htk, qjh, qq] at hr
    rw [htk, qol, qq, List.length_take, qte, List.length_replicate]
    by_cases he : ins[k].tgt.toNat = r
    .subst he
     rw [List.getElem?_set_self (by omega), if_pos ⟨rfl, by omega⟩]
     congr 1; omega
    .rw [if_neg (fun h => he h.1)] at hr ⊢
     rw [List.getElem?_set_ne he]
     exact hR r hr
   generalize hLN : lastL (ins.take k) 0 (List.replicate types.length 0) = LN at *
   generalize hND : nodes (ins.take k) 0 (List.replicate types.length 0) = ND at *
   have hNl : ND.length = k := by rw [<- hND, qdd, List.length_take]; omega
   obtain ⟨S, hS⟩ : ∃ S, S = ops.map fun r => LN.getD r.toNat 0 := ⟨_, rfl⟩
   have hSl : S.length = ops.length := by rw [hS, List.length_map]
   have hSj : ∀ j (h : j < ops.length), S[j]'(by omega) = LN.getD ops[j].toNat 0 := fun j h => by simp [hS]
   rw [<- hS] at hnew
   clear hS
   refine qk hcl (fun j : Nat => [(1, .ptr n0 0), (4, .own (n0 + 1) types.length), (6, .gs (n0 + 2) (srcAv ND)), (7, .int k), (8, .ptr (n0 + 3) 0), (9, .gs (n0 + 4) (natAv (S.take j))), (26, .sl (ins.map Ins.av)), (27, .int ins.length), (28, .int k), (34, .sl (ops.map AV.int)), (35, .int ops.length), (36, .int j)])
    (fun j => [.cells [.sl (ins.map Ins.av), .sl (types.map AV.int), .int out] 39, .vec (G.map AV.int) 3 1, .tail k 23 1, .cells [.int ins[k].op, .int ins[k].tgt, .int ins[k].a, .int ins[k].b, .int ins[k].c, .int ins[k].n, .str ins[k].s] 58, .tail j 3 1])
    (fun j => j <= ops.length) (fun j => ops.length - j) 0 (by omega) (by simp [natAv]) fun j hj => ?_
   by_cases hlt3 : j < ops.length
   .obtain ⟨r0, r1, r2⟩ := hxa ops[j] (List.getElem_mem _)
    have hg0 := hR _ r2
    have hg : G[ops[j].toNat]'(by omega) = ((S[j]'(by omega) : Nat) : Int) := by rw [hSj j hlt3]; exact (List.getElem?_eq_some_iff.1 hg0).2
    have hsn : natAv (S.take (j + 1)) = natAv (S.take j) ++ [.int (S[j]'(by omega) : Nat)] := by
     unfold natAv; rw [List.take_succ_eq_append_getElem (by omega), List.map_append]; rfl
    repeat' (first | ((first | ((with_reducible refine qj (fun hg => ?_) (fun hg => ?_)) <;> (try simp only [hg]) <;> (try simp only [gS] at hg) <;> (try (first | simp only [eq_false hg, gI] | simp only [eq_true hg, gI]))) | refine Stp.m ?_) <;> (try simp (disch := first | omega | simp) [qc, -qe, -qi, hlt3, hG, r0, r1, hg])) | refine sideA ?_ | refine qb fun K hK => ?_ | refine qa ?_ | refine qf ?_ | refine qd ?_ | (refine hK _ ?_; clear hK K) | clear hK K)
    refine ⟨j + 1, by omega, by omega, ?_⟩
    rw [hsn]; simp
   .obtain rfl : j = ops.length := by omega
    rw [List.take_of_length_le (by omega)]
    repeat' (first | ((first | ((with_reducible refine qj (fun hg => ?_) (fun hg => ?_)) <;> (try simp only [hg]) <;> (try simp only [gS] at hg) <;> (try (first | simp only [eq_false hg, gI] | simp only [eq_true hg, gI]))) | refine Stp.m ?_) <;> (try simp (disch := first | omega | simp) [qc, -qe, -qi, hlt3, hG, t0, t1])) | refine sideA ?_ | refine qb fun K hK => ?_ | refine qa ?_ | refine qf ?_ | refine qd ?_ | (refine hK _ ?_; clear hK K) | clear hK K)
    refine ⟨k + 1, G.set ins[k].tgt.toNat k, ⟨by omega, by rw [List.length_set]; exact hG, hstep⟩, by omega, ?_⟩
    rw [hnew]; simp [srcAv, List.map_set, hNl]
  .obtain rfl : k = ins.length := by omega
   rw [List.take_length] at hR
   have hg0 := hR _ o2
   have hg : G[out.toNat]'(by omega) = ((lastL ins 0 (List.replicate types.length 0)).getD out.toNat 0 : Int) := (List.getElem?_eq_some_iff.1 hg0).2
   rw [List.take_length]
   repeat' (first | ((first | ((with_reducible refine qj (fun hg => ?_) (fun hg => ?_)) <;> (try simp only [hg]) <;> (try simp only [gS] at hg) <;> (try (first | simp only [eq_false hg, gI] | simp only [eq_true hg, gI]))) | refine Stp.m ?_) <;> (try simp (disch := first | omega | simp) [qc, -qe, -qi, hlt2, hG, o0, o1, hg])) | refine sideA ?_ | refine qb fun K hK => ?_ | refine qa ?_ | refine qf ?_ | refine qd ?_ | (refine hK _ ?_; clear hK K) | clear hK K)
theorem qvj {m : Nat} {l : List AV} {x : AV} {i : Nat} (h : AV.cls m l) (hx : x.cl m) : AV.cls m (l.set i x) := AV.cls_iff.2 fun y hy => by
 rcases List.mem_or_eq_of_mem_set hy with hy | rfl
 .exact AV.cls_iff.1 h y hy
 .exact hx
theorem qwl (need : List Bool) (l : List Nat) (k : Nat) : qcz need (l ++ [k]) = (qcz need l).set k true := by unfold qcz; rw [List.foldl_append]; rfl
theorem qpf (need : List Bool) : ∀ (l : List Ins) (x : Ins) (i : Nat), trimI need (l ++ [x]) i = trimI need l i ++ if need.getD (i + l.length) false then [x] else []
 | [], x, i => by rw [List.nil_append, trimI, trimI]; simp [trimI]
 | y :: l, x, i => by
  rw [List.cons_append, trimI, trimI, qpf need l, List.length_cons, show i + 1 + l.length = i + (l.length + 1) by omega]
  cases need.getD i false <;> simp
theorem qyy (need : List Bool) : ∀ (l : List Ins) (i : Nat), (trimI need l i).length <= l.length
 | [], _ => by simp [trimI]
 | y :: l, i => by have := qyy need l (i + 1); rw [trimI]; split <;> simp <;> omega
theorem qmg : ∀ (l : List Ins) (i : Nat) (last : List Nat), ∀ d ∈ nodes l i last, d.src.length <= 3
 | [], _, _, d, hd => by cases hd
 | x :: l, i, last, d, hd => by
  rw [nodes] at hd
  rcases List.mem_cons.1 hd with rfl | hd
  .rw [List.length_map, qhc]; split <;> first | exact qfx _ | omega
  .exact qmg l _ _ d hd
set_option maxRecDepth 10000 in
set_option maxHeartbeats 4000000 in
theorem qjq1 {c : Cod} {cols : List Int} (h : CodOk c cols) : Gives Tryz.prog 112 [c.av] (.sl ((needP (qx c) (rootC c)).map AV.bool)) := by
 have c1 := qub h
 have hro := (h.val_res 0 []).1
 have hdl : (qx c).length = c.ins.length := by unfold qx; exact qdd _ _ _
 have hea := h.early
 have hs3 : ∀ d ∈ qx c, d.src.length <= 3 := qmg _ _ _
 have hni := h.ni
 obtain ⟨R, hR⟩ : ∃ R, R = needP (qx c) (rootC c) := ⟨_, rfl⟩
 rw [<- hR]
 unfold needP at hR
 generalize qx c = ds at *
 generalize rootC c = root at *
 obtain ⟨ins, types, out⟩ := c
 simp only at hro hdl hni
 have hsz1 : 1 * ins.length <= 281474976710656 := by omega
 refine qg Tryz.func112 Tryz.ntmps112 fun σ n0 hcl hft => ?_
 repeat' (first | ((first | ((with_reducible refine qj (fun hg => ?_) (fun hg => ?_)) <;> (try simp only [hg]) <;> (try simp only [gS] at hg) <;> (try (first | simp only [eq_false hg, gI] | simp only [eq_true hg, gI]))) | refine Stp.m ?_ | refine qh ?_ | refine agH ?_) <;> (try simp (disch := first | omega | simp) [qc, -qe, -qi, hsz1, hro])) | refine sideA ?_ | refine qb fun K hK => ?_ | refine qa ?_ | refine qf ?_ | refine qd ?_ | (refine hK _ ?_; clear hK K) | clear hK K)
 refine qk hcl (fun b : Nat × Int × List Bool => [(3, .sl (srcAv ds)), (5, .own (n0 + 1) ins.length), (6, .int b.2.1)])
  (fun b => [.cells [.sl (ins.map Ins.av), .sl (types.map AV.int), .int out] 39, .vec (b.2.2.map AV.bool) 4 1])
  (fun b => b.1 <= ins.length /\ b.2.1 = (b.1 : Int) - 1 /\ b.2.2.length = ins.length /\ R = needI ds b.1 b.2.2) (fun b => b.1) (ins.length, (ins.length : Int) - 1, (List.replicate ins.length false).set root true)
  ⟨by omega, rfl, by simp, by rw [hR, hdl]⟩ (by simp [AV.cls_map]; exact qvj (AV.cls_replicate (by simp)) (by simp)) fun ⟨k, i, G⟩ ⟨hk, hi, hG, hRk⟩ => ?_
 simp only at hk hi hG hRk
 by_cases hi0 : 0 <= i
 .obtain ⟨m, rfl⟩ : ∃ m : Nat, i = m := ⟨i.toNat, by omega⟩
  obtain rfl : k = m + 1 := by omega
  have hm : m < ins.length := by omega
  have hmd : m < ds.length := by omega
  have hGm : G.getD m false = G[m]'(by omega) := by rw [List.getD_eq_getElem?_getD, List.getElem?_eq_getElem (by omega)]; rfl
  rw [needI, hGm] at hRk
  cases hg : G[m]'(by omega)
  .rw [hg, if_neg (by simp)] at hRk
   repeat' (first | ((first | ((with_reducible refine qj (fun hg => ?_) (fun hg => ?_)) <;> (try simp only [hg]) <;> (try simp only [gS] at hg) <;> (try (first | simp only [eq_false hg, gI] | simp only [eq_true hg, gI]))) | refine Stp.m ?_) <;> (try simp (disch := first | omega | simp) [qc, -qe, -qi, hG, hm, hg])) | refine sideA ?_ | refine qb fun K hK => ?_ | refine qa ?_ | refine qf ?_ | refine qd ?_ | (refine hK _ ?_; clear hK K) | clear hK K)
   exact ⟨m, (m : Int) - 1, G, ⟨by omega, rfl, hG, hRk⟩, by omega, rfl, rfl⟩
  .rw [hg, if_pos rfl] at hRk
   have hsd : (ds.getD m ⟨⟨0, 0, 0, 0, 0, 0, ByteArray.empty⟩, []⟩).src = ds[m].src := by rw [List.getD_eq_getElem?_getD, List.getElem?_eq_getElem hmd]; rfl
   have hse : ∀ k ∈ ds[m].src, k < m := fun k hk => hea m hmd k (by unfold srcOf; rw [hsd]; exact hk)
   rw [hsd] at hRk
   have hsl3 := hs3 ds[m] (List.getElem_mem _)
   generalize hsrc : ds[m].src = src at *
   repeat' (first | ((first | ((with_reducible refine qj (fun hg => ?_) (fun hg => ?_)) <;> (try simp only [hg]) <;> (try simp only [gS] at hg) <;> (try (first | simp only [eq_false hg, gI] | simp only [eq_true hg, gI]))) | refine Stp.m ?_) <;> (try simp (disch := first | omega | simp) [qc, -qe, -qi, hG, hm, hg, hmd, hsrc])) | refine sideA ?_ | refine qb fun K hK => ?_ | refine qa ?_ | refine qf ?_ | refine qd ?_ | (refine hK _ ?_; clear hK K) | clear hK K)
   refine qk hcl (fun j : Nat => [(3, .sl (srcAv ds)), (5, .own (n0 + 1) ins.length), (6, .int m), (37, .sl (natAv src)), (38, .int src.length), (39, .int j)])
    (fun j => [.cells [.sl (ins.map Ins.av), .sl (types.map AV.int), .int out] 39, .vec ((qcz G (src.take j)).map AV.bool) 4 1])
    (fun j => j <= src.length) (fun j => src.length - j) 0 (by omega) (by simp [qcz]) fun j hj => ?_
   have hsl : (qcz G (src.take j)).length = ins.length := by rw [qea]; exact hG
   by_cases hlt : j < src.length
   .have hs1 := hse src[j] (List.getElem_mem _)
    have hs2 : src[j] < ins.length := by omega
    have hsn : qcz G (src.take (j + 1)) = (qcz G (src.take j)).set src[j] true := by rw [List.take_succ_eq_append_getElem hlt, qwl]
    repeat' (first | ((first | ((with_reducible refine qj (fun hg => ?_) (fun hg => ?_)) <;> (try simp only [hg]) <;> (try simp only [gS] at hg) <;> (try (first | simp only [eq_false hg, gI] | simp only [eq_true hg, gI]))) | refine Stp.m ?_) <;> (try simp (disch := first | omega | simp) [qc, -qe, -qi, hlt, hsl, hs2])) | refine sideA ?_ | refine qb fun K hK => ?_ | refine qa ?_ | refine qf ?_ | refine qd ?_ | (refine hK _ ?_; clear hK K) | clear hK K)
    refine ⟨j + 1, by omega, by omega, ?_⟩
    rw [hsn]; simp [List.map_set]
   .obtain rfl : j = src.length := by omega
    rw [List.take_length] at hsl ⊢
    repeat' (first | ((first | ((with_reducible refine qj (fun hg => ?_) (fun hg => ?_)) <;> (try simp only [hg]) <;> (try simp only [gS] at hg) <;> (try (first | simp only [eq_false hg, gI] | simp only [eq_true hg, gI]))) | refine Stp.m ?_) <;> (try simp (disch := first | omega | simp) [qc, -qe, -qi, hlt])) | refine sideA ?_ | refine qb fun K hK => ?_ | refine qa ?_ | refine qf ?_ | refine qd ?_ | (refine hK _ ?_; clear hK K) | clear hK K)
    exact ⟨m, (m : Int) - 1, qcz G src, ⟨by omega, rfl, hsl, hRk⟩, by omega, rfl, rfl⟩
 .obtain rfl : k = 0 := by omega
  rw [needI] at hRk
  subst hRk
  refine qdg 5 1 (k := ins.length) (by simp) (by rfl) (by simp [hG]) ?_
  repeat' (first | ((first | ((with_reducible refine qj (fun hg => ?_) (fun hg => ?_)) <;> (try simp only [hg]) <;> (try simp only [gS] at hg) <;> (try (first | simp only [eq_false hg, gI] | simp only [eq_true hg, gI]))) | refine Stp.m ?_) <;> (try simp (disch := first | omega | simp) [qc, -qe, -qi, hi0])) | refine sideA ?_ | refine qb fun K hK => ?_ | refine qa ?_ | refine qf ?_ | refine qd ?_ | (refine hK _ ?_; clear hK K) | clear hK K)
set_option maxRecDepth 100000 in
theorem qih1 (l : List Int) (hl : l.length <= 1000000) : Gives Tryz.prog 111 [.sl (l.map AV.int)] (.sl (l.map AV.int)) := by
 have hsz : l.length * 8 <= 140737488355328 := by omega
 refine qg Tryz.func111 Tryz.ntmps111 fun σ n0 hcl hft => ?_
 repeat' (first | ((first | ((with_reducible refine qj (fun hg => ?_) (fun hg => ?_)) <;> (try simp only [hg]) <;> (try simp only [gS] at hg) <;> (try (first | simp only [eq_false hg, gI] | simp only [eq_true hg, gI]))) | refine Stp.m ?_ | (with_reducible refine qgj ?_ (fun hnil => ?_); try simp only [hnil])) <;> (try simp (disch := first | omega | simp) [qc, -qe, -qi, hsz])) | with_reducible refine qef (id := 1) ?_ | refine sideA ?_ | refine qb fun K hK => ?_ | refine qa ?_ | refine qf ?_ | refine qd ?_ | (refine hK _ ?_; clear hK K) | clear hK K)
 all_goals simp_all
set_option maxHeartbeats 4000000 in
theorem qss1 {c : Cod} {cols : List Int} (h : CodOk c cols) : Gives Tryz.prog 69 [c.av] (trimP c).av := by
 have c1 := qjq1 h
 have hnt := h.nt
 have c2 := qih1 c.types (by omega)
 have hni := h.ni
 have hnl : (needP (qx c) (rootC c)).length = c.ins.length := by rw [qeo1]; unfold qx; exact qdd _ _ _
 unfold trimP
 generalize needP (qx c) (rootC c) = need at *
 obtain ⟨ins, types, out⟩ := c
 simp only at hnt hni hnl c2
 refine qg Tryz.func69 Tryz.ntmps69 fun σ n0 hcl hft => ?_
 repeat' (first | ((first | ((with_reducible refine qj (fun hg => ?_) (fun hg => ?_)) <;> (try simp only [hg]) <;> (try simp only [gS] at hg) <;> (try (first | simp only [eq_false hg, gI] | simp only [eq_true hg, gI]))) | refine Stp.m ?_ | refine qh ?_ | refine agH ?_) <;> (try simp (disch := first | omega | simp) [qc, -qe, -qi])) | refine sideA ?_ | refine qb fun K hK => ?_ | refine qa ?_ | refine qf ?_ | refine qd ?_ | (refine hK _ ?_; clear hK K) | clear hK K)
 refine qco 2 0 58 7 (by rfl) (by rfl) ?_
 obtain ⟨F, hF⟩ : ∃ F : Nat -> List Ins, F = fun k => trimI need (ins.take k) 0 := ⟨_, rfl⟩
 have F0 : F 0 = [] := by rw [hF]; rfl
 have F1 : ∀ k (h : k < ins.length), F (k + 1) = F k ++ if need[k]'(by omega) then [ins[k]] else [] := fun k h => by
  have hg : need.getD k false = need[k]'(by omega) := by rw [List.getD_eq_getElem?_getD, List.getElem?_eq_getElem (by omega)]; rfl
  rw [hF]; dsimp only
  rw [List.take_succ_eq_append_getElem h, qpf, Nat.zero_add, List.length_take, Nat.min_eq_left (by omega), hg]
 have F2 : F ins.length = trimI need ins 0 := by rw [hF]; dsimp only; rw [List.take_length]
 have FL : ∀ k, (F k).length <= ins.length := fun k => by
  rw [hF]; have := qyy need (ins.take k) 0; rw [List.length_take] at this; dsimp only; omega
 clear hF
 refine qk hcl (fun k : Nat => [(1, .ptr n0 0), (2, .ptr (n0 + 1) 0), (3, .ptr (n0 + 2) 0), (13, .sl (need.map AV.bool)), (14, .int need.length), (15, .int k)])
  (fun k => [.cells [.sl (ins.map Ins.av), .sl (types.map AV.int), .int out] 39, .cells [.v (.slice none 0 0), .v (.slice none 0 0), .int 0] 39, .cells [.gs (n0 + 3) ((F k).map Ins.av), .sl (types.map AV.int), .int out] 39, .tail (F k).length 58 7])
  (fun k => k <= ins.length) (fun k => ins.length - k) 0 (by omega) (by simp [F0]) fun k hk => ?_
 by_cases hlt : k < ins.length
 .have hlt2 : k < need.length := by omega
  have f1 := F1 k hlt
  have fl := FL k
  have hz : ((F k).length + 1) * 56 <= 140737488355328 := by omega
  cases hnk : need[k]'(by omega)
  .rw [hnk] at f1
   repeat' (first | ((first | ((with_reducible refine qj (fun hg => ?_) (fun hg => ?_)) <;> (try simp only [hg]) <;> (try simp only [gS] at hg) <;> (try (first | simp only [eq_false hg, gI] | simp only [eq_true hg, gI]))) | refine Stp.m ?_) <;> (try simp (disch := first | omega | simp) [qc, -qe, -qi, hlt, hlt2, hnk, hz])) | with_reducible refine qgp (id := 6) false (by kernel_rfl) (by kernel_rfl) ?_ | refine sideA ?_ | refine qb fun K hK => ?_ | refine qa ?_ | refine qf ?_ | refine qd ?_ | (refine hK _ ?_; clear hK K) | clear hK K)
   all_goals first | (refine ⟨k + 1, by omega, by omega, ?_⟩; rw [f1]; simp; done) | (exfalso; simp_all; done)
  .rw [hnk] at f1
   repeat' (first | ((first | ((with_reducible refine qj (fun hg => ?_) (fun hg => ?_)) <;> (try simp only [hg]) <;> (try simp only [gS] at hg) <;> (try (first | simp only [eq_false hg, gI] | simp only [eq_true hg, gI]))) | refine Stp.m ?_) <;> (try simp (disch := first | omega | simp) [qc, -qe, -qi, hlt, hlt2, hnk, hz])) | with_reducible refine qgp (id := 6) false (by kernel_rfl) (by kernel_rfl) ?_ | refine sideA ?_ | refine qb fun K hK => ?_ | refine qa ?_ | refine qf ?_ | refine qd ?_ | (refine hK _ ?_; clear hK K) | clear hK K)
   all_goals first | (refine ⟨k + 1, by omega, by omega, ?_⟩; rw [f1]; simp; done) | (exfalso; simp_all; done)
 .have hlt2 : ¬ k < need.length := by omega
  obtain rfl : k = ins.length := by omega
  repeat' (first | ((first | ((with_reducible refine qj (fun hg => ?_) (fun hg => ?_)) <;> (try simp only [hg]) <;> (try simp only [gS] at hg) <;> (try (first | simp only [eq_false hg, gI] | simp only [eq_true hg, gI]))) | refine Stp.m ?_) <;> (try simp (disch := first | omega | simp) [qc, -qe, -qi, hlt2])) | refine sideA ?_ | refine qb fun K hK => ?_ | refine qa ?_ | refine qf ?_ | refine qd ?_ | (refine hK _ ?_; clear hK K) | clear hK K)
  rw [F2]; rfl
theorem qdp (l : List Nat) (i v : Nat) : natAv (l.set i v) = (natAv l).set i (.int v) := by unfold natAv; rw [List.map_set]
theorem qau1 (l : List Nat) (v : Nat) : natAv (l ++ [v]) = natAv l ++ [.int v] := by unfold natAv; rw [List.map_append]; rfl
theorem qtl (n : Nat) : natAv (List.replicate n 0) = List.replicate n (.int 0) := by unfold natAv; rw [List.map_replicate]; rfl
def endS (i : Nat) (e : List Nat) (src : List Nat) : List Nat := src.foldl (fun e k => e.set k i) e
theorem qcu1 (i : Nat) (e src : List Nat) (k : Nat) : endS i e (src ++ [k]) = (endS i e src).set k i := by unfold endS; rw [List.foldl_append]; rfl
theorem qxh (i : Nat) : ∀ (src e : List Nat), (endS i e src).length = e.length
 | [], _ => rfl
 | k :: src, e => by unfold endS; rw [List.foldl_cons]; have := qxh i src (e.set k i); unfold endS at this; rw [this, List.length_set]
theorem qgb1 {e : List Nat} {i : Nat} {t : Int} {hs : List Nat} {us : List Int} (hl : hs.length = us.length) {k : Nat} (h : ∀ m, m < k -> i < e.getD (hs.getD m 0) 0 \/ us.getD m 0 ≠ t) (hk : k <= hs.length)
  (h2 : k = hs.length \/ ¬ (i < e.getD (hs.getD k 0) 0 \/ us.getD k 0 ≠ t)) : slot e i t hs us = k := by
 obtain ⟨h3, h4, h5⟩ := qmt e i t hs us hl
 rcases Nat.lt_trichotomy (slot e i t hs us) k with h6 | h6 | h6
 .have h7 := h _ h6
  have h8 := h4 (by omega)
  rcases h7 with h7 | h7
  .omega
  .exact absurd h8.2 h7
 .exact h6
 .have h7 := h5 k h6
  rcases h2 with h2 | h2
  .omega
  .exact absurd h7 h2
set_option maxHeartbeats 8000000 in
theorem qcn1 {c : Cod} {cols : List Int} (h : CodOk c cols) : Gives Tryz.prog 36 [c.av] (compP c).av := by
 have c1 := qss1 h
 obtain ⟨hd, -, -⟩ := qwq h 0 []
 have c2 := qub hd
 have hro := (hd.val_res 0 []).1
 have hdl : (qx (trimP c)).length = (trimP c).ins.length := by unfold qx; exact qdd _ _ _
 have hea := hd.early
 have hs3 : ∀ d ∈ qx (trimP c), d.src.length <= 3 := qmg _ _ _
 have hxs : ∀ k (h1 : k < (qx (trimP c)).length) (h2 : k < (trimP c).ins.length), ((qx (trimP c))[k]).x = (trimP c).ins[k] := by
  have : ∀ (l : List Ins) (i : Nat) (last : List Nat) (k : Nat) (h1 : k < (nodes l i last).length) (h2 : k < l.length), ((nodes l i last)[k]).x = l[k] := fun l => by
   induction l with
   | nil => intro _ _ k h1 h2; simp at h2
   | cons x l ih =>
    intro i last k h1 h2
    cases k with
    | zero => rfl
    | succ k => exact ih (i + 1) _ k _ _
  exact this _ _ _
 have hto : ∀ x ∈ (trimP c).ins, 0 <= x.tgt /\ x.tgt < (trimP c).types.length := by
  have : ∀ (l : List Ins) (done : List Bool), AllOk cols (trimP c).types l done -> ∀ x ∈ l, 0 <= x.tgt /\ x.tgt < (trimP c).types.length := fun l => by
   induction l with
   | nil => intro _ _ x hx; cases hx
   | cons y l ih =>
    intro done ha x hx
    rcases List.mem_cons.1 hx with rfl | hx
    .exact ⟨ha.1.to0, ha.1.to1⟩
    .exact ih _ ha.2 x hx
  exact this _ _ hd.all
 have hni := hd.ni
 have hnt := hd.nt
 obtain ⟨R, hR⟩ : ∃ R, R = compP c := ⟨_, rfl⟩
 rw [<- hR]
 unfold compP compS at hR
 dsimp only at hR
 generalize qx (trimP c) = ds at *
 generalize rootC (trimP c) = root at *
 generalize trimP c = d at *
 obtain ⟨ins, types, out⟩ := d
 obtain ⟨cins, ctypes, cout⟩ := c
 simp only at hro hdl hni hnt hxs hto hR
 have hsz1 : 8 * ins.length <= 281474976710656 := by omega
 have hsz2 : 1 * ins.length <= 281474976710656 := by omega
 refine qg Tryz.func36 Tryz.ntmps36 fun σ n0 hcl hft => ?_
 repeat' (first | ((first | ((with_reducible refine qj (fun hg => ?_) (fun hg => ?_)) <;> (try simp only [hg]) <;> (try simp only [gS] at hg) <;> (try (first | simp only [eq_false hg, gI] | simp only [eq_true hg, gI]))) | refine Stp.m ?_ | refine qh ?_ | refine agH ?_) <;> (try simp (disch := first | omega | simp) [qc, -qe, -qi, hsz1, hsz2])) | refine sideA ?_ | refine qb fun K hK => ?_ | refine qa ?_ | refine qf ?_ | refine qd ?_ | (refine hK _ ?_; clear hK K) | clear hK K)
 obtain ⟨EI, hEI⟩ : ∃ EI, EI = endI ds 0 (List.replicate ins.length 0) := ⟨_, rfl⟩
 refine qk hcl (fun b : Nat × List Nat => [(1, .ptr n0 0), (2, .ptr (n0 + 1) 0), (3, .sl (srcAv ds)), (4, .int root), (5, .own (n0 + 2) ins.length), (31, .sl (srcAv ds)), (32, .int ds.length), (33, .int b.1)])
  (fun b => [.cells [.sl (ins.map Ins.av), .sl (types.map AV.int), .int out] 39, .cells [.v (.slice none 0 0), .v (.slice none 0 0), .int 0] 39, .vec (natAv b.2) 3 1])
  (fun b => b.1 <= ins.length /\ b.2.length = ins.length /\ EI = endI (ds.drop b.1) b.1 b.2) (fun b => ins.length - b.1) (0, List.replicate ins.length 0) ⟨by omega, by simp, hEI⟩ (by simp [qtl]) fun ⟨k, e⟩ ⟨hk, hel, he⟩ => ?_
 dsimp only at hk hel he
 by_cases hlt : k < ins.length
 .have hltd : k < ds.length := by omega
  have hsd : (ds.getD k ⟨⟨0, 0, 0, 0, 0, 0, ByteArray.empty⟩, []⟩).src = ds[k].src := by rw [List.getD_eq_getElem?_getD, List.getElem?_eq_getElem hltd]; rfl
  have hse : ∀ j ∈ ds[k].src, j < k := fun j hj => hea k hltd j (by unfold srcOf; rw [hsd]; exact hj)
  have hsl3 := hs3 ds[k] (List.getElem_mem _)
  rw [List.drop_eq_getElem_cons hltd, endI] at he
  change EI = endI (ds.drop (k + 1)) (k + 1) (endS k (e.set k k) ds[k].src) at he
  generalize hsrc : ds[k].src = src at *
  repeat' (first | ((first | ((with_reducible refine qj (fun hg => ?_) (fun hg => ?_)) <;> (try simp only [hg]) <;> (try simp only [gS] at hg) <;> (try (first | simp only [eq_false hg, gI] | simp only [eq_true hg, gI]))) | refine Stp.m ?_) <;> (try simp (disch := first | omega | simp) [qc, -qe, -qi, hltd, hel, hsrc, hlt])) | refine sideA ?_ | refine qb fun K hK => ?_ | refine qa ?_ | refine qf ?_ | refine qd ?_ | (refine hK _ ?_; clear hK K) | clear hK K)
  refine qk hcl (fun j : Nat => [(1, .ptr n0 0), (2, .ptr (n0 + 1) 0), (3, .sl (srcAv ds)), (4, .int root), (5, .own (n0 + 2) ins.length), (6, .int k), (31, .sl (srcAv ds)), (32, .int ds.length), (33, .int k), (42, .sl (natAv src)), (43, .int src.length), (44, .int j)])
   (fun j => [.cells [.sl (ins.map Ins.av), .sl (types.map AV.int), .int out] 39, .cells [.v (.slice none 0 0), .v (.slice none 0 0), .int 0] 39, .vec (natAv (endS k (e.set k k) (src.take j))) 3 1])
   (fun j => j <= src.length) (fun j => src.length - j) 0 (by omega) (by simp [endS, qdp]; exact qvj (qye _ _) (by simp)) fun j hj => ?_
  have hl2 : (endS k (e.set k k) (src.take j)).length = ins.length := by rw [qxh, List.length_set]; exact hel
  by_cases hlt2 : j < src.length
  .have hs1 := hse src[j] (List.getElem_mem _)
   have hs2 : src[j] < ins.length := by omega
   have hsn : endS k (e.set k k) (src.take (j + 1)) = (endS k (e.set k k) (src.take j)).set src[j] k := by rw [List.take_succ_eq_append_getElem hlt2, qcu1]
   repeat' (first | ((first | ((with_reducible refine qj (fun hg => ?_) (fun hg => ?_)) <;> (try simp only [hg]) <;> (try simp only [gS] at hg) <;> (try (first | simp only [eq_false hg, gI] | simp only [eq_true hg, gI]))) | refine Stp.m ?_) <;> (try simp (disch := first | omega | simp) [qc, -qe, -qi, hlt2, hl2, hs2])) | refine sideA ?_ | refine qb fun K hK => ?_ | refine qa ?_ | refine qf ?_ | refine qd ?_ | (refine hK _ ?_; clear hK K) | clear hK K)
   refine ⟨j + 1, by omega, by omega, ?_⟩
   rw [hsn]; simp [qdp]
  .obtain rfl : j = src.length := by omega
   rw [List.take_length] at hl2 ⊢
   repeat' (first | ((first | ((with_reducible refine qj (fun hg => ?_) (fun hg => ?_)) <;> (try simp only [hg]) <;> (try simp only [gS] at hg) <;> (try (first | simp only [eq_false hg, gI] | simp only [eq_true hg, gI]))) | refine Stp.m ?_) <;> (try simp (disch := first | omega | simp) [qc, -qe, -qi, hlt2])) | refine sideA ?_ | refine qb fun K hK => ?_ | refine qa ?_ | refine qf ?_ | refine qd ?_ | (refine hK _ ?_; clear hK K) | clear hK K)
   refine ⟨k + 1, endS k (e.set k k) src, ⟨by omega, hl2, he⟩, by omega, ?_⟩
   simp
 .obtain rfl : k = ins.length := by omega
  rw [List.drop_of_length_le (by omega), endI] at he
  subst he
  have hltd : ¬ ins.length < ds.length := by omega
  repeat' (first | ((first | ((with_reducible refine qj (fun hg => ?_) (fun hg => ?_)) <;> (try simp only [hg]) <;> (try simp only [gS] at hg) <;> (try (first | simp only [eq_false hg, gI] | simp only [eq_true hg, gI]))) | refine Stp.m ?_) <;> (try simp (disch := first | omega | simp) [qc, -qe, -qi, hltd, hel, hro, hsz1, hsz2])) | refine sideA ?_ | refine qb fun K hK => ?_ | refine qa ?_ | refine qf ?_ | refine qd ?_ | (refine hK _ ?_; clear hK K) | clear hK K)
  obtain ⟨E, hE⟩ : ∃ E, E = EI.set root ins.length := ⟨_, rfl⟩
  have hEl : E.length = ins.length := by rw [hE, List.length_set]; exact hel
  obtain ⟨S, hS⟩ : ∃ S, S = compI E types ds 0 ⟨[], [], [], List.replicate ins.length 0⟩ := ⟨_, rfl⟩
  have hR2 : R = ⟨S.ins, S.tys, (S.place.getD root 0 : Nat)⟩ := by rw [hR, hS, hE, hEI, endP, hdl]
  clear hR hEI
  refine qco 3 0 58 7 (by rfl) (by rfl) ?_
  refine qco 3 1 3 1 (by rfl) (by rfl) ?_
  refine qbn 12 3 1 (by simp) ?_
  refine qrt 12 7 (et := 3) (sz := 1) (by simp) (by rfl) ?_
  refine qk hcl (fun b : Nat × CompS => [(1, .ptr n0 0), (2, .ptr (n0 + 1) 0), (3, .sl (srcAv ds)), (4, .int root), (5, .own (n0 + 2) ins.length), (10, .ptr (n0 + 3) 0), (11, .own (n0 + 4) ins.length), (12, .own (n0 + 8) b.2.holds.length), (65, .sl (ins.map Ins.av)), (66, .int ins.length), (67, .int b.1)])
   (fun b => [.cells [.sl (ins.map Ins.av), .sl (types.map AV.int), .int out] 39, .cells [.v (.slice none 0 0), .v (.slice none 0 0), .int 0] 39, .vec (natAv E) 3 1,
    .cells [.gs (n0 + 5) (b.2.ins.map Ins.av), .gs (n0 + 6) (b.2.tys.map AV.int), .int 0] 39, .vec (natAv b.2.place) 3 1, .tail b.2.ins.length 58 7, .tail b.2.tys.length 3 1, .dead, .vec (natAv b.2.holds) 3 1])
   (fun b => b.1 <= ins.length /\ S = compI E types (ds.drop b.1) b.1 b.2 /\ b.2.ins.length = b.1 /\ b.2.holds.length = b.2.tys.length /\ b.2.holds.length <= b.1 /\ (∀ q ∈ b.2.holds, q < b.1) /\ b.2.place.length = ins.length)
   (fun b => ins.length - b.1) (0, ⟨[], [], [], List.replicate ins.length 0⟩) ⟨by omega, hS, rfl, rfl, by simp, by simp, by simp⟩ (by simp [hE, qdp, qtl, show natAv ([] : List Nat) = [] from rfl]; exact qvj (qye _ _) (by simp)) fun ⟨i, s⟩ ⟨hi, hSi, s1, s2, s3, s4, s5⟩ => ?_
  dsimp only at hi hSi s1 s2 s3 s4 s5
  clear hE hel
  by_cases hlt : i < ins.length
  .have hltd : i < ds.length := by omega
   have hsd : (ds.getD i ⟨⟨0, 0, 0, 0, 0, 0, ByteArray.empty⟩, []⟩).src = ds[i].src := by rw [List.getD_eq_getElem?_getD, List.getElem?_eq_getElem hltd]; rfl
   have hse : ∀ j ∈ ds[i].src, j < i := fun j hj => hea i hltd j (by unfold srcOf; rw [hsd]; exact hj)
   have hsl3 := hs3 ds[i] (List.getElem_mem _)
   have hx := hxs i hltd hlt
   have hxto := hto ins[i] (List.getElem_mem _)
   rw [List.drop_eq_getElem_cons hltd, compI] at hSi
   try dsimp only at hSi
   rw [hx] at hSi
   have htd : types.getD ins[i].tgt.toNat 0 = types[ins[i].tgt.toNat]'(by omega) := by rw [List.getD_eq_getElem?_getD, List.getElem?_eq_getElem (by omega)]; rfl
   rw [htd] at hSi
   generalize hsrc : ds[i].src = src at *
   repeat' (first | ((first | ((with_reducible refine qj (fun hg => ?_) (fun hg => ?_)) <;> (try simp only [hg]) <;> (try simp only [gS] at hg) <;> (try (first | simp only [eq_false hg, gI] | simp only [eq_true hg, gI]))) | refine Stp.m ?_) <;> (try simp (disch := first | omega | simp) [qc, -qe, -qi, hltd, hlt, hsrc])) | refine sideA ?_ | refine qb fun K hK => ?_ | refine qa ?_ | refine qf ?_ | refine qd ?_ | (refine hK _ ?_; clear hK K) | clear hK K)
   obtain ⟨args, hargs⟩ : ∃ args, args = src.map fun j => ((s.place.getD j 0 : Nat) : Int) := ⟨_, rfl⟩
   have hal : args.length = src.length := by rw [hargs, List.length_map]
   have haj : ∀ j (h : j < src.length), args[j]'(by omega) = ((s.place[src[j]]'(by have := hse _ (List.getElem_mem h); omega) : Nat) : Int) := fun j h => by
    have := hse _ (List.getElem_mem h)
    simp only [hargs, List.getElem_map]
    rw [List.getD_eq_getElem?_getD, List.getElem?_eq_getElem (by omega)]; rfl
   rw [<- hargs] at hSi
   clear hargs
   obtain ⟨Y, hY⟩ : ∃ Y : Nat -> Nat -> Int, Y = fun j m => (args.take j).getD m 0 := ⟨_, rfl⟩
   have Y0 : ∀ m, Y 0 m = 0 := fun m => by rw [hY]; simp
   have Y1 : ∀ j m (h : j < src.length), Y (j + 1) m = if m = j then ((s.place[src[j]]'(by have := hse _ (List.getElem_mem h); omega) : Nat) : Int) else Y j m := fun j m h => by
    rw [hY]
    dsimp only
    rw [List.take_succ_eq_append_getElem (by omega), haj j h, qdb, List.length_take, Nat.min_eq_left (by omega)]
    by_cases hm : m < j
    .rw [if_pos hm, if_neg (by omega)]
    .rw [if_neg hm]
     by_cases hm2 : m = j
     .rw [if_pos hm2, if_pos hm2]
     .rw [if_neg hm2, if_neg hm2, List.getD_eq_getElem?_getD, List.getElem?_eq_none (by rw [List.length_take]; omega)]; rfl
   have Y2 : ∀ k, newI ins[i] args k = ⟨ins[i].op, k, Y src.length 0, Y src.length 1, Y src.length 2, ins[i].n, ins[i].s⟩ := fun k => by
    rw [hY]; dsimp only; rw [<- hal, List.take_length]; rfl
   clear hY haj
   refine qk hcl (fun j : Nat => [(1, .ptr n0 0), (2, .ptr (n0 + 1) 0), (3, .sl (srcAv ds)), (4, .int root), (5, .own (n0 + 2) ins.length), (10, .ptr (n0 + 3) 0), (11, .own (n0 + 4) ins.length), (12, .own (n0 + 8) s.holds.length), (13, .int i), (14, .ptr (n0 + 9) 0), (15, .ptr (n0 + 10) 0), (16, .sl [.ptr (n0 + 10) 2, .ptr (n0 + 10) 3, .ptr (n0 + 10) 4]), (65, .sl (ins.map Ins.av)), (66, .int ins.length), (67, .int i), (86, .sl (natAv src)), (87, .int src.length), (88, .int j)])
    (fun j => [.cells [.sl (ins.map Ins.av), .sl (types.map AV.int), .int out] 39, .cells [.v (.slice none 0 0), .v (.slice none 0 0), .int 0] 39, .vec (natAv E) 3 1,
     .cells [.gs (n0 + 5) (s.ins.map Ins.av), .gs (n0 + 6) (s.tys.map AV.int), .int 0] 39, .vec (natAv s.place) 3 1, .tail s.ins.length 58 7, .tail s.tys.length 3 1, .dead, .vec (natAv s.holds) 3 1,
     .cells [.int ins[i].op, .int ins[i].tgt, .int ins[i].a, .int ins[i].b, .int ins[i].c, .int ins[i].n, .str ins[i].s] 58,
     .cells [.int ins[i].op, .int 0, .int (Y j 0), .int (Y j 1), .int (Y j 2), .int ins[i].n, .str ins[i].s] 58])
    (fun j => j <= src.length) (fun j => src.length - j) 0 (by omega) (by simp [Y0]) fun j hj => ?_
   by_cases hlt2 : j < src.length
   .have hs1 := hse src[j] (List.getElem_mem _)
    have hs2 : src[j] < ins.length := by omega
    have hs3 : src[j] < s.place.length := by omega
    have hj3 : j = 0 \/ j = 1 \/ j = 2 := by omega
    have y0 := Y1 j 0 hlt2
    have y1 := Y1 j 1 hlt2
    have y2 := Y1 j 2 hlt2
    have hrp : ∀ (τ : Nat -> AB) (r o : Nat), rdAt τ false 1 (.ep (.ptr r o) 0) = some (.ptr r o) := fun _ _ _ => rfl
    rcases hj3 with rfl | rfl | rfl
    .have hq : src ≠ [] := fun e => by rw [e] at hlt2; simp at hlt2
     simp at y0 y1 y2
     repeat' (first | ((first | ((with_reducible refine qj (fun hg => ?_) (fun hg => ?_)) <;> (try simp only [hg]) <;> (try simp only [gS] at hg) <;> (try (first | simp only [eq_false hg, gI] | simp only [eq_true hg, gI]))) | refine Stp.m ?_) <;> (try simp (disch := first | omega | simp) [qc, -qe, -qi, hlt2, hq, s5, hs2, hs3, hrp])) | refine sideA ?_ | refine qb fun K hK => ?_ | refine qa ?_ | refine qf ?_ | refine qd ?_ | (refine hK _ ?_; clear hK K) | clear hK K)
     refine ⟨1, by omega, by omega, ?_⟩
     simp [y0, y1, y2, qdp]
    .have hq : (1 : Int) < src.length := by omega
     simp at y0 y1 y2
     repeat' (first | ((first | ((with_reducible refine qj (fun hg => ?_) (fun hg => ?_)) <;> (try simp only [hg]) <;> (try simp only [gS] at hg) <;> (try (first | simp only [eq_false hg, gI] | simp only [eq_true hg, gI]))) | refine Stp.m ?_) <;> (try simp (disch := first | omega | simp) [qc, -qe, -qi, hlt2, hq, s5, hs2, hs3, hrp])) | refine sideA ?_ | refine qb fun K hK => ?_ | refine qa ?_ | refine qf ?_ | refine qd ?_ | (refine hK _ ?_; clear hK K) | clear hK K)
     refine ⟨2, by omega, by omega, ?_⟩
     simp [y0, y1, y2, qdp]
    .have hq : (2 : Int) < src.length := by omega
     simp at y0 y1 y2
     repeat' (first | ((first | ((with_reducible refine qj (fun hg => ?_) (fun hg => ?_)) <;> (try simp only [hg]) <;> (try simp only [gS] at hg) <;> (try (first | simp only [eq_false hg, gI] | simp only [eq_true hg, gI]))) | refine Stp.m ?_) <;> (try simp (disch := first | omega | simp) [qc, -qe, -qi, hlt2, hq, s5, hs2, hs3, hrp])) | refine sideA ?_ | refine qb fun K hK => ?_ | refine qa ?_ | refine qf ?_ | refine qd ?_ | (refine hK _ ?_; clear hK K) | clear hK K)
     refine ⟨3, by omega, by omega, ?_⟩
     simp [y0, y1, y2, qdp]
   .obtain rfl : j = src.length := by omega
    have t0 := hxto.1
    have t1 := hxto.2
    have hgE : ∀ m (h : m < ins.length), E.getD m 0 = E[m]'(by omega) := fun m h => by rw [List.getD_eq_getElem?_getD, List.getElem?_eq_getElem (by omega)]; rfl
    have hgH : ∀ m (h : m < s.holds.length), s.holds.getD m 0 = s.holds[m] := fun m h => by rw [List.getD_eq_getElem?_getD, List.getElem?_eq_getElem h]; rfl
    have hgT : ∀ m (h : m < s.tys.length), s.tys.getD m 0 = s.tys[m] := fun m h => by rw [List.getD_eq_getElem?_getD, List.getElem?_eq_getElem h]; rfl
    generalize ht : types[ins[i].tgt.toNat]'(by omega) = t at *
    have hsl4 : ∀ k, (∀ m, m < k -> i < E.getD (s.holds.getD m 0) 0 \/ s.tys.getD m 0 ≠ t) -> k <= s.holds.length -> (k = s.holds.length \/ ¬ (i < E.getD (s.holds.getD k 0) 0 \/ s.tys.getD k 0 ≠ t)) -> slot E i t s.holds s.tys = k := fun k => qgb1 s2
    generalize hsk : slot E i t s.holds s.tys = sk at *
    obtain ⟨P, hP⟩ : ∃ P : Nat -> Prop, P = fun m => i < E.getD (s.holds.getD m 0) 0 \/ s.tys.getD m 0 ≠ t := ⟨_, rfl⟩
    replace hsl4 : ∀ k, (∀ m, m < k -> P m) -> k <= s.holds.length -> (k = s.holds.length \/ ¬ P k) -> sk = k := by rw [hP]; exact hsl4
    have hPk : ∀ k, P k ↔ (i < E.getD (s.holds.getD k 0) 0 \/ s.tys.getD k 0 ≠ t) := fun k => by rw [hP]
    clear hP
    repeat' (first | ((first | ((with_reducible refine qj (fun hg => ?_) (fun hg => ?_)) <;> (try simp only [hg]) <;> (try simp only [gS] at hg) <;> (try (first | simp only [eq_false hg, gI] | simp only [eq_true hg, gI]))) | refine Stp.m ?_) <;> (try simp (disch := first | omega | simp) [qc, -qe, -qi, hlt2])) | refine sideA ?_ | refine qb fun K hK => ?_ | refine qa ?_ | refine qf ?_ | refine qd ?_ | (refine hK _ ?_; clear hK K) | clear hK K)
    refine qk hcl (fun k : Nat => [(1, .ptr n0 0), (2, .ptr (n0 + 1) 0), (3, .sl (srcAv ds)), (4, .int root), (5, .own (n0 + 2) ins.length), (10, .ptr (n0 + 3) 0), (11, .own (n0 + 4) ins.length), (12, .own (n0 + 8) s.holds.length), (13, .int i), (14, .ptr (n0 + 9) 0), (15, .ptr (n0 + 10) 0), (19, .int k), (65, .sl (ins.map Ins.av)), (66, .int ins.length), (67, .int i)])
     (fun k => [.cells [.sl (ins.map Ins.av), .sl (types.map AV.int), .int out] 39, .cells [.v (.slice none 0 0), .v (.slice none 0 0), .int 0] 39, .vec (natAv E) 3 1,
     .cells [.gs (n0 + 5) (s.ins.map Ins.av), .gs (n0 + 6) (s.tys.map AV.int), .int 0] 39, .vec (natAv s.place) 3 1, .tail s.ins.length 58 7, .tail s.tys.length 3 1, .dead, .vec (natAv s.holds) 3 1,
     .cells [.int ins[i].op, .int ins[i].tgt, .int ins[i].a, .int ins[i].b, .int ins[i].c, .int ins[i].n, .str ins[i].s] 58,
      .cells [.int ins[i].op, .int 0, .int (Y src.length 0), .int (Y src.length 1), .int (Y src.length 2), .int ins[i].n, .str ins[i].s] 58])
     (fun k => k <= s.holds.length /\ ∀ m, m < k -> P m) (fun k => s.holds.length - k) 0 ⟨by omega, fun m hm => by omega⟩ (by simp) fun k ⟨hk, hkm⟩ => ?_
    by_cases hlk : k < s.holds.length
    .have hlk2 : k < s.tys.length := by omega
     have hh := s4 s.holds[k] (List.getElem_mem _)
     have hh2 : s.holds[k] < ins.length := by omega
     have hh3 : s.holds[k] < E.length := by omega
     have g1 := hgH k hlk
     have g2 := hgE s.holds[k] hh2
     have g3 := hgT k hlk2
     by_cases hc1 : i < E[s.holds[k]]
     .have hstep : ∀ m, m < k + 1 -> P m := fun m hm => by
       by_cases hmk : m = k
       .subst hmk; exact (hPk m).2 (.inl (by rw [g1, g2]; exact hc1))
       .exact hkm m (by omega)
      repeat' (first | ((first | ((with_reducible refine qj (fun hg => ?_) (fun hg => ?_)) <;> (try simp only [hg]) <;> (try simp only [gS] at hg) <;> (try (first | simp only [eq_false hg, gI] | simp only [eq_true hg, gI]))) | refine Stp.m ?_) <;> (try simp (disch := first | omega | simp) [qc, -qe, -qi, hlk, hlk2, hh2, hh3, hc1, hEl, t0, t1, ht])) | with_reducible refine qkk (id := 32) [.cells [.sl (ins.map Ins.av), .sl (types.map AV.int), .int out] 39, .unborn, .unborn, .unborn, .unborn, .unborn, .unborn, .unborn, .unborn, .cells [.int ins[i].op, .int ins[i].tgt, .int ins[i].a, .int ins[i].b, .int ins[i].c, .int ins[i].n, .str ins[i].s] 58] 3 [.R, .R, .R, .A, .N, .N, .R, .R, .R, .R, .R, .R, .R, .A, .R, .N, .W] (by kernel_rfl) (by kernel_rfl) (by simp) ?_ | refine sideA ?_ | refine qb fun K hK => ?_ | refine qa ?_ | refine qf ?_ | refine qd ?_ | (refine hK _ ?_; clear hK K) | clear hK K)
      exact ⟨k + 1, ⟨by omega, hstep⟩, by omega, by omega⟩
     .by_cases hc2 : s.tys[k] = t
      .have hskk : sk = k := hsl4 k hkm hk (.inr fun hp => by
        rcases (hPk k).1 hp with hp | hp
        .rw [g1, g2] at hp; exact hc1 hp
        .rw [g3] at hp; exact hp hc2)
       rw [hskk, if_neg (by omega), if_neg (by omega)] at hSi
       have hkn : ¬ (k : Int) = s.holds.length := by omega
       have hkn2 : ¬ k = s.holds.length := by omega
       have hip : i < s.place.length := by omega
       have hz1 : (s.holds.length + 1) * 8 <= 140737488355328 := by omega
       have hz2 : (s.tys.length + 1) * 8 <= 140737488355328 := by omega
       have hz3 : (s.ins.length + 1) * 56 <= 140737488355328 := by omega
       repeat' (first | ((first | ((with_reducible refine qj (fun hg => ?_) (fun hg => ?_)) <;> (try simp only [hg]) <;> (try simp only [gS] at hg) <;> (try (first | simp only [eq_false hg, gI] | simp only [eq_true hg, gI]))) | refine Stp.m ?_) <;> (try simp (disch := first | omega | simp) [qc, -qe, -qi, hlk, hlk2, hh2, hh3, hc1, hc2, hEl, t0, t1, ht, hkn, hkn2, s5, hlt, hip, hz1, hz2, hz3])) | with_reducible refine qkk (id := 32) [.cells [.sl (ins.map Ins.av), .sl (types.map AV.int), .int out] 39, .unborn, .unborn, .unborn, .unborn, .unborn, .unborn, .unborn, .unborn, .cells [.int ins[i].op, .int ins[i].tgt, .int ins[i].a, .int ins[i].b, .int ins[i].c, .int ins[i].n, .str ins[i].s] 58] 3 [.R, .R, .R, .A, .N, .N, .R, .R, .R, .R, .R, .R, .R, .A, .R, .N, .W] (by kernel_rfl) (by kernel_rfl) (by simp) ?_ | refine sideA ?_ | refine qb fun K hK => ?_ | refine qa ?_ | refine qf ?_ | refine qd ?_ | (refine hK _ ?_; clear hK K) | clear hK K)
       all_goals first | exact absurd hc2 (by assumption) | exact absurd (by assumption) hkn | exact absurd (by assumption) hkn2 | skip
       refine ⟨i + 1, ⟨s.ins ++ [newI ins[i] args k], s.holds.set k i, s.tys, s.place.set i k⟩, ⟨by omega, hSi, by simp [s1], by simp [s2], by simp; omega, fun q hq => ?_, by simp [s5]⟩, by omega, ?_⟩
       .rcases List.mem_or_eq_of_mem_set hq with hq | rfl
        .have := s4 q hq; omega
        .omega
       .simp [Y2, Ins.av, -Ins.av_fold, qdp]
      .have hstep : ∀ m, m < k + 1 -> P m := fun m hm => by
        by_cases hmk : m = k
        .subst hmk; exact (hPk m).2 (.inr (by rw [g3]; exact hc2))
        .exact hkm m (by omega)
       repeat' (first | ((first | ((with_reducible refine qj (fun hg => ?_) (fun hg => ?_)) <;> (try simp only [hg]) <;> (try simp only [gS] at hg) <;> (try (first | simp only [eq_false hg, gI] | simp only [eq_true hg, gI]))) | refine Stp.m ?_) <;> (try simp (disch := first | omega | simp) [qc, -qe, -qi, hlk, hlk2, hh2, hh3, hc1, hc2, hEl, t0, t1, ht])) | with_reducible refine qkk (id := 32) [.cells [.sl (ins.map Ins.av), .sl (types.map AV.int), .int out] 39, .unborn, .unborn, .unborn, .unborn, .unborn, .unborn, .unborn, .unborn, .cells [.int ins[i].op, .int ins[i].tgt, .int ins[i].a, .int ins[i].b, .int ins[i].c, .int ins[i].n, .str ins[i].s] 58] 3 [.R, .R, .R, .A, .N, .N, .R, .R, .R, .R, .R, .R, .R, .A, .R, .N, .W] (by kernel_rfl) (by kernel_rfl) (by simp) ?_ | refine sideA ?_ | refine qb fun K hK => ?_ | refine qa ?_ | refine qf ?_ | refine qd ?_ | (refine hK _ ?_; clear hK K) | clear hK K)
       all_goals first | exact absurd (by assumption) hc2 | exact ⟨k + 1, ⟨by omega, hstep⟩, by omega, by omega⟩
    .obtain rfl : k = s.holds.length := by omega
     have hskk : sk = s.holds.length := hsl4 _ hkm hk (.inl rfl)
     rw [hskk, if_pos rfl, if_pos rfl] at hSi
     have hip : i < s.place.length := by omega
     have hz1 : (s.holds.length + 1) * 8 <= 140737488355328 := by omega
     have hz2 : (s.tys.length + 1) * 8 <= 140737488355328 := by omega
     have hz3 : (s.ins.length + 1) * 56 <= 140737488355328 := by omega
     repeat' (first | ((first | ((with_reducible refine qj (fun hg => ?_) (fun hg => ?_)) <;> (try simp only [hg]) <;> (try simp only [gS] at hg) <;> (try (first | simp only [eq_false hg, gI] | simp only [eq_true hg, gI]))) | refine Stp.m ?_) <;> (try simp (disch := first | omega | simp) [qc, -qe, -qi, hlk, hEl, t0, t1, ht, s5, hlt, hip, hz1, hz2, hz3])) | with_reducible refine qkk (id := 32) [.cells [.sl (ins.map Ins.av), .sl (types.map AV.int), .int out] 39, .unborn, .unborn, .unborn, .unborn, .unborn, .unborn, .unborn, .unborn, .cells [.int ins[i].op, .int ins[i].tgt, .int ins[i].a, .int ins[i].b, .int ins[i].c, .int ins[i].n, .str ins[i].s] 58] 3 [.R, .R, .R, .A, .N, .N, .R, .R, .R, .R, .R, .R, .R, .A, .R, .N, .W] (by kernel_rfl) (by kernel_rfl) (by simp) ?_ | refine sideA ?_ | refine qb fun K hK => ?_ | refine qa ?_ | refine qf ?_ | refine qd ?_ | (refine hK _ ?_; clear hK K) | clear hK K)
     refine ⟨i + 1, ⟨s.ins ++ [newI ins[i] args s.holds.length], s.holds ++ [i], s.tys ++ [t], s.place.set i s.holds.length⟩, ⟨by omega, hSi, by simp [s1], by simp [s2], by simp; omega, fun q hq => ?_, by simp [s5]⟩, by omega, ?_⟩
     .rcases List.mem_append.1 hq with hq | hq
      .have := s4 q hq; omega
      .rw [List.mem_singleton] at hq; omega
     .simp [Y2, Ins.av, -Ins.av_fold, qdp, qau1]
  .obtain rfl : i = ins.length := by omega
   rw [List.drop_of_length_le (by omega), compI] at hSi
   subst hSi
   have hrp : root < S.place.length := by omega
   have hgp : S.place.getD root 0 = S.place[root] := by rw [List.getD_eq_getElem?_getD, List.getElem?_eq_getElem hrp]; rfl
   rw [hgp] at hR2
   repeat' (first | ((first | ((with_reducible refine qj (fun hg => ?_) (fun hg => ?_)) <;> (try simp only [hg]) <;> (try simp only [gS] at hg) <;> (try (first | simp only [eq_false hg, gI] | simp only [eq_true hg, gI]))) | refine Stp.m ?_) <;> (try simp (disch := first | omega | simp) [qc, -qe, -qi, hlt, s5, hro, hrp])) | refine sideA ?_ | refine qb fun K hK => ?_ | refine qa ?_ | refine qf ?_ | refine qd ?_ | (refine hK _ ?_; clear hK K) | clear hK K)
   rw [hR2]; rfl
end Go.Proofs.YtkedbjjfmejbhaaGreatDoor
