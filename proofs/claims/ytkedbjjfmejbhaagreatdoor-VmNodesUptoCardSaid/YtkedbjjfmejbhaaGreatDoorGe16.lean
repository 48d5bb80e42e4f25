/- api.Code as an abstract value. -/
import Derived.WideShapes
import Derived.Laws.Strings
import Derived.Test.YtkedbjjfmejbhaaGreatDoorProg
import Derived.KernelRfl
import Derived.Deep.DeepHandedRow
import Derived.Lib.LaidTab
import Derived.Test.YtkedbjjfmejbhaaGreatDoorGe1
import Derived.Test.YtkedbjjfmejbhaaGreatDoorGe3
import Derived.Test.YtkedbjjfmejbhaaGreatDoorGe4
import Derived.Test.YtkedbjjfmejbhaaGreatDoorGe12
import Derived.Test.YtkedbjjfmejbhaaGreatDoorGe14
import Derived.Test.YtkedbjjfmejbhaaGreatDoorGe15
set_option linter.unusedSimpArgs false
set_option linter.unusedVariables false
namespace Go.Proofs.YtkedbjjfmejbhaaGreatDoor
open Go.RowKit Go.Lib
def Cod.av (x : Cod) : AV := .agg [.sl (x.ins.map Ins.av), .sl (x.types.map AV.int), .int x.out]
@[simp] theorem Cod.av_nt (x : Cod) : x.av.nt = true := rfl
@[simp] theorem Cod.av_sure (x : Cod) : x.av.sure = true := rfl
@[simp] theorem Cod.av_elem (x : Cod) : x.av.elem = true := rfl
@[simp] theorem Cod.av_width (x : Cod) : x.av.width = 3 := rfl
@[simp] theorem Cod.av_pub (x : Cod) : x.av.pub = x.av := by unfold Cod.av; rw [AV.pub]; simp only [AV.pubs_cons, AV.pubs_nil, AV.pub_v, pubV, AV.pub_sl]
@[simp] theorem Cod.av_cells (x : Cod) : x.av.cells = [.sl (x.ins.map Ins.av), .sl (x.types.map AV.int), .int x.out] := rfl
@[simp] theorem Cod.av_fold (x : Cod) : AV.agg [.sl (x.ins.map Ins.av), .sl (x.types.map AV.int), .int x.out] = x.av := rfl
@[simp] theorem Cod.av_val? (x : Cod) : x.av.val? = none := rfl
@[simp] theorem Cod.rd_all (x : Cod) (σ : Nat -> AB) : rdAt σ true 3 (.ep x.av 0) = some x.av := rfl
@[simp] theorem Cod.rd_0 (x : Cod) (σ : Nat -> AB) (n : Nat) : rdAt σ false n (.ep x.av 0) = some (.sl (x.ins.map Ins.av)) := rfl
@[simp] theorem Cod.rd_1 (x : Cod) (σ : Nat -> AB) (n : Nat) : rdAt σ false n (.ep x.av 1) = some (.sl (x.types.map AV.int)) := rfl
@[simp] theorem Cod.rd_2 (x : Cod) (σ : Nat -> AB) (n : Nat) : rdAt σ false n (.ep x.av 2) = some (.int x.out) := rfl
@[simp] theorem Cod.av_cl (x : Cod) (m : Nat) : x.av.cl m := by unfold Cod.av; simp [-Cod.av_fold]
@[simp] theorem Cod.avs_cl (l : List Cod) (m : Nat) : AV.cls m (l.map Cod.av) := AV.cls_map (fun f => f.av_cl m) l
@[simp] theorem Cod.avs_wid (l : List Cod) : AV.wid (l.map Cod.av) 3 := AV.wid_map (f := Cod.av) (fun a => a.av_width) l
@[simp] theorem Cod.avs_elms (l : List Cod) : AV.elms (l.map Cod.av) := AV.elms_map (f := Cod.av) (fun a => a.av_elem) l
theorem Cod.d_av (x : Cod) : x.d.av = x.av := by
 simp only [Cod.d, Cod.av, D.av, D.cs, D.avs_map, List.map_map, List.nil_append, List.cons_append, List.append_nil]
 rw [show D.av ∘ Ins.d = Ins.av from funext Ins.d_av]
 try rfl
theorem Cod.ds_av (l : List Cod) : (D.sl (l.map Cod.d)).av = .sl (l.map Cod.av) := by
 rw [D.av, D.avs_map, List.map_map]
 first
 | rfl
 | (congr 1; exact List.map_congr_left fun x _ => x.d_av)
theorem Cod.flat {w : World} {x : Cod} {cs : List Value} (h : Rd w Any x.d cs) : RR1 (St.flat w) x.av (.agg cs.toArray) := by
 have := qci h
 rw [Cod.d_av, Cod.av, RC] at this
 exact ⟨cs, rfl, this⟩
theorem Cod.flats {w : World} {l : List Cod} {v : Value} (h : Rd w Any (.sl (l.map Cod.d)) [v]) : RR1 (St.flat w) (.sl (l.map Cod.av)) v := by
 have := qci h
 rw [Cod.ds_av] at this
 exact this
section
variable {H : Type} {enc : TypeId × Value -> H} {w : World} {sp : Nat -> Bool} {hd : Bool}
theorem qwr (N : Nat) : Trods enc Tryz.prog w sp hd 55 Delta.d N := by
 intro n cs x hn h
 obtain ⟨xs, m, rfl, -, hlen, hl2, hf⟩ := DataW.trod_struct Tryz.underlying55 h
 have hc : Tryz.prog.cellsOf 55 = 3 := by kernel_rfl
 rw [hc] at hlen
 obtain ⟨y0, h0⟩ := ql 0 3 0 1 hl2 hf ⟨_, rfl, rfl, rfl⟩ (by kernel_rfl)
 obtain ⟨y1, h1⟩ := ql 1 53 1 1 hl2 hf ⟨_, rfl, rfl, rfl⟩ (by kernel_rfl)
 obtain ⟨y2, h2⟩ := ql 2 3 2 1 hl2 hf ⟨_, rfl, rfl, rfl⟩ (by kernel_rfl)
 obtain ⟨a0, r0⟩ := qv Tryz.underlying3 (m + 1) m _ _ (by omega) h0
 obtain ⟨a1, r1⟩ := qcr Tryz.underlying53 (sz := 3) (by kernel_rfl) (by omega) Val.width (qgw1 (m + 1)) m _ _ (by omega) h1
 obtain ⟨a2, r2⟩ := qv Tryz.underlying3 (m + 1) m _ _ (by omega) h2
 exact ⟨⟨a0, a1, a2⟩, rd_st (qs (k := 1) r0 (qs (k := 1) r1 (qs (k := 1) r2 (qgk (by omega)))))⟩
theorem qul (N : Nat) : Trods enc Tryz.prog w sp hd 30 (fun l : List Delta => D.sl (l.map Delta.d)) N := fun n cs x hn h =>
 qcr Tryz.underlying30 (sz := 3) (by kernel_rfl) (by omega) Delta.width (qwr N) n cs x (by omega) h
end
end Go.Proofs.YtkedbjjfmejbhaaGreatDoor
namespace Go.Proofs.YtkedbjjfmejbhaaGreatDoor
open Go.RowKit Go.Lib
section
variable {H : Type} {enc : TypeId × Value -> H} {w : World} {sp : Nat -> Bool} {hd : Bool}
end
section
variable {H : Type} {enc : TypeId × Value -> H} {w : World} {sp : Nat -> Bool} {hd : Bool}
end
end Go.Proofs.YtkedbjjfmejbhaaGreatDoor
namespace Go.Proofs.YtkedbjjfmejbhaaGreatDoor
open Go.ChangeShapes Go.WideShapes Go.ChangeAt Go.RowKit Go.Lib
section
variable {H : Type} {enc : TypeId × Value -> H} {P : Program} {w : World} {base : Nat} {spare : Nat -> Bool} {held : Bool} {t0 t1 t2 t3 t4 t5 t6 : TypeId} {args : Array Value} {ds : List (DataW H)} {ps : List MemPlace}
end
theorem qac1 {w : World} {l : List Fn} {v : Value} (h : Rd w Any (.sl (l.map Fn.d)) [v]) : RR1 (St.flat w) (.sl (l.map Fn.av)) v := by
 have := qci h
 rw [qlg1] at this
 exact this
theorem qgh {α : Type} {g : α -> Nat} : ∀ {l : List α} {a : α}, a ∈ l -> g a <= (l.map g).sum
 | [], _, h => by cases h
 | b :: l, a, h => by
  rw [List.map_cons, List.sum_cons]
  rcases List.mem_cons.1 h with rfl | h
  .omega
  .have := qgh (g := g) h; omega
theorem qgm1 : ∀ l : List Fn, 5 * l.length <= (l.map fun f => 5 * parts f.body).sum
 | [] => by simp
 | f :: l => by
  have h1 := qgm1 l
  have h2 := qcl f.body
  rw [List.map_cons, List.sum_cons, List.length_cons]; omega
end Go.Proofs.YtkedbjjfmejbhaaGreatDoor
namespace Go.Proofs.YtkedbjjfmejbhaaGreatDoor
open Go.RowKit Go.Lib
theorem qyw (F : List Fn) (e : Ex) (hbd : parts e <= 1000000) (hp : ∀ f ∈ F, parts f.body <= 1000000) (hlen : F.length <= 1000000) : Gives Tryz.prog 21 [.sl (F.map Fn.av), e.av] (.int (qmx F e)) :=
 qvx fun X vals ha => by
  obtain ⟨v0, _, rfl, h0, v1, _, rfl, h1, h3⟩ := ha
  cases h3
  obtain ⟨cs, rfl, hr⟩ := qqo1 h1
  exact qba1 F e Any Any v0 cs X.w (qmf1 h0) hr hbd hp hlen
theorem qfn1 (n : Int) : Gives Tryz.prog 55 [.int n] (.bool (kindB n)) := by
 have e : kindB n = (decide (0 <= n) && decide (n < 3)) := rfl
 rw [e]
 by_cases h : 0 <= n
 .refine qg Tryz.func55 Tryz.ntmps55 fun σ n0 hcl hft => ?_
  repeat' (first | (refine Stp.m ?_ <;> try simp (disch := first | omega | simp) [qc, -qe, -qi, h]) | refine qb fun K hK => ?_ | refine qa ?_ | (refine hK _ ?_; clear hK K))
 .refine qg Tryz.func55 Tryz.ntmps55 fun σ n0 hcl hft => ?_
  repeat' (first | (refine Stp.m ?_ <;> try simp (disch := first | omega | simp) [qc, -qe, -qi, h]) | refine qb fun K hK => ?_ | refine qa ?_ | (refine hK _ ?_; clear hK K))
def atX (l : List Int) (n : Int) : Int := if 0 <= n /\ n < l.length then l.getD n.toNat 0 else 0
theorem rat_g (l : List Int) (n : Int) : Gives Tryz.prog 159 [.sl (l.map AV.int), .int n] (.tup [.int (atX l n), .bool (pickT l n).isSome]) := by
 by_cases h0 : n < 0
 .have e1 : atX l n = 0 := by unfold atX; rw [if_neg (by omega)]
  have e2 : (pickT l n).isSome = false := by unfold pickT; rw [if_pos h0]; rfl
  rw [e1, e2]
  refine qg Tryz.func159 Tryz.ntmps159 fun σ n0 hcl hft => ?_
  repeat' (first | (refine Stp.m ?_ <;> try simp (disch := first | omega | simp) [qc, -qe, -qi, h0]) | refine qb fun K hK => ?_ | refine qa ?_ | (refine hK _ ?_; clear hK K))
 obtain ⟨k, rfl⟩ : ∃ k : Nat, n = k := ⟨n.toNat, by omega⟩
 by_cases h1 : k < l.length
 .have e1 : atX l k = l[k] := by unfold atX; rw [if_pos (by omega), List.getD_eq_getElem?_getD]; simp [h1]
  have e2 : (pickT l k).isSome = kindB l[k] := by
   unfold pickT
   rw [if_neg h0, Int.toNat_natCast, List.getElem?_eq_getElem h1]
   simp only
   cases kindB l[k] <;> rfl
  rw [e1, e2]
  have c := qfn1 l[k]
  have h3 : ¬ l.length <= k := by omega
  refine qg Tryz.func159 Tryz.ntmps159 fun σ n0 hcl hft => ?_
  repeat' (first | ((first | refine Stp.m ?_ | refine agH ?_) <;> (try simp (disch := first | omega | simp) [qc, -qe, -qi, h0, h1, h3])) | refine qb fun K hK => ?_ | refine qa ?_ | refine qf ?_ | (refine hK _ ?_; clear hK K))
 .have e1 : atX l k = 0 := by unfold atX; rw [if_neg (by omega)]
  have e2 : (pickT l k).isSome = false := by
   unfold pickT
   rw [if_neg h0, Int.toNat_natCast, List.getElem?_eq_none (by omega)]; rfl
  rw [e1, e2]
  have h2 : (l.length : Int) <= k := by omega
  refine qg Tryz.func159 Tryz.ntmps159 fun σ n0 hcl hft => ?_
  repeat' (first | (refine Stp.m ?_ <;> try simp (disch := first | omega | simp) [qc, -qe, -qi, h0, h1, h2]) | refine qb fun K hK => ?_ | refine qa ?_ | (refine hK _ ?_; clear hK K))
def numP (op : Int) : Int := if 0 <= op /\ op <= 5 then 0 else if op = 6 \/ op = 7 \/ op = 20 then 1 else if op = 21 then 3 else if 5 < op /\ op < 21 then 2 else -1
set_option maxHeartbeats 4000000 in
theorem qfo1 (op : Int) : Gives Tryz.prog 158 [.int op] (.int (numP op)) := by
 obtain ⟨N, hN⟩ : ∃ N, N = numP op := ⟨_, rfl⟩
 rw [<- hN]
 refine qg Tryz.func158 Tryz.ntmps158 fun σ n0 hcl hft => ?_
 repeat' (first | ((first | ((with_reducible refine qj (fun hg => ?_) (fun hg => ?_)) <;> (try simp only [hg]) <;> (try simp only [gS] at hg) <;> (try (first | simp only [eq_false hg, gI] | simp only [eq_true hg, gI]))) | refine Stp.m ?_) <;> (try simp (disch := first | omega | simp) [qc, -qe, -qi])) | refine qb fun K hK => ?_ | refine qa ?_ | refine qd ?_ | (refine hK _ ?_; clear hK K) | clear hK K)
 all_goals (rw [hN]; unfold numP; (repeat' split) <;> omega)
set_option maxHeartbeats 4000000 in
theorem qou1 (F : List Fn) (n : Int) (ts : List Int) : Gives Tryz.prog 157 [.sl (F.map Fn.av), .int n, .sl (ts.map AV.int)] (.tup [.int ((callT F n ts).getD 0), .bool (callT F n ts).isSome]) := by
 obtain ⟨C, hC⟩ : ∃ C, C = callT F n ts := ⟨_, rfl⟩
 rw [<- hC]
 unfold callT at hC
 by_cases h0 : n < 0
 .rw [if_pos h0] at hC
  subst hC
  refine qg Tryz.func157 Tryz.ntmps157 fun σ n0 hcl hft => ?_
  repeat' (first | (refine Stp.m ?_ <;> try simp (disch := first | omega | simp) [qc, -qe, -qi, h0]) | refine qb fun K hK => ?_ | refine qa ?_ | (refine hK _ ?_; clear hK K))
 obtain ⟨k, rfl⟩ : ∃ k : Nat, n = k := ⟨n.toNat, by omega⟩
 rw [if_neg h0, Int.toNat_natCast] at hC
 by_cases h1 : k < F.length
 .rw [List.getElem?_eq_getElem h1] at hC
  dsimp only at hC
  have h1' : ¬ F.length <= k := by omega
  obtain ⟨f, hf⟩ : ∃ f, f = F[k] := ⟨_, rfl⟩
  rw [<- hf] at hC
  by_cases h2 : f.params.length = ts.length
  .refine qg Tryz.func157 Tryz.ntmps157 fun σ n0 hcl hft => ?_
   repeat' (first | (refine Stp.m ?_ <;> try simp (disch := first | omega | simp) [qc, -qe, -qi, h0, h1, h1', <- hf, h2]) | refine qb fun K hK => ?_ | refine qa ?_ | refine qd ?_ | (refine hK _ ?_; clear hK K))
   have hts : ts.length <= 9223372036854775807 := by
    have := (AV.fitss_iff.1 hft) (.sl (ts.map AV.int)) (by simp)
    simp [AV.fits] at this
    exact this.1
   refine qk hcl (fun i : Nat => [(2, .sl (ts.map AV.int)), (6, .int 0), (7, .bool false), (8, .ptr n0 0), (9, .int i)]) (fun _ => [.cells f.av.cells 67]) (fun i => i <= ts.length /\ ∀ j (h : j < ts.length) (h' : j < f.params.length), j < i -> ts[j] = f.params[j]) (fun i => ts.length - i) 0 ⟨by omega, fun j h h' hj => by omega⟩ (by simp) fun i ⟨hi, he⟩ => ?_
   by_cases hlt : i < ts.length
   .have hlt2 : i < f.params.length := by omega
    by_cases hx : ts[i] = f.params[i]
    .repeat' (first | (refine Stp.m ?_ <;> try simp (disch := first | omega | simp) [qc, -qe, -qi, hlt, hlt2, hx]) | refine qb fun K hK => ?_ | refine qa ?_ | refine qf ?_ | refine qd ?_ | (refine hK _ ?_; clear hK K) | clear hK K)
     all_goals
      refine ⟨i + 1, ⟨by omega, fun j h h' hj => ?_⟩, by omega, by simp⟩
      by_cases hji : j < i
      .exact he j h h' hji
      .obtain rfl : j = i := by omega
       exact hx
    .have : C = none := by rw [hC, if_neg]; intro h; exact hx (by simp only [h])
     subst this
     repeat' (first | ((first | ((with_reducible refine qj (fun hg => ?_) (fun hg => ?_)) <;> (try simp only [hg]) <;> (try simp only [gS] at hg) <;> (try (first | simp only [eq_false hg, gI] | simp only [eq_true hg, gI]))) | refine Stp.m ?_) <;> (try simp (disch := first | omega | simp) [qc, -qe, -qi, hlt, hlt2, hx])) | refine qb fun K hK => ?_ | refine qa ?_ | refine qf ?_ | refine qd ?_ | (refine hK _ ?_; clear hK K) | clear hK K)
     all_goals (exfalso; exact hx (by assumption))
   .have : C = some f.res := by
     rw [hC, if_pos]
     exact List.ext_getElem (by omega) fun j h1 h2 => (he j h2 h1 (by omega)).symm
    subst this
    repeat' (first | (refine Stp.m ?_ <;> try simp (disch := first | omega | simp) [qc, -qe, -qi, hlt]) | refine qb fun K hK => ?_ | refine qa ?_ | (refine hK _ ?_; clear hK K) | clear hK K)
  .have : C = none := by rw [hC, if_neg]; intro h; rw [h] at h2; exact h2 rfl
   subst this
   refine qg Tryz.func157 Tryz.ntmps157 fun σ n0 hcl hft => ?_
   repeat' (first | ((first | ((with_reducible refine qj (fun hg => ?_) (fun hg => ?_)) <;> (try simp only [hg]) <;> (try simp only [gS] at hg) <;> (try (first | simp only [eq_false hg, gI] | simp only [eq_true hg, gI]))) | refine Stp.m ?_) <;> (try simp (disch := first | omega | simp) [qc, -qe, -qi, h0, h1, h1', <- hf, h2])) | refine qb fun K hK => ?_ | refine qa ?_ | refine qd ?_ | (refine hK _ ?_; clear hK K))
   all_goals (exfalso; omega)
 .rw [List.getElem?_eq_none (by omega)] at hC
  subst hC
  have h2 : (F.length : Int) <= k := by omega
  refine qg Tryz.func157 Tryz.ntmps157 fun σ n0 hcl hft => ?_
  repeat' (first | (refine Stp.m ?_ <;> try simp (disch := first | omega | simp) [qc, -qe, -qi, h0, h1, h2]) | refine qb fun K hK => ?_ | refine qa ?_ | (refine hK _ ?_; clear hK K))
def tailX (F : List Fn) (c p : List Int) (o n : Int) (s : ByteArray) (ts : List Int) : Int :=
 if s.size ≠ 0 /\ o ≠ 1 then 0 else if o = 22 then (callT F n ts).getD 0 else if numP o ≠ ts.length then 0
 else if o = 0 then 0 else if o = 2 then 2 else if o = 3 then atX c n else if o = 4 then atX p n else if n ≠ 0 then 0
 else if o = 1 then 1 else if o = 5 then 0 else if o = 6 then 2 else if o = 7 \/ o = 20 then 0 else if o <= 12 then 0 else if o <= 18 then 2 else if o = 19 then 1 else ts.getD 1 0
def qkc (F : List Fn) (c p : List Int) : Ex -> Int
 | .mk o n s l => match tys F c p l with
  | some ts => tailX F c p o n s ts
  | none => 0
theorem qby1 {l : List Int} {n t : Int} (h : pickT l n = some t) : atX l n = t := by
 unfold pickT at h
 split at h
 .cases h
 .cases hv : l[n.toNat]? with
  | none => rw [hv] at h; cases h
  | some v =>
   rw [hv] at h
   dsimp only at h
   split at h
   .cases h
    have := (List.getElem?_eq_some_iff.1 hv).1
    unfold atX
    rw [if_pos (by omega), List.getD_eq_getElem?_getD, hv]; rfl
   .cases h
theorem quh {F : List Fn} {c p : List Int} {o n t : Int} {s : ByteArray} {ts : List Int} (h : tailT F c p o n s ts = some t) (h22 : o ≠ 22) : numP o = ts.length := by
 unfold tailT at h
 split at h
 .cases h
 unfold numP
 split at h
 .rename_i hn
  subst hn
  unfold leafT at h
  split at h
  .subst o; rfl
  split at h
  .subst o; rfl
  split at h
  .subst o; rfl
  split at h
  .subst o; rfl
  split at h
  .subst o; rfl
  split at h
  .subst o; rfl
  .cases h
 .unfold operT at h
  split at h
  .cases h
  split at h
  .subst o; split at h
   .rename_i e; rw [e]; rfl
   .cases h
  split at h
  .subst o; split at h
   .rename_i e; rw [e]; rfl
   .cases h
  split at h
  .subst o; split at h
   .rename_i e; rw [e]; rfl
   .cases h
  split at h
  .split at h
   .rename_i ho e; rw [e, if_neg (by omega), if_neg (by omega), if_neg (by omega), if_pos (by omega)]; rfl
   .cases h
  split at h
  .split at h
   .rename_i ho _ _ _ ; rw [if_neg (by omega), if_neg (by omega), if_neg (by omega), if_pos (by omega)]; rfl
   .cases h
  split at h
  .split at h
   .rename_i ho e; rw [e, if_neg (by omega), if_neg (by omega), if_neg (by omega), if_pos (by omega)]; rfl
   .cases h
  split at h
  .split at h
   .rename_i ho e; rw [e, if_neg (by omega), if_neg (by omega), if_neg (by omega), if_pos (by omega)]; rfl
   .cases h
  split at h
  .subst o
   split at h
   .rfl
   .cases h
  .cases h
theorem qpg1 {F : List Fn} {c p : List Int} {o n t : Int} {s : ByteArray} {ts : List Int} (h : tailT F c p o n s ts = some t) : tailX F c p o n s ts = t := by
 have hnum := fun h22 => quh h h22
 unfold tailT at h
 unfold tailX
 split at h
 .cases h
 rename_i hs
 rw [if_neg hs]
 split at h
 .rename_i h22
  rw [if_pos h22, h]; rfl
 rename_i h22
 rw [if_neg h22, if_neg (by rw [hnum h22]; simp)]
 split at h
 .unfold leafT at h
  split at h
  .rename_i h0; rw [if_pos h0]; cases h; rfl
  rename_i h0; rw [if_neg h0]
  split at h
  .rename_i h2; rw [if_pos h2]; split at h <;> cases h; rfl
  rename_i h2; rw [if_neg h2]
  split at h
  .rename_i h3; rw [if_pos h3]; exact qby1 h
  rename_i h3; rw [if_neg h3]
  split at h
  .rename_i h4; rw [if_pos h4]; exact qby1 h
  rename_i h4; rw [if_neg h4]
  split at h
  .rename_i h1
   split at h
   .rename_i hn; cases h; rw [if_neg (by omega), if_pos h1]
   .cases h
  rename_i h1
  split at h
  .rename_i h5
   split at h
   .rename_i hn; cases h; rw [if_neg (by omega), if_neg h1, if_pos h5]
   .cases h
  .cases h
 .unfold operT at h
  split at h
  .cases h
  rename_i hn
  split at h
  .subst o; split at h <;> cases h; simp [hn]
  split at h
  .subst o; split at h <;> cases h; simp [hn]
  split at h
  .subst o; split at h <;> cases h; simp [hn]
  split at h
  .rename_i ho; split at h <;> cases h
   rw [if_neg (by omega), if_neg (by omega), if_neg (by omega), if_neg (by omega), if_neg hn, if_neg (by omega), if_neg (by omega), if_neg (by omega), if_neg (by omega), if_pos (by omega)]
  split at h
  .rename_i ho
   rw [if_neg (by omega), if_neg (by omega), if_neg (by omega), if_neg (by omega), if_neg hn, if_neg (by omega), if_neg (by omega), if_neg (by omega), if_neg (by omega), if_neg (by omega), if_pos (by omega)]
   split at h
   .split at h <;> cases h; rfl
   .cases h
  split at h
  .rename_i ho; split at h <;> cases h
   rw [if_neg (by omega), if_neg (by omega), if_neg (by omega), if_neg (by omega), if_neg hn, if_neg (by omega), if_neg (by omega), if_neg (by omega), if_neg (by omega), if_neg (by omega), if_pos (by omega)]
  split at h
  .subst o; split at h <;> cases h; simp [hn]
  split at h
  .subst o
   split at h
   .split at h
    .rename_i hb; cases h; simp [hn]; exact hb.2
    .cases h
   .cases h
  .cases h
theorem qxr (F : List Fn) (c p : List Int) : ∀ (e : Ex) (t : Int), ty F c p e = some t -> qkc F c p e = t
 | .mk o n s l, t, h => by
  rw [ty] at h
  rw [qkc]
  cases hl : tys F c p l with
  | none => rw [hl] at h; cases h
  | some ts => rw [hl] at h; exact qpg1 h
theorem qjs1 {o : Int} {ts : List Int} (h : numP o = ts.length) (h22 : o ≠ 22) :
  ((o = 0 \/ o = 1 \/ o = 2 \/ o = 3 \/ o = 4 \/ o = 5) /\ ts = []) \/ ((o = 6 \/ o = 7 \/ o = 20) /\ ∃ a, ts = [a]) \/ (o = 21 /\ ∃ a b d, ts = [a, b, d]) \/
  ((o = 8 \/ o = 9 \/ o = 10 \/ o = 11 \/ o = 12 \/ o = 13 \/ o = 14 \/ o = 15 \/ o = 16 \/ o = 17 \/ o = 18 \/ o = 19) /\ ∃ a b, ts = [a, b]) := by
 unfold numP at h
 split at h
 .exact .inl ⟨by omega, List.eq_nil_of_length_eq_zero (by omega)⟩
 split at h
 .refine .inr (.inl ⟨by omega, ?_⟩)
  match ts, h with
  | [a], _ => exact ⟨a, rfl⟩
 split at h
 .refine .inr (.inr (.inl ⟨by omega, ?_⟩))
  match ts, h with
  | [a, b, d], _ => exact ⟨a, b, d, rfl⟩
 split at h
 .refine .inr (.inr (.inr ⟨by omega, ?_⟩))
  match ts, h with
  | [a, b], _ => exact ⟨a, b, rfl⟩
 .omega
set_option maxHeartbeats 8000000 in
theorem qng1 (F : List Fn) (c p : List Int) (e : Ex) : parts e <= 1000000 -> Gives Tryz.prog 101 [.sl (F.map Fn.av), .sl (c.map AV.int), .sl (p.map AV.int), e.av] (.tup [.int (qkc F c p e), .bool (ty F c p e).isSome]) := by
  induction e using Ex.ind with | h o n s l ih => ?_
  intro hp
  have hll : l.length <= 1000000 := by rw [parts] at hp; have := qbq l; omega
  obtain ⟨X, hX⟩ : ∃ X, X = qkc F c p (.mk o n s l) := ⟨_, rfl⟩
  obtain ⟨B, hB⟩ : ∃ B, B = (ty F c p (.mk o n s l)).isSome := ⟨_, rfl⟩
  rw [<- hX, <- hB]
  refine qg Tryz.func101 Tryz.ntmps101 fun σ n0 hcl hft => ?_
  repeat' (first | (refine Stp.m ?_ <;> try simp (disch := first | omega | simp) [qc, -qe, -qi]) | refine qb fun K hK => ?_ | refine qa ?_ | refine qd ?_ | (refine hK _ ?_; clear hK K))
  refine qbn 10 3 1 (by simp) ?_
  simp only [List.length_append, List.length_cons, List.length_nil, Nat.zero_add, Nat.reduceAdd, List.cons_append, List.nil_append]
  refine qk hcl (fun k : Nat => [(0, .sl (F.map Fn.av)), (1, .sl (c.map AV.int)), (2, .sl (p.map AV.int)), (7, .ptr n0 0), (10, .gs (n0 + 1) (((l.take k).map fun e => (ty F c p e).getD 0).map AV.int)), (11, .int k)]) (fun k => [.cells [.int o, .int n, .str s, .sl (l.map Ex.av)] 44, .tail k 3 1])
    (fun k => k <= l.length /\ ∀ (i : Nat) (h : i < l.length), i < k -> (ty F c p l[i]).isSome = true) (fun k => l.length - k) 0 ⟨by omega, fun i h h2 => by omega⟩ (by simp) fun k ⟨hk, hks⟩ => ?_
  by_cases hlt : k < l.length
  · have hc := ih l[k] (List.getElem_mem hlt) (by rw [parts] at hp; have := qbh l l[k] (List.getElem_mem hlt); omega)
    have hle : (((l.take k).map fun e => (ty F c p e).getD 0)).length = k := by simp; omega
    have htk : (l.take (k + 1)).map (fun e => (ty F c p e).getD 0) = (l.take k).map (fun e => (ty F c p e).getD 0) ++ [(ty F c p l[k]).getD 0] := by rw [List.take_succ_eq_append_getElem hlt, List.map_append]; rfl
    have hxe := qxr F c p l[k]
    cases ht : ty F c p l[k] with
    | none =>
      rw [ht] at hc
      have h1 := qre l k hlt ht
      have e1 : X = 0 := by rw [hX, qkc, h1]
      have e2 : B = false := by rw [hB, ty, h1]; rfl
      subst e1; subst e2
      generalize qkc F c p l[k] = Y at *
      simp only [Option.isSome_none] at hc
      clear hX hB ih hks
      repeat' (first | ((first | refine Stp.m ?_ | refine qh ?_) <;> (try simp (disch := first | omega | simp) [qc, -qe, -qi, hlt])) | refine qb fun K hK => ?_ | refine qa ?_ | refine qd ?_ | (refine hK _ ?_; clear hK K))
    | some t =>
      rw [ht] at hc hxe htk
      rw [hxe t rfl] at hc
      simp only [Option.isSome_some, Option.getD_some] at hc htk
      generalize (l.take k).map (fun e => (ty F c p e).getD 0) = Vs at *
      clear hX hB ih
      repeat' (first | ((first | refine Stp.m ?_ | refine qh ?_) <;> (try simp (disch := first | omega | simp) [qc, -qe, -qi, hlt])) | refine sideA ?_ | refine qb fun K hK => ?_ | refine qa ?_ | refine qd ?_ | (refine hK _ ?_; clear hK K) | clear hK K)
      all_goals refine ⟨k + 1, ⟨by omega, fun i h h2 => ?_⟩, by omega, ?_⟩
      · by_cases hik : i < k
        · exact hks i h hik
        · obtain rfl : i = k := by omega
          rw [ht]; rfl
      · have htk2 := congrArg (List.map AV.int) htk
        simp at htk2
        simp [htk2, hle]
  · obtain rfl : k = l.length := by omega
    rw [List.take_length]
    have hall := qwt l fun i h => hks i h h
    obtain ⟨ts, hts⟩ : ∃ ts, ts = l.map fun e => (ty F c p e).getD 0 := ⟨_, rfl⟩
    rw [<- hts] at hall ⊢
    have hX2 : X = tailX F c p o n s ts := by rw [hX, qkc, hall]
    have hB2 : B = (tailT F c p o n s ts).isSome := by rw [hB, ty, hall]
    have htl : ts.length = l.length := by rw [hts]; simp
    clear hX hB ih hks hall hts hp hk
    have hemp : s.toList.isEmpty = decide (s.size = 0) := by
      by_cases h : s.size = 0
      · rw [decide_eq_true h, List.isEmpty_iff]
        exact List.eq_nil_of_length_eq_zero (by rw [ByteArray.toList_eq]; rw [Lib.size_eq] at h; simpa using h)
      · rw [decide_eq_false h, List.isEmpty_eq_false_iff]
        intro h2
        rw [ByteArray.toList_eq] at h2
        exact h (by rw [Lib.size_eq, h2]; rfl)
    by_cases hs : s.size ≠ 0 /\ o ≠ 1
    · have e1 : X = 0 := by rw [hX2, tailX, if_pos hs]
      have e2 : B = false := by rw [hB2, tailT, if_pos hs]; rfl
      subst e1; subst e2
      clear hX2 hB2
      obtain ⟨hs1, hs2⟩ := hs
      have hs3 : (o == 1) = false := by simp [hs2]
      rw [decide_eq_false hs1] at hemp
      repeat' (first | ((first | ((with_reducible refine qj (fun hg => ?_) (fun hg => ?_)) <;> (try simp only [hg]) <;> (try simp only [gS] at hg) <;> (try (first | simp only [eq_false hg, gI] | simp only [eq_true hg, gI]))) | refine Stp.m ?_) <;> (try simp (disch := first | omega | simp) [qc, -qe, -qi, hlt, hs2, hs3, hemp])) | refine qb fun K hK => ?_ | refine qa ?_ | (refine hK _ ?_; clear hK K) | clear hK K)
      all_goals (exfalso; simp_all; done)
    have tX : tailX F c p o n s ts = if o = 22 then (callT F n ts).getD 0 else if numP o ≠ ts.length then 0
        else if o = 0 then 0 else if o = 2 then 2 else if o = 3 then atX c n else if o = 4 then atX p n else if n ≠ 0 then 0
        else if o = 1 then 1 else if o = 5 then 0 else if o = 6 then 2 else if o = 7 \/ o = 20 then 0 else if o <= 12 then 0 else if o <= 18 then 2 else if o = 19 then 1 else ts.getD 1 0 := by rw [tailX, if_neg hs]
    have tB : tailT F c p o n s ts = if o = 22 then callT F n ts else if ts = [] then leafT c p o n s else operT o n ts := by rw [tailT, if_neg hs]
    have c1 := qfo1 o
    by_cases h22 : o = 22
    · subst h22
      rw [if_pos rfl] at tX tB
      rw [tX] at hX2; rw [tB] at hB2
      have c2 := qou1 F n ts
      rw [<- hX2, <- hB2] at c2
      have hs3 : s.size = 0 := by omega
      rw [decide_eq_true hs3] at hemp
      repeat' (first | ((first | refine Stp.m ?_ | refine qh ?_) <;> (try simp (disch := first | omega | simp) [qc, -qe, -qi, hlt, hemp])) | refine qb fun K hK => ?_ | refine qa ?_ | (refine hK _ ?_; clear hK K) | clear hK K)
    have h22b : (o == 22) = false := by simp [h22]
    have c3 := rat_g c n
    have c4 := rat_g p n
    by_cases hnum : numP o = ts.length
    rotate_left
    · have e1 : X = 0 := by rw [hX2, tX, if_neg h22, if_pos hnum]
      have e2 : B = false := by
        rw [hB2]
        cases ht : tailT F c p o n s ts with
        | none => rfl
        | some t => exact absurd (quh ht h22) hnum
      subst e1; subst e2
      clear hX2 hB2 tX tB c3 c4
      generalize numP o = NP at *
      have hnb : (NP == (ts.length : Int)) = false := by simp [hnum]
      by_cases h1 : s.size = 0
      · rw [decide_eq_true h1] at hemp
        repeat' (first | ((first | ((with_reducible refine qj (fun hg => ?_) (fun hg => ?_)) <;> (try simp only [hg]) <;> (try simp only [gS] at hg) <;> (try (first | simp only [eq_false hg, gI] | simp only [eq_true hg, gI]))) | refine Stp.m ?_ | refine qh ?_) <;> (try simp (disch := first | omega | simp) [qc, -qe, -qi, hlt, hemp, h22, h22b, hnum, hnb])) | refine sideA ?_ | refine qb fun K hK => ?_ | refine qa ?_ | refine qf ?_ | refine qd ?_ | (refine hK _ ?_; clear hK K) | clear hK K)
        all_goals (exfalso; first | omega | (simp_all; done))
      · rw [decide_eq_false h1] at hemp
        obtain rfl : o = 1 := by omega
        repeat' (first | ((first | ((with_reducible refine qj (fun hg => ?_) (fun hg => ?_)) <;> (try simp only [hg]) <;> (try simp only [gS] at hg) <;> (try (first | simp only [eq_false hg, gI] | simp only [eq_true hg, gI]))) | refine Stp.m ?_ | refine qh ?_) <;> (try simp (disch := first | omega | simp) [qc, -qe, -qi, hlt, hemp, hnum, hnb])) | refine qb fun K hK => ?_ | refine qa ?_ | refine qf ?_ | refine qd ?_ | (refine hK _ ?_; clear hK K) | clear hK K)
        all_goals (exfalso; first | omega | (simp_all; done))
    rw [if_neg h22, if_neg (by simp [hnum])] at tX
    rw [if_neg h22] at tB
    rw [tX] at hX2; rw [tB] at hB2
    rw [hnum] at c1
    have hsc := qjs1 hnum h22
    clear tX tB hnum
    have hs' : s.toList.isEmpty = false -> o = 1 := fun h => by
      rw [hemp] at h
      have := of_decide_eq_false h
      omega
    clear hemp hs htl
    rcases hsc with ⟨ho, rfl⟩ | ⟨ho, a, rfl⟩ | ⟨ho, a, b, d, rfl⟩ | ⟨ho, a, b, rfl⟩
    · rw [if_pos rfl] at hB2
      simp at c1
      repeat' (first | ((first | ((with_reducible refine qj (fun hg => ?_) (fun hg => ?_)) <;> (try simp only [hg]) <;> (try simp only [gS] at hg) <;> (try (first | simp only [eq_false hg, gI] | simp only [eq_true hg, gI]))) | refine Stp.m ?_ | refine qh ?_) <;> (try simp (disch := first | omega | simp) [qc, -qe, -qi, hlt, h22, h22b])) | refine qb fun K hK => ?_ | refine qa ?_ | refine qf ?_ | refine qd ?_ | (refine hK _ ?_; clear hK K) | clear hK K)
      all_goals first
        | (exfalso; have := hs' (by assumption); omega)
        | (exfalso; omega)
        | (rw [hX2, hB2]; simp [*, leafT]; done)
        | (have h2 : o = 2 := by assumption
           have hn : ¬ n = 0 := by assumption
           subst h2; rw [hX2, hB2]; simp [leafT, hn]; by_cases h1 : n = 1 <;> simp [h1]; done)
        | (have h1 : o = 1 := by assumption
           have hn : n = 0 := by omega
           subst h1; subst hn
           refine ⟨by rw [hX2]; simp, ?_⟩
           rw [hB2]
           by_cases hz : (s.size : Int) <= 200
           · simp only [leafT, hz]; simp
           · simp only [leafT, hz]; simp)
    all_goals rw [if_neg (by simp)] at hB2
    · simp at c1
      repeat' (first | ((first | ((with_reducible refine qj (fun hg => ?_) (fun hg => ?_)) <;> (try simp only [hg]) <;> (try simp only [gS] at hg) <;> (try (first | simp only [eq_false hg, gI] | simp only [eq_true hg, gI]))) | refine Stp.m ?_ | refine qh ?_) <;> (try simp (disch := first | omega | simp) [qc, -qe, -qi, hlt, h22, h22b])) | refine qb fun K hK => ?_ | refine qa ?_ | refine qf ?_ | refine qd ?_ | (refine hK _ ?_; clear hK K) | clear hK K)
      all_goals first
        | (exfalso; have := hs' (by assumption); omega)
        | (exfalso; omega)
        | (clear c1 c3 c4 hcl hft hs' h22 h22b; rw [hX2, hB2]; simp [*, operT]; done)
        | (clear c1 c3 c4 hcl hft hs' h22 h22b; rw [hX2, hB2]; simp [*, operT]; by_cases h1 : a = 0 <;> simp [h1]; done)
        | (clear c1 c3 c4 hcl hft hs' h22 h22b; rw [hX2, hB2]; simp [*, operT]; by_cases h1 : a = 1 <;> simp [h1]; done)
        | (clear c1 c3 c4 hcl hft hs' h22 h22b; rw [hX2, hB2]; simp [*, operT]; by_cases h1 : a = 2 <;> simp [h1]; done)
    · simp at c1
      subst ho
      repeat' (first | ((first | ((with_reducible refine qj (fun hg => ?_) (fun hg => ?_)) <;> (try simp only [hg]) <;> (try simp only [gS] at hg) <;> (try (first | simp only [eq_false hg, gI] | simp only [eq_true hg, gI]))) | refine Stp.m ?_ | refine qh ?_) <;> (try simp (disch := first | omega | simp) [qc, -qe, -qi, hlt, h22, h22b])) | refine qb fun K hK => ?_ | refine qa ?_ | refine qf ?_ | refine qd ?_ | (refine hK _ ?_; clear hK K) | clear hK K)
      all_goals first
        | (exfalso; have := hs' (by assumption); omega)
        | (exfalso; omega)
        | (clear c1 c3 c4 hcl hft hs' h22 h22b; rw [hX2, hB2]; simp [*, operT]; done)
        | (clear c1 c3 c4 hcl hft hs' h22 h22b; rw [hX2, hB2]; simp [*, operT]; by_cases h1 : a = 2 <;> by_cases h2 : b = d <;> simp [h1, h2]; done)
    · simp at c1
      repeat' (first | ((first | ((with_reducible refine qj (fun hg => ?_) (fun hg => ?_)) <;> (try simp only [hg]) <;> (try simp only [gS] at hg) <;> (try (first | simp only [eq_false hg, gI] | simp only [eq_true hg, gI]))) | refine Stp.m ?_ | refine qh ?_) <;> (try simp (disch := first | omega | simp) [qc, -qe, -qi, hlt, h22, h22b])) | refine qb fun K hK => ?_ | refine qa ?_ | refine qf ?_ | refine qd ?_ | (refine hK _ ?_; clear hK K) | clear hK K)
      all_goals first
        | (exfalso; have := hs' (by assumption); omega)
        | (exfalso; omega)
        | (clear c1 c3 c4 hcl hft hs' h22 h22b; rw [hX2, hB2]; simp [*, operT]; done)
        | (clear c1 c3 c4 hcl hft hs' h22 h22b; rw [hX2, hB2]; simp [*, operT]; by_cases h2 : a = b <;> simp [h2]; done)
        | (clear c1 c3 c4 hcl hft hs' h22 h22b; rw [hX2, hB2]; simp [*, operT]; by_cases h1 : b = 0 <;> simp [h1]; done)
        | (clear c1 c3 c4 hcl hft hs' h22 h22b; rw [hX2, hB2]; simp [*, operT]; by_cases h1 : b = 1 <;> simp [h1]; done)
        | (clear c1 c3 c4 hcl hft hs' h22 h22b; rw [hX2, hB2]; simp [*, operT]; by_cases h1 : b = 2 <;> simp [h1]; done)
theorem rof_g (F : List Fn) (c p : List Int) (e : Ex) (hp : parts e <= 1000000) : Gives Tryz.prog 56 [.sl (F.map Fn.av), .sl (c.map AV.int), .sl (p.map AV.int), e.av] (.tup [.int ((tyD F c p e).getD 0), .bool (tyD F c p e).isSome]) := by
 have hlv := qcl e
 have c1 := qjp e (by omega)
 have c2 := qng1 F c p e hp
 by_cases h : levels e > 12
 .have e1 : tyD F c p e = none := by unfold tyD; rw [if_pos h]
  rw [e1]
  clear c2
  generalize levels e = L at *
  have h' : 12 < L := h
  refine qg Tryz.func56 Tryz.ntmps56 fun σ n0 hcl hft => ?_
  repeat' (first | ((first | refine Stp.m ?_ | refine qh ?_) <;> (try simp (disch := first | omega | simp) [qc, -qe, -qi, h'])) | refine qb fun K hK => ?_ | refine qa ?_ | (refine hK _ ?_; clear hK K))
  all_goals (exfalso; omega)
 .have e1 : tyD F c p e = ty F c p e := by unfold tyD; rw [if_neg h]
  rw [e1]
  have hx := qxr F c p e
  have h' : ¬ 12 < levels e := h
  generalize levels e = L at *
  generalize qkc F c p e = X at *
  cases ht : ty F c p e with
  | none =>
   rw [ht] at c2
   simp at c2
   clear hx
   refine qg Tryz.func56 Tryz.ntmps56 fun σ n0 hcl hft => ?_
   repeat' (first | ((first | refine Stp.m ?_ | refine qh ?_) <;> (try simp (disch := first | omega | simp) [qc, -qe, -qi, h'])) | refine qb fun K hK => ?_ | refine qa ?_ | (refine hK _ ?_; clear hK K))
   all_goals (exfalso; omega)
  | some t =>
   rw [ht] at c2 hx
   rw [hx t rfl] at c2
   simp at c2
   clear hx
   refine qg Tryz.func56 Tryz.ntmps56 fun σ n0 hcl hft => ?_
   repeat' (first | ((first | refine Stp.m ?_ | refine qh ?_) <;> (try simp (disch := first | omega | simp) [qc, -qe, -qi, h'])) | refine qb fun K hK => ?_ | refine qa ?_ | (refine hK _ ?_; clear hK K))
   all_goals (exfalso; omega)
theorem qis1 {F : List Fn} (h : AV.fitss [.sl (F.map Fn.av)]) : ∀ f ∈ F, f.params.length <= 9223372036854775807 := fun f hf => by
 have h1 := (AV.fitss_iff.1 h) _ (List.mem_singleton_self _)
 rw [AV.fits] at h1
 have h2 := (AV.fitss_iff.1 h1.2) f.av (List.mem_map_of_mem hf)
 unfold Fn.av at h2
 rw [AV.fits] at h2
 have h3 := (AV.fitss_iff.1 h2) (.sl (f.params.map AV.int)) (by simp)
 rw [AV.fits] at h3
 simpa using h3.1
set_option maxHeartbeats 8000000 in
theorem qyu (F : List Fn) (hp : ∀ f ∈ F, parts f.body <= 1000000) : Gives Tryz.prog 22 [.sl (F.map Fn.av)] (.bool (qde F)) := by
 obtain ⟨B, hB⟩ : ∃ B, B = qde F := ⟨_, rfl⟩
 rw [<- hB]
 refine qg Tryz.func22 Tryz.ntmps22 fun σ n0 hcl hft => ?_
 repeat' (first | (refine Stp.m ?_ <;> try simp (disch := first | omega | simp) [qc, -qe, -qi]) | refine qb fun K hK => ?_ | refine qa ?_ | refine qd ?_ | (refine hK _ ?_; clear hK K))
 refine qk hcl (fun i : Nat => [(0, .sl (F.map Fn.av)), (3, .int i)]) (fun _ => []) (fun i => i <= F.length /\ i <= 21 /\ ∀ j, j < i -> j < F.length -> okF F j = true) (fun i => F.length - i) 0 ⟨by omega, by omega, fun j h => by omega⟩ (by simp) fun i ⟨hi, hi2, he⟩ => ?_
 by_cases hlt : i < F.length
 rotate_left
 .have hBe : B = decide ((F.length : Int) <= 20) := by rw [hB]; exact qow fun j hj => he j (by omega) hj
  subst hBe
  repeat' (first | (refine Stp.m ?_ <;> try simp (disch := first | omega | simp) [qc, -qe, -qi, hlt]) | refine qb fun K hK => ?_ | refine qa ?_ | (refine hK _ ?_; clear hK K) | clear hK K)
 by_cases h20 : i <= 20
 rotate_left
 .have hBe : B = false := by
   rw [hB]; unfold qde
   have : ¬ (F.length : Int) <= 20 := by omega
   simp [this]
  subst hBe
  have h20b : ¬ (i : Int) <= 20 := by omega
  have h21 : ¬ F.length <= 20 := by omega
  repeat' (first | (refine Stp.m ?_ <;> try simp (disch := first | omega | simp) [qc, -qe, -qi, hlt, h20, h20b, h21]) | refine qb fun K hK => ?_ | refine qa ?_ | (refine hK _ ?_; clear hK K) | clear hK K)
  all_goals omega
 have hpk := hp F[i] (List.getElem_mem hlt)
 obtain ⟨f, hf⟩ : ∃ f, f = F[i] := ⟨_, rfl⟩
 rw [<- hf] at hpk
 have hok := qln1 hlt
 rw [<- hf] at hok
 have hil : ¬ F.length < i := by omega
 have c1 := rof_g (F.take i) [] f.params f.body hpk
 rw [List.map_take] at c1
 have h20c : (i : Int) <= 20 := by omega
 repeat' (first | (refine Stp.m ?_ <;> try simp (disch := first | omega | simp) [qc, -qe, -qi, hlt, h20, h20c, <- hf]) | refine qb fun K hK => ?_ | refine qa ?_ | refine qd ?_ | (refine hK _ ?_; clear hK K))
 all_goals first | (exfalso; omega; done) | skip
 refine qk hcl (fun k : Nat => [(0, .sl (F.map Fn.av)), (3, .int i), (4, .ptr n0 0), (5, .int k)]) (fun _ => [.cells f.av.cells 67]) (fun k => k <= f.params.length /\ ∀ j (h : j < f.params.length), j < k -> kindB f.params[j] = true) (fun k => f.params.length - k) 0 ⟨by omega, fun j h hj => by omega⟩ (by simp) fun k ⟨hk, hks⟩ => ?_
 by_cases hkl : k < f.params.length
 .have c2 := qfn1 f.params[k]
  cases hkb : kindB f.params[k] with
  | false =>
   rw [hkb] at c2
   have : B = false := by
    rw [hB]
    refine qgl hlt ?_
    rw [hok]
    have : f.params.all kindB = false := by
     rw [List.all_eq_false]
     exact ⟨f.params[k], List.getElem_mem hkl, by rw [hkb]; simp⟩
    rw [this]; simp
   subst this
   repeat' (first | ((first | refine Stp.m ?_ | refine qh ?_) <;> (try simp (disch := first | omega | simp) [qc, -qe, -qi, hkl])) | refine qb fun K hK => ?_ | refine qa ?_ | refine qd ?_ | (refine hK _ ?_; clear hK K))
  | true =>
   rw [hkb] at c2
   have hfl : f.params.length <= 9223372036854775807 := by rw [hf]; exact qis1 hft _ (List.getElem_mem hlt)
   repeat' (first | ((first | refine Stp.m ?_ | refine qh ?_) <;> (try simp (disch := first | omega | simp) [qc, -qe, -qi, hkl])) | refine qb fun K hK => ?_ | refine qa ?_ | refine qd ?_ | (refine hK _ ?_; clear hK K) | clear hK K)
   all_goals
    refine ⟨k + 1, ⟨by omega, fun j h hj => ?_⟩, by omega, by simp⟩
    by_cases hjk : j < k
    .exact hks j h hjk
    .obtain rfl : j = k := by omega
     exact hkb
 .have hall : f.params.all kindB = true := by
   rw [List.all_eq_true]
   intro x hx
   obtain ⟨j, h1, rfl⟩ := List.getElem_of_mem hx
   exact hks j h1 (by omega)
  rw [hall, Bool.true_and] at hok
  have hb : okF F i = false -> B = false := fun h => by rw [hB]; exact qgl hlt h
  cases ht : tyD (F.take i) [] f.params f.body with
  | none =>
   rw [ht] at c1 hok
   have : B = false := hb (by rw [hok]; simp)
   subst this
   simp at c1
   repeat' (first | ((first | refine Stp.m ?_ | refine agH ?_) <;> (try simp (disch := first | omega | simp) [qc, -qe, -qi, hkl, hlt, hil])) | refine sideA ?_ | refine qb fun K hK => ?_ | refine qa ?_ | refine qf ?_ | (refine hK _ ?_; clear hK K) | clear hK K)
  | some t =>
   rw [ht] at c1 hok
   simp at c1
   by_cases htr : t = f.res
   rotate_left
   .have : B = false := hb (by rw [hok]; simp [htr])
    subst this
    have htb : (t == f.res) = false := by simp [htr]
    repeat' (first | ((first | ((with_reducible refine qj (fun hg => ?_) (fun hg => ?_)) <;> (try simp only [hg]) <;> (try simp only [gS] at hg) <;> (try (first | simp only [eq_false hg, gI] | simp only [eq_true hg, gI]))) | refine Stp.m ?_ | refine agH ?_) <;> (try simp (disch := first | omega | simp) [qc, -qe, -qi, hkl, hlt, hil, htr, htb])) | refine sideA ?_ | refine qb fun K hK => ?_ | refine qa ?_ | refine qf ?_ | (refine hK _ ?_; clear hK K) | clear hK K)
    all_goals (exfalso; omega)
   by_cases hl6 : (f.params.length : Int) <= 6
   .have hoki : okF F i = true := by rw [hok]; simp [htr, hl6]
    have hl6' : ¬ 6 < f.params.length := by omega
    have hl6b : ¬ (6 : Int) < f.params.length := by omega
    repeat' (first | ((first | refine Stp.m ?_ | refine agH ?_) <;> (try simp (disch := first | omega | simp) [qc, -qe, -qi, hkl, hlt, hil, htr, hl6', hl6b])) | refine sideA ?_ | refine qb fun K hK => ?_ | refine qa ?_ | refine qf ?_ | (refine hK _ ?_; clear hK K) | clear hK K)
    all_goals
     refine ⟨i + 1, ⟨by omega, by omega, fun j hj hjl => ?_⟩, by omega, by simp⟩
     by_cases hji : j < i
     .exact he j hji hjl
     .obtain rfl : j = i := by omega
      exact hoki
   .have : B = false := hb (by rw [hok]; simp [hl6])
    subst this
    have hl6' : 6 < f.params.length := by omega
    have hl6b : (6 : Int) < f.params.length := by omega
    repeat' (first | ((first | refine Stp.m ?_ | refine agH ?_) <;> (try simp (disch := first | omega | simp) [qc, -qe, -qi, hkl, hlt, hil, htr, hl6', hl6b])) | refine sideA ?_ | refine qb fun K hK => ?_ | refine qa ?_ | refine qf ?_ | (refine hK _ ?_; clear hK K) | clear hK K)
theorem qft1 (F : List Fn) (c p : List Int) (e : Ex) (hbd : parts e <= 1000000) (hpF : ∀ f ∈ F, parts f.body <= 1000000) :
  Gives Tryz.prog 26 [.sl (F.map Fn.av), .sl (c.map AV.int), .sl (p.map AV.int), e.av] (.tup [.int ((typeP F c p e).getD 0), .bool (typeP F c p e).isSome]) := by
 have c1 := qyu F hpF
 have c2 := rof_g F c p e hbd
 unfold typeP
 cases h : qde F with
 | false =>
  rw [h] at c1
  refine qg Tryz.func26 Tryz.ntmps26 fun σ n0 hcl hft => ?_
  repeat' (first | ((first | refine Stp.m ?_ | refine qh ?_) <;> (try simp (disch := first | omega | simp) [qc, -qe, -qi])) | refine qb fun K hK => ?_ | refine qa ?_ | (refine hK _ ?_; clear hK K))
 | true =>
  rw [h] at c1
  simp only [if_true]
  generalize tyD F c p e = T at *
  refine qg Tryz.func26 Tryz.ntmps26 fun σ n0 hcl hft => ?_
  repeat' (first | ((first | refine Stp.m ?_ | refine qh ?_) <;> (try simp (disch := first | omega | simp) [qc, -qe, -qi])) | refine qb fun K hK => ?_ | refine qa ?_ | (refine hK _ ?_; clear hK K))
def Agg.av (x : Agg) : AV := .agg [.int x.kind, .int x.col, .str x.name]
@[simp] theorem Agg.av_nt (x : Agg) : x.av.nt = true := rfl
@[simp] theorem Agg.av_sure (x : Agg) : x.av.sure = true := rfl
@[simp] theorem Agg.av_elem (x : Agg) : x.av.elem = true := rfl
@[simp] theorem Agg.av_width (x : Agg) : x.av.width = 3 := rfl
@[simp] theorem Agg.av_pub (x : Agg) : x.av.pub = x.av := by unfold Agg.av; rw [AV.pub]; simp only [AV.pubs_cons, AV.pubs_nil, AV.pub_v, pubV, AV.pub_sl]
@[simp] theorem Agg.av_cells (x : Agg) : x.av.cells = [.int x.kind, .int x.col, .str x.name] := rfl
@[simp] theorem Agg.av_fold (x : Agg) : AV.agg [.int x.kind, .int x.col, .str x.name] = x.av := rfl
@[simp] theorem Agg.av_val? (x : Agg) : x.av.val? = none := rfl
@[simp] theorem Agg.rd_all (x : Agg) (σ : Nat -> AB) : rdAt σ true 3 (.ep x.av 0) = some x.av := rfl
@[simp] theorem Agg.rd_0 (x : Agg) (σ : Nat -> AB) (n : Nat) : rdAt σ false n (.ep x.av 0) = some (.int x.kind) := rfl
@[simp] theorem Agg.rd_1 (x : Agg) (σ : Nat -> AB) (n : Nat) : rdAt σ false n (.ep x.av 1) = some (.int x.col) := rfl
@[simp] theorem Agg.rd_2 (x : Agg) (σ : Nat -> AB) (n : Nat) : rdAt σ false n (.ep x.av 2) = some (.str x.name) := rfl
@[simp] theorem Agg.av_cl (x : Agg) (m : Nat) : x.av.cl m := by unfold Agg.av; simp [-Agg.av_fold]
@[simp] theorem Agg.avs_cl (l : List Agg) (m : Nat) : AV.cls m (l.map Agg.av) := AV.cls_map (fun f => f.av_cl m) l
@[simp] theorem Agg.avs_wid (l : List Agg) : AV.wid (l.map Agg.av) 3 := AV.wid_map (f := Agg.av) (fun a => a.av_width) l
@[simp] theorem Agg.avs_elms (l : List Agg) : AV.elms (l.map Agg.av) := AV.elms_map (f := Agg.av) (fun a => a.av_elem) l
theorem Agg.q : qinfo Tryz.prog 108 = some [(0, 0), (1, 0), (2, 2)] := by kernel_rfl
def Agg.eqB (x y : Agg) : Bool := ((x.kind == y.kind) && ((x.col == y.col) && (x.name.toList == y.name.toList)))
@[simp] theorem Agg.aeq (x y : Agg) : Proofs.YtkedbjjfmejbhaaGreatDoor.aeq Tryz.prog .eql 108 x.av y.av = some (Agg.eqB x y) := by
 simp only [Proofs.YtkedbjjfmejbhaaGreatDoor.aeq, aeqS, Agg.q, Agg.av, feq, feq1, Agg.eqB]
 simp
@[simp] theorem Agg.aneq (x y : Agg) : Proofs.YtkedbjjfmejbhaaGreatDoor.aeq Tryz.prog .neq 108 x.av y.av = some (!Agg.eqB x y) := by
 simp only [Proofs.YtkedbjjfmejbhaaGreatDoor.aeq, aeqS, Agg.q, Agg.av, feq, feq1, Agg.eqB]
 simp
theorem Agg.eqB_iff (x y : Agg) : Agg.eqB x y = true ↔ x = y := by
 obtain ⟨a0, a1, a2⟩ := x
 obtain ⟨b0, b1, b2⟩ := y
 simp only [Agg.eqB, Bool.and_eq_true, beq_iff_eq, Agg.mk.injEq, ByteArray.toList_eq]
 have e2 : a2.data.toList = b2.data.toList ↔ a2 = b2 := ⟨fun h => WideShapes.bytes_inj h, fun h => by rw [h]⟩
 rw [e2]
theorem Agg.d_av (x : Agg) : x.d.av = x.av := rfl
theorem Agg.ds_av (l : List Agg) : (D.sl (l.map Agg.d)).av = .sl (l.map Agg.av) := by
 rw [D.av, D.avs_map, List.map_map]
 first
 | rfl
 | (congr 1; exact List.map_congr_left fun x _ => x.d_av)
theorem Agg.flat {w : World} {x : Agg} {cs : List Value} (h : Rd w Any x.d cs) : RR1 (St.flat w) x.av (.agg cs.toArray) := by
 have := qci h
 rw [Agg.d_av, Agg.av, RC] at this
 exact ⟨cs, rfl, this⟩
theorem Agg.flats {w : World} {l : List Agg} {v : Value} (h : Rd w Any (.sl (l.map Agg.d)) [v]) : RR1 (St.flat w) (.sl (l.map Agg.av)) v := by
 have := qci h
 rw [Agg.ds_av] at this
 exact this
def Col.av (x : Col) : AV := .agg [.str x.name, .int x.type, .str x.unit]
@[simp] theorem Col.av_nt (x : Col) : x.av.nt = true := rfl
@[simp] theorem Col.av_sure (x : Col) : x.av.sure = true := rfl
@[simp] theorem Col.av_elem (x : Col) : x.av.elem = true := rfl
@[simp] theorem Col.av_width (x : Col) : x.av.width = 3 := rfl
@[simp] theorem Col.av_pub (x : Col) : x.av.pub = x.av := by unfold Col.av; rw [AV.pub]; simp only [AV.pubs_cons, AV.pubs_nil, AV.pub_v, pubV, AV.pub_sl]
@[simp] theorem Col.av_cells (x : Col) : x.av.cells = [.str x.name, .int x.type, .str x.unit] := rfl
@[simp] theorem Col.av_fold (x : Col) : AV.agg [.str x.name, .int x.type, .str x.unit] = x.av := rfl
@[simp] theorem Col.av_val? (x : Col) : x.av.val? = none := rfl
@[simp] theorem Col.rd_all (x : Col) (σ : Nat -> AB) : rdAt σ true 3 (.ep x.av 0) = some x.av := rfl
@[simp] theorem Col.rd_0 (x : Col) (σ : Nat -> AB) (n : Nat) : rdAt σ false n (.ep x.av 0) = some (.str x.name) := rfl
@[simp] theorem Col.rd_1 (x : Col) (σ : Nat -> AB) (n : Nat) : rdAt σ false n (.ep x.av 1) = some (.int x.type) := rfl
@[simp] theorem Col.rd_2 (x : Col) (σ : Nat -> AB) (n : Nat) : rdAt σ false n (.ep x.av 2) = some (.str x.unit) := rfl
@[simp] theorem Col.av_cl (x : Col) (m : Nat) : x.av.cl m := by unfold Col.av; simp [-Col.av_fold]
@[simp] theorem Col.avs_cl (l : List Col) (m : Nat) : AV.cls m (l.map Col.av) := AV.cls_map (fun f => f.av_cl m) l
@[simp] theorem Col.avs_wid (l : List Col) : AV.wid (l.map Col.av) 3 := AV.wid_map (f := Col.av) (fun a => a.av_width) l
@[simp] theorem Col.avs_elms (l : List Col) : AV.elms (l.map Col.av) := AV.elms_map (f := Col.av) (fun a => a.av_elem) l
theorem Col.q : qinfo Tryz.prog 284 = some [(0, 2), (1, 0), (2, 2)] := by kernel_rfl
def Col.eqB (x y : Col) : Bool := ((x.name.toList == y.name.toList) && ((x.type == y.type) && (x.unit.toList == y.unit.toList)))
@[simp] theorem Col.aeq (x y : Col) : Proofs.YtkedbjjfmejbhaaGreatDoor.aeq Tryz.prog .eql 284 x.av y.av = some (Col.eqB x y) := by
 simp only [Proofs.YtkedbjjfmejbhaaGreatDoor.aeq, aeqS, Col.q, Col.av, feq, feq1, Col.eqB]
 simp
@[simp] theorem Col.aneq (x y : Col) : Proofs.YtkedbjjfmejbhaaGreatDoor.aeq Tryz.prog .neq 284 x.av y.av = some (!Col.eqB x y) := by
 simp only [Proofs.YtkedbjjfmejbhaaGreatDoor.aeq, aeqS, Col.q, Col.av, feq, feq1, Col.eqB]
 simp
theorem Col.eqB_iff (x y : Col) : Col.eqB x y = true ↔ x = y := by
 obtain ⟨a0, a1, a2⟩ := x
 obtain ⟨b0, b1, b2⟩ := y
 simp only [Col.eqB, Bool.and_eq_true, beq_iff_eq, Col.mk.injEq, ByteArray.toList_eq]
 have e0 : a0.data.toList = b0.data.toList ↔ a0 = b0 := ⟨fun h => WideShapes.bytes_inj h, fun h => by rw [h]⟩
 have e2 : a2.data.toList = b2.data.toList ↔ a2 = b2 := ⟨fun h => WideShapes.bytes_inj h, fun h => by rw [h]⟩
 rw [e0, e2]
theorem Col.d_av (x : Col) : x.d.av = x.av := rfl
theorem Col.ds_av (l : List Col) : (D.sl (l.map Col.d)).av = .sl (l.map Col.av) := by
 rw [D.av, D.avs_map, List.map_map]
 first
 | rfl
 | (congr 1; exact List.map_congr_left fun x _ => x.d_av)
theorem Col.flat {w : World} {x : Col} {cs : List Value} (h : Rd w Any x.d cs) : RR1 (St.flat w) x.av (.agg cs.toArray) := by
 have := qci h
 rw [Col.d_av, Col.av, RC] at this
 exact ⟨cs, rfl, this⟩
theorem Col.flats {w : World} {l : List Col} {v : Value} (h : Rd w Any (.sl (l.map Col.d)) [v]) : RR1 (St.flat w) (.sl (l.map Col.av)) v := by
 have := qci h
 rw [Col.ds_av] at this
 exact this
def Pat.av (x : Pat) : AV := .agg [.int x.pred.op, .int x.pred.n, .str x.pred.s, .sl (x.pred.args.map Ex.av), .int x.rep]
@[simp] theorem Pat.av_nt (x : Pat) : x.av.nt = true := rfl
@[simp] theorem Pat.av_sure (x : Pat) : x.av.sure = true := rfl
@[simp] theorem Pat.av_elem (x : Pat) : x.av.elem = true := rfl
@[simp] theorem Pat.av_width (x : Pat) : x.av.width = 5 := rfl
@[simp] theorem Pat.av_pub (x : Pat) : x.av.pub = x.av := by unfold Pat.av; rw [AV.pub]; simp only [AV.pubs_cons, AV.pubs_nil, AV.pub_v, pubV, AV.pub_sl]
@[simp] theorem Pat.av_cells (x : Pat) : x.av.cells = [.int x.pred.op, .int x.pred.n, .str x.pred.s, .sl (x.pred.args.map Ex.av), .int x.rep] := rfl
@[simp] theorem Pat.av_fold (x : Pat) : AV.agg [.int x.pred.op, .int x.pred.n, .str x.pred.s, .sl (x.pred.args.map Ex.av), .int x.rep] = x.av := rfl
@[simp] theorem Pat.av_val? (x : Pat) : x.av.val? = none := rfl
@[simp] theorem Pat.rd_all (x : Pat) (σ : Nat -> AB) : rdAt σ true 5 (.ep x.av 0) = some x.av := rfl
@[simp] theorem Pat.rda_0 (x : Pat) (σ : Nat -> AB) : rdAt σ true 4 (.ep x.av 0) = some x.pred.av := by rw [Ex.av_eq]; rfl
@[simp] theorem Pat.rd_0 (x : Pat) (σ : Nat -> AB) (n : Nat) : rdAt σ false n (.ep x.av 0) = some (.int x.pred.op) := rfl
@[simp] theorem Pat.rd_1 (x : Pat) (σ : Nat -> AB) (n : Nat) : rdAt σ false n (.ep x.av 1) = some (.int x.pred.n) := rfl
@[simp] theorem Pat.rd_2 (x : Pat) (σ : Nat -> AB) (n : Nat) : rdAt σ false n (.ep x.av 2) = some (.str x.pred.s) := rfl
@[simp] theorem Pat.rd_3 (x : Pat) (σ : Nat -> AB) (n : Nat) : rdAt σ false n (.ep x.av 3) = some (.sl (x.pred.args.map Ex.av)) := rfl
@[simp] theorem Pat.rd_4 (x : Pat) (σ : Nat -> AB) (n : Nat) : rdAt σ false n (.ep x.av 4) = some (.int x.rep) := rfl
@[simp] theorem Pat.av_cl (x : Pat) (m : Nat) : x.av.cl m := by unfold Pat.av; simp [-Pat.av_fold]
@[simp] theorem Pat.avs_cl (l : List Pat) (m : Nat) : AV.cls m (l.map Pat.av) := AV.cls_map (fun f => f.av_cl m) l
@[simp] theorem Pat.avs_wid (l : List Pat) : AV.wid (l.map Pat.av) 5 := AV.wid_map (f := Pat.av) (fun a => a.av_width) l
@[simp] theorem Pat.avs_elms (l : List Pat) : AV.elms (l.map Pat.av) := AV.elms_map (f := Pat.av) (fun a => a.av_elem) l
theorem Pat.d_av (x : Pat) : x.d.av = x.av := by
 obtain ⟨p, r⟩ := x
 have h2 := Ex.d_av p
 cases p with | mk o n s l => ?_
 have h5 := Ex.av_eq (.mk o n s l)
 rw [Ex.d, D.av, h5] at h2
 injection h2 with h2
 rw [Pat.d, D.av]
 simp only [Ex.d, D.cs, List.append_nil] at h2 ⊢
 rw [h2]
 rfl
theorem Pat.ds_av (l : List Pat) : (D.sl (l.map Pat.d)).av = .sl (l.map Pat.av) := by
 rw [D.av, D.avs_map, List.map_map]
 first
 | rfl
 | (congr 1; exact List.map_congr_left fun x _ => x.d_av)
theorem Pat.flat {w : World} {x : Pat} {cs : List Value} (h : Rd w Any x.d cs) : RR1 (St.flat w) x.av (.agg cs.toArray) := by
 have := qci h
 rw [Pat.d_av, Pat.av, RC] at this
 exact ⟨cs, rfl, this⟩
theorem Pat.flats {w : World} {l : List Pat} {v : Value} (h : Rd w Any (.sl (l.map Pat.d)) [v]) : RR1 (St.flat w) (.sl (l.map Pat.av)) v := by
 have := qci h
 rw [Pat.ds_av] at this
 exact this
end Go.Proofs.YtkedbjjfmejbhaaGreatDoor
