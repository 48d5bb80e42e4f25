/- api.Node as an abstract value. -/
import Derived.WideShapes
import Derived.Laws.Strings
import Derived.Test.YtkedbjjfmejbhaaGreatDoorGe4
import Derived.Test.YtkedbjjfmejbhaaGreatDoorGe12
import Derived.Test.YtkedbjjfmejbhaaGreatDoorGe14
import Derived.Test.YtkedbjjfmejbhaaGreatDoorGe15
import Derived.Test.YtkedbjjfmejbhaaGreatDoorGe16
set_option linter.unusedSimpArgs false
set_option linter.unusedVariables false
namespace Go.Proofs.YtkedbjjfmejbhaaGreatDoor
open Go.RowKit Go.Lib
def Node.av (x : Node) : AV := .agg [.int x.op, .sl (x.inp.map AV.int), .str x.source, .int x.schema, .sl (x.exprs.map Ex.av), .int x.kind, .int x.size, .int x.step, .sl (x.key.map AV.int), .sl (x.key2.map AV.int), .int x.before, .int x.after, .int x.keep, .sl (x.aggs.map Agg.av), .sl (x.seq.map Pat.av), .sl (x.cols.map Col.av)]
@[simp] theorem Node.av_nt (x : Node) : x.av.nt = true := rfl
@[simp] theorem Node.av_sure (x : Node) : x.av.sure = true := rfl
@[simp] theorem Node.av_elem (x : Node) : x.av.elem = true := rfl
@[simp] theorem Node.av_width (x : Node) : x.av.width = 16 := rfl
@[simp] theorem Node.av_pub (x : Node) : x.av.pub = x.av := by unfold Node.av; rw [AV.pub]; simp only [AV.pubs_cons, AV.pubs_nil, AV.pub_v, pubV, AV.pub_sl]
@[simp] theorem Node.av_cells (x : Node) : x.av.cells = [.int x.op, .sl (x.inp.map AV.int), .str x.source, .int x.schema, .sl (x.exprs.map Ex.av), .int x.kind, .int x.size, .int x.step, .sl (x.key.map AV.int), .sl (x.key2.map AV.int), .int x.before, .int x.after, .int x.keep, .sl (x.aggs.map Agg.av), .sl (x.seq.map Pat.av), .sl (x.cols.map Col.av)] := rfl
@[simp] theorem Node.av_fold (x : Node) : AV.agg [.int x.op, .sl (x.inp.map AV.int), .str x.source, .int x.schema, .sl (x.exprs.map Ex.av), .int x.kind, .int x.size, .int x.step, .sl (x.key.map AV.int), .sl (x.key2.map AV.int), .int x.before, .int x.after, .int x.keep, .sl (x.aggs.map Agg.av), .sl (x.seq.map Pat.av), .sl (x.cols.map Col.av)] = x.av := rfl
@[simp] theorem Node.av_val? (x : Node) : x.av.val? = none := rfl
@[simp] theorem Node.rd_all (x : Node) (σ : Nat -> AB) : rdAt σ true 16 (.ep x.av 0) = some x.av := rfl
@[simp] theorem Node.rd_0 (x : Node) (σ : Nat -> AB) (n : Nat) : rdAt σ false n (.ep x.av 0) = some (.int x.op) := rfl
@[simp] theorem Node.rd_1 (x : Node) (σ : Nat -> AB) (n : Nat) : rdAt σ false n (.ep x.av 1) = some (.sl (x.inp.map AV.int)) := rfl
@[simp] theorem Node.rd_2 (x : Node) (σ : Nat -> AB) (n : Nat) : rdAt σ false n (.ep x.av 2) = some (.str x.source) := rfl
@[simp] theorem Node.rd_3 (x : Node) (σ : Nat -> AB) (n : Nat) : rdAt σ false n (.ep x.av 3) = some (.int x.schema) := rfl
@[simp] theorem Node.rd_4 (x : Node) (σ : Nat -> AB) (n : Nat) : rdAt σ false n (.ep x.av 4) = some (.sl (x.exprs.map Ex.av)) := rfl
@[simp] theorem Node.rd_5 (x : Node) (σ : Nat -> AB) (n : Nat) : rdAt σ false n (.ep x.av 5) = some (.int x.kind) := rfl
@[simp] theorem Node.rd_6 (x : Node) (σ : Nat -> AB) (n : Nat) : rdAt σ false n (.ep x.av 6) = some (.int x.size) := rfl
@[simp] theorem Node.rd_7 (x : Node) (σ : Nat -> AB) (n : Nat) : rdAt σ false n (.ep x.av 7) = some (.int x.step) := rfl
@[simp] theorem Node.rd_8 (x : Node) (σ : Nat -> AB) (n : Nat) : rdAt σ false n (.ep x.av 8) = some (.sl (x.key.map AV.int)) := rfl
@[simp] theorem Node.rd_9 (x : Node) (σ : Nat -> AB) (n : Nat) : rdAt σ false n (.ep x.av 9) = some (.sl (x.key2.map AV.int)) := rfl
@[simp] theorem Node.rd_10 (x : Node) (σ : Nat -> AB) (n : Nat) : rdAt σ false n (.ep x.av 10) = some (.int x.before) := rfl
@[simp] theorem Node.rd_11 (x : Node) (σ : Nat -> AB) (n : Nat) : rdAt σ false n (.ep x.av 11) = some (.int x.after) := rfl
@[simp] theorem Node.rd_12 (x : Node) (σ : Nat -> AB) (n : Nat) : rdAt σ false n (.ep x.av 12) = some (.int x.keep) := rfl
@[simp] theorem Node.rd_13 (x : Node) (σ : Nat -> AB) (n : Nat) : rdAt σ false n (.ep x.av 13) = some (.sl (x.aggs.map Agg.av)) := rfl
@[simp] theorem Node.rd_14 (x : Node) (σ : Nat -> AB) (n : Nat) : rdAt σ false n (.ep x.av 14) = some (.sl (x.seq.map Pat.av)) := rfl
@[simp] theorem Node.rd_15 (x : Node) (σ : Nat -> AB) (n : Nat) : rdAt σ false n (.ep x.av 15) = some (.sl (x.cols.map Col.av)) := rfl
@[simp] theorem Node.av_cl (x : Node) (m : Nat) : x.av.cl m := by unfold Node.av; simp [-Node.av_fold]
@[simp] theorem Node.avs_cl (l : List Node) (m : Nat) : AV.cls m (l.map Node.av) := AV.cls_map (fun f => f.av_cl m) l
@[simp] theorem Node.avs_wid (l : List Node) : AV.wid (l.map Node.av) 16 := AV.wid_map (f := Node.av) (fun a => a.av_width) l
@[simp] theorem Node.avs_elms (l : List Node) : AV.elms (l.map Node.av) := AV.elms_map (f := Node.av) (fun a => a.av_elem) l
theorem Node.d_av (x : Node) : x.d.av = x.av := by
 simp only [Node.d, Node.av, D.av, D.cs, D.avs_map, List.map_map, List.nil_append, List.cons_append, List.append_nil]
 rw [show D.av ∘ Agg.d = Agg.av from funext Agg.d_av]
 rw [show D.av ∘ Col.d = Col.av from funext Col.d_av]
 rw [show D.av ∘ Ex.d = Ex.av from funext Ex.d_av]
 rw [show D.av ∘ Pat.d = Pat.av from funext Pat.d_av]
 try rfl
theorem Node.ds_av (l : List Node) : (D.sl (l.map Node.d)).av = .sl (l.map Node.av) := by
 rw [D.av, D.avs_map, List.map_map]
 first
 | rfl
 | (congr 1; exact List.map_congr_left fun x _ => x.d_av)
theorem Node.flat {w : World} {x : Node} {cs : List Value} (h : Rd w Any x.d cs) : RR1 (St.flat w) x.av (.agg cs.toArray) := by
 have := qci h
 rw [Node.d_av, Node.av, RC] at this
 exact ⟨cs, rfl, this⟩
theorem Node.flats {w : World} {l : List Node} {v : Value} (h : Rd w Any (.sl (l.map Node.d)) [v]) : RR1 (St.flat w) (.sl (l.map Node.av)) v := by
 have := qci h
 rw [Node.ds_av] at this
 exact this
def qek (F : List Fn) (e : Ex) : Bool := decide (parts e <= 200) && decide (levels e <= 12) && decide (qmx F e <= 1000)
def qmu (f : Fn) : Bool := decide (parts f.body <= 100) && decide (f.params.length <= 10)
def lensN (F : List Fn) (n : Node) : Bool := decide (F.length <= 5) && (decide (n.exprs.length <= 12) && (decide (n.seq.length <= 8) && (decide (n.key.length <= 20) && (decide (n.key2.length <= 20) && decide (n.aggs.length <= 20)))))
def qua (F : List Fn) (n : Node) : Bool := F.all qmu && n.exprs.all (qek F) && n.seq.all (fun p => qek F p.pred) && lensN F n
theorem qlb {α : Type} {p : α -> Bool} {l : List α} {i : Nat} (h : i < l.length) (hp : p l[i] = false) : l.all p = false := List.all_eq_false.2 ⟨l[i], List.getElem_mem h, by simp [hp]⟩
theorem qpl {α : Type} {p : α -> Bool} {l : List α} {i : Nat} (h : ∀ j (h : j < l.length), j < i -> p l[j] = true) (hi : l.length <= i) : l.all p = true := List.all_eq_true.2 fun x hx => by
 obtain ⟨j, hj, rfl⟩ := List.getElem_of_mem hx
 exact h j hj (by omega)
theorem qjb {α : Type} {p : α -> Bool} {l : List α} {i : Nat} (h : ∀ j (h : j < l.length), j < i -> p l[j] = true) (hi : i < l.length) (hp : p l[i] = true) : ∀ j (h : j < l.length), j < i + 1 -> p l[j] = true := fun j hj hji => by
 by_cases e : j = i
 .subst e; exact hp
 .exact h j hj (by omega)
set_option maxHeartbeats 16000000 in
theorem qfr1 (F : List Fn) (n : Node) (he : ∀ e ∈ n.exprs, parts e <= 1000000) (hs : ∀ p ∈ n.seq, parts p.pred <= 1000000) (hF : ∀ f ∈ F, parts f.body <= 1000000) (hlF : F.length <= 1000000) (hle : n.exprs.length <= 1000000) (hls : n.seq.length <= 1000000) :
  Gives Tryz.prog 5 [.sl (F.map Fn.av), n.av] (.bool (qua F n)) := by
 obtain ⟨R, hR⟩ : ∃ R, R = qua F n := ⟨_, rfl⟩
 rw [<- hR]
 unfold qua at hR
 refine qg Tryz.func5 Tryz.ntmps5 fun σ n0 hcl hft => ?_
 repeat' (first | (refine Stp.m ?_ <;> try simp (disch := first | omega | simp) [qc, -qe, -qi]) | refine qb fun K hK => ?_ | refine qa ?_ | refine qd ?_ | (refine hK _ ?_; clear hK K))
 refine qk hcl (fun i : Nat => [(0, .sl (F.map Fn.av)), (3, .ptr n0 0), (5, .int i)]) (fun _ => [.cells n.av.cells 29])
  (fun i => i <= F.length /\ i <= 6 /\ ∀ j (h : j < F.length), j < i -> qmu F[j] = true) (fun i => F.length - i) 0 ⟨by omega, by omega, fun j h hj => by omega⟩ (by simp) fun i ⟨hi, hi6, hks⟩ => ?_
 by_cases hgo : i < F.length /\ i < 6
 .obtain ⟨hlt, h6⟩ := hgo
  have h6b : (i : Int) < 6 := by omega
  have c1 := qqx F[i].body (hF F[i] (List.getElem_mem hlt))
  have hbad : qmu F[i] = false -> R = false := fun h => by rw [hR, qlb hlt h]; rfl
  have hnx := fun h => qjb (p := qmu) hks hlt h
  obtain ⟨f, hf⟩ : ∃ f, f = F[i] := ⟨_, rfl⟩
  rw [<- hf] at c1 hbad hnx
  unfold qmu at hbad hnx
  clear hR
  by_cases h1 : parts f.body <= 100
  .have h1b : ¬ (100 : Int) < parts f.body := by omega
   by_cases h2 : f.params.length <= 10
   .have h2b : ¬ (10 : Int) < f.params.length := by omega
    repeat' (first | ((first | refine Stp.m ?_ | refine qh ?_) <;> (try simp (disch := first | omega | simp) [qc, -qe, -qi, hlt, h6b, h1b, h2b, <- hf])) | refine qb fun K hK => ?_ | refine qa ?_ | refine qd ?_ | (refine hK _ ?_; clear hK K) | clear hK K)
    all_goals exact ⟨i + 1, ⟨by omega, by omega, hnx (by simp [h1, h2])⟩, by omega, by simp⟩
   .have h2b : (10 : Int) < f.params.length := by omega
    obtain rfl := hbad (by simp [h2])
    repeat' (first | ((first | refine Stp.m ?_ | refine qh ?_) <;> (try simp (disch := first | omega | simp) [qc, -qe, -qi, hlt, h6b, h1b, h2b, <- hf])) | refine qb fun K hK => ?_ | refine qa ?_ | refine qd ?_ | (refine hK _ ?_; clear hK K))
  .have h1b : (100 : Int) < parts f.body := by omega
   obtain rfl := hbad (by simp [h1])
   repeat' (first | ((first | refine Stp.m ?_ | refine qh ?_) <;> (try simp (disch := first | omega | simp) [qc, -qe, -qi, hlt, h6b, h1b, <- hf])) | refine qb fun K hK => ?_ | refine qa ?_ | refine qd ?_ | (refine hK _ ?_; clear hK K))
 have hend : i = F.length \/ (i = 6 /\ 6 <= F.length) := by omega
 have hgo1 : ¬ (i < F.length /\ (i : Int) < 6) := by omega
 have hFall : F.length <= 5 -> F.all qmu = true := fun h => qpl hks (by omega)
 clear hks
 have hex1 : i < F.length -> ¬ (i : Int) < 6 := by omega
 by_cases hlt : i < F.length
 case' pos =>
  have h6b := hex1 hlt
  repeat' (first | (refine Stp.m ?_ <;> try simp (disch := first | omega | simp) [qc, -qe, -qi, hlt, h6b]) | refine qb fun K hK => ?_ | refine qa ?_ | refine qd ?_ | (refine hK _ ?_; clear hK K) | clear hK K)
 case' neg =>
  repeat' (first | (refine Stp.m ?_ <;> try simp (disch := first | omega | simp) [qc, -qe, -qi, hlt]) | refine qb fun K hK => ?_ | refine qa ?_ | refine qd ?_ | (refine hK _ ?_; clear hK K) | clear hK K)
 all_goals (
  refine qk hcl (fun k : Nat => [(0, .sl (F.map Fn.av)), (3, .ptr n0 0), (6, .int k)]) (fun _ => [.cells n.av.cells 29])
   (fun k => k <= n.exprs.length /\ k <= 13 /\ ∀ j (h : j < n.exprs.length), j < k -> qek F n.exprs[j] = true) (fun k => n.exprs.length - k) 0 ⟨by omega, by omega, fun j h hj => by omega⟩ (by simp) fun k ⟨hk, hk6, hkk⟩ => ?_
  by_cases hgo : k < n.exprs.length /\ k < 13
  .obtain ⟨hlt, h6⟩ := hgo
   have h6b : (k : Int) < 13 := by omega
   have hpe := he n.exprs[k] (List.getElem_mem hlt)
   have c2 := qqx n.exprs[k] hpe
   have c3 := qjp n.exprs[k] (by have := qcl n.exprs[k]; omega)
   have c4 := qyw F n.exprs[k] hpe hF hlF
   have hbad : qek F n.exprs[k] = false -> R = false := fun h => by rw [hR, qlb (p := qek F) hlt h]; simp
   have hnx := fun h => qjb (p := qek F) hkk hlt h
   obtain ⟨e, hee⟩ : ∃ e, e = n.exprs[k] := ⟨_, rfl⟩
   rw [<- hee] at c2 c3 c4 hbad hnx
   unfold qek at hbad hnx
   generalize levels e = LV at *
   generalize qmx F e = SP at *
   generalize parts e = PE at *
   clear hR hkk
   by_cases h1 : PE <= 200
   .have h1b : ¬ (200 : Int) < PE := by omega
    by_cases h2 : LV <= 12
    .have h2b : ¬ (12 : Int) < LV := by omega
     by_cases h3 : SP <= 1000
     .have h3b : ¬ (1000 : Int) < SP := by omega
      repeat' (first | ((first | refine Stp.m ?_ | refine qh ?_) <;> (try simp (disch := first | omega | simp) [qc, -qe, -qi, hlt, h6b, h1b, h2b, h3b, <- hee])) | refine qb fun K hK => ?_ | refine qa ?_ | refine qd ?_ | (refine hK _ ?_; clear hK K) | clear hK K)
      all_goals exact ⟨k + 1, ⟨by omega, by omega, hnx (by simp [h1, h2, h3])⟩, by omega, by simp⟩
     .have h3b : (1000 : Int) < SP := by omega
      obtain rfl := hbad (by simp [h3])
      repeat' (first | ((first | refine Stp.m ?_ | refine qh ?_) <;> (try simp (disch := first | omega | simp) [qc, -qe, -qi, hlt, h6b, h1b, h2b, h3b, <- hee])) | refine qb fun K hK => ?_ | refine qa ?_ | refine qd ?_ | (refine hK _ ?_; clear hK K))
    .have h2b : (12 : Int) < LV := by omega
     obtain rfl := hbad (by simp [h2])
     repeat' (first | ((first | refine Stp.m ?_ | refine qh ?_) <;> (try simp (disch := first | omega | simp) [qc, -qe, -qi, hlt, h6b, h1b, h2b, <- hee])) | refine qb fun K hK => ?_ | refine qa ?_ | refine qd ?_ | (refine hK _ ?_; clear hK K))
   .have h1b : (200 : Int) < PE := by omega
    obtain rfl := hbad (by simp [h1])
    repeat' (first | ((first | refine Stp.m ?_ | refine qh ?_) <;> (try simp (disch := first | omega | simp) [qc, -qe, -qi, hlt, h6b, h1b, <- hee])) | refine qb fun K hK => ?_ | refine qa ?_ | refine qd ?_ | (refine hK _ ?_; clear hK K))
  have hEall : n.exprs.length <= 12 -> n.exprs.all (qek F) = true := fun h => qpl hkk (by omega)
  clear hkk
  have hex2 : k < n.exprs.length -> ¬ (k : Int) < 13 := by omega
  by_cases hlt2 : k < n.exprs.length
  case' pos =>
   have h6b2 := hex2 hlt2
   repeat' (first | (refine Stp.m ?_ <;> try simp (disch := first | omega | simp) [qc, -qe, -qi, hlt2, h6b2]) | refine qb fun K hK => ?_ | refine qa ?_ | refine qd ?_ | (refine hK _ ?_; clear hK K) | clear hK K)
  case' neg =>
   repeat' (first | (refine Stp.m ?_ <;> try simp (disch := first | omega | simp) [qc, -qe, -qi, hlt2]) | refine qb fun K hK => ?_ | refine qa ?_ | refine qd ?_ | (refine hK _ ?_; clear hK K) | clear hK K)
  all_goals (
   refine qk hcl (fun q : Nat => [(0, .sl (F.map Fn.av)), (3, .ptr n0 0), (7, .int q)]) (fun _ => [.cells n.av.cells 29])
    (fun q => q <= n.seq.length /\ q <= 9 /\ ∀ j (h : j < n.seq.length), j < q -> qek F n.seq[j].pred = true) (fun q => n.seq.length - q) 0 ⟨by omega, by omega, fun j h hj => by omega⟩ (by simp) fun q ⟨hq, hq6, hqq⟩ => ?_
   by_cases hgo : q < n.seq.length /\ q < 9
   .obtain ⟨hlt, h6⟩ := hgo
    have h6b : (q : Int) < 9 := by omega
    have hpe := hs n.seq[q] (List.getElem_mem hlt)
    have c2 := qqx n.seq[q].pred hpe
    have c3 := qjp n.seq[q].pred (by have := qcl n.seq[q].pred; omega)
    have c4 := qyw F n.seq[q].pred hpe hF hlF
    have hbad : qek F n.seq[q].pred = false -> R = false := fun h => by rw [hR, qlb (p := fun p : Pat => qek F p.pred) hlt h]; simp
    have hnx := fun h => qjb (p := fun p : Pat => qek F p.pred) hqq hlt h
    obtain ⟨p, hpp⟩ : ∃ p, p = n.seq[q] := ⟨_, rfl⟩
    rw [<- hpp] at c2 c3 c4 hbad hnx
    unfold qek at hbad hnx
    generalize levels p.pred = LV at *
    generalize qmx F p.pred = SP at *
    generalize parts p.pred = PE at *
    clear hR hqq
    by_cases h1 : PE <= 200
    .have h1b : ¬ (200 : Int) < PE := by omega
     by_cases h2 : LV <= 12
     .have h2b : ¬ (12 : Int) < LV := by omega
      by_cases h3 : SP <= 1000
      .have h3b : ¬ (1000 : Int) < SP := by omega
       repeat' (first | ((first | refine Stp.m ?_ | refine qh ?_) <;> (try simp (disch := first | omega | simp) [qc, -qe, -qi, hlt, h6b, h1b, h2b, h3b, <- hpp])) | refine qb fun K hK => ?_ | refine qa ?_ | refine qd ?_ | (refine hK _ ?_; clear hK K) | clear hK K)
       all_goals exact ⟨q + 1, ⟨by omega, by omega, hnx (by simp [h1, h2, h3])⟩, by omega, by simp⟩
      .have h3b : (1000 : Int) < SP := by omega
       obtain rfl := hbad (by simp [h3])
       repeat' (first | ((first | refine Stp.m ?_ | refine qh ?_) <;> (try simp (disch := first | omega | simp) [qc, -qe, -qi, hlt, h6b, h1b, h2b, h3b, <- hpp])) | refine qb fun K hK => ?_ | refine qa ?_ | refine qd ?_ | (refine hK _ ?_; clear hK K))
     .have h2b : (12 : Int) < LV := by omega
      obtain rfl := hbad (by simp [h2])
      repeat' (first | ((first | refine Stp.m ?_ | refine qh ?_) <;> (try simp (disch := first | omega | simp) [qc, -qe, -qi, hlt, h6b, h1b, h2b, <- hpp])) | refine qb fun K hK => ?_ | refine qa ?_ | refine qd ?_ | (refine hK _ ?_; clear hK K))
    .have h1b : (200 : Int) < PE := by omega
     obtain rfl := hbad (by simp [h1])
     repeat' (first | ((first | refine Stp.m ?_ | refine qh ?_) <;> (try simp (disch := first | omega | simp) [qc, -qe, -qi, hlt, h6b, h1b, <- hpp])) | refine qb fun K hK => ?_ | refine qa ?_ | refine qd ?_ | (refine hK _ ?_; clear hK K))
   have hSall : n.seq.length <= 8 -> n.seq.all (fun p => qek F p.pred) = true := fun h => qpl hqq (by omega)
   clear hqq
   have hR2 : R = lensN F n := by
    rw [hR]
    cases hlen : lensN F n with
    | false => simp
    | true =>
     unfold lensN at hlen
     simp only [Bool.and_eq_true, decide_eq_true_eq] at hlen
     rw [hFall hlen.1, hEall hlen.2.1, hSall hlen.2.2.1]; rfl
   clear hR hFall hEall hSall
   unfold lensN at hR2
   have hex3 : q < n.seq.length -> ¬ (q : Int) < 9 := by omega
   by_cases hlt3 : q < n.seq.length
   case' pos =>
    have h6b3 := hex3 hlt3
    repeat' (first | ((first | ((with_reducible refine qj (fun hg => ?_) (fun hg => ?_)) <;> (try simp only [hg]) <;> (try simp only [gS] at hg) <;> (try (first | simp only [eq_false hg, gI] | simp only [eq_true hg, gI]))) | refine Stp.m ?_) <;> (try simp (disch := first | omega | simp) [qc, -qe, -qi, hlt3, h6b3])) | refine qb fun K hK => ?_ | refine qa ?_ | (refine hK _ ?_; clear hK K) | clear hK K)
   case' neg =>
    repeat' (first | ((first | ((with_reducible refine qj (fun hg => ?_) (fun hg => ?_)) <;> (try simp only [hg]) <;> (try simp only [gS] at hg) <;> (try (first | simp only [eq_false hg, gI] | simp only [eq_true hg, gI]))) | refine Stp.m ?_) <;> (try simp (disch := first | omega | simp) [qc, -qe, -qi, hlt3])) | refine qb fun K hK => ?_ | refine qa ?_ | (refine hK _ ?_; clear hK K) | clear hK K)
   all_goals (rw [hR2, Bool.eq_iff_iff]; simp only [Bool.and_eq_true, decide_eq_true_eq, Bool.false_eq_true, iff_false, false_iff]; omega)))
theorem qhq1 {P : Program} {s : AS} {f : FuncId} {d : Tmp} {caps : List AV} {args : List Operand} {tys : Array TypeId} {x : AV} {τ : Nat -> AB} (hd : s.t d = .bm f caps) (hf : enters P f = true) (hn : ∀ y ∈ args, ∀ l, s.eval y ≠ .tup l) (h : AC P f (caps ++ (args.map s.eval).map AV.pub) s.st fun y τ' => y = x /\ τ' = τ) :
  WOp P s.eval s.st (.call { callee := .value (.tmp d), args := args.toArray, argTypes := tys }) x τ := by
 intro X a oper ho hS _ hσ hev Q
 have hfn := hev (.tmp d) (by simp [Op.operands, Call.operands])
 change RR X (s.t d) _ at hfn
 rw [hd] at hfn
 change RC X (.bm f caps) [a.eval (.tmp d)] at hfn
 rw [RC] at hfn
 obtain ⟨vs, hv, hcaps⟩ := hfn
 have he : a.eval (.tmp d) = .func (.func f) vs.toArray #[] := by simpa using hv
 have hrun : (execOp a.eval oper).run P X.w = .ok (.enter f (vs ++ args.map a.eval).toArray) X.w := by
  simp [execOp, ho, resolve, he, Deferred.ofValue, invoke, qcq hf]
 have hargs := qoy (a := a) args (fun y hy => hev y (by simp [Op.operands, Call.operands, hy])) hn
 refine OwpA.of (fun c h => by rw [ho] at h; cases h) ?_
 unfold Oper.wp
 rw [hrun]
 refine (h X _ s.nx hS hσ s.fin (hcaps.rrl.append hargs.pub)).mono ?_
 rintro e w' ⟨Y, v, y, rfl, rfl, ⟨rfl, hσ'⟩, hS', hF, hR⟩
 exact ⟨v, Y, rfl, rfl, hS', hF, hR, hσ'⟩
def aevW2 (P : Program) (s : AS) (o : Op) (K : AV -> AS -> Prop) : Prop :=
 match o with
 | .call { callee := .value (.tmp d), args := ⟨args⟩, argTypes := tys } => match s.t d with
  | .bm f bound => nts (args.map s.eval) = true /\ enters P f = true /\ ACall P f (bound ++ (args.map s.eval).map AV.pub) s K
  | _ => aevW P s (.call { callee := .value (.tmp d), args := ⟨args⟩, argTypes := tys }) K
 | .fieldAddr t p f => aevF P s (.fieldAddr t p f) (fun x nb => K x (s.ext nb))
 | .indexAddr t p f => aevF P s (.indexAddr t p f) (fun x nb => K x (s.ext nb))
 | .load t p => aevF P s (.load t p) (fun x nb => K x (s.ext nb))
 | .nilCheck p => aevF P s (.nilCheck p) (fun x nb => K x (s.ext nb))
 | .move p => aevF P s (.move p) (fun x nb => K x (s.ext nb))
 | o => aevW P s o K
theorem qhi {P : Program} {s : AS} {o : Op} {K : AV -> AS -> Prop} (h : aevW2 P s o K) : ∃ x s1, WOp P s.eval s.st o x s1.st /\ (s1.t = s.t /\ s1.n = s.n /\ s1.n0 = s.n0) /\ K x s1 := by
 have hf : ∀ o, aevF P s o (fun x nb => K x (s.ext nb)) -> ∃ x s1, WOp P s.eval s.st o x s1.st /\ (s1.t = s.t /\ s1.n = s.n /\ s1.n0 = s.n0) /\ K x s1 := fun o h => by
  obtain ⟨x, nb, h1, h2⟩ := qch h
  exact ⟨x, s.ext nb, qju h1, by cases nb <;> exact ⟨rfl, rfl, rfl⟩, h2⟩
 unfold aevW2 at h
 split at h
 .split at h
  .obtain ⟨h1, h2, x, s1, h3, h4, h5⟩ := h
   exact ⟨x, s1, qhq1 ‹_› h2 (qdm h1) h3, h4, h5⟩
  .exact qgo h
 .exact hf _ h
 .exact hf _ h
 .exact hf _ h
 .exact hf _ h
 .exact hf _ h
 .exact qgo h
def AS.seen (m : List AB) (s : AS) : AS := { s with L := m }
def anyE (P : Program) (ops : Array Oper) (m : List AB) (K : AS -> Prop) : List Oper -> List RK -> AS -> Prop
 | [], _, s => K s
 | o :: l, ks, s => match awant ops o s.t with
  | some b => qbm b (match ks.headD .R with
   | .R => aevF P (s.seen m) o.op (fun x nb => nb = none /\ dstOk o.dst s.n /\ anyE P ops m K l ks.tail (s.put o.dst x))
   | .M => aevM P s o.op (fun x nb => dstOk o.dst s.n /\ anyE P ops m K l ks.tail ((s.ext nb).put o.dst x))
   | .W => aevW2 P s o.op (fun x s1 => dstOk o.dst s.n /\ qct m s1.L /\ s1.σ = s.σ /\ anyE P ops m K l ks.tail (s1.put o.dst x))
   | _ => False) (dstOk o.dst s.n /\ anyE P ops m K l ks.tail (s.put o.dst (.v undef)))
  | none => False
theorem qtd {m : List AB} {s : AS} {σ0 : Nat -> AB} {n0 : Nat} (hσ : s.σ = σ0) (hn : s.n0 = n0) (h : qct m s.L) : ∀ r, loc σ0 n0 m r ≠ .unborn -> s.st r = loc σ0 n0 m r := fun r hr => by
 by_cases hlt : r < n0
 .show loc s.σ s.n0 s.L r = _
  unfold loc
  rw [hn, if_pos hlt, if_pos hlt, hσ]
 .have e : loc σ0 n0 m r = loc (fun _ => .unborn) n0 m r := by unfold loc; rw [if_neg hlt, if_neg hlt]
  rw [e] at hr ⊢
  exact qqk hn h r hr
theorem qsi {m : List AB} {s : AS} {σ0 : Nat -> AB} {n0 : Nat} (hke : ∀ r, loc σ0 n0 m r ≠ .unborn -> s.st r = loc σ0 n0 m r) (nb : Option AB) : ∀ r, loc σ0 n0 m r ≠ .unborn -> (s.ext nb).st r = loc σ0 n0 m r := fun r hr => by
 cases nb with
 | none => exact hke r hr
 | some ab =>
  have h0 := hke r hr
  have hlt : r < s.nx := Nat.lt_of_not_le fun hle => hr (h0.symm.trans (s.fin r hle))
  rw [(qes s ab).1]; unfold upd; rw [if_neg (by omega)]; exact h0
section
variable {P : Program}
theorem qnj {ops : Array Oper} {m : List AB} {σ0 : Nat -> AB} {n0 : Nat} {K : AS -> Prop} : ∀ (l : List Oper) (ks : List RK) (s : AS), s.n0 = n0 -> s.σ = σ0 -> (∀ r, loc σ0 n0 m r ≠ .unborn -> s.st r = loc σ0 n0 m r) -> anyE P ops m K l ks s ->
  ∃ st s1 xs bs nbs, qrm P ops l ks st s1 xs bs nbs (loc σ0 n0 m) n0 /\ st 0 = s /\ K (st l.length)
 | [], ks, s, hn0, hs0, hke, h => by
  refine ⟨fun _ => s, fun _ => s, fun _ => .any, fun _ => true, fun _ => none, ⟨fun r hr j _ => hke r hr, fun _ _ hi => absurd hi (Nat.not_lt_zero _), ?_, ?_, ?_, ?_, ?_, ?_, ?_, ?_, ?_⟩, rfl, h⟩ <;> (intro i o ho; simp at ho)
 | o :: l, ks, s, hn0, hs0, hke, h => by
  have key : ∀ (x : AV) (b : Bool) (nb : Option AB) (s1 : AS), awant ops o s.t = some b -> dstOk o.dst s.n -> (s1.t = s.t /\ s1.n = s.n /\ s1.n0 = s.n0) -> s1.σ = s.σ -> (b = true -> ks.headD .R ≠ .N /\ ks.headD .R ≠ .A) -> (b = false -> x = .v undef /\ s1 = s /\ nb = none) ->
    (b = true -> ks.headD .R = .R -> FOp2 P s.eval (loc σ0 n0 m) o.op x none /\ s1 = s /\ nb = none) -> (b = true -> ks.headD .R = .M -> FOp2 P s.eval s.st o.op x (nb.map (s.nx, ·)) /\ s1 = s.ext nb) ->
    (b = true -> ks.headD .R = .W -> WOp P s.eval s.st o.op x s1.st /\ nb = none) -> (∀ r, loc σ0 n0 m r ≠ .unborn -> s1.st r = loc σ0 n0 m r) -> anyE P ops m K l ks.tail (s1.put o.dst x) ->
    ∃ st s1 xs bs nbs, qrm P ops (o :: l) ks st s1 xs bs nbs (loc σ0 n0 m) n0 /\ st 0 = s /\ K (st (o :: l).length) := by
   intro x b nb s1 hw hd hsame hss hNA hskip hR hM hW hke1 hrest
   have hput : (s1.put o.dst x).σ = s1.σ := by cases o.dst <;> rfl
   obtain ⟨st, s1', xs, bs, nbs, hs, h0, hK⟩ := qnj (n0 := n0) (σ0 := σ0) l ks.tail _ (by rw [(qei s1 o.dst x).2.2.2, hsame.2.2]; exact hn0) (by rw [hput, hss]; exact hs0) (fun r hr => by rw [(qei s1 o.dst x).1]; exact hke1 r hr) hrest
   have hks : ∀ i, ks.getD (i + 1) .R = ks.tail.getD i .R := fun i => by cases ks <;> simp
   have hk0 : ks.getD 0 .R = ks.headD .R := by cases ks <;> simp
   refine ⟨fun i => match i with | 0 => s | i + 1 => st i, fun i => match i with | 0 => s1 | i + 1 => s1' i, fun i => match i with | 0 => x | i + 1 => xs i, fun i => match i with | 0 => b | i + 1 => bs i, fun i => match i with | 0 => nb | i + 1 => nbs i, ⟨fun r hr j hj => (match j with | 0 => hke r hr | j + 1 => hs.kept r hr j (by simpa using hj)), fun hq => absurd hq (by show ¬ n0 < s.n0; omega), ?_, ?_, ?_, ?_, ?_, ?_, ?_, ?_, ?_⟩, rfl, hK⟩
   all_goals (intro i o' ho; cases i)
   .simp at ho; subst ho; exact hw
   .exact hs.want _ o' (by simpa using ho)
   .simp at ho; subst ho; exact hd
   .exact hs.dst _ o' (by simpa using ho)
   .simp at ho; subst ho; exact h0
   .exact hs.next _ o' (by simpa using ho)
   .simp at ho; subst ho; exact hsame
   .exact hs.same _ o' (by simpa using ho)
   .simp at ho; subst ho; exact hskip
   .exact hs.skip _ o' (by simpa using ho)
   .simp at ho; subst ho; rw [hk0]; exact hR
   .rw [hks]; exact hs.opR _ o' (by simpa using ho)
   .simp at ho; subst ho; rw [hk0]; exact fun hb hk => absurd hk (hNA hb).1
   .rw [hks]; exact hs.opN _ o' (by simpa using ho)
   .simp at ho; subst ho; rw [hk0]; exact hM
   .rw [hks]; exact hs.opM _ o' (by simpa using ho)
   .simp at ho; subst ho; rw [hk0]
    intro hb hk
    refine hW hb ?_
    cases hk2 : ks.headD .R with
    | W => rfl
    | A => exact absurd hk2 (hNA hb).2
    | R => rw [hk2] at hk; cases hk
    | M => rw [hk2] at hk; cases hk
    | N => rw [hk2] at hk; cases hk
   .rw [hks]; exact hs.opW _ o' (by simpa using ho)
  rw [anyE] at h
  split at h
  .rename_i bb hw
   cases bb with
   | true =>
    replace h := h.1 rfl
    split at h
    .rename_i hk
     obtain ⟨x, nb, h1, rfl, h2, h3⟩ := qch h
     have e : (s.seen m).st = loc σ0 n0 m := by show loc s.σ s.n0 m = _; rw [hs0, hn0]
     rw [e] at h1
     exact key x true none s hw h2 ⟨rfl, rfl, rfl⟩ rfl (fun _ => ⟨by rw [hk]; simp, by rw [hk]; simp⟩) (fun e => by cases e) (fun _ _ => ⟨h1.two, rfl, rfl⟩) (fun _ e => by rw [hk] at e; cases e) (fun _ e => by rw [hk] at e; cases e) hke h3
    .rename_i hk
     obtain ⟨x, nb, h1, h2, h3⟩ := qjc h
     exact key x true nb (s.ext nb) hw h2 (by cases nb <;> exact ⟨rfl, rfl, rfl⟩) (by cases nb <;> rfl) (fun _ => ⟨by rw [hk]; simp, by rw [hk]; simp⟩) (fun e => by cases e) (fun _ e => by rw [hk] at e; cases e) (fun _ _ => ⟨h1, rfl⟩) (fun _ e => by rw [hk] at e; cases e) (qsi hke nb) h3
    .rename_i hk
     obtain ⟨x, s1, h1, h2, h3, h5, h6, h4⟩ := qhi h
     exact key x true none s1 hw h3 h2 h6 (fun _ => ⟨by rw [hk]; simp, by rw [hk]; simp⟩) (fun e => by cases e) (fun _ e => by rw [hk] at e; cases e) (fun _ e => by rw [hk] at e; cases e) (fun _ _ => ⟨h1, rfl⟩) (qtd (h6.trans hs0) (h2.2.2.trans hn0) h5) h4
    .exact h.elim
   | false =>
    replace h := h.2 rfl
    exact key (.v undef) false none s hw h.1 ⟨rfl, rfl, rfl⟩ rfl (fun e => by cases e) (fun _ => ⟨rfl, rfl, rfl⟩) (fun e => by cases e) (fun e => by cases e) (fun e => by cases e) hke h.2
  .exact h.elim
theorem qpm {s : AS} {id : Nat} {l : List Oper} {Q : Exit -> AS -> Prop} (m : List AB) (ks : List RK) (hm : P.follows .mixedOrders = true) (hB : anyB l ks = true) (h0 : qct m s.L) (h : anyE P l.toArray m (Q .normal) l ks s) : awp P (.region id l.toArray true) Q s := by
 obtain ⟨st, s1, xs, bs, nbs, hs, rfl, hK⟩ := qnj l ks s rfl rfl (qtd rfl rfl h0) h
 exact qve hm (qva hB) (qtu hB hs) hK
end
instance {P : Program} {ops : Array Oper} {m : List AB} {K : AS -> Prop} {o : Oper} {l : List Oper} {ks : List RK} {s : AS} : Stp (anyE P ops m K (o :: l) ks s) (match awant ops o s.t with
  | some b => qbm b (match ks.headD .R with
   | .R => aevF P (s.seen m) o.op (fun x nb => nb = none /\ dstOk o.dst s.n /\ anyE P ops m K l ks.tail (s.put o.dst x))
   | .M => aevM P s o.op (fun x nb => dstOk o.dst s.n /\ anyE P ops m K l ks.tail ((s.ext nb).put o.dst x))
   | .W => aevW2 P s o.op (fun x s1 => dstOk o.dst s.n /\ qct m s1.L /\ s1.σ = s.σ /\ anyE P ops m K l ks.tail (s1.put o.dst x))
   | _ => False) (dstOk o.dst s.n /\ anyE P ops m K l ks.tail (s.put o.dst (.v undef)))
  | none => False) := ⟨fun h => h⟩
instance {P : Program} {ops : Array Oper} {m : List AB} {K : AS -> Prop} {ks : List RK} {s : AS} : Stp (anyE P ops m K [] ks s) (K s) := ⟨fun h => h⟩
attribute [simp] aevW2
instance {P : Program} {ops : Array Oper} {m : List AB} {K : AS -> Prop} {l : List Oper} {ks : List RK} {s : AS} : Inhabited (Tag (anyE P ops m K l ks s)) := ⟨⟨⟩⟩
@[simp] theorem qtu1 (m : List AB) (n : Nat) (t : Nat -> AV) (σ : Nat -> AB) (n0 : Nat) (L : List AB) : (AS.mk n t σ n0 L).seen m = ⟨n, t, σ, n0, m⟩ := rfl
variable {P : Program} {s : AS}
theorem qxf {X0 X : St} {a : Act} {w : World} (hc : Con X0 s a w X) {r : Nat} {et : TypeId} {sz : Nat} (hσ : s.st r = .tail 0 et sz) :
  ∃ X', X'.w = X.w /\ Con X0 ((s.set r .dead).ext (some (.vec [] et sz))) a w X' /\ Fr X X' /\ ∀ v, RC X (.gs r []) [v] -> RC X' (.own s.nx 0) [v] := by
 have hX : X.σ r = .tail 0 et sz := by rw [hc.σ, hσ]
 have hlt : r < s.nx := Nat.lt_of_not_le fun h => by have := s.fin r h; rw [hσ] at this; cases this
 have hun : X.σ s.nx = .unborn := by rw [hc.σ]; exact s.fin _ (Nat.le_refl _)
 have hrn : r ≠ s.nx := by omega
 have hB := hc.sr.block r
 rw [hX] at hB
 obtain ⟨xs, hown⟩ := hB.2 rfl
 have hxs : xs = [] := List.eq_nil_of_length_eq_zero (by rw [hown.1]; simp)
 subst hxs
 have hbr : X.blk r = (X.μ r).ownBlock := by unfold St.blk; rw [hX]; rfl
 let X' : St := { X with μ := upd X.μ s.nx (X.μ r), σ := upd (upd X.σ r .dead) s.nx (.vec [] et sz) }
 have hσ1 : X'.σ s.nx = .vec [] et sz := by simp [X', upd]
 have hσ2 : X'.σ r = .dead := by simp [X', upd, hrn]
 have hσ3 : ∀ k, k ≠ r -> k ≠ s.nx -> X'.σ k = X.σ k /\ X'.μ k = X.μ k := fun k h1 h2 => by simp [X', upd, h1, h2]
 have hμ1 : X'.μ s.nx = X.μ r := by simp [X', upd]
 have hb : ∀ k b, X'.blk k = some b -> (k = s.nx /\ X.blk r = some b) \/ (k ≠ r /\ k ≠ s.nx /\ X.blk k = some b) := fun k b h => by
  unfold St.blk at h
  by_cases h1 : k = s.nx
  .subst h1
   rw [hσ1, hμ1] at h
   exact .inl ⟨rfl, hbr.trans h⟩
  .by_cases h2 : k = r
   .subst h2; rw [hσ2] at h; cases h
   .obtain ⟨e1, e2⟩ := hσ3 k h2 h1
    rw [e1, e2] at h
    exact .inr ⟨h2, h1, h⟩
 have hF : Fr X X' := ⟨rfl, rfl, rfl, Nat.le_refl _, fun _ _ _ => rfl, fun _ _ _ => rfl, fun _ _ h => h, fun b o h => .inl h, fun k => by
  unfold Ver
  by_cases h1 : k = s.nx
  .subst h1; rw [hun]; trivial
  .by_cases h2 : k = r
   .subst h2; rw [hX]; exact .inl hσ2
   .obtain ⟨e1, e2⟩ := hσ3 k h2 h1
    have := (Fr.refl X).ver k
    unfold Ver at this
    rw [e1, e2]; exact this, fun k b h => by
  rcases hb k b h with ⟨-, h⟩ | ⟨-, -, h⟩
  .exact .inr ⟨r, h⟩
  .exact .inr ⟨k, h⟩⟩
 refine ⟨X', rfl, ⟨hc.w, ?_, ⟨fun k => ?_, fun k k' b h1 h2 => ?_, fun k b o h1 h2 => ?_, fun b o h => hc.sr.old b o h, hc.sr.glob.mono fun _ _ _ h => h.fr hF⟩, hc.fr.trans hF, ?_, fun d => ?_, hc.defers, ?_⟩, hF, fun v hv => ?_⟩
 .rw [(qes _ _).1, AS.set_st _ _ _ hlt, <- hc.σ]
  have : (s.set r .dead).nx = s.nx := by
   unfold AS.set AS.nx; split <;> simp
  rw [this]
 .by_cases h1 : k = s.nx
  .subst h1; rw [hσ1, hμ1]; exact ⟨fun x hx => by simp at hx, [], hown, by rw [RCs]⟩
  .by_cases h2 : k = r
   .subst h2; rw [hσ2]; trivial
   .obtain ⟨e1, e2⟩ := hσ3 k h2 h1
    exact BR.fr hc.sr hF e1 e2 fun _ _ => rfl
 .rcases hb k b h1 with ⟨rfl, h3⟩ | ⟨h3, h4, h5⟩ <;> rcases hb k' b h2 with ⟨rfl, h6⟩ | ⟨h6, h7, h8⟩
  .rfl
  .exact absurd (hc.sr.alone _ _ b h8 h3) h6
  .exact absurd (hc.sr.alone _ _ b h5 h6) h3
  .exact hc.sr.alone _ _ b h5 h8
 .rcases hb k b h1 with ⟨rfl, h3⟩ | ⟨h3, h4, h5⟩
  .obtain ⟨_, e, s2, h6, h7⟩ := hc.sr.apart r b o h3 h2
   rw [hX] at h6; cases h6
   omega
  .obtain ⟨n2, e, s2, h6, h7⟩ := hc.sr.apart k b o h5 h2
   exact ⟨n2, e, s2, by rw [(hσ3 k h3 h4).1]; exact h6, h7⟩
 .have := (s.set_nx r .dead).1
  show _ = (s.set r .dead).n
  rw [this]; exact hc.size
 .have := (s.set_nx r .dead).2.2
  show RR X' ((s.set r .dead).t d) _
  rw [this]; exact (hc.regs d).fr hF
 .have := (s.set_nx r .dead).2.1
  show Fin _ (s.set r .dead).n0
  rw [this]; exact hc.fin
 .rw [RC] at hv
  obtain ⟨A, cap, b, off, hv1, -, -, -, -, -, hall⟩ := hv
  show RC X' (.own s.nx 0) [v]
  rw [RC]
  have hv2 : v = .slice A 0 cap := by simpa using hv1
  subst hv2
  refine ⟨by rw [hσ1]; simp, _, rfl, ⟨rfl, fun I h => by rw [hσ1] at h; cases h⟩, fun l e2 s2 h => ?_⟩
  rw [hσ1] at h; cases h
  exact ⟨Nat.le_refl _, fun _ => by rw [hμ1]; exact (hall _ _ _ hX).2 rfl⟩
theorem qyi {t : TypeId} {x y : Operand} {r n : Nat} {l ys : List AV} {e : TypeId} {sz by_ : Nat} {yv : AV} {K : AV -> AS -> Prop} {X0 X : St} {a : Act} {oper : Oper} (ho : oper.op = .call { callee := .builtin .append, args := #[x, y], argTypes := #[t, t] }) (hc : Con X0 s a X.w X)
  (ht : vinfo P t = some (e, sz, by_)) (hx : RC X (.own r n) [a.eval x]) (hn : n = l.length) (hσ : s.st r = .vec l e sz) (hy : RR X yv (a.eval y)) (hyl : yv.list = some ys) (hne : 0 < ys.length)
  (hw : ∀ z ∈ ys, z.width = sz) (h1 : ∀ z ∈ ys, z.elem = true) (hb : (l.length + ys.length) * by_ <= 140737488355328) (hK : K (.own r (l.length + ys.length)) (s.set r (.vec (l ++ ys) e sz))) (Q : Exit -> Act -> World -> Prop) :
  OwpA P oper a X.w (fun a' w' => ∃ v x s1 X', a' = a.put oper.dst v /\ K x s1 /\ Con X0 s1 a w' X' /\ RR X' x v) Q := by
 subst hn
 rw [RC] at hx
 obtain ⟨-, v0, hv0, -, hall⟩ := hx
 have hX : X.σ r = .vec l e sz := by rw [hc.σ, hσ]
 have hvm : a.eval x = X.μ r := by
  have := (hall _ _ _ hX).2 rfl
  rw [<- this]; simpa using hv0
 obtain ⟨A, cap, b, off, hyv', hc1, hc2, hA, hm⟩ := RR.list hyl hy
 obtain rfl := hA hne
 obtain ⟨news, hr2, hcell⟩ := hm.row
 have hB := hc.sr.block r
 rw [hX] at hB
 obtain ⟨hwd, xs, hown, hrs⟩ := hB
 obtain ⟨hu1, i, z, hi, hz, hsz, hby, hzs, hsz0, hby0, -⟩ := qbr ht
 have hlen : l.length + ys.length <= 140737488355328 := Nat.le_trans (Nat.le_mul_of_pos_right _ hby0) hb
 have hnl := RCs.len hr2 hw
 have hnc : ∀ j u, news[j]? = some u -> X.w.cell? ((⟨b, off, none⟩ : Addr).add j) = some u := fun j u hj => by rw [qbd]; exact hcell.at.get j u hj
 have h63 : l.length + ys.length <= maxLen := by unfold maxLen; omega
 subst hsz
 subst hby
 obtain ⟨v2, w2, hrun, hown2, hg, h3, h4⟩ := run_append_own_at (P := P) X.w 0 t oper.type e i z i.size i.bytes hu1 hi hz rfl rfl hzs hsz0 (X.μ r) l.length xs hown ⟨b, off, none⟩ ys.length cap news hnl hnc (RCs.oneCell hr2 h1) h63 hb (Nat.zero_le _)
 have hblk : X.blk r = (X.μ r).ownBlock := by unfold St.blk; rw [hX]; rfl
 have hno : ∀ b2 o, X.blk r = some b2 -> ¬ X.S b2 o := fun b2 o h5 h6 => by
  obtain ⟨n2, e2, s2, h7, h8⟩ := hc.sr.apart r b2 o h5 h6
  rw [hX] at h7; cases h7
 have hT : Turns X w2 X.S r (.vec (l ++ ys) e i.size) v2 := by
  refine ⟨by rw [hblk]; exact hg, fun b2 h => ?_, ?_, fun b2 o h5 h6 => absurd h6 (hno b2 o h5), fun _ _ h => h, fun b2 o h => .inl h, fun b2 o h5 h6 => ?_, fun b2 h => (hown2.lt b2 h).2⟩
  .change v2.ownBlock = some b2 at h
   rcases h4 with h4 | h4
   .left; rw [hblk, <- h4, h]
   .right; rw [h4] at h; cases h; exact Nat.le_refl _
  .unfold Ver
   rw [hX]
   exact .inr ⟨l ++ ys, by simp [St.turn, upd], .inl (by simp; omega)⟩
  .exfalso
   change v2.ownBlock = some b2 at h5
   rcases h4 with h4 | h4
   .exact hno b2 o (by rw [hblk, <- h4]; exact h5) h6
   .rw [h4] at h5; cases h5
    exact absurd (hc.sr.old _ o h6) (Nat.lt_irrefl _)
 have hF := qhy hc.sr hT
 refine qbi (w' := w2) (v := v2) (by simp [execOp, ho, resolve, invoke, builtin, hvm, hyv', hrun])
  ⟨v2, .own r (l.length + ys.length), _, _, rfl, hK, qgt (v := v2) hc (by rw [hσ]; simp) hT ⟨fun x hx => ?_, xs ++ news, by rw [List.length_append]; exact hown2, ?_⟩, ?_⟩
 .rcases List.mem_append.1 hx with hx | hx
  .exact hwd x hx
  .exact hw x hx
 .exact RCs.fr hF _ _ (hrs.append hr2)
 .show RC _ (.own r _) [_]
  rw [RC]
  refine ⟨by simp [St.turn, upd], v2, rfl, ⟨?_, fun I h => by simp [St.turn, upd] at h⟩, fun l2 e2 s2 h => ?_⟩
  .rcases hown2.2 with ⟨h5, -⟩ | ⟨g, cap2, cur, h5, -⟩ <;> rw [h5] <;> rfl
  .simp [St.turn, upd] at h
   obtain ⟨rfl, rfl, rfl⟩ := h
   exact ⟨by simp, fun _ => by simp [St.turn, upd]⟩
theorem qvo {t : TypeId} {x y : Operand} {r : Nat} {ys : List AV} {e : TypeId} {sz by_ : Nat} {K : AV -> AS -> Prop} (ht : vinfo P t = some (e, sz, by_)) (hx : s.eval x = .gs r []) (hσ : s.st r = .tail 0 e sz) (hyl : (s.eval y).list = some ys) (hne : 0 < ys.length)
  (hw : ∀ z ∈ ys, z.width = sz) (h1 : ∀ z ∈ ys, z.elem = true) (hb : ys.length * by_ <= 140737488355328) (hK : K (.own s.nx ys.length) ((s.set r .dead).ext (some (.vec ys e sz)))) :
  EOp P s (.call { callee := .builtin .append, args := #[x, y], argTypes := #[t, t] }) K := by
 intro X0 a w X oper ho hc Q
 have hw0 := hc.w
 subst hw0
 obtain ⟨X', hXw, hc', hF, hR⟩ := qxf hc hσ
 have hx2 := hc.eval x
 rw [hx] at hx2
 have hx3 := hR _ hx2
 rw [<- hXw]
 rw [<- hXw] at hc'
 have hnx : (s.set r .dead).nx = s.nx := by
  unfold AS.set AS.nx; split <;> simp
 refine qyi (s := (s.set r .dead).ext (some (.vec [] e sz))) (l := []) ho hc' ht hx3 rfl ?_ ((hc.eval y).fr hF) hyl hne hw h1 (by simpa using hb) ?_ Q
 .rw [(qes _ _).1, hnx]; simp [upd]
 .have : ((s.set r .dead).ext (some (.vec [] e sz))).set s.nx (.vec ([] ++ ys) e sz) = (s.set r .dead).ext (some (.vec ys e sz)) := by
   rw [<- hnx]
   unfold AS.set AS.ext AS.nx
   dsimp only
   split <;> (dsimp only; rw [if_neg (by omega), Nat.add_sub_cancel_left]; simp)
  rw [this]; simpa using hK
theorem qic {ops : Array Oper} {K K' : AS -> Prop} {l2 : List Oper} (hk : ∀ s, K' s -> aseq P ops K l2 s) : ∀ {l1 : List Oper} {s : AS}, qe P ops K' l1 s -> aseq P ops K (l1 ++ l2) s
 | [], s, h => hk s h
 | o :: l, s, h => by
  rw [qe] at h
  rw [List.cons_append, aseq]
  split at h
  .rename_i b hb
   cases b with
   | true => exact ⟨true, hb, (qck (h.1 rfl)).mono fun x s1 ⟨h1, h2⟩ => ⟨h1, qic hk h2⟩⟩
   | false => exact ⟨false, hb, (h.2 rfl).1, qic hk (h.2 rfl).2⟩
  .exact h.elim
def qto (P : Program) (ops : Array Oper) (s : AS) (o : Oper) (K : AS -> Prop) : Prop :=
 match o.op with
 | .call { callee := .builtin .append, args := ⟨[x, y]⟩, argTypes := ⟨[t, t']⟩ } => t' = t /\ awant ops o s.t = some true /\ (match vinfo P t with
  | some (e, sz, by_) => match s.eval x, (s.eval y).list with
   | .gs r [], some ys => s.st r = .tail 0 e sz /\ 0 < ys.length /\ AV.wid ys sz /\ AV.elms ys /\ ys.length * by_ <= 140737488355328 /\ dstOk o.dst ((s.set r .dead).ext (some (.vec ys e sz))).n /\ K (((s.set r .dead).ext (some (.vec ys e sz))).put o.dst (.own s.nx ys.length))
   | _, _ => False
  | none => False)
 | _ => False
theorem qtp {ops : Array Oper} {K K' : AS -> Prop} {o : Oper} {l : List Oper} (hk : ∀ s, K' s -> aseq P ops K l s) (h : qto P ops s o K') : aseq P ops K (o :: l) s := by
 unfold qto at h
 rw [aseq]
 split at h
 .rename_i x y t t' hop
  obtain ⟨rfl, hwt, h⟩ := h
  refine ⟨true, hwt, ?_⟩
  show EOp P s o.op _
  rw [hop]
  split at h
  .split at h
   .obtain ⟨h1, h2, h3, h4, h5, h6, h7⟩ := h
    exact qvo ‹_› ‹_› h1 ‹_› h2 h3 h4 h5 ⟨h6, hk _ h7⟩
   .exact h.elim
  .exact h.elim
 .exact h.elim
theorem qvf {id : Nat} {l : List Oper} {Q : Exit -> AS -> Prop} (k : Nat) {o : Oper} (ho : l[k]? = some o) (h : qe P l.toArray (fun s => qto P l.toArray s o fun s => qe P l.toArray (Q .normal) (l.drop (k + 1)) s) (l.take k) s) : awp P (.region id l.toArray false) Q s := by
 refine qdh ?_
 have h1 : l = l.take k ++ o :: l.drop (k + 1) := by
  have hk := (List.getElem?_eq_some_iff.1 ho)
  obtain ⟨hk, he⟩ := hk
  rw [<- he, <- List.drop_eq_getElem_cons hk, List.take_append_drop]
 have h2 : aseq P l.toArray (Q .normal) (l.take k ++ o :: l.drop (k + 1)) s := qic (fun s' hs => qtp (fun s'' h => qee h) hs) h
 rw [<- h1] at h2; exact h2
theorem qrs {id : Nat} {o0 o1 o2 o3 : Oper} {args : Array Operand} {tys : Array TypeId} {Q : Exit -> AS -> Prop} (_hop : o2.op = .call { callee := .builtin .append, args := args, argTypes := tys })
  (h : qe P #[o0, o1, o2, o3] (fun s => qto P #[o0, o1, o2, o3] s o2 fun s => qe P #[o0, o1, o2, o3] (Q .normal) [o3] s) [o0, o1] s) : awp P (.region id #[o0, o1, o2, o3] false) Q s :=
 qvf (l := [o0, o1, o2, o3]) 2 rfl h
attribute [simp] qto
end Go.Proofs.YtkedbjjfmejbhaaGreatDoor
