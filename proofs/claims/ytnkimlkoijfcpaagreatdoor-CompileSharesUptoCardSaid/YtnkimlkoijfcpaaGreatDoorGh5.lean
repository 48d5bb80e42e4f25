/- Layer 25 on plain data: Trim and Compact change nothing when they are done again. -/
import Derived.Test.YtnkimlkoijfcpaaGreatDoorRows
import Derived.Maps.AppendAt
import Derived.Maps.Own
import Derived.Lib.SlKeysI
import Derived.Shelf.SlIterI.Nil
import Derived.Shelf.SortM.Plain
import Derived.Shelf.SortM.SortNone
import Derived.Ground.GgzProg
import Derived.Ground.SlgmProg
import Derived.Test.YtnkimlkoijfcpaaGreatDoorProg
import Derived.Test.YtnkimlkoijfcpaaGreatDoorGh1
import Derived.Test.YtnkimlkoijfcpaaGreatDoorGh2
import Derived.Test.YtnkimlkoijfcpaaGreatDoorGh3
import Derived.Test.YtnkimlkoijfcpaaGreatDoorGh4
set_option linter.unusedSimpArgs false
set_option linter.unusedVariables false
namespace Go.Proofs.YtnkimlkoijfcpaaGreatDoor
open Go.RowKit Go.Lib
theorem srcOf_map (ds : List Nd) (i : Nat) : srcOf ds i = (ds.map Nd.src).getD i [] := by
  unfold srcOf
  rw [List.getD_eq_getElem?_getD, List.getD_eq_getElem?_getD, List.getElem?_map]
  cases ds[i]? <;> rfl
theorem needI_congr {ds es : List Nd} (h : ds.map Nd.src = es.map Nd.src) : ∀ (i : Nat) (need : List Bool), needI ds i need = needI es i need
  | 0, _ => rfl
  | i + 1, need => by
    rw [needI, needI]
    have h2 := srcOf_map ds i
    rw [h, ← srcOf_map es i] at h2
    unfold srcOf at h2
    rw [h2, needI_congr h i]
theorem needP_congr {ds es : List Nd} (h : ds.map Nd.src = es.map Nd.src) (r : Nat) : needP ds r = needP es r := by
  have hl : ds.length = es.length := by have := congrArg List.length h; simpa using this
  unfold needP
  rw [needI_congr h, hl]
theorem endI_congr : ∀ (l m : List Nd) (i : Nat) (e : List Nat), l.map Nd.src = m.map Nd.src → endI l i e = endI m i e
  | [], [], _, _, _ => rfl
  | [], _ :: _, _, _, h => by simp at h
  | _ :: _, [], _, _, h => by simp at h
  | a :: l, b :: m, i, e, h => by
    simp only [List.map_cons, List.cons.injEq] at h
    rw [endI, endI, h.1, endI_congr l m _ _ h.2]
theorem endP_congr {ds es : List Nd} (h : ds.map Nd.src = es.map Nd.src) (r : Nat) : endP ds r = endP es r := by
  have hl : ds.length = es.length := by have := congrArg List.length h; simpa using this
  unfold endP
  rw [endI_congr _ _ _ _ h, hl]
theorem compI_congr (e : List Nat) (ct ct2 : List Int) : ∀ (l m : List Nd) (i : Nat) (s : CompS), l.map (keyN ct) = m.map (keyN ct2) → compI e ct l i s = compI e ct2 m i s
  | [], [], _, _, _ => rfl
  | [], _ :: _, _, _, h => by simp at h
  | _ :: _, [], _, _, h => by simp at h
  | a :: l, b :: m, i, s, h => by
    simp only [List.map_cons, List.cons.injEq] at h
    obtain ⟨h1, h2⟩ := h
    unfold keyN at h1
    simp only [Prod.mk.injEq] at h1
    obtain ⟨e1, e2, e3, e4, e5⟩ := h1
    rw [compI, compI]
    try dsimp only
    rw [e1, e5]
    unfold newI
    rw [e2, e3, e4]
    exact compI_congr e ct ct2 l m _ _ h2
theorem key_src {ct ct2 : List Int} {l m : List Nd} (h : l.map (keyN ct) = m.map (keyN ct2)) : l.map Nd.src = m.map Nd.src := by
  have := congrArg (List.map Prod.fst) h
  rw [List.map_map, List.map_map] at this
  exact this
theorem needI_why (ds : List Nd) : ∀ (i : Nat) (need : List Bool), i ≤ ds.length → need.length = ds.length → Early ds → ∀ j, (needI ds i need).getD j false = true → need.getD j false = true ∨ ∃ k, k < i ∧ (needI ds i need).getD k false = true ∧ j ∈ srcOf ds k
  | 0, _, _, _, _, j, h => .inl h
  | i + 1, need, hi, hl, he, j, h => by
    rw [needI] at h ⊢
    have hl2 : (if need.getD i false then qby need (srcOf ds i) else need).length = ds.length := by split <;> simp [qca, hl]
    change (needI ds i (if need.getD i false then qby need (srcOf ds i) else need)).getD j false = true at h
    change _ ∨ ∃ k, k < i + 1 ∧ (needI ds i (if need.getD i false then qby need (srcOf ds i) else need)).getD k false = true ∧ j ∈ srcOf ds k
    rcases needI_why ds i _ (by omega) hl2 he j h with h1 | ⟨k, h1, h2, h3⟩
    · by_cases hn : need.getD i false = true
      · rw [if_pos hn] at h1 ⊢
        by_cases hj : j < need.length
        · rcases (qeh _ _ _ hj).1 h1 with h1 | h1
          · exact .inl h1
          · refine .inr ⟨i, by omega, ?_, h1⟩
            refine (needI_ge he i _ (by omega) (by rw [qca]; exact hl) i).2 ?_
            exact (qeh _ _ _ (by omega)).2 (.inl hn)
        · rw [List.getD_eq_getElem?_getD, List.getElem?_eq_none (by rw [qca]; omega)] at h1; cases h1
      · rw [if_neg hn] at h1; exact .inl h1
    · exact .inr ⟨k, by omega, h2, h3⟩
theorem needP_why {ds : List Nd} (he : Early ds) {root j : Nat} (hr : root < ds.length) (h : (needP ds root).getD j false = true) : j = root ∨ ∃ k, k < ds.length ∧ (needP ds root).getD k false = true ∧ j ∈ srcOf ds k := by
  rcases needI_why ds ds.length _ (Nat.le_refl _) (by simp) he j h with h1 | h1
  · rw [qx] at h1
    split at h1
    · rename_i h2; exact .inl h2.1.symm
    · exact (no_done h1).elim
  · exact .inr h1
def trimN (need : List Bool) : List Nd → Nat → List Nd
  | [], _ => []
  | d :: l, i => if need.getD i false then ⟨d.x, d.src.map (rank need)⟩ :: trimN need l (i + 1) else trimN need l (i + 1)
theorem trim_nodes {cols types : List Int} (need : List Bool) : ∀ (l : List Ins) (i : Nat) (done : List Bool) (last last' : List Nat), AllOk cols types l done → last.length = types.length → last'.length = types.length → done.length = types.length →
    (∀ k, k < l.length → need.getD (i + k) false = true → ∀ s ∈ srcOf (nodes l i last) k, need.getD s false = true) →
    (∀ r : Nat, done.getD r false = true → need.getD (last.getD r 0) false = true → last'.getD r 0 = rank need (last.getD r 0)) →
    nodes (trimI need l i) (rank need i) last' = trimN need (nodes l i last) i ∧
    ∀ r : Nat, (doneL l done).getD r false = true → need.getD ((lastL l i last).getD r 0) false = true → (lastL (trimI need l i) (rank need i) last').getD r 0 = rank need ((lastL l i last).getD r 0)
  | [], i, done, last, last', _, _, _, _, _, h => ⟨rfl, h⟩
  | x :: l, i, done, last, last', ha, hl, hl', hd, hcl, h => by
    have hx := ha.1
    have h0 := hx.to0
    have h1 := hx.to1
    have hcl' : ∀ k, k < l.length → need.getD (i + 1 + k) false = true → ∀ s ∈ srcOf (nodes l (i + 1) (last.set x.to.toNat i)) k, need.getD s false = true := fun k hk hn s hs => by
      refine hcl (k + 1) (by simpa using hk) (by rw [show i + (k + 1) = i + 1 + k by omega]; exact hn) s ?_
      rw [nodes]
      unfold srcOf at hs ⊢
      rwa [List.getD_cons_succ]
    by_cases hn : need.getD i false = true
    · have hr1 : rank need (i + 1) = rank need i + 1 := by rw [rank, if_pos hn]
      have hsrc : ∀ r ∈ opsP x, need.getD (last.getD r.toNat 0) false = true := fun r hr => hcl 0 (by simp) hn _ (by
        rw [nodes]
        unfold srcOf
        rw [List.getD_cons_zero]
        exact List.mem_map_of_mem hr)
      obtain ⟨g1, g2⟩ := trim_nodes need l (i + 1) _ (last.set x.to.toNat i) (last'.set x.to.toNat (rank need i)) ha.2 (by rw [List.length_set]; exact hl) (by rw [List.length_set]; exact hl') (by rw [List.length_set]; exact hd) hcl' (fun r hr hnr => by
        rw [qx] at hr hnr ⊢
        rw [qx]
        by_cases he : x.to.toNat = r
        · rw [if_pos ⟨he, by omega⟩, if_pos ⟨he, by omega⟩]
        · rw [if_neg (fun h => he h.1)] at hr hnr
          rw [if_neg (fun h => he h.1), if_neg (fun h => he h.1)]
          exact h r hr hnr)
      rw [hr1] at g1 g2
      rw [trimI, if_pos hn, nodes, nodes, trimN, if_pos hn, doneL, lastL, lastL]
      refine ⟨?_, g2⟩
      rw [g1]
      congr 2
      rw [List.map_map]
      exact List.map_congr_left fun r hr => h r.toNat (hx.args r hr).2.2 (hsrc r hr)
    · have hr1 : rank need (i + 1) = rank need i := by rw [rank, if_neg hn]; rfl
      obtain ⟨g1, g2⟩ := trim_nodes need l (i + 1) _ (last.set x.to.toNat i) last' ha.2 (by rw [List.length_set]; exact hl) hl' (by rw [List.length_set]; exact hd) hcl' (fun r hr hnr => by
        rw [qx] at hr hnr ⊢
        by_cases he : x.to.toNat = r
        · rw [if_pos ⟨he, by omega⟩] at hnr
          exact absurd hnr hn
        · rw [if_neg (fun h => he h.1)] at hr hnr ⊢
          exact h r hr hnr)
      rw [hr1] at g1 g2
      rw [trimI, if_neg hn, nodes, trimN, if_neg hn, doneL, lastL]
      exact ⟨g1, g2⟩
theorem trimN_len (need : List Bool) : ∀ (l : List Nd) (i : Nat), (trimN need l i).length + rank need i = rank need (i + l.length)
  | [], i => by simp [trimN]
  | d :: l, i => by
    have := trimN_len need l (i + 1)
    rw [trimN, List.length_cons]
    rw [show i + (l.length + 1) = i + 1 + l.length by omega, ← this, rank]
    split <;> simp <;> omega
theorem trimN_src (need : List Bool) : ∀ (l : List Nd) (i k : Nat), k < l.length → need.getD (i + k) false = true → srcOf (trimN need l i) (rank need (i + k) - rank need i) = (srcOf l k).map (rank need)
  | d :: l, i, 0, _, hn => by
    rw [Nat.add_zero] at hn ⊢
    rw [trimN, if_pos hn, Nat.sub_self]
    unfold srcOf
    rw [List.getD_cons_zero, List.getD_cons_zero]
  | d :: l, i, k + 1, hk, hn => by
    have ih := trimN_src need l (i + 1) k (by simpa using hk) (by rw [show i + 1 + k = i + (k + 1) by omega]; exact hn)
    rw [show i + 1 + k = i + (k + 1) by omega] at ih
    have hm := rank_mono need (show i + 1 ≤ i + (k + 1) by omega)
    rw [trimN]
    by_cases h : need.getD i false = true
    · have hr1 : rank need (i + 1) = rank need i + 1 := by rw [rank, if_pos h]
      rw [if_pos h, show rank need (i + (k + 1)) - rank need i = (rank need (i + (k + 1)) - rank need (i + 1)) + 1 by omega]
      unfold srcOf at ih ⊢
      rw [List.getD_cons_succ, List.getD_cons_succ]
      exact ih
    · have hr1 : rank need (i + 1) = rank need i := by rw [rank, if_neg h]; rfl
      rw [if_neg h, ← hr1]
      unfold srcOf at ih ⊢
      rw [List.getD_cons_succ]
      exact ih
theorem rank_onto (need : List Bool) : ∀ (n r : Nat), r < rank need n → ∃ j, j < n ∧ need.getD j false = true ∧ rank need j = r
  | 0, r, h => by simp [rank] at h
  | n + 1, r, h => by
    rw [rank] at h
    by_cases hr : r < rank need n
    · obtain ⟨j, h1, h2, h3⟩ := rank_onto need n r hr
      exact ⟨j, by omega, h2, h3⟩
    · split at h
      · rename_i hn
        exact ⟨n, by omega, hn, by omega⟩
      · omega
theorem trim_full {ds : List Nd} {root : Nat} (he : Early ds) (hr : root < ds.length) : ∀ r, r < (trimN (needP ds root) ds 0).length → (needP (trimN (needP ds root) ds 0) (rank (needP ds root) root)).getD r false = true := by
  have hlen := trimN_len (needP ds root) ds 0
  rw [rank, Nat.add_zero, Nat.zero_add] at hlen
  have hsrc : ∀ k, k < ds.length → (needP ds root).getD k false = true → srcOf (trimN (needP ds root) ds 0) (rank (needP ds root) k) = (srcOf ds k).map (rank (needP ds root)) := fun k hk hn => by
    have := trimN_src (needP ds root) ds 0 k hk (by rw [Nat.zero_add]; exact hn)
    rw [Nat.zero_add] at this
    exact this
  have he' : Early (trimN (needP ds root) ds 0) := fun i hi k hk => by
    rw [hlen] at hi
    obtain ⟨j, h1, h2, rfl⟩ := rank_onto _ _ _ hi
    rw [hsrc j h1 h2] at hk
    obtain ⟨m, hm, rfl⟩ := List.mem_map.1 hk
    exact rank_lt _ (he j h1 m hm) (qds he root h1 h2 m hm)
  have hroot : rank (needP ds root) root < (trimN (needP ds root) ds 0).length := by
    rw [hlen]; exact rank_lt _ hr (needP_root he hr)
  have key : ∀ m j, ds.length - j ≤ m → j < ds.length → (needP ds root).getD j false = true → (needP (trimN (needP ds root) ds 0) (rank (needP ds root) root)).getD (rank (needP ds root) j) false = true := fun m => by
    induction m with
    | zero => intro j h1 h2 _; omega
    | succ m ih =>
      intro j h1 h2 h3
      rcases needP_why he hr h3 with rfl | ⟨k, g1, g2, g3⟩
      · exact needP_root he' hroot
      · have hjk := he k g1 j g3
        refine qds he' _ ?_ (ih k (by omega) g1 g2) _ ?_
        · rw [hlen]; exact rank_lt _ g1 g2
        · rw [hsrc k g1 g2]; exact List.mem_map_of_mem g3
  intro r hrr
  rw [hlen] at hrr
  obtain ⟨j, h1, h2, rfl⟩ := rank_onto _ _ _ hrr
  exact key _ j (Nat.le_refl _) h1 h2
def Full (c : Cod) : Prop := ∀ r, r < c.ins.length → (needP (qy c) (rootC c)).getD r false = true
theorem trimI_full (need : List Bool) : ∀ (l : List Ins) (i : Nat), (∀ k, k < l.length → need.getD (i + k) false = true) → trimI need l i = l
  | [], _, _ => rfl
  | x :: l, i, h => by
    rw [trimI, if_pos (show need.getD i false = true from h 0 (by simp)), trimI_full need l (i + 1) fun k hk => by have := h (k + 1) (by simpa using hk); rwa [show i + 1 + k = i + (k + 1) by omega]]
theorem Full.trim {c : Cod} (h : Full c) : trimP c = c := by
  unfold trimP
  rw [trimI_full _ _ _ fun k hk => by rw [Nat.zero_add]; exact h k hk]
theorem trim_nodesC {c : Cod} {cols : List Int} (h : CodOk c cols) : qy (trimP c) = trimN (needP (qy c) (rootC c)) (qy c) 0 ∧ rootC (trimP c) = rank (needP (qy c) (rootC c)) (rootC c) ∧ rootC c < (qy c).length := by
  have he := h.early
  obtain ⟨hroot, -⟩ := h.val_res 0 []
  have hl : (qy c).length = c.ins.length := by unfold qy; exact qbs _ _ _
  have hneed := needP_root he (root := rootC c) (by rw [hl]; exact hroot)
  obtain ⟨g1, g2⟩ := trim_nodes (cols := cols) (needP (qy c) (rootC c)) c.ins 0 _ (List.replicate c.types.length 0) (List.replicate c.types.length 0) h.all (by simp) (by simp) (by simp)
    (fun k hk hn s hs => qds he _ (by rw [hl]; exact hk) (by rw [Nat.zero_add] at hn; exact hn) s hs) (fun r hr => (no_done hr).elim)
  refine ⟨g1, g2 c.out.toNat h.out2 hneed, by rw [hl]; exact hroot⟩
theorem CodOk.trim_full {c : Cod} {cols : List Int} (h : CodOk c cols) : Full (trimP c) := fun r hr => by
  obtain ⟨h1, h2, h3⟩ := trim_nodesC h
  rw [h1, h2]
  refine Proofs.YtnkimlkoijfcpaaGreatDoor.trim_full h.early h3 r ?_
  rw [← h1]
  unfold qy
  rw [qbs]
  exact hr
theorem comp_full {c : Cod} {cols : List Int} (h : CodOk c cols) : Full (compP c) := fun r hr => by
  obtain ⟨-, -, h3, h4, h5, -⟩ := comp_all_ok h 0 []
  rw [h4, needP_congr (key_src h5)]
  exact h.trim_full r (by rw [← h3]; exact hr)
theorem comp_comp {c : Cod} {cols : List Int} (h : CodOk c cols) : compP (compP c) = compP c := by
  obtain ⟨-, -, h3, h4, h5, -⟩ := comp_all_ok h 0 []
  have ht := (comp_full h).trim
  have hS : compS (compP c) = compS (trimP c) := by
    unfold compS
    rw [h4, h3, endP_congr (key_src h5)]
    exact compI_congr _ _ _ _ _ _ _ h5
  show (⟨(compS (trimP (compP c))).ins, (compS (trimP (compP c))).tys, ((compS (trimP (compP c))).place.getD (rootC (trimP (compP c))) 0 : Nat)⟩ : Cod) = compP c
  rw [ht, hS, h4]
  rfl
end Go.Proofs.YtnkimlkoijfcpaaGreatDoor

/- A closed fact: the size of an int. -/
namespace Go.Proofs.YtnkimlkoijfcpaaGreatDoor
open Go.RowKit Go.Lib
end Go.Proofs.YtnkimlkoijfcpaaGreatDoor

/- Sums of steps, on plain data. -/
namespace Go.Proofs.YtnkimlkoijfcpaaGreatDoor
open Go.RowKit Go.Lib
end Go.Proofs.YtnkimlkoijfcpaaGreatDoor

/- Pure: steps of typed expressions; what is evaluated. -/
namespace Go.Proofs.YtnkimlkoijfcpaaGreatDoor
open Go.RowKit Go.Lib
mutual
def wfS (m : Nat) : Ex → Bool
  | .mk op n _ l => (!decide (op = 21) || decide (l.length = 3)) && (!decide (op = 22) || (decide (0 ≤ n) && decide (n < m))) && wfSL m l
def wfSL (m : Nat) : List Ex → Bool
  | [] => true
  | e :: l => wfS m e && wfSL m l
end
theorem wfSL_all (m : Nat) : ∀ l, wfSL m l = l.all (wfS m)
  | [] => by rw [wfSL]; rfl
  | e :: l => by rw [wfSL, wfSL_all m l]; rfl
theorem tys_len {F : List Fn} {c p : List Int} : ∀ (l : List Ex) {ts : List Int}, tys F c p l = some ts → ts.length = l.length
  | [], ts, h => by rw [tys] at h; cases h; rfl
  | e :: l, ts, h => by
    rw [tys] at h
    cases he : ty F c p e with
    | none => rw [he] at h; cases h
    | some t =>
      rw [he] at h
      cases hl : tys F c p l with
      | none => rw [hl] at h; cases h
      | some us => rw [hl] at h; cases h; simp [tys_len l hl]
theorem tail_ifW {F : List Fn} {c p : List Int} {n r : Int} {s : ByteArray} {ts : List Int} (h : tailT F c p 21 n s ts = some r) : ts.length = 3 := by
  unfold tailT at h
  split at h
  · cases h
  · rw [if_neg (by decide)] at h
    split at h
    · unfold leafT at h; simp at h
    · unfold operT at h
      split at h
      · cases h
      · simp at h
        split at h
        · rfl
        · cases h
theorem tail_callW {F : List Fn} {c p : List Int} {n r : Int} {s : ByteArray} {ts : List Int} (h : tailT F c p 22 n s ts = some r) : 0 ≤ n ∧ n < F.length := by
  unfold tailT at h
  split at h
  · cases h
  · rw [if_pos rfl] at h
    unfold callT at h
    split at h
    · cases h
    · split at h
      · rename_i hf
        have := (List.getElem?_eq_some_iff.1 hf).1
        omega
      · cases h
theorem wfS_of_ty {F : List Fn} {c p : List Int} (e : Ex) : ∀ {t : Int}, ty F c p e = some t → wfS F.length e = true := by
  induction e using Ex.ind with
  | h op n s l ih =>
    intro t ht
    rw [ty] at ht
    cases hl : tys F c p l with
    | none => rw [hl] at ht; cases ht
    | some ts =>
      rw [hl] at ht
      dsimp only at ht
      rw [wfS, wfSL_all]
      simp only [Bool.and_eq_true, List.all_eq_true, Bool.or_eq_true, Bool.not_eq_true', decide_eq_false_iff_not, decide_eq_true_eq]
      refine ⟨⟨?_, ?_⟩, fun e he => ?_⟩
      · by_cases ho : op = 21
        · subst ho; right; rw [← tys_len l hl]; exact tail_ifW ht
        · left; exact ho
      · by_cases ho : op = 22
        · subst ho; right; exact tail_callW ht
        · left; exact ho
      · obtain ⟨u, hu⟩ := qet l hl e he
        exact ih e he hu
end Go.Proofs.YtnkimlkoijfcpaaGreatDoor

/- Layer 25 on plain data: one more instruction. -/
namespace Go.Proofs.YtnkimlkoijfcpaaGreatDoor
open Go.RowKit Go.Lib
theorem doneL_snoc : ∀ (l : List Ins) (x : Ins) (done : List Bool), doneL (l ++ [x]) done = (doneL l done).set x.to.toNat true
  | [], _, _ => rfl
  | y :: l, x, done => by rw [List.cons_append, doneL, doneL_snoc l]; rfl
theorem AllOk.at {cols types : List Int} : ∀ (l : List Ins) (k : Nat) (done : List Bool) (h : k < l.length), AllOk cols types l done → InsOk cols types (doneL (l.take k) done) l[k]
  | x :: l, 0, done, _, ha => ha.1
  | x :: l, k + 1, done, h, ha => by
    have := AllOk.at l k _ (by simpa using h) ha.2
    rw [List.take_succ_cons, doneL]
    exact this
theorem AllOk.take {cols types : List Int} : ∀ (l : List Ins) (k : Nat) (done : List Bool), AllOk cols types l done → AllOk cols types (l.take k) done
  | [], k, done, _ => by simp [AllOk]
  | x :: l, 0, done, _ => trivial
  | x :: l, k + 1, done, ha => ⟨ha.1, AllOk.take l k _ ha.2⟩
theorem nodes_snoc : ∀ (l : List Ins) (x : Ins) (i : Nat) (last : List Nat), nodes (l ++ [x]) i last = nodes l i last ++ [⟨x, (opsP x).map fun r => (lastL l i last).getD r.toNat 0⟩]
  | [], _, _, _ => rfl
  | y :: l, x, i, last => by rw [List.cons_append, nodes, nodes_snoc l]; rfl
theorem lastL_snoc : ∀ (l : List Ins) (x : Ins) (i : Nat) (last : List Nat), lastL (l ++ [x]) i last = (lastL l i last).set x.to.toNat (i + l.length)
  | [], _, _, _ => rfl
  | y :: l, x, i, last => by
    rw [List.cons_append, lastL, lastL_snoc l, List.length_cons]
    rw [show i + 1 + l.length = i + (l.length + 1) by omega]; rfl
theorem lastL_len : ∀ (l : List Ins) (i : Nat) (last : List Nat), (lastL l i last).length = last.length
  | [], _, _ => rfl
  | y :: l, i, last => by rw [lastL, lastL_len l, List.length_set]
end Go.Proofs.YtnkimlkoijfcpaaGreatDoor

/- Walks: the program's steps. -/
namespace Go.Proofs.YtnkimlkoijfcpaaGreatDoor
open Go.RowKit Go.Lib
end Go.Proofs.YtnkimlkoijfcpaaGreatDoor

/- Slices of trees that the call itself makes: appending an element whose memory is new. -/
namespace Go.Proofs.YtnkimlkoijfcpaaGreatDoor
open Go.RowKit Go.Lib
theorem grown_cell {W w' : World} {own : Option Nat} (hg : W.grownBy w' own) {p : Addr} {v : Value} (hc : W.cell? p = some v) (hne : some p.block ≠ own) : w'.cell? p = some v :=
  (World.cell?_of_block (hg.block p.block (World.block_lt_of_cell? W p hc) hne)).trans hc
def OwnE (w : World) (B : Nat) (e : TypeId) (size : Nat) (v : Value) (ds : List D) : Prop :=
  ∃ xs, w.ownsRow B e size v ds.length xs ∧ RdS w (fun b => B ≤ b ∧ b < w.heap.size ∧ some b ≠ v.ownBlock) ds xs
theorem OwnE.nil (w : World) (B : Nat) (e : TypeId) (size : Nat) : OwnE w B e size (.slice none 0 0) [] := ⟨[], World.ownsRow_nil _ _ _ _, by rw [RdS]⟩
theorem OwnE.ext {w w' : World} {B : Nat} {e : TypeId} {size : Nat} {v : Value} {ds : List D} (h : OwnE w B e size v ds) (he : Ext w w') : OwnE w' B e size v ds := by
  obtain ⟨xs, h1, h2⟩ := h
  exact ⟨xs, own_ext h1 he, RdS.keep (fun b hb _ => he.block b hb.2.1) (fun b hb => ⟨hb.1, Nat.lt_of_lt_of_le hb.2.1 he.size, hb.2.2⟩) ds xs h2⟩
theorem OwnE.set {w : World} {B : Nat} {e : TypeId} {size : Nat} {v : Value} {ds : List D} (h : OwnE w B e size v ds) {p : Addr} (hp : p.block < B) (u : Value) : OwnE (w.setCell p u) B e size v ds := by
  obtain ⟨xs, h1, h2⟩ := h
  have hb : ∀ b, B ≤ b → (w.setCell p u).heap[b]? = w.heap[b]? := fun b hb => by
    exact Below.heap_setCell w p u b (by omega)
  have hs : (w.setCell p u).heap.size = w.heap.size := by simp
  refine ⟨xs, ⟨h1.1, ?_⟩, RdS.keep (fun b hx _ => hb b hx.1) (fun b hx => by rw [hs]; exact hx) ds xs h2⟩
  rcases h1.2 with h3 | ⟨g, cap, cur, hv, hg, hh, r⟩
  · exact Or.inl h3
  · exact Or.inr ⟨g, cap, cur, hv, hg, (hb g hg).trans hh, r⟩
theorem OwnE.rd {w : World} {B : Nat} {e : TypeId} {size : Nat} {v : Value} {ds : List D} (h : OwnE w B e size v ds) : Rd w (fun b => B ≤ b ∧ b < w.heap.size) (.sl ds) [v] := by
  obtain ⟨xs, h1, h2⟩ := h
  exact own_rd h1 h2 (fun b hb => ⟨hb.1, hb.2.1⟩) (fun b hb => by have := h1.lt b hb; exact this)
theorem OwnE.own {w : World} {B : Nat} {e : TypeId} {size : Nat} {v : Value} {ds : List D} (h : OwnE w B e size v ds) : ∀ b, v.ownBlock = some b → B ≤ b ∧ b < w.heap.size := by
  obtain ⟨xs, h1, h2⟩ := h
  exact fun b hb => h1.lt b hb
theorem OwnE.ne {w : World} {B : Nat} {e : TypeId} {size : Nat} {v : Value} {ds : List D} (h : OwnE w B e size v ds) {b : Nat} (hb : b < B) : some b ≠ v.ownBlock := fun hx => by
  have := h.own b hx.symm; omega
theorem OwnE.form {w : World} {B : Nat} {e : TypeId} {size : Nat} {v : Value} {ds : List D} (h : OwnE w B e size v ds) {n : Nat} (hn : ds.length = n) : ∃ A cap, v = .slice A n cap ∧ n ≤ cap ∧ cap ≤ 9223372036854775807 := by
  subst hn
  obtain ⟨A, cap, b, off, h1, h2, h3, -⟩ := Rd.sl_open h.rd
  exact ⟨A, cap, h1, h2, h3⟩
end Go.Proofs.YtnkimlkoijfcpaaGreatDoor

/- Walks: Same, of the reference. -/
namespace Go.Proofs.YtnkimlkoijfcpaaGreatDoor
open Go.RowKit Go.Lib
set_option maxRecDepth 10000 in
set_option maxHeartbeats 4000000 in
theorem rsame_any (a : Ex) : ∀ (e : Ex) (S S1 : Nat → Prop) (cs cs1 : List Value) (w : World), Rd w S a.d cs → Rd w S1 e.d cs1 → parts a ≤ 1000000 →
    Calls Tryz.prog 11 #[.agg cs.toArray, .agg cs1.toArray] w fun r w' => r = .returned (.bool (sameB a e)) ∧ Ext w w' := by
  induction a using Ex.ind with | h o n s l ih => ?_
  intro e S S1 cs cs1 w hr hr1 hpb
  obtain ⟨o2, n2, s2, l2⟩ := e
  obtain ⟨A, cap, b, off, rfl, hl1, hl2, hl3, hm⟩ := Ex.open hr
  obtain ⟨B, cap1, b1, off1, rfl, k1, k2, k3, km⟩ := Ex.open hr1
  have ih' := Lib.hid ih
  clear ih
  simp only [Ex.args, Ex.op, Ex.n, Ex.s] at hl1 hl2 hl3 hm k1 k2 k3 km ⊢
  have hll : l.length ≤ 1000000 := by rw [parts] at hpb; have := qbh l; omega
  have hl3' := Lib.hid hl3; have hm' := Lib.hid hm; have k3' := Lib.hid k3; have km' := Lib.hid km
  clear hr hr1 hl3 hm k3 km
  by_cases ho : o = o2
  · subst ho
    by_cases hn : n = n2
    · subst hn
      by_cases hs : s.toList = s2.toList
      · have hsb : (s.toList == s2.toList) = true := by simp [hs]
        by_cases hlen : l.length = l2.length
        · have H := Lib.hid (show sameB (.mk o n s l) (.mk o n s2 l2) = qbo l l2 by rw [sameB]; simp [hs])
          have hlen' := Lib.hid hlen
          have hs' := Lib.hid hs
          have hbnd : l2.length ≤ 1000000 := by omega
          have hlb : ((l.length : Int) != (l2.length : Int)) = false := by simp [hlen]
          clear hs
          go_enter Tryz.func11, Tryz.ntmps11
          go_wp2_with fail
          generalize hWe : World.alloc (World.alloc w _) _ = W
          have e3 : W.cell? ⟨w.heap.size, 3, none⟩ = some (.slice A l.length cap) := by rw [← hWe]; clear hWe; go_simp
          have d3 : W.cell? ⟨w.heap.size + 1, 3, none⟩ = some (.slice B l2.length cap1) := by rw [← hWe]; clear hWe; go_simp
          have hwW : Ext w W := by rw [← hWe]; exact (by repeat' first | exact Ext.refl _ | assumption | apply Ext.alloc | apply Ext.drew | apply Ext.drewN | (refine Ext.trans ?_ (by assumption)))
          clear hWe hlb hlen
          go_loopw [5] (fun i wr => ∃ (k : Nat), k ≤ l.length ∧ i = .int .i64 k ∧ Hid (∀ (j : Nat) (h : j < l.length) (h2 : j < l2.length), j < k → sameB l[j] l2[j] = true) ∧ Ext W wr) (fun i _ => l.length - (RowKit.intOf i).toNat)
          case atStart => exact ⟨0, by omega, rfl, Lib.hid (fun j _ _ h => by omega), Ext.refl _⟩
          case round =>
            obtain ⟨k, hk, rfl, HH, hb⟩ := hrel
            replace e3 := hb.at e3
            replace d3 := hb.at d3
            have hw : Ext w wr := hwW.trans hb
            by_cases hk2 : k < l.length
            · have hk3 : k < l2.length := by have := hlen'.out; omega
              obtain ⟨rfl, hSb⟩ := hl3'.out (by omega)
              obtain ⟨rfl, hSb1⟩ := k3'.out (by omega)
              obtain ⟨A1, cp1, bb1, of1, c0, c1, c2, c3, hr', -⟩ := Ex.at (hm'.out.ext (fun _ => hSb) hw) hk2
              obtain ⟨A2, cp2, bb2, of2, q0, q1, q2, q3, hr2', -⟩ := Ex.at (km'.out.ext (fun _ => hSb1) hw) hk3
              have hpk : parts l[k] ≤ 1000000 := by rw [parts] at hpb; have := qbe l l[k] (List.getElem_mem hk2); omega
              have hcall := fun (w' : World) (h1 : Rd w' S l[k].d [.int .i64 l[k].op, .int .i64 l[k].n, .string l[k].s, .slice A1 l[k].args.length cp1]) (h2 : Rd w' S1 l2[k].d [.int .i64 l2[k].op, .int .i64 l2[k].n, .string l2[k].s, .slice A2 l2[k].args.length cp2]) => ih'.out l[k] (List.getElem_mem hk2) l2[k] S S1 _ _ w' h1 h2 hpk
              have hcall' := Lib.hid (fun (w' : World) (he : Ext wr w') => hcall w' (hr'.ext he) (hr2'.ext he))
              have hki : (k : Int) < (l.length : Int) := by omega
              have hki2 : (k : Int) < (l2.length : Int) := by omega
              clear hr' hr2' hSb hSb1 hcall
              cases hsk : sameB l[k] l2[k] with
              | false =>
                have H2 := Lib.hid (H.out.trans (sameBs_at l l2 k hk2 hk3 hsk))
                rw [hsk] at hcall'
                clear hsk H
                go_wp2_with fail
                have ge3 := ExtW.at e3
                have gd3 := ExtW.at d3
                have gc0 := ExtW.at c0
                have gc1 := ExtW.at c1
                have gc2 := ExtW.at c2
                have gc3 := ExtW.at c3
                have gq0 := ExtW.at q0
                have gq1 := ExtW.at q1
                have gq2 := ExtW.at q2
                have gq3 := ExtW.at q3
                refine wp_region_ext (by kernel_rfl) (by kernel_rfl) ?_
                repeat (go_big_quiet_step (((go_at_call 11; exact Calls.ext_of (hcall'.out _ (ExtW.ext _))))))
                refine wpQuiet_nil ?_
                intro w2 he
                go_wp2_with fail
                go_ret
                exact ⟨ret_bool (by rw [H2.out]), hw.trans he⟩
              | true =>
                have HH2 := Lib.hid (show ∀ (j : Nat) (h : j < l.length) (h2 : j < l2.length), j < k + 1 → sameB l[j] l2[j] = true from fun j h h2 hj => by
                  by_cases hjk : j < k
                  · exact HH.out j h h2 hjk
                  · obtain rfl : j = k := by omega
                    exact hsk)
                rw [hsk] at hcall'
                clear hsk
                go_wp2_with fail
                have ge3 := ExtW.at e3
                have gd3 := ExtW.at d3
                have gc0 := ExtW.at c0
                have gc1 := ExtW.at c1
                have gc2 := ExtW.at c2
                have gc3 := ExtW.at c3
                have gq0 := ExtW.at q0
                have gq1 := ExtW.at q1
                have gq2 := ExtW.at q2
                have gq3 := ExtW.at q3
                refine wp_region_ext (by kernel_rfl) (by kernel_rfl) ?_
                repeat (go_big_quiet_step (((go_at_call 11; exact Calls.ext_of (hcall'.out _ (ExtW.ext _))))))
                refine wpQuiet_nil ?_
                intro w2 he
                go_wp2_with fail
                go_roundw
                case rel => exact ⟨k + 1, by omega, by go_num, HH2, hb.trans he⟩
                case measure => simp [RowKit.intOf]; omega
            · have hkl : k = l.length := by omega
              subst hkl
              have H2 := Lib.hid (H.out.trans (sameBs_all l l2 hlen'.out (fun k h h2 => HH.out k h h2 h)))
              clear H
              go_wp2_with fail
              go_ret
              exact ⟨ret_bool (by rw [H2.out]), hw⟩
        · have H := Lib.hid (show sameB (.mk o n s l) (.mk o n s2 l2) = false by rw [sameB, sameBs_len l l2 hlen]; simp)
          have hlb : ((l.length : Int) != (l2.length : Int)) = true := by simp; omega
          have hlb2 : ¬ (l.length : Int) = (l2.length : Int) := by omega
          clear hlen hs
          go_enter Tryz.func11, Tryz.ntmps11
          go_wp2_with fail
          go_ret
          exact ⟨ret_bool (by rw [H.out]), (by repeat' first | exact Ext.refl _ | assumption | apply Ext.alloc | apply Ext.drew | apply Ext.drewN | (refine Ext.trans ?_ (by assumption)))⟩
      · have hsb : (s.toList == s2.toList) = false := by simp [hs]
        have H := Lib.hid (show sameB (.mk o n s l) (.mk o n s2 l2) = false by rw [sameB]; simp [hs])
        clear hs
        go_enter Tryz.func11, Tryz.ntmps11
        go_wp2_with fail
        go_ret
        exact ⟨ret_bool (by rw [H.out]), (by repeat' first | exact Ext.refl _ | assumption | apply Ext.alloc | apply Ext.drew | apply Ext.drewN | (refine Ext.trans ?_ (by assumption)))⟩
    · have H := Lib.hid (show sameB (.mk o n s l) (.mk o n2 s2 l2) = false by rw [sameB]; simp [hn])
      have hb2 : (n != n2) = true := by simp [hn]
      go_enter Tryz.func11, Tryz.ntmps11
      go_wp2_with fail
      go_ret
      exact ⟨ret_bool (by rw [H.out]), (by repeat' first | exact Ext.refl _ | assumption | apply Ext.alloc | apply Ext.drew | apply Ext.drewN | (refine Ext.trans ?_ (by assumption)))⟩
  · have H := Lib.hid (show sameB (.mk o n s l) (.mk o2 n2 s2 l2) = false by rw [sameB]; simp [ho])
    have hb2 : (o != o2) = true := by simp [ho]
    go_enter Tryz.func11, Tryz.ntmps11
    go_wp2_with fail
    go_ret
    exact ⟨ret_bool (by rw [H.out]), (by repeat' first | exact Ext.refl _ | assumption | apply Ext.alloc | apply Ext.drew | apply Ext.drewN | (refine Ext.trans ?_ (by assumption)))⟩
end Go.Proofs.YtnkimlkoijfcpaaGreatDoor

/- Walks: whether an expression reads the time, of the reference. -/
namespace Go.Proofs.YtnkimlkoijfcpaaGreatDoor
open Go.RowKit Go.Lib
end Go.Proofs.YtnkimlkoijfcpaaGreatDoor

/- Walk: expr.walk calls a function for each part, the expression first. -/
namespace Go.Proofs.YtnkimlkoijfcpaaGreatDoor
open Go.RowKit Go.Lib
mutual
def pre : Ex → List Ex
  | .mk o n s l => .mk o n s l :: preL l
def preL : List Ex → List Ex
  | [] => []
  | e :: l => pre e ++ preL l
end
theorem preL_snoc : ∀ (l : List Ex) (e : Ex), preL (l ++ [e]) = preL l ++ pre e
  | [], e => by rw [List.nil_append, preL, preL, preL]; simp
  | x :: l, e => by rw [List.cons_append, preL, preL, preL_snoc l e]; simp
theorem qdq {w w' : World} (h : Ext w w') (row : Option Nat) : w.grownBy w' row := ⟨h.os, h.tape, h.output, h.size, fun k hk _ => h.block k hk⟩
theorem keeps_of_grown {w w' : World} {m : Nat} {S : Nat → Prop} (h : w.grownBy w' (some m)) (hS : ∀ b, S b → b ≠ m) : Keeps S w w' := fun b hb hlt => h.block b hlt (fun e => hS b hb (by simpa using e))
theorem gcell {w w' : World} {m : Nat} (h : w.grownBy w' (some m)) {p : Addr} {v : Value} (hc : w.cell? p = some v) (hne : p.block ≠ m) : w'.cell? p = some v := grown_cell h hc (fun e => hne (by simpa using e))
end Go.Proofs.YtnkimlkoijfcpaaGreatDoor

/- Walk: the function that notes a part's column in a map (expr.Reads). -/
namespace Go.Proofs.YtnkimlkoijfcpaaGreatDoor
open Go.RowKit Go.Lib Go.Maps
theorem keyed_int : Keyed Tryz.prog 3 := int_keyed Tryz.underlying3
def RInv (m pb : Nat) (L : List Ex) (w : World) : Prop :=
  (∃ D : DataW Unit, w.ownsMap Tryz.prog 3 (plainElem Tryz.prog 4) m L.length D ∧ ∀ x : Int, has D (.int .i64 x) = true ↔ ∃ y ∈ L, y.op = 3 ∧ y.n = x) ∧ w.cell? ⟨pb, 0, none⟩ = some (.map (some m))
mutual
theorem pre_len : ∀ e : Ex, (pre e).length = parts e
  | .mk o n s l => by rw [pre, parts, List.length_cons, preL_len l]
theorem preL_len : ∀ l : List Ex, (preL l).length = qv l
  | [] => by rw [preL, qv]; rfl
  | e :: l => by rw [preL, qv, List.length_append, pre_len e, preL_len l]
end
def StepsB (B : Nat) (fid : FuncId) (caps : Array Value) (m : Nat) (S : Nat → Prop) (Inv : List Ex → World → Prop) (ok : Ex → Prop) : Prop :=
  ∀ (L : List Ex) (x : Ex) (cs : List Value) (w : World), L.length < B → ok x → Inv L w → Rd w S x.d cs → m < w.heap.size →
    Calls Tryz.prog fid (#[.agg cs.toArray] ++ caps) w fun r w' => (∃ v, r = .returned v) ∧ Inv (L ++ [x]) w' ∧ w.grownBy w' (some m)
set_option maxRecDepth 10000 in
set_option maxHeartbeats 2000000 in
theorem walk_readsB (B : Nat) (caps : Array Value) (m : Nat) (S : Nat → Prop) (hS : ∀ b, S b → b ≠ m) (Inv : List Ex → World → Prop) (ok : Ex → Prop) (hok : ∀ o n s l, ok (.mk o n s l) → ∀ x ∈ l, ok x) (hstep : StepsB B 46 caps m S Inv ok) (hal : ∀ L w o, Inv L w → Inv L (w.alloc o)) (e : Ex) :
    ∀ (L : List Ex) (cs : List Value) (w : World), L.length + parts e ≤ B → ok e → Inv L w → Rd w S e.d cs → m < w.heap.size →
    Calls Tryz.prog 45 #[.agg cs.toArray, .func (.func 46) #[] caps] w fun r w' => (∃ v, r = .returned v) ∧ Inv (L ++ pre e) w' ∧ w.grownBy w' (some m) := by
  induction e using Ex.ind with | h o n s l ih => ?_
  intro L cs w hBL hoke hI hr hm0
  rw [parts] at hBL
  have hr0 := hr
  obtain ⟨A, cap, b, off, rfl, hl1, hl2, hl3, hm⟩ := Ex.open hr
  have ih' := Lib.hid ih
  clear ih
  simp only [Ex.args, Ex.op, Ex.n, Ex.s] at hl1 hl2 hl3 hm hr0 ⊢
  have hl3' := Lib.hid hl3; have hm' := Lib.hid hm; have hst' := Lib.hid hstep; have hok' := Lib.hid hok; have hoke' := Lib.hid hoke; have hal' := Lib.hid hal; have hI' := Lib.hid hI; have hr' := Lib.hid hr0; have hS' := Lib.hid hS
  clear hr hr0 hl3 hm hstep hok hoke hal hI hS
  go_enter Tryz.func45, Tryz.ntmps45
  go_wp2_with fail
  generalize hWe : World.alloc w _ = W
  have e0 : W.cell? ⟨w.heap.size, 0, none⟩ = some (.int .i64 o) := by rw [← hWe]; clear hWe; go_simp
  have e1 : W.cell? ⟨w.heap.size, 1, none⟩ = some (.int .i64 n) := by rw [← hWe]; clear hWe; go_simp
  have e2 : W.cell? ⟨w.heap.size, 2, none⟩ = some (.string s) := by rw [← hWe]; clear hWe; go_simp
  have e3 : W.cell? ⟨w.heap.size, 3, none⟩ = some (.slice A l.length cap) := by rw [← hWe]; clear hWe; go_simp
  have hI1 : Inv L W := by rw [← hWe]; exact hal'.out _ _ _ hI'.out
  have hwW : Ext w W := by rw [← hWe]; exact (by repeat' first | exact Ext.refl _ | assumption | apply Ext.alloc | apply Ext.drew | apply Ext.drewN | (refine Ext.trans ?_ (by assumption)))
  clear hWe
  refine (hst'.out L (.mk o n s l) _ W (by omega) hoke'.out hI1 (hr'.out.ext hwW) (Nat.lt_of_lt_of_le hm0 hwW.size)).mono ?_
  rintro r w1 ⟨⟨v, rfl⟩, hI2, hg⟩
  have f3 : w1.cell? ⟨w.heap.size, 3, none⟩ = some (.slice A l.length cap) := gcell hg e3 (by dsimp only; omega)
  have hg1 : w.grownBy w1 (some m) := (qdq hwW _).trans hg
  have hI3 := Lib.hid hI2
  clear e0 e1 e2 e3 hI1 hI2 hg hwW
  go_wp2_with fail
  go_loopw [12] (fun i wr => ∃ (k : Nat), k ≤ l.length ∧ i = .int .i64 k ∧ Inv (L ++ .mk o n s l :: preL (l.take k)) wr ∧ w.grownBy wr (some m)) (fun i _ => l.length - (Go.RowKit.intOf i).toNat)
  case atStart => exact ⟨0, by omega, rfl, by rw [List.take_zero, preL]; exact hI3.out, hg1⟩
  case round =>
    obtain ⟨k, hk, rfl, hIk, hgk⟩ := hrel
    have hIk' := Lib.hid hIk
    clear hIk
    by_cases hk2 : k < l.length
    · obtain ⟨rfl, hSb⟩ := hl3'.out (by omega)
      have hmk := RdM.keep (keeps_of_grown hgk hS'.out) (fun _ h => h) _ _ _ hSb hm'.out
      obtain ⟨A1, cap1, b1, off1, c0, c1, c2, c3, hr1, -⟩ := Ex.at hmk hk2
      have hr2 := Lib.hid hr1
      have hSb' := Lib.hid hSb
      clear hr1 hmk hSb
      go_wp2_with fail
      generalize hWe : World.alloc wr _ = W1
      have hw1 : Ext wr W1 := by rw [← hWe]; exact (by repeat' first | exact Ext.refl _ | assumption | apply Ext.alloc | apply Ext.drew | apply Ext.drewN | (refine Ext.trans ?_ (by assumption)))
      have hI4 : Inv (L ++ .mk o n s l :: preL (l.take k)) W1 := by rw [← hWe]; exact hal'.out _ _ _ hIk'.out
      clear hWe
      refine (ih'.out l[k] (List.getElem_mem hk2) (L ++ .mk o n s l :: preL (l.take k)) _ W1 (by rw [List.length_append, List.length_cons, preL_len]; have h1 := qcr l k hk2; have h2 := qbd l (k + 1); omega) (hok'.out _ _ _ _ hoke'.out _ (List.getElem_mem hk2)) hI4 (hr2.out.ext hw1) (Nat.lt_of_lt_of_le (Nat.lt_of_lt_of_le hm0 hgk.size) hw1.size)).mono ?_
      rintro r w2 ⟨⟨v2, rfl⟩, hI5, hg2⟩
      have hI6 := Lib.hid (show Inv (L ++ .mk o n s l :: preL (l.take (k + 1))) w2 by
        rw [List.take_succ_eq_append_getElem hk2, preL_snoc]
        simpa using hI5)
      have hg3 : w.grownBy w2 (some m) := (hgk.trans (qdq hw1 _)).trans hg2
      clear hI4 hI5 hg2 hw1
      go_wp2_with fail
      go_roundw
      case rel => exact ⟨k + 1, by omega, by go_num, hI6.out, hg3⟩
      case measure => simp [Go.RowKit.intOf]; omega
    · have hkl : k = l.length := by omega
      subst hkl
      go_wp2_with fail
      refine bodyPost_end (v := .tuple #[]) (by simp [results, Tryz.results45, go_sem]; done) rfl ⟨⟨_, rfl⟩, ?_, hgk⟩
      have := hIk'.out
      rw [List.take_length] at this
      rw [pre]
      exact this
def colsOk (e : Ex) : Prop := ∀ y ∈ pre e, y.op = 3 → (Lit.int .i64 y.n).wf = true
theorem preL_mem : ∀ (l : List Ex) (x : Ex), x ∈ l → ∀ y ∈ pre x, y ∈ preL l
  | [], x, h, y, _ => by cases h
  | e :: l, x, h, y, hy => by
    rw [preL, List.mem_append]
    rcases List.mem_cons.1 h with rfl | h
    · exact .inl hy
    · exact .inr (preL_mem l x h y hy)
theorem colsOk_args (o n : Int) (s : ByteArray) (l : List Ex) (h : colsOk (.mk o n s l)) : ∀ x ∈ l, colsOk x := fun x hx y hy => h y (by rw [pre]; exact List.mem_cons_of_mem _ (preL_mem l x hx y hy))
theorem RInv.alloc {m pb : Nat} {L : List Ex} {w : World} (h : RInv m pb L w) (o : Obj) : RInv m pb L (w.alloc o) := by
  obtain ⟨⟨D, h1, h2⟩, h3⟩ := h
  exact ⟨⟨D, h1.alloc o, h2⟩, ((Ext.refl w).alloc o).at h3⟩
theorem RInv.same {m pb : Nat} {L : List Ex} {x : Ex} {w : World} (h : RInv m pb L w) (hx : x.op ≠ 3) : RInv m pb (L ++ [x]) w := by
  obtain ⟨⟨D, h1, h2⟩, h3⟩ := h
  refine ⟨⟨D, h1.mono (by simp), fun z => ?_⟩, h3⟩
  rw [h2 z]
  constructor
  · rintro ⟨y, hy, h⟩
    exact ⟨y, by simp [hy], h⟩
  · rintro ⟨y, hy, h⟩
    rcases List.mem_append.1 hy with hy | hy
    · exact ⟨y, hy, h⟩
    · rw [List.mem_singleton] at hy
      subst hy
      exact absurd h.1 hx
theorem RInv.put {m pb : Nat} {L : List Ex} {x : Ex} {w' : World} {D : DataW Unit} (h2 : ∀ x : Int, has D (.int .i64 x) = true ↔ ∃ y ∈ L, y.op = 3 ∧ y.n = x) (hD : IsMap D) (hx : x.op = 3) (d : DataW Unit)
    (h1 : w'.ownsMap Tryz.prog 3 (plainElem Tryz.prog 4) m (L.length + 1) (D.put (.int .i64 x.n) d)) (h3 : w'.cell? ⟨pb, 0, none⟩ = some (.map (some m))) : RInv m pb (L ++ [x]) w' := by
  refine ⟨⟨_, by rw [List.length_append]; exact h1, fun z => ?_⟩, h3⟩
  by_cases hz : z = x.n
  · subst hz
    rw [has_put_same hD (by trivial)]
    exact ⟨fun _ => ⟨x, by simp, hx, rfl⟩, fun _ => rfl⟩
  · rw [has_put_other (by simpa using hz), h2 z]
    constructor
    · rintro ⟨y, hy, h⟩
      exact ⟨y, by simp [hy], h⟩
    · rintro ⟨y, hy, h⟩
      rcases List.mem_append.1 hy with hy | hy
      · exact ⟨y, hy, h⟩
      · rw [List.mem_singleton] at hy
        subst hy
        exact absurd h.2.symm hz
set_option maxRecDepth 100000 in
set_option maxHeartbeats 2000000 in
theorem read_part (S : Nat → Prop) (m pb : Nat) (hpb : pb ≠ m) : StepsB 1000000 46 #[.pointer (some ⟨pb, 0, none⟩)] m S (RInv m pb) colsOk := by
  intro L x cs w hB hok hI hr hm0
  obtain ⟨⟨D, hown, hD⟩, hp⟩ := hI
  obtain ⟨A, cap, b, off, rfl, hl1, hl2, hl3, hm⟩ := Ex.open hr
  obtain ⟨o, n, s, l⟩ := x
  simp only [Ex.args, Ex.op, Ex.n, Ex.s] at hl1 hl2 hl3 hm hr ⊢
  have gp : ∀ o1, (w.alloc o1).cell? _ = some _ := fun o1 => ((Ext.refl w).alloc o1).at hp
  by_cases ho : o = 3
  · subst ho
    have hwf : (Lit.int .i64 n).wf = true := hok (.mk 3 n s l) (by rw [pre]; simp) rfl
    have hkey : keyOf Tryz.prog 3 (.int .i64 n) = some (.int .i64 n) := keyOf_int_mk Tryz.underlying3 hwf
    have hown' := Lib.hid hown; have hp' := Lib.hid hp; have hD' := Lib.hid hD
    clear hr hm hl3 hok hD
    have hown2 : ∀ o1, (w.alloc o1).ownsMap Tryz.prog 3 (plainElem Tryz.prog 4) m L.length D := fun o1 => hown.alloc o1
    clear hown hp
    go_enter Tryz.func46, Tryz.ntmps46
    go_wp2_with (first
      | (at_mapUpdate; refine wpList_mapUpdate_own _ rfl _ _ _ 86 rfl 3 4 keyed_int Tryz.underlying86 _ m L.length _ rfl (hown2 _) (by unfold maxLen; omega) _ _ _ rfl rfl hkey _ [] (plainElem_bool Tryz.underlying4 true) ?_; intro w1 hown1 hgrow1)
      | go_in)
    refine bodyPost_end (v := .tuple #[]) (by simp [results, Tryz.results46, go_sem]; done) rfl ⟨⟨_, rfl⟩, ?_, ?_⟩
    · refine RInv.put (x := .mk 3 n s l) hD'.out ?_ rfl _ hown1 (gcell hgrow1 (((Ext.refl w).alloc _).at hp'.out) hpb)
      obtain ⟨es, h, -⟩ := hown'.out.keysOf
      exact ⟨es, h⟩
    · exact (qdq ((Ext.refl w).alloc _) _).trans hgrow1
  · have hI2 := Lib.hid (RInv.same (x := .mk o n s l) (show RInv m pb L w from ⟨⟨D, hown, hD⟩, hp⟩) ho)
    have hob : (o == 3) = false := by simp [ho]
    clear hr hm hl3 hok hown hD hp
    go_enter Tryz.func46, Tryz.ntmps46
    go_wp2_with fail
    refine bodyPost_end (v := .tuple #[]) (by simp [results, Tryz.results46, go_sem]; done) rfl ⟨⟨_, rfl⟩, hI2.out.alloc _, qdq ((Ext.refl w).alloc _) _⟩
end Go.Proofs.YtnkimlkoijfcpaaGreatDoor

/- The layings of maps.Keys, slices.Sorted and slices.Sort at ints. -/
namespace Go.Proofs
open Go.Shelf
def Tryz.keysA_ren : Go.Shelf.Ren := ⟨fun | 7 => 48 | 10 => 93 | n => n, fun | 23 => 86 | 26 => 3 | 3 => 4 | 28 => 91 | 0 => 0 | 27 => 90 | 33 => 132 | 4 => 4 | n => n, fun | n => n⟩
theorem Tryz.keysA : Go.Proofs.SlLaysZI.n7 Tryz.prog Tryz.keysA_ren := {
  mixed := by kernel_rfl
  f7 := ⟨Tryz.f48.name, by decide, Tryz.func48.trans (congrArg some (by kernel_rfl))⟩
  f10 := ⟨Tryz.f93.name, by decide, Tryz.func93.trans (congrArg some (by kernel_rfl))⟩
  t0 := Tryz.underlying0
  a0 := Tryz.isAgg0
  z0 := Tryz.sizeOf0
  v0 := Tryz.zeroValue0
  t4 := Tryz.underlying4
  a4 := Tryz.isAgg4
  z4 := Tryz.sizeOf4
  v4 := Tryz.zeroValue4
  t23 := Tryz.underlying86
  a23 := Tryz.isAgg86
  z23 := Tryz.sizeOf86
  v23 := Tryz.zeroValue86
  t26 := Tryz.underlying3
  a26 := Tryz.isAgg3
  z26 := Tryz.sizeOf3
  v26 := Tryz.zeroValue3
  t27 := Tryz.underlying90
  a27 := Tryz.isAgg90
  z27 := Tryz.sizeOf90
  v27 := Tryz.zeroValue90
  t28 := Tryz.underlying91
  a28 := Tryz.isAgg91
  z28 := Tryz.sizeOf91
  v28 := Tryz.zeroValue91
  t33 := Tryz.underlying132
  a33 := Tryz.isAgg132
  z33 := Tryz.sizeOf132
  v33 := Tryz.zeroValue132 }
def Tryz.sortedA_ren : Go.Shelf.Ren := ⟨fun | 6 => 47 | 8 => 92 | 9 => 59 | 11 => 142 | 13 => 116 | 12 => 115 | 23 => 156 | 24 => 157 | 14 => 147 | 15 => 148 | 16 => 149 | 17 => 150 | 18 => 151 | 19 => 152 | 20 => 153 | 21 => 154 | 22 => 155 | 25 => 181 | 26 => 182 | 27 => 183 | 28 => 184 | 29 => 185 | 30 => 186 | 31 => 198 | n => n, fun | 26 => 3 | 28 => 91 | 24 => 22 | 0 => 0 | 3 => 3 | 37 => 150 | 48 => 185 | 50 => 187 | 4 => 4 | 40 => 178 | 39 => 177 | 45 => 29 | 5 => 5 | 9 => 9 | 51 => 198 | 55 => 108 | 57 => 210 | 58 => 208 | 33 => 132 | n => n, fun | n => n⟩
theorem Tryz.sortedA : Go.Proofs.SlLaysZI.n6 Tryz.prog Tryz.sortedA_ren := {
  mixed := by kernel_rfl
  f6 := ⟨Tryz.f47.name, by decide, Tryz.func47.trans (congrArg some (by kernel_rfl))⟩
  f8 := ⟨Tryz.f92.name, by decide, Tryz.func92.trans (congrArg some (by kernel_rfl))⟩
  f11 := ⟨Tryz.f142.name, by decide, Tryz.func142.trans (congrArg some (by kernel_rfl))⟩
  t0 := Tryz.underlying0
  a0 := Tryz.isAgg0
  z0 := Tryz.sizeOf0
  v0 := Tryz.zeroValue0
  t24 := Tryz.underlying22
  a24 := Tryz.isAgg22
  z24 := Tryz.sizeOf22
  v24 := Tryz.zeroValue22
  t26 := Tryz.underlying3
  a26 := Tryz.isAgg3
  z26 := Tryz.sizeOf3
  v26 := Tryz.zeroValue3
  t28 := Tryz.underlying91
  a28 := Tryz.isAgg91
  z28 := Tryz.sizeOf91
  v28 := Tryz.zeroValue91
  i26 := by kernel_rfl }
def Tryz.sortA_ren : Go.Shelf.Ren := ⟨fun | 5 => 59 | 8 => 116 | 7 => 115 | 19 => 156 | 20 => 157 | 10 => 147 | 11 => 148 | 12 => 149 | 13 => 150 | 14 => 151 | 15 => 152 | 16 => 153 | 17 => 154 | 18 => 155 | 30 => 181 | 31 => 182 | 32 => 183 | 33 => 184 | 34 => 185 | 35 => 186 | 40 => 198 | n => n, fun | 23 => 22 | 25 => 3 | 3 => 3 | 32 => 150 | 22 => 22 | 0 => 0 | 44 => 185 | 46 => 187 | 4 => 4 | 36 => 178 | 35 => 177 | 41 => 29 | 5 => 5 | 9 => 9 | 53 => 198 | 57 => 108 | 63 => 210 | 64 => 208 | n => n, fun | n => n⟩
theorem Tryz.sortA : Go.Proofs.SlLaysM.n5 Tryz.prog Tryz.sortA_ren := {
  mixed := by kernel_rfl
  f5 := ⟨Tryz.f59.name, by decide, Tryz.func59.trans (congrArg some (by kernel_rfl))⟩
  f7 := ⟨Tryz.f115.name, by decide, Tryz.func115.trans (congrArg some (by kernel_rfl))⟩
  f8 := Tryz.func116.trans (congrArg some (by kernel_rfl))
  f10 := ⟨Tryz.f147.name, by decide, Tryz.func147.trans (congrArg some (by kernel_rfl))⟩
  f11 := ⟨Tryz.f148.name, by decide, Tryz.func148.trans (congrArg some (by kernel_rfl))⟩
  f12 := ⟨Tryz.f149.name, by decide, Tryz.func149.trans (congrArg some (by kernel_rfl))⟩
  f13 := ⟨Tryz.f150.name, by decide, Tryz.func150.trans (congrArg some (by kernel_rfl))⟩
  f14 := ⟨Tryz.f151.name, by decide, Tryz.func151.trans (congrArg some (by kernel_rfl))⟩
  f15 := ⟨Tryz.f152.name, by decide, Tryz.func152.trans (congrArg some (by kernel_rfl))⟩
  f16 := ⟨Tryz.f153.name, by decide, Tryz.func153.trans (congrArg some (by kernel_rfl))⟩
  f17 := ⟨Tryz.f154.name, by decide, Tryz.func154.trans (congrArg some (by kernel_rfl))⟩
  f18 := ⟨Tryz.f155.name, by decide, Tryz.func155.trans (congrArg some (by kernel_rfl))⟩
  f19 := Tryz.func156.trans (congrArg some (by kernel_rfl))
  f20 := Tryz.func157.trans (congrArg some (by kernel_rfl))
  f30 := ⟨Tryz.f181.name, by decide, Tryz.func181.trans (congrArg some (by kernel_rfl))⟩
  f31 := Tryz.func182.trans (congrArg some (by kernel_rfl))
  f32 := Tryz.func183.trans (congrArg some (by kernel_rfl))
  f33 := ⟨Tryz.f184.name, by decide, Tryz.func184.trans (congrArg some (by kernel_rfl))⟩
  f34 := ⟨Tryz.f185.name, by decide, Tryz.func185.trans (congrArg some (by kernel_rfl))⟩
  f35 := ⟨Tryz.f186.name, by decide, Tryz.func186.trans (congrArg some (by kernel_rfl))⟩
  f40 := ⟨Tryz.f198.name, by decide, Tryz.func198.trans (congrArg some (by kernel_rfl))⟩
  t0 := Tryz.underlying0
  a0 := Tryz.isAgg0
  z0 := Tryz.sizeOf0
  v0 := Tryz.zeroValue0
  t3 := Tryz.underlying3
  a3 := Tryz.isAgg3
  z3 := Tryz.sizeOf3
  v3 := Tryz.zeroValue3
  t4 := Tryz.underlying4
  a4 := Tryz.isAgg4
  z4 := Tryz.sizeOf4
  v4 := Tryz.zeroValue4
  t5 := Tryz.underlying5
  a5 := Tryz.isAgg5
  z5 := Tryz.sizeOf5
  v5 := Tryz.zeroValue5
  t9 := Tryz.underlying9
  a9 := Tryz.isAgg9
  z9 := Tryz.sizeOf9
  v9 := Tryz.zeroValue9
  t22 := Tryz.underlying22
  a22 := Tryz.isAgg22
  z22 := Tryz.sizeOf22
  v22 := Tryz.zeroValue22
  t23 := Tryz.underlying22
  a23 := Tryz.isAgg22
  z23 := Tryz.sizeOf22
  v23 := Tryz.zeroValue22
  t25 := Tryz.underlying3
  a25 := Tryz.isAgg3
  z25 := Tryz.sizeOf3
  v25 := Tryz.zeroValue3
  t32 := Tryz.underlying150
  a32 := Tryz.isAgg150
  z32 := Tryz.sizeOf150
  v32 := Tryz.zeroValue150
  t35 := Tryz.underlying177
  a35 := Tryz.isAgg177
  z35 := Tryz.sizeOf177
  v35 := Tryz.zeroValue177
  t36 := Tryz.underlying178
  a36 := Tryz.isAgg178
  z36 := Tryz.sizeOf178
  v36 := Tryz.zeroValue178
  t41 := Tryz.underlying29
  a41 := Tryz.isAgg29
  z41 := Tryz.sizeOf29
  v41 := Tryz.zeroValue29
  t44 := Tryz.underlying185
  a44 := Tryz.isAgg185
  z44 := Tryz.sizeOf185
  v44 := Tryz.zeroValue185
  t46 := Tryz.underlying187
  a46 := Tryz.isAgg187
  z46 := Tryz.sizeOf187
  v46 := Tryz.zeroValue187
  t53 := Tryz.underlying198
  a53 := Tryz.isAgg198
  z53 := Tryz.sizeOf198
  v53 := Tryz.zeroValue198
  t57 := Tryz.underlying108
  a57 := Tryz.isAgg108
  z57 := Tryz.sizeOf108
  v57 := Tryz.zeroValue108
  t63 := Tryz.underlying210
  a63 := Tryz.isAgg210
  z63 := Tryz.sizeOf210
  v63 := Tryz.zeroValue210
  t64 := Tryz.underlying208
  a64 := Tryz.isAgg208
  z64 := Tryz.sizeOf208
  v64 := Tryz.zeroValue208 }
end Go.Proofs

/- Walks: whether an expression reads the time, of the program. -/
namespace Go.Proofs.YtnkimlkoijfcpaaGreatDoor
open Go.RowKit Go.Lib
def tpart (B : List Bool) (x : Ex) : Bool := decide (x.op = 5) || (if x.op = 22 ∧ 0 ≤ x.n ∧ x.n < B.length then B.getD x.n.toNat false else false)
mutual
theorem pre_timed (B : List Bool) : ∀ e : Ex, (pre e).any (tpart B) = timE B e
  | .mk o n s l => by rw [pre, List.any_cons, preL_timed B l, timE]; rfl
theorem preL_timed (B : List Bool) : ∀ l : List Ex, (preL l).any (tpart B) = timL B l
  | [] => by rw [preL, timL]; rfl
  | e :: l => by rw [preL, List.any_append, pre_timed B e, preL_timed B l, timL]
end
def TInv (B : List Bool) (S : Nat → Prop) (m pb : Nat) (vB : Value) (L : List Ex) (w : World) : Prop :=
  w.cell? ⟨m, 0, none⟩ = some (.bool (L.any (tpart B))) ∧ w.frozen? ⟨m, 0, none⟩ = false ∧ w.cell? ⟨pb, 0, none⟩ = some vB ∧ Rd w S (.sl (B.map D.bool)) [vB]
theorem TInv.ext {B : List Bool} {S : Nat → Prop} {m pb : Nat} {vB : Value} {L : List Ex} {w w' : World} (h : TInv B S m pb vB L w) (hm : m < w.heap.size) (he : Ext w w') : TInv B S m pb vB L w' :=
  ⟨he.at h.1, (he.frozens _ _ hm).trans h.2.1, he.at h.2.2.1, Rd.ext h.2.2.2 he⟩
theorem ex_bound {w : World} {S : Nat → Prop} (e : Ex) : ∀ (cs : List Value), Rd w S e.d cs → Rd w (fun b => b < w.heap.size) e.d cs := by
  induction e using Ex.ind with | h o n s l ih => ?_
  intro cs hr
  obtain ⟨A, cap, b, off, rfl, hl1, hl2, hl3, hm⟩ := Ex.open hr
  refine Ex.mk_rd (b1 := b) (off1 := off) hl1 hl2 (fun hl => ⟨(hl3 hl).1, ?_⟩) (RdM.of_get (sz := 4) _ _ _ (Ex.widths _) fun i hi => ?_)
  · obtain ⟨A1, cap1, b1, off1, c0, -⟩ := Ex.at hm hl
    exact World.block_lt_of_cell? w _ c0
  · obtain ⟨cs', h1, h2⟩ := RdM.get _ _ _ hm (Ex.widths _) i hi
    refine ⟨cs', h1, ?_⟩
    rw [List.getElem_map] at h2 ⊢
    exact ih _ (List.getElem_mem _) _ h2
end Go.Proofs.YtnkimlkoijfcpaaGreatDoor
