/- Layer 25 on plain data: Trim and Compact change nothing when they are done again. -/
import Derived.Test.YtnkakofcejkhiaaDoorGa6
set_option linter.unusedSimpArgs false
set_option linter.unusedVariables false
namespace Go.Proofs.YtnkakofcejkhiaaDoor
open Go.RowKit Go.Lib

theorem srcOf_map (ds : List Nd) (i : Nat) : srcOf ds i = (ds.map Nd.src).getD i [] := by
  unfold srcOf
  rw [List.getD_eq_getElem?_getD, List.getD_eq_getElem?_getD, List.getElem?_map]
  cases ds[i]? <;> rfl
theorem needI_congr {ds es : List Nd} (h : ds.map Nd.src = es.map Nd.src) : ∀ (i : Nat) (need : List Bool), needI ds i need = needI es i need
  | 0, _ => rfl
  | i + 1, need => by
    rw [needI, needI]
    have h2 := srcOf_map ds i
    rw [h, ← srcOf_map es i] at h2
    unfold srcOf at h2
    rw [h2, needI_congr h i]
theorem needP_congr {ds es : List Nd} (h : ds.map Nd.src = es.map Nd.src) (r : Nat) : needP ds r = needP es r := by
  have hl : ds.length = es.length := by have := congrArg List.length h; simpa using this
  unfold needP
  rw [needI_congr h, hl]
theorem endI_congr : ∀ (l m : List Nd) (i : Nat) (e : List Nat), l.map Nd.src = m.map Nd.src → endI l i e = endI m i e
  | [], [], _, _, _ => rfl
  | [], _ :: _, _, _, h => by simp at h
  | _ :: _, [], _, _, h => by simp at h
  | a :: l, b :: m, i, e, h => by
    simp only [List.map_cons, List.cons.injEq] at h
    rw [endI, endI, h.1, endI_congr l m _ _ h.2]
theorem endP_congr {ds es : List Nd} (h : ds.map Nd.src = es.map Nd.src) (r : Nat) : endP ds r = endP es r := by
  have hl : ds.length = es.length := by have := congrArg List.length h; simpa using this
  unfold endP
  rw [endI_congr _ _ _ _ h, hl]
theorem compI_congr (e : List Nat) (ct ct2 : List Int) : ∀ (l m : List Nd) (i : Nat) (s : CompS), l.map (keyN ct) = m.map (keyN ct2) → compI e ct l i s = compI e ct2 m i s
  | [], [], _, _, _ => rfl
  | [], _ :: _, _, _, h => by simp at h
  | _ :: _, [], _, _, h => by simp at h
  | a :: l, b :: m, i, s, h => by
    simp only [List.map_cons, List.cons.injEq] at h
    obtain ⟨h1, h2⟩ := h
    unfold keyN at h1
    simp only [Prod.mk.injEq] at h1
    obtain ⟨e1, e2, e3, e4, e5⟩ := h1
    rw [compI, compI]
    try dsimp only
    rw [e1, e5]
    unfold newI
    rw [e2, e3, e4]
    exact compI_congr e ct ct2 l m _ _ h2
theorem key_src {ct ct2 : List Int} {l m : List Nd} (h : l.map (keyN ct) = m.map (keyN ct2)) : l.map Nd.src = m.map Nd.src := by
  have := congrArg (List.map Prod.fst) h
  rw [List.map_map, List.map_map] at this
  exact this

/-- why something is needed -/
theorem needI_why (ds : List Nd) : ∀ (i : Nat) (need : List Bool), i ≤ ds.length → need.length = ds.length → Early ds → ∀ j, (needI ds i need).getD j false = true → need.getD j false = true ∨ ∃ k, k < i ∧ (needI ds i need).getD k false = true ∧ j ∈ srcOf ds k
  | 0, _, _, _, _, j, h => .inl h
  | i + 1, need, hi, hl, he, j, h => by
    rw [needI] at h ⊢
    have hl2 : (if need.getD i false then setAll need (srcOf ds i) else need).length = ds.length := by split <;> simp [setAll_len, hl]
    change (needI ds i (if need.getD i false then setAll need (srcOf ds i) else need)).getD j false = true at h
    change _ ∨ ∃ k, k < i + 1 ∧ (needI ds i (if need.getD i false then setAll need (srcOf ds i) else need)).getD k false = true ∧ j ∈ srcOf ds k
    rcases needI_why ds i _ (by omega) hl2 he j h with h1 | ⟨k, h1, h2, h3⟩
    · by_cases hn : need.getD i false = true
      · rw [if_pos hn] at h1 ⊢
        by_cases hj : j < need.length
        · rcases (setAll_get _ _ _ hj).1 h1 with h1 | h1
          · exact .inl h1
          · refine .inr ⟨i, by omega, ?_, h1⟩
            refine (needI_ge he i _ (by omega) (by rw [setAll_len]; exact hl) i).2 ?_
            exact (setAll_get _ _ _ (by omega)).2 (.inl hn)
        · rw [List.getD_eq_getElem?_getD, List.getElem?_eq_none (by rw [setAll_len]; omega)] at h1; cases h1
      · rw [if_neg hn] at h1; exact .inl h1
    · exact .inr ⟨k, by omega, h2, h3⟩
theorem needP_why {ds : List Nd} (he : Early ds) {root j : Nat} (hr : root < ds.length) (h : (needP ds root).getD j false = true) : j = root ∨ ∃ k, k < ds.length ∧ (needP ds root).getD k false = true ∧ j ∈ srcOf ds k := by
  rcases needI_why ds ds.length _ (Nat.le_refl _) (by simp) he j h with h1 | h1
  · rw [getD_set] at h1
    split at h1
    · rename_i h2; exact .inl h2.1.symm
    · exact (no_done h1).elim
  · exact .inr h1

/-- the nodes that are left -/
def trimN (need : List Bool) : List Nd → Nat → List Nd
  | [], _ => []
  | d :: l, i => if need.getD i false then ⟨d.x, d.src.map (rank need)⟩ :: trimN need l (i + 1) else trimN need l (i + 1)
theorem trim_nodes {cols types : List Int} (need : List Bool) : ∀ (l : List Ins) (i : Nat) (done : List Bool) (last last' : List Nat), AllOk cols types l done → last.length = types.length → last'.length = types.length → done.length = types.length →
    (∀ k, k < l.length → need.getD (i + k) false = true → ∀ s ∈ srcOf (nodes l i last) k, need.getD s false = true) →
    (∀ r : Nat, done.getD r false = true → need.getD (last.getD r 0) false = true → last'.getD r 0 = rank need (last.getD r 0)) →
    nodes (trimI need l i) (rank need i) last' = trimN need (nodes l i last) i ∧
    ∀ r : Nat, (doneL l done).getD r false = true → need.getD ((lastL l i last).getD r 0) false = true → (lastL (trimI need l i) (rank need i) last').getD r 0 = rank need ((lastL l i last).getD r 0)
  | [], i, done, last, last', _, _, _, _, _, h => ⟨rfl, h⟩
  | x :: l, i, done, last, last', ha, hl, hl', hd, hcl, h => by
    have hx := ha.1
    have h0 := hx.to0
    have h1 := hx.to1
    have hcl' : ∀ k, k < l.length → need.getD (i + 1 + k) false = true → ∀ s ∈ srcOf (nodes l (i + 1) (last.set x.to.toNat i)) k, need.getD s false = true := fun k hk hn s hs => by
      refine hcl (k + 1) (by simpa using hk) (by rw [show i + (k + 1) = i + 1 + k by omega]; exact hn) s ?_
      rw [nodes]
      unfold srcOf at hs ⊢
      rwa [List.getD_cons_succ]
    by_cases hn : need.getD i false = true
    · have hr1 : rank need (i + 1) = rank need i + 1 := by rw [rank, if_pos hn]
      have hsrc : ∀ r ∈ opsP x, need.getD (last.getD r.toNat 0) false = true := fun r hr => hcl 0 (by simp) hn _ (by
        rw [nodes]
        unfold srcOf
        rw [List.getD_cons_zero]
        exact List.mem_map_of_mem hr)
      obtain ⟨g1, g2⟩ := trim_nodes need l (i + 1) _ (last.set x.to.toNat i) (last'.set x.to.toNat (rank need i)) ha.2 (by rw [List.length_set]; exact hl) (by rw [List.length_set]; exact hl') (by rw [List.length_set]; exact hd) hcl' (fun r hr hnr => by
        rw [getD_set] at hr hnr ⊢
        rw [getD_set]
        by_cases he : x.to.toNat = r
        · rw [if_pos ⟨he, by omega⟩, if_pos ⟨he, by omega⟩]
        · rw [if_neg (fun h => he h.1)] at hr hnr
          rw [if_neg (fun h => he h.1), if_neg (fun h => he h.1)]
          exact h r hr hnr)
      rw [hr1] at g1 g2
      rw [trimI, if_pos hn, nodes, nodes, trimN, if_pos hn, doneL, lastL, lastL]
      refine ⟨?_, g2⟩
      rw [g1]
      congr 2
      rw [List.map_map]
      exact List.map_congr_left fun r hr => h r.toNat (hx.args r hr).2.2 (hsrc r hr)
    · have hr1 : rank need (i + 1) = rank need i := by rw [rank, if_neg hn]; rfl
      obtain ⟨g1, g2⟩ := trim_nodes need l (i + 1) _ (last.set x.to.toNat i) last' ha.2 (by rw [List.length_set]; exact hl) hl' (by rw [List.length_set]; exact hd) hcl' (fun r hr hnr => by
        rw [getD_set] at hr hnr ⊢
        by_cases he : x.to.toNat = r
        · rw [if_pos ⟨he, by omega⟩] at hnr
          exact absurd hnr hn
        · rw [if_neg (fun h => he h.1)] at hr hnr ⊢
          exact h r hr hnr)
      rw [hr1] at g1 g2
      rw [trimI, if_neg hn, nodes, trimN, if_neg hn, doneL, lastL]
      exact ⟨g1, g2⟩
theorem trimN_len (need : List Bool) : ∀ (l : List Nd) (i : Nat), (trimN need l i).length + rank need i = rank need (i + l.length)
  | [], i => by simp [trimN]
  | d :: l, i => by
    have := trimN_len need l (i + 1)
    rw [trimN, List.length_cons]
    rw [show i + (l.length + 1) = i + 1 + l.length by omega, ← this, rank]
    split <;> simp <;> omega
theorem trimN_src (need : List Bool) : ∀ (l : List Nd) (i k : Nat), k < l.length → need.getD (i + k) false = true → srcOf (trimN need l i) (rank need (i + k) - rank need i) = (srcOf l k).map (rank need)
  | d :: l, i, 0, _, hn => by
    rw [Nat.add_zero] at hn ⊢
    rw [trimN, if_pos hn, Nat.sub_self]
    unfold srcOf
    rw [List.getD_cons_zero, List.getD_cons_zero]
  | d :: l, i, k + 1, hk, hn => by
    have ih := trimN_src need l (i + 1) k (by simpa using hk) (by rw [show i + 1 + k = i + (k + 1) by omega]; exact hn)
    rw [show i + 1 + k = i + (k + 1) by omega] at ih
    have hm := rank_mono need (show i + 1 ≤ i + (k + 1) by omega)
    rw [trimN]
    by_cases h : need.getD i false = true
    · have hr1 : rank need (i + 1) = rank need i + 1 := by rw [rank, if_pos h]
      rw [if_pos h, show rank need (i + (k + 1)) - rank need i = (rank need (i + (k + 1)) - rank need (i + 1)) + 1 by omega]
      unfold srcOf at ih ⊢
      rw [List.getD_cons_succ, List.getD_cons_succ]
      exact ih
    · have hr1 : rank need (i + 1) = rank need i := by rw [rank, if_neg h]; rfl
      rw [if_neg h, ← hr1]
      unfold srcOf at ih ⊢
      rw [List.getD_cons_succ]
      exact ih
theorem rank_onto (need : List Bool) : ∀ (n r : Nat), r < rank need n → ∃ j, j < n ∧ need.getD j false = true ∧ rank need j = r
  | 0, r, h => by simp [rank] at h
  | n + 1, r, h => by
    rw [rank] at h
    by_cases hr : r < rank need n
    · obtain ⟨j, h1, h2, h3⟩ := rank_onto need n r hr
      exact ⟨j, by omega, h2, h3⟩
    · split at h
      · rename_i hn
        exact ⟨n, by omega, hn, by omega⟩
      · omega
/-- all that is left is needed -/
theorem trim_full {ds : List Nd} {root : Nat} (he : Early ds) (hr : root < ds.length) : ∀ r, r < (trimN (needP ds root) ds 0).length → (needP (trimN (needP ds root) ds 0) (rank (needP ds root) root)).getD r false = true := by
  have hlen := trimN_len (needP ds root) ds 0
  rw [rank, Nat.add_zero, Nat.zero_add] at hlen
  have hsrc : ∀ k, k < ds.length → (needP ds root).getD k false = true → srcOf (trimN (needP ds root) ds 0) (rank (needP ds root) k) = (srcOf ds k).map (rank (needP ds root)) := fun k hk hn => by
    have := trimN_src (needP ds root) ds 0 k hk (by rw [Nat.zero_add]; exact hn)
    rw [Nat.zero_add] at this
    exact this
  have he' : Early (trimN (needP ds root) ds 0) := fun i hi k hk => by
    rw [hlen] at hi
    obtain ⟨j, h1, h2, rfl⟩ := rank_onto _ _ _ hi
    rw [hsrc j h1 h2] at hk
    obtain ⟨m, hm, rfl⟩ := List.mem_map.1 hk
    exact rank_lt _ (he j h1 m hm) (needP_closed he root h1 h2 m hm)
  have hroot : rank (needP ds root) root < (trimN (needP ds root) ds 0).length := by
    rw [hlen]; exact rank_lt _ hr (needP_root he hr)
  have key : ∀ m j, ds.length - j ≤ m → j < ds.length → (needP ds root).getD j false = true → (needP (trimN (needP ds root) ds 0) (rank (needP ds root) root)).getD (rank (needP ds root) j) false = true := fun m => by
    induction m with
    | zero => intro j h1 h2 _; omega
    | succ m ih =>
      intro j h1 h2 h3
      rcases needP_why he hr h3 with rfl | ⟨k, g1, g2, g3⟩
      · exact needP_root he' hroot
      · have hjk := he k g1 j g3
        refine needP_closed he' _ ?_ (ih k (by omega) g1 g2) _ ?_
        · rw [hlen]; exact rank_lt _ g1 g2
        · rw [hsrc k g1 g2]; exact List.mem_map_of_mem g3
  intro r hrr
  rw [hlen] at hrr
  obtain ⟨j, h1, h2, rfl⟩ := rank_onto _ _ _ hrr
  exact key _ j (Nat.le_refl _) h1 h2
/-- all instructions are needed -/
def Full (c : Cod) : Prop := ∀ r, r < c.ins.length → (needP (nodesC c) (rootC c)).getD r false = true
theorem trimI_full (need : List Bool) : ∀ (l : List Ins) (i : Nat), (∀ k, k < l.length → need.getD (i + k) false = true) → trimI need l i = l
  | [], _, _ => rfl
  | x :: l, i, h => by
    rw [trimI, if_pos (show need.getD i false = true from h 0 (by simp)), trimI_full need l (i + 1) fun k hk => by have := h (k + 1) (by simpa using hk); rwa [show i + 1 + k = i + (k + 1) by omega]]
theorem Full.trim {c : Cod} (h : Full c) : trimP c = c := by
  unfold trimP
  rw [trimI_full _ _ _ fun k hk => by rw [Nat.zero_add]; exact h k hk]
theorem trim_nodesC {c : Cod} {cols : List Int} (h : CodOk c cols) : nodesC (trimP c) = trimN (needP (nodesC c) (rootC c)) (nodesC c) 0 ∧ rootC (trimP c) = rank (needP (nodesC c) (rootC c)) (rootC c) ∧ rootC c < (nodesC c).length := by
  have he := h.early
  obtain ⟨hroot, -⟩ := h.val_res 0 []
  have hl : (nodesC c).length = c.ins.length := by unfold nodesC; exact nodes_len _ _ _
  have hneed := needP_root he (root := rootC c) (by rw [hl]; exact hroot)
  obtain ⟨g1, g2⟩ := trim_nodes (cols := cols) (needP (nodesC c) (rootC c)) c.ins 0 _ (List.replicate c.types.length 0) (List.replicate c.types.length 0) h.all (by simp) (by simp) (by simp)
    (fun k hk hn s hs => needP_closed he _ (by rw [hl]; exact hk) (by rw [Nat.zero_add] at hn; exact hn) s hs) (fun r hr => (no_done hr).elim)
  refine ⟨g1, g2 c.out.toNat h.out2 hneed, by rw [hl]; exact hroot⟩
theorem CodOk.trim_full {c : Cod} {cols : List Int} (h : CodOk c cols) : Full (trimP c) := fun r hr => by
  obtain ⟨h1, h2, h3⟩ := trim_nodesC h
  rw [h1, h2]
  refine Proofs.YtnkakofcejkhiaaDoor.trim_full h.early h3 r ?_
  rw [← h1]
  unfold nodesC
  rw [nodes_len]
  exact hr
/-- Trim, again -/
theorem trim_trim {c : Cod} {cols : List Int} (h : CodOk c cols) : trimP (trimP c) = trimP c := h.trim_full.trim
theorem comp_trim {c : Cod} {cols : List Int} (h : CodOk c cols) : compP (trimP c) = compP c := by
  unfold compP
  rw [trim_trim h]
theorem comp_full {c : Cod} {cols : List Int} (h : CodOk c cols) : Full (compP c) := fun r hr => by
  obtain ⟨-, -, h3, h4, h5, -⟩ := comp_all_ok h 0 []
  rw [h4, needP_congr (key_src h5)]
  exact h.trim_full r (by rw [← h3]; exact hr)
/-- Compact, again -/
theorem comp_comp {c : Cod} {cols : List Int} (h : CodOk c cols) : compP (compP c) = compP c := by
  obtain ⟨-, -, h3, h4, h5, -⟩ := comp_all_ok h 0 []
  have ht := (comp_full h).trim
  have hS : compS (compP c) = compS (trimP c) := by
    unfold compS
    rw [h4, h3, endP_congr (key_src h5)]
    exact compI_congr _ _ _ _ _ _ _ h5
  show (⟨(compS (trimP (compP c))).ins, (compS (trimP (compP c))).tys, ((compS (trimP (compP c))).place.getD (rootC (trimP (compP c))) 0 : Nat)⟩ : Cod) = compP c
  rw [ht, hS, h4]
  rfl
end Go.Proofs.YtnkakofcejkhiaaDoor
