/- Layer 25 on plain data: Trim and Compact change nothing when they are done again. -/
import Derived.Test.YtgpcpmfdklpifaaGreatDoorGa1
import Derived.Test.YtgpcpmfdklpifaaGreatDoorGa3
set_option linter.unusedSimpArgs false
set_option linter.unusedVariables false
namespace Go.Proofs.YtgpcpmfdklpifaaGreatDoor
open Go.RowKit Go.Lib
theorem srcOf_map (ds : List Nd) (i : Nat) : srcOf ds i = (ds.map Nd.src).getD i [] := by
  unfold srcOf
  rw [List.getD_eq_getElem?_getD, List.getD_eq_getElem?_getD, List.getElem?_map]
  cases ds[i]? <;> rfl
theorem needI_congr {ds es : List Nd} (h : ds.map Nd.src = es.map Nd.src) : ∀ (i : Nat) (need : List Bool), needI ds i need = needI es i need
  | 0, _ => rfl
  | i + 1, need => by
    rw [needI, needI]
    have h2 := srcOf_map ds i
    rw [h, ← srcOf_map es i] at h2
    unfold srcOf at h2
    rw [h2, needI_congr h i]
theorem needP_congr {ds es : List Nd} (h : ds.map Nd.src = es.map Nd.src) (r : Nat) : needP ds r = needP es r := by
  have hl : ds.length = es.length := by have := congrArg List.length h; simpa using this
  unfold needP
  rw [needI_congr h, hl]
theorem endI_congr : ∀ (l m : List Nd) (i : Nat) (e : List Nat), l.map Nd.src = m.map Nd.src → endI l i e = endI m i e
  | [], [], _, _, _ => rfl
  | [], _ :: _, _, _, h => by simp at h
  | _ :: _, [], _, _, h => by simp at h
  | a :: l, b :: m, i, e, h => by
    simp only [List.map_cons, List.cons.injEq] at h
    rw [endI, endI, h.1, endI_congr l m _ _ h.2]
theorem endP_congr {ds es : List Nd} (h : ds.map Nd.src = es.map Nd.src) (r : Nat) : endP ds r = endP es r := by
  have hl : ds.length = es.length := by have := congrArg List.length h; simpa using this
  unfold endP
  rw [endI_congr _ _ _ _ h, hl]
theorem compI_congr (e : List Nat) (ct ct2 : List Int) : ∀ (l m : List Nd) (i : Nat) (s : CompS), l.map (keyN ct) = m.map (keyN ct2) → compI e ct l i s = compI e ct2 m i s
  | [], [], _, _, _ => rfl
  | [], _ :: _, _, _, h => by simp at h
  | _ :: _, [], _, _, h => by simp at h
  | a :: l, b :: m, i, s, h => by
    simp only [List.map_cons, List.cons.injEq] at h
    obtain ⟨h1, h2⟩ := h
    unfold keyN at h1
    simp only [Prod.mk.injEq] at h1
    obtain ⟨e1, e2, e3, e4, e5⟩ := h1
    rw [compI, compI]
    try dsimp only
    rw [e1, e5]
    unfold newI
    rw [e2, e3, e4]
    exact compI_congr e ct ct2 l m _ _ h2
theorem key_src {ct ct2 : List Int} {l m : List Nd} (h : l.map (keyN ct) = m.map (keyN ct2)) : l.map Nd.src = m.map Nd.src := by
  have := congrArg (List.map Prod.fst) h
  rw [List.map_map, List.map_map] at this
  exact this
theorem needI_why (ds : List Nd) : ∀ (i : Nat) (need : List Bool), i ≤ ds.length → need.length = ds.length → Early ds → ∀ j, (needI ds i need).getD j false = true → need.getD j false = true ∨ ∃ k, k < i ∧ (needI ds i need).getD k false = true ∧ j ∈ srcOf ds k
  | 0, _, _, _, _, j, h => .inl h
  | i + 1, need, hi, hl, he, j, h => by
    rw [needI] at h ⊢
    have hl2 : (if need.getD i false then qbi need (srcOf ds i) else need).length = ds.length := by split <;> simp [qbs, hl]
    change (needI ds i (if need.getD i false then qbi need (srcOf ds i) else need)).getD j false = true at h
    change _ ∨ ∃ k, k < i + 1 ∧ (needI ds i (if need.getD i false then qbi need (srcOf ds i) else need)).getD k false = true ∧ j ∈ srcOf ds k
    rcases needI_why ds i _ (by omega) hl2 he j h with h1 | ⟨k, h1, h2, h3⟩
    · by_cases hn : need.getD i false = true
      · rw [if_pos hn] at h1 ⊢
        by_cases hj : j < need.length
        · rcases (qda _ _ _ hj).1 h1 with h1 | h1
          · exact .inl h1
          · refine .inr ⟨i, by omega, ?_, h1⟩
            refine (needI_ge he i _ (by omega) (by rw [qbs]; exact hl) i).2 ?_
            exact (qda _ _ _ (by omega)).2 (.inl hn)
        · rw [List.getD_eq_getElem?_getD, List.getElem?_eq_none (by rw [qbs]; omega)] at h1; cases h1
      · rw [if_neg hn] at h1; exact .inl h1
    · exact .inr ⟨k, by omega, h2, h3⟩
theorem needP_why {ds : List Nd} (he : Early ds) {root j : Nat} (hr : root < ds.length) (h : (needP ds root).getD j false = true) : j = root ∨ ∃ k, k < ds.length ∧ (needP ds root).getD k false = true ∧ j ∈ srcOf ds k := by
  rcases needI_why ds ds.length _ (Nat.le_refl _) (by simp) he j h with h1 | h1
  · rw [qu] at h1
    split at h1
    · rename_i h2; exact .inl h2.1.symm
    · exact (no_done h1).elim
  · exact .inr h1
def trimN (need : List Bool) : List Nd → Nat → List Nd
  | [], _ => []
  | d :: l, i => if need.getD i false then ⟨d.x, d.src.map (rank need)⟩ :: trimN need l (i + 1) else trimN need l (i + 1)
theorem trim_nodes {cols types : List Int} (need : List Bool) : ∀ (l : List Ins) (i : Nat) (done : List Bool) (last last' : List Nat), AllOk cols types l done → last.length = types.length → last'.length = types.length → done.length = types.length →
    (∀ k, k < l.length → need.getD (i + k) false = true → ∀ s ∈ srcOf (nodes l i last) k, need.getD s false = true) →
    (∀ r : Nat, done.getD r false = true → need.getD (last.getD r 0) false = true → last'.getD r 0 = rank need (last.getD r 0)) →
    nodes (trimI need l i) (rank need i) last' = trimN need (nodes l i last) i ∧
    ∀ r : Nat, (doneL l done).getD r false = true → need.getD ((lastL l i last).getD r 0) false = true → (lastL (trimI need l i) (rank need i) last').getD r 0 = rank need ((lastL l i last).getD r 0)
  | [], i, done, last, last', _, _, _, _, _, h => ⟨rfl, h⟩
  | x :: l, i, done, last, last', ha, hl, hl', hd, hcl, h => by
    have hx := ha.1
    have h0 := hx.to0
    have h1 := hx.to1
    have hcl' : ∀ k, k < l.length → need.getD (i + 1 + k) false = true → ∀ s ∈ srcOf (nodes l (i + 1) (last.set x.tgt.toNat i)) k, need.getD s false = true := fun k hk hn s hs => by
      refine hcl (k + 1) (by simpa using hk) (by rw [show i + (k + 1) = i + 1 + k by omega]; exact hn) s ?_
      rw [nodes]
      unfold srcOf at hs ⊢
      rwa [List.getD_cons_succ]
    by_cases hn : need.getD i false = true
    · have hr1 : rank need (i + 1) = rank need i + 1 := by rw [rank, if_pos hn]
      have hsrc : ∀ r ∈ opsP x, need.getD (last.getD r.toNat 0) false = true := fun r hr => hcl 0 (by simp) hn _ (by
        rw [nodes]
        unfold srcOf
        rw [List.getD_cons_zero]
        exact List.mem_map_of_mem hr)
      obtain ⟨g1, g2⟩ := trim_nodes need l (i + 1) _ (last.set x.tgt.toNat i) (last'.set x.tgt.toNat (rank need i)) ha.2 (by rw [List.length_set]; exact hl) (by rw [List.length_set]; exact hl') (by rw [List.length_set]; exact hd) hcl' (fun r hr hnr => by
        rw [qu] at hr hnr ⊢
        rw [qu]
        by_cases he : x.tgt.toNat = r
        · rw [if_pos ⟨he, by omega⟩, if_pos ⟨he, by omega⟩]
        · rw [if_neg (fun h => he h.1)] at hr hnr
          rw [if_neg (fun h => he h.1), if_neg (fun h => he h.1)]
          exact h r hr hnr)
      rw [hr1] at g1 g2
      rw [trimI, if_pos hn, nodes, nodes, trimN, if_pos hn, doneL, lastL, lastL]
      refine ⟨?_, g2⟩
      rw [g1]
      congr 2
      rw [List.map_map]
      exact List.map_congr_left fun r hr => h r.toNat (hx.args r hr).2.2 (hsrc r hr)
    · have hr1 : rank need (i + 1) = rank need i := by rw [rank, if_neg hn]; rfl
      obtain ⟨g1, g2⟩ := trim_nodes need l (i + 1) _ (last.set x.tgt.toNat i) last' ha.2 (by rw [List.length_set]; exact hl) hl' (by rw [List.length_set]; exact hd) hcl' (fun r hr hnr => by
        rw [qu] at hr hnr ⊢
        by_cases he : x.tgt.toNat = r
        · rw [if_pos ⟨he, by omega⟩] at hnr
          exact absurd hnr hn
        · rw [if_neg (fun h => he h.1)] at hr hnr ⊢
          exact h r hr hnr)
      rw [hr1] at g1 g2
      rw [trimI, if_neg hn, nodes, trimN, if_neg hn, doneL, lastL]
      exact ⟨g1, g2⟩
theorem trimN_len (need : List Bool) : ∀ (l : List Nd) (i : Nat), (trimN need l i).length + rank need i = rank need (i + l.length)
  | [], i => by simp [trimN]
  | d :: l, i => by
    have := trimN_len need l (i + 1)
    rw [trimN, List.length_cons]
    rw [show i + (l.length + 1) = i + 1 + l.length by omega, ← this, rank]
    split <;> simp <;> omega
theorem trimN_src (need : List Bool) : ∀ (l : List Nd) (i k : Nat), k < l.length → need.getD (i + k) false = true → srcOf (trimN need l i) (rank need (i + k) - rank need i) = (srcOf l k).map (rank need)
  | d :: l, i, 0, _, hn => by
    rw [Nat.add_zero] at hn ⊢
    rw [trimN, if_pos hn, Nat.sub_self]
    unfold srcOf
    rw [List.getD_cons_zero, List.getD_cons_zero]
  | d :: l, i, k + 1, hk, hn => by
    have ih := trimN_src need l (i + 1) k (by simpa using hk) (by rw [show i + 1 + k = i + (k + 1) by omega]; exact hn)
    rw [show i + 1 + k = i + (k + 1) by omega] at ih
    have hm := rank_mono need (show i + 1 ≤ i + (k + 1) by omega)
    rw [trimN]
    by_cases h : need.getD i false = true
    · have hr1 : rank need (i + 1) = rank need i + 1 := by rw [rank, if_pos h]
      rw [if_pos h, show rank need (i + (k + 1)) - rank need i = (rank need (i + (k + 1)) - rank need (i + 1)) + 1 by omega]
      unfold srcOf at ih ⊢
      rw [List.getD_cons_succ, List.getD_cons_succ]
      exact ih
    · have hr1 : rank need (i + 1) = rank need i := by rw [rank, if_neg h]; rfl
      rw [if_neg h, ← hr1]
      unfold srcOf at ih ⊢
      rw [List.getD_cons_succ]
      exact ih
theorem rank_onto (need : List Bool) : ∀ (n r : Nat), r < rank need n → ∃ j, j < n ∧ need.getD j false = true ∧ rank need j = r
  | 0, r, h => by simp [rank] at h
  | n + 1, r, h => by
    rw [rank] at h
    by_cases hr : r < rank need n
    · obtain ⟨j, h1, h2, h3⟩ := rank_onto need n r hr
      exact ⟨j, by omega, h2, h3⟩
    · split at h
      · rename_i hn
        exact ⟨n, by omega, hn, by omega⟩
      · omega
theorem trim_full {ds : List Nd} {root : Nat} (he : Early ds) (hr : root < ds.length) : ∀ r, r < (trimN (needP ds root) ds 0).length → (needP (trimN (needP ds root) ds 0) (rank (needP ds root) root)).getD r false = true := by
  have hlen := trimN_len (needP ds root) ds 0
  rw [rank, Nat.add_zero, Nat.zero_add] at hlen
  have hsrc : ∀ k, k < ds.length → (needP ds root).getD k false = true → srcOf (trimN (needP ds root) ds 0) (rank (needP ds root) k) = (srcOf ds k).map (rank (needP ds root)) := fun k hk hn => by
    have := trimN_src (needP ds root) ds 0 k hk (by rw [Nat.zero_add]; exact hn)
    rw [Nat.zero_add] at this
    exact this
  have he' : Early (trimN (needP ds root) ds 0) := fun i hi k hk => by
    rw [hlen] at hi
    obtain ⟨j, h1, h2, rfl⟩ := rank_onto _ _ _ hi
    rw [hsrc j h1 h2] at hk
    obtain ⟨m, hm, rfl⟩ := List.mem_map.1 hk
    exact rank_lt _ (he j h1 m hm) (qdp he root h1 h2 m hm)
  have hroot : rank (needP ds root) root < (trimN (needP ds root) ds 0).length := by
    rw [hlen]; exact rank_lt _ hr (needP_root he hr)
  have key : ∀ m j, ds.length - j ≤ m → j < ds.length → (needP ds root).getD j false = true → (needP (trimN (needP ds root) ds 0) (rank (needP ds root) root)).getD (rank (needP ds root) j) false = true := fun m => by
    induction m with
    | zero => intro j h1 h2 _; omega
    | succ m ih =>
      intro j h1 h2 h3
      rcases needP_why he hr h3 with rfl | ⟨k, g1, g2, g3⟩
      · exact needP_root he' hroot
      · have hjk := he k g1 j g3
        refine qdp he' _ ?_ (ih k (by omega) g1 g2) _ ?_
        · rw [hlen]; exact rank_lt _ g1 g2
        · rw [hsrc k g1 g2]; exact List.mem_map_of_mem g3
  intro r hrr
  rw [hlen] at hrr
  obtain ⟨j, h1, h2, rfl⟩ := rank_onto _ _ _ hrr
  exact key _ j (Nat.le_refl _) h1 h2
def Full (c : Cod) : Prop := ∀ r, r < c.ins.length → (needP (qt c) (rootC c)).getD r false = true
theorem trimI_full (need : List Bool) : ∀ (l : List Ins) (i : Nat), (∀ k, k < l.length → need.getD (i + k) false = true) → trimI need l i = l
  | [], _, _ => rfl
  | x :: l, i, h => by
    rw [trimI, if_pos (show need.getD i false = true from h 0 (by simp)), trimI_full need l (i + 1) fun k hk => by have := h (k + 1) (by simpa using hk); rwa [show i + 1 + k = i + (k + 1) by omega]]
theorem Full.trim {c : Cod} (h : Full c) : trimP c = c := by
  unfold trimP
  rw [trimI_full _ _ _ fun k hk => by rw [Nat.zero_add]; exact h k hk]
theorem trim_nodesC {c : Cod} {cols : List Int} (h : CodOk c cols) : qt (trimP c) = trimN (needP (qt c) (rootC c)) (qt c) 0 ∧ rootC (trimP c) = rank (needP (qt c) (rootC c)) (rootC c) ∧ rootC c < (qt c).length := by
  have he := h.early
  obtain ⟨hroot, -⟩ := h.val_res 0 []
  have hl : (qt c).length = c.ins.length := by unfold qt; exact qx _ _ _
  have hneed := needP_root he (root := rootC c) (by rw [hl]; exact hroot)
  obtain ⟨g1, g2⟩ := trim_nodes (cols := cols) (needP (qt c) (rootC c)) c.ins 0 _ (List.replicate c.types.length 0) (List.replicate c.types.length 0) h.all (by simp) (by simp) (by simp)
    (fun k hk hn s hs => qdp he _ (by rw [hl]; exact hk) (by rw [Nat.zero_add] at hn; exact hn) s hs) (fun r hr => (no_done hr).elim)
  refine ⟨g1, g2 c.out.toNat h.out2 hneed, by rw [hl]; exact hroot⟩
theorem CodOk.trim_full {c : Cod} {cols : List Int} (h : CodOk c cols) : Full (trimP c) := fun r hr => by
  obtain ⟨h1, h2, h3⟩ := trim_nodesC h
  rw [h1, h2]
  refine Proofs.YtgpcpmfdklpifaaGreatDoor.trim_full h.early h3 r ?_
  rw [← h1]
  unfold qt
  rw [qx]
  exact hr
theorem trim_trim {c : Cod} {cols : List Int} (h : CodOk c cols) : trimP (trimP c) = trimP c := h.trim_full.trim
theorem comp_trim {c : Cod} {cols : List Int} (h : CodOk c cols) : compP (trimP c) = compP c := by
  unfold compP
  rw [trim_trim h]
theorem comp_full {c : Cod} {cols : List Int} (h : CodOk c cols) : Full (compP c) := fun r hr => by
  obtain ⟨-, -, h3, h4, h5, -⟩ := qeg h 0 []
  rw [h4, needP_congr (key_src h5)]
  exact h.trim_full r (by rw [← h3]; exact hr)
theorem comp_comp {c : Cod} {cols : List Int} (h : CodOk c cols) : compP (compP c) = compP c := by
  obtain ⟨-, -, h3, h4, h5, -⟩ := qeg h 0 []
  have ht := (comp_full h).trim
  have hS : compS (compP c) = compS (trimP c) := by
    unfold compS
    rw [h4, h3, endP_congr (key_src h5)]
    exact compI_congr _ _ _ _ _ _ _ h5
  show (⟨(compS (trimP (compP c))).ins, (compS (trimP (compP c))).tys, ((compS (trimP (compP c))).place.getD (rootC (trimP (compP c))) 0 : Nat)⟩ : Cod) = compP c
  rw [ht, hS, h4]
  rfl
end Go.Proofs.YtgpcpmfdklpifaaGreatDoor

/- Walk: the columns that an expression reads, of the reference. -/
namespace Go.Proofs.YtgpcpmfdklpifaaGreatDoor
open Go.RowKit Go.Lib
def withP : List Int → Int → List Int
  | [], n => [n]
  | a :: l, n => if a < n then a :: withP l n else if a = n then a :: l else n :: a :: l
theorem withP_at (n : Int) : ∀ (l : List Int) (i : Nat), i ≤ l.length → (∀ j (h : j < l.length), j < i → l[j] < n) → (∀ h : i < l.length, ¬ l[i] < n) →
    withP l n = if h : i < l.length then (if l[i] = n then l else l.take i ++ [n] ++ l.drop i) else l ++ [n]
  | [], i, hi, _, _ => by
    have : i = 0 := by simpa using hi
    subst this; rfl
  | a :: l, 0, _, _, h2 => by
    have h3 := h2 (by simp)
    simp only [List.getElem_cons_zero] at h3
    rw [withP, if_neg h3]
    simp
  | a :: l, i + 1, hi, h1, h2 => by
    have h3 := h1 0 (by simp) (by omega)
    simp only [List.getElem_cons_zero] at h3
    rw [withP, if_pos h3, withP_at n l i (by simpa using hi) (fun j h hj => by have := h1 (j + 1) (by simpa using h) (by omega); simpa only [List.getElem_cons_succ] using this) (fun h => by have := h2 (by simpa using h); simpa only [List.getElem_cons_succ] using this)]
    by_cases h4 : i < l.length
    · simp [h4]
      split <;> rfl
    · simp [h4]
theorem withP_len (n : Int) : ∀ l : List Int, (withP l n).length ≤ l.length + 1
  | [] => by simp [withP]
  | a :: l => by
    have := withP_len n l
    rw [withP]
    split
    · simpa using this
    · split <;> simp
theorem withP_mem (n x : Int) : ∀ l : List Int, x ∈ withP l n ↔ x = n ∨ x ∈ l
  | [] => by simp [withP]
  | a :: l => by
    rw [withP]
    split
    · rw [List.mem_cons, withP_mem n x l, List.mem_cons]
      constructor
      · rintro (h | h | h) <;> simp [h]
      · rintro (h | h | h) <;> simp [h]
    · split
      · rename_i h
        subst h
        simp
      · simp
def Up : List Int → Prop
  | [] => True
  | a :: l => (∀ x ∈ l, a < x) ∧ Up l
theorem withP_up (n : Int) : ∀ l : List Int, Up l → Up (withP l n)
  | [], _ => by simp [withP, Up]
  | a :: l, h => by
    rw [Up] at h
    rw [withP]
    split
    · rename_i hlt
      rw [Up]
      refine ⟨fun x hx => ?_, withP_up n l h.2⟩
      rcases (withP_mem n x l).1 hx with rfl | hx
      · exact hlt
      · exact h.1 x hx
    · split
      · rw [Up]; exact h
      · rw [Up, Up]
        refine ⟨fun x hx => ?_, h⟩
        rcases List.mem_cons.1 hx with rfl | hx
        · omega
        · have := h.1 x hx; omega
theorem up_ext : ∀ (a b : List Int), Up a → Up b → (∀ x, x ∈ a ↔ x ∈ b) → a = b
  | [], [], _, _, _ => rfl
  | [], y :: b, _, _, h => by have := (h y).2 (by simp); cases this
  | x :: a, [], _, _, h => by have := (h x).1 (by simp); cases this
  | x :: a, y :: b, ha, hb, h => by
    rw [Up] at ha hb
    have hxy : x = y := by
      rcases List.mem_cons.1 ((h x).1 (by simp)) with e | e
      · exact e
      · rcases List.mem_cons.1 ((h y).2 (by simp)) with e2 | e2
        · exact e2.symm
        · have := hb.1 x e; have := ha.1 y e2; omega
    subst hxy
    rw [up_ext a b ha.2 hb.2 fun z => ?_]
    have hz := h z
    rw [List.mem_cons, List.mem_cons] at hz
    constructor
    · intro hm
      rcases hz.1 (.inr hm) with e | e
      · subst e; have := ha.1 z hm; omega
      · exact e
    · intro hm
      rcases hz.2 (.inr hm) with e | e
      · subst e; have := hb.1 z hm; omega
      · exact e
def qcf (l ns : List Int) : List Int := ns.foldl withP l
mutual
def readsP : Ex → List Int
  | .mk o n _ l => readsL (if o = 3 then [n] else []) l
def readsL (acc : List Int) : List Ex → List Int
  | [] => acc
  | e :: l => readsL (qcf acc (readsP e)) l
end
theorem addAll_mem (x : Int) : ∀ (ns l : List Int), x ∈ qcf l ns ↔ x ∈ ns ∨ x ∈ l
  | [], l => by simp [qcf]
  | n :: ns, l => by
    rw [qcf, List.foldl_cons]
    have := addAll_mem x ns (withP l n)
    rw [qcf] at this
    rw [this, withP_mem, List.mem_cons]
    constructor
    · rintro (h | h | h) <;> simp [h]
    · rintro ((h | h) | h) <;> simp [h]
theorem addAll_up : ∀ (ns l : List Int), Up l → Up (qcf l ns)
  | [], l, h => h
  | n :: ns, l, h => addAll_up ns (withP l n) (withP_up n l h)
end Go.Proofs.YtgpcpmfdklpifaaGreatDoor

/- Layer 25 on plain data: the last instruction that writes a register, as the reference looks for it. -/
namespace Go.Proofs.YtgpcpmfdklpifaaGreatDoor
open Go.RowKit Go.Lib
def insZ : Ins := ⟨0, 0, 0, 0, 0, 0, ByteArray.empty⟩
def lastP (l : List Ins) : Nat → Int → Int
  | 0, _ => -1
  | i + 1, r => if (l.getD i insZ).tgt = r then i else lastP l i r
theorem lastP_spec (l : List Ins) (r : Int) : ∀ i, (lastP l i r = -1 ∧ ∀ j, j < i → (l.getD j insZ).tgt ≠ r) ∨ ∃ j : Nat, lastP l i r = j ∧ j < i ∧ (l.getD j insZ).tgt = r ∧ ∀ k, j < k → k < i → (l.getD k insZ).tgt ≠ r
  | 0 => .inl ⟨rfl, fun j hj => by omega⟩
  | i + 1 => by
    rw [lastP]
    by_cases h : (l.getD i insZ).tgt = r
    · rw [if_pos h]
      exact .inr ⟨i, rfl, by omega, h, fun k h1 h2 => by omega⟩
    · rw [if_neg h]
      rcases lastP_spec l r i with ⟨h1, h2⟩ | ⟨j, h1, h2, h3, h4⟩
      · refine .inl ⟨h1, fun j hj => ?_⟩
        by_cases e : j = i
        · subst e; exact h
        · exact h2 j (by omega)
      · refine .inr ⟨j, h1, by omega, h3, fun k h5 h6 => ?_⟩
        by_cases e : k = i
        · subst e; exact h
        · exact h4 k h5 (by omega)
theorem getD_ins {l : List Ins} {k : Nat} (h : k < l.length) : l.getD k insZ = l[k] := by rw [List.getD_eq_getElem?_getD, List.getElem?_eq_getElem h]; rfl
theorem last_at' : ∀ (l : List Ins) (i0 : Nat) (last : List Nat) (r i : Nat) (hi : i < l.length), l[i].tgt.toNat = r → (∀ j (h : j < l.length), i < j → l[j].tgt.toNat ≠ r) → r < last.length → (lastL l i0 last).getD r 0 = i0 + i
  | x :: l, i0, last, r, 0, _, hx, hn, hr => by
    rw [lastL]
    have keep : ∀ (l : List Ins) (k : Nat) (last : List Nat), (∀ j (h : j < l.length), l[j].tgt.toNat ≠ r) → (lastL l k last).getD r 0 = last.getD r 0 := fun l => by
      induction l with
      | nil => intro _ _ _; rfl
      | cons y l ih =>
        intro k last h
        rw [lastL, ih _ _ fun j hj => h (j + 1) (by simpa using hj), qu, if_neg (fun e => h 0 (by simp) e.1)]
    rw [keep l _ _ fun j hj => hn (j + 1) (by simpa using hj) (by omega), qu, if_pos ⟨hx, by have hx2 : x.tgt.toNat = r := hx; rw [hx2]; exact hr⟩]; rfl
  | x :: l, i0, last, r, i + 1, hi, hx, hn, hr => by
    rw [lastL, last_at' l (i0 + 1) _ r i (by simpa using hi) hx (fun j hj hij => hn (j + 1) (by simpa using hj) (by omega)) (by rw [List.length_set]; exact hr)]
    omega
theorem done_some' : ∀ (l : List Ins) (done : List Bool) (r : Nat), (doneL l done).getD r false = true → done.getD r false = false → ∃ i, ∃ h : i < l.length, l[i].tgt.toNat = r
  | [], done, r, h1, h2 => by rw [doneL] at h1; rw [h1] at h2; cases h2
  | x :: l, done, r, h1, h2 => by
    by_cases hx : x.tgt.toNat = r
    · exact ⟨0, by simp, hx⟩
    · rw [doneL] at h1
      obtain ⟨i, hi, h⟩ := done_some' l _ r h1 (by rw [qu, if_neg (fun e => hx e.1)]; exact h2)
      exact ⟨i + 1, by simpa using hi, h⟩
theorem lastP_eq {c : Cod} {cols : List Int} (h : CodOk c cols) {i : Nat} (hi : i ≤ c.ins.length) {r : Int} (h0 : 0 ≤ r) (h1 : r < c.types.length) (hd : (doneL (c.ins.take i) (List.replicate c.types.length false)).getD r.toNat false = true) :
    lastP c.ins i r = ((lastL (c.ins.take i) 0 (List.replicate c.types.length 0)).getD r.toNat 0 : Nat) ∧ 0 ≤ lastP c.ins i r := by
  have hto : ∀ i (hi : i < c.ins.length), 0 ≤ c.ins[i].tgt := fun i hi => (AllOk.at c.ins i _ hi h.all).to0
  obtain ⟨j0, hj0, e0⟩ := done_some' _ _ _ hd (by rw [List.getD_eq_getElem?_getD, List.getElem?_replicate]; split <;> rfl)
  rw [List.length_take] at hj0
  rw [List.getElem_take] at e0
  rcases lastP_spec c.ins r i with ⟨-, h3⟩ | ⟨j, h3, h4, h5, h6⟩
  · exfalso
    have := h3 j0 (by omega)
    rw [getD_ins (by omega)] at this
    have := hto j0 (by omega)
    omega
  · rw [getD_ins (by omega)] at h5
    rw [h3, last_at' (c.ins.take i) 0 _ r.toNat j (by rw [List.length_take]; omega) (by rw [List.getElem_take, h5]) (fun k hk hjk => by
      rw [List.length_take] at hk
      rw [List.getElem_take]
      have := h6 k hjk (by omega)
      rw [getD_ins (by omega)] at this
      have := hto k (by omega)
      omega) (by simp; omega)]
    exact ⟨by omega, by omega⟩
theorem nodes_at : ∀ (l : List Ins) (i0 : Nat) (last : List Nat) (i : Nat) (hi : i < l.length), (nodes l i0 last)[i]? = some ⟨l[i], (opsP l[i]).map fun r => (lastL (l.take i) i0 last).getD r.toNat 0⟩
  | x :: l, i0, last, 0, _ => by rw [nodes]; simp [lastL]
  | x :: l, i0, last, i + 1, hi => by
    rw [nodes, List.getElem?_cons_succ, nodes_at l _ _ i (by simpa using hi)]
    simp [lastL]
theorem src_last {c : Cod} {cols : List Int} (h : CodOk c cols) {i : Nat} (hi : i < c.ins.length) : (opsP c.ins[i]).map (lastP c.ins i) = (srcOf (qt c) i).map fun k : Nat => (k : Int) := by
  unfold srcOf qt
  rw [List.getD_eq_getElem?_getD, nodes_at c.ins 0 _ i hi]
  simp only [Option.getD_some, List.map_map]
  refine List.map_congr_left fun r hr => ?_
  obtain ⟨h1, h2, h3⟩ := (AllOk.at c.ins i _ hi h.all).args r hr
  exact (lastP_eq h (by omega) h1 h2 h3).1
theorem root_last {c : Cod} {cols : List Int} (h : CodOk c cols) : lastP c.ins c.ins.length c.out = rootC c := by
  have := (lastP_eq h (Nat.le_refl _) h.out0 h.out1 (by rw [List.take_length]; exact h.out2)).1
  rw [List.take_length] at this
  exact this
def laterB (c : Cod) (a : Nat) (v : Int) : Bool := lastP c.ins c.ins.length c.out == v || (List.range c.ins.length).any fun i => decide (a < i) && (opsP (c.ins.getD i insZ)).any fun r => lastP c.ins i r == v
theorem endI_gt : ∀ (l : List Nd) (i : Nat) (e : List Nat) (k a : Nat), k < e.length → e.getD k 0 ≤ i → (a < (endI l i e).getD k 0 ↔ a < e.getD k 0 ∨ ∃ j, j < l.length ∧ (k ∈ srcOf l j ∨ k = i + j) ∧ a < i + j)
  | [], i, e, k, a, hk, he => by rw [endI]; simp
  | d :: l, i, e, k, a, hk, he => by
    rw [endI]
    obtain ⟨h1, h2⟩ := fold_end d.src (e.set i i) i
    obtain ⟨h3, h4⟩ := h2 k (by simpa using hk)
    have hs0 : srcOf (d :: l) 0 = d.src := rfl
    have hss : ∀ j, srcOf (d :: l) (j + 1) = srcOf l j := fun j => by unfold srcOf; rw [List.getD_cons_succ]
    have key : (d.src.foldl (fun e k => e.set k i) (e.set i i)).getD k 0 = if k ∈ d.src ∨ k = i then i else e.getD k 0 := by
      by_cases hm : k ∈ d.src
      · rw [h3 hm, if_pos (.inl hm)]
      · rw [h4 hm, qu]
        by_cases hki : k = i
        · subst hki; rw [if_pos ⟨rfl, hk⟩, if_pos (.inr rfl)]
        · rw [if_neg (fun e => hki e.1.symm), if_neg (fun e => e.elim hm hki)]
    rw [endI_gt l (i + 1) _ k a (by rw [h1]; simpa using hk) (by rw [key]; split <;> omega), key]
    constructor
    · rintro (h | ⟨j, h5, h6, h7⟩)
      · split at h
        · rename_i hc
          exact .inr ⟨0, by simp, by rw [hs0]; simpa using hc, by omega⟩
        · exact .inl h
      · exact .inr ⟨j + 1, by simpa using h5, by rw [hss]; rcases h6 with h6 | h6; exact .inl h6; exact .inr (by omega), by omega⟩
    · rintro (h | ⟨j, h5, h6, h7⟩)
      · left; split <;> omega
      · cases j with
        | zero =>
          left
          rw [hs0] at h6
          rw [if_pos (by simpa using h6)]; omega
        | succ j => exact .inr ⟨j, by simpa using h5, by rw [hss] at h6; rcases h6 with h6 | h6; exact .inl h6; exact .inr (by omega), by omega⟩
theorem later_end {c : Cod} {cols : List Int} (h : CodOk c cols) {a v : Nat} (hva : v ≤ a) (ha : a < c.ins.length) : laterB c a v = decide (a < (endP (qt c) (rootC c)).getD v 0) := by
  have hnl : (qt c).length = c.ins.length := by unfold qt; exact qx _ _ _
  rw [Bool.eq_iff_iff, decide_eq_true_iff]
  unfold laterB endP
  rw [root_last h, qu, endI_len, List.length_replicate, hnl]
  have hend := endI_gt (qt c) 0 (List.replicate c.ins.length 0) v a (by simp; omega) (by rw [List.getD_eq_getElem?_getD, List.getElem?_replicate]; split <;> simp)
  by_cases hr : rootC c = v
  · rw [if_pos ⟨hr, by omega⟩]
    simp [hr, ha]
  · rw [if_neg (fun e => hr e.1), hend]
    simp only [Bool.or_eq_true, beq_iff_eq, List.any_eq_true, List.mem_range, Bool.and_eq_true, decide_eq_true_eq]
    have hsrc : ∀ i, i < c.ins.length → ((∃ r ∈ opsP (c.ins.getD i insZ), lastP c.ins i r = v) ↔ v ∈ srcOf (qt c) i) := fun i hi => by
      rw [getD_ins hi]
      have hm := src_last h hi
      constructor
      · rintro ⟨r, hr1, hr2⟩
        have : lastP c.ins i r ∈ (srcOf (qt c) i).map fun k : Nat => (k : Int) := by rw [← hm]; exact List.mem_map_of_mem hr1
        obtain ⟨k, hk1, hk2⟩ := List.mem_map.1 this
        have : k = v := by omega
        rw [← this]; exact hk1
      · intro hv
        have : (v : Int) ∈ (opsP c.ins[i]).map (lastP c.ins i) := by rw [hm]; exact List.mem_map.2 ⟨v, hv, rfl⟩
        obtain ⟨r, hr1, hr2⟩ := List.mem_map.1 this
        exact ⟨r, hr1, hr2⟩
    constructor
    · rintro (h1 | ⟨i, hi, h1, h2⟩)
      · exact absurd (by omega) hr
      · exact .inr ⟨i, by omega, .inl ((hsrc i hi).1 h2), by omega⟩
    · rintro (h1 | ⟨j, h1, h2, h3⟩)
      · rw [List.getD_eq_getElem?_getD, List.getElem?_replicate] at h1
        split at h1 <;> simp at h1
      · rcases h2 with h2 | h2
        · exact .inr ⟨j, by omega, by omega, (hsrc j (by omega)).2 h2⟩
        · omega
end Go.Proofs.YtgpcpmfdklpifaaGreatDoor
