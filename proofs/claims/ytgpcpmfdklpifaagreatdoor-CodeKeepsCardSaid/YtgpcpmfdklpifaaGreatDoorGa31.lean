/- Walk of layer 25: code.Reads. -/
import Derived.Lib.SlicesCompact
import Derived.Test.YtgpcpmfdklpifaaGreatDoorGa4
import Derived.Test.YtgpcpmfdklpifaaGreatDoorGa14
import Derived.Test.YtgpcpmfdklpifaaGreatDoorGa16
import Derived.Test.YtgpcpmfdklpifaaGreatDoorGa17
import Derived.Test.YtgpcpmfdklpifaaGreatDoorGa19
import Derived.Test.YtgpcpmfdklpifaaGreatDoorGa21
import Derived.Test.YtgpcpmfdklpifaaGreatDoorGa27
import Derived.Test.YtgpcpmfdklpifaaGreatDoorGa28
import Derived.Test.YtgpcpmfdklpifaaGreatDoorGa29
import Derived.Test.YtgpcpmfdklpifaaGreatDoorGa30
set_option linter.unusedSimpArgs false
set_option linter.unusedVariables false
namespace Go.Proofs.YtgpcpmfdklpifaaGreatDoor
open Go.RowKit Go.Lib
def colsI (l : List Ins) : List Int := (l.filter fun x => decide (x.op = 3)).map Ins.n
def qbw (c : Cod) : List Int := Lib.compact (sortI (colsI c.ins))
theorem colsI_len (l : List Ins) : (colsI l).length ≤ l.length := by unfold colsI; rw [List.length_map]; exact List.length_filter_le _ _
set_option maxHeartbeats 8000000 in
theorem creads_g (c : Cod) (hc : c.ins.length ≤ 1000000) : Gives Tryz.prog 19 [c.av] (.sl ((qbw c).map AV.int)) := by
  obtain ⟨R, hR⟩ : ∃ R, R = qbw c := ⟨_, rfl⟩
  rw [← hR]
  obtain ⟨ins, types, out⟩ := c
  simp only at hc
  unfold qbw at hR
  simp only at hR
  refine qn Tryz.func19 Tryz.ntmps19 rfl rfl (by decide) rfl (by intro n; simp) fun σ n0 hcl hft => ?_
  repeat' (first | ((first | ((with_reducible refine qo (fun hg => ?_) (fun hg => ?_)) <;> (try simp only [hg]) <;> (try simp only [gS] at hg) <;> (try (first | simp only [eq_false hg, gI] | simp only [eq_true hg, gI]))) | (with_reducible first | refine qc ?_ | refine qb ?_ | refine qi ?_ | refine qh ?_) | refine qe ?_ | refine qj ?_ | refine qk ?_ | refine qm ?_) <;> (try simp (disch := first | omega | simp) [qg, -qq, -qs])) | ((with_reducible refine sideT ?_ ?_); first | omega | assumption | (simp; done)) | (refine qf fun K hK => ?_) | (refine qa ?_) | refine ql ?_ | ((first | refine hK _ ?_ | (clear hK K; refine hK _ ?_) | (clear hK K; clear hK K; refine hK _ ?_)); clear hK K) | refine qd ?_)
  refine qby 3 3 1 (by simp) ?_
  refine awp_thawR 3 1 (et := 3) (sz := 1) (by simp) (by rfl) ?_
  refine qr hcl (fun k : Nat => [(3, .own (n0 + 2) (colsI (ins.take k)).length), (7, .sl (ins.map Ins.av)), (8, .int ins.length), (9, .int k)])
    (fun k => [.cells [.sl (ins.map Ins.av), .sl (types.map AV.int), .int out] 25, .dead, .vec ((colsI (ins.take k)).map AV.int) 3 1])
    (fun k => k ≤ ins.length) (fun k => ins.length - k) 0 (by omega) (by simp [colsI]) fun k hk => ?_
  have hlk := colsI_len (ins.take k)
  rw [List.length_take] at hlk
  by_cases hlt : k < ins.length
  · have htk : colsI (ins.take (k + 1)) = colsI (ins.take k) ++ (if ins[k].op = 3 then [ins[k].n] else []) := by
      unfold colsI
      rw [List.take_succ_eq_append_getElem hlt, List.filter_append, List.map_append]
      by_cases h : ins[k].op = 3 <;> simp [h]
    generalize hx : ins[k] = x at *
    generalize hL : colsI (ins.take k) = L at *
    have hsz : (L.length + 1) * 8 ≤ 140737488355328 := by omega
    by_cases h3 : x.op = 3
    · rw [if_pos h3] at htk
      repeat' (first | ((first | ((with_reducible refine qo (fun hg => ?_) (fun hg => ?_)) <;> (try simp only [hg]) <;> (try simp only [gS] at hg) <;> (try (first | simp only [eq_false hg, gI] | simp only [eq_true hg, gI]))) | (with_reducible first | refine qc ?_ | refine qb ?_ | refine qi ?_ | refine qh ?_) | refine awp_regionW (id := 6) 4 (by rfl) ?_ | refine qe ?_ | refine qj ?_ | refine qk ?_ | refine qm ?_) <;> (try simp (disch := first | omega | simp) [qg, -qq, -qs, hlt, hx, h3, hsz, List.take_succ_cons, List.drop_succ_cons])) | ((with_reducible refine sideT ?_ ?_); first | omega | assumption | (simp; done)) | (refine qf fun K hK => ?_) | (refine qa ?_) | refine ql ?_ | ((first | refine hK _ ?_ | (clear hK K; refine hK _ ?_) | (clear hK K; clear hK K; refine hK _ ?_)); clear hK K) | refine qd ?_)
      exact ⟨k + 1, by omega, by omega, by rw [htk]; simp, by rw [htk]; simp, by omega⟩
    · rw [if_neg h3, List.append_nil] at htk
      repeat' (first | ((first | ((with_reducible refine qo (fun hg => ?_) (fun hg => ?_)) <;> (try simp only [hg]) <;> (try simp only [gS] at hg) <;> (try (first | simp only [eq_false hg, gI] | simp only [eq_true hg, gI]))) | (with_reducible first | refine qc ?_ | refine qb ?_ | refine qi ?_ | refine qh ?_) | refine qe ?_ | refine qj ?_ | refine qk ?_ | refine qm ?_) <;> (try simp (disch := first | omega | simp) [qg, -qq, -qs, hlt, hx, h3])) | ((with_reducible refine sideT ?_ ?_); first | omega | assumption | (simp; done)) | (refine qf fun K hK => ?_) | (refine qa ?_) | refine ql ?_ | ((first | refine hK _ ?_ | (clear hK K; refine hK _ ?_) | (clear hK K; clear hK K; refine hK _ ?_)); clear hK K) | refine qd ?_)
      all_goals first | exact absurd (by assumption) h3 | exact ⟨k + 1, by omega, by omega, by rw [htk], by rw [htk], by omega⟩
  · obtain rfl : k = ins.length := by omega
    rw [List.take_length]
    have hl := colsI_len ins
    generalize colsI ins = L at *
    have c1 := fun σ h => sort_ac (n0 + 2) L σ h (by omega)
    have c2 := fun σ h => compact_ac (n0 + 2) (sortI L) σ h (by rw [List.length_mergeSort]; omega)
    have hsl : (sortI L).length = L.length := List.length_mergeSort L
    rw [hsl] at c2
    repeat' (first | ((first | ((with_reducible refine qo (fun hg => ?_) (fun hg => ?_)) <;> (try simp only [hg]) <;> (try simp only [gS] at hg) <;> (try (first | simp only [eq_false hg, gI] | simp only [eq_true hg, gI]))) | (with_reducible first | refine qc ?_ | refine qb ?_ | refine qi ?_ | refine qh ?_) | refine acallS (n0 + 2) _ (c1 _ (by simp)) (by simp) ?_ | refine acallS (n0 + 2) _ (c2 _ (by simp)) (by simp) ?_ | refine qe ?_ | refine qj ?_ | refine qk ?_ | refine qm ?_) <;> (try simp (disch := first | omega | simp) [qg, -qq, -qs, hlt])) | ((with_reducible refine sideT ?_ ?_); first | omega | assumption | (simp; done)) | (refine qf fun K hK => ?_) | (refine qa ?_) | refine ql ?_ | ((first | refine hK _ ?_ | (clear hK K; refine hK _ ?_) | (clear hK K; clear hK K; refine hK _ ?_)); clear hK K) | refine qd ?_)
    rw [hR]
end Go.Proofs.YtgpcpmfdklpifaaGreatDoor

/- Walks: an ascending list with a number more; the columns that an expression reads, of the reference. -/
namespace Go.Proofs.YtgpcpmfdklpifaaGreatDoor
open Go.RowKit Go.Lib
theorem awp_nilR {P : Program} {c : Code} {Q : Exit → AS → Prop} {n n0 : Nat} {t : Nat → AV} {σ : Nat → AB} {L : List AB} (d : Nat) (hd : t d = .v (.slice none 0 0))
    (h : awp P c Q ⟨n, upd t d (.sl []), σ, n0, L⟩) : awp P c Q ⟨n, t, σ, n0, L⟩ := by
  intro X0 a w ⟨X, hc⟩
  refine h X0 a w ⟨X, ⟨hc.w, hc.σ, hc.sr, hc.fr, hc.size, fun k => ?_, hc.defers, hc.fin⟩⟩
  show RR X (upd t d _ k) _
  unfold upd
  by_cases hk : k = d
  · subst hk
    rw [if_pos rfl]
    have h1 := hc.regs k
    change RR X (t k) _ at h1
    rw [hd] at h1
    have h2 : RC X (.v (.slice none 0 0)) [_] := h1
    have h3 := RC.pub1 (x := .v (.slice none 0 0)) rfl h2
    rw [AV.pub] at h3
    exact h3
  · rw [if_neg hk]; exact hc.regs k
theorem addAll_len : ∀ (ns l : List Int), (qcf l ns).length ≤ l.length + ns.length
  | [], l => by simp [qcf]
  | n :: ns, l => by
    have := addAll_len ns (withP l n)
    have h2 := withP_len n l
    rw [qcf, List.foldl_cons]
    rw [qcf] at this
    simp; omega
mutual
theorem readsP_len : ∀ e : Ex, (readsP e).length ≤ parts e
  | .mk o n s l => by
    rw [readsP, parts]
    have := readsL_len l (if o = 3 then [n] else [])
    split at this <;> simp_all <;> omega
theorem readsL_len : ∀ (l : List Ex) (acc : List Int), (readsL acc l).length ≤ acc.length + qbt l
  | [], acc => by rw [readsL, qbt]; omega
  | e :: l, acc => by
    rw [readsL, qbt]
    have h1 := readsL_len l (qcf acc (readsP e))
    have h2 := addAll_len (readsP e) acc
    have h3 := readsP_len e
    omega
end
end Go.Proofs.YtgpcpmfdklpifaaGreatDoor

/- The columns that a program reads, on plain data: sorted and compacted, or put in one by one. -/
namespace Go.Proofs.YtgpcpmfdklpifaaGreatDoor
open Go.RowKit Go.Lib
theorem up_snoc : ∀ (l : List Int) (a : Int), Up l → (∀ x ∈ l, x < a) → Up (l ++ [a])
  | [], a, _, _ => ⟨by simp, trivial⟩
  | b :: l, a, h, hl => by
    rw [List.cons_append, Up]
    refine ⟨fun x hx => ?_, up_snoc l a h.2 fun x hx => hl x (by simp [hx])⟩
    rcases List.mem_append.1 hx with hx | hx
    · exact h.1 x hx
    · rw [List.mem_singleton.1 hx]; exact hl b (by simp)
theorem compact_up (d : Array Int) (hs : ∀ i j, i ≤ j → j < d.size → d[i]! ≤ d[j]!) : ∀ m, m ≤ d.size → Up (Lib.compactUpTo d m) ∧ (∀ x ∈ Lib.compactUpTo d m, ∃ j, j < m ∧ x = d[j]!) ∧ ∀ j, j < m → d[j]! ∈ Lib.compactUpTo d m
  | 0, _ => ⟨by simp [Lib.compactUpTo, Up], by simp [Lib.compactUpTo], fun j hj => absurd hj (Nat.not_lt_zero _)⟩
  | m + 1, hm => by
    obtain ⟨h1, h2, h3⟩ := compact_up d hs m (by omega)
    rw [Lib.compactUpTo_succ]
    by_cases hk : Lib.keeps d m = true
    · rw [if_pos hk]
      have hlt : ∀ x ∈ Lib.compactUpTo d m, x < d[m]! := fun x hx => by
        obtain ⟨j, hj, rfl⟩ := h2 x hx
        have h4 := hs j (m - 1) (by omega) (by omega)
        have h5 := hs (m - 1) m (by omega) (by omega)
        have h6 : d[m]! ≠ d[m - 1]! := fun e => by rw [Lib.keeps_neg (by omega) e] at hk; cases hk
        omega
      refine ⟨up_snoc _ _ h1 hlt, fun x hx => ?_, fun j hj => ?_⟩
      · rcases List.mem_append.1 hx with hx | hx
        · obtain ⟨j, hj, e⟩ := h2 x hx; exact ⟨j, by omega, e⟩
        · exact ⟨m, by omega, List.mem_singleton.1 hx⟩
      · by_cases hjm : j = m
        · subst hjm; simp
        · exact List.mem_append_left _ (h3 j (by omega))
    · rw [if_neg hk, List.append_nil]
      have hm0 : m ≠ 0 := fun e => hk (by subst e; exact Lib.keeps_lt_one d 0 (by omega))
      have he : d[m]! = d[m - 1]! := Classical.byContradiction fun h => hk (Lib.keeps_pos h)
      refine ⟨h1, fun x hx => ?_, fun j hj => ?_⟩
      · obtain ⟨j, hj, e⟩ := h2 x hx; exact ⟨j, by omega, e⟩
      · by_cases hjm : j = m
        · subst hjm; rw [he]; exact h3 _ (by omega)
        · exact h3 j (by omega)
theorem sorted_le (l : List Int) : ∀ i j, i ≤ j → j < (sortI l).toArray.size → (sortI l).toArray[i]! ≤ (sortI l).toArray[j]! := fun i j hij hj => by
  have hp : (sortI l).Pairwise fun a b => decide (a ≤ b) = true := List.pairwise_mergeSort (fun a b c h1 h2 => by simp at *; omega) (fun a b => by simp; omega) l
  have hj2 : j < (sortI l).length := by simpa using hj
  have hi2 : i < (sortI l).length := by omega
  rw [List.getElem!_toArray, List.getElem!_toArray, getElem!_pos (sortI l) i hi2, getElem!_pos (sortI l) j hj2]
  by_cases e : i = j
  · subst e; omega
  · have := List.pairwise_iff_getElem.1 hp i j hi2 hj2 (by omega)
    simpa using this
theorem compact_sort (l : List Int) : Up (Lib.compact (sortI l)) ∧ ∀ x, x ∈ Lib.compact (sortI l) ↔ x ∈ l := by
  obtain ⟨h1, h2, h3⟩ := compact_up (sortI l).toArray (sorted_le l) (sortI l).length (by simp)
  refine ⟨h1, fun x => ⟨fun hx => ?_, fun hx => ?_⟩⟩
  · obtain ⟨j, hj, rfl⟩ := h2 x hx
    rw [List.getElem!_toArray, getElem!_pos (sortI l) j hj]
    exact List.mem_mergeSort.1 (List.getElem_mem hj)
  · obtain ⟨j, hj, rfl⟩ := List.mem_iff_getElem.1 (List.mem_mergeSort (le := fun x y => decide (x ≤ y)).2 hx)
    have := h3 j hj
    rw [List.getElem!_toArray, getElem!_pos (sortI l) j hj] at this
    exact this
theorem creads_add (c : Cod) : qcf [] (colsI c.ins) = qbw c := by
  obtain ⟨h1, h2⟩ := compact_sort (colsI c.ins)
  refine up_ext _ _ (addAll_up _ _ trivial) h1 fun x => ?_
  rw [addAll_mem]
  unfold qbw
  rw [h2]; simp
theorem creads_up (c : Cod) : Up (qbw c) := (compact_sort (colsI c.ins)).1
theorem creads_mem (c : Cod) (x : Int) : x ∈ qbw c ↔ ∃ i ∈ c.ins, i.op = 3 ∧ i.n = x := by
  unfold qbw
  rw [(compact_sort (colsI c.ins)).2]
  unfold colsI
  simp [List.mem_map, List.mem_filter, and_assoc]
end Go.Proofs.YtgpcpmfdklpifaaGreatDoor

/- Walk of the law CodeReads, given the examples. -/
namespace Go.Proofs.YtgpcpmfdklpifaaGreatDoor
open Go.RowKit Go.Lib
theorem step_congr {time time' : Int} {row row' : List Val} {x : Ins} (h3 : x.op = 3 → row.getD x.n.toNat zeroV = row'.getD x.n.toNat zeroV) (h5 : x.op = 5 → time = time') (regs : List Val) : stepI time row regs x = stepI time' row' regs x := by
  have : opI time row x (argsI regs x) = opI time' row' x (argsI regs x) := by
    unfold opI
    by_cases h21 : x.op = 21
    · rw [if_pos h21, if_pos h21]
    · rw [if_neg h21, if_neg h21]
      unfold opV
      by_cases e3 : x.op = 3
      · rw [h3 e3]; simp [e3]
      · by_cases e5 : x.op = 5
        · rw [h5 e5]; simp [e5]
        · simp [e3, e5]
  unfold stepI; rw [this]
theorem regs_congr {time time' : Int} {row row' : List Val} : ∀ (l : List Ins) (regs : List Val), (∀ x ∈ l, (x.op = 3 → row.getD x.n.toNat zeroV = row'.getD x.n.toNat zeroV) ∧ (x.op = 5 → time = time')) → regsI time row l regs = regsI time' row' l regs
  | [], _, _ => rfl
  | x :: l, regs, h => by
    have h0 := h x (by simp)
    show regsI time row l (stepI time row regs x) = regsI time' row' l (stepI time' row' regs x)
    rw [step_congr h0.1 h0.2]
    exact regs_congr l _ fun y hy => h y (by simp [hy])
theorem val_congr {c : Cod} {time time' : Int} {row row' : List Val} (h : ∀ x ∈ c.ins, (x.op = 3 → row.getD x.n.toNat zeroV = row'.getD x.n.toNat zeroV) ∧ (x.op = 5 → time = time')) : valC c time row = valC c time' row' := by
  unfold valC; rw [regs_congr _ _ h]
def mixR (row : List Val) (m : List Val) (ns : List Int) : List Val := ns.foldl (fun m n => m.set n.toNat (row.getD n.toNat zeroV)) m
theorem mixR_len (row : List Val) : ∀ (ns : List Int) (m : List Val), (mixR row m ns).length = m.length
  | [], m => rfl
  | n :: ns, m => by
    show (mixR row (m.set _ _) ns).length = _
    rw [mixR_len row ns, List.length_set]
theorem mixR_get (row : List Val) : ∀ (ns : List Int) (m : List Val) (j : Nat), j < m.length → (∀ n ∈ ns, 0 ≤ n) → ((j : Int) ∈ ns → (mixR row m ns).getD j zeroV = row.getD j zeroV) ∧ ((j : Int) ∉ ns → (mixR row m ns).getD j zeroV = m.getD j zeroV)
  | [], m, j, hj, _ => ⟨fun h => by simp at h, fun _ => rfl⟩
  | n :: ns, m, j, hj, h0 => by
    have ih := mixR_get row ns (m.set n.toNat (row.getD n.toNat zeroV)) j (by rw [List.length_set]; exact hj) fun n hn => h0 n (by simp [hn])
    have e : mixR row m (n :: ns) = mixR row (m.set n.toNat (row.getD n.toNat zeroV)) ns := rfl
    have hn0 := h0 n (by simp)
    rw [e]
    by_cases hm : (j : Int) ∈ ns
    · exact ⟨fun _ => ih.1 hm, fun h => absurd (List.mem_cons_of_mem _ hm) h⟩
    · rw [ih.2 hm, qu]
      by_cases hjn : (j : Int) = n
      · refine ⟨fun _ => ?_, fun h => absurd (by simp [hjn]) h⟩
        rw [if_pos ⟨by omega, by omega⟩]
        congr 1; omega
      · refine ⟨fun h => ?_, fun _ => by rw [if_neg (by omega)]⟩
        rcases List.mem_cons.1 h with h | h
        · exact absurd h hjn
        · exact absurd h hm
theorem mixR_fit {cols : List Int} {row : List Val} : ∀ (ns : List Int) (m : List Val), m.map Val.k = cols → row.map Val.k = cols → (∀ v ∈ m, qbf v) → (∀ v ∈ row, qbf v) → (∀ n ∈ ns, 0 ≤ n ∧ n < cols.length) → (mixR row m ns).map Val.k = cols ∧ ∀ v ∈ mixR row m ns, qbf v
  | [], m, h1, _, h3, _, _ => ⟨h1, h3⟩
  | n :: ns, m, h1, h2, h3, h4, h5 => by
    have h6 := h5 n (by simp)
    have hl : n.toNat < row.length := by have := congrArg List.length h2; rw [List.length_map] at this; omega
    have hlm : n.toNat < m.length := by have := congrArg List.length h1; rw [List.length_map] at this; omega
    have hg : row.getD n.toNat zeroV = row[n.toNat] := by rw [List.getD_eq_getElem?_getD, List.getElem?_eq_getElem hl]; rfl
    refine mixR_fit ns (m.set n.toNat (row.getD n.toNat zeroV)) ?_ h2 (fun v hv => ?_) h4 fun n hn => h5 n (by simp [hn])
    · rw [List.map_set, h1, hg]
      have hk : row[n.toNat].k = cols[n.toNat]'(by omega) := by subst h2; simp
      rw [hk]; exact List.set_getElem_self _
    · rcases List.mem_or_eq_of_mem_set hv with hv | rfl
      · exact h3 v hv
      · rw [hg]; exact h4 _ (List.getElem_mem _)
theorem up_get : ∀ (l : List Int) (i : Nat) (h : i + 1 < l.length), Up l → l[i] < l[i + 1]
  | [], i, h, _ => by simp at h
  | a :: l, 0, h, hu => hu.1 _ (List.getElem_mem _)
  | a :: l, i + 1, h, hu => up_get l i (by simpa using h) hu.2
theorem suits_snd {c : Cod} {cols : List Int} {row : List Val} (h : suitsB c cols row = true) : ∀ v ∈ row, qbf v := by
  obtain ⟨-, -, -, -, h5⟩ := suits_ok h
  unfold rowOk at h5
  simp only [Bool.and_eq_true, List.all_eq_true] at h5
  exact fun v hv => rightV_sound (h5.2 v hv)
set_option maxRecDepth 100000 in
set_option maxHeartbeats 8000000 in
theorem codeReads_g (hsm : Gives Tryz.prog 7 [] (.bool true)) (c : Cod) (cols : List Int) (time : Int) (row : List Val) (other : Int) (second : List Val) : Gives Tryz.prog 5 [c.av, .sl (cols.map AV.int), .int time, .sl (row.map Val.av), .int other, .sl (second.map Val.av)] (.bool true) := by
  have c1 := suits_g c cols row
  have c2 := suits_g c cols second
  cases hb : suitsB c cols row
  · rw [hb] at c1
    obtain ⟨ins, types, out⟩ := c
    refine qn Tryz.func5 Tryz.ntmps5 rfl rfl (by decide) rfl (by intro n; simp) fun σ n0 hcl hft => ?_
    repeat' (first | ((first | ((with_reducible refine qo (fun hg => ?_) (fun hg => ?_)) <;> (try simp only [hg]) <;> (try simp only [gS] at hg) <;> (try (first | simp only [eq_false hg, gI] | simp only [eq_true hg, gI]))) | (with_reducible first | refine qc ?_ | refine qb ?_ | refine qi ?_ | refine qh ?_) | refine acall (hsm) ?_ | refine qp (hsm) ?_ | refine acall (c1) ?_ | refine qp (c1) ?_ | refine qe ?_ | refine qj ?_ | refine qk ?_ | refine qm ?_) <;> (try simp (disch := first | omega | simp) [qg, -qq, -qs])) | ((with_reducible refine sideT ?_ ?_); first | omega | assumption | (simp; done)) | (refine qf fun K hK => ?_) | (refine qa ?_) | refine ql ?_ | ((first | refine hK _ ?_ | (clear hK K; refine hK _ ?_) | (clear hK K; clear hK K; refine hK _ ?_)); clear hK K) | refine qd ?_)
  cases hb2 : suitsB c cols second
  · rw [hb] at c1
    rw [hb2] at c2
    obtain ⟨ins, types, out⟩ := c
    refine qn Tryz.func5 Tryz.ntmps5 rfl rfl (by decide) rfl (by intro n; simp) fun σ n0 hcl hft => ?_
    repeat' (first | ((first | ((with_reducible refine qo (fun hg => ?_) (fun hg => ?_)) <;> (try simp only [hg]) <;> (try simp only [gS] at hg) <;> (try (first | simp only [eq_false hg, gI] | simp only [eq_true hg, gI]))) | (with_reducible first | refine qc ?_ | refine qb ?_ | refine qi ?_ | refine qh ?_) | refine acall (hsm) ?_ | refine qp (hsm) ?_ | refine acall (c1) ?_ | refine qp (c1) ?_ | refine acall (c2) ?_ | refine qp (c2) ?_ | refine qe ?_ | refine qj ?_ | refine qk ?_ | refine qm ?_) <;> (try simp (disch := first | omega | simp) [qg, -qq, -qs])) | ((with_reducible refine sideT ?_ ?_); first | omega | assumption | (simp; done)) | (refine qf fun K hK => ?_) | (refine qa ?_) | refine ql ?_ | ((first | refine hK _ ?_ | (clear hK K; refine hK _ ?_) | (clear hK K; clear hK K; refine hK _ ?_)); clear hK K) | refine qd ?_)
  rw [hb] at c1
  rw [hb2] at c2
  obtain ⟨h, -, hcl, hk1, -⟩ := suits_ok hb
  obtain ⟨-, -, -, hk2, -⟩ := suits_ok hb2
  have f1 := suits_fit hb
  obtain ⟨ht, vt, lt⟩ := trim_ok h time row
  have c3 := trim_g h
  have c4 := creads_g (trimP c) (by have := ht.ni; omega)
  obtain ⟨G, hGe⟩ : ∃ G, G = qbw (trimP c) := ⟨_, rfl⟩
  have hGm : ∀ x, x ∈ G ↔ ∃ i ∈ (trimP c).ins, i.op = 3 ∧ i.n = x := fun x => by rw [hGe]; exact creads_mem _ x
  have hGu : Up G := by rw [hGe]; exact creads_up _
  have hGl : G.length ≤ 1000 := by
    have h1 : (qbw (trimP c)).length ≤ (trimP c).ins.length := by
      unfold qbw
      refine Nat.le_trans (Lib.compact_length_le _) ?_
      rw [List.length_mergeSort]
      exact colsI_len _
    have := ht.ni
    rw [hGe]; omega
  rw [← hGe] at c4
  clear hGe
  have c5 := rvalue_g h time f1
  have hG0 : ∀ n ∈ G, 0 ≤ n ∧ n < cols.length := fun n hn => by
    obtain ⟨x, hx, h3, rfl⟩ := (hGm _).1 hn
    obtain ⟨j, hj, rfl⟩ := List.mem_iff_getElem.1 hx
    exact (AllOk.at (trimP c).ins j _ hj ht.all).col h3
  have hG1 : ∀ i (hi : i + 1 < G.length), G[i] < G[i + 1] := fun i hi => up_get _ i hi hGu
  have hlr : row.length = cols.length := by have := congrArg List.length hk1; simpa using this
  have hls : second.length = cols.length := by have := congrArg List.length hk2; simpa using this
  obtain ⟨O, hO⟩ : ∃ O : Nat → Int, O = fun k => if ((trimP c).ins.take k).any (fun x => decide (x.op = 5)) then time else other := ⟨_, rfl⟩
  have O0 : O 0 = other := by rw [hO]; simp
  have O1 : ∀ k (hk : k < (trimP c).ins.length), O (k + 1) = if (trimP c).ins[k].op = 5 then time else O k := fun k hk => by
    rw [hO]; dsimp only
    rw [List.take_succ_eq_append_getElem hk, List.any_append]
    by_cases h5 : (trimP c).ins[k].op = 5 <;> simp [h5]
  obtain ⟨M, hM⟩ : ∃ M : Nat → List Val, M = fun k => mixR row second (G.take k) := ⟨_, rfl⟩
  have M0 : M 0 = second := by rw [hM]; rfl
  have M1 : ∀ k (hk : k < G.length) (h2 : G[k].toNat < row.length), M (k + 1) = (M k).set G[k].toNat row[G[k].toNat] := fun k hk h2 => by
    rw [hM]; dsimp only
    rw [List.take_succ_eq_append_getElem hk]
    unfold mixR
    rw [List.foldl_append, List.foldl_cons, List.foldl_nil, List.getD_eq_getElem?_getD, List.getElem?_eq_getElem h2]; rfl
  have ML : ∀ k, (M k).length = second.length := fun k => by rw [hM]; dsimp only; rw [mixR_len]
  have hval : Gives Tryz.prog 16 [c.av, .int (O (trimP c).ins.length), .sl ((M G.length).map Val.av)] (valC c time row).av := by
    have hmix : M G.length = mixR row second G := by rw [hM]; dsimp only; rw [List.take_length]
    have hfit := mixR_fit G second hk2 hk1 (suits_snd hb2) (suits_snd hb) hG0
    have hrf : qch cols (mixR row second G) := by
      have := qch.of hfit.2
      rwa [hfit.1] at this
    have h1 := rvalue_g h (O (trimP c).ins.length) hrf
    have h2 : valC c (O (trimP c).ins.length) (mixR row second G) = valC c time row := by
      rw [← vt, ← (trim_ok h (O (trimP c).ins.length) (mixR row second G)).2.1]
      refine val_congr fun x hx => ⟨fun h3 => ?_, fun h5 => ?_⟩
      · have hmem : x.n ∈ G := (hGm _).2 ⟨x, hx, h3, rfl⟩
        obtain ⟨g0, g1⟩ := hG0 _ hmem
        have := (mixR_get row G second x.n.toNat (by omega) fun n hn => (hG0 n hn).1).1
        rw [Int.toNat_of_nonneg g0] at this
        exact this hmem
      · rw [hO]; dsimp only
        rw [List.take_length, if_pos]
        rw [List.any_eq_true]
        exact ⟨x, hx, by simpa using h5⟩
    rw [h2] at h1
    rw [hmix]; exact h1
  have hVe : Val.eqB (valC c time row) (valC c time row) = true := by simp [Val.eqB]
  have htl := ht.ni
  clear vt ht hO hM
  generalize valC c time row = V at *
  generalize trimP c = t at *
  obtain ⟨ins, types, out⟩ := c
  obtain ⟨tins, ttypes, tout⟩ := t
  simp only at *
  have hsz : second.length * 32 ≤ 140737488355328 := by omega
  by_cases h0 : second.length = 0
  · have hsn : second = [] := List.eq_nil_of_length_eq_zero h0
    have hGn : G = [] := by
      cases G with
      | nil => rfl
      | cons g G => have := hG0 g (by simp); omega
    subst hsn
    subst hGn
    have hMn : M 0 = [] := M0
    rw [List.length_nil, hMn] at hval
    simp only [List.map_nil] at hval c2 c4
    refine qn Tryz.func5 Tryz.ntmps5 rfl rfl (by decide) rfl (by intro n; simp) fun σ n0 hcl hft => ?_
    repeat' (first | ((first | ((with_reducible refine qo (fun hg => ?_) (fun hg => ?_)) <;> (try simp only [hg]) <;> (try simp only [gS] at hg) <;> (try (first | simp only [eq_false hg, gI] | simp only [eq_true hg, gI]))) | (with_reducible first | refine qc ?_ | refine qb ?_ | refine qi ?_ | refine qh ?_) | refine acall (hsm) ?_ | refine qp (hsm) ?_ | refine acall (c1) ?_ | refine qp (c1) ?_ | refine acall (c2) ?_ | refine qp (c2) ?_ | refine acall (c3) ?_ | refine qp (c3) ?_ | refine acall (c4) ?_ | refine qp (c4) ?_ | refine qe ?_ | refine qj ?_ | refine qk ?_ | refine qm ?_) <;> (try simp (disch := first | omega | simp) [qg, -qq, -qs])) | ((with_reducible refine sideT ?_ ?_); first | omega | assumption | (simp; done)) | (refine qf fun K hK => ?_) | (refine qa ?_) | refine ql ?_ | ((first | refine hK _ ?_ | (clear hK K; refine hK _ ?_) | (clear hK K; clear hK K; refine hK _ ?_)); clear hK K) | refine qd ?_)
    refine awp_pubR 16 (by rfl) ?_
    refine qr hcl (fun k : Nat => [(2, .int time), (3, .sl (row.map Val.av)), (4, .int other), (6, .ptr n0 0), (13, .bool true), (14, .ptr (n0 + 1) 0), (15, .sl []), (16, .sl []), (17, .int k)])
      (fun _ => [.cells [.sl (ins.map Ins.av), .sl (types.map AV.int), .int out] 25, .cells [.sl (tins.map Ins.av), .sl (ttypes.map AV.int), .int tout] 25]) (fun k => k ≤ 0) (fun k => 0 - k) 0 (by omega) (by simp) fun k hk => ?_
    obtain rfl : k = 0 := by omega
    repeat' (first | ((first | ((with_reducible refine qo (fun hg => ?_) (fun hg => ?_)) <;> (try simp only [hg]) <;> (try simp only [gS] at hg) <;> (try (first | simp only [eq_false hg, gI] | simp only [eq_true hg, gI]))) | (with_reducible first | refine qc ?_ | refine qb ?_ | refine qi ?_ | refine qh ?_) | refine qe ?_ | refine qj ?_ | refine qk ?_ | refine qm ?_) <;> (try simp (disch := first | omega | simp) [qg, -qq, -qs])) | ((with_reducible refine sideT ?_ ?_); first | omega | assumption | (simp; done)) | (refine qf fun K hK => ?_) | (refine qa ?_) | refine ql ?_ | ((first | refine hK _ ?_ | (clear hK K; refine hK _ ?_) | (clear hK K; clear hK K; refine hK _ ?_)); clear hK K) | refine qd ?_)
    refine qr hcl (fun k : Nat => [(2, .int time), (3, .sl (row.map Val.av)), (4, .int (O k)), (6, .ptr n0 0), (13, .bool true), (14, .ptr (n0 + 1) 0), (16, .sl []), (18, .int k)])
      (fun _ => [.cells [.sl (ins.map Ins.av), .sl (types.map AV.int), .int out] 25, .cells [.sl (tins.map Ins.av), .sl (ttypes.map AV.int), .int tout] 25]) (fun k => k ≤ tins.length) (fun k => tins.length - k) 0 (by omega) (by simp [O0]) fun k hk => ?_
    by_cases hlt : k < tins.length
    · have o1 := O1 k hlt
      by_cases h5 : tins[k].op = 5
      · rw [if_pos h5] at o1
        repeat' (first | ((first | ((with_reducible refine qo (fun hg => ?_) (fun hg => ?_)) <;> (try simp only [hg]) <;> (try simp only [gS] at hg) <;> (try (first | simp only [eq_false hg, gI] | simp only [eq_true hg, gI]))) | (with_reducible first | refine qc ?_ | refine qb ?_ | refine qi ?_ | refine qh ?_) | refine qe ?_ | refine qj ?_ | refine qk ?_ | refine qm ?_) <;> (try simp (disch := first | omega | simp) [qg, -qq, -qs, hlt, h5])) | ((with_reducible refine sideT ?_ ?_); first | omega | assumption | (simp; done)) | (refine qf fun K hK => ?_) | (refine qa ?_) | refine ql ?_ | ((first | refine hK _ ?_ | (clear hK K; refine hK _ ?_) | (clear hK K; clear hK K; refine hK _ ?_)); clear hK K) | refine qd ?_)
        all_goals first | exact absurd h5 (by assumption) | exact ⟨k + 1, by omega, by omega, by rw [o1], by omega⟩
      · rw [if_neg h5] at o1
        repeat' (first | ((first | ((with_reducible refine qo (fun hg => ?_) (fun hg => ?_)) <;> (try simp only [hg]) <;> (try simp only [gS] at hg) <;> (try (first | simp only [eq_false hg, gI] | simp only [eq_true hg, gI]))) | (with_reducible first | refine qc ?_ | refine qb ?_ | refine qi ?_ | refine qh ?_) | refine qe ?_ | refine qj ?_ | refine qk ?_ | refine qm ?_) <;> (try simp (disch := first | omega | simp) [qg, -qq, -qs, hlt, h5])) | ((with_reducible refine sideT ?_ ?_); first | omega | assumption | (simp; done)) | (refine qf fun K hK => ?_) | (refine qa ?_) | refine ql ?_ | ((first | refine hK _ ?_ | (clear hK K; refine hK _ ?_) | (clear hK K; clear hK K; refine hK _ ?_)); clear hK K) | refine qd ?_)
        all_goals first | exact absurd (by assumption) h5 | exact ⟨k + 1, by omega, by omega, by rw [o1], by omega⟩
    · obtain rfl : k = tins.length := by omega
      repeat' (first | ((first | ((with_reducible refine qo (fun hg => ?_) (fun hg => ?_)) <;> (try simp only [hg]) <;> (try simp only [gS] at hg) <;> (try (first | simp only [eq_false hg, gI] | simp only [eq_true hg, gI]))) | (with_reducible first | refine qc ?_ | refine qb ?_ | refine qi ?_ | refine qh ?_) | refine acall (hval) ?_ | refine qp (hval) ?_ | refine acall (c5) ?_ | refine qp (c5) ?_ | refine qe ?_ | refine qj ?_ | refine qk ?_ | refine qm ?_) <;> (try simp (disch := first | omega | simp) [qg, -qq, -qs, hlt, hVe])) | ((with_reducible refine sideT ?_ ?_); first | omega | assumption | (simp; done)) | (refine qf fun K hK => ?_) | (refine qa ?_) | refine ql ?_ | ((first | refine hK _ ?_ | (clear hK K; refine hK _ ?_) | (clear hK K; clear hK K; refine hK _ ?_)); clear hK K) | refine qd ?_)
  have hpos : 0 < second.length := by omega
  have hpos2 : second ≠ [] := fun e => by rw [e] at hpos; simp at hpos
  refine qn Tryz.func5 Tryz.ntmps5 rfl rfl (by decide) rfl (by intro n; simp) fun σ n0 hcl hft => ?_
  repeat' (first | ((first | ((with_reducible refine qo (fun hg => ?_) (fun hg => ?_)) <;> (try simp only [hg]) <;> (try simp only [gS] at hg) <;> (try (first | simp only [eq_false hg, gI] | simp only [eq_true hg, gI]))) | (with_reducible first | refine qc ?_ | refine qb ?_ | refine qi ?_ | refine qh ?_) | refine acall (hsm) ?_ | refine qp (hsm) ?_ | refine acall (c1) ?_ | refine qp (c1) ?_ | refine acall (c2) ?_ | refine qp (c2) ?_ | refine acall (c3) ?_ | refine qp (c3) ?_ | refine acall (c4) ?_ | refine qp (c4) ?_ | refine qe ?_ | refine qj ?_ | refine qk ?_ | refine qm ?_) <;> (try simp (disch := first | omega | simp) [qg, -qq, -qs, hsz, hpos, hpos2])) | ((with_reducible refine sideT ?_ ?_); first | omega | assumption | (simp; done)) | (refine qf fun K hK => ?_) | (refine awp_regionV4 (by rfl) ?_) | (refine qa ?_) | ((first | refine hK _ ?_ | (clear hK K; refine hK _ ?_) | (clear hK K; clear hK K; refine hK _ ?_)); clear hK K) | refine qd ?_)
  refine qr hcl (fun k : Nat => [(2, .int time), (3, .sl (row.map Val.av)), (4, .int other), (6, .ptr n0 0), (13, .bool true), (14, .ptr (n0 + 1) 0), (15, .sl (G.map AV.int)), (16, .own (n0 + 3) second.length), (17, .int k)])
    (fun k => [.cells [.sl (ins.map Ins.av), .sl (types.map AV.int), .int out] 25, .cells [.sl (tins.map Ins.av), .sl (ttypes.map AV.int), .int tout] 25, .dead, .vec ((M k).map Val.av) 40 3]) (fun k => k ≤ G.length) (fun k => G.length - k) 0 (by omega) (by simp [M0]) fun k hk => ?_
  have ml := ML k
  by_cases hlt : k < G.length
  · obtain ⟨g0, g1⟩ := hG0 G[k] (List.getElem_mem _)
    have g2 : G[k].toNat < row.length := by omega
    have m1 := M1 k hlt g2
    have g3 : ¬ G[k] < 0 := by omega
    have g4 : ¬ (second.length : Int) ≤ G[k] := by omega
    have g5 : G[k] < second.length := by omega
    have g6 : G[k] < row.length := by omega
    by_cases hk0 : k = 0
    · subst hk0
      repeat' (first | ((first | ((with_reducible refine qo (fun hg => ?_) (fun hg => ?_)) <;> (try simp only [hg]) <;> (try simp only [gS] at hg) <;> (try (first | simp only [eq_false hg, gI] | simp only [eq_true hg, gI]))) | (with_reducible first | refine qc ?_ | refine qb ?_ | refine qi ?_ | refine qh ?_) | refine qe ?_ | refine qj ?_ | refine qk ?_ | refine qm ?_) <;> (try simp (disch := first | omega | simp) [qg, -qq, -qs, hlt, g0, g3, g4, g5, g6, ml])) | ((with_reducible refine sideT ?_ ?_); first | omega | assumption | (simp; done)) | (refine qf fun K hK => ?_) | (refine qa ?_) | refine ql ?_ | ((first | refine hK _ ?_ | (clear hK K; refine hK _ ?_) | (clear hK K; clear hK K; refine hK _ ?_)); clear hK K) | refine qd ?_)
      exact ⟨1, by omega, by omega, by rw [m1]; simp [List.map_set], by omega⟩
    · obtain ⟨q, rfl⟩ : ∃ q, k = q + 1 := ⟨k - 1, by omega⟩
      have hup := hG1 q hlt
      have hq1 : ¬ G[q + 1] ≤ G[q] := by omega
      have hq2 : q < G.length := by omega
      have hq3 : (if (q : Int) < 0 then (0 : Int) else q) = q := if_neg (by omega)
      repeat' (first | ((first | ((with_reducible refine qo (fun hg => ?_) (fun hg => ?_)) <;> (try simp only [hg]) <;> (try simp only [gS] at hg) <;> (try (first | simp only [eq_false hg, gI] | simp only [eq_true hg, gI]))) | (with_reducible first | refine qc ?_ | refine qb ?_ | refine qi ?_ | refine qh ?_) | refine qe ?_ | refine qj ?_ | refine qk ?_ | refine qm ?_) <;> (try simp (disch := first | omega | simp) [qg, -qq, -qs, hlt, g0, g3, g4, g5, g6, ml, hq1, hq2, hq3])) | ((with_reducible refine sideT ?_ ?_); first | omega | assumption | (simp; done)) | (refine qf fun K hK => ?_) | (refine qa ?_) | refine ql ?_ | ((first | refine hK _ ?_ | (clear hK K; refine hK _ ?_) | (clear hK K; clear hK K; refine hK _ ?_)); clear hK K) | refine qd ?_)
      all_goals first | (exfalso; omega) | exact ⟨q + 2, by omega, by omega, by rw [m1]; simp [List.map_set], by omega⟩
  · obtain rfl : k = G.length := by omega
    repeat' (first | ((first | ((with_reducible refine qo (fun hg => ?_) (fun hg => ?_)) <;> (try simp only [hg]) <;> (try simp only [gS] at hg) <;> (try (first | simp only [eq_false hg, gI] | simp only [eq_true hg, gI]))) | (with_reducible first | refine qc ?_ | refine qb ?_ | refine qi ?_ | refine qh ?_) | refine qe ?_ | refine qj ?_ | refine qk ?_ | refine qm ?_) <;> (try simp (disch := first | omega | simp) [qg, -qq, -qs, hlt])) | ((with_reducible refine sideT ?_ ?_); first | omega | assumption | (simp; done)) | (refine qf fun K hK => ?_) | (refine qa ?_) | refine ql ?_ | ((first | refine hK _ ?_ | (clear hK K; refine hK _ ?_) | (clear hK K; clear hK K; refine hK _ ?_)); clear hK K) | refine qd ?_)
    refine awp_freezeR 16 3 (k := second.length) (by simp) (by rfl) (by simp [ml]) ?_
    refine awp_pubR 16 (by rfl) ?_
    refine qr hcl (fun k : Nat => [(2, .int time), (3, .sl (row.map Val.av)), (4, .int (O k)), (6, .ptr n0 0), (13, .bool true), (14, .ptr (n0 + 1) 0), (16, .sl ((M G.length).map Val.av)), (18, .int k)])
      (fun _ => [.cells [.sl (ins.map Ins.av), .sl (types.map AV.int), .int out] 25, .cells [.sl (tins.map Ins.av), .sl (ttypes.map AV.int), .int tout] 25, .dead, .dead]) (fun k => k ≤ tins.length) (fun k => tins.length - k) 0 (by omega) (by simp [O0]) fun k hk => ?_
    by_cases hlt : k < tins.length
    · have o1 := O1 k hlt
      by_cases h5 : tins[k].op = 5
      · rw [if_pos h5] at o1
        repeat' (first | ((first | ((with_reducible refine qo (fun hg => ?_) (fun hg => ?_)) <;> (try simp only [hg]) <;> (try simp only [gS] at hg) <;> (try (first | simp only [eq_false hg, gI] | simp only [eq_true hg, gI]))) | (with_reducible first | refine qc ?_ | refine qb ?_ | refine qi ?_ | refine qh ?_) | refine qe ?_ | refine qj ?_ | refine qk ?_ | refine qm ?_) <;> (try simp (disch := first | omega | simp) [qg, -qq, -qs, hlt, h5])) | ((with_reducible refine sideT ?_ ?_); first | omega | assumption | (simp; done)) | (refine qf fun K hK => ?_) | (refine qa ?_) | refine ql ?_ | ((first | refine hK _ ?_ | (clear hK K; refine hK _ ?_) | (clear hK K; clear hK K; refine hK _ ?_)); clear hK K) | refine qd ?_)
        all_goals first | exact absurd h5 (by assumption) | exact ⟨k + 1, by omega, by omega, by rw [o1], by omega⟩
      · rw [if_neg h5] at o1
        repeat' (first | ((first | ((with_reducible refine qo (fun hg => ?_) (fun hg => ?_)) <;> (try simp only [hg]) <;> (try simp only [gS] at hg) <;> (try (first | simp only [eq_false hg, gI] | simp only [eq_true hg, gI]))) | (with_reducible first | refine qc ?_ | refine qb ?_ | refine qi ?_ | refine qh ?_) | refine qe ?_ | refine qj ?_ | refine qk ?_ | refine qm ?_) <;> (try simp (disch := first | omega | simp) [qg, -qq, -qs, hlt, h5])) | ((with_reducible refine sideT ?_ ?_); first | omega | assumption | (simp; done)) | (refine qf fun K hK => ?_) | (refine qa ?_) | refine ql ?_ | ((first | refine hK _ ?_ | (clear hK K; refine hK _ ?_) | (clear hK K; clear hK K; refine hK _ ?_)); clear hK K) | refine qd ?_)
        all_goals first | exact absurd (by assumption) h5 | exact ⟨k + 1, by omega, by omega, by rw [o1], by omega⟩
    · obtain rfl : k = tins.length := by omega
      repeat' (first | ((first | ((with_reducible refine qo (fun hg => ?_) (fun hg => ?_)) <;> (try simp only [hg]) <;> (try simp only [gS] at hg) <;> (try (first | simp only [eq_false hg, gI] | simp only [eq_true hg, gI]))) | (with_reducible first | refine qc ?_ | refine qb ?_ | refine qi ?_ | refine qh ?_) | refine acall (hval) ?_ | refine qp (hval) ?_ | refine acall (c5) ?_ | refine qp (c5) ?_ | refine qe ?_ | refine qj ?_ | refine qk ?_ | refine qm ?_) <;> (try simp (disch := first | omega | simp) [qg, -qq, -qs, hlt, hVe])) | ((with_reducible refine sideT ?_ ?_); first | omega | assumption | (simp; done)) | (refine qf fun K hK => ?_) | (refine qa ?_) | refine ql ?_ | ((first | refine hK _ ?_ | (clear hK K; refine hK _ ?_) | (clear hK K; clear hK K; refine hK _ ?_)); clear hK K) | refine qd ?_)
end Go.Proofs.YtgpcpmfdklpifaaGreatDoor

/- The arguments of a law, five to seven of them. -/
namespace Go.Proofs.YtgpcpmfdklpifaaGreatDoor
open Go.ChangeShapes Go.WideShapes Go.ChangeAt Go.RowKit Go.Lib
section
variable {H : Type} {enc : TypeId × Value → H} {P : Program} {w : World} {base : Nat} {spare : Nat → Bool} {held : Bool} {t0 t1 t2 t3 t4 t5 t6 : TypeId} {args : Array Value} {ds : List (DataW H)} {ps : List MemPlace}
theorem trodAll_6_02 (h : DataW.TrodAll enc P w base spare held [t0, t1, t2, t3, t4, t5] args.toList ds ps) :
    ∃ v0 v1 v2 v3 v4 v5 d0 d1 d2 d3 d4 d5 p0 p1 p2 p3 p4 p5, args = #[v0, v1, v2, v3, v4, v5] ∧ ds = [d0, d1, d2, d3, d4, d5] ∧ ps = p0 ++ p1 ++ p2 ++ p3 ++ p4 ++ p5 ∧ DataW.Trod enc P w base spare held t0 v0 d0 p0 ∧ DataW.Trod enc P w base spare held t1 v1 d1 p1 ∧ DataW.Trod enc P w base spare held t2 v2 d2 p2 ∧ DataW.Trod enc P w base spare held t3 v3 d3 p3 ∧ DataW.Trod enc P w base spare held t4 v4 d4 p4 ∧ DataW.Trod enc P w base spare held t5 v5 d5 p5 := by
  obtain ⟨v0, vs0, d0, ds0, p0, q0, hargs, rfl, rfl, h0, r0⟩ := trodAll_cons h
  obtain ⟨v1, vs1, d1, ds1, p1, q1, rfl, rfl, rfl, h1, r1⟩ := trodAll_cons r0
  obtain ⟨v2, vs2, d2, ds2, p2, q2, rfl, rfl, rfl, h2, r2⟩ := trodAll_cons r1
  obtain ⟨v3, vs3, d3, ds3, p3, q3, rfl, rfl, rfl, h3, r3⟩ := trodAll_cons r2
  obtain ⟨v4, vs4, d4, ds4, p4, q4, rfl, rfl, rfl, h4, r4⟩ := trodAll_cons r3
  obtain ⟨v5, vs5, d5, ds5, p5, q5, rfl, rfl, rfl, h5, r5⟩ := trodAll_cons r4
  obtain ⟨rfl, rfl, rfl⟩ := trodAll_nil r5
  exact ⟨v0, v1, v2, v3, v4, v5, d0, d1, d2, d3, d4, d5, p0, p1, p2, p3, p4, p5, by cases args; simp_all, rfl, by simp, h0, h1, h2, h3, h4, h5⟩
end
end Go.Proofs.YtgpcpmfdklpifaaGreatDoor

/- The law CodeReads, lifted: the row and the tied card. (Printed by gen_lift27.py.) -/
namespace Go.Proofs.YtgpcpmfdklpifaaGreatDoor
open Go.ChangeShapes Go.WideShapes Go.ChangeAt Go.RowKit Go.Lib
set_option maxRecDepth 100000 in
theorem codeReads_lifted (os : Os) (started : os.Started) (H : Type) (enc : TypeId × Value → H) :
    ReturnsInHanded {} Tryz.checked os 5 .any (fun w args => (Rows.codeReadsSpec.pre enc Tryz.prog Tryz.f5 Rows.codeReadsRow.domain false w args ∧ laidMetH Tryz.prog Rows.codeReadsRow.laid w) ∧ sizedMet enc Tryz.prog Tryz.f5 (OpenSpec.ofChange Rows.codeReadsSpec) false w args)
      (Rows.codeReadsSpec.post enc Tryz.prog Tryz.f5 false true false false) := by
  refine qbk (C := Tryz.checked) (X := fun w _ => laidMetH Tryz.prog Rows.codeReadsRow.laid w) Tryz.own started (by kernel_rfl) Tryz.func5
    (ChangeSpec.witness_shaped (enc := enc) (C := Tryz.checked) (os := os) (X := fun w _ => laidMetH Tryz.prog Rows.codeReadsRow.laid w) false (World.laidAll Tryz.prog os Rows.codeReadsRow.laid) #[.agg #[.slice .none 0 0, .slice .none 0 0, .int .i64 0], .slice .none 0 0, .int .i64 0, .slice .none 0 0, .int .i64 0, .slice .none 0 0] 8 (World.laidAll_os _ _ _)
      (World.shaped_of_ZipB (by kernel_rfl) (by kernel_rfl)) (by kernel_rfl) (by kernel_rfl) (by kernel_rfl)
      (by rw [MakeChecks.laidMetH_plain _ _ _ (by kernel_rfl)]; exact laidMet_laidAll _ (by kernel_rfl) (by kernel_rfl)))
    (fun w w' us hh hX => by rw [MakeChecks.laidMetH_plain _ _ _ (by kernel_rfl)] at hX ⊢; exact laidMet.of_heap hh hX) ?_
  intro W base args ds gs before hval0 hW _ hsh hlaid
  rw [MakeChecks.laidMetH_plain _ _ _ (by kernel_rfl)] at hlaid
  have hglob := glob25 hsh hlaid (by simp [Rows.codeReadsRow]) (by simp [Rows.codeReadsRow]) (by simp [Rows.codeReadsRow]) (by simp [Rows.codeReadsRow])
  have hval : ∀ (j : Nat) t v, Tryz.f5.params[j]? = some t → args[j]? = some v → Value.okWide Tryz.prog W .any base t v := hval0
  have hW' := hW
  obtain ⟨p, q, hA0, hV, rfl, hfz, hnd⟩ := hW
  have hA : DataW.TrodAll enc Tryz.prog W 0 (fun _ => true) true Tryz.f5.params.toList args.toList ds p := hA0
  rw [Tryz.params5] at hA hval
  obtain ⟨v0, v1, v2, v3, v4, v5, d0, d1, d2, d3, d4, d5, p0, p1, p2, p3, p4, p5, rfl, rfl, rfl, h0, h1, h2, h3, h4, h5⟩ := trodAll_6_02 hA
  obtain ⟨rfl, rfl⟩ := trodVars_none hV
  obtain ⟨x0, cs0, rfl, r0⟩ := par_st Tryz.underlying25 (hval 0 _ v0 rfl rfl) h0 trods_cod
  obtain ⟨x1, r1⟩ := par_sl Tryz.underlying23 (hval 1 _ v1 rfl rfl) h1 qdr
  obtain ⟨x2, rfl, r2⟩ := par_intR Tryz.underlying3 (hval 2 _ v2 rfl rfl)
  obtain ⟨x3, r3⟩ := par_sl Tryz.underlying26 (hval 3 _ v3 rfl rfl) h3 trods_vals
  obtain ⟨x4, rfl, r4⟩ := par_intR Tryz.underlying3 (hval 4 _ v4 rfl rfl)
  obtain ⟨x5, r5⟩ := par_sl Tryz.underlying26 (hval 5 _ v5 rfl rfl) h5 trods_vals
  refine (qcq (vals := [.agg cs0.toArray, v1, .int .i64 x2, v3, .int .i64 x4, v5]) (codeReads_g small25_g x0 x1 x2 x3 x4 x5) ⟨_, _, rfl, Cod.flat r0, _, _, rfl, qei r1, _, _, rfl, flat_int02, _, _, rfl, Val.flats r3, _, _, rfl, flat_int02, _, _, rfl, Val.flats r5, rfl⟩ hglob).mono ?_
  rintro r W' ⟨rfl, hb⟩
  exact ⟨_, rfl, law_post (P := Tryz.prog) Tryz.laidOut hW' rfl rfl (by kernel_rfl) Tryz.underlying4 (by kernel_rfl) hb⟩
theorem codeReads_row : Rows.CodeReadsSaid :=
  OpenClaim.holds_of_wide 5 Tryz.f5 rfl rfl rfl rfl rfl rfl rfl ⟨rfl, rfl, rfl, rfl, rfl⟩ rfl rfl rfl rfl rfl (by kernel_rfl) Tryz.func5 (by kernel_rfl)
    (of_decide_eq_true (by kernel_rfl)) (by unfold Func.isWrapper; first | (rw [if_pos (by decide +kernel)]; kernel_rfl) | (rw [if_neg (by decide +kernel)]; exact ⟨rfl, rfl⟩))
    (fun os started H enc _ => codeReads_lifted os started H enc)
theorem codeReads_holds : Rows.CodeReadsCardSaid :=
  Claim7.holds_tied_plain_at .later [] [.data, .data, .data, .data, .sentinel, .sentinel, .widerDeep, .pinned] true (true, "7776cb1f6840e9bfb354eae669bdb86c799a109bda5ce1626de28e4158a0f8da") true codeReads_row (fun _ h => by cases h) (by kernel_rfl) (fun _ h => by cases h) codeReads_row_tie rfl ⟨rfl, rfl⟩ (by kernel_rfl) rfl
    (fun f fn hf hfn => by
      obtain rfl : f = 5 := Option.some.inj ((show Tryz.prog.funcNamed "errata/erratalaw25.CodeReads" = some 5 by kernel_rfl).symm.trans hf) |>.symm
      obtain rfl : fn = Tryz.f5 := (Option.some.inj (Tryz.func5.symm.trans hfn)).symm
      exact ⟨by kernel_rfl, fun j t ht => by
        rw [Tryz.params5] at ht
        have hm : t ∈ [25, 23, 3, 26, 3, 26] := by simpa using Array.mem_of_getElem? ht
        have hall : ([25, 23, 3, 26, 3, 26].all fun u => !Tryz.prog.wantsStandIn u) = true := by kernel_rfl
        exact (show Tryz.prog.wantsStandIn t = false by simpa using List.all_eq_true.1 hall t hm)⟩)
    (by kernel_rfl)
end Go.Proofs.YtgpcpmfdklpifaaGreatDoor

/- Walks of layer 25: last and later, of the reference. -/
namespace Go.Proofs.YtgpcpmfdklpifaaGreatDoor
open Go.RowKit Go.Lib
theorem rlastP_g (c : Cod) (i : Nat) (r : Int) (hi : i ≤ c.ins.length) (hn : c.ins.length ≤ 1000000) : Gives Tryz.prog 44 [c.av, .int i, .int r] (.int (lastP c.ins i r)) := by
  obtain ⟨R, hR⟩ : ∃ R, R = lastP c.ins i r := ⟨_, rfl⟩
  rw [← hR]
  obtain ⟨ins, types, out⟩ := c
  simp only at *
  refine qn Tryz.func44 Tryz.ntmps44 rfl rfl (by decide) rfl (by intro n; simp) fun σ n0 hcl hft => ?_
  repeat' (first | ((first | ((with_reducible refine qo (fun hg => ?_) (fun hg => ?_)) <;> (try simp only [hg]) <;> (try simp only [gS] at hg) <;> (try (first | simp only [eq_false hg, gI] | simp only [eq_true hg, gI]))) | (with_reducible first | refine qc ?_ | refine qb ?_ | refine qi ?_ | refine qh ?_) | refine qe ?_ | refine qj ?_ | refine qk ?_ | refine qm ?_) <;> (try simp (disch := first | omega | simp) [qg, -qq, -qs])) | ((with_reducible refine sideT ?_ ?_); first | omega | assumption | (simp; done)) | (refine qf fun K hK => ?_) | (refine qa ?_) | refine ql ?_ | ((first | refine hK _ ?_ | (clear hK K; refine hK _ ?_) | (clear hK K; clear hK K; refine hK _ ?_)); clear hK K) | refine qd ?_)
  refine qr hcl (fun b : Nat × Int => [(2, .int r), (3, .ptr n0 0), (7, .int b.2)]) (fun _ => [.cells [.sl (ins.map Ins.av), .sl (types.map AV.int), .int out] 25])
    (fun b => b.1 ≤ i ∧ b.2 = (b.1 : Int) - 1 ∧ R = lastP ins b.1 r) (fun b => b.1) (i, (i : Int) - 1) ⟨by omega, rfl, hR⟩ (by simp) fun ⟨k, m⟩ ⟨hk, hm, he⟩ => ?_
  dsimp only at hk hm he
  by_cases h0 : 0 ≤ m
  · obtain ⟨q, rfl⟩ : ∃ q : Nat, m = q := ⟨m.toNat, by omega⟩
    obtain rfl : k = q + 1 := by omega
    have hq : q < ins.length := by omega
    rw [lastP, getD_ins hq] at he
    by_cases h1 : ins[q].tgt = r
    · rw [if_pos h1] at he
      repeat' (first | ((first | ((with_reducible refine qo (fun hg => ?_) (fun hg => ?_)) <;> (try simp only [hg]) <;> (try simp only [gS] at hg) <;> (try (first | simp only [eq_false hg, gI] | simp only [eq_true hg, gI]))) | (with_reducible first | refine qc ?_ | refine qb ?_ | refine qi ?_ | refine qh ?_) | refine qe ?_ | refine qj ?_ | refine qk ?_ | refine qm ?_) <;> (try simp (disch := first | omega | simp) [qg, -qq, -qs, hq, h1])) | ((with_reducible refine sideT ?_ ?_); first | omega | assumption | (simp; done)) | (refine qf fun K hK => ?_) | (refine qa ?_) | refine ql ?_ | ((first | refine hK _ ?_ | (clear hK K; refine hK _ ?_) | (clear hK K; clear hK K; refine hK _ ?_)); clear hK K) | refine qd ?_)
      all_goals first | exact absurd h1 (by assumption) | (rw [he])
    · rw [if_neg h1] at he
      repeat' (first | ((first | ((with_reducible refine qo (fun hg => ?_) (fun hg => ?_)) <;> (try simp only [hg]) <;> (try simp only [gS] at hg) <;> (try (first | simp only [eq_false hg, gI] | simp only [eq_true hg, gI]))) | (with_reducible first | refine qc ?_ | refine qb ?_ | refine qi ?_ | refine qh ?_) | refine qe ?_ | refine qj ?_ | refine qk ?_ | refine qm ?_) <;> (try simp (disch := first | omega | simp) [qg, -qq, -qs, hq, h1])) | ((with_reducible refine sideT ?_ ?_); first | omega | assumption | (simp; done)) | (refine qf fun K hK => ?_) | (refine qa ?_) | refine ql ?_ | ((first | refine hK _ ?_ | (clear hK K; refine hK _ ?_) | (clear hK K; clear hK K; refine hK _ ?_)); clear hK K) | refine qd ?_)
      all_goals first | exact absurd (by assumption) h1 | exact ⟨q, ⟨by omega, rfl, he⟩, by omega⟩
  · obtain rfl : k = 0 := by omega
    rw [lastP] at he
    have h0b : ¬ 0 ≤ m := h0
    repeat' (first | ((first | ((with_reducible refine qo (fun hg => ?_) (fun hg => ?_)) <;> (try simp only [hg]) <;> (try simp only [gS] at hg) <;> (try (first | simp only [eq_false hg, gI] | simp only [eq_true hg, gI]))) | (with_reducible first | refine qc ?_ | refine qb ?_ | refine qi ?_ | refine qh ?_) | refine qe ?_ | refine qj ?_ | refine qk ?_ | refine qm ?_) <;> (try simp (disch := first | omega | simp) [qg, -qq, -qs, h0b])) | ((with_reducible refine sideT ?_ ?_); first | omega | assumption | (simp; done)) | (refine qf fun K hK => ?_) | (refine qa ?_) | refine ql ?_ | ((first | refine hK _ ?_ | (clear hK K; refine hK _ ?_) | (clear hK K; clear hK K; refine hK _ ?_)); clear hK K) | refine qd ?_)
    all_goals (rw [he])
set_option maxHeartbeats 4000000 in
theorem rlater_g (c : Cod) (a : Nat) (v : Int) (ha : a ≤ c.ins.length) (hn : c.ins.length ≤ 1000000) : Gives Tryz.prog 53 [c.av, .int a, .int v] (.bool (laterB c a v)) := by
  have c1 := rlastP_g c c.ins.length c.out (Nat.le_refl _) hn
  have c3 := fun i r hi => rlastP_g c i r hi hn
  obtain ⟨R, hR⟩ : ∃ R, R = laterB c a v := ⟨_, rfl⟩
  rw [← hR]
  unfold laterB at hR
  obtain ⟨ins, types, out⟩ := c
  simp only [Cod.av] at *
  generalize lastP ins ins.length out = L at *
  by_cases hL : L = v
  · have : R = true := by rw [hR]; simp [hL]
    subst this
    refine qn Tryz.func53 Tryz.ntmps53 rfl rfl (by decide) rfl (by intro n; simp) fun σ n0 hcl hft => ?_
    repeat' (first | ((first | ((with_reducible refine qo (fun hg => ?_) (fun hg => ?_)) <;> (try simp only [hg]) <;> (try simp only [gS] at hg) <;> (try (first | simp only [eq_false hg, gI] | simp only [eq_true hg, gI]))) | (with_reducible first | refine qc ?_ | refine qb ?_ | refine qi ?_ | refine qh ?_) | refine acall (c1) ?_ | refine qp (c1) ?_ | refine qe ?_ | refine qj ?_ | refine qk ?_ | refine qm ?_) <;> (try simp (disch := first | omega | simp) [qg, -qq, -qs, hL])) | ((with_reducible refine sideT ?_ ?_); first | omega | assumption | (simp; done)) | (refine qf fun K hK => ?_) | (refine qa ?_) | refine ql ?_ | ((first | refine hK _ ?_ | (clear hK K; refine hK _ ?_) | (clear hK K; clear hK K; refine hK _ ?_)); clear hK K) | refine qd ?_)
    all_goals exact absurd hL (by assumption)
  have hLb : (L == v) = false := by simp [hL]
  rw [hLb, Bool.false_or] at hR
  obtain ⟨Q, hQ⟩ : ∃ Q : Nat → Bool, Q = fun i => (opsP (ins.getD i insZ)).any fun r => lastP ins i r == v := ⟨_, rfl⟩
  have hR2 : R = (List.range ins.length).any fun i => decide (a < i) && Q i := by rw [hR, hQ]
  clear hR
  refine qn Tryz.func53 Tryz.ntmps53 rfl rfl (by decide) rfl (by intro n; simp) fun σ n0 hcl hft => ?_
  repeat' (first | ((first | ((with_reducible refine qo (fun hg => ?_) (fun hg => ?_)) <;> (try simp only [hg]) <;> (try simp only [gS] at hg) <;> (try (first | simp only [eq_false hg, gI] | simp only [eq_true hg, gI]))) | (with_reducible first | refine qc ?_ | refine qb ?_ | refine qi ?_ | refine qh ?_) | refine acall (c1) ?_ | refine qp (c1) ?_ | refine qe ?_ | refine qj ?_ | refine qk ?_ | refine qm ?_) <;> (try simp (disch := first | omega | simp) [qg, -qq, -qs, hL])) | ((with_reducible refine sideT ?_ ?_); first | omega | assumption | (simp; done)) | (refine qf fun K hK => ?_) | (refine qa ?_) | refine ql ?_ | ((first | refine hK _ ?_ | (clear hK K; refine hK _ ?_) | (clear hK K; clear hK K; refine hK _ ?_)); clear hK K) | refine qd ?_)
  all_goals try exact absurd (by assumption) hL
  refine qr hcl (fun i : Nat => [(2, .int v), (3, .ptr n0 0), (7, .int i)]) (fun _ => [.cells [.sl (ins.map Ins.av), .sl (types.map AV.int), .int out] 25])
    (fun i => a < i ∧ i ≤ ins.length + 1 ∧ ∀ j, a < j → j < i → j < ins.length → Q j = false) (fun i => ins.length + 1 - i) (a + 1) ⟨by omega, by omega, fun j h1 h2 => by omega⟩ (by simp) fun i ⟨hi, hi2, hf⟩ => ?_
  by_cases hlt : i < ins.length
  · have c2 := rops_g ins[i]
    have hol : (opsP ins[i]).length ≤ 3 := by have := qci ins[i]; have := qdd ins[i].op; split at * <;> omega
    have hQi : Q i = (opsP ins[i]).any fun r => lastP ins i r == v := by rw [hQ]; dsimp only; rw [getD_ins hlt]
    have hyes : Q i = true → R = true := fun h => by
      rw [hR2, List.any_eq_true]
      exact ⟨i, List.mem_range.2 hlt, by simp [hi, h]⟩
    obtain ⟨x, hx⟩ : ∃ x, x = ins[i] := ⟨_, rfl⟩
    rw [← hx] at c2 hol hQi
    generalize opsP x = O at *
    repeat' (first | ((first | ((with_reducible refine qo (fun hg => ?_) (fun hg => ?_)) <;> (try simp only [hg]) <;> (try simp only [gS] at hg) <;> (try (first | simp only [eq_false hg, gI] | simp only [eq_true hg, gI]))) | (with_reducible first | refine qc ?_ | refine qb ?_ | refine qi ?_ | refine qh ?_) | refine acall (c2) ?_ | refine qp (c2) ?_ | refine qe ?_ | refine qj ?_ | refine qk ?_ | refine qm ?_) <;> (try simp (disch := first | omega | simp) [qg, -qq, -qs, hlt, ← hx])) | ((with_reducible refine sideT ?_ ?_); first | omega | assumption | (simp; done)) | (refine qf fun K hK => ?_) | (refine qa ?_) | refine ql ?_ | ((first | refine hK _ ?_ | (clear hK K; refine hK _ ?_) | (clear hK K; clear hK K; refine hK _ ?_)); clear hK K) | refine qd ?_)
    refine qr hcl (fun k : Nat => [(2, .int v), (3, .ptr n0 0), (7, .int i), (8, .sl (O.map AV.int)), (9, .int k)]) (fun _ => [.cells [.sl (ins.map Ins.av), .sl (types.map AV.int), .int out] 25])
      (fun k => k ≤ O.length ∧ ∀ j (h : j < O.length), j < k → ¬ lastP ins i O[j] = v) (fun k => O.length - k) 0 ⟨by omega, fun j h hj => by omega⟩ (by simp) fun k ⟨hk, hkf⟩ => ?_
    by_cases hlk : k < O.length
    · have c4 := c3 i O[k] (by omega)
      obtain ⟨J, hJ⟩ : ∃ J, J = lastP ins i O[k] := ⟨_, rfl⟩
      rw [← hJ] at c4
      by_cases hv : J = v
      · have := hyes (by rw [hQi, List.any_eq_true]; exact ⟨O[k], List.getElem_mem hlk, by rw [← hJ]; simp [hv]⟩)
        repeat' (first | ((first | ((with_reducible refine qo (fun hg => ?_) (fun hg => ?_)) <;> (try simp only [hg]) <;> (try simp only [gS] at hg) <;> (try (first | simp only [eq_false hg, gI] | simp only [eq_true hg, gI]))) | (with_reducible first | refine qc ?_ | refine qb ?_ | refine qi ?_ | refine qh ?_) | refine acall (c4) ?_ | refine qp (c4) ?_ | refine qe ?_ | refine qj ?_ | refine qk ?_ | refine qm ?_) <;> (try simp (disch := first | omega | simp) [qg, -qq, -qs, hlk, hv, this])) | ((with_reducible refine sideT ?_ ?_); first | omega | assumption | (simp; done)) | (refine qf fun K hK => ?_) | (refine qa ?_) | refine ql ?_ | ((first | refine hK _ ?_ | (clear hK K; refine hK _ ?_) | (clear hK K; clear hK K; refine hK _ ?_)); clear hK K) | refine qd ?_)
        all_goals exact absurd hv (by assumption)
      · repeat' (first | ((first | ((with_reducible refine qo (fun hg => ?_) (fun hg => ?_)) <;> (try simp only [hg]) <;> (try simp only [gS] at hg) <;> (try (first | simp only [eq_false hg, gI] | simp only [eq_true hg, gI]))) | (with_reducible first | refine qc ?_ | refine qb ?_ | refine qi ?_ | refine qh ?_) | refine acall (c4) ?_ | refine qp (c4) ?_ | refine qe ?_ | refine qj ?_ | refine qk ?_ | refine qm ?_) <;> (try simp (disch := first | omega | simp) [qg, -qq, -qs, hlk, hv])) | ((with_reducible refine sideT ?_ ?_); first | omega | assumption | (simp; done)) | (refine qf fun K hK => ?_) | (refine qa ?_) | refine ql ?_ | ((first | refine hK _ ?_ | (clear hK K; refine hK _ ?_) | (clear hK K; clear hK K; refine hK _ ?_)); clear hK K) | refine qd ?_)
        all_goals first
          | exact absurd (by assumption) hv
          | exact ⟨k + 1, ⟨by omega, qcu (C := fun r : Int => ¬ lastP ins i r = v) hkf fun _ => by rw [← hJ]; exact hv⟩, by omega, by simp⟩
    · have hno : Q i = false := by
        rw [hQi, List.any_eq_false]
        intro r hr
        obtain ⟨j, hj, rfl⟩ := List.getElem_of_mem hr
        have := hkf j hj (by omega)
        simp [this]
      repeat' (first | ((first | ((with_reducible refine qo (fun hg => ?_) (fun hg => ?_)) <;> (try simp only [hg]) <;> (try simp only [gS] at hg) <;> (try (first | simp only [eq_false hg, gI] | simp only [eq_true hg, gI]))) | (with_reducible first | refine qc ?_ | refine qb ?_ | refine qi ?_ | refine qh ?_) | refine qe ?_ | refine qj ?_ | refine qk ?_ | refine qm ?_) <;> (try simp (disch := first | omega | simp) [qg, -qq, -qs, hlk])) | ((with_reducible refine sideT ?_ ?_); first | omega | assumption | (simp; done)) | (refine qf fun K hK => ?_) | (refine qa ?_) | refine ql ?_ | ((first | refine hK _ ?_ | (clear hK K; refine hK _ ?_) | (clear hK K; clear hK K; refine hK _ ?_)); clear hK K) | refine qd ?_)
      all_goals exact ⟨i + 1, ⟨by omega, by omega, fun j h1 h2 h3 => by
        by_cases hji : j = i
        · subst hji; exact hno
        · exact hf j h1 (by omega) h3⟩, by omega, by simp⟩
  · have : R = false := by
      rw [hR2, List.any_eq_false]
      intro j hj
      have := List.mem_range.1 hj
      by_cases h : a < j
      · simp [hf j h (by omega) this]
      · simp [h]
    have hlt2 : ¬ (i : Int) < ins.length := by omega
    repeat' (first | ((first | ((with_reducible refine qo (fun hg => ?_) (fun hg => ?_)) <;> (try simp only [hg]) <;> (try simp only [gS] at hg) <;> (try (first | simp only [eq_false hg, gI] | simp only [eq_true hg, gI]))) | (with_reducible first | refine qc ?_ | refine qb ?_ | refine qi ?_ | refine qh ?_) | refine qe ?_ | refine qj ?_ | refine qk ?_ | refine qm ?_) <;> (try simp (disch := first | omega | simp) [qg, -qq, -qs, hlt2, this])) | ((with_reducible refine sideT ?_ ?_); first | omega | assumption | (simp; done)) | (refine qf fun K hK => ?_) | (refine qa ?_) | refine ql ?_ | ((first | refine hK _ ?_ | (clear hK K; refine hK _ ?_) | (clear hK K; clear hK K; refine hK _ ?_)); clear hK K) | refine qd ?_)
end Go.Proofs.YtgpcpmfdklpifaaGreatDoor
