/- Walk: the function that notes a part's column in a map (expr.Reads). -/
import Derived.Maps.Own
import Derived.Lib.SlKeysI
import Derived.Test.YtmhelkhmgbbfhaaGa10
import Derived.Test.YtmhelkhmgbbfhaaGa11
import Derived.Test.YtmhelkhmgbbfhaaGa23
set_option linter.unusedSimpArgs false
set_option linter.unusedVariables false
namespace Go.Proofs.Ytmhelkhmgbbfhaa
open Go.RowKit Go.Lib Go.Maps

theorem keyed_int : Keyed Try.prog 3 := int_keyed Try.underlying3
/-- the map in block m holds the columns of the parts L; the variable in block pb names it -/
def RInv (m pb : Nat) (L : List Ex) (w : World) : Prop :=
  (∃ D : DataW Unit, w.ownsMap Try.prog 3 (plainElem Try.prog 4) m L.length D ∧ ∀ x : Int, has D (.int .i64 x) = true ↔ ∃ y ∈ L, y.op = 3 ∧ y.n = x) ∧ w.cell? ⟨pb, 0, none⟩ = some (.map (some m))
mutual
theorem pre_len : ∀ e : Ex, (pre e).length = parts e
  | .mk o n s l => by rw [pre, parts, List.length_cons, preL_len l]
theorem preL_len : ∀ l : List Ex, (preL l).length = partsL l
  | [] => by rw [preL, partsL]; rfl
  | e :: l => by rw [preL, partsL, List.length_append, pre_len e, preL_len l]
end
/-- what the function does with a part, while there are fewer than B -/
def StepsB (B : Nat) (fid : FuncId) (caps : Array Value) (m : Nat) (S : Nat → Prop) (Inv : List Ex → World → Prop) (ok : Ex → Prop) : Prop :=
  ∀ (L : List Ex) (x : Ex) (cs : List Value) (w : World), L.length < B → ok x → Inv L w → Rd w S x.d cs → m < w.heap.size →
    Calls Try.prog fid (#[.agg cs.toArray] ++ caps) w fun r w' => (∃ v, r = .returned v) ∧ Inv (L ++ [x]) w' ∧ w.grownBy w' (some m)
set_option maxRecDepth 10000 in
set_option maxHeartbeats 2000000 in
theorem walk_readsB (B : Nat) (caps : Array Value) (m : Nat) (S : Nat → Prop) (hS : ∀ b, S b → b ≠ m) (Inv : List Ex → World → Prop) (ok : Ex → Prop) (hok : ∀ o n s l, ok (.mk o n s l) → ∀ x ∈ l, ok x) (hstep : StepsB B 55 caps m S Inv ok) (hal : ∀ L w o, Inv L w → Inv L (w.alloc o)) (e : Ex) :
    ∀ (L : List Ex) (cs : List Value) (w : World), L.length + parts e ≤ B → ok e → Inv L w → Rd w S e.d cs → m < w.heap.size →
    Calls Try.prog 52 #[.agg cs.toArray, .func (.func 55) #[] caps] w fun r w' => (∃ v, r = .returned v) ∧ Inv (L ++ pre e) w' ∧ w.grownBy w' (some m) := by
  induction e using Ex.ind with | h o n s l ih => ?_
  intro L cs w hBL hoke hI hr hm0
  rw [parts] at hBL
  have hr0 := hr
  obtain ⟨A, cap, b, off, rfl, hl1, hl2, hl3, hm⟩ := Ex.open hr
  have ih' := Lib.hid ih
  clear ih
  simp only [Ex.args, Ex.op, Ex.n, Ex.s] at hl1 hl2 hl3 hm hr0 ⊢
  have hl3' := Lib.hid hl3; have hm' := Lib.hid hm; have hst' := Lib.hid hstep; have hok' := Lib.hid hok; have hoke' := Lib.hid hoke; have hal' := Lib.hid hal; have hI' := Lib.hid hI; have hr' := Lib.hid hr0; have hS' := Lib.hid hS
  clear hr hr0 hl3 hm hstep hok hoke hal hI hS
  go_enter Try.func52, Try.ntmps52
  go_wp2_with fail
  generalize hWe : World.alloc w _ = W
  have e0 : W.cell? ⟨w.heap.size, 0, none⟩ = some (.int .i64 o) := by rw [← hWe]; clear hWe; go_simp
  have e1 : W.cell? ⟨w.heap.size, 1, none⟩ = some (.int .i64 n) := by rw [← hWe]; clear hWe; go_simp
  have e2 : W.cell? ⟨w.heap.size, 2, none⟩ = some (.string s) := by rw [← hWe]; clear hWe; go_simp
  have e3 : W.cell? ⟨w.heap.size, 3, none⟩ = some (.slice A l.length cap) := by rw [← hWe]; clear hWe; go_simp
  have hI1 : Inv L W := by rw [← hWe]; exact hal'.out _ _ _ hI'.out
  have hwW : Ext w W := by rw [← hWe]; exact (by repeat' first | exact Ext.refl _ | assumption | apply Ext.alloc | apply Ext.drew | apply Ext.drewN | (refine Ext.trans ?_ (by assumption)))
  clear hWe
  refine (hst'.out L (.mk o n s l) _ W (by omega) hoke'.out hI1 (hr'.out.ext hwW) (Nat.lt_of_lt_of_le hm0 hwW.size)).mono ?_
  rintro r w1 ⟨⟨v, rfl⟩, hI2, hg⟩
  have f3 : w1.cell? ⟨w.heap.size, 3, none⟩ = some (.slice A l.length cap) := gcell hg e3 (by dsimp only; omega)
  have hg1 : w.grownBy w1 (some m) := (grown_of_ext hwW _).trans hg
  have hI3 := Lib.hid hI2
  clear e0 e1 e2 e3 hI1 hI2 hg hwW
  go_wp2_with fail
  go_loopw [12] (fun i wr => ∃ (k : Nat), k ≤ l.length ∧ i = .int .i64 k ∧ Inv (L ++ .mk o n s l :: preL (l.take k)) wr ∧ w.grownBy wr (some m)) (fun i _ => l.length - (Go.RowKit.intOf i).toNat)
  case atStart => exact ⟨0, by omega, rfl, by rw [List.take_zero, preL]; exact hI3.out, hg1⟩
  case round =>
    obtain ⟨k, hk, rfl, hIk, hgk⟩ := hrel
    have hIk' := Lib.hid hIk
    clear hIk
    by_cases hk2 : k < l.length
    · obtain ⟨rfl, hSb⟩ := hl3'.out (by omega)
      have hmk := RdM.keep (keeps_of_grown hgk hS'.out) (fun _ h => h) _ _ _ hSb hm'.out
      obtain ⟨A1, cap1, b1, off1, c0, c1, c2, c3, hr1, -⟩ := Ex.at hmk hk2
      have hr2 := Lib.hid hr1
      have hSb' := Lib.hid hSb
      clear hr1 hmk hSb
      go_wp2_with fail
      generalize hWe : World.alloc wr _ = W1
      have hw1 : Ext wr W1 := by rw [← hWe]; exact (by repeat' first | exact Ext.refl _ | assumption | apply Ext.alloc | apply Ext.drew | apply Ext.drewN | (refine Ext.trans ?_ (by assumption)))
      have hI4 : Inv (L ++ .mk o n s l :: preL (l.take k)) W1 := by rw [← hWe]; exact hal'.out _ _ _ hIk'.out
      clear hWe
      refine (ih'.out l[k] (List.getElem_mem hk2) (L ++ .mk o n s l :: preL (l.take k)) _ W1 (by rw [List.length_append, List.length_cons, preL_len]; have h1 := partsL_take l k hk2; have h2 := partsL_take_le l (k + 1); omega) (hok'.out _ _ _ _ hoke'.out _ (List.getElem_mem hk2)) hI4 (hr2.out.ext hw1) (Nat.lt_of_lt_of_le (Nat.lt_of_lt_of_le hm0 hgk.size) hw1.size)).mono ?_
      rintro r w2 ⟨⟨v2, rfl⟩, hI5, hg2⟩
      have hI6 := Lib.hid (show Inv (L ++ .mk o n s l :: preL (l.take (k + 1))) w2 by
        rw [List.take_succ_eq_append_getElem hk2, preL_snoc]
        simpa using hI5)
      have hg3 : w.grownBy w2 (some m) := (hgk.trans (grown_of_ext hw1 _)).trans hg2
      clear hI4 hI5 hg2 hw1
      go_wp2_with fail
      go_roundw
      case rel => exact ⟨k + 1, by omega, by go_num, hI6.out, hg3⟩
      case measure => simp [Go.RowKit.intOf]; omega
    · have hkl : k = l.length := by omega
      subst hkl
      go_wp2_with fail
      refine bodyPost_end (v := .tuple #[]) (by simp [results, Try.results52, go_sem]; done) rfl ⟨⟨_, rfl⟩, ?_, hgk⟩
      have := hIk'.out
      rw [List.take_length] at this
      rw [pre]
      exact this

/-- the numbers of an expression's columns are ints -/
def colsOk (e : Ex) : Prop := ∀ y ∈ pre e, y.op = 3 → (Lit.int .i64 y.n).wf = true
theorem preL_mem : ∀ (l : List Ex) (x : Ex), x ∈ l → ∀ y ∈ pre x, y ∈ preL l
  | [], x, h, y, _ => by cases h
  | e :: l, x, h, y, hy => by
    rw [preL, List.mem_append]
    rcases List.mem_cons.1 h with rfl | h
    · exact .inl hy
    · exact .inr (preL_mem l x h y hy)
theorem colsOk_args (o n : Int) (s : ByteArray) (l : List Ex) (h : colsOk (.mk o n s l)) : ∀ x ∈ l, colsOk x := fun x hx y hy => h y (by rw [pre]; exact List.mem_cons_of_mem _ (preL_mem l x hx y hy))
theorem RInv.alloc {m pb : Nat} {L : List Ex} {w : World} (h : RInv m pb L w) (o : Obj) : RInv m pb L (w.alloc o) := by
  obtain ⟨⟨D, h1, h2⟩, h3⟩ := h
  exact ⟨⟨D, h1.alloc o, h2⟩, ((Ext.refl w).alloc o).at h3⟩
theorem RInv.same {m pb : Nat} {L : List Ex} {x : Ex} {w : World} (h : RInv m pb L w) (hx : x.op ≠ 3) : RInv m pb (L ++ [x]) w := by
  obtain ⟨⟨D, h1, h2⟩, h3⟩ := h
  refine ⟨⟨D, h1.mono (by simp), fun z => ?_⟩, h3⟩
  rw [h2 z]
  constructor
  · rintro ⟨y, hy, h⟩
    exact ⟨y, by simp [hy], h⟩
  · rintro ⟨y, hy, h⟩
    rcases List.mem_append.1 hy with hy | hy
    · exact ⟨y, hy, h⟩
    · rw [List.mem_singleton] at hy
      subst hy
      exact absurd h.1 hx
theorem RInv.put {m pb : Nat} {L : List Ex} {x : Ex} {w' : World} {D : DataW Unit} (h2 : ∀ x : Int, has D (.int .i64 x) = true ↔ ∃ y ∈ L, y.op = 3 ∧ y.n = x) (hD : IsMap D) (hx : x.op = 3) (d : DataW Unit)
    (h1 : w'.ownsMap Try.prog 3 (plainElem Try.prog 4) m (L.length + 1) (D.put (.int .i64 x.n) d)) (h3 : w'.cell? ⟨pb, 0, none⟩ = some (.map (some m))) : RInv m pb (L ++ [x]) w' := by
  refine ⟨⟨_, by rw [List.length_append]; exact h1, fun z => ?_⟩, h3⟩
  by_cases hz : z = x.n
  · subst hz
    rw [has_put_same hD (by trivial)]
    exact ⟨fun _ => ⟨x, by simp, hx, rfl⟩, fun _ => rfl⟩
  · rw [has_put_other (by simpa using hz), h2 z]
    constructor
    · rintro ⟨y, hy, h⟩
      exact ⟨y, by simp [hy], h⟩
    · rintro ⟨y, hy, h⟩
      rcases List.mem_append.1 hy with hy | hy
      · exact ⟨y, hy, h⟩
      · rw [List.mem_singleton] at hy
        subst hy
        exact absurd h.2.symm hz

set_option maxRecDepth 100000 in
set_option maxHeartbeats 2000000 in
theorem read_part (S : Nat → Prop) (m pb : Nat) (hpb : pb ≠ m) : StepsB 1000000 55 #[.pointer (some ⟨pb, 0, none⟩)] m S (RInv m pb) colsOk := by
  intro L x cs w hB hok hI hr hm0
  obtain ⟨⟨D, hown, hD⟩, hp⟩ := hI
  obtain ⟨A, cap, b, off, rfl, hl1, hl2, hl3, hm⟩ := Ex.open hr
  obtain ⟨o, n, s, l⟩ := x
  simp only [Ex.args, Ex.op, Ex.n, Ex.s] at hl1 hl2 hl3 hm hr ⊢
  have gp : ∀ o1, (w.alloc o1).cell? _ = some _ := fun o1 => ((Ext.refl w).alloc o1).at hp
  by_cases ho : o = 3
  · subst ho
    have hwf : (Lit.int .i64 n).wf = true := hok (.mk 3 n s l) (by rw [pre]; simp) rfl
    have hkey : keyOf Try.prog 3 (.int .i64 n) = some (.int .i64 n) := keyOf_int_mk Try.underlying3 hwf
    have hown' := Lib.hid hown; have hp' := Lib.hid hp; have hD' := Lib.hid hD
    clear hr hm hl3 hok hD
    have hown2 : ∀ o1, (w.alloc o1).ownsMap Try.prog 3 (plainElem Try.prog 4) m L.length D := fun o1 => hown.alloc o1
    clear hown hp
    go_enter Try.func55, Try.ntmps55
    go_wp2_with (first
      | (at_mapUpdate; refine wpList_mapUpdate_own _ rfl _ _ _ 81 rfl 3 4 keyed_int Try.underlying81 _ m L.length _ rfl (hown2 _) (by unfold maxLen; omega) _ _ _ rfl rfl hkey _ [] (plainElem_bool Try.underlying4 true) ?_; intro w1 hown1 hgrow1)
      | go_in)
    refine bodyPost_end (v := .tuple #[]) (by simp [results, Try.results55, go_sem]; done) rfl ⟨⟨_, rfl⟩, ?_, ?_⟩
    · refine RInv.put (x := .mk 3 n s l) hD'.out ?_ rfl _ hown1 (gcell hgrow1 (((Ext.refl w).alloc _).at hp'.out) hpb)
      obtain ⟨es, h, -⟩ := hown'.out.keysOf
      exact ⟨es, h⟩
    · exact (grown_of_ext ((Ext.refl w).alloc _) _).trans hgrow1
  · have hI2 := Lib.hid (RInv.same (x := .mk o n s l) (show RInv m pb L w from ⟨⟨D, hown, hD⟩, hp⟩) ho)
    have hob : (o == 3) = false := by simp [ho]
    clear hr hm hl3 hok hown hD hp
    go_enter Try.func55, Try.ntmps55
    go_wp2_with fail
    refine bodyPost_end (v := .tuple #[]) (by simp [results, Try.results55, go_sem]; done) rfl ⟨⟨_, rfl⟩, hI2.out.alloc _, grown_of_ext ((Ext.refl w).alloc _) _⟩
end Go.Proofs.Ytmhelkhmgbbfhaa

/- Walk: the columns that an expression reads, of the program (expr.Reads). -/
namespace Go.Proofs.Ytmhelkhmgbbfhaa
open Go.RowKit Go.Lib Go.Maps Go.Sort Go.Shelf

mutual
theorem reads_pre (x : Int) : ∀ e : Ex, x ∈ readsP e ↔ ∃ y ∈ pre e, y.op = 3 ∧ y.n = x
  | .mk o n s l => by
    rw [readsP, readsL_mem, reads_preL x l, pre]
    constructor
    · rintro (h | ⟨y, hy, h⟩)
      · split at h
        · rename_i ho
          rw [List.mem_singleton] at h
          exact ⟨.mk o n s l, List.mem_cons_self .., ho, h.symm⟩
        · cases h
      · exact ⟨y, List.mem_cons_of_mem _ hy, h⟩
    · rintro ⟨y, hy, h1, h2⟩
      rcases List.mem_cons.1 hy with rfl | hy
      · change o = 3 at h1
        rw [if_pos h1]
        exact .inl (by rw [← h2]; exact List.mem_cons_self ..)
      · exact .inr ⟨y, hy, h1, h2⟩
theorem reads_preL (x : Int) : ∀ l : List Ex, (∃ e ∈ l, x ∈ readsP e) ↔ ∃ y ∈ preL l, y.op = 3 ∧ y.n = x
  | [] => by rw [preL]; simp
  | e :: l => by
    rw [preL]
    constructor
    · rintro ⟨z, hz, h⟩
      rcases List.mem_cons.1 hz with hz | hz
      · rw [hz] at h
        obtain ⟨y, hy, h⟩ := (reads_pre x e).1 h
        exact ⟨y, List.mem_append.2 (.inl hy), h⟩
      · obtain ⟨y, hy, h⟩ := (reads_preL x l).1 ⟨z, hz, h⟩
        exact ⟨y, List.mem_append.2 (.inr hy), h⟩
    · rintro ⟨y, hy, h⟩
      rcases List.mem_append.1 hy with hy | hy
      · exact ⟨e, by simp, (reads_pre x e).2 ⟨y, hy, h⟩⟩
      · obtain ⟨z, hz, h⟩ := (reads_preL x l).2 ⟨y, hy, h⟩
        exact ⟨z, by simp [hz], h⟩
end
theorem up_pair : ∀ l : List Int, Up l → l.Pairwise (· < ·)
  | [], _ => .nil
  | a :: l, h => by rw [Up] at h; exact .cons h.1 (up_pair l h.2)
/-- the sorted keys of a map are the columns -/
theorem sorted_keys {e : Ex} {D : DataW Unit} {m n : Nat} {w : World} {R : Value → Option (DataW Unit × List MemPlace)} (hown : w.ownsMap Try.prog 3 R m n D) (hD : ∀ x : Int, has D (.int .i64 x) = true ↔ ∃ y ∈ pre e, y.op = 3 ∧ y.n = x) {ss : List Int} (hp : ss.Perm (intKeys D)) :
    ss.mergeSort (fun x y => decide (x ≤ y)) = readsP e ∧ ss.length = (readsP e).length := by
  obtain ⟨es, h1, hpw, _⟩ := hown.entries keyed_int
  obtain ⟨es', h2, hko⟩ := hown.keysOf
  obtain rfl : es = es' := by rw [h1] at h2; simpa using h2
  subst h1
  have hpair := up_pair _ (readsP_up e)
  have h3 : (readsP e).Perm (intKeys (.map es)) := perm_intKeys hpw (fun p hp => by obtain ⟨v, hv⟩ := hko p hp; obtain ⟨x, _, hx, _⟩ := Maps.keyOf_i64 Try.underlying3 hv; exact ⟨x, hx⟩) (hpair.imp fun h => by omega) (fun x => by rw [reads_pre, hD])
  have h4 := hp.trans h3.symm
  refine ⟨(mergeSort_of_perm_i h4).trans ?_, h4.length_eq⟩
  exact List.mergeSort_of_pairwise (hpair.imp fun h => by simp only [leI, decide_eq_true_eq]; omega)

/-- slices.Sort's two contracts at this dump, at the fence that asks nothing -/
theorem sortsA (m : Nat) : AnyZI.SortsIn Try.prog Try.sortedA_ren Fence.wide m :=
  ⟨fun blk off cap ss W hH hblk hsz => callsIn_wide.2 (AnyM.slices_Sort_int Try.sortA blk off cap ss W hH hblk hsz),
   fun p cap W => callsIn_wide.2 (AnyM.slices_Sort_int_none Try.sortA p cap W)⟩
theorem keys_any (mb : Option Nat) (W : World) : Calls Try.prog 57 #[.map mb] W fun e w' => e = .returned (.func (.func 89) #[] #[.pointer (some ⟨W.heap.size, 0, none⟩)]) ∧ w' = W.alloc (.cells #[.map mb] 81) :=
  (callsIn_wide (n := 5)).1 (AnyZI.keys_in Try.keysA Fence.wide 5 trivial rfl mb W)
theorem sorted_any {H : Type} (b nn : Nat) (D0 : DataW H) (R : Value → Option (DataW H × List MemPlace)) (w : World) (hown : w.ownsMap Try.prog 3 R b nn D0) (hmax : Maps.size D0 ≤ maxLen) (hbytes : Maps.size D0 * 8 ≤ 140737488355328) :
    Calls Try.prog 56 #[.func (.func 89) #[] #[.pointer (some ⟨w.heap.size, 0, none⟩)]] (w.alloc (.cells #[.map (some b)] 81)) fun e w' => ∃ (v : Value) (ss : List Int), e = .returned v ∧ ss.Perm (intKeys D0) ∧
      w'.ownsRow (w.heap.size + 1) 3 1 v ss.length ((ss.mergeSort (fun x y => decide (x ≤ y))).map encZ) ∧ Ext (w.alloc (.cells #[.map (some b)] 81)) w' := by
  have hbl := hown.lt
  have hseq : SeqGives Fence.wide 2 Try.prog 89 #[.pointer (some ⟨w.heap.size, 0, none⟩)] encZ (fun ss => ss.Perm (intKeys D0)) (Maps.size D0) (w.alloc (.cells #[.map (some b)] 81)) :=
    AnyZI.keys_gives (ρ := Try.keysA_ren) { Try.keysA with } Fence.wide _ trivial rfl (by omega) w.heap.size b nn D0 _ (by simp) (by simp) (by
      obtain ⟨es, clock, hb, Ft, hs, hD⟩ := hown
      exact ⟨es, clock, (Below.heap_alloc _ _ b hbl).trans hb, Ft, hs, hD⟩)
  have cS := AnyZI.sorted_in Try.sortedA Fence.wide 5 trivial trivial trivial trivial rfl (by omega) (sortsA _) (enters_of Try.func88 (by kernel_rfl) rfl) 89 #[.pointer (some ⟨w.heap.size, 0, none⟩)] trivial (enters_of Try.func89 (by kernel_rfl) rfl) _ _ hmax hbytes _ hseq
  change CallsIn _ _ Try.prog 56 _ _ _ at cS
  refine callsIn_wide.1 (cS.mono ?_)
  rintro e w' ⟨v, ss, rfl, hS, hrow, hnil, hb⟩
  have hrow2 : w'.ownsRow (w.alloc (.cells #[.map (some b)] 81)).heap.size 3 1 v ss.length ((ss.mergeSort (fun x y => decide (x ≤ y))).map encZ) := hrow
  exact ⟨v, ss, rfl, hS, by simpa using hrow2, hb⟩

set_option maxRecDepth 100000 in
set_option maxHeartbeats 2000000 in
theorem reads_any (e : Ex) (hok : colsOk e) (hbd : parts e ≤ 1000000) (S : Nat → Prop) (cs : List Value) (w : World) (hr0 : Rd w S e.d cs) :
    Calls Try.prog 29 #[.agg cs.toArray] w fun r w' => ∃ v, r = .returned v ∧ w'.ownsRow w.heap.size 3 1 v (readsP e).length ((readsP e).map encZ) ∧ Ext w w' := by
  have hr := ex_bound e _ hr0
  obtain ⟨A, cap, b, off, rfl, hl1, hl2, hl3, hm⟩ := Ex.open hr
  have hmm := @run_makeMap Try.prog
  have hr' := Lib.hid hr; have hok' := Lib.hid hok
  clear hr hm hl3 hok hr0
  go_enter Try.func29, Try.ntmps29
  go_wp2_with fail
  generalize hWe : World.alloc (World.alloc (World.alloc w _) _) _ = W
  have hWs : W.heap.size = w.heap.size + 3 := by rw [← hWe]; clear hWe; go_simp
  have hwW : Ext w W := by rw [← hWe]; exact (by repeat' first | exact Ext.refl _ | assumption | apply Ext.alloc | apply Ext.drew | apply Ext.drewN | (refine Ext.trans ?_ (by assumption)))
  have hI : RInv (w.heap.size + 1) (w.heap.size + 1 + 1) [] W := by
    rw [← hWe]
    clear hWe
    refine ⟨⟨.map [], ?_, fun x => by simp [has]⟩, by go_simp⟩
    have := World.ownsMap_made (w.alloc (.cells #[.int .i64 e.op, .int .i64 e.n, .string e.s, .slice A e.args.length cap] 25)) Try.prog 3 (plainElem (H := Unit) Try.prog 4)
    have h2 := this.alloc (.cells #[.map (some (w.heap.size + 1))] 81)
    simpa using h2
  clear hWe
  refine (walk_readsB 1000000 #[.pointer (some ⟨w.heap.size + 1 + 1, 0, none⟩)] (w.heap.size + 1) (fun b => b < w.heap.size) (fun b hb => by omega) (RInv (w.heap.size + 1) (w.heap.size + 1 + 1)) colsOk colsOk_args (read_part _ _ _ (by omega)) (fun L w o h => h.alloc o) e [] _ W (by simpa using hbd) hok'.out hI (hr'.out.ext hwW) (by omega)).mono ?_
  rintro r w1 ⟨⟨v, rfl⟩, hI2, hg⟩
  obtain ⟨⟨D, hown, hD⟩, hp⟩ := hI2
  rw [List.nil_append] at hown hD
  have hp' := Lib.hid hp; have hown' := Lib.hid hown; have hD' := Lib.hid hD
  have he1 : Ext w w1 := ⟨hg.os.trans hwW.os, hg.tape.trans hwW.tape, hg.output.trans hwW.output, Nat.le_trans hwW.size hg.size, fun k hk => (hg.block k (Nat.lt_of_lt_of_le hk hwW.size) (fun h => by have := Option.some.inj h; omega)).trans (hwW.block k hk)⟩
  clear hI hwW hown hD hg
  go_wp2_with fail
  refine (keys_any _ _).mono ?_
  rintro r w2 ⟨rfl, rfl⟩
  go_wp2_with fail
  have hsz := hown'.out.size_le
  have hpl := pre_len e
  refine (sorted_any (w.heap.size + 1) _ D _ w1 hown'.out (by unfold maxLen; omega) (by omega)).mono ?_
  rintro r w3 ⟨u, ss, rfl, hperm, hrow, he3⟩
  obtain ⟨k1, k2⟩ := sorted_keys hown'.out hD'.out hperm
  rw [k1, k2] at hrow
  have he4 : Ext w w3 := (he1.alloc _).trans he3
  have hrow' : w3.ownsRow w.heap.size 3 1 u (readsP e).length ((readsP e).map encZ) := ownsRow_base_a hrow (by have := he1.size; omega)
  clear hp k1 k2 hrow he3 hsz
  go_wp2_with fail
  go_ret
  exact ⟨u, rfl, hrow', he4⟩
theorem reads_g (e : Ex) (hok : colsOk e) (hbd : parts e ≤ 1000000) : Gives Try.prog 29 [e.av] (.sl ((readsP e).map AV.int)) :=
  gives_of fun X vals ha => by
    obtain ⟨v0, _, rfl, h0, h3⟩ := ha
    cases h3
    obtain ⟨cs, rfl, hr⟩ := arg_ex h0
    refine (reads_any e hok hbd Any cs X.w hr).mono ?_
    rintro r w' ⟨v, rfl, hrow, he⟩
    refine ⟨he, v, rfl, ?_⟩
    have hR : Rd w' (fun b => X.w.heap.size ≤ b ∧ b < w'.heap.size) (.sl ((readsP e).map D.int)) [v] :=
      own_ints (S := fun b => X.w.heap.size ≤ b ∧ b < w'.heap.size) hrow (fun b hb => hrow.lt b hb)
    have := later_rc (X := X) hR
    rw [ints_av] at this
    exact this
end Go.Proofs.Ytmhelkhmgbbfhaa

/- A value depends on the columns that are read, and on the time only if it is read. -/
namespace Go.Proofs.Ytmhelkhmgbbfhaa
open Go.RowKit Go.Lib

theorem ev_reads {call : Int → List Val → Val} {time : Int} {row row2 params : List Val} (e : Ex) : (∀ x ∈ readsP e, row.getD x.toNat zeroV = row2.getD x.toNat zeroV) → ev call time row params e = ev call time row2 params e := by
  induction e using Ex.ind with
  | h o n s l ih =>
    intro h
    rw [readsP] at h
    have hvs : evs call time row params l = evs call time row2 params l := by
      rw [evs_map, evs_map]
      exact List.map_congr_left fun y hy => ih y hy fun x hx => h x ((readsL_mem x l _).2 (.inr ⟨y, hy, hx⟩))
    rw [ev, ev, hvs]
    split
    · rfl
    · refine opV_other (fun h3 => h n ((readsL_mem n l _).2 (.inl ?_))) (fun _ => rfl)
      rw [if_pos h3]; simp
/-- the columns that a typed expression reads are there -/
theorem reads_lt {F : List Fn} {c p : List Int} (e : Ex) : ∀ {t : Int}, ty F c p e = some t → ∀ x ∈ readsP e, 0 ≤ x ∧ x < c.length := by
  induction e using Ex.ind with
  | h o n s l ih =>
    intro t ht x hx
    rw [ty] at ht
    cases hl : tys F c p l with
    | none => rw [hl] at ht; cases ht
    | some ts =>
      rw [hl] at ht
      rw [readsP] at hx
      rcases (readsL_mem x l _).1 hx with h | ⟨y, hy, h⟩
      · split at h
        · rename_i h3
          have hp := tailT_col (.inl h3) ht
          rw [if_pos h3] at hp
          obtain ⟨h0, h1⟩ := pickT_get hp
          have := (List.getElem?_eq_some_iff.1 h1).1
          have hxn : x = n := by simpa using h
          omega
        · cases h
      · obtain ⟨u, hu⟩ := tys_mem l hl y hy
        exact ih y hy hu x h
theorem reads_few {F : List Fn} {c p : List Int} {e : Ex} {t : Int} (ht : ty F c p e = some t) : (readsP e).length ≤ c.length := by
  have := up_len (readsP e) 0 c.length (readsP_up e) (fun x hx => reads_lt e ht x hx) (by omega)
  omega

theorem opV_time {call call2 : Int → List Val → Val} {t1 t2 : Int} {row params : List Val} {op n : Int} {s : ByteArray} {vs : List Val} (h5 : op ≠ 5) (h : op = 22 → call n vs = call2 n vs) : opV call t1 row params op n s vs = opV call2 t2 row params op n s vs := by
  rw [opV_call h]
  unfold opV
  simp only [if_neg h5]
theorem tim_sem {F : List Fn} {t1 t2 : Int} {M : Nat} {B : List Bool} (hB : ∀ (i : Nat), B[i]? = some false → ∀ vs, callN F t1 M (i : Int) vs = callN F t2 M (i : Int) vs) {c p : List Int} {R P : List Val} (e : Ex) : ∀ {t : Int}, ty (F.take B.length) c p e = some t → timE B e = false →
    ev (callN F t1 M) t1 R P e = ev (callN F t2 M) t2 R P e := by
  induction e using Ex.ind with
  | h o n s l ih =>
    intro t ht h
    rw [timE, Bool.or_eq_false_iff, Bool.or_eq_false_iff] at h
    obtain ⟨⟨h5, h22⟩, hl⟩ := h
    rw [timL_any] at hl
    rw [ty] at ht
    cases htl : tys (F.take B.length) c p l with
    | none => rw [htl] at ht; cases ht
    | some ts =>
      rw [htl] at ht
      have hvs : evs (callN F t1 M) t1 R P l = evs (callN F t2 M) t2 R P l := by
        rw [evs_map, evs_map]
        refine List.map_congr_left fun y hy => ?_
        obtain ⟨u, hu⟩ := tys_mem l htl y hy
        refine ih y hy hu ?_
        have := List.any_eq_false.1 hl y hy
        simpa using this
      rw [ev, ev, hvs]
      split
      · rfl
      · refine opV_time (by simpa using h5) fun e22 => ?_
        subst e22
        dsimp only at ht
        unfold tailT at ht
        split at ht
        · cases ht
        · rw [if_pos rfl] at ht
          obtain ⟨h0, hlt, -⟩ := callT_some ht
          rw [if_pos ⟨rfl, h0, by omega⟩, List.getD_eq_getElem?_getD] at h22
          have := hB n.toNat (by rw [List.getElem?_eq_getElem hlt] at h22 ⊢; simpa using h22) (evs (callN F t2 M) t2 R P l)
          rwa [Int.toNat_of_nonneg h0] at this
theorem bodiesT_snoc : ∀ (F : List Fn) (f : Fn) (B : List Bool), bodiesT B (F ++ [f]) = bodiesT B F ++ [timE (bodiesT B F) f.body]
  | [], f, B => rfl
  | g :: F, f, B => by rw [List.cons_append, bodiesT, bodiesT_snoc F f, bodiesT]
theorem bodiesT_length : ∀ (F : List Fn) (B : List Bool), (bodiesT B F).length = B.length + F.length
  | [], B => rfl
  | g :: F, B => by rw [bodiesT, bodiesT_length F]; simp; omega
theorem bodiesT_ok {F : List Fn} {t1 t2 : Int} (hOk : ∀ i, i < F.length → okF F i = true) : ∀ k, k ≤ F.length → ∀ (i : Nat), (bodiesT [] (F.take k))[i]? = some false → ∀ vs, callN F t1 F.length (i : Int) vs = callN F t2 F.length (i : Int) vs
  | 0, _ => by
    intro i h
    rw [List.take_zero, bodiesT] at h
    simp at h
  | k + 1, hk => by
    have hkF : k < F.length := hk
    have ih := bodiesT_ok (t1 := t1) (t2 := t2) hOk k (Nat.le_of_lt hkF)
    have hlen : (bodiesT [] (F.take k)).length = k := by rw [bodiesT_length]; simp; omega
    intro i h vs
    rw [List.take_succ_eq_append_getElem hkF, bodiesT_snoc] at h
    generalize bodiesT [] (F.take k) = B at ih hlen h
    by_cases hi : i < B.length
    · rw [List.getElem?_append_left hi] at h
      exact ih i h vs
    · have hik : i = k := by
        have := (List.getElem?_eq_some_iff.1 h).1
        simp at this
        omega
      subst hik
      rw [List.getElem?_append_right (by omega), hlen] at h
      simp at h
      have hf : F[i]? = some F[i] := List.getElem?_eq_getElem (by omega)
      have hb := okF_body (hOk i (by omega)) hf
      have main := tim_sem (F := F) (M := F.length) (R := []) (P := vs) ih F[i].body (by rw [hlen]; exact hb) h
      rw [ev_fuel (time := t1) hOk i F[i].body (M := F.length) (by omega) hb, ev_fuel (time := t2) hOk i F[i].body (M := F.length) (by omega) hb] at main
      obtain ⟨j, hj⟩ : ∃ j, F.length = j + 1 := ⟨F.length - 1, by omega⟩
      rw [hj]
      simp only [callN, Int.toNat_natCast, hf]
      rw [ev_fuel hOk i F[i].body (M := j) (by omega) hb, ev_fuel hOk i F[i].body (M := j) (by omega) hb]
      exact main
theorem eval_time {F : List Fn} {t1 t2 : Int} {R : List Val} {e : Ex} {t : Int} (hOk : ∀ i, i < F.length → okF F i = true) (ht : ty F (R.map Val.k) [] e = some t) (h : timedP F e = false) : evalP F t1 R e = evalP F t2 R e := by
  have hB := bodiesT_ok (t1 := t1) (t2 := t2) hOk F.length (Nat.le_refl _)
  rw [List.take_length] at hB
  exact tim_sem hB e (by rw [bodiesT_length, List.length_nil, Nat.zero_add, List.take_length]; exact ht) h
end Go.Proofs.Ytmhelkhmgbbfhaa

/- What a good triple gives. -/
namespace Go.Proofs.Ytmhelkhmgbbfhaa
open Go.RowKit Go.Lib

/-- what a good triple gives -/
structure Good (F : List Fn) (e : Ex) (R : List Val) (t : Int) : Prop where
  ok : ∀ i, i < F.length → okF F i = true
  ty : ty F (R.map Val.k) [] e = some t
  snd : ∀ v ∈ R, soundV v
  pe : parts e ≤ 100
  pF : ∀ f ∈ F, parts f.body ≤ 60
  len : F.length ≤ 22
  st : stepsP F e ≤ 10000
theorem good_good {F : List Fn} {e : Ex} {R : List Val} (hg : goodP F e R = true) : ∃ t, Good F e R t := by
  obtain ⟨t, hT, hRF, hty, hOk, hFp, hpb, hlR, hsR, hlev⟩ := good_all hg
  have hst10 : stepsP F e ≤ 10000 := by
    unfold goodP at hg
    simp only [Bool.and_eq_true, decide_eq_true_eq] at hg
    exact hg.2
  have hgp := hg
  unfold goodP at hgp
  simp only [Bool.and_eq_true, decide_eq_true_eq] at hgp
  have hF22 : F.length ≤ 22 := (goodP_parts hgp.1.1.1.1 hgp.1.1.1.2 hgp.1.1.2).1
  have hpe : parts e ≤ 100 := by have := parts_of_light (by omega) hgp.1.1.1.2; omega
  have hpF : ∀ f ∈ F, parts f.body ≤ 60 := fun f hf => by
    have h1 := hgp.1.1.1.1
    unfold fair at h1
    simp only [Bool.and_eq_true, List.all_eq_true, decide_eq_true_eq] at h1
    have h := h1.1 f hf
    unfold fairB at h
    simp only [Bool.and_eq_true, decide_eq_true_eq] at h
    have := parts_of_light (by omega) h.1; omega
  exact ⟨t, hOk, hty, hsR, hpe, hpF, hF22, hst10⟩
theorem Good.eval {F : List Fn} {e : Ex} {R : List Val} {t : Int} (g : Good F e R t) (time : Int) : Gives Try.prog 13 [.sl (F.map Fn.av), e.av, .int time, .sl (R.map Val.av)] (evalP F time R e).av :=
  eval_g F time R e t g.ok (fun f hf => by have := g.pF f hf; omega) (by have := g.pe; omega) g.ty g.snd
end Go.Proofs.Ytmhelkhmgbbfhaa

/- Contracts of Timed, as abstract ones. -/
namespace Go.Proofs.Ytmhelkhmgbbfhaa
open Go.RowKit Go.Lib

theorem timed_g (F : List Fn) (e : Ex) (hlen : F.length ≤ 1000000) (hwf : wfS F.length e = true) (hwF : ∀ i (h : i < F.length), wfS i F[i].body = true) : Gives Try.prog 26 [.sl (F.map Fn.av), e.av] (.bool (timedP F e)) :=
  gives_v fun X vals ha => by
    obtain ⟨v0, _, rfl, h0, v1, _, rfl, h1, h3⟩ := ha
    cases h3
    obtain ⟨cs, rfl, hr⟩ := arg_ex h1
    exact Timed_any F e Any Any v0 cs X.w (arg_fns h0) hr hlen hwf hwF
theorem rtimed_g (F : List Fn) (e : Ex) (hbd : parts e ≤ 1000000) (hp : ∀ f ∈ F, parts f.body ≤ 1000000) (hlen : F.length ≤ 1000000) : Gives Try.prog 27 [.sl (F.map Fn.av), e.av] (.bool (timedP F e)) :=
  gives_v fun X vals ha => by
    obtain ⟨v0, _, rfl, h0, v1, _, rfl, h1, h3⟩ := ha
    cases h3
    obtain ⟨cs, rfl, hr⟩ := arg_ex h1
    exact rTimed_any F e Any Any v0 cs X.w (arg_fns h0) hr hbd hp hlen
end Go.Proofs.Ytmhelkhmgbbfhaa
