/- Walks: whether an expression reads the time, of the program. -/
import Derived.Test.YtmhelkhmgbbfhaaGa2
import Derived.Test.YtmhelkhmgbbfhaaGa5
import Derived.Test.YtmhelkhmgbbfhaaGa9
import Derived.Test.YtmhelkhmgbbfhaaGa10
set_option linter.unusedSimpArgs false
set_option linter.unusedVariables false
namespace Go.Proofs.Ytmhelkhmgbbfhaa
open Go.RowKit Go.Lib

/-- whether a part by itself reads the time -/
def tpart (B : List Bool) (x : Ex) : Bool := decide (x.op = 5) || (if x.op = 22 ∧ 0 ≤ x.n ∧ x.n < B.length then B.getD x.n.toNat false else false)
mutual
theorem pre_timed (B : List Bool) : ∀ e : Ex, (pre e).any (tpart B) = timE B e
  | .mk o n s l => by rw [pre, List.any_cons, preL_timed B l, timE]; rfl
theorem preL_timed (B : List Bool) : ∀ l : List Ex, (preL l).any (tpart B) = timL B l
  | [] => by rw [preL, timL]; rfl
  | e :: l => by rw [preL, List.any_append, pre_timed B e, preL_timed B l, timL]
end

def TInv (B : List Bool) (S : Nat → Prop) (m pb : Nat) (vB : Value) (L : List Ex) (w : World) : Prop :=
  w.cell? ⟨m, 0, none⟩ = some (.bool (L.any (tpart B))) ∧ w.frozen? ⟨m, 0, none⟩ = false ∧ w.cell? ⟨pb, 0, none⟩ = some vB ∧ Rd w S (.sl (B.map D.bool)) [vB]

theorem TInv.ext {B : List Bool} {S : Nat → Prop} {m pb : Nat} {vB : Value} {L : List Ex} {w w' : World} (h : TInv B S m pb vB L w) (hm : m < w.heap.size) (he : Ext w w') : TInv B S m pb vB L w' :=
  ⟨he.at h.1, (he.frozens _ _ hm).trans h.2.1, he.at h.2.2.1, Rd.ext h.2.2.2 he⟩

set_option maxRecDepth 10000 in
set_option maxHeartbeats 2000000 in
theorem timed_part (B : List Bool) (S : Nat → Prop) (m pb : Nat) (hS : ∀ b, S b → b ≠ m) (hpb : pb ≠ m) (vB : Value) :
    Steps1 53 #[.pointer (some ⟨m, 0, none⟩), .pointer (some ⟨pb, 0, none⟩)] m S (TInv B S m pb vB) (fun x => wfS B.length x = true) := by
  intro L x cs w hok hI hr hm0
  obtain ⟨f0, z0, p0, hB⟩ := hI
  obtain ⟨A, cap, b, off, rfl, hl1, hl2, hl3, hm⟩ := Ex.open hr
  obtain ⟨AB, capB, bB, offB, rfl, B1, B2, B3, B4⟩ := Rd.sl_open hB
  obtain ⟨o, n, s, l⟩ := x
  simp only [Ex.args, Ex.op, Ex.n, Ex.s, List.length_map] at *
  rw [wfS] at hok
  simp only [Bool.and_eq_true, Bool.or_eq_true, Bool.not_eq_true', decide_eq_false_iff_not, decide_eq_true_eq] at hok
  have hw2 := hok.1.2
  have hB' := Lib.hid hB
  have hfin : ∀ (w' : World) (u : Bool), Ext w w' → w'.cell? ⟨m, 0, none⟩ = some (.bool (L.any (tpart B))) → w'.frozen? ⟨m, 0, none⟩ = false → (L ++ [Ex.mk o n s l]).any (tpart B) = u →
      TInv B S m pb (.slice AB B.length capB) (L ++ [Ex.mk o n s l]) (w'.setCell ⟨m, 0, none⟩ (.bool u)) ∧ w.grownBy (w'.setCell ⟨m, 0, none⟩ (.bool u)) (some m) := by
    intro w' u he h0 h1 hu
    have hk : ∀ b, b ≠ m → (w'.setCell ⟨m, 0, none⟩ (.bool u)).heap[b]? = w'.heap[b]? := fun b hb => Below.heap_setCell w' ⟨m, 0, none⟩ (.bool u) b hb
    refine ⟨⟨by rw [hu]; go_simp, by go_simp, ?_, ?_⟩, ?_⟩
    · exact (World.cell?_of_block (hk pb hpb)).trans (he.at p0)
    · exact Rd.keep (fun b hb _ => hk b (hS b hb)) (fun _ h => h) _ _ (hB'.out.ext he)
    · refine ⟨he.os, he.tape, he.output, by simpa using he.size, fun k hk1 hk2 => ?_⟩
      exact (hk k (fun e => hk2 (by rw [e]))).trans (he.block k hk1)
  have hfin' := Lib.hid hfin
  have hT : (L ++ [Ex.mk o n s l]).any (tpart B) = (L.any (tpart B) || (decide (o = 5) || (if o = 22 ∧ 0 ≤ n ∧ n < B.length then B.getD n.toNat false else false))) := by
    rw [List.any_append, List.any_cons, List.any_nil, Bool.or_false]; rfl
  clear hr hm hl3 hfin hok hB
  have hm0' : ∀ u, m < (w.setCell ⟨m, 0, none⟩ u).heap.size := fun u => by simpa using hm0
  have f0' := Lib.hid f0
  have g0 : ∀ o1, (w.alloc o1).cell? _ = some _ := fun o1 => ((Ext.refl w).alloc o1).at f0
  have y0 : ∀ o1, (w.alloc o1).frozen? _ = false := fun o1 => (((Ext.refl w).alloc o1).frozens _ _ hm0).trans z0
  have gp : ∀ o1, (w.alloc o1).cell? _ = some _ := fun o1 => ((Ext.refl w).alloc o1).at p0
  cases hf : L.any (tpart B) with
  | true =>
    have hT2 := Lib.hid (show (L ++ [Ex.mk o n s l]).any (tpart B) = true by rw [hT, hf]; rfl)
    rw [hf] at f0 g0
    clear hT hf hw2 B3 B4
    go_enter Try.func53, Try.ntmps53
    go_wp2_with fail
    refine bodyPost_end (v := .tuple #[]) (by simp [results, Try.results53, go_sem]; done) rfl ⟨⟨_, rfl⟩, (hfin'.out w _ (Ext.refl w) f0'.out z0 hT2.out).1.ext (hm0' _) ((Ext.refl _).alloc _), (hfin'.out w _ (Ext.refl w) f0'.out z0 hT2.out).2.trans (grown_of_ext ((Ext.refl _).alloc _) _)⟩
  | false =>
    rw [hf] at f0 g0
    by_cases h5 : o = 5
    · subst h5
      have hT2 := Lib.hid (show (L ++ [Ex.mk 5 n s l]).any (tpart B) = true by rw [hT, hf]; simp)
      clear hT hf hw2 B3 B4
      go_enter Try.func53, Try.ntmps53
      go_wp2_with fail
      refine bodyPost_end (v := .tuple #[]) (by simp [results, Try.results53, go_sem]; done) rfl ⟨⟨_, rfl⟩, (hfin'.out w _ (Ext.refl w) f0'.out z0 hT2.out).1.ext (hm0' _) ((Ext.refl _).alloc _), (hfin'.out w _ (Ext.refl w) f0'.out z0 hT2.out).2.trans (grown_of_ext ((Ext.refl _).alloc _) _)⟩
    · have h5b : (o == 5) = false := by simp [h5]
      by_cases h22 : o = 22
      · subst h22
        obtain ⟨hn1, hn2⟩ := hw2.resolve_left (by simp)
        obtain ⟨j, rfl⟩ := Int.eq_ofNat_of_zero_le hn1
        have hj : j < B.length := by omega
        obtain ⟨rfl, hSB⟩ := B3 (by omega)
        have c0 := bools_at B4 hj
        have gc : ∀ o1, (w.alloc o1).cell? _ = some _ := fun o1 => ((Ext.refl w).alloc o1).at c0
        have hT2 := Lib.hid (show (L ++ [Ex.mk 22 j s l]).any (tpart B) = B[j] by
          rw [hT, hf, if_pos ⟨rfl, hn1, hn2⟩]
          simp [List.getD_eq_getElem?_getD, List.getElem?_eq_getElem hj])
        clear hT hf hw2 B3 B4 h5
        go_enter Try.func53, Try.ntmps53
        go_wp2_with fail
        refine bodyPost_end (v := .tuple #[]) (by simp [results, Try.results53, go_sem]; done) rfl ⟨⟨_, rfl⟩, (hfin'.out w _ (Ext.refl w) f0'.out z0 hT2.out).1.ext (hm0' _) ((Ext.refl _).alloc _), (hfin'.out w _ (Ext.refl w) f0'.out z0 hT2.out).2.trans (grown_of_ext ((Ext.refl _).alloc _) _)⟩
      · have h22b : (o == 22) = false := by simp [h22]
        have hT2 := Lib.hid (show (L ++ [Ex.mk o n s l]).any (tpart B) = false by rw [hT, hf, if_neg (fun h => h22 h.1)]; simp [h5])
        clear hT hf hw2 B3 B4 h5 h22
        go_enter Try.func53, Try.ntmps53
        go_wp2_with fail
        refine bodyPost_end (v := .tuple #[]) (by simp [results, Try.results53, go_sem]; done) rfl ⟨⟨_, rfl⟩, (hfin'.out w _ (Ext.refl w) f0'.out z0 hT2.out).1.ext (hm0' _) ((Ext.refl _).alloc _), (hfin'.out w _ (Ext.refl w) f0'.out z0 hT2.out).2.trans (grown_of_ext ((Ext.refl _).alloc _) _)⟩

theorem wfS_args {m : Nat} (o n : Int) (s : ByteArray) (l : List Ex) (h : wfS m (.mk o n s l) = true) : ∀ x ∈ l, wfS m x = true := by
  rw [wfS, wfSL_all] at h
  simp only [Bool.and_eq_true, List.all_eq_true] at h
  exact h.2

set_option maxRecDepth 10000 in
set_option maxHeartbeats 2000000 in
theorem timedfn_any (B : List Bool) (e : Ex) (hwf : wfS B.length e = true) (pb : Nat) (vB : Value) (cs : List Value) (w : World) (hp : w.cell? ⟨pb, 0, none⟩ = some vB) (hB : Rd w (fun b => b < w.heap.size) (.sl (B.map D.bool)) [vB]) (hr : Rd w (fun b => b < w.heap.size) e.d cs) :
    Calls Try.prog 51 #[.agg cs.toArray, .pointer (some ⟨pb, 0, none⟩)] w fun r w' => r = .returned (.bool (timE B e)) ∧ Ext w w' := by
  obtain ⟨A, cap, b, off, rfl, hl1, hl2, hl3, hm⟩ := Ex.open hr
  have hpl : pb < w.heap.size := World.block_lt_of_cell? w _ hp
  have hr' := Lib.hid hr; have hB' := Lib.hid hB; have hp' := Lib.hid hp; have hwf' := Lib.hid hwf
  clear hr hB hm hl3 hp hwf
  go_enter Try.func51, Try.ntmps51
  go_wp2_with fail
  generalize hWe : World.alloc (World.alloc w _) _ = W
  have f0 : W.cell? ⟨w.heap.size + 1, 0, none⟩ = some (.bool false) := by rw [← hWe]; clear hWe; go_simp
  have z0 : W.frozen? ⟨w.heap.size + 1, 0, none⟩ = false := by rw [← hWe]; clear hWe; go_simp
  have hWs : W.heap.size = w.heap.size + 2 := by rw [← hWe]; clear hWe; go_simp
  have hwW : Ext w W := by rw [← hWe]; exact (by repeat' first | exact Ext.refl _ | assumption | apply Ext.alloc | apply Ext.drew | apply Ext.drewN | (refine Ext.trans ?_ (by assumption)))
  clear hWe
  refine (walk_timed #[.pointer (some ⟨w.heap.size + 1, 0, none⟩), .pointer (some ⟨pb, 0, none⟩)] (w.heap.size + 1) (fun b => b < w.heap.size) (fun b hb => by omega) (TInv B (fun b => b < w.heap.size) (w.heap.size + 1) pb vB) (fun x => wfS B.length x = true) (fun o n s l h => wfS_args o n s l h)
    (timed_part B _ _ pb (fun b hb => by omega) (by omega) vB) (fun L w o h => h.ext (World.block_lt_of_cell? w _ h.1) ((Ext.refl _).alloc _)) e [] _ W hwf'.out ⟨f0, z0, hwW.at hp'.out, hB'.out.ext hwW⟩ (hr'.out.ext hwW) (by omega)).mono ?_
  rintro r w1 ⟨⟨v, rfl⟩, hI, hg⟩
  have g0 := hI.1
  rw [List.nil_append, pre_timed] at g0
  have hw1 : Ext w w1 := Below.grown hwW hg (by omega) (fun k hk => by cases hk; omega)
  clear hI hg f0 z0
  go_wp2_with fail
  go_ret
  exact ⟨rfl, hw1⟩

theorem ex_bound {w : World} {S : Nat → Prop} (e : Ex) : ∀ (cs : List Value), Rd w S e.d cs → Rd w (fun b => b < w.heap.size) e.d cs := by
  induction e using Ex.ind with | h o n s l ih => ?_
  intro cs hr
  obtain ⟨A, cap, b, off, rfl, hl1, hl2, hl3, hm⟩ := Ex.open hr
  refine Ex.mk_rd (b1 := b) (off1 := off) hl1 hl2 (fun hl => ⟨(hl3 hl).1, ?_⟩) (RdM.of_get (sz := 4) _ _ _ (Ex.widths _) fun i hi => ?_)
  · obtain ⟨A1, cap1, b1, off1, c0, -⟩ := Ex.at hm hl
    exact World.block_lt_of_cell? w _ c0
  · obtain ⟨cs', h1, h2⟩ := RdM.get _ _ _ hm (Ex.widths _) i hi
    refine ⟨cs', h1, ?_⟩
    rw [List.getElem_map] at h2 ⊢
    exact ih _ (List.getElem_mem _) _ h2
theorem Rd.upb {w w' : World} {d : D} {cs : List Value} (h : Rd w (fun b => b < w.heap.size) d cs) (he : Ext w w') : Rd w' (fun b => b < w'.heap.size) d cs :=
  Rd.keep (Below.keeps he) (fun b hb => Nat.lt_of_lt_of_le hb he.size) d cs h
theorem own_set {w : World} {B : Nat} {e : TypeId} {size n : Nat} {v : Value} {xs : List Value} (h : w.ownsRow B e size v n xs) {p : Addr} (hp : p.block < B) (u : Value) : (w.setCell p u).ownsRow B e size v n xs := by
  refine ⟨h.1, ?_⟩
  rcases h.2 with h2 | ⟨g, cap, cur, hv, hg, hh, r⟩
  · exact Or.inl h2
  · exact Or.inr ⟨g, cap, cur, hv, hg, (Below.heap_setCell w p u g (by omega)).trans hh, r⟩
theorem cell_set {w : World} {p q : Addr} {u v : Value} (h : w.cell? q = some v) (hne : q.block ≠ p.block) : (w.setCell p u).cell? q = some v :=
  (World.cell?_of_block (Below.heap_setCell w p u q.block hne)).trans h
theorem own_form {w : World} {B : Nat} {e : TypeId} {size n : Nat} {v : Value} {xs : List Value} (h : w.ownsRow B e size v n xs) : ∃ A cap, v = .slice A n cap := by
  rcases h.2 with ⟨rfl, rfl⟩ | ⟨g, cap, cur, rfl, -⟩
  · exact ⟨none, 0, rfl⟩
  · exact ⟨_, cap, rfl⟩

set_option maxRecDepth 10000 in
set_option maxHeartbeats 2000000 in
theorem Timed_any (F : List Fn) (e : Ex) (S S1 : Nat → Prop) (vF : Value) (cs : List Value) (w : World) (hF : Rd w S1 (.sl (F.map Fn.d)) [vF]) (hr : Rd w S e.d cs) (hlen : F.length ≤ 1000000) (hwf : wfS F.length e = true) (hwF : ∀ i (h : i < F.length), wfS i F[i].body = true) :
    Calls Try.prog 26 #[vF, .agg cs.toArray] w fun r w' => r = .returned (.bool (timedP F e)) ∧ Ext w w' := by
  obtain ⟨A, cap, b, off, rfl, hl1, hl2, hl3, hm⟩ := Ex.open hr
  obtain ⟨AF, capF, bF, offF, rfl, F1, F2, F3, F4⟩ := Rd.sl_open hF
  simp only [List.length_map] at *
  have hr' := Lib.hid (ex_bound e _ hr); have F3' := Lib.hid F3; have F4' := Lib.hid F4; have hwF' := Lib.hid hwF; have hwf' := Lib.hid hwf
  clear hF hr hm hl3 F3 F4 hwF hwf
  go_enter Try.func26, Try.ntmps26
  go_wp2_with fail
  generalize hWe : World.alloc (World.alloc w _) _ = W
  have f0 : W.cell? ⟨w.heap.size + 1, 0, none⟩ = some (.slice none 0 0) := by rw [← hWe]; clear hWe; go_simp
  have z0 : W.frozen? ⟨w.heap.size + 1, 0, none⟩ = false := by rw [← hWe]; clear hWe; go_simp
  have e0 : W.cell? ⟨w.heap.size, 0, none⟩ = some (.int .i64 e.op) := by rw [← hWe]; clear hWe; go_simp
  have e1 : W.cell? ⟨w.heap.size, 1, none⟩ = some (.int .i64 e.n) := by rw [← hWe]; clear hWe; go_simp
  have e2 : W.cell? ⟨w.heap.size, 2, none⟩ = some (.string e.s) := by rw [← hWe]; clear hWe; go_simp
  have e3 : W.cell? ⟨w.heap.size, 3, none⟩ = some (.slice A e.args.length cap) := by rw [← hWe]; clear hWe; go_simp
  have hWs : W.heap.size = w.heap.size + 2 := by rw [← hWe]; clear hWe; go_simp
  have hwW : Ext w W := by rw [← hWe]; exact (by repeat' first | exact Ext.refl _ | assumption | apply Ext.alloc | apply Ext.drew | apply Ext.drewN | (refine Ext.trans ?_ (by assumption)))
  clear hWe
  have hE1 := Lib.hid (And.intro e0 (And.intro e1 (And.intro e2 e3)))
  clear e0 e1 e2 e3
  go_loopw [12] (fun i wr => ∃ (k : Nat) (B : List Bool) (x : Value), k ≤ F.length ∧ i = .int .i64 k ∧ B.length = k ∧ wr.cell? ⟨w.heap.size + 1, 0, none⟩ = some x ∧ wr.frozen? ⟨w.heap.size + 1, 0, none⟩ = false ∧ wr.ownsRow (w.heap.size + 2) 4 1 x k (B.map Value.bool) ∧ Hid (bodiesT [] F = bodiesT B (F.drop k)) ∧
      Hid (wr.cell? ⟨w.heap.size, 0, none⟩ = some (.int .i64 e.op) ∧ wr.cell? ⟨w.heap.size, 1, none⟩ = some (.int .i64 e.n) ∧ wr.cell? ⟨w.heap.size, 2, none⟩ = some (.string e.s) ∧ wr.cell? ⟨w.heap.size, 3, none⟩ = some (.slice A e.args.length cap)) ∧ w.heap.size + 2 ≤ wr.heap.size ∧ Ext w wr) (fun i _ => F.length - (intOf i).toNat)
  case atStart => exact ⟨0, [], _, by omega, rfl, rfl, f0, z0, World.ownsRow_nil _ _ _ _, Lib.hid rfl, hE1, by omega, hwW⟩
  case round =>
    obtain ⟨k, B, x, hk, rfl, hBk, hx, hz, hown, HH, hE, hsz, hb⟩ := hrel
    subst hBk
    have hR := own_bools (S := fun b => b < wr.heap.size) hown (fun b hb => (hown.lt b hb).2)
    have hR' := Lib.hid hR
    have hx0 := Lib.hid hx
    have hown' := Lib.hid hown
    clear hR
    by_cases hlt : B.length < F.length
    · obtain ⟨rfl, hSb⟩ := F3'.out (by omega)
      obtain ⟨A1, cap1, b1, off1, A2, cap2, b2, off2, c0, c1, c2, c3, c4, c5, c6, hr0, q1, q2, q3, q4, q5, q6, q7, q8⟩ := Fn.at (F4'.out.ext (fun _ => hSb) hb) hlt
      have hbod := Lib.hid (ex_bound _ _ (Ex.mk_rd q5 q6 q7 q8))
      have hwb := hwF'.out B.length hlt
      have hSb' := Lib.hid hSb
      clear hr0 q3 q4 q5 q7 q8 hSb hown
      go_wp2_with fail
      generalize hWe : World.alloc wr _ = W1
      have hw1 : Ext wr W1 := by rw [← hWe]; exact (by repeat' first | exact Ext.refl _ | assumption | apply Ext.alloc | apply Ext.drew | apply Ext.drewN | (refine Ext.trans ?_ (by assumption)))
      have t3 : W1.cell? ⟨wr.heap.size, 3, none⟩ = some (.int .i64 F[B.length].body.op) := by rw [← hWe]; clear hWe; go_simp
      have t4 : W1.cell? ⟨wr.heap.size, 4, none⟩ = some (.int .i64 F[B.length].body.n) := by rw [← hWe]; clear hWe; go_simp
      have t5 : W1.cell? ⟨wr.heap.size, 5, none⟩ = some (.string F[B.length].body.s) := by rw [← hWe]; clear hWe; go_simp
      have t6 : W1.cell? ⟨wr.heap.size, 6, none⟩ = some (.slice A2 F[B.length].body.args.length cap2) := by rw [← hWe]; clear hWe; go_simp
      have hx1 := hw1.at hx
      clear hWe hx
      have ghx1 := ExtW.at hx1
      have gt3 := ExtW.at t3
      have gt4 := ExtW.at t4
      have gt5 := ExtW.at t5
      have gt6 := ExtW.at t6
      refine wp_region_mixed_ext 4 6 (by decide) (by kernel_rfl) (by kernel_rfl) (by kernel_rfl) ?_
      simp only [List.take_succ_cons, List.take_zero, List.drop_succ_cons, List.drop_zero, List.take_nil, List.drop_nil]
      refine wpReads_cons (by rfl) (by (rintro _ ⟨x, rfl⟩; go_simp; try (with_reducible rfl))) ?_
      try simp only [Act.put, List.setIfInBounds_toArray, List.set_cons_zero, List.set_cons_succ]
      refine wpReads_cons (by rfl) (by (rintro _ ⟨x, rfl⟩; go_simp; try (with_reducible rfl))) ?_
      try simp only [Act.put, List.setIfInBounds_toArray, List.set_cons_zero, List.set_cons_succ]
      refine wpReads_cons (by rfl) (by (rintro _ ⟨x, rfl⟩; go_simp; try (with_reducible rfl))) ?_
      try simp only [Act.put, List.setIfInBounds_toArray, List.set_cons_zero, List.set_cons_succ]
      refine wpReads_cons (by rfl) (by (rintro _ ⟨x, rfl⟩; go_simp; try (with_reducible rfl))) ?_
      try simp only [Act.put, List.setIfInBounds_toArray, List.set_cons_zero, List.set_cons_succ]
      refine wpReads_nil ?_
      refine wpSpec_cons (by rfl) (fun K hK => ?_)
      go_simp
      refine (timedfn_any B F[B.length].body hwb (w.heap.size + 1) x _ _ ((hw1.trans (Ext.refl _).drew).at hx0.out) ?_ ?_).mono ?_
      · exact hR'.out.upb (hw1.trans (Ext.refl _).drew)
      · exact hbod.out.upb (hw1.trans (Ext.refl _).drew)
      rintro r w2 ⟨rfl, he⟩
      refine hK.out _ _ (ext_in ((Ext.refl W1).drew.trans he)) ?_
      try simp only [Act.put, List.setIfInBounds_toArray, List.set_cons_zero, List.set_cons_succ]
      clear hK K
      refine wpSpec_cons (by rfl) (fun K hK => ?_)
      go_simp
      refine hK.out _ _ (ext_in (((Ext.refl W1).drew.trans he).alloc _)) ?_
      try simp only [Act.put, List.setIfInBounds_toArray, List.set_cons_zero, List.set_cons_succ]
      clear hK K
      refine wpSpec_nil ?_
      have he2 : Ext wr w2 := hw1.trans ((Ext.refl W1).drew.trans he)
      have hown2 := own_ext hown'.out he2
      have hsz2 : w.heap.size + 2 ≤ w2.heap.size := Nat.le_trans hsz he2.size
      refine wp_append1 _ _ _ rfl _ _ _ rfl (w.heap.size + 2) 4 1 1 _ Try.underlying75 infoBool rfl (by decide) (by decide) _ _ _ rfl hown2 (by simp [Act.eval]) rfl (by intro u hu; simp at hu; subst hu; rfl) (by omega) hsz2 ?_
      intro v' w3 hown3 hg hnn
      have hne : ∀ b, b < w.heap.size + 2 → some b ≠ x.ownBlock := fun b hb hx2 => by have := (hown2.lt b hx2.symm).1; omega
      obtain ⟨A3, cap3, rfl⟩ := own_form hown3
      have p0 : w3.cell? ⟨w.heap.size + 1, 0, none⟩ = some x := grown_cell hg (he2.at hx0.out) (hne _ (by dsimp only; omega))
      have pz : w3.frozen? ⟨w.heap.size + 1, 0, none⟩ = false := (grown_frozen hg (World.block_lt_of_cell? w2 _ (he2.at hx0.out)) (hne _ (by dsimp only; omega))).trans ((he2.frozens _ _ (World.block_lt_of_cell? wr _ hx0.out)).trans hz)
      have hE3 := Lib.hid (And.intro (grown_cell hg (he2.at hE.out.1) (hne _ (by dsimp only; omega))) (And.intro (grown_cell hg (he2.at hE.out.2.1) (hne _ (by dsimp only; omega))) (And.intro (grown_cell hg (he2.at hE.out.2.2.1) (hne _ (by dsimp only; omega))) (grown_cell hg (he2.at hE.out.2.2.2) (hne _ (by dsimp only; omega))))))
      have hb3 : Ext w w3 := Below.grown (hb.trans he2) hg (by omega) (fun k hk => by have := (hown2.lt k hk).1; omega)
      have hsz3 : w.heap.size + 2 ≤ w3.heap.size := Nat.le_trans hsz2 hg.size
      have hown4 := Lib.hid hown3
      have HH2 := Lib.hid (show bodiesT [] F = bodiesT (B ++ [timE B F[B.length].body]) (F.drop (B.length + 1)) by rw [HH.out, List.drop_eq_getElem_cons hlt, bodiesT])
      clear hown2 hown3 hg hnn he t3 t4 t5 t6 hx1 ghx1 gt3 gt4 gt5 gt6 c0 c1 c2 c3 c4 c5 c6 hne
      go_wp2_with fail
      refine NoPanic.normal ?_
      go_wp2_with fail
      go_roundw
      case rel =>
        refine ⟨B.length + 1, B ++ [timE B F[B.length].body], .slice A3 (B.length + 1) cap3, by omega, by go_num, by simp, by go_simp, by go_simp, own_set (by simpa using hown4.out) (by dsimp only; omega) _, HH2, Lib.hid ?_, by simpa using hsz3, hb3.setCell (by dsimp only; omega) _⟩
        exact ⟨cell_set hE3.out.1 (by dsimp only; omega), cell_set hE3.out.2.1 (by dsimp only; omega), cell_set hE3.out.2.2.1 (by dsimp only; omega), cell_set hE3.out.2.2.2 (by dsimp only; omega)⟩
      case measure => simp [intOf]; omega
    · have hkl : F.drop B.length = [] := List.drop_eq_nil_of_le (by omega)
      have H := Lib.hid (show timedP F e = timE B e by unfold timedP; rw [HH.out, hkl, bodiesT])
      have hBF : B.length = F.length := by omega
      have hwB := Lib.hid (show wfS B.length e = true by rw [hBF]; exact hwf'.out)
      obtain ⟨e0, e1, e2, e3⟩ := hE.out
      clear hkl hBF
      go_wp2_with fail
      refine (timedfn_any B e hwB.out (w.heap.size + 1) x _ wr hx0.out hR'.out (hr'.out.upb hb)).mono ?_
      rintro r w2 ⟨rfl, he⟩
      go_wp2_with fail
      go_ret
      exact ⟨ret_bool (by rw [H.out]), hb.trans he⟩
end Go.Proofs.Ytmhelkhmgbbfhaa

/- Inlining on plain data: facts. -/
namespace Go.Proofs.Ytmhelkhmgbbfhaa
open Go.RowKit Go.Lib

theorem inlL_snoc {bs : List (Option Ex)} {e x : Ex} (hx : inlE bs e = some x) : ∀ (l : List Ex) {ys : List Ex}, inlL bs l = some ys → inlL bs (l ++ [e]) = some (ys ++ [x])
  | [], ys, h => by rw [inlL] at h; cases h; simp only [List.nil_append, inlL, hx]
  | a :: l, ys, h => by
    rw [inlL] at h
    cases he : inlE bs a with
    | none => rw [he] at h; cases h
    | some z =>
      rw [he] at h
      cases hl : inlL bs l with
      | none => rw [hl] at h; cases h
      | some xs =>
        rw [hl] at h; cases h
        rw [List.cons_append, inlL, he, inlL_snoc hx l hl]; rfl
theorem inlL_none {bs : List (Option Ex)} : ∀ (l : List Ex) {e : Ex}, e ∈ l → inlE bs e = none → inlL bs l = none
  | [], _, h, _ => by cases h
  | a :: l, e, h, hn => by
    rw [inlL]
    rcases List.mem_cons.1 h with rfl | h
    · rw [hn]
    · rw [inlL_none l h hn]
      cases inlE bs a <;> rfl
theorem inlL_mem {bs : List (Option Ex)} : ∀ (l : List Ex) {ys : List Ex}, inlL bs l = some ys → ∀ y ∈ ys, ∃ e ∈ l, inlE bs e = some y
  | [], ys, h, y, hy => by rw [inlL] at h; cases h; cases hy
  | e :: l, ys, h, y, hy => by
    rw [inlL] at h
    cases he : inlE bs e with
    | none => rw [he] at h; cases h
    | some x =>
      rw [he] at h
      cases hl : inlL bs l with
      | none => rw [hl] at h; cases h
      | some xs =>
        rw [hl] at h; cases h
        rcases List.mem_cons.1 hy with rfl | hy
        · exact ⟨e, by simp, he⟩
        · obtain ⟨e', h1, h2⟩ := inlL_mem l hl y hy
          exact ⟨e', by simp [h1], h2⟩
theorem fitX_parts {x y : Ex} (h : fitX x = some y) : x = y ∧ parts y ≤ 1000 := by
  unfold fitX at h
  split at h
  · cases h
  · cases h; exact ⟨rfl, by omega⟩
theorem inlE_parts {bs : List (Option Ex)} {e y : Ex} (h : inlE bs e = some y) : parts y ≤ 1000 := by
  obtain ⟨o, n, s, l⟩ := e
  rw [inlE] at h
  cases hl : inlL bs l with
  | none => rw [hl] at h; cases h
  | some ys =>
    rw [hl] at h
    dsimp only at h
    split at h
    · cases hb : bs.getD n.toNat none with
      | none => rw [hb] at h; cases h
      | some b => rw [hb] at h; exact (fitX_parts h).2
    · exact (fitX_parts h).2
theorem partsL_bound {K : Nat} : ∀ (l : List Ex), (∀ e ∈ l, parts e ≤ K) → partsL l ≤ l.length * K
  | [], _ => by simp [partsL]
  | e :: l, h => by
    have h1 := h e (by simp)
    have h2 := partsL_bound l (fun x hx => h x (by simp [hx]))
    rw [partsL, List.length_cons, Nat.succ_mul]; omega
mutual
theorem putP_parts {op : Int} {L : List Ex} {K : Nat} (hK : 1 ≤ K) (hL : ∀ y ∈ L, parts y ≤ K) : ∀ (e : Ex) {x : Ex}, putP op L e = some x → parts x ≤ parts e * K
  | .mk o n s l, x, h => by
    rw [putP] at h
    split at h
    · split at h
      · cases h
      · have := hL x (List.mem_of_getElem? h)
        rw [parts, Nat.succ_mul]; omega
    · cases hl : putPs op L l with
      | none => rw [hl] at h; cases h
      | some ys =>
        rw [hl] at h; cases h
        have := putPs_parts hK hL l hl
        rw [parts, parts, Nat.succ_mul]; omega
theorem putPs_parts {op : Int} {L : List Ex} {K : Nat} (hK : 1 ≤ K) (hL : ∀ y ∈ L, parts y ≤ K) : ∀ (l : List Ex) {ys : List Ex}, putPs op L l = some ys → partsL ys ≤ partsL l * K
  | [], ys, h => by rw [putPs] at h; cases h; simp [partsL]
  | e :: l, ys, h => by
    rw [putPs] at h
    cases he : putP op L e with
    | none => rw [he] at h; cases h
    | some x =>
      rw [he] at h
      cases hl : putPs op L l with
      | none => rw [hl] at h; cases h
      | some xs =>
        rw [hl] at h; cases h
        have h1 := putP_parts hK hL e he
        have h2 := putPs_parts hK hL l hl
        rw [partsL, partsL, Nat.add_mul]; omega
end

theorem inlB_snoc : ∀ (F : List Fn) (f : Fn) (bs : List (Option Ex)), inlB bs (F ++ [f]) = inlB bs F ++ [inlE (inlB bs F) f.body]
  | [], f, bs => rfl
  | g :: F, f, bs => by rw [List.cons_append, inlB, inlB_snoc F f, inlB]
theorem inlB_len : ∀ (F : List Fn) (bs : List (Option Ex)), (inlB bs F).length = bs.length + F.length
  | [], bs => rfl
  | g :: F, bs => by rw [inlB, inlB_len F]; simp; omega
theorem inlB_parts (F : List Fn) : ∀ b ∈ inlB [] F, parts (b.getD zeroE) ≤ 1000 := by
  have : ∀ (F : List Fn) (bs : List (Option Ex)), (∀ b ∈ bs, parts (b.getD zeroE) ≤ 1000) → ∀ b ∈ inlB bs F, parts (b.getD zeroE) ≤ 1000 := fun F => by
    induction F with
    | nil => intro bs h; exact h
    | cons f F ih =>
      intro bs h
      rw [inlB]
      refine ih _ fun b hb => ?_
      rcases List.mem_append.1 hb with hb | hb
      · exact h b hb
      · simp at hb; subst hb
        cases hx : inlE bs f.body with
        | none => show parts zeroE ≤ 1000; simp [zeroE, parts, partsL]
        | some y => exact inlE_parts hx
  exact this F [] (by simp)
end Go.Proofs.Ytmhelkhmgbbfhaa

/- Putting expressions in the place of columns or parameters: types and values, on plain data. -/
namespace Go.Proofs.Ytmhelkhmgbbfhaa
open Go.RowKit Go.Lib

theorem operT_col {op n : Int} {ts : List Int} (h : op = 3 ∨ op = 4) : operT op n ts = none := by
  unfold operT
  split
  · rfl
  · rw [if_neg (by omega), if_neg (by omega), if_neg (by omega), if_neg (by omega), if_neg (by omega), if_neg (by omega), if_neg (by omega), if_neg (by omega)]
theorem tailT_col {F : List Fn} {c p : List Int} {op n t : Int} {s : ByteArray} {ts : List Int} (h : op = 3 ∨ op = 4) (ht : tailT F c p op n s ts = some t) : (if op = 3 then pickT c n else pickT p n) = some t := by
  unfold tailT at ht
  split at ht
  · cases ht
  · rw [if_neg (by omega)] at ht
    split at ht
    · unfold leafT at ht
      rw [if_neg (by omega), if_neg (by omega)] at ht
      by_cases h3 : op = 3
      · rw [if_pos h3] at ht ⊢; exact ht
      · rw [if_neg h3, if_pos (by omega)] at ht; rw [if_neg h3]; exact ht
    · rw [operT_col h] at ht; cases ht
theorem tailT_other {F : List Fn} {c p c2 p2 : List Int} {op n t : Int} {s : ByteArray} {ts : List Int} (h3 : op = 3 → pickT c n = some t → pickT c2 n = some t) (h4 : op = 4 → pickT p n = some t → pickT p2 n = some t) (ht : tailT F c p op n s ts = some t) : tailT F c2 p2 op n s ts = some t := by
  unfold tailT at ht ⊢
  split at ht
  · cases ht
  · rename_i h1
    rw [if_neg h1]
    split at ht
    · rename_i h2; rw [if_pos h2]; exact ht
    · rename_i h2
      rw [if_neg h2]
      split at ht
      · rename_i h5
        rw [if_pos h5]
        unfold leafT at ht ⊢
        by_cases e3 : op = 3
        · subst e3; exact h3 rfl ht
        · by_cases e4 : op = 4
          · subst e4; exact h4 rfl ht
          · simp only [if_neg e3, if_neg e4] at ht ⊢
            exact ht
      · rename_i h5; rw [if_neg h5]; exact ht

theorem ev_colp (call : Int → List Val → Val) (time : Int) (row params : List Val) {op : Int} (n : Int) (s : ByteArray) (l : List Ex) (h : op = 3 ∨ op = 4) : ev call time row params (.mk op n s l) = if op = 3 then row.getD n.toNat zeroV else params.getD n.toNat zeroV := by
  rw [ev, if_neg (by omega), opV]
  rw [if_neg (by omega), if_neg (by omega), if_neg (by omega)]
  by_cases h3 : op = 3
  · rw [if_pos h3, if_pos h3]
  · rw [if_neg h3, if_neg h3, if_pos (by omega)]
theorem opV_other {call : Int → List Val → Val} {time : Int} {row params row2 params2 : List Val} {op n : Int} {s : ByteArray} {vs : List Val} (h3 : op = 3 → row2.getD n.toNat zeroV = row.getD n.toNat zeroV) (h4 : op = 4 → params2.getD n.toNat zeroV = params.getD n.toNat zeroV) :
    opV call time row2 params2 op n s vs = opV call time row params op n s vs := by
  unfold opV
  by_cases e3 : op = 3
  · subst e3; rw [h3 rfl]; rfl
  · by_cases e4 : op = 4
    · subst e4; rw [h4 rfl]; rfl
    · simp only [if_neg e3, if_neg e4]

section
variable {F : List Fn} {call : Int → List Val → Val} {time : Int} {L : List Ex} {op : Int} {c1 p1 c2 p2 : List Int} {R1 P1 R2 P2 : List Val}
mutual
theorem put_sem (hop : op = 3 ∨ op = 4)
    (h3 : ∀ n t, pickT c1 n = some t → if op = 3 then (∀ x, L[n.toNat]? = some x → ty F c2 p2 x = some t ∧ ev call time R2 P2 x = R1.getD n.toNat zeroV) else (pickT c2 n = some t ∧ R2.getD n.toNat zeroV = R1.getD n.toNat zeroV))
    (h4 : ∀ n t, pickT p1 n = some t → if op = 4 then (∀ x, L[n.toNat]? = some x → ty F c2 p2 x = some t ∧ ev call time R2 P2 x = P1.getD n.toNat zeroV) else (pickT p2 n = some t ∧ P2.getD n.toNat zeroV = P1.getD n.toNat zeroV)) :
    ∀ (e : Ex) {x : Ex} {t : Int}, putP op L e = some x → ty F c1 p1 e = some t → ty F c2 p2 x = some t ∧ ev call time R2 P2 x = ev call time R1 P1 e
  | .mk o n s l, x, t, hx, ht => by
    rw [ty] at ht
    cases hl : tys F c1 p1 l with
    | none => rw [hl] at ht; cases ht
    | some ts =>
      rw [hl] at ht
      dsimp only at ht
      rw [putP] at hx
      by_cases ho : o = op
      · rw [if_pos ho] at hx
        split at hx
        · cases hx
        · subst ho
          have hp := tailT_col hop ht
          rw [ev_colp call time R1 P1 n s l hop]
          by_cases e3 : o = 3
          · rw [if_pos e3] at hp ⊢
            have := h3 n t hp
            rw [if_pos e3] at this
            exact this x hx
          · rw [if_neg e3] at hp ⊢
            have := h4 n t hp
            rw [if_pos (by omega)] at this
            exact this x hx
      · rw [if_neg ho] at hx
        cases hl2 : putPs op L l with
        | none => rw [hl2] at hx; cases hx
        | some l' =>
          rw [hl2] at hx
          cases hx
          obtain ⟨i1, i2⟩ := puts_sem hop h3 h4 l hl2 hl
          have k3 : o = 3 → pickT c1 n = some t → pickT c2 n = some t ∧ R2.getD n.toNat zeroV = R1.getD n.toNat zeroV := fun e3 hp => by
            have := h3 n t hp
            rw [if_neg (by omega)] at this
            exact this
          have k4 : o = 4 → pickT p1 n = some t → pickT p2 n = some t ∧ P2.getD n.toNat zeroV = P1.getD n.toNat zeroV := fun e4 hp => by
            have := h4 n t hp
            rw [if_neg (by omega)] at this
            exact this
          refine ⟨?_, ?_⟩
          · rw [ty, i1]
            exact tailT_other (fun a b => (k3 a b).1) (fun a b => (k4 a b).1) ht
          · rw [ev, ev, i2]
            split
            · rfl
            · refine opV_other (fun e3 => ?_) (fun e4 => ?_)
              · have := tailT_col (.inl e3) ht
                rw [if_pos e3] at this
                exact (k3 e3 this).2
              · have := tailT_col (.inr e4) ht
                rw [if_neg (by omega)] at this
                exact (k4 e4 this).2
theorem puts_sem (hop : op = 3 ∨ op = 4)
    (h3 : ∀ n t, pickT c1 n = some t → if op = 3 then (∀ x, L[n.toNat]? = some x → ty F c2 p2 x = some t ∧ ev call time R2 P2 x = R1.getD n.toNat zeroV) else (pickT c2 n = some t ∧ R2.getD n.toNat zeroV = R1.getD n.toNat zeroV))
    (h4 : ∀ n t, pickT p1 n = some t → if op = 4 then (∀ x, L[n.toNat]? = some x → ty F c2 p2 x = some t ∧ ev call time R2 P2 x = P1.getD n.toNat zeroV) else (pickT p2 n = some t ∧ P2.getD n.toNat zeroV = P1.getD n.toNat zeroV)) :
    ∀ (l : List Ex) {xs : List Ex} {ts : List Int}, putPs op L l = some xs → tys F c1 p1 l = some ts → tys F c2 p2 xs = some ts ∧ evs call time R2 P2 xs = evs call time R1 P1 l
  | [], xs, ts, hx, ht => by
    rw [putPs] at hx; cases hx
    rw [tys] at ht; cases ht
    rw [tys, evs, evs]; exact ⟨rfl, rfl⟩
  | e :: l, xs, ts, hx, ht => by
    rw [tys] at ht
    cases he : ty F c1 p1 e with
    | none => rw [he] at ht; cases ht
    | some t =>
      rw [he] at ht
      cases hl : tys F c1 p1 l with
      | none => rw [hl] at ht; cases ht
      | some us =>
        rw [hl] at ht; cases ht
        rw [putPs] at hx
        cases hx1 : putP op L e with
        | none => rw [hx1] at hx; cases hx
        | some x =>
          rw [hx1] at hx
          cases hx2 : putPs op L l with
          | none => rw [hx2] at hx; cases hx
          | some l' =>
            rw [hx2] at hx; cases hx
            obtain ⟨i1, i2⟩ := put_sem hop h3 h4 e hx1 he
            obtain ⟨j1, j2⟩ := puts_sem hop h3 h4 l hx2 hl
            rw [tys, i1, j1, evs, evs, i2, j2]
            exact ⟨rfl, rfl⟩
end
end

/-- the value of what Replace returns -/
theorem repl_sem {F : List Fn} {time : Int} {R : List Val} {L : List Ex} {e x : Ex} {t : Int} (hOk : ∀ i, i < F.length → okF F i = true) {c0 : List Int} (hR : RowFit c0 R) (hL : ∀ y ∈ L, ∃ t, ty F c0 [] y = some t)
    (ht : ty F ((L.map (evalP F time R)).map Val.k) [] e = some t) (hx : replP e L = some x) :
    ty F c0 [] x = some t ∧ evalP F time R x = evalP F time (L.map (evalP F time R)) e := by
  have hput : putP 3 L e = some x := by
    unfold replP at hx
    split at hx
    · rename_i y hy
      split at hx
      · cases hx
      · cases hx; exact hy
    · cases hx
  refine put_sem (.inl rfl) (fun n u hp => ?_) (fun n u hp => ?_) e hput ht
  · rw [if_pos rfl]
    intro y hy
    obtain ⟨u', hu'⟩ := hL y (List.mem_of_getElem? hy)
    have hk := (ev_fit (params := []) time hOk F.length y (by rw [List.take_length]; exact hu') hR rfl (by simp)).1
    have hval : (L.map (evalP F time R)).getD n.toNat zeroV = evalP F time R y := by simp [List.getD_eq_getElem?_getD, hy]
    have huu : u = u' := by
      unfold pickT at hp
      split at hp
      · cases hp
      · simp only [List.getElem?_map, hy, Option.map_some] at hp
        split at hp
        · cases hp; exact hk
        · cases hp
    rw [hval, huu]
    exact ⟨hu', rfl⟩
  · unfold pickT at hp; simp at hp
end Go.Proofs.Ytmhelkhmgbbfhaa

/- What inlining returns has the value of the expression, on plain data. -/
namespace Go.Proofs.Ytmhelkhmgbbfhaa
open Go.RowKit Go.Lib

theorem tys_length {F : List Fn} {c p : List Int} : ∀ (l : List Ex) {ts : List Int}, tys F c p l = some ts → ts.length = l.length
  | [], ts, h => by rw [tys] at h; cases h; rfl
  | e :: l, ts, h => by
    rw [tys] at h
    split at h
    · split at h
      · rename_i us hl
        cases h
        rw [List.length_cons, List.length_cons, tys_length l hl]
      · cases h
    · cases h
theorem tys_get {F : List Fn} {c p : List Int} : ∀ (l : List Ex) {ts : List Int}, tys F c p l = some ts → ∀ (i : Nat) (x : Ex), l[i]? = some x → ∃ t, ts[i]? = some t ∧ ty F c p x = some t
  | [], ts, _, i, x, hx => by simp at hx
  | e :: l, ts, h, i, x, hx => by
    rw [tys] at h
    split at h
    · rename_i t he
      split at h
      · rename_i us hl
        cases h
        cases i with
        | zero => simp at hx; subst hx; exact ⟨t, rfl, he⟩
        | succ i => simpa using tys_get l hl i x (by simpa using hx)
      · cases h
    · cases h
theorem pickT_get {l : List Int} {n t : Int} (h : pickT l n = some t) : 0 ≤ n ∧ l[n.toNat]? = some t := by
  unfold pickT at h
  split at h
  · cases h
  · split at h
    · rename_i u hu
      split at h
      · cases h; exact ⟨by omega, hu⟩
      · cases h
    · cases h
mutual
theorem put_total {F : List Fn} {c p : List Int} {L : List Ex} (hL : L.length = p.length) : ∀ (e : Ex) {t : Int}, ty F c p e = some t → ∃ x, putP 4 L e = some x
  | .mk o n s l, t, ht => by
    rw [ty] at ht
    cases hl : tys F c p l with
    | none => rw [hl] at ht; cases ht
    | some ts =>
      rw [hl] at ht
      dsimp only at ht
      rw [putP]
      by_cases ho : o = 4
      · have hp := tailT_col (.inr ho) ht
        rw [if_neg (by omega)] at hp
        obtain ⟨h0, h1⟩ := pickT_get hp
        rw [if_pos ho, if_neg (by omega)]
        have : n.toNat < L.length := by rw [hL]; exact (List.getElem?_eq_some_iff.1 h1).1
        exact ⟨L[n.toNat], List.getElem?_eq_getElem this⟩
      · rw [if_neg ho]
        obtain ⟨xs, hx⟩ := puts_total hL l hl
        rw [hx]; exact ⟨_, rfl⟩
theorem puts_total {F : List Fn} {c p : List Int} {L : List Ex} (hL : L.length = p.length) : ∀ (l : List Ex) {ts : List Int}, tys F c p l = some ts → ∃ xs, putPs 4 L l = some xs
  | [], ts, _ => ⟨[], by rw [putPs]⟩
  | e :: l, ts, h => by
    rw [tys] at h
    split at h
    · rename_i t he
      split at h
      · rename_i us hl
        obtain ⟨x, hx⟩ := put_total hL e he
        obtain ⟨xs, hxs⟩ := puts_total hL l hl
        rw [putPs, hx, hxs]; exact ⟨_, rfl⟩
      · cases h
    · cases h
end

theorem opV_call {call call2 : Int → List Val → Val} {time : Int} {row params : List Val} {op n : Int} {s : ByteArray} {vs : List Val} (h : op = 22 → call n vs = call2 n vs) : opV call time row params op n s vs = opV call2 time row params op n s vs := by
  unfold opV
  by_cases e : op = 22
  · subst e; rw [h rfl]
  · simp only [if_neg e]

/-- more fuel changes nothing -/
theorem ev_fuel {F : List Fn} {time : Int} (hOk : ∀ i, i < F.length → okF F i = true) : ∀ (m : Nat) (e : Ex) {M : Nat} {c p : List Int} {R P : List Val} {t : Int}, m ≤ M → ty (F.take m) c p e = some t → ev (callN F time M) time R P e = ev (callN F time m) time R P e := by
  intro m
  induction m using Nat.strongRecOn with
  | ind m ihm =>
    have hcall : ∀ (M : Nat) (n : Int) (vs : List Val), m ≤ M → 0 ≤ n → n.toNat < m → n.toNat < F.length → callN F time M n vs = callN F time m n vs := fun M n vs hM h0 hlt hF => by
      obtain ⟨M, rfl⟩ : ∃ k, M = k + 1 := ⟨M - 1, by omega⟩
      obtain ⟨k, rfl⟩ : ∃ k, m = k + 1 := ⟨m - 1, by omega⟩
      have hf := List.getElem?_eq_getElem hF
      have hb := okF_body (hOk n.toNat hF) hf
      simp only [callN, hf]
      rw [ihm n.toNat hlt _ (M := M) (by omega) hb, ihm n.toNat hlt _ (M := k) (by omega) hb]
    intro e
    induction e using Ex.ind with
    | h o n s l ih =>
      intro M c p R P t hM ht
      rw [ty] at ht
      cases hl : tys (F.take m) c p l with
      | none => rw [hl] at ht; cases ht
      | some ts =>
        rw [hl] at ht
        dsimp only at ht
        have hvs : evs (callN F time M) time R P l = evs (callN F time m) time R P l := by
          rw [evs_map, evs_map]
          refine List.map_congr_left fun x hx => ?_
          obtain ⟨u, hu⟩ := tys_mem l hl x hx
          exact ih x hx hM hu
        rw [ev, ev, hvs]
        split
        · rfl
        · refine opV_call fun e22 => ?_
          subst e22
          unfold tailT at ht
          split at ht
          · cases ht
          · rw [if_pos rfl] at ht
            obtain ⟨h0, hlt, f, hf, -, -⟩ := callT_some ht
            exact hcall M n _ hM h0 hlt (List.getElem?_eq_some_iff.1 hf).1

/-- bodies that are inlined mean what the functions mean -/
def InlOk (F : List Fn) (time : Int) (M : Nat) (bs : List (Option Ex)) : Prop :=
  ∀ (i : Nat) (b : Ex), bs[i]? = some (some b) → ∃ f : Fn, F[i]? = some f ∧ ty [] [] f.params b = some f.res ∧ ∀ (call : Int → List Val → Val) (P : List Val), P.map Val.k = f.params → (∀ v ∈ P, soundV v) → ev call time [] P b = callN F time M (i : Int) P

mutual
theorem inl_sem {F : List Fn} {time : Int} {M m : Nat} {bs : List (Option Ex)} (hOk : ∀ i, i < F.length → okF F i = true) (hbs : InlOk F time M bs) (hm : m = bs.length) (hM : m ≤ M) {c p : List Int} {R P : List Val} (hR : R.map Val.k = c) (hP : P.map Val.k = p) (sR : ∀ v ∈ R, soundV v) (sP : ∀ v ∈ P, soundV v) (call : Int → List Val → Val) :
    ∀ (e : Ex) {y : Ex} {t : Int}, ty (F.take m) c p e = some t → inlE bs e = some y → ty [] c p y = some t ∧ ev call time R P y = ev (callN F time M) time R P e
  | .mk o n s l, y, t, ht, hy => by
    rw [ty] at ht
    cases hl : tys (F.take m) c p l with
    | none => rw [hl] at ht; cases ht
    | some ts =>
      rw [hl] at ht
      dsimp only at ht
      rw [inlE] at hy
      cases hl2 : inlL bs l with
      | none => rw [hl2] at hy; cases hy
      | some ys =>
        rw [hl2] at hy
        dsimp only at hy
        obtain ⟨i1, i2⟩ := inls_sem hOk hbs hm hM hR hP sR sP call l hl hl2
        by_cases ho : o = 22
        · subst ho
          unfold tailT at ht
          split at ht
          · cases ht
          · rw [if_pos rfl] at ht
            obtain ⟨h0, hlt, f, hf, hpar, hres⟩ := callT_some ht
            rw [if_pos ⟨rfl, h0, by omega⟩] at hy
            have hn : n.toNat < bs.length := by omega
            rw [List.getD_eq_getElem?_getD, List.getElem?_eq_getElem hn, Option.getD_some] at hy
            cases hb : bs[n.toNat] with
            | none => rw [hb] at hy; cases hy
            | some b =>
              rw [hb] at hy
              dsimp only at hy
              obtain ⟨f', hf', hty, hev⟩ := hbs n.toNat b (by rw [List.getElem?_eq_getElem hn, hb])
              rw [hf] at hf'; cases hf'
              obtain ⟨x, hx⟩ := put_total (L := ys) (by rw [hpar, tys_length ys i1]) b hty
              rw [hx, Option.getD_some] at hy
              obtain ⟨rfl, -⟩ := fitX_parts hy
              have hk : (evs (callN F time M) time R P l).map Val.k = ts ∧ ∀ v ∈ evs (callN F time M) time R P l, soundV v := by
                refine evs_kinds (F := F.take m) (c := c) (p := p) l hl fun e he u hu => ?_
                exact ev_sound time hOk M e (ty_mono hM e hu) hR hP sR sP
              obtain ⟨j1, j2⟩ := put_sem (F := []) (call := call) (time := time) (c2 := c) (p2 := p) (R1 := []) (P1 := evs call time R P ys) (R2 := R) (P2 := P) (.inr rfl)
                (fun k u hp => by unfold pickT at hp; simp at hp)
                (fun k u hp => by
                  rw [if_pos rfl]
                  intro z hz
                  obtain ⟨-, h5⟩ := pickT_get hp
                  obtain ⟨u', h6, h7⟩ := tys_get ys i1 _ z hz
                  rw [hpar, h6] at h5
                  cases h5
                  refine ⟨h7, ?_⟩
                  rw [evs_map]
                  simp [List.getD_eq_getElem?_getD, hz]) b hx hty
              rw [j1, j2, hres]
              refine ⟨rfl, ?_⟩
              rw [i2, hev call _ (by rw [hk.1, hpar]) hk.2, ev, if_neg (by omega)]
              simp only [opV]
              rw [Int.toNat_of_nonneg h0]
              rfl
        · rw [if_neg (fun h => ho h.1)] at hy
          obtain ⟨rfl, -⟩ := fitX_parts hy
          refine ⟨?_, ?_⟩
          · rw [ty, i1]
            dsimp only
            unfold tailT at ht ⊢
            split at ht
            · cases ht
            · rename_i h1
              rw [if_neg h1]
              first | (rw [if_neg ho] at ht ⊢; exact ht) | (rw [if_neg ho] at ht; exact ht) | (rw [if_neg ho]; exact ht) | exact ht
          · rw [ev, ev, i2]
            split
            · rfl
            · exact opV_call fun h => absurd h ho
theorem inls_sem {F : List Fn} {time : Int} {M m : Nat} {bs : List (Option Ex)} (hOk : ∀ i, i < F.length → okF F i = true) (hbs : InlOk F time M bs) (hm : m = bs.length) (hM : m ≤ M) {c p : List Int} {R P : List Val} (hR : R.map Val.k = c) (hP : P.map Val.k = p) (sR : ∀ v ∈ R, soundV v) (sP : ∀ v ∈ P, soundV v) (call : Int → List Val → Val) :
    ∀ (l : List Ex) {ys : List Ex} {ts : List Int}, tys (F.take m) c p l = some ts → inlL bs l = some ys → tys [] c p ys = some ts ∧ evs call time R P ys = evs (callN F time M) time R P l
  | [], ys, ts, ht, hy => by
    rw [inlL] at hy; cases hy
    rw [tys] at ht; cases ht
    rw [tys, evs, evs]; exact ⟨rfl, rfl⟩
  | e :: l, ys, ts, ht, hy => by
    rw [tys] at ht
    cases he : ty (F.take m) c p e with
    | none => rw [he] at ht; cases ht
    | some t =>
      rw [he] at ht
      cases hl : tys (F.take m) c p l with
      | none => rw [hl] at ht; cases ht
      | some us =>
        rw [hl] at ht; cases ht
        rw [inlL] at hy
        cases hx1 : inlE bs e with
        | none => rw [hx1] at hy; cases hy
        | some x =>
          rw [hx1] at hy
          cases hx2 : inlL bs l with
          | none => rw [hx2] at hy; cases hy
          | some l' =>
            rw [hx2] at hy; cases hy
            obtain ⟨i1, i2⟩ := inl_sem hOk hbs hm hM hR hP sR sP call e he hx1
            obtain ⟨j1, j2⟩ := inls_sem hOk hbs hm hM hR hP sR sP call l hl hx2
            rw [tys, i1, j1, evs, evs, i2, j2]
            exact ⟨rfl, rfl⟩
end
end Go.Proofs.Ytmhelkhmgbbfhaa
