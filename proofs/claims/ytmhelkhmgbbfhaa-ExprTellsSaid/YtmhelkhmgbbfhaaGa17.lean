/- Walks: whether an expression reads the time, of the program. -/
import Derived.Test.YtmhelkhmgbbfhaaProg
import Derived.KernelRfl
import Derived.Test.YtmhelkhmgbbfhaaRows
import Derived.ProofKit
import Derived.Below
import Derived.ChangeSame
import Derived.Test.YtmhelkhmgbbfhaaGa1
import Derived.Test.YtmhelkhmgbbfhaaGa12
import Derived.Test.YtmhelkhmgbbfhaaGa16
namespace Go.Proofs.Ytmhelkhmgbbfhaa
open Go.RowKit Go.Lib

/-- whether a part by itself reads the time -/
def tpart (B : List Bool) (x : Ex) : Bool := decide (x.op = 5) || (if x.op = 22 ∧ 0 ≤ x.n ∧ x.n < B.length then B.getD x.n.toNat false else false)
mutual
theorem pre_timed (B : List Bool) : ∀ e : Ex, (pre e).any (tpart B) = timE B e
  | .mk o n s l => by rw [pre, List.any_cons, preL_timed B l, timE]; rfl
theorem preL_timed (B : List Bool) : ∀ l : List Ex, (preL l).any (tpart B) = timL B l
  | [] => by rw [preL, timL]; rfl
  | e :: l => by rw [preL, List.any_append, pre_timed B e, preL_timed B l, timL]
end

def TInv (B : List Bool) (S : Nat → Prop) (m pb : Nat) (vB : Value) (L : List Ex) (w : World) : Prop :=
  w.cell? ⟨m, 0, none⟩ = some (.bool (L.any (tpart B))) ∧ w.frozen? ⟨m, 0, none⟩ = false ∧ w.cell? ⟨pb, 0, none⟩ = some vB ∧ Rd w S (.sl (B.map D.bool)) [vB]

theorem TInv.ext {B : List Bool} {S : Nat → Prop} {m pb : Nat} {vB : Value} {L : List Ex} {w w' : World} (h : TInv B S m pb vB L w) (hm : m < w.heap.size) (he : Ext w w') : TInv B S m pb vB L w' :=
  ⟨he.at h.1, (he.frozens _ _ hm).trans h.2.1, he.at h.2.2.1, Rd.ext h.2.2.2 he⟩

set_option maxRecDepth 10000 in
set_option maxHeartbeats 2000000 in
theorem timed_part (B : List Bool) (S : Nat → Prop) (m pb : Nat) (hS : ∀ b, S b → b ≠ m) (hpb : pb ≠ m) (vB : Value) :
    Steps1 53 #[.pointer (some ⟨m, 0, none⟩), .pointer (some ⟨pb, 0, none⟩)] m S (TInv B S m pb vB) (fun x => wfS B.length x = true) := by
  intro L x cs w hok hI hr hm0
  obtain ⟨f0, z0, p0, hB⟩ := hI
  obtain ⟨A, cap, b, off, rfl, hl1, hl2, hl3, hm⟩ := Ex.open hr
  obtain ⟨AB, capB, bB, offB, rfl, B1, B2, B3, B4⟩ := Rd.sl_open hB
  obtain ⟨o, n, s, l⟩ := x
  simp only [Ex.args, Ex.op, Ex.n, Ex.s, List.length_map] at *
  rw [wfS] at hok
  simp only [Bool.and_eq_true, Bool.or_eq_true, Bool.not_eq_true', decide_eq_false_iff_not, decide_eq_true_eq] at hok
  have hw2 := hok.1.2
  have hB' := Lib.hid hB
  have hfin : ∀ (w' : World) (u : Bool), Ext w w' → w'.cell? ⟨m, 0, none⟩ = some (.bool (L.any (tpart B))) → w'.frozen? ⟨m, 0, none⟩ = false → (L ++ [Ex.mk o n s l]).any (tpart B) = u →
      TInv B S m pb (.slice AB B.length capB) (L ++ [Ex.mk o n s l]) (w'.setCell ⟨m, 0, none⟩ (.bool u)) ∧ w.grownBy (w'.setCell ⟨m, 0, none⟩ (.bool u)) (some m) := by
    intro w' u he h0 h1 hu
    have hk : ∀ b, b ≠ m → (w'.setCell ⟨m, 0, none⟩ (.bool u)).heap[b]? = w'.heap[b]? := fun b hb => Below.heap_setCell w' ⟨m, 0, none⟩ (.bool u) b hb
    refine ⟨⟨by rw [hu]; go_simp, by go_simp, ?_, ?_⟩, ?_⟩
    · exact (World.cell?_of_block (hk pb hpb)).trans (he.at p0)
    · exact Rd.keep (fun b hb _ => hk b (hS b hb)) (fun _ h => h) _ _ (hB'.out.ext he)
    · refine ⟨he.os, he.tape, he.output, by simpa using he.size, fun k hk1 hk2 => ?_⟩
      exact (hk k (fun e => hk2 (by rw [e]))).trans (he.block k hk1)
  have hfin' := Lib.hid hfin
  have hT : (L ++ [Ex.mk o n s l]).any (tpart B) = (L.any (tpart B) || (decide (o = 5) || (if o = 22 ∧ 0 ≤ n ∧ n < B.length then B.getD n.toNat false else false))) := by
    rw [List.any_append, List.any_cons, List.any_nil, Bool.or_false]; rfl
  clear hr hm hl3 hfin hok hB
  have hm0' : ∀ u, m < (w.setCell ⟨m, 0, none⟩ u).heap.size := fun u => by simpa using hm0
  have f0' := Lib.hid f0
  have g0 : ∀ o1, (w.alloc o1).cell? _ = some _ := fun o1 => ((Ext.refl w).alloc o1).at f0
  have y0 : ∀ o1, (w.alloc o1).frozen? _ = false := fun o1 => (((Ext.refl w).alloc o1).frozens _ _ hm0).trans z0
  have gp : ∀ o1, (w.alloc o1).cell? _ = some _ := fun o1 => ((Ext.refl w).alloc o1).at p0
  cases hf : L.any (tpart B) with
  | true =>
    have hT2 := Lib.hid (show (L ++ [Ex.mk o n s l]).any (tpart B) = true by rw [hT, hf]; rfl)
    rw [hf] at f0 g0
    clear hT hf hw2 B3 B4
    go_enter Try.func53, Try.ntmps53
    go_wp2_with fail
    refine bodyPost_end (v := .tuple #[]) (by simp [results, Try.results53, go_sem]; done) rfl ⟨⟨_, rfl⟩, (hfin'.out w _ (Ext.refl w) f0'.out z0 hT2.out).1.ext (hm0' _) ((Ext.refl _).alloc _), (hfin'.out w _ (Ext.refl w) f0'.out z0 hT2.out).2.trans (grown_of_ext ((Ext.refl _).alloc _) _)⟩
  | false =>
    rw [hf] at f0 g0
    by_cases h5 : o = 5
    · subst h5
      have hT2 := Lib.hid (show (L ++ [Ex.mk 5 n s l]).any (tpart B) = true by rw [hT, hf]; simp)
      clear hT hf hw2 B3 B4
      go_enter Try.func53, Try.ntmps53
      go_wp2_with fail
      refine bodyPost_end (v := .tuple #[]) (by simp [results, Try.results53, go_sem]; done) rfl ⟨⟨_, rfl⟩, (hfin'.out w _ (Ext.refl w) f0'.out z0 hT2.out).1.ext (hm0' _) ((Ext.refl _).alloc _), (hfin'.out w _ (Ext.refl w) f0'.out z0 hT2.out).2.trans (grown_of_ext ((Ext.refl _).alloc _) _)⟩
    · have h5b : (o == 5) = false := by simp [h5]
      by_cases h22 : o = 22
      · subst h22
        obtain ⟨hn1, hn2⟩ := hw2.resolve_left (by simp)
        obtain ⟨j, rfl⟩ := Int.eq_ofNat_of_zero_le hn1
        have hj : j < B.length := by omega
        obtain ⟨rfl, hSB⟩ := B3 (by omega)
        have c0 := bools_at B4 hj
        have gc : ∀ o1, (w.alloc o1).cell? _ = some _ := fun o1 => ((Ext.refl w).alloc o1).at c0
        have hT2 := Lib.hid (show (L ++ [Ex.mk 22 j s l]).any (tpart B) = B[j] by
          rw [hT, hf, if_pos ⟨rfl, hn1, hn2⟩]
          simp [List.getD_eq_getElem?_getD, List.getElem?_eq_getElem hj])
        clear hT hf hw2 B3 B4 h5
        go_enter Try.func53, Try.ntmps53
        go_wp2_with fail
        refine bodyPost_end (v := .tuple #[]) (by simp [results, Try.results53, go_sem]; done) rfl ⟨⟨_, rfl⟩, (hfin'.out w _ (Ext.refl w) f0'.out z0 hT2.out).1.ext (hm0' _) ((Ext.refl _).alloc _), (hfin'.out w _ (Ext.refl w) f0'.out z0 hT2.out).2.trans (grown_of_ext ((Ext.refl _).alloc _) _)⟩
      · have h22b : (o == 22) = false := by simp [h22]
        have hT2 := Lib.hid (show (L ++ [Ex.mk o n s l]).any (tpart B) = false by rw [hT, hf, if_neg (fun h => h22 h.1)]; simp [h5])
        clear hT hf hw2 B3 B4 h5 h22
        go_enter Try.func53, Try.ntmps53
        go_wp2_with fail
        refine bodyPost_end (v := .tuple #[]) (by simp [results, Try.results53, go_sem]; done) rfl ⟨⟨_, rfl⟩, (hfin'.out w _ (Ext.refl w) f0'.out z0 hT2.out).1.ext (hm0' _) ((Ext.refl _).alloc _), (hfin'.out w _ (Ext.refl w) f0'.out z0 hT2.out).2.trans (grown_of_ext ((Ext.refl _).alloc _) _)⟩

theorem wfS_args {m : Nat} (o n : Int) (s : ByteArray) (l : List Ex) (h : wfS m (.mk o n s l) = true) : ∀ x ∈ l, wfS m x = true := by
  rw [wfS, wfSL_all] at h
  simp only [Bool.and_eq_true, List.all_eq_true] at h
  exact h.2

set_option maxRecDepth 10000 in
set_option maxHeartbeats 2000000 in
theorem timedfn_any (B : List Bool) (e : Ex) (hwf : wfS B.length e = true) (pb : Nat) (vB : Value) (cs : List Value) (w : World) (hp : w.cell? ⟨pb, 0, none⟩ = some vB) (hB : Rd w (fun b => b < w.heap.size) (.sl (B.map D.bool)) [vB]) (hr : Rd w (fun b => b < w.heap.size) e.d cs) :
    Calls Try.prog 51 #[.agg cs.toArray, .pointer (some ⟨pb, 0, none⟩)] w fun r w' => r = .returned (.bool (timE B e)) ∧ Ext w w' := by
  obtain ⟨A, cap, b, off, rfl, hl1, hl2, hl3, hm⟩ := Ex.open hr
  have hpl : pb < w.heap.size := World.block_lt_of_cell? w _ hp
  have hr' := Lib.hid hr; have hB' := Lib.hid hB; have hp' := Lib.hid hp; have hwf' := Lib.hid hwf
  clear hr hB hm hl3 hp hwf
  go_enter Try.func51, Try.ntmps51
  go_wp2_with fail
  generalize hWe : World.alloc (World.alloc w _) _ = W
  have f0 : W.cell? ⟨w.heap.size + 1, 0, none⟩ = some (.bool false) := by rw [← hWe]; clear hWe; go_simp
  have z0 : W.frozen? ⟨w.heap.size + 1, 0, none⟩ = false := by rw [← hWe]; clear hWe; go_simp
  have hWs : W.heap.size = w.heap.size + 2 := by rw [← hWe]; clear hWe; go_simp
  have hwW : Ext w W := by rw [← hWe]; exact (by repeat' first | exact Ext.refl _ | assumption | apply Ext.alloc | apply Ext.drew | apply Ext.drewN | (refine Ext.trans ?_ (by assumption)))
  clear hWe
  refine (walk_timed #[.pointer (some ⟨w.heap.size + 1, 0, none⟩), .pointer (some ⟨pb, 0, none⟩)] (w.heap.size + 1) (fun b => b < w.heap.size) (fun b hb => by omega) (TInv B (fun b => b < w.heap.size) (w.heap.size + 1) pb vB) (fun x => wfS B.length x = true) (fun o n s l h => wfS_args o n s l h)
    (timed_part B _ _ pb (fun b hb => by omega) (by omega) vB) (fun L w o h => h.ext (World.block_lt_of_cell? w _ h.1) ((Ext.refl _).alloc _)) e [] _ W hwf'.out ⟨f0, z0, hwW.at hp'.out, hB'.out.ext hwW⟩ (hr'.out.ext hwW) (by omega)).mono ?_
  rintro r w1 ⟨⟨v, rfl⟩, hI, hg⟩
  have g0 := hI.1
  rw [List.nil_append, pre_timed] at g0
  have hw1 : Ext w w1 := Below.grown hwW hg (by omega) (fun k hk => by cases hk; omega)
  clear hI hg f0 z0
  go_wp2_with fail
  go_ret
  exact ⟨rfl, hw1⟩

theorem ex_bound {w : World} {S : Nat → Prop} (e : Ex) : ∀ (cs : List Value), Rd w S e.d cs → Rd w (fun b => b < w.heap.size) e.d cs := by
  induction e using Ex.ind with | h o n s l ih => ?_
  intro cs hr
  obtain ⟨A, cap, b, off, rfl, hl1, hl2, hl3, hm⟩ := Ex.open hr
  refine Ex.mk_rd (b1 := b) (off1 := off) hl1 hl2 (fun hl => ⟨(hl3 hl).1, ?_⟩) (RdM.of_get (sz := 4) _ _ _ (Ex.widths _) fun i hi => ?_)
  · obtain ⟨A1, cap1, b1, off1, c0, -⟩ := Ex.at hm hl
    exact World.block_lt_of_cell? w _ c0
  · obtain ⟨cs', h1, h2⟩ := RdM.get _ _ _ hm (Ex.widths _) i hi
    refine ⟨cs', h1, ?_⟩
    rw [List.getElem_map] at h2 ⊢
    exact ih _ (List.getElem_mem _) _ h2
theorem Rd.upb {w w' : World} {d : D} {cs : List Value} (h : Rd w (fun b => b < w.heap.size) d cs) (he : Ext w w') : Rd w' (fun b => b < w'.heap.size) d cs :=
  Rd.keep (Below.keeps he) (fun b hb => Nat.lt_of_lt_of_le hb he.size) d cs h
theorem own_set {w : World} {B : Nat} {e : TypeId} {size n : Nat} {v : Value} {xs : List Value} (h : w.ownsRow B e size v n xs) {p : Addr} (hp : p.block < B) (u : Value) : (w.setCell p u).ownsRow B e size v n xs := by
  refine ⟨h.1, ?_⟩
  rcases h.2 with h2 | ⟨g, cap, cur, hv, hg, hh, r⟩
  · exact Or.inl h2
  · exact Or.inr ⟨g, cap, cur, hv, hg, (Below.heap_setCell w p u g (by omega)).trans hh, r⟩
theorem cell_set {w : World} {p q : Addr} {u v : Value} (h : w.cell? q = some v) (hne : q.block ≠ p.block) : (w.setCell p u).cell? q = some v :=
  (World.cell?_of_block (Below.heap_setCell w p u q.block hne)).trans h
theorem own_form {w : World} {B : Nat} {e : TypeId} {size n : Nat} {v : Value} {xs : List Value} (h : w.ownsRow B e size v n xs) : ∃ A cap, v = .slice A n cap := by
  rcases h.2 with ⟨rfl, rfl⟩ | ⟨g, cap, cur, rfl, -⟩
  · exact ⟨none, 0, rfl⟩
  · exact ⟨_, cap, rfl⟩

set_option maxRecDepth 10000 in
set_option maxHeartbeats 2000000 in
theorem Timed_any (F : List Fn) (e : Ex) (S S1 : Nat → Prop) (vF : Value) (cs : List Value) (w : World) (hF : Rd w S1 (.sl (F.map Fn.d)) [vF]) (hr : Rd w S e.d cs) (hlen : F.length ≤ 1000000) (hwf : wfS F.length e = true) (hwF : ∀ i (h : i < F.length), wfS i F[i].body = true) :
    Calls Try.prog 26 #[vF, .agg cs.toArray] w fun r w' => r = .returned (.bool (timedP F e)) ∧ Ext w w' := by
  obtain ⟨A, cap, b, off, rfl, hl1, hl2, hl3, hm⟩ := Ex.open hr
  obtain ⟨AF, capF, bF, offF, rfl, F1, F2, F3, F4⟩ := Rd.sl_open hF
  simp only [List.length_map] at *
  have hr' := Lib.hid (ex_bound e _ hr); have F3' := Lib.hid F3; have F4' := Lib.hid F4; have hwF' := Lib.hid hwF; have hwf' := Lib.hid hwf
  clear hF hr hm hl3 F3 F4 hwF hwf
  go_enter Try.func26, Try.ntmps26
  go_wp2_with fail
  generalize hWe : World.alloc (World.alloc w _) _ = W
  have f0 : W.cell? ⟨w.heap.size + 1, 0, none⟩ = some (.slice none 0 0) := by rw [← hWe]; clear hWe; go_simp
  have z0 : W.frozen? ⟨w.heap.size + 1, 0, none⟩ = false := by rw [← hWe]; clear hWe; go_simp
  have e0 : W.cell? ⟨w.heap.size, 0, none⟩ = some (.int .i64 e.op) := by rw [← hWe]; clear hWe; go_simp
  have e1 : W.cell? ⟨w.heap.size, 1, none⟩ = some (.int .i64 e.n) := by rw [← hWe]; clear hWe; go_simp
  have e2 : W.cell? ⟨w.heap.size, 2, none⟩ = some (.string e.s) := by rw [← hWe]; clear hWe; go_simp
  have e3 : W.cell? ⟨w.heap.size, 3, none⟩ = some (.slice A e.args.length cap) := by rw [← hWe]; clear hWe; go_simp
  have hWs : W.heap.size = w.heap.size + 2 := by rw [← hWe]; clear hWe; go_simp
  have hwW : Ext w W := by rw [← hWe]; exact (by repeat' first | exact Ext.refl _ | assumption | apply Ext.alloc | apply Ext.drew | apply Ext.drewN | (refine Ext.trans ?_ (by assumption)))
  clear hWe
  have hE1 := Lib.hid (And.intro e0 (And.intro e1 (And.intro e2 e3)))
  clear e0 e1 e2 e3
  go_loopw [12] (fun i wr => ∃ (k : Nat) (B : List Bool) (x : Value), k ≤ F.length ∧ i = .int .i64 k ∧ B.length = k ∧ wr.cell? ⟨w.heap.size + 1, 0, none⟩ = some x ∧ wr.frozen? ⟨w.heap.size + 1, 0, none⟩ = false ∧ wr.ownsRow (w.heap.size + 2) 4 1 x k (B.map Value.bool) ∧ Hid (bodiesT [] F = bodiesT B (F.drop k)) ∧
      Hid (wr.cell? ⟨w.heap.size, 0, none⟩ = some (.int .i64 e.op) ∧ wr.cell? ⟨w.heap.size, 1, none⟩ = some (.int .i64 e.n) ∧ wr.cell? ⟨w.heap.size, 2, none⟩ = some (.string e.s) ∧ wr.cell? ⟨w.heap.size, 3, none⟩ = some (.slice A e.args.length cap)) ∧ w.heap.size + 2 ≤ wr.heap.size ∧ Ext w wr) (fun i _ => F.length - (intOf i).toNat)
  case atStart => exact ⟨0, [], _, by omega, rfl, rfl, f0, z0, World.ownsRow_nil _ _ _ _, Lib.hid rfl, hE1, by omega, hwW⟩
  case round =>
    obtain ⟨k, B, x, hk, rfl, hBk, hx, hz, hown, HH, hE, hsz, hb⟩ := hrel
    subst hBk
    have hR := own_bools (S := fun b => b < wr.heap.size) hown (fun b hb => (hown.lt b hb).2)
    have hR' := Lib.hid hR
    have hx0 := Lib.hid hx
    have hown' := Lib.hid hown
    clear hR
    by_cases hlt : B.length < F.length
    · obtain ⟨rfl, hSb⟩ := F3'.out (by omega)
      obtain ⟨A1, cap1, b1, off1, A2, cap2, b2, off2, c0, c1, c2, c3, c4, c5, c6, hr0, q1, q2, q3, q4, q5, q6, q7, q8⟩ := Fn.at (F4'.out.ext (fun _ => hSb) hb) hlt
      have hbod := Lib.hid (ex_bound _ _ (Ex.mk_rd q5 q6 q7 q8))
      have hwb := hwF'.out B.length hlt
      have hSb' := Lib.hid hSb
      clear hr0 q3 q4 q5 q7 q8 hSb hown
      go_wp2_with fail
      generalize hWe : World.alloc wr _ = W1
      have hw1 : Ext wr W1 := by rw [← hWe]; exact (by repeat' first | exact Ext.refl _ | assumption | apply Ext.alloc | apply Ext.drew | apply Ext.drewN | (refine Ext.trans ?_ (by assumption)))
      have t3 : W1.cell? ⟨wr.heap.size, 3, none⟩ = some (.int .i64 F[B.length].body.op) := by rw [← hWe]; clear hWe; go_simp
      have t4 : W1.cell? ⟨wr.heap.size, 4, none⟩ = some (.int .i64 F[B.length].body.n) := by rw [← hWe]; clear hWe; go_simp
      have t5 : W1.cell? ⟨wr.heap.size, 5, none⟩ = some (.string F[B.length].body.s) := by rw [← hWe]; clear hWe; go_simp
      have t6 : W1.cell? ⟨wr.heap.size, 6, none⟩ = some (.slice A2 F[B.length].body.args.length cap2) := by rw [← hWe]; clear hWe; go_simp
      have hx1 := hw1.at hx
      clear hWe hx
      have ghx1 := ExtW.at hx1
      have gt3 := ExtW.at t3
      have gt4 := ExtW.at t4
      have gt5 := ExtW.at t5
      have gt6 := ExtW.at t6
      refine wp_region_mixed_ext 4 6 (by decide) (by kernel_rfl) (by kernel_rfl) (by kernel_rfl) ?_
      simp only [List.take_succ_cons, List.take_zero, List.drop_succ_cons, List.drop_zero, List.take_nil, List.drop_nil]
      refine wpReads_cons (by rfl) (by (rintro _ ⟨x, rfl⟩; go_simp; try (with_reducible rfl))) ?_
      try simp only [Act.put, List.setIfInBounds_toArray, List.set_cons_zero, List.set_cons_succ]
      refine wpReads_cons (by rfl) (by (rintro _ ⟨x, rfl⟩; go_simp; try (with_reducible rfl))) ?_
      try simp only [Act.put, List.setIfInBounds_toArray, List.set_cons_zero, List.set_cons_succ]
      refine wpReads_cons (by rfl) (by (rintro _ ⟨x, rfl⟩; go_simp; try (with_reducible rfl))) ?_
      try simp only [Act.put, List.setIfInBounds_toArray, List.set_cons_zero, List.set_cons_succ]
      refine wpReads_cons (by rfl) (by (rintro _ ⟨x, rfl⟩; go_simp; try (with_reducible rfl))) ?_
      try simp only [Act.put, List.setIfInBounds_toArray, List.set_cons_zero, List.set_cons_succ]
      refine wpReads_nil ?_
      refine wpSpec_cons (by rfl) (fun K hK => ?_)
      go_simp
      refine (timedfn_any B F[B.length].body hwb (w.heap.size + 1) x _ _ ((hw1.trans (Ext.refl _).drew).at hx0.out) ?_ ?_).mono ?_
      · exact hR'.out.upb (hw1.trans (Ext.refl _).drew)
      · exact hbod.out.upb (hw1.trans (Ext.refl _).drew)
      rintro r w2 ⟨rfl, he⟩
      refine hK.out _ _ (ext_in ((Ext.refl W1).drew.trans he)) ?_
      try simp only [Act.put, List.setIfInBounds_toArray, List.set_cons_zero, List.set_cons_succ]
      clear hK K
      refine wpSpec_cons (by rfl) (fun K hK => ?_)
      go_simp
      refine hK.out _ _ (ext_in (((Ext.refl W1).drew.trans he).alloc _)) ?_
      try simp only [Act.put, List.setIfInBounds_toArray, List.set_cons_zero, List.set_cons_succ]
      clear hK K
      refine wpSpec_nil ?_
      have he2 : Ext wr w2 := hw1.trans ((Ext.refl W1).drew.trans he)
      have hown2 := own_ext hown'.out he2
      have hsz2 : w.heap.size + 2 ≤ w2.heap.size := Nat.le_trans hsz he2.size
      refine wp_append1 _ _ _ rfl _ _ _ rfl (w.heap.size + 2) 4 1 1 _ Try.underlying75 infoBool rfl (by decide) (by decide) _ _ _ rfl hown2 (by simp [Act.eval]) rfl (by intro u hu; simp at hu; subst hu; rfl) (by omega) hsz2 ?_
      intro v' w3 hown3 hg hnn
      have hne : ∀ b, b < w.heap.size + 2 → some b ≠ x.ownBlock := fun b hb hx2 => by have := (hown2.lt b hx2.symm).1; omega
      obtain ⟨A3, cap3, rfl⟩ := own_form hown3
      have p0 : w3.cell? ⟨w.heap.size + 1, 0, none⟩ = some x := grown_cell hg (he2.at hx0.out) (hne _ (by dsimp only; omega))
      have pz : w3.frozen? ⟨w.heap.size + 1, 0, none⟩ = false := (grown_frozen hg (World.block_lt_of_cell? w2 _ (he2.at hx0.out)) (hne _ (by dsimp only; omega))).trans ((he2.frozens _ _ (World.block_lt_of_cell? wr _ hx0.out)).trans hz)
      have hE3 := Lib.hid (And.intro (grown_cell hg (he2.at hE.out.1) (hne _ (by dsimp only; omega))) (And.intro (grown_cell hg (he2.at hE.out.2.1) (hne _ (by dsimp only; omega))) (And.intro (grown_cell hg (he2.at hE.out.2.2.1) (hne _ (by dsimp only; omega))) (grown_cell hg (he2.at hE.out.2.2.2) (hne _ (by dsimp only; omega))))))
      have hb3 : Ext w w3 := Below.grown (hb.trans he2) hg (by omega) (fun k hk => by have := (hown2.lt k hk).1; omega)
      have hsz3 : w.heap.size + 2 ≤ w3.heap.size := Nat.le_trans hsz2 hg.size
      have hown4 := Lib.hid hown3
      have HH2 := Lib.hid (show bodiesT [] F = bodiesT (B ++ [timE B F[B.length].body]) (F.drop (B.length + 1)) by rw [HH.out, List.drop_eq_getElem_cons hlt, bodiesT])
      clear hown2 hown3 hg hnn he t3 t4 t5 t6 hx1 ghx1 gt3 gt4 gt5 gt6 c0 c1 c2 c3 c4 c5 c6 hne
      go_wp2_with fail
      refine NoPanic.normal ?_
      go_wp2_with fail
      go_roundw
      case rel =>
        refine ⟨B.length + 1, B ++ [timE B F[B.length].body], .slice A3 (B.length + 1) cap3, by omega, by go_num, by simp, by go_simp, by go_simp, own_set (by simpa using hown4.out) (by dsimp only; omega) _, HH2, Lib.hid ?_, by simpa using hsz3, hb3.setCell (by dsimp only; omega) _⟩
        exact ⟨cell_set hE3.out.1 (by dsimp only; omega), cell_set hE3.out.2.1 (by dsimp only; omega), cell_set hE3.out.2.2.1 (by dsimp only; omega), cell_set hE3.out.2.2.2 (by dsimp only; omega)⟩
      case measure => simp [intOf]; omega
    · have hkl : F.drop B.length = [] := List.drop_eq_nil_of_le (by omega)
      have H := Lib.hid (show timedP F e = timE B e by unfold timedP; rw [HH.out, hkl, bodiesT])
      have hBF : B.length = F.length := by omega
      have hwB := Lib.hid (show wfS B.length e = true by rw [hBF]; exact hwf'.out)
      obtain ⟨e0, e1, e2, e3⟩ := hE.out
      clear hkl hBF
      go_wp2_with fail
      refine (timedfn_any B e hwB.out (w.heap.size + 1) x _ wr hx0.out hR'.out (hr'.out.upb hb)).mono ?_
      rintro r w2 ⟨rfl, he⟩
      go_wp2_with fail
      go_ret
      exact ⟨ret_bool (by rw [H.out]), hb.trans he⟩
end Go.Proofs.Ytmhelkhmgbbfhaa

/- Readings of the statement's arguments of layer 16. -/
namespace Go.Proofs.Ytmhelkhmgbbfhaa
open Go.RowKit Go.Lib

section
variable {H : Type} {enc : TypeId × Value → H} {w : World} {sp : Nat → Bool} {hd : Bool}
theorem trods_val (N : Nat) : Trods enc Try.prog w sp hd 34 Val.d N := by
  intro n cs x hn h
  obtain ⟨xs, m, rfl, -, hlen, hl2, hf⟩ := DataW.trod_struct Try.underlying34 h
  have hc3 : Try.prog.cellsOf 3 = 1 := by kernel_rfl
  have hc9 : Try.prog.cellsOf 9 = 1 := by kernel_rfl
  have hc : Try.prog.cellsOf 34 = 3 := by kernel_rfl
  rw [hc] at hlen
  obtain ⟨y0, h0⟩ := trod_field 0 3 0 1 hl2 hf ⟨_, rfl, rfl, rfl⟩ hc3
  obtain ⟨y1, h1⟩ := trod_field 1 3 1 1 hl2 hf ⟨_, rfl, rfl, rfl⟩ hc3
  obtain ⟨y2, h2⟩ := trod_field 2 9 2 1 hl2 hf ⟨_, rfl, rfl, rfl⟩ hc9
  obtain ⟨a0, r0⟩ := trods_int Try.underlying3 (m + 1) m _ _ (by omega) h0
  obtain ⟨a1, r1⟩ := trods_int Try.underlying3 (m + 1) m _ _ (by omega) h1
  obtain ⟨a2, r2⟩ := trods_str Try.underlying9 (m + 1) m _ _ (by omega) h2
  exact ⟨⟨a0, a1, a2⟩, rd_st (rdS_cut (k := 1) r0 (rdS_cut (k := 1) r1 (rdS_cut (k := 1) r2 (rdS_end (by omega)))))⟩

theorem trods_ex : ∀ N : Nat, Trods enc Try.prog w sp hd 25 Ex.d N := by
  intro N
  induction N with
  | zero => intro n cs x hn; omega
  | succ N ih =>
    intro n cs x hn h
    obtain ⟨xs, m, rfl, -, hlen, hl2, hf⟩ := DataW.trod_struct Try.underlying25 h
    have hc3 : Try.prog.cellsOf 3 = 1 := by kernel_rfl
    have hc9 : Try.prog.cellsOf 9 = 1 := by kernel_rfl
    have hcl : Try.prog.cellsOf 23 = 1 := by kernel_rfl
    have hc : Try.prog.cellsOf 25 = 4 := by kernel_rfl
    rw [hc] at hlen
    obtain ⟨y0, h0⟩ := trod_field 0 3 0 1 hl2 hf ⟨_, rfl, rfl, rfl⟩ hc3
    obtain ⟨y1, h1⟩ := trod_field 1 3 1 1 hl2 hf ⟨_, rfl, rfl, rfl⟩ hc3
    obtain ⟨y2, h2⟩ := trod_field 2 9 2 1 hl2 hf ⟨_, rfl, rfl, rfl⟩ hc9
    obtain ⟨y3, h3⟩ := trod_field 3 23 3 1 hl2 hf ⟨_, rfl, rfl, rfl⟩ hcl
    obtain ⟨a0, r0⟩ := trods_int Try.underlying3 (m + 1) m _ _ (by omega) h0
    obtain ⟨a1, r1⟩ := trods_int Try.underlying3 (m + 1) m _ _ (by omega) h1
    obtain ⟨a2, r2⟩ := trods_str Try.underlying9 (m + 1) m _ _ (by omega) h2
    obtain ⟨a3, r3⟩ := trods_sl Try.underlying23 hc (by omega) Ex.width ih m _ _ (by omega) h3
    refine ⟨.mk a0 a1 a2 a3, ?_⟩
    rw [Ex.d, Ex.ds_map]
    exact rd_st (rdS_cut (k := 1) r0 (rdS_cut (k := 1) r1 (rdS_cut (k := 1) r2 (rdS_cut (k := 1) r3 (rdS_end (by omega))))))

theorem trods_ints (N : Nat) : Trods enc Try.prog w sp hd 31 (fun l : List Int => D.sl (l.map D.int)) N := fun n cs x hn h =>
  trods_sl Try.underlying31 (sz := 1) (by kernel_rfl) (by omega) (fun _ => rfl) (trods_int Try.underlying3 N) n cs x (by omega) h
theorem trods_vals (N : Nat) : Trods enc Try.prog w sp hd 26 (fun l : List Val => D.sl (l.map Val.d)) N := fun n cs x hn h =>
  trods_sl Try.underlying26 (sz := 3) (by kernel_rfl) (by omega) Val.width (trods_val N) n cs x (by omega) h
theorem trods_exs (N : Nat) : Trods enc Try.prog w sp hd 23 (fun l : List Ex => D.sl (l.map Ex.d)) N := fun n cs x hn h =>
  trods_sl Try.underlying23 (sz := 4) (by kernel_rfl) (by omega) Ex.width (trods_ex N) n cs x (by omega) h

theorem trods_fn (N : Nat) : Trods enc Try.prog w sp hd 67 Fn.d N := by
  intro n cs x hn h
  obtain ⟨xs, m, rfl, -, hlen, hl2, hf⟩ := DataW.trod_struct Try.underlying67 h
  have hc3 : Try.prog.cellsOf 3 = 1 := by kernel_rfl
  have hc9 : Try.prog.cellsOf 9 = 1 := by kernel_rfl
  have hcl : Try.prog.cellsOf 31 = 1 := by kernel_rfl
  have hce : Try.prog.cellsOf 25 = 4 := by kernel_rfl
  have hc : Try.prog.cellsOf 67 = 7 := by kernel_rfl
  rw [hc] at hlen
  obtain ⟨y0, h0⟩ := trod_field 0 9 0 1 hl2 hf ⟨_, rfl, rfl, rfl⟩ hc9
  obtain ⟨y1, h1⟩ := trod_field 1 31 1 1 hl2 hf ⟨_, rfl, rfl, rfl⟩ hcl
  obtain ⟨y2, h2⟩ := trod_field 2 3 2 1 hl2 hf ⟨_, rfl, rfl, rfl⟩ hc3
  obtain ⟨y3, h3⟩ := trod_field 3 25 3 4 hl2 hf ⟨_, rfl, rfl, rfl⟩ hce
  obtain ⟨a0, r0⟩ := trods_str Try.underlying9 (m + 1) m _ _ (by omega) h0
  obtain ⟨a1, r1⟩ := trods_ints (m + 1) m _ _ (by omega) h1
  obtain ⟨a2, r2⟩ := trods_int Try.underlying3 (m + 1) m _ _ (by omega) h2
  obtain ⟨a3, r3⟩ := trods_ex (m + 1) m _ _ (by omega) h3
  exact ⟨⟨a0, a1, a2, a3⟩, rd_st (rdS_cut (k := 1) r0 (rdS_cut (k := 1) r1 (rdS_cut (k := 1) r2 (rdS_cut (k := 4) r3 (rdS_end (by omega))))))⟩
theorem trods_fns (N : Nat) : Trods enc Try.prog w sp hd 22 (fun l : List Fn => D.sl (l.map Fn.d)) N := fun n cs x hn h =>
  trods_sl Try.underlying22 (sz := 7) (by kernel_rfl) (by omega) Fn.width (trods_fn N) n cs x (by omega) h
end
end Go.Proofs.Ytmhelkhmgbbfhaa

/- A law's entry: the arguments' readings as trees; and its end: true, and nothing that was there has changed. -/
namespace Go.Proofs.Ytmhelkhmgbbfhaa
open Go.ChangeShapes Go.WideShapes Go.ChangeAt Go.RowKit Go.Lib

theorem Try.own : ownKnob Try.prog.godebug = none := by kernel_rfl
theorem Try.laidOut : laidOutB Try.prog = true := by kernel_rfl

section
variable {H : Type} {enc : TypeId × Value → H} {P : Program}
theorem post_of_below {f : Func} {s : ChangeSpec} {apart fresh handsOn again : Bool} {W W' : World} {args : Array Value} {v : Value} {ds gs : List (DataW H)} {before pa pv : List MemPlace}
    (hW : DataW.Whole enc P f.params.toList s.vars apart W args.toList ds gs before)
    (hres : ∀ (b : Nat) (sp : Nat → Bool) (hd : Bool), DataW.TrodAll enc P W' b sp hd f.resultTypes.toList (v.resultList f.resultTypes.size) (s.fn H (ds ++ gs)).results [])
    (hargs : ∀ sp : Nat → Bool, (∀ p ∈ before, sp p.block = true) → DataW.TrodAll enc P W' 0 sp true f.params.toList args.toList (s.fn H (ds ++ gs)).args pa)
    (hvars : ∀ sp : Nat → Bool, (∀ p ∈ before, sp p.block = true) → DataW.TrodVars enc P W' sp s.vars (s.fn H (ds ++ gs)).vars pv)
    (hps : before = pa ++ pv) (hb : Below W.heap.size W W')
    (hok : ∀ (j : Nat) (t : TypeId) (r : Value), f.resultTypes[j]? = some t → (v.resultList f.resultTypes.size)[j]? = some r → Value.okWide P W' .any 0 t r) :
    s.post enc P f apart fresh handsOn again W args v W' := by
  have hlt : ∀ p ∈ before, p.block < W.heap.size := fun p hp => hW.lt p hp
  have hold : ∀ p ∈ before, (fun b => decide (b < W.heap.size)) p.block = true := fun p hp => by simpa using hlt p hp
  refine ⟨ds, gs, before, [], pa, pv, hW, hres _ _ _, hargs _ hold, hvars _ hold, World.keptBut_mono (fun p hp => ⟨hp, ?_⟩) (hb.frame (· ∈ before)), fun _ => ?_⟩
  · rw [hps, List.mem_append] at hp
    exact Or.inr hp
  · obtain ⟨_, _, _, _, _, hz, hn⟩ := hW
    refine ⟨hok, _, _, ([] ++ pa) ++ pv, ⟨[] ++ pa, pv, trodAll_append (hargs _ (fun _ _ => rfl)) (hres _ _ _), hvars _ (fun _ _ => rfl), rfl, ?_, ?_⟩, ?_⟩
    · intro b off hp
      have hin : MemPlace.cell b off ∈ before := by rw [hps]; simpa using hp
      rw [hb.frozen (hlt _ hin)]
      exact hz b off hin
    · intro ha
      have := hn ha
      rw [hps] at this
      simpa using this
    · intro p hp _
      rw [hps]
      simpa using hp

theorem args_stay (hl : laidOutB P = true) {W W' : World} {sp : Nat → Bool} (hb : Below W.heap.size W W') : ∀ {ts : List TypeId} {vs : List Value} {ds : List (DataW H)} {ps : List MemPlace},
    (∀ t ∈ ts, P.readableRec t = true ∧ t < P.types.size) → DataW.TrodAll enc P W 0 (fun _ => true) true ts vs ds ps → (∀ p ∈ ps, p.block < W.heap.size) → (∀ p ∈ ps, sp p.block = true) →
    DataW.TrodAll enc P W' 0 sp true ts vs ds ps
  | [], [], [], _, _, h, _, _ => h
  | [], _ :: _, _, _, _, h, _, _ => h.elim
  | [], [], _ :: _, _, _, h, _, _ => h.elim
  | _ :: _, [], _, _, _, h, _, _ => h.elim
  | _ :: _, _ :: _, [], _, _, h, _, _ => h.elim
  | t :: ts, v :: vs, d :: ds, ps, ht, h, hlt, hsp => by
    obtain ⟨p, q, h1, h2, rfl⟩ := h
    refine ⟨p, q, WideElems.Trod_stays hl (ht t (by simp)).1 (ht t (by simp)).2 h1 (fun x hx => hb.same (hlt x (by simp [hx]))) (fun x hx => hsp x (by simp [hx])), ?_, rfl⟩
    exact args_stay hl hb (fun t h => ht t (by simp [h])) h2 (fun x hx => hlt x (by simp [hx])) (fun x hx => hsp x (by simp [hx]))

/-- A law's end: it has returned true, and what was there is as it was. -/
theorem law_post (hl : laidOutB P = true) {f : Func} {s : ChangeSpec} {apart fresh handsOn again : Bool} {W W' : World} {args : Array Value} {ds gs : List (DataW H)} {before : List MemPlace} {tb : TypeId}
    (hW : DataW.Whole enc P f.params.toList s.vars apart W args.toList ds gs before) (hv : s.vars = []) (hs : s.fn H (ds ++ gs) = { results := [.lit (.bool true)], args := ds })
    (hrt : f.resultTypes = #[tb]) (htb : P.underlying tb = some .bool) (hts0 : (f.params.toList.all fun t => P.readableRec t && decide (t < P.types.size)) = true) (hb : Below W.heap.size W W') :
    s.post enc P f apart fresh handsOn again W args (.bool true) W' := by
  have hts : ∀ t ∈ f.params.toList, P.readableRec t = true ∧ t < P.types.size := by
    intro t ht
    have := List.all_eq_true.1 hts0 t ht
    simpa using this
  have hlt : ∀ p ∈ before, p.block < W.heap.size := fun p hp => hW.lt p hp
  have hW2 := hW
  obtain ⟨p, q, hA, hV, rfl, -, -⟩ := hW
  rw [hv] at hV
  obtain ⟨rfl, rfl⟩ := trodVars_none hV
  refine post_of_below (pa := p) (pv := []) hW2 ?_ ?_ ?_ (by simp) hb ?_
  · intro b sp hd
    rw [hs, hrt]
    exact trodAll_mk1 ⟨1, by simp [DataW.trod, Value.cells, htb]⟩
  · intro sp hsp
    rw [hs]
    exact args_stay hl hb hts hA (fun x hx => hlt x (by simp [hx])) (fun x hx => hsp x (by simp [hx]))
  · intro sp hsp
    rw [hs, hv]
    exact rfl
  · intro j t r hj hr
    rw [hrt] at hj hr
    obtain rfl : j = 0 := by
      have := (Array.getElem?_eq_some_iff.1 hj).1
      simpa using this
    simp at hj
    subst hj
    have : r = .bool true := by simpa [Value.resultList] using hr.symm
    subst this
    simp [Value.okWide, htb, Cell.okWide, Cell.ok]

variable {w w0 : World} {sp : Nat → Bool} {hd : Bool} {b0 : Nat} {t : TypeId} {v : Value} {d : DataW H} {ps : List MemPlace}
theorem par_int (ht : P.underlying t = some (.int .i64)) (hval : Value.okWide P w0 .any b0 t v) : ∃ n, v = .int .i64 n := okWide_int ht hval
theorem par_sl {e : TypeId} (ht : P.underlying t = some (.slice e)) (hval : Value.okWide P w0 .any b0 t v) (h : DataW.Trod enc P w 0 sp hd t v d ps) {α : Type} {f : α → D} (hf : ∀ N, Trods enc P w sp hd t f N) : ∃ x, Rd w Any (f x) [v] := by
  obtain ⟨a, len, cap, rfl⟩ := okWide_slice ht hval
  obtain ⟨fuel, h⟩ := h
  exact hf (fuel + 1) fuel _ _ (by omega) h
theorem par_st {fs : Array Field} (ht : P.underlying t = some (.struct fs)) (hval : Value.okWide P w0 .any b0 t v) (h : DataW.Trod enc P w 0 sp hd t v d ps) {α : Type} {f : α → D} (hf : ∀ N, Trods enc P w sp hd t f N) : ∃ x cs, v = .agg cs.toArray ∧ Rd w Any (f x) cs := by
  obtain ⟨cs, rfl, -⟩ := okWide_struct ht hval
  obtain ⟨fuel, h⟩ := h
  obtain ⟨x, hx⟩ := hf (fuel + 1) fuel _ _ (by omega) h
  exact ⟨x, cs.toList, rfl, hx⟩
theorem par_str (ht : P.underlying t = some .string) (hval : Value.okWide P w0 .any b0 t v) : ∃ s, v = .string s := okWide_string ht hval
end
end Go.Proofs.Ytmhelkhmgbbfhaa
