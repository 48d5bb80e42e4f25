/- Walks: copies of expressions. -/
import Derived.Test.YtmhelkhmgbbfhaaProg
import Derived.Test.YtmhelkhmgbbfhaaGa1
import Derived.Test.YtmhelkhmgbbfhaaGa2
import Derived.Test.YtmhelkhmgbbfhaaGa8
import Derived.Test.YtmhelkhmgbbfhaaGa11
set_option linter.unusedSimpArgs false
set_option linter.unusedVariables false
namespace Go.Proofs.Ytmhelkhmgbbfhaa
open Go.RowKit Go.Lib

/-- an expression's cells in a block of the call's own -/
def OutAt (w : World) (B : Nat) (o n : Int) (s : ByteArray) (x : Value) : Prop :=
  w.cell? ⟨B, 0, none⟩ = some (.int .i64 o) ∧ w.cell? ⟨B, 1, none⟩ = some (.int .i64 n) ∧ w.cell? ⟨B, 2, none⟩ = some (.string s) ∧ w.cell? ⟨B, 3, none⟩ = some x ∧
  w.frozen? ⟨B, 0, none⟩ = false ∧ w.frozen? ⟨B, 1, none⟩ = false ∧ w.frozen? ⟨B, 2, none⟩ = false ∧ w.frozen? ⟨B, 3, none⟩ = false
theorem OutAt.ext {w w' : World} {B : Nat} {o n : Int} {s : ByteArray} {x : Value} (h : OutAt w B o n s x) (he : Ext w w') : OutAt w' B o n s x := by
  obtain ⟨h0, h1, h2, h3, h4, h5, h6, h7⟩ := h
  have hlt : B < w.heap.size := World.block_lt_of_cell? w _ h0
  exact ⟨he.at h0, he.at h1, he.at h2, he.at h3, (he.frozens _ _ hlt).trans h4, (he.frozens _ _ hlt).trans h5, (he.frozens _ _ hlt).trans h6, (he.frozens _ _ hlt).trans h7⟩
theorem OutAt.grown {w w' : World} {B : Nat} {o n : Int} {s : ByteArray} {x : Value} {own : Option Nat} (h : OutAt w B o n s x) (hg : w.grownBy w' own) (hne : some B ≠ own) : OutAt w' B o n s x := by
  obtain ⟨h0, h1, h2, h3, h4, h5, h6, h7⟩ := h
  have hlt : B < w.heap.size := World.block_lt_of_cell? w _ h0
  exact ⟨grown_cell hg h0 hne, grown_cell hg h1 hne, grown_cell hg h2 hne, grown_cell hg h3 hne, (grown_frozen hg hlt hne).trans h4, (grown_frozen hg hlt hne).trans h5, (grown_frozen hg hlt hne).trans h6, (grown_frozen hg hlt hne).trans h7⟩
theorem OutAt.other {w : World} {B : Nat} {o n : Int} {s : ByteArray} {x : Value} {p : Addr} (h : OutAt w B o n s x) (hne : p.block ≠ B) (u : Value) : OutAt (w.setCell p u) B o n s x := by
  obtain ⟨h0, h1, h2, h3, h4, h5, h6, h7⟩ := h
  have hb : (w.setCell p u).heap[B]? = w.heap[B]? := Below.heap_setCell w p u B (fun e => hne e.symm)
  exact ⟨(World.cell?_of_block hb).trans h0, (World.cell?_of_block hb).trans h1, (World.cell?_of_block hb).trans h2, (World.cell?_of_block hb).trans h3, (World.frozen?_of_block hb).trans h4, (World.frozen?_of_block hb).trans h5, (World.frozen?_of_block hb).trans h6, (World.frozen?_of_block hb).trans h7⟩
theorem OutAt.set {w : World} {B : Nat} {o n : Int} {s : ByteArray} {x : Value} (h : OutAt w B o n s x) (u : Value) : OutAt (w.setCell ⟨B, 3, none⟩ u) B o n s u := by
  obtain ⟨h0, h1, h2, h3, h4, h5, h6, h7⟩ := h
  refine ⟨?_, ?_, ?_, ?_, ?_, ?_, ?_, ?_⟩ <;> go_simp

theorem infoEx : (Try.prog.info? 25).map (fun i => (i.zero, i.size, i.bytes)) = some (some (.agg #[.int .i64 0, .int .i64 0, .string ByteArray.empty, .slice none 0 0]), 4, 56) := by kernel_rfl

set_option maxRecDepth 10000 in
set_option maxHeartbeats 2000000 in
theorem clone_any (e : Ex) : ∀ (S : Nat → Prop) (cs : List Value) (w : World), Rd w S e.d cs → parts e ≤ 1000000 →
    Calls Try.prog 83 #[.agg cs.toArray] w fun r w' => (∃ A cap, r = .returned (.agg #[.int .i64 e.op, .int .i64 e.n, .string e.s, .slice A e.args.length cap]) ∧ Rd w' (fun b => w.heap.size ≤ b ∧ b < w'.heap.size) e.d [.int .i64 e.op, .int .i64 e.n, .string e.s, .slice A e.args.length cap]) ∧ Ext w w' := by
  induction e using Ex.ind with | h o n s l ih => ?_
  intro S cs w hr hpb
  obtain ⟨A, cap, b, off, rfl, hl1, hl2, hl3, hm⟩ := Ex.open hr
  have ih' := Lib.hid ih
  clear ih
  simp only [Ex.args, Ex.op, Ex.n, Ex.s] at hl1 hl2 hl3 hm ⊢
  have hll : l.length ≤ 1000000 := by rw [parts] at hpb; have := partsL_len l; omega
  have hl3' := Lib.hid hl3; have hm' := Lib.hid hm
  clear hr hl3 hm
  go_enter Try.func83, Try.ntmps83
  go_wp2_with fail
  generalize hWe : World.alloc (World.alloc (World.alloc w _) _) _ = W
  have hR0 : OutAt W (w.heap.size + 1) 0 0 ByteArray.empty (.slice none 0 0) := by rw [← hWe]; clear hWe; refine ⟨?_, ?_, ?_, ?_, ?_, ?_, ?_, ?_⟩ <;> go_simp <;> rfl
  have hO0 : OutAt W (w.heap.size + 2) o n s (.slice none 0 0) := by rw [← hWe]; clear hWe; refine ⟨?_, ?_, ?_, ?_, ?_, ?_, ?_, ?_⟩ <;> go_simp
  have hWs : W.heap.size = w.heap.size + 3 := by rw [← hWe]; clear hWe; go_simp
  have hwW : Ext w W := by rw [← hWe]; exact (by repeat' first | exact Ext.refl _ | assumption | apply Ext.alloc | apply Ext.drew | apply Ext.drewN | (refine Ext.trans ?_ (by assumption)))
  clear hWe
  have hR1 := Lib.hid hR0; have hO1 := Lib.hid hO0
  clear hR0 hO0
  go_loopw [16] (fun i wr => ∃ (k : Nat) (x : Value), k ≤ l.length ∧ i = .int .i64 k ∧ OutAt wr (w.heap.size + 1) 0 0 ByteArray.empty (.slice none 0 0) ∧ OutAt wr (w.heap.size + 2) o n s x ∧ OwnE wr (w.heap.size + 3) 25 4 x ((l.take k).map Ex.d) ∧ w.heap.size + 3 ≤ wr.heap.size ∧ Ext w wr) (fun i _ => l.length - (intOf i).toNat)
  case atStart => exact ⟨0, _, by omega, rfl, hR1.out, hO1.out, OwnE.nil _ _ _ _, by omega, hwW⟩
  case round =>
    obtain ⟨k, x, hk, rfl, hR, hO, hX, hsz, hb⟩ := hrel
    by_cases hk2 : k < l.length
    · obtain ⟨rfl, hSb⟩ := hl3'.out (by omega)
      obtain ⟨A1, cap1, b1, off1, c0, c1, c2, c3, hr', -⟩ := Ex.at (hm'.out.ext (fun _ => hSb) hb) hk2
      have hr2 := Lib.hid hr'; have hSb' := Lib.hid hSb; have hR' := Lib.hid hR; have hX' := Lib.hid hX; have hO' := Lib.hid hO
      have hpk : parts l[k] ≤ 1000000 := by rw [parts] at hpb; have := partsL_mem l l[k] (List.getElem_mem hk2); omega
      clear hr' hSb hR hX hO
      go_wp2_with fail
      generalize hWe : World.alloc wr _ = W1
      have hw1 : Ext wr W1 := by rw [← hWe]; exact (by repeat' first | exact Ext.refl _ | assumption | apply Ext.alloc | apply Ext.drew | apply Ext.drewN | (refine Ext.trans ?_ (by assumption)))
      have t0 : W1.cell? ⟨wr.heap.size, 0, none⟩ = some (.int .i64 l[k].op) := by rw [← hWe]; clear hWe; go_simp
      have t1 : W1.cell? ⟨wr.heap.size, 1, none⟩ = some (.int .i64 l[k].n) := by rw [← hWe]; clear hWe; go_simp
      have t2 : W1.cell? ⟨wr.heap.size, 2, none⟩ = some (.string l[k].s) := by rw [← hWe]; clear hWe; go_simp
      have t3 : W1.cell? ⟨wr.heap.size, 3, none⟩ = some (.slice A1 l[k].args.length cap1) := by rw [← hWe]; clear hWe; go_simp
      clear hWe
      obtain ⟨o0, o1, o2, o3, -⟩ := hO'.out.ext hw1
      have go3 := ExtW.at o3
      have gt0 := ExtW.at t0
      have gt1 := ExtW.at t1
      have gt2 := ExtW.at t2
      have gt3 := ExtW.at t3
      refine wp_region_mixed_ext 3 5 (by decide) (by kernel_rfl) (by kernel_rfl) (by kernel_rfl) ?_
      simp only [List.take_succ_cons, List.take_zero, List.drop_succ_cons, List.drop_zero, List.take_nil, List.drop_nil]
      refine wpReads_cons (by rfl) (by (rintro _ ⟨x, rfl⟩; go_simp; try (with_reducible rfl))) ?_
      try simp only [Act.put, List.setIfInBounds_toArray, List.set_cons_zero, List.set_cons_succ]
      refine wpReads_cons (by rfl) (by (rintro _ ⟨x, rfl⟩; go_simp; try (with_reducible rfl))) ?_
      try simp only [Act.put, List.setIfInBounds_toArray, List.set_cons_zero, List.set_cons_succ]
      refine wpReads_cons (by rfl) (by (rintro _ ⟨x, rfl⟩; go_simp; try (with_reducible rfl))) ?_
      try simp only [Act.put, List.setIfInBounds_toArray, List.set_cons_zero, List.set_cons_succ]
      refine wpReads_nil ?_
      refine wpSpec_cons (by rfl) (fun K hK => ?_)
      go_simp
      refine (ih'.out l[k] (List.getElem_mem hk2) S _ _ (hr2.out.ext (hw1.trans (Ext.refl _).drew)) hpk).mono ?_
      rintro r w2 ⟨⟨A2, cap2, rfl, hc⟩, he⟩
      refine hK.out _ _ (ext_in ((Ext.refl W1).drew.trans he)) ?_
      try simp only [Act.put, List.setIfInBounds_toArray, List.set_cons_zero, List.set_cons_succ]
      clear hK K
      refine wpSpec_cons (by rfl) (fun K hK => ?_)
      go_simp
      refine hK.out _ _ (ext_in (((Ext.refl W1).drew.trans he).alloc _)) ?_
      try simp only [Act.put, List.setIfInBounds_toArray, List.set_cons_zero, List.set_cons_succ]
      clear hK K
      refine wpSpec_nil ?_
      have hsz2 : w.heap.size + 3 ≤ w2.heap.size := by have := hw1.size; have h1 := he.size; simp at h1; omega
      have hx2 := (hX'.out.ext hw1).ext ((Ext.refl W1).drew.trans he)
      refine wp_append_e _ _ _ rfl _ _ _ rfl (w.heap.size + 3) 25 4 56 _ Try.underlying23 infoEx rfl (by decide) (by decide) x _ rfl hx2 _ rfl (by go_simp) rfl (by intro u hu; simp at hu; rcases hu with rfl | rfl | rfl | rfl <;> rfl) l[k].d ?_ ?_ ?_ ?_
      · refine Rd.keep (Keeps.refl _ _) (fun b hb => ⟨?_, hb.2, fun hx => ?_⟩) _ _ hc
        · have := hw1.size; have h1 := hb.1; simp at h1; omega
        · have := hX'.out.own b hx.symm; have := hw1.size; have h1 := hb.1; simp at h1; omega
      · simp only [List.length_map, List.length_take]; omega
      · exact hsz2
      intro v' w3 hx3 hg hnn
      have hO3 := Lib.hid (((hO'.out.ext hw1).ext ((Ext.refl W1).drew.trans he)).grown hg (hX'.out.ne (by omega)))
      have hR3 := Lib.hid (((hR'.out.ext hw1).ext ((Ext.refl W1).drew.trans he)).grown hg (hX'.out.ne (by omega)))
      have hb3 : Ext w w3 := Below.grown (hb.trans (hw1.trans ((Ext.refl W1).drew.trans he))) hg (by omega) (fun k hk => by have := hX'.out.own k hk; omega)
      have hsz3 : w.heap.size + 3 ≤ w3.heap.size := Nat.le_trans hsz2 hg.size
      obtain ⟨A3, cap3, rfl, -, -⟩ := hx3.form (n := k + 1) (by simp; omega)
      have hx3' := Lib.hid hx3
      clear hx2 hx3 hg hnn hc he o0 o1 o2 o3 t0 t1 t2 t3 go3 gt0 gt1 gt2 gt3 c0 c1 c2 c3
      obtain ⟨p0, p1, p2, p3, p4, p5, p6, p7⟩ := hO3.out
      go_wp2_with fail
      refine NoPanic.normal ?_
      go_wp2_with fail
      go_roundw
      case rel =>
        refine ⟨k + 1, _, by omega, by go_num, hR3.out.other (by simp) _, hO3.out.set _, ?_, by simpa using hsz3, hb3.setCell (by dsimp only; omega) _⟩
        rw [List.take_succ_eq_append_getElem hk2, List.map_append]
        exact hx3'.out.set (by simp) _
      case measure => simp [intOf]; omega
    · have hkl : k = l.length := by omega
      subst hkl
      rw [List.take_length] at hX
      obtain ⟨A3, cap3, rfl, hc1, hc2⟩ := hX.form (n := l.length) (by simp)
      have hO' := Lib.hid hO; have hX' := Lib.hid hX
      obtain ⟨o0, o1, o2, o3, -⟩ := hO
      obtain ⟨f0, f1, f2, f3, z0, z1, z2, z3⟩ := hR
      clear hX
      go_wp2_with fail
      refine bodyPost_ret (v := .agg #[.int .i64 o, .int .i64 n, .string s, .slice A3 l.length cap3]) (by simp [results, Try.results83, go_sem, f0, f1, f2, f3]; done) rfl ⟨⟨A3, cap3, rfl, ?_⟩, ?_⟩
      · exact Rd.keep (Keeps.refl _ _) (fun b hb => ⟨by omega, hb.2⟩) _ _ (rd_node ((((hX'.out.set (by simp) _).set (by simp) _).set (by simp) _).set (by simp) _).rd)
      · exact (((hb.setCell (by simp) _).setCell (by simp) _).setCell (by simp) _).setCell (by simp) _
set_option maxRecDepth 10000 in
set_option maxHeartbeats 2000000 in
theorem rclone_any (e : Ex) : ∀ (S : Nat → Prop) (cs : List Value) (w : World), Rd w S e.d cs → parts e ≤ 1000000 →
    Calls Try.prog 84 #[.agg cs.toArray] w fun r w' => (∃ A cap, r = .returned (.agg #[.int .i64 e.op, .int .i64 e.n, .string e.s, .slice A e.args.length cap]) ∧ Rd w' (fun b => w.heap.size ≤ b ∧ b < w'.heap.size) e.d [.int .i64 e.op, .int .i64 e.n, .string e.s, .slice A e.args.length cap]) ∧ Ext w w' := by
  induction e using Ex.ind with | h o n s l ih => ?_
  intro S cs w hr hpb
  obtain ⟨A, cap, b, off, rfl, hl1, hl2, hl3, hm⟩ := Ex.open hr
  have ih' := Lib.hid ih
  clear ih
  simp only [Ex.args, Ex.op, Ex.n, Ex.s] at hl1 hl2 hl3 hm ⊢
  have hll : l.length ≤ 1000000 := by rw [parts] at hpb; have := partsL_len l; omega
  have hl3' := Lib.hid hl3; have hm' := Lib.hid hm
  clear hr hl3 hm
  go_enter Try.func84, Try.ntmps84
  go_wp2_with fail
  generalize hWe : World.alloc (World.alloc (World.alloc w _) _) _ = W
  have hR0 : OutAt W (w.heap.size + 1) 0 0 ByteArray.empty (.slice none 0 0) := by rw [← hWe]; clear hWe; refine ⟨?_, ?_, ?_, ?_, ?_, ?_, ?_, ?_⟩ <;> go_simp <;> rfl
  have hO0 : OutAt W (w.heap.size + 2) o n s (.slice none 0 0) := by rw [← hWe]; clear hWe; refine ⟨?_, ?_, ?_, ?_, ?_, ?_, ?_, ?_⟩ <;> go_simp
  have hE0 : OutAt W w.heap.size o n s (.slice A l.length cap) := by rw [← hWe]; clear hWe; refine ⟨?_, ?_, ?_, ?_, ?_, ?_, ?_, ?_⟩ <;> go_simp
  have hWs : W.heap.size = w.heap.size + 3 := by rw [← hWe]; clear hWe; go_simp
  have hwW : Ext w W := by rw [← hWe]; exact (by repeat' first | exact Ext.refl _ | assumption | apply Ext.alloc | apply Ext.drew | apply Ext.drewN | (refine Ext.trans ?_ (by assumption)))
  clear hWe
  have hR1 := Lib.hid hR0; have hO1 := Lib.hid hO0; have hE1 := Lib.hid hE0
  clear hR0 hO0 hE0
  go_loopw [4] (fun i wr => ∃ (k : Nat) (x : Value), k ≤ l.length ∧ i = .int .i64 k ∧ OutAt wr (w.heap.size + 1) 0 0 ByteArray.empty (.slice none 0 0) ∧ OutAt wr (w.heap.size + 2) o n s x ∧ OutAt wr w.heap.size o n s (.slice A l.length cap) ∧ OwnE wr (w.heap.size + 3) 25 4 x ((l.take k).map Ex.d) ∧ w.heap.size + 3 ≤ wr.heap.size ∧ Ext w wr) (fun i _ => l.length - (intOf i).toNat)
  case atStart => exact ⟨0, _, by omega, rfl, hR1.out, hO1.out, hE1.out, OwnE.nil _ _ _ _, by omega, hwW⟩
  case round =>
    obtain ⟨k, x, hk, rfl, hR, hO, hE, hX, hsz, hb⟩ := hrel
    have hE' := Lib.hid hE
    obtain ⟨-, -, -, e3, -⟩ := hE
    by_cases hk2 : k < l.length
    · obtain ⟨rfl, hSb⟩ := hl3'.out (by omega)
      obtain ⟨A1, cap1, b1, off1, c0, c1, c2, c3, hr', -⟩ := Ex.at (hm'.out.ext (fun _ => hSb) hb) hk2
      have hr2 := Lib.hid hr'; have hSb' := Lib.hid hSb; have hR' := Lib.hid hR; have hX' := Lib.hid hX; have hO' := Lib.hid hO
      have hpk : parts l[k] ≤ 1000000 := by rw [parts] at hpb; have := partsL_mem l l[k] (List.getElem_mem hk2); omega
      clear hr' hSb hR hX hO
      go_wp2_with fail
      obtain ⟨o0, o1, o2, o3, -⟩ := hO'.out
      have hk3 : (k : Int) < (l.length : Int) := by omega
      have go3 := ExtW.at o3
      have ge3 := ExtW.at e3
      have gc0 := ExtW.at c0
      have gc1 := ExtW.at c1
      have gc2 := ExtW.at c2
      have gc3 := ExtW.at c3
      refine wp_region_mixed_ext 7 9 (by decide) (by kernel_rfl) (by kernel_rfl) (by kernel_rfl) ?_
      simp only [List.take_succ_cons, List.take_zero, List.drop_succ_cons, List.drop_zero, List.take_nil, List.drop_nil]
      refine wpReads_cons (by rfl) (by (rintro _ ⟨x, rfl⟩; go_simp; try (with_reducible rfl))) ?_
      try simp only [Act.put, List.setIfInBounds_toArray, List.set_cons_zero, List.set_cons_succ]
      refine wpReads_cons (by rfl) (by (rintro _ ⟨x, rfl⟩; go_simp; try (with_reducible rfl))) ?_
      try simp only [Act.put, List.setIfInBounds_toArray, List.set_cons_zero, List.set_cons_succ]
      refine wpReads_cons (by rfl) (by (rintro _ ⟨x, rfl⟩; go_simp; try (with_reducible rfl))) ?_
      try simp only [Act.put, List.setIfInBounds_toArray, List.set_cons_zero, List.set_cons_succ]
      refine wpReads_cons (by rfl) (by (rintro _ ⟨x, rfl⟩; go_simp; try (with_reducible rfl))) ?_
      try simp only [Act.put, List.setIfInBounds_toArray, List.set_cons_zero, List.set_cons_succ]
      refine wpReads_cons (by rfl) (by (rintro _ ⟨x, rfl⟩; go_simp; try (with_reducible rfl))) ?_
      try simp only [Act.put, List.setIfInBounds_toArray, List.set_cons_zero, List.set_cons_succ]
      refine wpReads_cons (by rfl) (by (rintro _ ⟨x, rfl⟩; go_simp; try (with_reducible rfl))) ?_
      try simp only [Act.put, List.setIfInBounds_toArray, List.set_cons_zero, List.set_cons_succ]
      refine wpReads_cons (by rfl) (by (rintro _ ⟨x, rfl⟩; go_simp; try (with_reducible rfl))) ?_
      try simp only [Act.put, List.setIfInBounds_toArray, List.set_cons_zero, List.set_cons_succ]
      refine wpReads_nil ?_
      refine wpSpec_cons (by rfl) (fun K hK => ?_)
      go_simp
      refine (ih'.out l[k] (List.getElem_mem hk2) S _ _ (hr2.out.ext (Ext.refl _).drew) hpk).mono ?_
      rintro r w2 ⟨⟨A2, cap2, rfl, hc⟩, he⟩
      refine hK.out _ _ (ext_in ((Ext.refl wr).drew.trans he)) ?_
      try simp only [Act.put, List.setIfInBounds_toArray, List.set_cons_zero, List.set_cons_succ]
      clear hK K
      refine wpSpec_cons (by rfl) (fun K hK => ?_)
      go_simp
      refine hK.out _ _ (ext_in (((Ext.refl wr).drew.trans he).alloc _)) ?_
      try simp only [Act.put, List.setIfInBounds_toArray, List.set_cons_zero, List.set_cons_succ]
      clear hK K
      refine wpSpec_nil ?_
      have hsz2 : w.heap.size + 3 ≤ w2.heap.size := by have h1 := he.size; simp at h1; omega
      have hx2 := hX'.out.ext ((Ext.refl wr).drew.trans he)
      refine wp_append_e _ _ _ rfl _ _ _ rfl (w.heap.size + 3) 25 4 56 _ Try.underlying23 infoEx rfl (by decide) (by decide) x _ rfl hx2 _ rfl (by go_simp) rfl (by intro u hu; simp at hu; rcases hu with rfl | rfl | rfl | rfl <;> rfl) l[k].d ?_ ?_ ?_ ?_
      · refine Rd.keep (Keeps.refl _ _) (fun b hb => ⟨?_, hb.2, fun hx => ?_⟩) _ _ hc
        · have h1 := hb.1; simp at h1; omega
        · have := hX'.out.own b hx.symm; have h1 := hb.1; simp at h1; omega
      · simp only [List.length_map, List.length_take]; omega
      · exact hsz2
      intro v' w3 hx3 hg hnn
      have hO3 := Lib.hid ((hO'.out.ext ((Ext.refl wr).drew.trans he)).grown hg (hX'.out.ne (by omega)))
      have hE3 := Lib.hid ((hE'.out.ext ((Ext.refl wr).drew.trans he)).grown hg (hX'.out.ne (by omega)))
      have hR3 := Lib.hid ((hR'.out.ext ((Ext.refl wr).drew.trans he)).grown hg (hX'.out.ne (by omega)))
      have hb3 : Ext w w3 := Below.grown (hb.trans ((Ext.refl wr).drew.trans he)) hg (by omega) (fun k hk => by have := hX'.out.own k hk; omega)
      have hsz3 : w.heap.size + 3 ≤ w3.heap.size := Nat.le_trans hsz2 hg.size
      obtain ⟨A3, cap3, rfl, -, -⟩ := hx3.form (n := k + 1) (by simp; omega)
      have hx3' := Lib.hid hx3
      clear hx2 hx3 hg hnn hc he o0 o1 o2 o3 go3 ge3 gc0 gc1 gc2 gc3 c0 c1 c2 c3 e3
      obtain ⟨p0, p1, p2, p3, p4, p5, p6, p7⟩ := hO3.out
      go_wp2_with fail
      refine NoPanic.normal ?_
      go_wp2_with fail
      go_roundw
      case rel =>
        refine ⟨k + 1, _, by omega, by go_num, hR3.out.other (by simp) _, hO3.out.set _, hE3.out.other (by dsimp only; omega) _, ?_, by simpa using hsz3, hb3.setCell (by dsimp only; omega) _⟩
        rw [List.take_succ_eq_append_getElem hk2, List.map_append]
        exact hx3'.out.set (by simp) _
      case measure => simp [intOf]; omega
    · have hkl : k = l.length := by omega
      subst hkl
      rw [List.take_length] at hX
      obtain ⟨A3, cap3, rfl, hc1, hc2⟩ := hX.form (n := l.length) (by simp)
      have hO' := Lib.hid hO; have hX' := Lib.hid hX
      obtain ⟨o0, o1, o2, o3, -⟩ := hO
      obtain ⟨f0, f1, f2, f3, z0, z1, z2, z3⟩ := hR
      clear hX
      go_wp2_with fail
      refine bodyPost_ret (v := .agg #[.int .i64 o, .int .i64 n, .string s, .slice A3 l.length cap3]) (by simp [results, Try.results84, go_sem, f0, f1, f2, f3]; done) rfl ⟨⟨A3, cap3, rfl, ?_⟩, ?_⟩
      · exact Rd.keep (Keeps.refl _ _) (fun b hb => ⟨by omega, hb.2⟩) _ _ (rd_node ((((hX'.out.set (by simp) _).set (by simp) _).set (by simp) _).set (by simp) _).rd)
      · exact (((hb.setCell (by simp) _).setCell (by simp) _).setCell (by simp) _).setCell (by simp) _
end Go.Proofs.Ytmhelkhmgbbfhaa

/- Walks: replacing columns, or parameters. -/
namespace Go.Proofs.Ytmhelkhmgbbfhaa
open Go.RowKit Go.Lib

/-- an expression and whether it is one, as a call returns them: in new memory -/
def RetX (w w' : World) (x : Option Ex) (r : Ending) : Prop :=
  ∃ A cap, r = .returned (.tuple #[.agg #[.int .i64 (x.getD zeroE).op, .int .i64 (x.getD zeroE).n, .string (x.getD zeroE).s, .slice A (x.getD zeroE).args.length cap], .bool x.isSome]) ∧
    Rd w' (fun b => w.heap.size ≤ b ∧ b < w'.heap.size) (x.getD zeroE).d [.int .i64 (x.getD zeroE).op, .int .i64 (x.getD zeroE).n, .string (x.getD zeroE).s, .slice A (x.getD zeroE).args.length cap]

theorem RetX.no {f : FuncId} {args : Array Value} {w w0 : World} (h : Calls Try.prog f args w fun r w' => RetX w0 w' none r ∧ Ext w w') :
    Calls Try.prog f args w fun r w' => (∃ A cap, r = .returned (.tuple #[.agg #[.int .i64 0, .int .i64 0, .string ByteArray.empty, .slice A 0 cap], .bool false])) ∧ Ext w w' :=
  h.mono fun _ _ ⟨⟨A, cap, h1, _⟩, he⟩ => ⟨⟨A, cap, h1⟩, he⟩
theorem RetX.yes {f : FuncId} {args : Array Value} {w w0 : World} {x : Ex} (h : Calls Try.prog f args w fun r w' => RetX w0 w' (some x) r ∧ Ext w w') :
    Calls Try.prog f args w fun r w' => (∃ A cap, r = .returned (.tuple #[.agg #[.int .i64 x.op, .int .i64 x.n, .string x.s, .slice A x.args.length cap], .bool true]) ∧ Rd w' (fun b => w0.heap.size ≤ b ∧ b < w'.heap.size) x.d [.int .i64 x.op, .int .i64 x.n, .string x.s, .slice A x.args.length cap]) ∧ Ext w w' := h

theorem exs_at {w : World} {S : Nat → Prop} {L : List Ex} {v : Value} (h : Rd w S (.sl (L.map Ex.d)) [v]) {k : Nat} (hk : k < L.length) : ∃ cap b off, v = .slice (some ⟨b, off, none⟩) L.length cap ∧ ∃ (A1 : Option Addr) (cap1 : Nat), w.cell? ⟨b, off + k * 4, none⟩ = some (.int .i64 L[k].op) ∧ w.cell? ⟨b, off + k * 4 + 1, none⟩ = some (.int .i64 L[k].n) ∧ w.cell? ⟨b, off + k * 4 + 1 + 1, none⟩ = some (.string L[k].s) ∧ w.cell? ⟨b, off + k * 4 + 1 + 1 + 1, none⟩ = some (.slice A1 L[k].args.length cap1) ∧ Rd w S L[k].d [.int .i64 L[k].op, .int .i64 L[k].n, .string L[k].s, .slice A1 L[k].args.length cap1] := by
  obtain ⟨A, cap, b, off, rfl, h1, h2, h3, h4⟩ := Rd.sl_open h
  simp only [List.length_map] at *
  obtain ⟨rfl, -⟩ := h3 (by omega)
  obtain ⟨A1, cap1, b1, off1, c0, c1, c2, c3, hr, -⟩ := Ex.at h4 hk
  exact ⟨cap, b, off, rfl, A1, cap1, c0, c1, c2, c3, hr⟩

theorem Rd.set {w : World} {lo : Nat} {d : D} {cs : List Value} (h : Rd w (fun b => lo ≤ b ∧ b < w.heap.size) d cs) {p : Addr} (hp : p.block < lo) (u : Value) : Rd (w.setCell p u) (fun b => lo ≤ b ∧ b < (w.setCell p u).heap.size) d cs :=
  Rd.keep (fun b hb _ => Below.heap_setCell w p u b (by have := hb.1; omega)) (fun b hb => ⟨hb.1, by have := hb.2; simpa using this⟩) d cs h
theorem Rd.low {w : World} {lo lo' : Nat} {d : D} {cs : List Value} (h : Rd w (fun b => lo ≤ b ∧ b < w.heap.size) d cs) (hl : lo' ≤ lo) : Rd w (fun b => lo' ≤ b ∧ b < w.heap.size) d cs :=
  Rd.keep (Keeps.refl _ _) (fun b hb => ⟨Nat.le_trans hl hb.1, hb.2⟩) d cs h
theorem Rd.up {w w' : World} {lo : Nat} {d : D} {cs : List Value} (h : Rd w (fun b => lo ≤ b ∧ b < w.heap.size) d cs) (he : Ext w w') : Rd w' (fun b => lo ≤ b ∧ b < w'.heap.size) d cs :=
  Rd.keep (Below.keeps he) (fun b hb => ⟨hb.1, Nat.lt_of_lt_of_le hb.2 he.size⟩) d cs h

set_option maxRecDepth 10000 in
set_option maxHeartbeats 4000000 in
theorem put_any (op : Int) (L : List Ex) (hLp : ∀ x ∈ L, parts x ≤ 1000000) (e : Ex) : ∀ (S : Nat → Prop) (cs : List Value) (vL : Value) (w : World), Rd w S e.d cs → Rd w S (.sl (L.map Ex.d)) [vL] → parts e ≤ 1000000 →
    Calls Try.prog 45 #[.agg cs.toArray, .int .i64 op, vL] w fun r w' => RetX w w' (putP op L e) r ∧ Ext w w' := by
  induction e using Ex.ind with | h o n s l ih => ?_
  intro S cs vL w hr hL hpb
  obtain ⟨A, cap, b, off, rfl, hl1, hl2, hl3, hm⟩ := Ex.open hr
  have ih' := Lib.hid ih
  clear ih
  simp only [Ex.args, Ex.op, Ex.n, Ex.s] at hl1 hl2 hl3 hm ⊢
  have hll : l.length ≤ 1000000 := by rw [parts] at hpb; have := partsL_len l; omega
  obtain ⟨AL, capL, bL, offL, rfl, hL1, hL2, -, -⟩ := Rd.sl_open hL
  simp only [List.length_map] at hL1 hL ⊢
  have hl3' := Lib.hid hl3; have hm' := Lib.hid hm; have hL' := Lib.hid hL; have hLp' := Lib.hid hLp
  clear hr hl3 hm hL hLp
  by_cases ho : o = op
  · subst ho
    by_cases hn : 0 ≤ n ∧ n < L.length
    · obtain ⟨j, rfl⟩ := Int.eq_ofNat_of_zero_le hn.1
      have hj : j < L.length := by omega
      have hP := Lib.hid (show putP o L (.mk o j s l) = some L[j] by rw [putP, if_pos rfl, if_neg (by omega), Int.toNat_natCast, List.getElem?_eq_getElem hj])
      obtain ⟨cap2, b2, off2, hv, A1, cap1, c0, c1, c2, c3, hr1⟩ := exs_at hL'.out hj
      cases hv
      have hr1' := Lib.hid hr1
      have hpj := hLp'.out L[j] (List.getElem_mem hj)
      have hj1 : ¬ ((j : Int) < 0) := by omega
      have hj2 : ¬ ((L.length : Int) ≤ (j : Int)) := by omega
      clear hr1
      have d0 : ∀ o1 o2, ((w.alloc o1).alloc o2).cell? _ = some _ := fun o1 o2 => (((Ext.refl w).alloc o1).alloc o2).at c0
      have d1 : ∀ o1 o2, ((w.alloc o1).alloc o2).cell? _ = some _ := fun o1 o2 => (((Ext.refl w).alloc o1).alloc o2).at c1
      have d2 : ∀ o1 o2, ((w.alloc o1).alloc o2).cell? _ = some _ := fun o1 o2 => (((Ext.refl w).alloc o1).alloc o2).at c2
      have d3 : ∀ o1 o2, ((w.alloc o1).alloc o2).cell? _ = some _ := fun o1 o2 => (((Ext.refl w).alloc o1).alloc o2).at c3
      go_enter Try.func45, Try.ntmps45
      go_wp2_with fail
      generalize hWe : World.alloc (World.alloc w _) _ = W
      have hR0 : OutAt W (w.heap.size + 1) 0 0 ByteArray.empty (.slice none 0 0) := by rw [← hWe]; clear hWe; refine ⟨?_, ?_, ?_, ?_, ?_, ?_, ?_, ?_⟩ <;> go_simp <;> rfl
      have hWs : W.heap.size = w.heap.size + 2 := by rw [← hWe]; clear hWe; go_simp
      have hwW : Ext w W := by rw [← hWe]; exact (by repeat' first | exact Ext.refl _ | assumption | apply Ext.alloc | apply Ext.drew | apply Ext.drewN | (refine Ext.trans ?_ (by assumption)))
      clear hWe d0 d1 d2 d3
      refine (clone_any L[j] S _ W (hr1'.out.ext hwW) hpj).mono ?_
      rintro r w2 ⟨⟨A2, cap2, rfl, hc⟩, he⟩
      have hc' := Lib.hid hc
      obtain ⟨f0, f1, f2, f3, z0, z1, z2, z3⟩ := hR0.ext he
      have hw2 : Ext w w2 := hwW.trans he
      clear hc hR0 he
      go_wp2_with fail
      refine bodyPost_ret (v := .tuple #[.agg #[.int .i64 L[j].op, .int .i64 L[j].n, .string L[j].s, .slice A2 L[j].args.length cap2], .bool true]) (by simp [results, Try.results45, go_sem, f0, f1, f2, f3]; done) rfl ⟨?_, (((hw2.setCell (by dsimp only; omega) _).setCell (by dsimp only; omega) _).setCell (by dsimp only; omega) _).setCell (by dsimp only; omega) _⟩
      rw [hP.out]
      exact ⟨A2, cap2, rfl, ((((hc'.out.set (by dsimp only; omega) _).set (by dsimp only; omega) _).set (by dsimp only; omega) _).set (by dsimp only; omega) _).low (by omega)⟩
    · have hP := Lib.hid (show putP o L (.mk o n s l) = none by
        rw [putP, if_pos rfl]
        by_cases h0 : n < 0
        · rw [if_pos h0]
        · rw [if_neg h0, List.getElem?_eq_none (by omega)])
      by_cases hn0 : n < 0
      · clear hn
        go_enter Try.func45, Try.ntmps45
        go_wp2_with fail
        refine bodyPost_ret (v := .tuple #[.agg #[.int .i64 0, .int .i64 0, .string ByteArray.empty, .slice none 0 0], .bool false]) (by simp [results, Try.results45, go_sem]; rfl) rfl ⟨?_, (by repeat' first | exact Ext.refl _ | assumption | apply Ext.alloc | apply Ext.drew | apply Ext.drewN | (refine Ext.trans ?_ (by assumption)))⟩
        rw [hP.out]
        exact ⟨none, 0, rfl, rd_leaf _ _ _ _ _⟩
      · have hn1 : (L.length : Int) ≤ n := by omega
        clear hn
        go_enter Try.func45, Try.ntmps45
        go_wp2_with fail
        refine bodyPost_ret (v := .tuple #[.agg #[.int .i64 0, .int .i64 0, .string ByteArray.empty, .slice none 0 0], .bool false]) (by simp [results, Try.results45, go_sem]; rfl) rfl ⟨?_, (by repeat' first | exact Ext.refl _ | assumption | apply Ext.alloc | apply Ext.drew | apply Ext.drewN | (refine Ext.trans ?_ (by assumption)))⟩
        rw [hP.out]
        exact ⟨none, 0, rfl, rd_leaf _ _ _ _ _⟩
  · have hob : (o == op) = false := by simp [ho]
    have hP := Lib.hid (show putP op L (.mk o n s l) = match putPs op L l with
      | some l' => some (.mk o n s l')
      | none => none by rw [putP, if_neg ho]; cases putPs op L l <;> rfl)
    clear ho
    go_enter Try.func45, Try.ntmps45
    go_wp2_with fail
    generalize hWe : World.alloc (World.alloc (World.alloc w _) _) _ = W
    have hR0 : OutAt W (w.heap.size + 1) 0 0 ByteArray.empty (.slice none 0 0) := by rw [← hWe]; clear hWe; refine ⟨?_, ?_, ?_, ?_, ?_, ?_, ?_, ?_⟩ <;> go_simp <;> rfl
    have hO0 : OutAt W (w.heap.size + 2) o n s (.slice none 0 0) := by rw [← hWe]; clear hWe; refine ⟨?_, ?_, ?_, ?_, ?_, ?_, ?_, ?_⟩ <;> go_simp
    have hWs : W.heap.size = w.heap.size + 3 := by rw [← hWe]; clear hWe; go_simp
    have hwW : Ext w W := by rw [← hWe]; exact (by repeat' first | exact Ext.refl _ | assumption | apply Ext.alloc | apply Ext.drew | apply Ext.drewN | (refine Ext.trans ?_ (by assumption)))
    clear hWe
    have hR1 := Lib.hid hR0; have hO1 := Lib.hid hO0
    clear hR0 hO0
    go_loopw [44] (fun i wr => ∃ (k : Nat) (x : Value) (ys : List Ex), k ≤ l.length ∧ i = .int .i64 k ∧ ys.length = k ∧ Hid (putPs op L (l.take k) = some ys) ∧ OutAt wr (w.heap.size + 1) 0 0 ByteArray.empty (.slice none 0 0) ∧ OutAt wr (w.heap.size + 2) o n s x ∧ OwnE wr (w.heap.size + 3) 25 4 x (ys.map Ex.d) ∧ w.heap.size + 3 ≤ wr.heap.size ∧ Ext w wr) (fun i _ => l.length - (intOf i).toNat)
    case atStart => exact ⟨0, _, [], by omega, rfl, rfl, Lib.hid (by rw [List.take_zero, putPs]), hR1.out, hO1.out, OwnE.nil _ _ _ _, by omega, hwW⟩
    case round =>
      obtain ⟨k, x, ys, hk, rfl, hyl, HY, hR, hO, hX, hsz, hb⟩ := hrel
      by_cases hk2 : k < l.length
      · obtain ⟨rfl, hSb⟩ := hl3'.out (by omega)
        obtain ⟨A1, cap1, b1, off1, c0, c1, c2, c3, hr', -⟩ := Ex.at (hm'.out.ext (fun _ => hSb) hb) hk2
        have hr2 := Lib.hid hr'; have hSb' := Lib.hid hSb; have hR' := Lib.hid hR; have hX' := Lib.hid hX; have hO' := Lib.hid hO
        have hpk : parts l[k] ≤ 1000000 := by rw [parts] at hpb; have := partsL_mem l l[k] (List.getElem_mem hk2); omega
        have hcall := fun w' (h1 : Rd w' S l[k].d [.int .i64 l[k].op, .int .i64 l[k].n, .string l[k].s, .slice A1 l[k].args.length cap1]) h2 => ih'.out l[k] (List.getElem_mem hk2) S [.int .i64 l[k].op, .int .i64 l[k].n, .string l[k].s, .slice A1 l[k].args.length cap1] (.slice AL L.length capL) w' h1 h2 hpk
        clear hr' hSb hR hX hO
        cases hpk2 : putP op L l[k] with
        | none =>
          have hP2 := Lib.hid (show putP op L (.mk o n s l) = none by rw [hP.out, putPs_none l (List.getElem_mem hk2) hpk2])
          rw [hpk2] at hcall
          have hcall' := Lib.hid hcall
          obtain ⟨f0, f1, f2, f3, z0, z1, z2, z3⟩ := hR'.out
          clear hcall hP hpk2
          go_wp2_with fail
          refine (RetX.no (hcall'.out _ (hr2.out.ext (by repeat' first | exact Ext.refl _ | assumption | apply Ext.alloc | apply Ext.drew | apply Ext.drewN | (refine Ext.trans ?_ (by assumption)))) (hL'.out.ext (by repeat' first | exact Ext.refl _ | assumption | apply Ext.alloc | apply Ext.drew | apply Ext.drewN | (refine Ext.trans ?_ (by assumption)))))).mono ?_
          rintro r w2 ⟨⟨A2, cap2, rfl⟩, he⟩
          have he2 : Ext wr w2 := ((Ext.refl wr).alloc _).trans he
          have hlt := World.block_lt_of_cell? wr _ f0
          replace f0 := he2.at f0
          replace f1 := he2.at f1
          replace f2 := he2.at f2
          replace f3 := he2.at f3
          replace z0 := (he2.frozens _ _ hlt).trans z0
          replace z1 := (he2.frozens _ _ hlt).trans z1
          replace z2 := (he2.frozens _ _ hlt).trans z2
          replace z3 := (he2.frozens _ _ hlt).trans z3
          have hw2 : Ext w w2 := hb.trans he2
          clear he
          have q0 : ∀ o1, (w2.alloc o1).cell? _ = some _ := fun o1 => ((Ext.refl w2).alloc o1).at f0
          have q1 : ∀ o1, (w2.alloc o1).cell? _ = some _ := fun o1 => ((Ext.refl w2).alloc o1).at f1
          have q2 : ∀ o1, (w2.alloc o1).cell? _ = some _ := fun o1 => ((Ext.refl w2).alloc o1).at f2
          have q3 : ∀ o1, (w2.alloc o1).cell? _ = some _ := fun o1 => ((Ext.refl w2).alloc o1).at f3
          have hlt2 := World.block_lt_of_cell? w2 _ f0
          have y0 : ∀ o1, (w2.alloc o1).frozen? _ = false := fun o1 => (((Ext.refl w2).alloc o1).frozens _ _ hlt2).trans z0
          have y1 : ∀ o1, (w2.alloc o1).frozen? _ = false := fun o1 => (((Ext.refl w2).alloc o1).frozens _ _ hlt2).trans z1
          have y2 : ∀ o1, (w2.alloc o1).frozen? _ = false := fun o1 => (((Ext.refl w2).alloc o1).frozens _ _ hlt2).trans z2
          have y3 : ∀ o1, (w2.alloc o1).frozen? _ = false := fun o1 => (((Ext.refl w2).alloc o1).frozens _ _ hlt2).trans z3
          go_wp2_with fail
          refine bodyPost_ret (v := .tuple #[.agg #[.int .i64 0, .int .i64 0, .string ByteArray.empty, .slice none 0 0], .bool false]) (by simp [results, Try.results45, go_sem, f0, f1, f2, f3, q0, q1, q2, q3, hlt2, Nat.ne_of_lt hlt2]; rfl) rfl ⟨?_, ((((hw2.setCell (by dsimp only; omega) _).setCell (by dsimp only; omega) _).setCell (by dsimp only; omega) _).setCell (by dsimp only; omega) _).alloc _⟩
          rw [hP2.out]
          exact ⟨none, 0, rfl, rd_leaf _ _ _ _ _⟩
        | some y =>
          have HY2 := Lib.hid (show putPs op L (l.take (k + 1)) = some (ys ++ [y]) by rw [List.take_succ_eq_append_getElem hk2]; exact putPs_snoc hpk2 _ HY.out)
          rw [hpk2] at hcall
          have hcall' := Lib.hid hcall
          have hR2 := hR'.out; have hO2 := hO'.out
          clear hcall hpk2 HY
          go_wp2_with fail
          refine (RetX.yes (hcall'.out _ (hr2.out.ext (by repeat' first | exact Ext.refl _ | assumption | apply Ext.alloc | apply Ext.drew | apply Ext.drewN | (refine Ext.trans ?_ (by assumption)))) (hL'.out.ext (by repeat' first | exact Ext.refl _ | assumption | apply Ext.alloc | apply Ext.drew | apply Ext.drewN | (refine Ext.trans ?_ (by assumption)))))).mono ?_
          rintro r w2 ⟨⟨A2, cap2, rfl, hc⟩, he⟩
          have he2 : Ext wr w2 := ((Ext.refl wr).alloc _).trans he
          replace hR2 := hR2.ext he2
          replace hO2 := hO2.ext he2
          have hXE := hX'.out.ext he2
          have hdd : ∀ o1, Rd (w2.alloc o1) (fun b => w.heap.size + 3 ≤ b ∧ b < (w2.alloc o1).heap.size ∧ some b ≠ x.ownBlock) y.d [.int .i64 y.op, .int .i64 y.n, .string y.s, .slice A2 y.args.length cap2] := fun o1 =>
            Rd.keep (Below.keeps ((Ext.refl w2).alloc o1)) (fun b hb => ⟨by have := hb.1; simp at this; omega, Nat.lt_of_lt_of_le hb.2 (by simp), fun hx => by have := hX'.out.own b hx.symm; have h1 := hb.1; simp at h1; omega⟩) _ _ hc
          have hXE' := fun o1 : Obj => hXE.ext ((Ext.refl w2).alloc o1)
          have hne : ∀ b, b < w.heap.size + 3 → some b ≠ x.ownBlock := fun b hb => hX'.out.ne hb
          have hxo : ∀ b, x.ownBlock = some b → w.heap.size + 3 ≤ b := fun b hb => (hX'.out.own b hb).1
          have hsz2 : w.heap.size + 3 ≤ w2.heap.size := Nat.le_trans hsz he2.size
          have hb2 : Ext w w2 := hb.trans he2
          have hdd2 := Lib.hid hdd; have hXE2 := Lib.hid hXE'; have hne2 := Lib.hid hne; have hO3 := Lib.hid hO2; have hR3 := Lib.hid hR2; have hxo2 := Lib.hid hxo
          clear hc he hdd hXE hXE' hne hO2 hR2 hxo
          obtain ⟨o0, o1, o2, o3, -⟩ := hO3.out
          have o3' : ∀ o1, (w2.alloc o1).cell? _ = some _ := fun o1 => ((Ext.refl w2).alloc o1).at o3
          go_wp2_with (at_builtin; refine wp_append_e _ _ _ rfl _ _ _ rfl (w.heap.size + 3) 25 4 56 _ Try.underlying23 infoEx rfl (by decide) (by decide) x _ rfl (hXE2.out _) _ rfl (by go_simp) rfl (by intro u hu; simp at hu; rcases hu with rfl | rfl | rfl | rfl <;> rfl) y.d (hdd2.out _) (by simp only [List.length_map]; omega) (by simp; omega) ?_; intro v' w3 hx3 hg hnn; (obtain ⟨A3, cap3, rfl, -, -⟩ := hx3.form (n := k + 1) (by simp; omega)); have hO4 := Lib.hid ((hO3.out.ext ((Ext.refl w2).alloc _)).grown hg (hne2.out _ (by omega))); have hR4 := Lib.hid ((hR3.out.ext ((Ext.refl w2).alloc _)).grown hg (hne2.out _ (by omega))); have hb4 : Ext w w3 := Below.grown (hb2.alloc _) hg (by simp; omega) (fun k hk => by have := hxo2.out k hk; omega); have hsz4 : w.heap.size + 3 ≤ w3.heap.size := Nat.le_trans (by simp; omega) hg.size; have hx4 := Lib.hid hx3; clear hx3 hg hnn; (obtain ⟨p0, p1, p2, p3, p4, p5, p6, p7⟩ := hO4.out))
          go_roundw
          case rel =>
            refine ⟨k + 1, _, ys ++ [y], by omega, by go_num, by simp [hyl], HY2, hR4.out.other (by simp) _, hO4.out.set _, ?_, by simpa using hsz4, hb4.setCell (by dsimp only; omega) _⟩
            rw [List.map_append]
            exact hx4.out.set (by simp) _
          case measure => simp [intOf]; omega
      · have hkl : k = l.length := by omega
        rw [hkl] at HY hyl
        subst hkl
        rw [List.take_length] at HY
        have hP2 := Lib.hid (show putP op L (.mk o n s l) = some (.mk o n s ys) by rw [hP.out, HY.out])
        obtain ⟨A3, cap3, rfl, hc1, hc2⟩ := hX.form (n := ys.length) (by simp)
        have hX' := Lib.hid hX
        obtain ⟨o0, o1, o2, o3, -⟩ := hO
        obtain ⟨f0, f1, f2, f3, z0, z1, z2, z3⟩ := hR
        have hyl' := Lib.hid hyl
        clear hX hP hyl
        go_wp2_with fail
        refine bodyPost_ret (v := .tuple #[.agg #[.int .i64 o, .int .i64 n, .string s, .slice A3 ys.length cap3], .bool true]) (by simp [results, Try.results45, go_sem, f0, f1, f2, f3]; done) rfl ⟨?_, (((hb.setCell (by dsimp only; omega) _).setCell (by dsimp only; omega) _).setCell (by dsimp only; omega) _).setCell (by dsimp only; omega) _⟩
        rw [hP2.out]
        exact ⟨A3, cap3, rfl, (rd_node ((((hX'.out.set (by dsimp only; omega) _).set (by dsimp only; omega) _).set (by dsimp only; omega) _).set (by dsimp only; omega) _).rd).low (by omega)⟩
set_option maxRecDepth 10000 in
set_option maxHeartbeats 4000000 in
theorem rput_any (op : Int) (L : List Ex) (hLp : ∀ x ∈ L, parts x ≤ 1000000) (e : Ex) : ∀ (S : Nat → Prop) (cs : List Value) (vL : Value) (w : World), Rd w S e.d cs → Rd w S (.sl (L.map Ex.d)) [vL] → parts e ≤ 1000000 →
    Calls Try.prog 47 #[.agg cs.toArray, .int .i64 op, vL] w fun r w' => RetX w w' (putP op L e) r ∧ Ext w w' := by
  induction e using Ex.ind with | h o n s l ih => ?_
  intro S cs vL w hr hL hpb
  obtain ⟨A, cap, b, off, rfl, hl1, hl2, hl3, hm⟩ := Ex.open hr
  have ih' := Lib.hid ih
  clear ih
  simp only [Ex.args, Ex.op, Ex.n, Ex.s] at hl1 hl2 hl3 hm ⊢
  have hll : l.length ≤ 1000000 := by rw [parts] at hpb; have := partsL_len l; omega
  obtain ⟨AL, capL, bL, offL, rfl, hL1, hL2, -, -⟩ := Rd.sl_open hL
  simp only [List.length_map] at hL1 hL ⊢
  have hl3' := Lib.hid hl3; have hm' := Lib.hid hm; have hL' := Lib.hid hL; have hLp' := Lib.hid hLp
  clear hr hl3 hm hL hLp
  by_cases ho : o = op
  · subst ho
    by_cases hn : 0 ≤ n ∧ n < L.length
    · obtain ⟨j, rfl⟩ := Int.eq_ofNat_of_zero_le hn.1
      have hj : j < L.length := by omega
      have hP := Lib.hid (show putP o L (.mk o j s l) = some L[j] by rw [putP, if_pos rfl, if_neg (by omega), Int.toNat_natCast, List.getElem?_eq_getElem hj])
      obtain ⟨cap2, b2, off2, hv, A1, cap1, c0, c1, c2, c3, hr1⟩ := exs_at hL'.out hj
      cases hv
      have hr1' := Lib.hid hr1
      have hpj := hLp'.out L[j] (List.getElem_mem hj)
      have hj1 : ¬ ((j : Int) < 0) := by omega
      have hj2 : ¬ ((L.length : Int) ≤ (j : Int)) := by omega
      clear hr1
      have d0 : ∀ o1 o2, ((w.alloc o1).alloc o2).cell? _ = some _ := fun o1 o2 => (((Ext.refl w).alloc o1).alloc o2).at c0
      have d1 : ∀ o1 o2, ((w.alloc o1).alloc o2).cell? _ = some _ := fun o1 o2 => (((Ext.refl w).alloc o1).alloc o2).at c1
      have d2 : ∀ o1 o2, ((w.alloc o1).alloc o2).cell? _ = some _ := fun o1 o2 => (((Ext.refl w).alloc o1).alloc o2).at c2
      have d3 : ∀ o1 o2, ((w.alloc o1).alloc o2).cell? _ = some _ := fun o1 o2 => (((Ext.refl w).alloc o1).alloc o2).at c3
      go_enter Try.func47, Try.ntmps47
      go_wp2_with fail
      generalize hWe : World.alloc (World.alloc w _) _ = W
      have hR0 : OutAt W (w.heap.size + 1) 0 0 ByteArray.empty (.slice none 0 0) := by rw [← hWe]; clear hWe; refine ⟨?_, ?_, ?_, ?_, ?_, ?_, ?_, ?_⟩ <;> go_simp <;> rfl
      have hWs : W.heap.size = w.heap.size + 2 := by rw [← hWe]; clear hWe; go_simp
      have hwW : Ext w W := by rw [← hWe]; exact (by repeat' first | exact Ext.refl _ | assumption | apply Ext.alloc | apply Ext.drew | apply Ext.drewN | (refine Ext.trans ?_ (by assumption)))
      clear hWe d0 d1 d2 d3
      refine (rclone_any L[j] S _ W (hr1'.out.ext hwW) hpj).mono ?_
      rintro r w2 ⟨⟨A2, cap2, rfl, hc⟩, he⟩
      have hc' := Lib.hid hc
      obtain ⟨f0, f1, f2, f3, z0, z1, z2, z3⟩ := hR0.ext he
      have hw2 : Ext w w2 := hwW.trans he
      clear hc hR0 he
      go_wp2_with fail
      refine bodyPost_ret (v := .tuple #[.agg #[.int .i64 L[j].op, .int .i64 L[j].n, .string L[j].s, .slice A2 L[j].args.length cap2], .bool true]) (by simp [results, Try.results47, go_sem, f0, f1, f2, f3]; done) rfl ⟨?_, (((hw2.setCell (by dsimp only; omega) _).setCell (by dsimp only; omega) _).setCell (by dsimp only; omega) _).setCell (by dsimp only; omega) _⟩
      rw [hP.out]
      exact ⟨A2, cap2, rfl, ((((hc'.out.set (by dsimp only; omega) _).set (by dsimp only; omega) _).set (by dsimp only; omega) _).set (by dsimp only; omega) _).low (by omega)⟩
    · have hP := Lib.hid (show putP o L (.mk o n s l) = none by
        rw [putP, if_pos rfl]
        by_cases h0 : n < 0
        · rw [if_pos h0]
        · rw [if_neg h0, List.getElem?_eq_none (by omega)])
      by_cases hn0 : n < 0
      · clear hn
        go_enter Try.func47, Try.ntmps47
        go_wp2_with fail
        refine bodyPost_ret (v := .tuple #[.agg #[.int .i64 0, .int .i64 0, .string ByteArray.empty, .slice none 0 0], .bool false]) (by simp [results, Try.results47, go_sem]; rfl) rfl ⟨?_, (by repeat' first | exact Ext.refl _ | assumption | apply Ext.alloc | apply Ext.drew | apply Ext.drewN | (refine Ext.trans ?_ (by assumption)))⟩
        rw [hP.out]
        exact ⟨none, 0, rfl, rd_leaf _ _ _ _ _⟩
      · have hn1 : (L.length : Int) ≤ n := by omega
        clear hn
        go_enter Try.func47, Try.ntmps47
        go_wp2_with fail
        refine bodyPost_ret (v := .tuple #[.agg #[.int .i64 0, .int .i64 0, .string ByteArray.empty, .slice none 0 0], .bool false]) (by simp [results, Try.results47, go_sem]; rfl) rfl ⟨?_, (by repeat' first | exact Ext.refl _ | assumption | apply Ext.alloc | apply Ext.drew | apply Ext.drewN | (refine Ext.trans ?_ (by assumption)))⟩
        rw [hP.out]
        exact ⟨none, 0, rfl, rd_leaf _ _ _ _ _⟩
  · have hob : (o == op) = false := by simp [ho]
    have hP := Lib.hid (show putP op L (.mk o n s l) = match putPs op L l with
      | some l' => some (.mk o n s l')
      | none => none by rw [putP, if_neg ho]; cases putPs op L l <;> rfl)
    clear ho
    go_enter Try.func47, Try.ntmps47
    go_wp2_with fail
    generalize hWe : World.alloc (World.alloc (World.alloc w _) _) _ = W
    have hR0 : OutAt W (w.heap.size + 1) 0 0 ByteArray.empty (.slice none 0 0) := by rw [← hWe]; clear hWe; refine ⟨?_, ?_, ?_, ?_, ?_, ?_, ?_, ?_⟩ <;> go_simp <;> rfl
    have hO0 : OutAt W (w.heap.size + 2) o n s (.slice none 0 0) := by rw [← hWe]; clear hWe; refine ⟨?_, ?_, ?_, ?_, ?_, ?_, ?_, ?_⟩ <;> go_simp
    have hE0 : OutAt W w.heap.size o n s (.slice A l.length cap) := by rw [← hWe]; clear hWe; refine ⟨?_, ?_, ?_, ?_, ?_, ?_, ?_, ?_⟩ <;> go_simp
    have hWs : W.heap.size = w.heap.size + 3 := by rw [← hWe]; clear hWe; go_simp
    have hwW : Ext w W := by rw [← hWe]; exact (by repeat' first | exact Ext.refl _ | assumption | apply Ext.alloc | apply Ext.drew | apply Ext.drewN | (refine Ext.trans ?_ (by assumption)))
    clear hWe
    have hR1 := Lib.hid hR0; have hO1 := Lib.hid hO0; have hE1 := Lib.hid hE0
    clear hR0 hO0 hE0
    go_loopw [9] (fun i wr => ∃ (k : Nat) (x : Value) (ys : List Ex), k ≤ l.length ∧ i = .int .i64 k ∧ ys.length = k ∧ Hid (putPs op L (l.take k) = some ys) ∧ OutAt wr (w.heap.size + 1) 0 0 ByteArray.empty (.slice none 0 0) ∧ OutAt wr (w.heap.size + 2) o n s x ∧ OutAt wr w.heap.size o n s (.slice A l.length cap) ∧ OwnE wr (w.heap.size + 3) 25 4 x (ys.map Ex.d) ∧ w.heap.size + 3 ≤ wr.heap.size ∧ Ext w wr) (fun i _ => l.length - (intOf i).toNat)
    case atStart => exact ⟨0, _, [], by omega, rfl, rfl, Lib.hid (by rw [List.take_zero, putPs]), hR1.out, hO1.out, hE1.out, OwnE.nil _ _ _ _, by omega, hwW⟩
    case round =>
      obtain ⟨k, x, ys, hk, rfl, hyl, HY, hR, hO, hE, hX, hsz, hb⟩ := hrel
      have hE' := Lib.hid hE
      obtain ⟨-, -, -, e3, -⟩ := hE
      by_cases hk2 : k < l.length
      · obtain ⟨rfl, hSb⟩ := hl3'.out (by omega)
        obtain ⟨A1, cap1, b1, off1, c0, c1, c2, c3, hr', -⟩ := Ex.at (hm'.out.ext (fun _ => hSb) hb) hk2
        have hr2 := Lib.hid hr'; have hSb' := Lib.hid hSb; have hR' := Lib.hid hR; have hX' := Lib.hid hX; have hO' := Lib.hid hO
        have hpk : parts l[k] ≤ 1000000 := by rw [parts] at hpb; have := partsL_mem l l[k] (List.getElem_mem hk2); omega
        have hcall := fun w' (h1 : Rd w' S l[k].d [.int .i64 l[k].op, .int .i64 l[k].n, .string l[k].s, .slice A1 l[k].args.length cap1]) h2 => ih'.out l[k] (List.getElem_mem hk2) S [.int .i64 l[k].op, .int .i64 l[k].n, .string l[k].s, .slice A1 l[k].args.length cap1] (.slice AL L.length capL) w' h1 h2 hpk
        clear hr' hSb hR hX hO
        cases hpk2 : putP op L l[k] with
        | none =>
          have hP2 := Lib.hid (show putP op L (.mk o n s l) = none by rw [hP.out, putPs_none l (List.getElem_mem hk2) hpk2])
          rw [hpk2] at hcall
          have hcall' := Lib.hid hcall
          obtain ⟨f0, f1, f2, f3, z0, z1, z2, z3⟩ := hR'.out
          have hk3 : (k : Int) < (l.length : Int) := by omega
          clear hcall hP hpk2
          go_wp2_with fail
          refine (RetX.no (hcall'.out _ (hr2.out.ext (by repeat' first | exact Ext.refl _ | assumption | apply Ext.alloc | apply Ext.drew | apply Ext.drewN | (refine Ext.trans ?_ (by assumption)))) (hL'.out.ext (by repeat' first | exact Ext.refl _ | assumption | apply Ext.alloc | apply Ext.drew | apply Ext.drewN | (refine Ext.trans ?_ (by assumption)))))).mono ?_
          rintro r w2 ⟨⟨A2, cap2, rfl⟩, he⟩
          have he2 : Ext wr w2 := he
          have hlt := World.block_lt_of_cell? wr _ f0
          replace f0 := he2.at f0
          replace f1 := he2.at f1
          replace f2 := he2.at f2
          replace f3 := he2.at f3
          clear e3
          replace z0 := (he2.frozens _ _ hlt).trans z0
          replace z1 := (he2.frozens _ _ hlt).trans z1
          replace z2 := (he2.frozens _ _ hlt).trans z2
          replace z3 := (he2.frozens _ _ hlt).trans z3
          have hw2 : Ext w w2 := hb.trans he2
          clear he
          have q0 : ∀ o1, (w2.alloc o1).cell? _ = some _ := fun o1 => ((Ext.refl w2).alloc o1).at f0
          have q1 : ∀ o1, (w2.alloc o1).cell? _ = some _ := fun o1 => ((Ext.refl w2).alloc o1).at f1
          have q2 : ∀ o1, (w2.alloc o1).cell? _ = some _ := fun o1 => ((Ext.refl w2).alloc o1).at f2
          have q3 : ∀ o1, (w2.alloc o1).cell? _ = some _ := fun o1 => ((Ext.refl w2).alloc o1).at f3
          have hlt2 := World.block_lt_of_cell? w2 _ f0
          have y0 : ∀ o1, (w2.alloc o1).frozen? _ = false := fun o1 => (((Ext.refl w2).alloc o1).frozens _ _ hlt2).trans z0
          have y1 : ∀ o1, (w2.alloc o1).frozen? _ = false := fun o1 => (((Ext.refl w2).alloc o1).frozens _ _ hlt2).trans z1
          have y2 : ∀ o1, (w2.alloc o1).frozen? _ = false := fun o1 => (((Ext.refl w2).alloc o1).frozens _ _ hlt2).trans z2
          have y3 : ∀ o1, (w2.alloc o1).frozen? _ = false := fun o1 => (((Ext.refl w2).alloc o1).frozens _ _ hlt2).trans z3
          go_wp2_with fail
          refine bodyPost_ret (v := .tuple #[.agg #[.int .i64 0, .int .i64 0, .string ByteArray.empty, .slice none 0 0], .bool false]) (by simp [results, Try.results47, go_sem, f0, f1, f2, f3, q0, q1, q2, q3, hlt2, Nat.ne_of_lt hlt2]; rfl) rfl ⟨?_, ((((hw2.setCell (by dsimp only; omega) _).setCell (by dsimp only; omega) _).setCell (by dsimp only; omega) _).setCell (by dsimp only; omega) _).alloc _⟩
          rw [hP2.out]
          exact ⟨none, 0, rfl, rd_leaf _ _ _ _ _⟩
        | some y =>
          have HY2 := Lib.hid (show putPs op L (l.take (k + 1)) = some (ys ++ [y]) by rw [List.take_succ_eq_append_getElem hk2]; exact putPs_snoc hpk2 _ HY.out)
          rw [hpk2] at hcall
          have hcall' := Lib.hid hcall
          have hR2 := hR'.out; have hO2 := hO'.out
          have hk3 : (k : Int) < (l.length : Int) := by omega
          clear hcall hpk2 HY
          go_wp2_with fail
          refine (RetX.yes (hcall'.out _ (hr2.out.ext (by repeat' first | exact Ext.refl _ | assumption | apply Ext.alloc | apply Ext.drew | apply Ext.drewN | (refine Ext.trans ?_ (by assumption)))) (hL'.out.ext (by repeat' first | exact Ext.refl _ | assumption | apply Ext.alloc | apply Ext.drew | apply Ext.drewN | (refine Ext.trans ?_ (by assumption)))))).mono ?_
          rintro r w2 ⟨⟨A2, cap2, rfl, hc⟩, he⟩
          have he2 : Ext wr w2 := he
          replace hR2 := hR2.ext he2
          replace hO2 := hO2.ext he2
          have hXE := hX'.out.ext he2
          have hdd : ∀ o1, Rd (w2.alloc o1) (fun b => w.heap.size + 3 ≤ b ∧ b < (w2.alloc o1).heap.size ∧ some b ≠ x.ownBlock) y.d [.int .i64 y.op, .int .i64 y.n, .string y.s, .slice A2 y.args.length cap2] := fun o1 =>
            Rd.keep (Below.keeps ((Ext.refl w2).alloc o1)) (fun b hb => ⟨by have := hb.1; omega, Nat.lt_of_lt_of_le hb.2 (by simp), fun hx => by have := hX'.out.own b hx.symm; have h1 := hb.1; omega⟩) _ _ hc
          have hXE' := fun o1 : Obj => hXE.ext ((Ext.refl w2).alloc o1)
          have hne : ∀ b, b < w.heap.size + 3 → some b ≠ x.ownBlock := fun b hb => hX'.out.ne hb
          have hxo : ∀ b, x.ownBlock = some b → w.heap.size + 3 ≤ b := fun b hb => (hX'.out.own b hb).1
          have hsz2 : w.heap.size + 3 ≤ w2.heap.size := Nat.le_trans hsz he2.size
          have hb2 : Ext w w2 := hb.trans he2
          have hdd2 := Lib.hid hdd; have hXE2 := Lib.hid hXE'; have hne2 := Lib.hid hne; have hO3 := Lib.hid hO2; have hE3 := Lib.hid (hE'.out.ext he2); have hR3 := Lib.hid hR2; have hxo2 := Lib.hid hxo
          clear hc he hdd hXE hXE' hne hO2 hR2 hxo
          obtain ⟨o0, o1, o2, o3, -⟩ := hO3.out
          have o3' : ∀ o1, (w2.alloc o1).cell? _ = some _ := fun o1 => ((Ext.refl w2).alloc o1).at o3
          go_wp2_with (at_builtin; refine wp_append_e _ _ _ rfl _ _ _ rfl (w.heap.size + 3) 25 4 56 _ Try.underlying23 infoEx rfl (by decide) (by decide) x _ rfl (hXE2.out _) _ rfl (by go_simp) rfl (by intro u hu; simp at hu; rcases hu with rfl | rfl | rfl | rfl <;> rfl) y.d (hdd2.out _) (by simp only [List.length_map]; omega) (by simp; omega) ?_; intro v' w3 hx3 hg hnn; (obtain ⟨A3, cap3, rfl, -, -⟩ := hx3.form (n := k + 1) (by simp; omega)); have hO4 := Lib.hid ((hO3.out.ext ((Ext.refl w2).alloc _)).grown hg (hne2.out _ (by omega))); have hR4 := Lib.hid ((hR3.out.ext ((Ext.refl w2).alloc _)).grown hg (hne2.out _ (by omega))); have hE4 := Lib.hid ((hE3.out.ext ((Ext.refl w2).alloc _)).grown hg (hne2.out _ (by omega))); have hb4 : Ext w w3 := Below.grown (hb2.alloc _) hg (by simp; omega) (fun k hk => by have := hxo2.out k hk; omega); have hsz4 : w.heap.size + 3 ≤ w3.heap.size := Nat.le_trans (by simp; omega) hg.size; have hx4 := Lib.hid hx3; clear hx3 hg hnn; (obtain ⟨p0, p1, p2, p3, p4, p5, p6, p7⟩ := hO4.out))
          go_roundw
          case rel =>
            refine ⟨k + 1, _, ys ++ [y], by omega, by go_num, by simp [hyl], HY2, hR4.out.other (by simp) _, hO4.out.set _, hE4.out.other (by dsimp only; omega) _, ?_, by simpa using hsz4, hb4.setCell (by dsimp only; omega) _⟩
            rw [List.map_append]
            exact hx4.out.set (by simp) _
          case measure => simp [intOf]; omega
      · have hkl : k = l.length := by omega
        rw [hkl] at HY hyl
        subst hkl
        rw [List.take_length] at HY
        have hP2 := Lib.hid (show putP op L (.mk o n s l) = some (.mk o n s ys) by rw [hP.out, HY.out])
        obtain ⟨A3, cap3, rfl, hc1, hc2⟩ := hX.form (n := ys.length) (by simp)
        have hX' := Lib.hid hX
        obtain ⟨o0, o1, o2, o3, -⟩ := hO
        obtain ⟨f0, f1, f2, f3, z0, z1, z2, z3⟩ := hR
        have hyl' := Lib.hid hyl
        clear hX hP hyl
        go_wp2_with fail
        refine bodyPost_ret (v := .tuple #[.agg #[.int .i64 o, .int .i64 n, .string s, .slice A3 ys.length cap3], .bool true]) (by simp [results, Try.results47, go_sem, f0, f1, f2, f3]; done) rfl ⟨?_, (((hb.setCell (by dsimp only; omega) _).setCell (by dsimp only; omega) _).setCell (by dsimp only; omega) _).setCell (by dsimp only; omega) _⟩
        rw [hP2.out]
        exact ⟨A3, cap3, rfl, (rd_node ((((hX'.out.set (by dsimp only; omega) _).set (by dsimp only; omega) _).set (by dsimp only; omega) _).set (by dsimp only; omega) _).rd).low (by omega)⟩
end Go.Proofs.Ytmhelkhmgbbfhaa

/- What Inline returns has the value of the expression. -/
namespace Go.Proofs.Ytmhelkhmgbbfhaa
open Go.RowKit Go.Lib

def someV (k : Int) : Val := if k = 0 then numV 0 else if k = 1 then textV ByteArray.empty else boolV false
theorem someV_k {k : Int} (h : kindB k = true) : (someV k).k = k := by
  unfold kindB at h
  unfold someV
  simp only [Bool.or_eq_true, decide_eq_true_eq, Bool.and_eq_true] at h
  by_cases h0 : k = 0
  · rw [if_pos h0, h0]; rfl
  · by_cases h1 : k = 1
    · rw [if_neg h0, if_pos h1, h1]; rfl
    · rw [if_neg h0, if_neg h1]; show (2 : Int) = k; omega
theorem someV_sound (k : Int) : soundV (someV k) := by
  unfold someV
  split
  · exact sound_num 0
  · split
    · exact sound_text (by decide)
    · exact sound_bool false
theorem inlB_ok {F : List Fn} {time : Int} (hOk : ∀ i, i < F.length → okF F i = true) : ∀ k, k ≤ F.length → InlOk F time F.length (inlB [] (F.take k))
  | 0, _ => by
    intro i b h
    rw [List.take_zero, inlB] at h
    simp at h
  | k + 1, hk => by
    have hkF : k < F.length := hk
    have ih := inlB_ok (time := time) hOk k (Nat.le_of_lt hkF)
    have hlen : (inlB [] (F.take k)).length = k := by rw [inlB_len]; simp; omega
    intro i b h
    rw [List.take_succ_eq_append_getElem hkF, inlB_snoc] at h
    generalize inlB [] (F.take k) = bs at ih hlen h
    by_cases hi : i < bs.length
    · rw [List.getElem?_append_left hi] at h
      exact ih i b h
    · have hik : i = k := by
        have := (List.getElem?_eq_some_iff.1 h).1
        simp at this
        omega
      subst hik
      rw [List.getElem?_append_right (by omega), hlen] at h
      simp at h
      have hf : F[i]? = some F[i] := List.getElem?_eq_getElem (by omega)
      have hb := okF_body (hOk i (by omega)) hf
      have hpk : ∀ k ∈ F[i].params, kindB k = true := by
        have := hOk i (by omega)
        unfold okF at this
        rw [hf] at this
        simp only [Bool.and_eq_true, List.all_eq_true] at this
        exact this.1.1
      have main := fun (call : Int → List Val → Val) (P : List Val) (h1 : P.map Val.k = F[i].params) (h2 : ∀ v ∈ P, soundV v) => inl_sem (time := time) (M := F.length) (m := i) (R := []) (P := P) hOk ih hlen.symm (by omega) rfl h1 (by simp) h2 call F[i].body hb h
      refine ⟨F[i], hf, ?_, fun call P h1 h2 => ?_⟩
      · refine (main (fun _ _ => zeroV) (F[i].params.map someV) ?_ ?_).1
        · rw [List.map_map]
          conv => rhs; rw [← List.map_id F[i].params]
          exact List.map_congr_left fun k hk => someV_k (hpk k hk)
        · intro v hv
          obtain ⟨k, -, rfl⟩ := List.mem_map.1 hv
          exact someV_sound k
      · rw [(main call P h1 h2).2]
        obtain ⟨j, hj⟩ : ∃ j, F.length = j + 1 := ⟨F.length - 1, by omega⟩
        rw [ev_fuel hOk i F[i].body (by omega) hb, hj]
        simp only [callN, Int.toNat_natCast, hf]
        rw [ev_fuel hOk i F[i].body (M := j) (by omega) hb]
theorem inline_sem {F : List Fn} {time : Int} {R : List Val} {e y : Ex} {t : Int} (hOk : ∀ i, i < F.length → okF F i = true) (hR : ∀ v ∈ R, soundV v) (ht : ty F (R.map Val.k) [] e = some t) (hy : inlineP F e = some y) :
    ty [] (R.map Val.k) [] y = some t ∧ evalP [] time R y = evalP F time R e := by
  have hy' : inlE (inlB [] F) e = some y := by
    unfold inlineP at hy
    split at hy
    · rename_i x hx
      split at hy
      · cases hy
      · cases hy; exact hx
    · cases hy
  have hok := inlB_ok (time := time) hOk F.length (Nat.le_refl _)
  rw [List.take_length] at hok
  exact inl_sem (M := F.length) (m := F.length) (P := []) hOk hok (by rw [inlB_len]; simp) (Nat.le_refl _) rfl rfl hR (by simp) _ e (by rw [List.take_length]; exact ht) hy'
end Go.Proofs.Ytmhelkhmgbbfhaa
