/- Walks: replacing columns, or parameters. -/
import Derived.Test.YtmhelkhmgbbfhaaRows
import Derived.Test.YtmhelkhmgbbfhaaGa1
import Derived.Test.YtmhelkhmgbbfhaaGa2
namespace Go.Proofs.Ytmhelkhmgbbfhaa
open Go.RowKit Go.Lib

def zeroE : Ex := .mk 0 0 ByteArray.empty []
mutual
def putP (op : Int) (L : List Ex) : Ex → Option Ex
  | .mk o n s l => if o = op then (if n < 0 then none else L[n.toNat]?) else match putPs op L l with
    | some l' => some (.mk o n s l')
    | none => none
def putPs (op : Int) (L : List Ex) : List Ex → Option (List Ex)
  | [] => some []
  | e :: l => match putP op L e with
    | some x => match putPs op L l with
      | some xs => some (x :: xs)
      | none => none
    | none => none
end
theorem putPs_len {op : Int} {L : List Ex} : ∀ (l : List Ex) {ys : List Ex}, putPs op L l = some ys → ys.length = l.length
  | [], ys, h => by rw [putPs] at h; cases h; rfl
  | e :: l, ys, h => by
    rw [putPs] at h
    cases he : putP op L e with
    | none => rw [he] at h; cases h
    | some x =>
      rw [he] at h
      cases hl : putPs op L l with
      | none => rw [hl] at h; cases h
      | some xs => rw [hl] at h; cases h; simp [putPs_len l hl]
theorem putPs_snoc {op : Int} {L : List Ex} {e x : Ex} (hx : putP op L e = some x) : ∀ (l : List Ex) {ys : List Ex}, putPs op L l = some ys → putPs op L (l ++ [e]) = some (ys ++ [x])
  | [], ys, h => by rw [putPs] at h; cases h; simp only [List.nil_append, putPs, hx]
  | a :: l, ys, h => by
    rw [putPs] at h
    cases he : putP op L a with
    | none => rw [he] at h; cases h
    | some z =>
      rw [he] at h
      cases hl : putPs op L l with
      | none => rw [hl] at h; cases h
      | some xs =>
        rw [hl] at h; cases h
        rw [List.cons_append, putPs, he, putPs_snoc hx l hl]; rfl
theorem putPs_none {op : Int} {L : List Ex} : ∀ (l : List Ex) {e : Ex}, e ∈ l → putP op L e = none → putPs op L l = none
  | [], _, h, _ => by cases h
  | a :: l, e, h, hn => by
    rw [putPs]
    rcases List.mem_cons.1 h with rfl | h
    · rw [hn]
    · rw [putPs_none l h hn]
      cases putP op L a <;> rfl

/-- an expression and whether it is one, as a call returns them: in new memory -/
def RetX (w w' : World) (x : Option Ex) (r : Ending) : Prop :=
  ∃ A cap, r = .returned (.tuple #[.agg #[.int .i64 (x.getD zeroE).op, .int .i64 (x.getD zeroE).n, .string (x.getD zeroE).s, .slice A (x.getD zeroE).args.length cap], .bool x.isSome]) ∧
    Rd w' (fun b => w.heap.size ≤ b ∧ b < w'.heap.size) (x.getD zeroE).d [.int .i64 (x.getD zeroE).op, .int .i64 (x.getD zeroE).n, .string (x.getD zeroE).s, .slice A (x.getD zeroE).args.length cap]

theorem RetX.no {f : FuncId} {args : Array Value} {w w0 : World} (h : Calls Try.prog f args w fun r w' => RetX w0 w' none r ∧ Ext w w') :
    Calls Try.prog f args w fun r w' => (∃ A cap, r = .returned (.tuple #[.agg #[.int .i64 0, .int .i64 0, .string ByteArray.empty, .slice A 0 cap], .bool false])) ∧ Ext w w' :=
  h.mono fun _ _ ⟨⟨A, cap, h1, _⟩, he⟩ => ⟨⟨A, cap, h1⟩, he⟩
theorem RetX.yes {f : FuncId} {args : Array Value} {w w0 : World} {x : Ex} (h : Calls Try.prog f args w fun r w' => RetX w0 w' (some x) r ∧ Ext w w') :
    Calls Try.prog f args w fun r w' => (∃ A cap, r = .returned (.tuple #[.agg #[.int .i64 x.op, .int .i64 x.n, .string x.s, .slice A x.args.length cap], .bool true]) ∧ Rd w' (fun b => w0.heap.size ≤ b ∧ b < w'.heap.size) x.d [.int .i64 x.op, .int .i64 x.n, .string x.s, .slice A x.args.length cap]) ∧ Ext w w' := h

theorem exs_at {w : World} {S : Nat → Prop} {L : List Ex} {v : Value} (h : Rd w S (.sl (L.map Ex.d)) [v]) {k : Nat} (hk : k < L.length) : ∃ cap b off, v = .slice (some ⟨b, off, none⟩) L.length cap ∧ ∃ (A1 : Option Addr) (cap1 : Nat), w.cell? ⟨b, off + k * 4, none⟩ = some (.int .i64 L[k].op) ∧ w.cell? ⟨b, off + k * 4 + 1, none⟩ = some (.int .i64 L[k].n) ∧ w.cell? ⟨b, off + k * 4 + 1 + 1, none⟩ = some (.string L[k].s) ∧ w.cell? ⟨b, off + k * 4 + 1 + 1 + 1, none⟩ = some (.slice A1 L[k].args.length cap1) ∧ Rd w S L[k].d [.int .i64 L[k].op, .int .i64 L[k].n, .string L[k].s, .slice A1 L[k].args.length cap1] := by
  obtain ⟨A, cap, b, off, rfl, h1, h2, h3, h4⟩ := Rd.sl_open h
  simp only [List.length_map] at *
  obtain ⟨rfl, -⟩ := h3 (by omega)
  obtain ⟨A1, cap1, b1, off1, c0, c1, c2, c3, hr, -⟩ := Ex.at h4 hk
  exact ⟨cap, b, off, rfl, A1, cap1, c0, c1, c2, c3, hr⟩

theorem Rd.set {w : World} {lo : Nat} {d : D} {cs : List Value} (h : Rd w (fun b => lo ≤ b ∧ b < w.heap.size) d cs) {p : Addr} (hp : p.block < lo) (u : Value) : Rd (w.setCell p u) (fun b => lo ≤ b ∧ b < (w.setCell p u).heap.size) d cs :=
  Rd.keep (fun b hb _ => Below.heap_setCell w p u b (by have := hb.1; omega)) (fun b hb => ⟨hb.1, by have := hb.2; simpa using this⟩) d cs h
theorem Rd.low {w : World} {lo lo' : Nat} {d : D} {cs : List Value} (h : Rd w (fun b => lo ≤ b ∧ b < w.heap.size) d cs) (hl : lo' ≤ lo) : Rd w (fun b => lo' ≤ b ∧ b < w.heap.size) d cs :=
  Rd.keep (Keeps.refl _ _) (fun b hb => ⟨Nat.le_trans hl hb.1, hb.2⟩) d cs h
theorem Rd.up {w w' : World} {lo : Nat} {d : D} {cs : List Value} (h : Rd w (fun b => lo ≤ b ∧ b < w.heap.size) d cs) (he : Ext w w') : Rd w' (fun b => lo ≤ b ∧ b < w'.heap.size) d cs :=
  Rd.keep (Below.keeps he) (fun b hb => ⟨hb.1, Nat.lt_of_lt_of_le hb.2 he.size⟩) d cs h

set_option maxRecDepth 10000 in
set_option maxHeartbeats 4000000 in
theorem put_any (op : Int) (L : List Ex) (hLp : ∀ x ∈ L, parts x ≤ 1000000) (e : Ex) : ∀ (S : Nat → Prop) (cs : List Value) (vL : Value) (w : World), Rd w S e.d cs → Rd w S (.sl (L.map Ex.d)) [vL] → parts e ≤ 1000000 →
    Calls Try.prog 45 #[.agg cs.toArray, .int .i64 op, vL] w fun r w' => RetX w w' (putP op L e) r ∧ Ext w w' := by
  induction e using Ex.ind with | h o n s l ih => ?_
  intro S cs vL w hr hL hpb
  obtain ⟨A, cap, b, off, rfl, hl1, hl2, hl3, hm⟩ := Ex.open hr
  have ih' := Lib.hid ih
  clear ih
  simp only [Ex.args, Ex.op, Ex.n, Ex.s] at hl1 hl2 hl3 hm ⊢
  have hll : l.length ≤ 1000000 := by rw [parts] at hpb; have := partsL_len l; omega
  obtain ⟨AL, capL, bL, offL, rfl, hL1, hL2, -, -⟩ := Rd.sl_open hL
  simp only [List.length_map] at hL1 hL ⊢
  have hl3' := Lib.hid hl3; have hm' := Lib.hid hm; have hL' := Lib.hid hL; have hLp' := Lib.hid hLp
  clear hr hl3 hm hL hLp
  by_cases ho : o = op
  · subst ho
    by_cases hn : 0 ≤ n ∧ n < L.length
    · obtain ⟨j, rfl⟩ := Int.eq_ofNat_of_zero_le hn.1
      have hj : j < L.length := by omega
      have hP := Lib.hid (show putP o L (.mk o j s l) = some L[j] by rw [putP, if_pos rfl, if_neg (by omega), Int.toNat_natCast, List.getElem?_eq_getElem hj])
      obtain ⟨cap2, b2, off2, hv, A1, cap1, c0, c1, c2, c3, hr1⟩ := exs_at hL'.out hj
      cases hv
      have hr1' := Lib.hid hr1
      have hpj := hLp'.out L[j] (List.getElem_mem hj)
      have hj1 : ¬ ((j : Int) < 0) := by omega
      have hj2 : ¬ ((L.length : Int) ≤ (j : Int)) := by omega
      clear hr1
      have d0 : ∀ o1 o2, ((w.alloc o1).alloc o2).cell? _ = some _ := fun o1 o2 => (((Ext.refl w).alloc o1).alloc o2).at c0
      have d1 : ∀ o1 o2, ((w.alloc o1).alloc o2).cell? _ = some _ := fun o1 o2 => (((Ext.refl w).alloc o1).alloc o2).at c1
      have d2 : ∀ o1 o2, ((w.alloc o1).alloc o2).cell? _ = some _ := fun o1 o2 => (((Ext.refl w).alloc o1).alloc o2).at c2
      have d3 : ∀ o1 o2, ((w.alloc o1).alloc o2).cell? _ = some _ := fun o1 o2 => (((Ext.refl w).alloc o1).alloc o2).at c3
      go_enter Try.func45, Try.ntmps45
      go_wp2_with fail
      generalize hWe : World.alloc (World.alloc w _) _ = W
      have hR0 : OutAt W (w.heap.size + 1) 0 0 ByteArray.empty (.slice none 0 0) := by rw [← hWe]; clear hWe; refine ⟨?_, ?_, ?_, ?_, ?_, ?_, ?_, ?_⟩ <;> go_simp <;> rfl
      have hWs : W.heap.size = w.heap.size + 2 := by rw [← hWe]; clear hWe; go_simp
      have hwW : Ext w W := by rw [← hWe]; exact (by repeat' first | exact Ext.refl _ | assumption | apply Ext.alloc | apply Ext.drew | apply Ext.drewN | (refine Ext.trans ?_ (by assumption)))
      clear hWe d0 d1 d2 d3
      refine (clone_any L[j] S _ W (hr1'.out.ext hwW) hpj).mono ?_
      rintro r w2 ⟨⟨A2, cap2, rfl, hc⟩, he⟩
      have hc' := Lib.hid hc
      obtain ⟨f0, f1, f2, f3, z0, z1, z2, z3⟩ := hR0.ext he
      have hw2 : Ext w w2 := hwW.trans he
      clear hc hR0 he
      go_wp2_with fail
      refine bodyPost_ret (v := .tuple #[.agg #[.int .i64 L[j].op, .int .i64 L[j].n, .string L[j].s, .slice A2 L[j].args.length cap2], .bool true]) (by simp [results, Try.results45, go_sem, f0, f1, f2, f3]; done) rfl ⟨?_, (((hw2.setCell (by dsimp only; omega) _).setCell (by dsimp only; omega) _).setCell (by dsimp only; omega) _).setCell (by dsimp only; omega) _⟩
      rw [hP.out]
      exact ⟨A2, cap2, rfl, ((((hc'.out.set (by dsimp only; omega) _).set (by dsimp only; omega) _).set (by dsimp only; omega) _).set (by dsimp only; omega) _).low (by omega)⟩
    · have hP := Lib.hid (show putP o L (.mk o n s l) = none by
        rw [putP, if_pos rfl]
        by_cases h0 : n < 0
        · rw [if_pos h0]
        · rw [if_neg h0, List.getElem?_eq_none (by omega)])
      by_cases hn0 : n < 0
      · clear hn
        go_enter Try.func45, Try.ntmps45
        go_wp2_with fail
        refine bodyPost_ret (v := .tuple #[.agg #[.int .i64 0, .int .i64 0, .string ByteArray.empty, .slice none 0 0], .bool false]) (by simp [results, Try.results45, go_sem]; rfl) rfl ⟨?_, (by repeat' first | exact Ext.refl _ | assumption | apply Ext.alloc | apply Ext.drew | apply Ext.drewN | (refine Ext.trans ?_ (by assumption)))⟩
        rw [hP.out]
        exact ⟨none, 0, rfl, rd_leaf _ _ _ _ _⟩
      · have hn1 : (L.length : Int) ≤ n := by omega
        clear hn
        go_enter Try.func45, Try.ntmps45
        go_wp2_with fail
        refine bodyPost_ret (v := .tuple #[.agg #[.int .i64 0, .int .i64 0, .string ByteArray.empty, .slice none 0 0], .bool false]) (by simp [results, Try.results45, go_sem]; rfl) rfl ⟨?_, (by repeat' first | exact Ext.refl _ | assumption | apply Ext.alloc | apply Ext.drew | apply Ext.drewN | (refine Ext.trans ?_ (by assumption)))⟩
        rw [hP.out]
        exact ⟨none, 0, rfl, rd_leaf _ _ _ _ _⟩
  · have hob : (o == op) = false := by simp [ho]
    have hP := Lib.hid (show putP op L (.mk o n s l) = match putPs op L l with
      | some l' => some (.mk o n s l')
      | none => none by rw [putP, if_neg ho])
    clear ho
    go_enter Try.func45, Try.ntmps45
    go_wp2_with fail
    generalize hWe : World.alloc (World.alloc (World.alloc w _) _) _ = W
    have hR0 : OutAt W (w.heap.size + 1) 0 0 ByteArray.empty (.slice none 0 0) := by rw [← hWe]; clear hWe; refine ⟨?_, ?_, ?_, ?_, ?_, ?_, ?_, ?_⟩ <;> go_simp <;> rfl
    have hO0 : OutAt W (w.heap.size + 2) o n s (.slice none 0 0) := by rw [← hWe]; clear hWe; refine ⟨?_, ?_, ?_, ?_, ?_, ?_, ?_, ?_⟩ <;> go_simp
    have hWs : W.heap.size = w.heap.size + 3 := by rw [← hWe]; clear hWe; go_simp
    have hwW : Ext w W := by rw [← hWe]; exact (by repeat' first | exact Ext.refl _ | assumption | apply Ext.alloc | apply Ext.drew | apply Ext.drewN | (refine Ext.trans ?_ (by assumption)))
    clear hWe
    have hR1 := Lib.hid hR0; have hO1 := Lib.hid hO0
    clear hR0 hO0
    go_loopw [44] (fun i wr => ∃ (k : Nat) (x : Value) (ys : List Ex), k ≤ l.length ∧ i = .int .i64 k ∧ ys.length = k ∧ Hid (putPs op L (l.take k) = some ys) ∧ OutAt wr (w.heap.size + 1) 0 0 ByteArray.empty (.slice none 0 0) ∧ OutAt wr (w.heap.size + 2) o n s x ∧ OwnE wr (w.heap.size + 3) 25 4 x (ys.map Ex.d) ∧ w.heap.size + 3 ≤ wr.heap.size ∧ Ext w wr) (fun i _ => l.length - (intOf i).toNat)
    case atStart => exact ⟨0, _, [], by omega, rfl, rfl, Lib.hid (by rw [List.take_zero, putPs]), hR1.out, hO1.out, OwnE.nil _ _ _ _, by omega, hwW⟩
    case round =>
      obtain ⟨k, x, ys, hk, rfl, hyl, HY, hR, hO, hX, hsz, hb⟩ := hrel
      by_cases hk2 : k < l.length
      · obtain ⟨rfl, hSb⟩ := hl3'.out (by omega)
        obtain ⟨A1, cap1, b1, off1, c0, c1, c2, c3, hr', -⟩ := Ex.at (hm'.out.ext (fun _ => hSb) hb) hk2
        have hr2 := Lib.hid hr'; have hSb' := Lib.hid hSb; have hR' := Lib.hid hR; have hX' := Lib.hid hX; have hO' := Lib.hid hO
        have hpk : parts l[k] ≤ 1000000 := by rw [parts] at hpb; have := partsL_mem l l[k] (List.getElem_mem hk2); omega
        have hcall := fun w' (h1 : Rd w' S l[k].d [.int .i64 l[k].op, .int .i64 l[k].n, .string l[k].s, .slice A1 l[k].args.length cap1]) h2 => ih'.out l[k] (List.getElem_mem hk2) S [.int .i64 l[k].op, .int .i64 l[k].n, .string l[k].s, .slice A1 l[k].args.length cap1] (.slice AL L.length capL) w' h1 h2 hpk
        clear hr' hSb hR hX hO
        cases hpk2 : putP op L l[k] with
        | none =>
          have hP2 := Lib.hid (show putP op L (.mk o n s l) = none by rw [hP.out, putPs_none l (List.getElem_mem hk2) hpk2])
          rw [hpk2] at hcall
          have hcall' := Lib.hid hcall
          obtain ⟨f0, f1, f2, f3, z0, z1, z2, z3⟩ := hR'.out
          clear hcall hP hpk2
          go_wp2_with fail
          refine (RetX.no (hcall'.out _ (hr2.out.ext (by repeat' first | exact Ext.refl _ | assumption | apply Ext.alloc | apply Ext.drew | apply Ext.drewN | (refine Ext.trans ?_ (by assumption)))) (hL'.out.ext (by repeat' first | exact Ext.refl _ | assumption | apply Ext.alloc | apply Ext.drew | apply Ext.drewN | (refine Ext.trans ?_ (by assumption)))))).mono ?_
          rintro r w2 ⟨⟨A2, cap2, rfl⟩, he⟩
          have he2 : Ext wr w2 := ((Ext.refl wr).alloc _).trans he
          have hlt := World.block_lt_of_cell? wr _ f0
          replace f0 := he2.at f0
          replace f1 := he2.at f1
          replace f2 := he2.at f2
          replace f3 := he2.at f3
          replace z0 := (he2.frozens _ _ hlt).trans z0
          replace z1 := (he2.frozens _ _ hlt).trans z1
          replace z2 := (he2.frozens _ _ hlt).trans z2
          replace z3 := (he2.frozens _ _ hlt).trans z3
          have hw2 : Ext w w2 := hb.trans he2
          clear he
          have q0 : ∀ o1, (w2.alloc o1).cell? _ = some _ := fun o1 => ((Ext.refl w2).alloc o1).at f0
          have q1 : ∀ o1, (w2.alloc o1).cell? _ = some _ := fun o1 => ((Ext.refl w2).alloc o1).at f1
          have q2 : ∀ o1, (w2.alloc o1).cell? _ = some _ := fun o1 => ((Ext.refl w2).alloc o1).at f2
          have q3 : ∀ o1, (w2.alloc o1).cell? _ = some _ := fun o1 => ((Ext.refl w2).alloc o1).at f3
          have hlt2 := World.block_lt_of_cell? w2 _ f0
          have y0 : ∀ o1, (w2.alloc o1).frozen? _ = false := fun o1 => (((Ext.refl w2).alloc o1).frozens _ _ hlt2).trans z0
          have y1 : ∀ o1, (w2.alloc o1).frozen? _ = false := fun o1 => (((Ext.refl w2).alloc o1).frozens _ _ hlt2).trans z1
          have y2 : ∀ o1, (w2.alloc o1).frozen? _ = false := fun o1 => (((Ext.refl w2).alloc o1).frozens _ _ hlt2).trans z2
          have y3 : ∀ o1, (w2.alloc o1).frozen? _ = false := fun o1 => (((Ext.refl w2).alloc o1).frozens _ _ hlt2).trans z3
          go_wp2_with fail
          refine bodyPost_ret (v := .tuple #[.agg #[.int .i64 0, .int .i64 0, .string ByteArray.empty, .slice none 0 0], .bool false]) (by simp [results, Try.results45, go_sem, f0, f1, f2, f3, q0, q1, q2, q3, hlt2, Nat.ne_of_lt hlt2]; rfl) rfl ⟨?_, ((((hw2.setCell (by dsimp only; omega) _).setCell (by dsimp only; omega) _).setCell (by dsimp only; omega) _).setCell (by dsimp only; omega) _).alloc _⟩
          rw [hP2.out]
          exact ⟨none, 0, rfl, rd_leaf _ _ _ _ _⟩
        | some y =>
          have HY2 := Lib.hid (show putPs op L (l.take (k + 1)) = some (ys ++ [y]) by rw [List.take_succ_eq_append_getElem hk2]; exact putPs_snoc hpk2 _ HY.out)
          rw [hpk2] at hcall
          have hcall' := Lib.hid hcall
          have hR2 := hR'.out; have hO2 := hO'.out
          clear hcall hpk2 HY
          go_wp2_with fail
          refine (RetX.yes (hcall'.out _ (hr2.out.ext (by repeat' first | exact Ext.refl _ | assumption | apply Ext.alloc | apply Ext.drew | apply Ext.drewN | (refine Ext.trans ?_ (by assumption)))) (hL'.out.ext (by repeat' first | exact Ext.refl _ | assumption | apply Ext.alloc | apply Ext.drew | apply Ext.drewN | (refine Ext.trans ?_ (by assumption)))))).mono ?_
          rintro r w2 ⟨⟨A2, cap2, rfl, hc⟩, he⟩
          have he2 : Ext wr w2 := ((Ext.refl wr).alloc _).trans he
          replace hR2 := hR2.ext he2
          replace hO2 := hO2.ext he2
          have hXE := hX'.out.ext he2
          have hdd : ∀ o1, Rd (w2.alloc o1) (fun b => w.heap.size + 3 ≤ b ∧ b < (w2.alloc o1).heap.size ∧ some b ≠ x.ownBlock) y.d [.int .i64 y.op, .int .i64 y.n, .string y.s, .slice A2 y.args.length cap2] := fun o1 =>
            Rd.keep (Below.keeps ((Ext.refl w2).alloc o1)) (fun b hb => ⟨by have := hb.1; simp at this; omega, Nat.lt_of_lt_of_le hb.2 (by simp), fun hx => by have := hX'.out.own b hx.symm; have h1 := hb.1; simp at h1; omega⟩) _ _ hc
          have hXE' := fun o1 : Obj => hXE.ext ((Ext.refl w2).alloc o1)
          have hne : ∀ b, b < w.heap.size + 3 → some b ≠ x.ownBlock := fun b hb => hX'.out.ne hb
          have hxo : ∀ b, x.ownBlock = some b → w.heap.size + 3 ≤ b := fun b hb => (hX'.out.own b hb).1
          have hsz2 : w.heap.size + 3 ≤ w2.heap.size := Nat.le_trans hsz he2.size
          have hb2 : Ext w w2 := hb.trans he2
          have hdd2 := Lib.hid hdd; have hXE2 := Lib.hid hXE'; have hne2 := Lib.hid hne; have hO3 := Lib.hid hO2; have hR3 := Lib.hid hR2; have hxo2 := Lib.hid hxo
          clear hc he hdd hXE hXE' hne hO2 hR2 hxo
          obtain ⟨o0, o1, o2, o3, -⟩ := hO3.out
          have o3' : ∀ o1, (w2.alloc o1).cell? _ = some _ := fun o1 => ((Ext.refl w2).alloc o1).at o3
          go_wp2_with (at_builtin; refine wp_append_e _ _ _ rfl _ _ _ rfl (w.heap.size + 3) 25 4 56 _ Try.underlying23 infoEx rfl (by decide) (by decide) x _ rfl (hXE2.out _) _ rfl (by go_simp) rfl (by intro u hu; simp at hu; rcases hu with rfl | rfl | rfl | rfl <;> rfl) y.d (hdd2.out _) (by simp only [List.length_map]; omega) (by simp; omega) ?_; intro v' w3 hx3 hg hnn; (obtain ⟨A3, cap3, rfl, -, -⟩ := hx3.form (n := k + 1) (by simp; omega)); have hO4 := Lib.hid ((hO3.out.ext ((Ext.refl w2).alloc _)).grown hg (hne2.out _ (by omega))); have hR4 := Lib.hid ((hR3.out.ext ((Ext.refl w2).alloc _)).grown hg (hne2.out _ (by omega))); have hb4 : Ext w w3 := Below.grown (hb2.alloc _) hg (by simp; omega) (fun k hk => by have := hxo2.out k hk; omega); have hsz4 : w.heap.size + 3 ≤ w3.heap.size := Nat.le_trans (by simp; omega) hg.size; have hx4 := Lib.hid hx3; clear hx3 hg hnn; (obtain ⟨p0, p1, p2, p3, p4, p5, p6, p7⟩ := hO4.out))
          go_roundw
          case rel =>
            refine ⟨k + 1, _, ys ++ [y], by omega, by go_num, by simp [hyl], HY2, hR4.out.other (by simp) _, hO4.out.set _, ?_, by simpa using hsz4, hb4.setCell (by dsimp only; omega) _⟩
            rw [List.map_append]
            exact hx4.out.set (by simp) _
          case measure => simp [intOf]; omega
      · have hkl : k = l.length := by omega
        rw [hkl] at HY hyl
        subst hkl
        rw [List.take_length] at HY
        have hP2 := Lib.hid (show putP op L (.mk o n s l) = some (.mk o n s ys) by rw [hP.out, HY.out])
        obtain ⟨A3, cap3, rfl, hc1, hc2⟩ := hX.form (n := ys.length) (by simp)
        have hX' := Lib.hid hX
        obtain ⟨o0, o1, o2, o3, -⟩ := hO
        obtain ⟨f0, f1, f2, f3, z0, z1, z2, z3⟩ := hR
        have hyl' := Lib.hid hyl
        clear hX hP hyl
        go_wp2_with fail
        refine bodyPost_ret (v := .tuple #[.agg #[.int .i64 o, .int .i64 n, .string s, .slice A3 ys.length cap3], .bool true]) (by simp [results, Try.results45, go_sem, f0, f1, f2, f3]; done) rfl ⟨?_, (((hb.setCell (by dsimp only; omega) _).setCell (by dsimp only; omega) _).setCell (by dsimp only; omega) _).setCell (by dsimp only; omega) _⟩
        rw [hP2.out]
        exact ⟨A3, cap3, rfl, (rd_node ((((hX'.out.set (by dsimp only; omega) _).set (by dsimp only; omega) _).set (by dsimp only; omega) _).set (by dsimp only; omega) _).rd).low (by omega)⟩
set_option maxRecDepth 10000 in
set_option maxHeartbeats 4000000 in
theorem rput_any (op : Int) (L : List Ex) (hLp : ∀ x ∈ L, parts x ≤ 1000000) (e : Ex) : ∀ (S : Nat → Prop) (cs : List Value) (vL : Value) (w : World), Rd w S e.d cs → Rd w S (.sl (L.map Ex.d)) [vL] → parts e ≤ 1000000 →
    Calls Try.prog 47 #[.agg cs.toArray, .int .i64 op, vL] w fun r w' => RetX w w' (putP op L e) r ∧ Ext w w' := by
  induction e using Ex.ind with | h o n s l ih => ?_
  intro S cs vL w hr hL hpb
  obtain ⟨A, cap, b, off, rfl, hl1, hl2, hl3, hm⟩ := Ex.open hr
  have ih' := Lib.hid ih
  clear ih
  simp only [Ex.args, Ex.op, Ex.n, Ex.s] at hl1 hl2 hl3 hm ⊢
  have hll : l.length ≤ 1000000 := by rw [parts] at hpb; have := partsL_len l; omega
  obtain ⟨AL, capL, bL, offL, rfl, hL1, hL2, -, -⟩ := Rd.sl_open hL
  simp only [List.length_map] at hL1 hL ⊢
  have hl3' := Lib.hid hl3; have hm' := Lib.hid hm; have hL' := Lib.hid hL; have hLp' := Lib.hid hLp
  clear hr hl3 hm hL hLp
  by_cases ho : o = op
  · subst ho
    by_cases hn : 0 ≤ n ∧ n < L.length
    · obtain ⟨j, rfl⟩ := Int.eq_ofNat_of_zero_le hn.1
      have hj : j < L.length := by omega
      have hP := Lib.hid (show putP o L (.mk o j s l) = some L[j] by rw [putP, if_pos rfl, if_neg (by omega), Int.toNat_natCast, List.getElem?_eq_getElem hj])
      obtain ⟨cap2, b2, off2, hv, A1, cap1, c0, c1, c2, c3, hr1⟩ := exs_at hL'.out hj
      cases hv
      have hr1' := Lib.hid hr1
      have hpj := hLp'.out L[j] (List.getElem_mem hj)
      have hj1 : ¬ ((j : Int) < 0) := by omega
      have hj2 : ¬ ((L.length : Int) ≤ (j : Int)) := by omega
      clear hr1
      have d0 : ∀ o1 o2, ((w.alloc o1).alloc o2).cell? _ = some _ := fun o1 o2 => (((Ext.refl w).alloc o1).alloc o2).at c0
      have d1 : ∀ o1 o2, ((w.alloc o1).alloc o2).cell? _ = some _ := fun o1 o2 => (((Ext.refl w).alloc o1).alloc o2).at c1
      have d2 : ∀ o1 o2, ((w.alloc o1).alloc o2).cell? _ = some _ := fun o1 o2 => (((Ext.refl w).alloc o1).alloc o2).at c2
      have d3 : ∀ o1 o2, ((w.alloc o1).alloc o2).cell? _ = some _ := fun o1 o2 => (((Ext.refl w).alloc o1).alloc o2).at c3
      go_enter Try.func47, Try.ntmps47
      go_wp2_with fail
      generalize hWe : World.alloc (World.alloc w _) _ = W
      have hR0 : OutAt W (w.heap.size + 1) 0 0 ByteArray.empty (.slice none 0 0) := by rw [← hWe]; clear hWe; refine ⟨?_, ?_, ?_, ?_, ?_, ?_, ?_, ?_⟩ <;> go_simp <;> rfl
      have hWs : W.heap.size = w.heap.size + 2 := by rw [← hWe]; clear hWe; go_simp
      have hwW : Ext w W := by rw [← hWe]; exact (by repeat' first | exact Ext.refl _ | assumption | apply Ext.alloc | apply Ext.drew | apply Ext.drewN | (refine Ext.trans ?_ (by assumption)))
      clear hWe d0 d1 d2 d3
      refine (rclone_any L[j] S _ W (hr1'.out.ext hwW) hpj).mono ?_
      rintro r w2 ⟨⟨A2, cap2, rfl, hc⟩, he⟩
      have hc' := Lib.hid hc
      obtain ⟨f0, f1, f2, f3, z0, z1, z2, z3⟩ := hR0.ext he
      have hw2 : Ext w w2 := hwW.trans he
      clear hc hR0 he
      go_wp2_with fail
      refine bodyPost_ret (v := .tuple #[.agg #[.int .i64 L[j].op, .int .i64 L[j].n, .string L[j].s, .slice A2 L[j].args.length cap2], .bool true]) (by simp [results, Try.results47, go_sem, f0, f1, f2, f3]; done) rfl ⟨?_, (((hw2.setCell (by dsimp only; omega) _).setCell (by dsimp only; omega) _).setCell (by dsimp only; omega) _).setCell (by dsimp only; omega) _⟩
      rw [hP.out]
      exact ⟨A2, cap2, rfl, ((((hc'.out.set (by dsimp only; omega) _).set (by dsimp only; omega) _).set (by dsimp only; omega) _).set (by dsimp only; omega) _).low (by omega)⟩
    · have hP := Lib.hid (show putP o L (.mk o n s l) = none by
        rw [putP, if_pos rfl]
        by_cases h0 : n < 0
        · rw [if_pos h0]
        · rw [if_neg h0, List.getElem?_eq_none (by omega)])
      by_cases hn0 : n < 0
      · clear hn
        go_enter Try.func47, Try.ntmps47
        go_wp2_with fail
        refine bodyPost_ret (v := .tuple #[.agg #[.int .i64 0, .int .i64 0, .string ByteArray.empty, .slice none 0 0], .bool false]) (by simp [results, Try.results47, go_sem]; rfl) rfl ⟨?_, (by repeat' first | exact Ext.refl _ | assumption | apply Ext.alloc | apply Ext.drew | apply Ext.drewN | (refine Ext.trans ?_ (by assumption)))⟩
        rw [hP.out]
        exact ⟨none, 0, rfl, rd_leaf _ _ _ _ _⟩
      · have hn1 : (L.length : Int) ≤ n := by omega
        clear hn
        go_enter Try.func47, Try.ntmps47
        go_wp2_with fail
        refine bodyPost_ret (v := .tuple #[.agg #[.int .i64 0, .int .i64 0, .string ByteArray.empty, .slice none 0 0], .bool false]) (by simp [results, Try.results47, go_sem]; rfl) rfl ⟨?_, (by repeat' first | exact Ext.refl _ | assumption | apply Ext.alloc | apply Ext.drew | apply Ext.drewN | (refine Ext.trans ?_ (by assumption)))⟩
        rw [hP.out]
        exact ⟨none, 0, rfl, rd_leaf _ _ _ _ _⟩
  · have hob : (o == op) = false := by simp [ho]
    have hP := Lib.hid (show putP op L (.mk o n s l) = match putPs op L l with
      | some l' => some (.mk o n s l')
      | none => none by rw [putP, if_neg ho])
    clear ho
    go_enter Try.func47, Try.ntmps47
    go_wp2_with fail
    generalize hWe : World.alloc (World.alloc (World.alloc w _) _) _ = W
    have hR0 : OutAt W (w.heap.size + 1) 0 0 ByteArray.empty (.slice none 0 0) := by rw [← hWe]; clear hWe; refine ⟨?_, ?_, ?_, ?_, ?_, ?_, ?_, ?_⟩ <;> go_simp <;> rfl
    have hO0 : OutAt W (w.heap.size + 2) o n s (.slice none 0 0) := by rw [← hWe]; clear hWe; refine ⟨?_, ?_, ?_, ?_, ?_, ?_, ?_, ?_⟩ <;> go_simp
    have hE0 : OutAt W w.heap.size o n s (.slice A l.length cap) := by rw [← hWe]; clear hWe; refine ⟨?_, ?_, ?_, ?_, ?_, ?_, ?_, ?_⟩ <;> go_simp
    have hWs : W.heap.size = w.heap.size + 3 := by rw [← hWe]; clear hWe; go_simp
    have hwW : Ext w W := by rw [← hWe]; exact (by repeat' first | exact Ext.refl _ | assumption | apply Ext.alloc | apply Ext.drew | apply Ext.drewN | (refine Ext.trans ?_ (by assumption)))
    clear hWe
    have hR1 := Lib.hid hR0; have hO1 := Lib.hid hO0; have hE1 := Lib.hid hE0
    clear hR0 hO0 hE0
    go_loopw [9] (fun i wr => ∃ (k : Nat) (x : Value) (ys : List Ex), k ≤ l.length ∧ i = .int .i64 k ∧ ys.length = k ∧ Hid (putPs op L (l.take k) = some ys) ∧ OutAt wr (w.heap.size + 1) 0 0 ByteArray.empty (.slice none 0 0) ∧ OutAt wr (w.heap.size + 2) o n s x ∧ OutAt wr w.heap.size o n s (.slice A l.length cap) ∧ OwnE wr (w.heap.size + 3) 25 4 x (ys.map Ex.d) ∧ w.heap.size + 3 ≤ wr.heap.size ∧ Ext w wr) (fun i _ => l.length - (intOf i).toNat)
    case atStart => exact ⟨0, _, [], by omega, rfl, rfl, Lib.hid (by rw [List.take_zero, putPs]), hR1.out, hO1.out, hE1.out, OwnE.nil _ _ _ _, by omega, hwW⟩
    case round =>
      obtain ⟨k, x, ys, hk, rfl, hyl, HY, hR, hO, hE, hX, hsz, hb⟩ := hrel
      have hE' := Lib.hid hE
      obtain ⟨-, -, -, e3, -⟩ := hE
      by_cases hk2 : k < l.length
      · obtain ⟨rfl, hSb⟩ := hl3'.out (by omega)
        obtain ⟨A1, cap1, b1, off1, c0, c1, c2, c3, hr', -⟩ := Ex.at (hm'.out.ext (fun _ => hSb) hb) hk2
        have hr2 := Lib.hid hr'; have hSb' := Lib.hid hSb; have hR' := Lib.hid hR; have hX' := Lib.hid hX; have hO' := Lib.hid hO
        have hpk : parts l[k] ≤ 1000000 := by rw [parts] at hpb; have := partsL_mem l l[k] (List.getElem_mem hk2); omega
        have hcall := fun w' (h1 : Rd w' S l[k].d [.int .i64 l[k].op, .int .i64 l[k].n, .string l[k].s, .slice A1 l[k].args.length cap1]) h2 => ih'.out l[k] (List.getElem_mem hk2) S [.int .i64 l[k].op, .int .i64 l[k].n, .string l[k].s, .slice A1 l[k].args.length cap1] (.slice AL L.length capL) w' h1 h2 hpk
        clear hr' hSb hR hX hO
        cases hpk2 : putP op L l[k] with
        | none =>
          have hP2 := Lib.hid (show putP op L (.mk o n s l) = none by rw [hP.out, putPs_none l (List.getElem_mem hk2) hpk2])
          rw [hpk2] at hcall
          have hcall' := Lib.hid hcall
          obtain ⟨f0, f1, f2, f3, z0, z1, z2, z3⟩ := hR'.out
          have hk3 : (k : Int) < (l.length : Int) := by omega
          clear hcall hP hpk2
          go_wp2_with fail
          refine (RetX.no (hcall'.out _ (hr2.out.ext (by repeat' first | exact Ext.refl _ | assumption | apply Ext.alloc | apply Ext.drew | apply Ext.drewN | (refine Ext.trans ?_ (by assumption)))) (hL'.out.ext (by repeat' first | exact Ext.refl _ | assumption | apply Ext.alloc | apply Ext.drew | apply Ext.drewN | (refine Ext.trans ?_ (by assumption)))))).mono ?_
          rintro r w2 ⟨⟨A2, cap2, rfl⟩, he⟩
          have he2 : Ext wr w2 := he
          have hlt := World.block_lt_of_cell? wr _ f0
          replace f0 := he2.at f0
          replace f1 := he2.at f1
          replace f2 := he2.at f2
          replace f3 := he2.at f3
          clear e3
          replace z0 := (he2.frozens _ _ hlt).trans z0
          replace z1 := (he2.frozens _ _ hlt).trans z1
          replace z2 := (he2.frozens _ _ hlt).trans z2
          replace z3 := (he2.frozens _ _ hlt).trans z3
          have hw2 : Ext w w2 := hb.trans he2
          clear he
          have q0 : ∀ o1, (w2.alloc o1).cell? _ = some _ := fun o1 => ((Ext.refl w2).alloc o1).at f0
          have q1 : ∀ o1, (w2.alloc o1).cell? _ = some _ := fun o1 => ((Ext.refl w2).alloc o1).at f1
          have q2 : ∀ o1, (w2.alloc o1).cell? _ = some _ := fun o1 => ((Ext.refl w2).alloc o1).at f2
          have q3 : ∀ o1, (w2.alloc o1).cell? _ = some _ := fun o1 => ((Ext.refl w2).alloc o1).at f3
          have hlt2 := World.block_lt_of_cell? w2 _ f0
          have y0 : ∀ o1, (w2.alloc o1).frozen? _ = false := fun o1 => (((Ext.refl w2).alloc o1).frozens _ _ hlt2).trans z0
          have y1 : ∀ o1, (w2.alloc o1).frozen? _ = false := fun o1 => (((Ext.refl w2).alloc o1).frozens _ _ hlt2).trans z1
          have y2 : ∀ o1, (w2.alloc o1).frozen? _ = false := fun o1 => (((Ext.refl w2).alloc o1).frozens _ _ hlt2).trans z2
          have y3 : ∀ o1, (w2.alloc o1).frozen? _ = false := fun o1 => (((Ext.refl w2).alloc o1).frozens _ _ hlt2).trans z3
          go_wp2_with fail
          refine bodyPost_ret (v := .tuple #[.agg #[.int .i64 0, .int .i64 0, .string ByteArray.empty, .slice none 0 0], .bool false]) (by simp [results, Try.results47, go_sem, f0, f1, f2, f3, q0, q1, q2, q3, hlt2, Nat.ne_of_lt hlt2]; rfl) rfl ⟨?_, ((((hw2.setCell (by dsimp only; omega) _).setCell (by dsimp only; omega) _).setCell (by dsimp only; omega) _).setCell (by dsimp only; omega) _).alloc _⟩
          rw [hP2.out]
          exact ⟨none, 0, rfl, rd_leaf _ _ _ _ _⟩
        | some y =>
          have HY2 := Lib.hid (show putPs op L (l.take (k + 1)) = some (ys ++ [y]) by rw [List.take_succ_eq_append_getElem hk2]; exact putPs_snoc hpk2 _ HY.out)
          rw [hpk2] at hcall
          have hcall' := Lib.hid hcall
          have hR2 := hR'.out; have hO2 := hO'.out
          have hk3 : (k : Int) < (l.length : Int) := by omega
          clear hcall hpk2 HY
          go_wp2_with fail
          refine (RetX.yes (hcall'.out _ (hr2.out.ext (by repeat' first | exact Ext.refl _ | assumption | apply Ext.alloc | apply Ext.drew | apply Ext.drewN | (refine Ext.trans ?_ (by assumption)))) (hL'.out.ext (by repeat' first | exact Ext.refl _ | assumption | apply Ext.alloc | apply Ext.drew | apply Ext.drewN | (refine Ext.trans ?_ (by assumption)))))).mono ?_
          rintro r w2 ⟨⟨A2, cap2, rfl, hc⟩, he⟩
          have he2 : Ext wr w2 := he
          replace hR2 := hR2.ext he2
          replace hO2 := hO2.ext he2
          have hXE := hX'.out.ext he2
          have hdd : ∀ o1, Rd (w2.alloc o1) (fun b => w.heap.size + 3 ≤ b ∧ b < (w2.alloc o1).heap.size ∧ some b ≠ x.ownBlock) y.d [.int .i64 y.op, .int .i64 y.n, .string y.s, .slice A2 y.args.length cap2] := fun o1 =>
            Rd.keep (Below.keeps ((Ext.refl w2).alloc o1)) (fun b hb => ⟨by have := hb.1; omega, Nat.lt_of_lt_of_le hb.2 (by simp), fun hx => by have := hX'.out.own b hx.symm; have h1 := hb.1; omega⟩) _ _ hc
          have hXE' := fun o1 : Obj => hXE.ext ((Ext.refl w2).alloc o1)
          have hne : ∀ b, b < w.heap.size + 3 → some b ≠ x.ownBlock := fun b hb => hX'.out.ne hb
          have hxo : ∀ b, x.ownBlock = some b → w.heap.size + 3 ≤ b := fun b hb => (hX'.out.own b hb).1
          have hsz2 : w.heap.size + 3 ≤ w2.heap.size := Nat.le_trans hsz he2.size
          have hb2 : Ext w w2 := hb.trans he2
          have hdd2 := Lib.hid hdd; have hXE2 := Lib.hid hXE'; have hne2 := Lib.hid hne; have hO3 := Lib.hid hO2; have hE3 := Lib.hid (hE'.out.ext he2); have hR3 := Lib.hid hR2; have hxo2 := Lib.hid hxo
          clear hc he hdd hXE hXE' hne hO2 hR2 hxo
          obtain ⟨o0, o1, o2, o3, -⟩ := hO3.out
          have o3' : ∀ o1, (w2.alloc o1).cell? _ = some _ := fun o1 => ((Ext.refl w2).alloc o1).at o3
          go_wp2_with (at_builtin; refine wp_append_e _ _ _ rfl _ _ _ rfl (w.heap.size + 3) 25 4 56 _ Try.underlying23 infoEx rfl (by decide) (by decide) x _ rfl (hXE2.out _) _ rfl (by go_simp) rfl (by intro u hu; simp at hu; rcases hu with rfl | rfl | rfl | rfl <;> rfl) y.d (hdd2.out _) (by simp only [List.length_map]; omega) (by simp; omega) ?_; intro v' w3 hx3 hg hnn; (obtain ⟨A3, cap3, rfl, -, -⟩ := hx3.form (n := k + 1) (by simp; omega)); have hO4 := Lib.hid ((hO3.out.ext ((Ext.refl w2).alloc _)).grown hg (hne2.out _ (by omega))); have hR4 := Lib.hid ((hR3.out.ext ((Ext.refl w2).alloc _)).grown hg (hne2.out _ (by omega))); have hE4 := Lib.hid ((hE3.out.ext ((Ext.refl w2).alloc _)).grown hg (hne2.out _ (by omega))); have hb4 : Ext w w3 := Below.grown (hb2.alloc _) hg (by simp; omega) (fun k hk => by have := hxo2.out k hk; omega); have hsz4 : w.heap.size + 3 ≤ w3.heap.size := Nat.le_trans (by simp; omega) hg.size; have hx4 := Lib.hid hx3; clear hx3 hg hnn; (obtain ⟨p0, p1, p2, p3, p4, p5, p6, p7⟩ := hO4.out))
          go_roundw
          case rel =>
            refine ⟨k + 1, _, ys ++ [y], by omega, by go_num, by simp [hyl], HY2, hR4.out.other (by simp) _, hO4.out.set _, hE4.out.other (by dsimp only; omega) _, ?_, by simpa using hsz4, hb4.setCell (by dsimp only; omega) _⟩
            rw [List.map_append]
            exact hx4.out.set (by simp) _
          case measure => simp [intOf]; omega
      · have hkl : k = l.length := by omega
        rw [hkl] at HY hyl
        subst hkl
        rw [List.take_length] at HY
        have hP2 := Lib.hid (show putP op L (.mk o n s l) = some (.mk o n s ys) by rw [hP.out, HY.out])
        obtain ⟨A3, cap3, rfl, hc1, hc2⟩ := hX.form (n := ys.length) (by simp)
        have hX' := Lib.hid hX
        obtain ⟨o0, o1, o2, o3, -⟩ := hO
        obtain ⟨f0, f1, f2, f3, z0, z1, z2, z3⟩ := hR
        have hyl' := Lib.hid hyl
        clear hX hP hyl
        go_wp2_with fail
        refine bodyPost_ret (v := .tuple #[.agg #[.int .i64 o, .int .i64 n, .string s, .slice A3 ys.length cap3], .bool true]) (by simp [results, Try.results47, go_sem, f0, f1, f2, f3]; done) rfl ⟨?_, (((hb.setCell (by dsimp only; omega) _).setCell (by dsimp only; omega) _).setCell (by dsimp only; omega) _).setCell (by dsimp only; omega) _⟩
        rw [hP2.out]
        exact ⟨A3, cap3, rfl, (rd_node ((((hX'.out.set (by dsimp only; omega) _).set (by dsimp only; omega) _).set (by dsimp only; omega) _).set (by dsimp only; omega) _).rd).low (by omega)⟩
end Go.Proofs.Ytmhelkhmgbbfhaa

/- Walks: slices.IndexFunc and ContainsFunc at ints, over any function that answers by a predicate. -/
namespace Go.Proofs.Ytmhelkhmgbbfhaa
open Go.RowKit Go.Lib

/-- the place of the first that the predicate takes, or -1 -/
def idxOf (p : Int → Bool) : List Int → Int
  | [] => -1
  | x :: l => if p x then 0 else (if idxOf p l < 0 then -1 else idxOf p l + 1)
theorem idxOf_bd (p : Int → Bool) : ∀ l, -1 ≤ idxOf p l ∧ (0 ≤ idxOf p l ↔ l.any p = true)
  | [] => by simp [idxOf]
  | x :: l => by
    have := idxOf_bd p l
    rw [idxOf, List.any_cons]
    by_cases h : p x = true
    · simp [h]
    · rw [if_neg h]
      have h2 : p x = false := by simpa using h
      rw [h2, Bool.false_or]
      by_cases h0 : 0 ≤ idxOf p l
      · rw [if_neg (by omega)]; exact ⟨by omega, ⟨fun _ => this.2.1 h0, fun _ => by omega⟩⟩
      · rw [if_pos (by omega)]; exact ⟨by omega, ⟨fun h => absurd h (by omega), fun h => absurd (this.2.2 h) h0⟩⟩
theorem idxOf_none {p : Int → Bool} {l : List Int} (h : ∀ i (hi : i < l.length), p l[i] = false) : idxOf p l = -1 := by
  have h1 := idxOf_bd p l
  have h2 : l.any p = false := by
    rw [List.any_eq_false]; intro x hx; obtain ⟨i, hi, rfl⟩ := List.getElem_of_mem hx; rw [h i hi]; simp
  have h3 : ¬ 0 ≤ idxOf p l := fun h => by rw [h1.2.1 h] at h2; cases h2
  omega
theorem idxOf_at {p : Int → Bool} : ∀ {l : List Int} {k : Nat} (hk : k < l.length), p l[k] = true → (∀ i (hi : i < l.length), i < k → p l[i] = false) → idxOf p l = k
  | x :: l, 0, _, h, _ => by simp only [List.getElem_cons_zero] at h; rw [idxOf, if_pos h]; rfl
  | x :: l, k + 1, hk, h, hb => by
    have h0 : p x = false := by have := hb 0 (by simp) (by omega); simp only [List.getElem_cons_zero] at this; exact this
    have h1 := idxOf_at (l := l) (k := k) (by simpa using hk) (by simpa using h) (fun i hi hik => by have := hb (i + 1) (by simpa using hi) (by omega); simp only [List.getElem_cons_succ] at this; exact this)
    rw [idxOf, h0, h1]
    simp only [Bool.false_eq_true, if_false]
    rw [if_neg (by omega)]; omega

set_option maxRecDepth 10000 in
set_option maxHeartbeats 1000000 in
theorem indexFunc_any (l : List Int) (p : Int → Bool) (q : Nat) (hq : ∀ (a : Array Value) (w : World), (callFunc q a).run Try.prog w = .ok (.enter q a) w) (caps : Array Value) (S : Nat → Prop) (v : Value) (w : World) (hr : Rd w S (.sl (l.map D.int)) [v])
    (hf : ∀ (x : Int) (w' : World), Ext w w' → Calls Try.prog q (#[.int .i64 x] ++ caps) w' fun r w'' => r = .returned (.bool (p x)) ∧ Ext w' w'') :
    Calls Try.prog 91 #[v, .func (.func q) #[] caps] w fun r w' => r = .returned (.int .i64 (idxOf p l)) ∧ Ext w w' := by
  obtain ⟨A, cap, b, off, rfl, hl1, hl2, hl3, hm⟩ := Rd.sl_open hr
  simp only [List.length_map] at *
  have hl3' := Lib.hid hl3; have hm' := Lib.hid hm; have hf' := Lib.hid hf
  clear hr hl3 hm hf
  go_enter Try.func91, Try.ntmps91
  go_wp2_with fail
  go_loopw [8] (fun i wr => ∃ (k : Nat), k ≤ l.length ∧ i = .int .i64 k ∧ Hid (∀ i (hi : i < l.length), i < k → p l[i] = false) ∧ Ext w wr) (fun i _ => l.length - (intOf i).toNat)
  case atStart => exact ⟨0, by omega, rfl, Lib.hid (fun j _ h => absurd h (by omega)), Ext.refl _⟩
  case round =>
    obtain ⟨k, hk, rfl, HH, hw⟩ := hrel
    by_cases hlt : k < l.length
    · obtain ⟨rfl, hSb⟩ := hl3'.out (by omega)
      have d0 := ints_at (hm'.out.ext (fun _ => hSb) hw) hlt
      have hSb' := Lib.hid hSb; clear hSb
      have hc := hf'.out l[k] wr hw
      cases hp : p l[k] with
      | true =>
        rw [hp] at hc
        have hc' := Lib.hid hc
        have hp' := Lib.hid hp
        have H := Lib.hid (idxOf_at hlt hp HH.out)
        clear hc hp
        go_wp2_with fail
        refine (hc'.out).mono ?_
        rintro r w1 ⟨rfl, he⟩
        go_wp2_with fail
        go_ret
        exact ⟨ret_int (by rw [H.out]), hw.trans he⟩
      | false =>
        rw [hp] at hc
        have hc' := Lib.hid hc
        have hp' := Lib.hid hp
        clear hc hp
        go_wp2_with fail
        refine (hc'.out).mono ?_
        rintro r w1 ⟨rfl, he⟩
        go_wp2_with fail
        go_roundw
        case rel => exact ⟨k + 1, by omega, by go_num, Lib.hid (fun i hi h => by rcases Nat.lt_succ_iff_lt_or_eq.1 h with h | rfl; exact HH.out i hi h; exact hp'.out), hw.trans he⟩
        case measure => simp [intOf]; omega
    · have hkl : k = l.length := by omega
      subst hkl
      have H := Lib.hid (idxOf_none (fun i hi => HH.out i hi hi))
      go_wp2_with fail
      go_ret
      exact ⟨ret_int (by rw [H.out]), hw⟩

set_option maxRecDepth 10000 in
set_option maxHeartbeats 1000000 in
theorem containsFunc_any (l : List Int) (p : Int → Bool) (q : Nat) (hq : ∀ (a : Array Value) (w : World), (callFunc q a).run Try.prog w = .ok (.enter q a) w) (caps : Array Value) (S : Nat → Prop) (v : Value) (w : World) (hr : Rd w S (.sl (l.map D.int)) [v])
    (hf : ∀ (x : Int) (w' : World), Ext w w' → Calls Try.prog q (#[.int .i64 x] ++ caps) w' fun r w'' => r = .returned (.bool (p x)) ∧ Ext w' w'') :
    Calls Try.prog 61 #[v, .func (.func q) #[] caps] w fun r w' => r = .returned (.bool (l.any p)) ∧ Ext w w' := by
  have hr' := Lib.hid hr; have hf' := Lib.hid hf
  have H := Lib.hid (show decide (0 ≤ idxOf p l) = l.any p by
    have := idxOf_bd p l
    by_cases h : 0 ≤ idxOf p l
    · rw [decide_eq_true h, this.2.1 h]
    · rw [decide_eq_false h]; cases hx : l.any p with | false => rfl | true => exact absurd (this.2.2 hx) h)
  clear hr hf
  go_enter Try.func61, Try.ntmps61
  go_wp2_with fail
  refine (indexFunc_any l p q hq caps S v w hr'.out hf'.out).mono ?_
  rintro r w1 ⟨rfl, he⟩
  go_wp2_with fail
  go_ret
  exact ⟨ret_bool (by rw [← H.out]), he⟩

end Go.Proofs.Ytmhelkhmgbbfhaa

/- Walks: what the reference calls types of expressions. -/
namespace Go.Proofs.Ytmhelkhmgbbfhaa
open Go.RowKit Go.Lib

set_option maxHeartbeats 400000 in
theorem rkind_any (n : Int) (w : World) : Calls Try.prog 62 #[.int .i64 n] w fun r w' => r = .returned (.bool (kindB n)) ∧ Ext w w' := by
  go_enter Try.func62, Try.ntmps62
  go_wp2_with fail
  all_goals
    go_ret
    exact ⟨ret_bool (by first | rfl | (unfold kindB; simp; omega)), Ext.refl _⟩

theorem answer_none {x : Int} : Answer none (.returned (.tuple #[.int .i64 x, .bool false])) := ⟨x, false, rfl, rfl⟩
theorem answer_some {x : Int} : Answer (some x) (.returned (.tuple #[.int .i64 x, .bool true])) := ⟨x, true, rfl, rfl⟩
theorem answer_of {x : Int} {b : Bool} {t : Option Int} (h : (if b then some x else none) = t) : Answer t (.returned (.tuple #[.int .i64 x, .bool b])) := ⟨x, b, rfl, h⟩

set_option maxHeartbeats 400000 in
theorem rat_any (l : List Int) (n : Int) (S : Nat → Prop) (v : Value) (w : World) (hr : Rd w S (.sl (l.map D.int)) [v]) :
    Calls Try.prog 101 #[v, .int .i64 n] w fun r w' => Answer (pickT l n) r ∧ Ext w w' := by
  obtain ⟨A, cap, b, off, rfl, hl1, hl2, hl3, hm⟩ := Rd.sl_open hr
  simp only [List.length_map] at *
  by_cases hn : n < 0 ∨ (l.length : Int) ≤ n
  · have H := Lib.hid (show pickT l n = none by
      unfold pickT; split
      · rfl
      · rw [List.getElem?_eq_none (by omega)])
    clear hr hm hl3
    rcases hn with hn | hn
    all_goals
      go_enter Try.func101, Try.ntmps101
      go_wp2_with fail
      all_goals
        go_ret2
        exact ⟨by rw [H.out]; exact answer_none, Ext.refl _⟩
  · obtain ⟨k, rfl⟩ := Int.eq_ofNat_of_zero_le (show 0 ≤ n by omega)
    have hlt : k < l.length := by omega
    obtain ⟨rfl, hSb⟩ := hl3 (by omega)
    have c0 := ints_at hm hlt
    have gc0 := ExtW.at c0
    have H := Lib.hid (show (if kindB l[k] then some l[k] else none) = pickT l (k : Int) by
      simp [pickT, List.getElem?_eq_getElem hlt, show ¬ ((k : Int) < 0) by omega])
    clear hm hSb hr hl3 hn
    go_enter Try.func101, Try.ntmps101
    go_wp2_with fail
    refine wp_region_ext (by kernel_rfl) (by kernel_rfl) ?_
    repeat (go_big_quiet_step ((go_at_call 62; exact Calls.ext_of (rkind_any _ _))))
    refine wpQuiet_nil ?_
    intro w1 he
    go_wp2_with fail
    go_ret2
    exact ⟨answer_of H.out, he⟩

set_option maxHeartbeats 400000 in
theorem rnumber_any (op : Int) (w : World) : Calls Try.prog 100 #[.int .i64 op] w fun r w' => r = .returned (.int .i64 (if 0 ≤ op ∧ op ≤ 5 then 0 else if op = 6 ∨ op = 7 ∨ op = 20 then 1 else if op = 21 then 3 else if 5 < op ∧ op < 21 then 2 else -1)) ∧ Ext w w' := by
  by_cases h0 : 0 ≤ op ∧ op ≤ 5
  · rw [if_pos h0]
    have : op = 0 ∨ op = 1 ∨ op = 2 ∨ op = 3 ∨ op = 4 ∨ op = 5 := by omega
    rcases this with rfl | rfl | rfl | rfl | rfl | rfl
    all_goals
      go_enter Try.func100, Try.ntmps100
      go_wp2_with fail
      go_ret
      exact ⟨rfl, Ext.refl _⟩
  · rw [if_neg h0]
    by_cases h1 : op = 6 ∨ op = 7 ∨ op = 20
    · rw [if_pos h1]
      rcases h1 with rfl | rfl | rfl
      all_goals
        go_enter Try.func100, Try.ntmps100
        go_wp2_with fail
        go_ret
        exact ⟨rfl, Ext.refl _⟩
    · rw [if_neg h1]
      by_cases h2 : op = 21
      · rw [if_pos h2]; subst h2
        go_enter Try.func100, Try.ntmps100
        go_wp2_with fail
        go_ret
        exact ⟨rfl, Ext.refl _⟩
      · rw [if_neg h2]
        have e0 : ¬ op = 0 := by omega
        have e1 : ¬ op = 1 := by omega
        have e2 : ¬ op = 2 := by omega
        have e3 : ¬ op = 3 := by omega
        have e4 : ¬ op = 4 := by omega
        have e5 : ¬ op = 5 := by omega
        have e6 : ¬ op = 6 := by omega
        have e7 : ¬ op = 7 := by omega
        have e20 : ¬ op = 20 := by omega
        clear h1
        by_cases h3 : 5 < op ∧ op < 21
        · rw [if_pos h3]
          obtain ⟨h3, h4⟩ := h3
          clear h0
          go_enter Try.func100, Try.ntmps100
          go_wp2_with fail
          all_goals
            go_ret
            exact ⟨rfl, Ext.refl _⟩
        · rw [if_neg h3]
          by_cases h4 : 5 < op
          · have h5 : 22 ≤ op := by omega
            clear h3 h0
            go_enter Try.func100, Try.ntmps100
            go_wp2_with fail
            all_goals
              go_ret
              exact ⟨rfl, Ext.refl _⟩
          · clear h3 h0
            go_enter Try.func100, Try.ntmps100
            go_wp2_with fail
            all_goals
              go_ret
              exact ⟨rfl, Ext.refl _⟩

theorem levelsL_mem : ∀ (l : List Ex) (n : Int) (e : Ex), e ∈ l → levels e ≤ levelsL l n
  | [], _, _, h => by simp at h
  | x :: l, n, e, h => by
    rw [levelsL]
    rcases List.mem_cons.1 h with rfl | h
    · have := (levelsL_le l (max n (levels e)) (max n (levels e)).toNat (by have := levels_le e; omega) (by omega)).1; omega
    · exact levelsL_mem l _ e h

set_option maxHeartbeats 400000 in
theorem rlevels_any (e : Ex) : ∀ (S : Nat → Prop) (cs : List Value) (w : World), Rd w S e.d cs → levels e ≤ 1000000 →
    Calls Try.prog 17 #[.agg cs.toArray] w fun r w' => r = .returned (.int .i64 (levels e)) ∧ Ext w w' := by
  induction e using Ex.ind with | h o m s l ih => ?_
  intro S cs w hr hbd
  obtain ⟨A, cap, b, off, rfl, hl1, hl2, hl3, hm⟩ := Ex.open hr
  simp only [Ex.args, Ex.op, Ex.n, Ex.s] at *
  rw [levels] at hbd
  have H := Lib.hid (show levels (.mk o m s l) = levelsL l 0 + 1 by rw [levels])
  go_enter Try.func17, Try.ntmps17
  go_wp2_with fail
  go_loopw [3, 4] (fun x i wr => ∃ (k : Nat) (q : Int), k ≤ l.length ∧ i = .int .i64 k ∧ x = .int .i64 q ∧ 0 ≤ q ∧ q ≤ 1000000 ∧ Hid (levelsL l 0 = levelsL (l.drop k) q) ∧ Ext (w.alloc (.cells #[.int .i64 o, .int .i64 m, .string s, .slice A l.length cap] 25)) wr) (fun _ i _ => l.length - (intOf i).toNat)
  case atStart => exact ⟨0, _, by omega, rfl, rfl, by omega, by omega, Lib.hid rfl, Ext.refl _⟩
  case round =>
    obtain ⟨k, q, hk, rfl, rfl, hq1, hq2, HH, hb⟩ := hrel
    have hbox : wr.cell? ⟨w.heap.size, 3, none⟩ = some (.slice A l.length cap) := hb.at (by go_simp)
    have hw : Ext w wr := ((Ext.refl _).alloc _).trans hb
    have hm' := Lib.hid (hm.ext (fun h => (hl3 (by simpa using h)).2) hw)
    clear hr hm
    by_cases hlt : k < l.length
    · obtain ⟨rfl, hSb⟩ := hl3 (by omega)
      obtain ⟨A1, cap1, b1, off1, c0, c1, c2, c3, hr', -⟩ := Ex.at hm'.out hlt
      have hr2 := Lib.hid hr'
      have hSb' := Lib.hid hSb
      clear hr' hSb hl3
      have hle := levelsL_mem l 0 l[k] (List.getElem_mem hlt)
      have hll := levels_le l[k]
      go_wp2_with fail
      refine (ih l[k] (List.getElem_mem hlt) S _ _ hr2.out (by omega)).mono ?_
      rintro r w1 ⟨rfl, he⟩
      have HH2 := Lib.hid (HH.out.trans (by rw [List.drop_eq_getElem_cons hlt, levelsL]))
      clear HH
      go_wp2_with fail
      go_roundw
      case rel => exact ⟨k + 1, max q (levels l[k]), by omega, by go_num, by first | rfl | go_num | (simp [Int.max_def]), by omega, by omega, HH2, hb.trans he⟩
      case measure => simp [intOf]; omega
    · have hkl : k = l.length := by omega
      subst hkl
      have hq3 : levelsL l 0 = q := by rw [HH.out]; simp [levelsL]
      have hq4 := Lib.hid hq3
      have hq5 : q ≤ 999999 := by omega
      clear hq3
      go_wp2_with fail
      go_ret
      exact ⟨ret_int (by rw [H.out, hq4.out]), hw⟩

theorem take_ne {l m : List Int} {k : Nat} (h1 : k < l.length) (h2 : k < m.length) (h : l[k] ≠ m[k]) : m ≠ l := by
  rintro rfl; exact h rfl

set_option maxHeartbeats 400000 in
theorem rcall_any (F : List Fn) (n : Int) (ts : List Int) (S S2 : Nat → Prop) (v v2 : Value) (w : World) (hr : Rd w S (.sl (F.map Fn.d)) [v]) (hr2 : Rd w S2 (.sl (ts.map D.int)) [v2]) :
    Calls Try.prog 99 #[v, .int .i64 n, v2] w fun r w' => Answer (callT F n ts) r ∧ Ext w w' := by
  obtain ⟨A, cap, b, off, rfl, hl1, hl2, hl3, hm⟩ := Rd.sl_open hr
  obtain ⟨A0, cap0, b0, off0, rfl, k1, k2, k3, km⟩ := Rd.sl_open hr2
  simp only [List.length_map] at *
  by_cases hn : n < 0 ∨ (F.length : Int) ≤ n
  · have H := Lib.hid (show callT F n ts = none by
      unfold callT; split
      · rfl
      · rw [List.getElem?_eq_none (by omega)])
    clear hr hm hl3 hr2 km k3
    rcases hn with hn | hn
    all_goals
      go_enter Try.func99, Try.ntmps99
      go_wp2_with fail
      all_goals
        go_ret2
        exact ⟨by rw [H.out]; exact answer_none, Ext.refl _⟩
  · obtain ⟨k, rfl⟩ := Int.eq_ofNat_of_zero_le (show 0 ≤ n by omega)
    have hlt : k < F.length := by omega
    obtain ⟨rfl, hSb⟩ := hl3 (by omega)
    obtain ⟨A1, cap1, b1, off1, A2, cap2, b2, off2, c0, c1, c2, c3, c4, c5, c6, hr', q1, q2, q3, q4, -⟩ := Fn.at hm hlt
    have H := Lib.hid (show callT F (k : Int) ts = if F[k].params = ts then some F[k].res else none by
      simp [callT, List.getElem?_eq_getElem hlt, show ¬ ((k : Int) < 0) by omega])
    have H1 := Lib.hid q3; have H2 := Lib.hid q4; have H3 := Lib.hid k3; have H4 := Lib.hid km
    clear q3 q4 hSb hr hm hl3 hr2 km k3 hn
    have hn1 : ¬ F.length ≤ k := by omega
    have hn2 : ¬ (k : Int) < 0 := by omega
    by_cases hlen : F[k].params.length = ts.length
    · have hlen' := Lib.hid hlen
      rw [hlen] at c1
      clear hlen hr'
      go_enter Try.func99, Try.ntmps99
      go_wp2_with fail
      go_loopw [9] (fun i wr => ∃ (j : Nat), j ≤ ts.length ∧ i = .int .i64 j ∧ Hid (ts.take j = F[k].params.take j) ∧ Ext (w.alloc (.cells #[.string F[k].name, .slice A1 ts.length cap1, .int .i64 F[k].res, .int .i64 F[k].body.op, .int .i64 F[k].body.n, .string F[k].body.s, .slice A2 F[k].body.args.length cap2] 67)) wr) (fun i _ => ts.length - (intOf i).toNat)
      case atStart => exact ⟨0, by omega, rfl, Lib.hid rfl, Ext.refl _⟩
      case round =>
        obtain ⟨j, hj, rfl, HH, hb⟩ := hrel
        have hbox1 : wr.cell? ⟨w.heap.size, 1, none⟩ = some (.slice A1 ts.length cap1) := hb.at (by go_simp)
        have hbox2 : wr.cell? ⟨w.heap.size, 2, none⟩ = some (.int .i64 F[k].res) := hb.at (by go_simp)
        have hw : Ext w wr := ((Ext.refl _).alloc _).trans hb
        by_cases hjl : j < ts.length
        · obtain ⟨rfl, hS0⟩ := H3.out (by omega)
          obtain ⟨rfl, hS1⟩ := H1.out (by rw [hlen'.out]; omega)
          have d0 := ints_at (H4.out.ext (fun _ => hS0) hw) hjl
          have hjl2 : j < F[k].params.length := by rw [hlen'.out]; omega
          have d1 := ints_at (H2.out.ext (fun _ => hS1) hw) hjl2
          have H6 := Lib.hid hS0; have H7 := Lib.hid hS1
          clear hS0 hS1
          have gd0 := ExtW.at d0
          have gd1 := ExtW.at d1
          have ghbox1 := ExtW.at hbox1
          by_cases hx : ts[j] = F[k].params[j]
          · have hx1 : (ts[j] != F[k].params[j]) = false := by simp [hx]
            have hx2 := Lib.hid hx; clear hx
            go_wp2_with fail
            refine wp_region_ext (by kernel_rfl) (by kernel_rfl) ?_
            repeat (go_big_quiet_step ((fail)))
            refine wpQuiet_nil ?_
            intro w1 he
            go_wp2_with fail
            go_roundw
            case rel => exact ⟨j + 1, by omega, by go_num, Lib.hid (by rw [List.take_succ_eq_append_getElem hjl, List.take_succ_eq_append_getElem hjl2, HH.out, hx2.out]), hb.trans he⟩
            case measure => simp [intOf]; omega
          · have hx1 : (ts[j] != F[k].params[j]) = true := by simp [hx]
            have hx2 := Lib.hid hx; clear hx
            have H8 := Lib.hid (show callT F (k : Int) ts = none by rw [H.out, if_neg (take_ne hjl hjl2 hx2.out)])
            go_wp2_with fail
            refine wp_region_ext (by kernel_rfl) (by kernel_rfl) ?_
            repeat (go_big_quiet_step ((fail)))
            refine wpQuiet_nil ?_
            intro w1 he
            go_wp2_with fail
            go_ret2
            exact ⟨by rw [H8.out]; exact answer_none, hw.trans he⟩
        · have hjl2 : j = ts.length := by omega
          subst hjl2
          have H8 := Lib.hid (show callT F (k : Int) ts = some F[k].res by
            rw [H.out, if_pos]
            have h1 := HH.out
            rw [List.take_length, ← hlen'.out, List.take_length] at h1
            exact h1.symm)
          go_wp2_with fail
          go_ret2
          exact ⟨by rw [H8.out]; exact answer_some, hw⟩
    · have H5 := Lib.hid (show callT F (k : Int) ts = none by rw [H.out, if_neg (by intro h; exact hlen (by rw [h]))])
      have hlen' : ¬ (F[k].params.length : Int) = ts.length := by omega
      go_enter Try.func99, Try.ntmps99
      go_wp2_with fail
      go_ret2
      exact ⟨by rw [H5.out]; exact answer_none, (by repeat' first | exact Ext.refl _ | assumption | apply Ext.alloc | apply Ext.drew | apply Ext.drewN | (refine Ext.trans ?_ (by assumption)))⟩

end Go.Proofs.Ytmhelkhmgbbfhaa
