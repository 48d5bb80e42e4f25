/- The layings of maps.Keys, slices.Sorted and slices.Sort at ints. -/
import Derived.Shelf.SlIterI.Nil
import Derived.Shelf.SortM.Plain
import Derived.Shelf.SortM.SortNone
import Derived.Ground.GgzProg
import Derived.Ground.SlgmProg
import Derived.Test.YtnkimlkoijfcpaaGreatDoorProg
import Derived.Test.YtnkimlkoijfcpaaGreatDoorGe2
import Derived.Test.YtnkimlkoijfcpaaGreatDoorGe7
import Derived.Test.YtnkimlkoijfcpaaGreatDoorGe10
set_option linter.unusedSimpArgs false
set_option linter.unusedVariables false
namespace Go.Proofs
open Go.Shelf
def Tryz.keysA_ren : Go.Shelf.Ren := ⟨fun | 7 => 48 | 10 => 93 | n => n, fun | 23 => 86 | 26 => 3 | 3 => 4 | 28 => 91 | 0 => 0 | 27 => 90 | 33 => 132 | 4 => 4 | n => n, fun | n => n⟩
theorem Tryz.keysA : Go.Proofs.SlLaysZI.n7 Tryz.prog Tryz.keysA_ren := {
  mixed := by kernel_rfl
  f7 := ⟨Tryz.f48.name, by decide, Tryz.func48.trans (congrArg some (by kernel_rfl))⟩
  f10 := ⟨Tryz.f93.name, by decide, Tryz.func93.trans (congrArg some (by kernel_rfl))⟩
  t0 := Tryz.underlying0
  a0 := Tryz.isAgg0
  z0 := Tryz.sizeOf0
  v0 := Tryz.zeroValue0
  t4 := Tryz.underlying4
  a4 := Tryz.isAgg4
  z4 := Tryz.sizeOf4
  v4 := Tryz.zeroValue4
  t23 := Tryz.underlying86
  a23 := Tryz.isAgg86
  z23 := Tryz.sizeOf86
  v23 := Tryz.zeroValue86
  t26 := Tryz.underlying3
  a26 := Tryz.isAgg3
  z26 := Tryz.sizeOf3
  v26 := Tryz.zeroValue3
  t27 := Tryz.underlying90
  a27 := Tryz.isAgg90
  z27 := Tryz.sizeOf90
  v27 := Tryz.zeroValue90
  t28 := Tryz.underlying91
  a28 := Tryz.isAgg91
  z28 := Tryz.sizeOf91
  v28 := Tryz.zeroValue91
  t33 := Tryz.underlying132
  a33 := Tryz.isAgg132
  z33 := Tryz.sizeOf132
  v33 := Tryz.zeroValue132 }
def Tryz.sortedA_ren : Go.Shelf.Ren := ⟨fun | 6 => 47 | 8 => 92 | 9 => 59 | 11 => 142 | 13 => 116 | 12 => 115 | 23 => 156 | 24 => 157 | 14 => 147 | 15 => 148 | 16 => 149 | 17 => 150 | 18 => 151 | 19 => 152 | 20 => 153 | 21 => 154 | 22 => 155 | 25 => 181 | 26 => 182 | 27 => 183 | 28 => 184 | 29 => 185 | 30 => 186 | 31 => 198 | n => n, fun | 26 => 3 | 28 => 91 | 24 => 22 | 0 => 0 | 3 => 3 | 37 => 150 | 48 => 185 | 50 => 187 | 4 => 4 | 40 => 178 | 39 => 177 | 45 => 29 | 5 => 5 | 9 => 9 | 51 => 198 | 55 => 108 | 57 => 210 | 58 => 208 | 33 => 132 | n => n, fun | n => n⟩
theorem Tryz.sortedA : Go.Proofs.SlLaysZI.n6 Tryz.prog Tryz.sortedA_ren := {
  mixed := by kernel_rfl
  f6 := ⟨Tryz.f47.name, by decide, Tryz.func47.trans (congrArg some (by kernel_rfl))⟩
  f8 := ⟨Tryz.f92.name, by decide, Tryz.func92.trans (congrArg some (by kernel_rfl))⟩
  f11 := ⟨Tryz.f142.name, by decide, Tryz.func142.trans (congrArg some (by kernel_rfl))⟩
  t0 := Tryz.underlying0
  a0 := Tryz.isAgg0
  z0 := Tryz.sizeOf0
  v0 := Tryz.zeroValue0
  t24 := Tryz.underlying22
  a24 := Tryz.isAgg22
  z24 := Tryz.sizeOf22
  v24 := Tryz.zeroValue22
  t26 := Tryz.underlying3
  a26 := Tryz.isAgg3
  z26 := Tryz.sizeOf3
  v26 := Tryz.zeroValue3
  t28 := Tryz.underlying91
  a28 := Tryz.isAgg91
  z28 := Tryz.sizeOf91
  v28 := Tryz.zeroValue91
  i26 := by kernel_rfl }
def Tryz.sortA_ren : Go.Shelf.Ren := ⟨fun | 5 => 59 | 8 => 116 | 7 => 115 | 19 => 156 | 20 => 157 | 10 => 147 | 11 => 148 | 12 => 149 | 13 => 150 | 14 => 151 | 15 => 152 | 16 => 153 | 17 => 154 | 18 => 155 | 30 => 181 | 31 => 182 | 32 => 183 | 33 => 184 | 34 => 185 | 35 => 186 | 40 => 198 | n => n, fun | 23 => 22 | 25 => 3 | 3 => 3 | 32 => 150 | 22 => 22 | 0 => 0 | 44 => 185 | 46 => 187 | 4 => 4 | 36 => 178 | 35 => 177 | 41 => 29 | 5 => 5 | 9 => 9 | 53 => 198 | 57 => 108 | 63 => 210 | 64 => 208 | n => n, fun | n => n⟩
theorem Tryz.sortA : Go.Proofs.SlLaysM.n5 Tryz.prog Tryz.sortA_ren := {
  mixed := by kernel_rfl
  f5 := ⟨Tryz.f59.name, by decide, Tryz.func59.trans (congrArg some (by kernel_rfl))⟩
  f7 := ⟨Tryz.f115.name, by decide, Tryz.func115.trans (congrArg some (by kernel_rfl))⟩
  f8 := Tryz.func116.trans (congrArg some (by kernel_rfl))
  f10 := ⟨Tryz.f147.name, by decide, Tryz.func147.trans (congrArg some (by kernel_rfl))⟩
  f11 := ⟨Tryz.f148.name, by decide, Tryz.func148.trans (congrArg some (by kernel_rfl))⟩
  f12 := ⟨Tryz.f149.name, by decide, Tryz.func149.trans (congrArg some (by kernel_rfl))⟩
  f13 := ⟨Tryz.f150.name, by decide, Tryz.func150.trans (congrArg some (by kernel_rfl))⟩
  f14 := ⟨Tryz.f151.name, by decide, Tryz.func151.trans (congrArg some (by kernel_rfl))⟩
  f15 := ⟨Tryz.f152.name, by decide, Tryz.func152.trans (congrArg some (by kernel_rfl))⟩
  f16 := ⟨Tryz.f153.name, by decide, Tryz.func153.trans (congrArg some (by kernel_rfl))⟩
  f17 := ⟨Tryz.f154.name, by decide, Tryz.func154.trans (congrArg some (by kernel_rfl))⟩
  f18 := ⟨Tryz.f155.name, by decide, Tryz.func155.trans (congrArg some (by kernel_rfl))⟩
  f19 := Tryz.func156.trans (congrArg some (by kernel_rfl))
  f20 := Tryz.func157.trans (congrArg some (by kernel_rfl))
  f30 := ⟨Tryz.f181.name, by decide, Tryz.func181.trans (congrArg some (by kernel_rfl))⟩
  f31 := Tryz.func182.trans (congrArg some (by kernel_rfl))
  f32 := Tryz.func183.trans (congrArg some (by kernel_rfl))
  f33 := ⟨Tryz.f184.name, by decide, Tryz.func184.trans (congrArg some (by kernel_rfl))⟩
  f34 := ⟨Tryz.f185.name, by decide, Tryz.func185.trans (congrArg some (by kernel_rfl))⟩
  f35 := ⟨Tryz.f186.name, by decide, Tryz.func186.trans (congrArg some (by kernel_rfl))⟩
  f40 := ⟨Tryz.f198.name, by decide, Tryz.func198.trans (congrArg some (by kernel_rfl))⟩
  t0 := Tryz.underlying0
  a0 := Tryz.isAgg0
  z0 := Tryz.sizeOf0
  v0 := Tryz.zeroValue0
  t3 := Tryz.underlying3
  a3 := Tryz.isAgg3
  z3 := Tryz.sizeOf3
  v3 := Tryz.zeroValue3
  t4 := Tryz.underlying4
  a4 := Tryz.isAgg4
  z4 := Tryz.sizeOf4
  v4 := Tryz.zeroValue4
  t5 := Tryz.underlying5
  a5 := Tryz.isAgg5
  z5 := Tryz.sizeOf5
  v5 := Tryz.zeroValue5
  t9 := Tryz.underlying9
  a9 := Tryz.isAgg9
  z9 := Tryz.sizeOf9
  v9 := Tryz.zeroValue9
  t22 := Tryz.underlying22
  a22 := Tryz.isAgg22
  z22 := Tryz.sizeOf22
  v22 := Tryz.zeroValue22
  t23 := Tryz.underlying22
  a23 := Tryz.isAgg22
  z23 := Tryz.sizeOf22
  v23 := Tryz.zeroValue22
  t25 := Tryz.underlying3
  a25 := Tryz.isAgg3
  z25 := Tryz.sizeOf3
  v25 := Tryz.zeroValue3
  t32 := Tryz.underlying150
  a32 := Tryz.isAgg150
  z32 := Tryz.sizeOf150
  v32 := Tryz.zeroValue150
  t35 := Tryz.underlying177
  a35 := Tryz.isAgg177
  z35 := Tryz.sizeOf177
  v35 := Tryz.zeroValue177
  t36 := Tryz.underlying178
  a36 := Tryz.isAgg178
  z36 := Tryz.sizeOf178
  v36 := Tryz.zeroValue178
  t41 := Tryz.underlying29
  a41 := Tryz.isAgg29
  z41 := Tryz.sizeOf29
  v41 := Tryz.zeroValue29
  t44 := Tryz.underlying185
  a44 := Tryz.isAgg185
  z44 := Tryz.sizeOf185
  v44 := Tryz.zeroValue185
  t46 := Tryz.underlying187
  a46 := Tryz.isAgg187
  z46 := Tryz.sizeOf187
  v46 := Tryz.zeroValue187
  t53 := Tryz.underlying198
  a53 := Tryz.isAgg198
  z53 := Tryz.sizeOf198
  v53 := Tryz.zeroValue198
  t57 := Tryz.underlying108
  a57 := Tryz.isAgg108
  z57 := Tryz.sizeOf108
  v57 := Tryz.zeroValue108
  t63 := Tryz.underlying210
  a63 := Tryz.isAgg210
  z63 := Tryz.sizeOf210
  v63 := Tryz.zeroValue210
  t64 := Tryz.underlying208
  a64 := Tryz.isAgg208
  z64 := Tryz.sizeOf208
  v64 := Tryz.zeroValue208 }
end Go.Proofs

/- Walks: whether an expression reads the time, of the program. -/
namespace Go.Proofs.YtnkimlkoijfcpaaGreatDoor
open Go.RowKit Go.Lib
def tpart (B : List Bool) (x : Ex) : Bool := decide (x.op = 5) || (if x.op = 22 ∧ 0 ≤ x.n ∧ x.n < B.length then B.getD x.n.toNat false else false)
mutual
theorem pre_timed (B : List Bool) : ∀ e : Ex, (pre e).any (tpart B) = timE B e
  | .mk o n s l => by rw [pre, List.any_cons, preL_timed B l, timE]; rfl
theorem preL_timed (B : List Bool) : ∀ l : List Ex, (preL l).any (tpart B) = timL B l
  | [] => by rw [preL, timL]; rfl
  | e :: l => by rw [preL, List.any_append, pre_timed B e, preL_timed B l, timL]
end
def TInv (B : List Bool) (S : Nat → Prop) (m pb : Nat) (vB : Value) (L : List Ex) (w : World) : Prop :=
  w.cell? ⟨m, 0, none⟩ = some (.bool (L.any (tpart B))) ∧ w.frozen? ⟨m, 0, none⟩ = false ∧ w.cell? ⟨pb, 0, none⟩ = some vB ∧ Rd w S (.sl (B.map D.bool)) [vB]
theorem TInv.ext {B : List Bool} {S : Nat → Prop} {m pb : Nat} {vB : Value} {L : List Ex} {w w' : World} (h : TInv B S m pb vB L w) (hm : m < w.heap.size) (he : Ext w w') : TInv B S m pb vB L w' :=
  ⟨he.at h.1, (he.frozens _ _ hm).trans h.2.1, he.at h.2.2.1, Rd.ext h.2.2.2 he⟩
set_option maxRecDepth 10000 in
set_option maxHeartbeats 2000000 in
theorem timed_part (B : List Bool) (S : Nat → Prop) (m pb : Nat) (hS : ∀ b, S b → b ≠ m) (hpb : pb ≠ m) (vB : Value) :
    Steps1 50 #[.pointer (some ⟨m, 0, none⟩), .pointer (some ⟨pb, 0, none⟩)] m S (TInv B S m pb vB) (fun x => wfS B.length x = true) := by
  intro L x cs w hok hI hr hm0
  obtain ⟨f0, z0, p0, hB⟩ := hI
  obtain ⟨A, cap, b, off, rfl, hl1, hl2, hl3, hm⟩ := Ex.open hr
  obtain ⟨AB, capB, bB, offB, rfl, B1, B2, B3, B4⟩ := Rd.sl_open hB
  obtain ⟨o, n, s, l⟩ := x
  simp only [Ex.args, Ex.op, Ex.n, Ex.s, List.length_map] at *
  rw [wfS] at hok
  simp only [Bool.and_eq_true, Bool.or_eq_true, Bool.not_eq_true', decide_eq_false_iff_not, decide_eq_true_eq] at hok
  have hw2 := hok.1.2
  have hB' := Lib.hid hB
  have hfin : ∀ (w' : World) (u : Bool), Ext w w' → w'.cell? ⟨m, 0, none⟩ = some (.bool (L.any (tpart B))) → w'.frozen? ⟨m, 0, none⟩ = false → (L ++ [Ex.mk o n s l]).any (tpart B) = u →
      TInv B S m pb (.slice AB B.length capB) (L ++ [Ex.mk o n s l]) (w'.setCell ⟨m, 0, none⟩ (.bool u)) ∧ w.grownBy (w'.setCell ⟨m, 0, none⟩ (.bool u)) (some m) := by
    intro w' u he h0 h1 hu
    have hk : ∀ b, b ≠ m → (w'.setCell ⟨m, 0, none⟩ (.bool u)).heap[b]? = w'.heap[b]? := fun b hb => Below.heap_setCell w' ⟨m, 0, none⟩ (.bool u) b hb
    refine ⟨⟨by rw [hu]; go_simp, by go_simp, ?_, ?_⟩, ?_⟩
    · exact (World.cell?_of_block (hk pb hpb)).trans (he.at p0)
    · exact Rd.keep (fun b hb _ => hk b (hS b hb)) (fun _ h => h) _ _ (hB'.out.ext he)
    · refine ⟨he.os, he.tape, he.output, by simpa using he.size, fun k hk1 hk2 => ?_⟩
      exact (hk k (fun e => hk2 (by rw [e]))).trans (he.block k hk1)
  have hfin' := Lib.hid hfin
  have hT : (L ++ [Ex.mk o n s l]).any (tpart B) = (L.any (tpart B) || (decide (o = 5) || (if o = 22 ∧ 0 ≤ n ∧ n < B.length then B.getD n.toNat false else false))) := by
    rw [List.any_append, List.any_cons, List.any_nil, Bool.or_false]; rfl
  clear hr hm hl3 hfin hok hB
  have hm0' : ∀ u, m < (w.setCell ⟨m, 0, none⟩ u).heap.size := fun u => by simpa using hm0
  have f0' := Lib.hid f0
  have g0 : ∀ o1, (w.alloc o1).cell? _ = some _ := fun o1 => ((Ext.refl w).alloc o1).at f0
  have y0 : ∀ o1, (w.alloc o1).frozen? _ = false := fun o1 => (((Ext.refl w).alloc o1).frozens _ _ hm0).trans z0
  have gp : ∀ o1, (w.alloc o1).cell? _ = some _ := fun o1 => ((Ext.refl w).alloc o1).at p0
  cases hf : L.any (tpart B) with
  | true =>
    have hT2 := Lib.hid (show (L ++ [Ex.mk o n s l]).any (tpart B) = true by rw [hT, hf]; rfl)
    rw [hf] at f0 g0
    clear hT hf hw2 B3 B4
    go_enter Tryz.func50, Tryz.ntmps50
    go_wp2_with fail
    refine bodyPost_end (v := .tuple #[]) (by simp [results, Tryz.results50, go_sem]; done) rfl ⟨⟨_, rfl⟩, (hfin'.out w _ (Ext.refl w) f0'.out z0 hT2.out).1.ext (hm0' _) ((Ext.refl _).alloc _), (hfin'.out w _ (Ext.refl w) f0'.out z0 hT2.out).2.trans (qbm ((Ext.refl _).alloc _) _)⟩
  | false =>
    rw [hf] at f0 g0
    by_cases h5 : o = 5
    · subst h5
      have hT2 := Lib.hid (show (L ++ [Ex.mk 5 n s l]).any (tpart B) = true by rw [hT, hf]; simp)
      clear hT hf hw2 B3 B4
      go_enter Tryz.func50, Tryz.ntmps50
      go_wp2_with fail
      refine bodyPost_end (v := .tuple #[]) (by simp [results, Tryz.results50, go_sem]; done) rfl ⟨⟨_, rfl⟩, (hfin'.out w _ (Ext.refl w) f0'.out z0 hT2.out).1.ext (hm0' _) ((Ext.refl _).alloc _), (hfin'.out w _ (Ext.refl w) f0'.out z0 hT2.out).2.trans (qbm ((Ext.refl _).alloc _) _)⟩
    · have h5b : (o == 5) = false := by simp [h5]
      by_cases h22 : o = 22
      · subst h22
        obtain ⟨hn1, hn2⟩ := hw2.resolve_left (by simp)
        obtain ⟨j, rfl⟩ := Int.eq_ofNat_of_zero_le hn1
        have hj : j < B.length := by omega
        obtain ⟨rfl, hSB⟩ := B3 (by omega)
        have c0 := bools_at B4 hj
        have gc : ∀ o1, (w.alloc o1).cell? _ = some _ := fun o1 => ((Ext.refl w).alloc o1).at c0
        have hT2 := Lib.hid (show (L ++ [Ex.mk 22 j s l]).any (tpart B) = B[j] by
          rw [hT, hf, if_pos ⟨rfl, hn1, hn2⟩]
          simp [List.getD_eq_getElem?_getD, List.getElem?_eq_getElem hj])
        clear hT hf hw2 B3 B4 h5
        go_enter Tryz.func50, Tryz.ntmps50
        go_wp2_with fail
        refine bodyPost_end (v := .tuple #[]) (by simp [results, Tryz.results50, go_sem]; done) rfl ⟨⟨_, rfl⟩, (hfin'.out w _ (Ext.refl w) f0'.out z0 hT2.out).1.ext (hm0' _) ((Ext.refl _).alloc _), (hfin'.out w _ (Ext.refl w) f0'.out z0 hT2.out).2.trans (qbm ((Ext.refl _).alloc _) _)⟩
      · have h22b : (o == 22) = false := by simp [h22]
        have hT2 := Lib.hid (show (L ++ [Ex.mk o n s l]).any (tpart B) = false by rw [hT, hf, if_neg (fun h => h22 h.1)]; simp [h5])
        clear hT hf hw2 B3 B4 h5 h22
        go_enter Tryz.func50, Tryz.ntmps50
        go_wp2_with fail
        refine bodyPost_end (v := .tuple #[]) (by simp [results, Tryz.results50, go_sem]; done) rfl ⟨⟨_, rfl⟩, (hfin'.out w _ (Ext.refl w) f0'.out z0 hT2.out).1.ext (hm0' _) ((Ext.refl _).alloc _), (hfin'.out w _ (Ext.refl w) f0'.out z0 hT2.out).2.trans (qbm ((Ext.refl _).alloc _) _)⟩
theorem wfS_args {m : Nat} (o n : Int) (s : ByteArray) (l : List Ex) (h : wfS m (.mk o n s l) = true) : ∀ x ∈ l, wfS m x = true := by
  rw [wfS, wfSL_all] at h
  simp only [Bool.and_eq_true, List.all_eq_true] at h
  exact h.2
set_option maxRecDepth 10000 in
set_option maxHeartbeats 2000000 in
theorem timedfn_any (B : List Bool) (e : Ex) (hwf : wfS B.length e = true) (pb : Nat) (vB : Value) (cs : List Value) (w : World) (hp : w.cell? ⟨pb, 0, none⟩ = some vB) (hB : Rd w (fun b => b < w.heap.size) (.sl (B.map D.bool)) [vB]) (hr : Rd w (fun b => b < w.heap.size) e.d cs) :
    Calls Tryz.prog 49 #[.agg cs.toArray, .pointer (some ⟨pb, 0, none⟩)] w fun r w' => r = .returned (.bool (timE B e)) ∧ Ext w w' := by
  obtain ⟨A, cap, b, off, rfl, hl1, hl2, hl3, hm⟩ := Ex.open hr
  have hpl : pb < w.heap.size := World.block_lt_of_cell? w _ hp
  have hr' := Lib.hid hr; have hB' := Lib.hid hB; have hp' := Lib.hid hp; have hwf' := Lib.hid hwf
  clear hr hB hm hl3 hp hwf
  go_enter Tryz.func49, Tryz.ntmps49
  go_wp2_with fail
  generalize hWe : World.alloc (World.alloc w _) _ = W
  have f0 : W.cell? ⟨w.heap.size + 1, 0, none⟩ = some (.bool false) := by rw [← hWe]; clear hWe; go_simp
  have z0 : W.frozen? ⟨w.heap.size + 1, 0, none⟩ = false := by rw [← hWe]; clear hWe; go_simp
  have hWs : W.heap.size = w.heap.size + 2 := by rw [← hWe]; clear hWe; go_simp
  have hwW : Ext w W := by rw [← hWe]; exact (by repeat' first | exact Ext.refl _ | assumption | apply Ext.alloc | apply Ext.drew | apply Ext.drewN | (refine Ext.trans ?_ (by assumption)))
  clear hWe
  refine (walk_timed #[.pointer (some ⟨w.heap.size + 1, 0, none⟩), .pointer (some ⟨pb, 0, none⟩)] (w.heap.size + 1) (fun b => b < w.heap.size) (fun b hb => by omega) (TInv B (fun b => b < w.heap.size) (w.heap.size + 1) pb vB) (fun x => wfS B.length x = true) (fun o n s l h => wfS_args o n s l h)
    (timed_part B _ _ pb (fun b hb => by omega) (by omega) vB) (fun L w o h => h.ext (World.block_lt_of_cell? w _ h.1) ((Ext.refl _).alloc _)) e [] _ W hwf'.out ⟨f0, z0, hwW.at hp'.out, hB'.out.ext hwW⟩ (hr'.out.ext hwW) (by omega)).mono ?_
  rintro r w1 ⟨⟨v, rfl⟩, hI, hg⟩
  have g0 := hI.1
  rw [List.nil_append, pre_timed] at g0
  have hw1 : Ext w w1 := Below.grown hwW hg (by omega) (fun k hk => by cases hk; omega)
  clear hI hg f0 z0
  go_wp2_with fail
  go_ret
  exact ⟨rfl, hw1⟩
theorem ex_bound {w : World} {S : Nat → Prop} (e : Ex) : ∀ (cs : List Value), Rd w S e.d cs → Rd w (fun b => b < w.heap.size) e.d cs := by
  induction e using Ex.ind with | h o n s l ih => ?_
  intro cs hr
  obtain ⟨A, cap, b, off, rfl, hl1, hl2, hl3, hm⟩ := Ex.open hr
  refine Ex.mk_rd (b1 := b) (off1 := off) hl1 hl2 (fun hl => ⟨(hl3 hl).1, ?_⟩) (RdM.of_get (sz := 4) _ _ _ (Ex.widths _) fun i hi => ?_)
  · obtain ⟨A1, cap1, b1, off1, c0, -⟩ := Ex.at hm hl
    exact World.block_lt_of_cell? w _ c0
  · obtain ⟨cs', h1, h2⟩ := RdM.get _ _ _ hm (Ex.widths _) i hi
    refine ⟨cs', h1, ?_⟩
    rw [List.getElem_map] at h2 ⊢
    exact ih _ (List.getElem_mem _) _ h2
theorem Rd.upb {w w' : World} {d : D} {cs : List Value} (h : Rd w (fun b => b < w.heap.size) d cs) (he : Ext w w') : Rd w' (fun b => b < w'.heap.size) d cs :=
  Rd.keep (Below.keeps he) (fun b hb => Nat.lt_of_lt_of_le hb he.size) d cs h
theorem own_set {w : World} {B : Nat} {e : TypeId} {size n : Nat} {v : Value} {xs : List Value} (h : w.ownsRow B e size v n xs) {p : Addr} (hp : p.block < B) (u : Value) : (w.setCell p u).ownsRow B e size v n xs := by
  refine ⟨h.1, ?_⟩
  rcases h.2 with h2 | ⟨g, cap, cur, hv, hg, hh, r⟩
  · exact Or.inl h2
  · exact Or.inr ⟨g, cap, cur, hv, hg, (Below.heap_setCell w p u g (by omega)).trans hh, r⟩
theorem cell_set {w : World} {p q : Addr} {u v : Value} (h : w.cell? q = some v) (hne : q.block ≠ p.block) : (w.setCell p u).cell? q = some v :=
  (World.cell?_of_block (Below.heap_setCell w p u q.block hne)).trans h
theorem own_form {w : World} {B : Nat} {e : TypeId} {size n : Nat} {v : Value} {xs : List Value} (h : w.ownsRow B e size v n xs) : ∃ A cap, v = .slice A n cap := by
  rcases h.2 with ⟨rfl, rfl⟩ | ⟨g, cap, cur, rfl, -⟩
  · exact ⟨none, 0, rfl⟩
  · exact ⟨_, cap, rfl⟩
set_option maxRecDepth 10000 in
set_option maxHeartbeats 2000000 in
theorem Timed_any (F : List Fn) (e : Ex) (S S1 : Nat → Prop) (vF : Value) (cs : List Value) (w : World) (hF : Rd w S1 (.sl (F.map Fn.d)) [vF]) (hr : Rd w S e.d cs) (hlen : F.length ≤ 1000000) (hwf : wfS F.length e = true) (hwF : ∀ i (h : i < F.length), wfS i F[i].body = true) :
    Calls Tryz.prog 14 #[vF, .agg cs.toArray] w fun r w' => r = .returned (.bool (timedP F e)) ∧ Ext w w' := by
  obtain ⟨A, cap, b, off, rfl, hl1, hl2, hl3, hm⟩ := Ex.open hr
  obtain ⟨AF, capF, bF, offF, rfl, F1, F2, F3, F4⟩ := Rd.sl_open hF
  simp only [List.length_map] at *
  have hr' := Lib.hid (ex_bound e _ hr); have F3' := Lib.hid F3; have F4' := Lib.hid F4; have hwF' := Lib.hid hwF; have hwf' := Lib.hid hwf
  clear hF hr hm hl3 F3 F4 hwF hwf
  go_enter Tryz.func14, Tryz.ntmps14
  go_wp2_with fail
  generalize hWe : World.alloc (World.alloc w _) _ = W
  have f0 : W.cell? ⟨w.heap.size + 1, 0, none⟩ = some (.slice none 0 0) := by rw [← hWe]; clear hWe; go_simp
  have z0 : W.frozen? ⟨w.heap.size + 1, 0, none⟩ = false := by rw [← hWe]; clear hWe; go_simp
  have e0 : W.cell? ⟨w.heap.size, 0, none⟩ = some (.int .i64 e.op) := by rw [← hWe]; clear hWe; go_simp
  have e1 : W.cell? ⟨w.heap.size, 1, none⟩ = some (.int .i64 e.n) := by rw [← hWe]; clear hWe; go_simp
  have e2 : W.cell? ⟨w.heap.size, 2, none⟩ = some (.string e.s) := by rw [← hWe]; clear hWe; go_simp
  have e3 : W.cell? ⟨w.heap.size, 3, none⟩ = some (.slice A e.args.length cap) := by rw [← hWe]; clear hWe; go_simp
  have hWs : W.heap.size = w.heap.size + 2 := by rw [← hWe]; clear hWe; go_simp
  have hwW : Ext w W := by rw [← hWe]; exact (by repeat' first | exact Ext.refl _ | assumption | apply Ext.alloc | apply Ext.drew | apply Ext.drewN | (refine Ext.trans ?_ (by assumption)))
  clear hWe
  have hE1 := Lib.hid (And.intro e0 (And.intro e1 (And.intro e2 e3)))
  clear e0 e1 e2 e3
  go_loopw [12] (fun i wr => ∃ (k : Nat) (B : List Bool) (x : Value), k ≤ F.length ∧ i = .int .i64 k ∧ B.length = k ∧ wr.cell? ⟨w.heap.size + 1, 0, none⟩ = some x ∧ wr.frozen? ⟨w.heap.size + 1, 0, none⟩ = false ∧ wr.ownsRow (w.heap.size + 2) 4 1 x k (B.map Value.bool) ∧ Hid (bodiesT [] F = bodiesT B (F.drop k)) ∧
      Hid (wr.cell? ⟨w.heap.size, 0, none⟩ = some (.int .i64 e.op) ∧ wr.cell? ⟨w.heap.size, 1, none⟩ = some (.int .i64 e.n) ∧ wr.cell? ⟨w.heap.size, 2, none⟩ = some (.string e.s) ∧ wr.cell? ⟨w.heap.size, 3, none⟩ = some (.slice A e.args.length cap)) ∧ w.heap.size + 2 ≤ wr.heap.size ∧ Ext w wr) (fun i _ => F.length - (RowKit.intOf i).toNat)
  case atStart => exact ⟨0, [], _, by omega, rfl, rfl, f0, z0, World.ownsRow_nil _ _ _ _, Lib.hid rfl, hE1, by omega, hwW⟩
  case round =>
    obtain ⟨k, B, x, hk, rfl, hBk, hx, hz, hown, HH, hE, hsz, hb⟩ := hrel
    subst hBk
    have hR := own_bools (S := fun b => b < wr.heap.size) hown (fun b hb => (hown.lt b hb).2)
    have hR' := Lib.hid hR
    have hx0 := Lib.hid hx
    have hown' := Lib.hid hown
    clear hR
    by_cases hlt : B.length < F.length
    · obtain ⟨rfl, hSb⟩ := F3'.out (by omega)
      obtain ⟨A1, cap1, b1, off1, A2, cap2, b2, off2, c0, c1, c2, c3, c4, c5, c6, hr0, q1, q2, q3, q4, q5, q6, q7, q8⟩ := Fn.at (F4'.out.ext (fun _ => hSb) hb) hlt
      have hbod := Lib.hid (ex_bound _ _ (Ex.mk_rd q5 q6 q7 q8))
      have hwb := hwF'.out B.length hlt
      have hSb' := Lib.hid hSb
      clear hr0 q3 q4 q5 q7 q8 hSb hown
      go_wp2_with fail
      generalize hWe : World.alloc wr _ = W1
      have hw1 : Ext wr W1 := by rw [← hWe]; exact (by repeat' first | exact Ext.refl _ | assumption | apply Ext.alloc | apply Ext.drew | apply Ext.drewN | (refine Ext.trans ?_ (by assumption)))
      have t3 : W1.cell? ⟨wr.heap.size, 3, none⟩ = some (.int .i64 F[B.length].body.op) := by rw [← hWe]; clear hWe; go_simp
      have t4 : W1.cell? ⟨wr.heap.size, 4, none⟩ = some (.int .i64 F[B.length].body.n) := by rw [← hWe]; clear hWe; go_simp
      have t5 : W1.cell? ⟨wr.heap.size, 5, none⟩ = some (.string F[B.length].body.s) := by rw [← hWe]; clear hWe; go_simp
      have t6 : W1.cell? ⟨wr.heap.size, 6, none⟩ = some (.slice A2 F[B.length].body.args.length cap2) := by rw [← hWe]; clear hWe; go_simp
      have hx1 := hw1.at hx
      clear hWe hx
      have ghx1 := ExtW.at hx1
      have gt3 := ExtW.at t3
      have gt4 := ExtW.at t4
      have gt5 := ExtW.at t5
      have gt6 := ExtW.at t6
      refine wp_region_mixed_ext 4 6 (by decide) (by kernel_rfl) (by kernel_rfl) (by kernel_rfl) ?_
      simp only [List.take_succ_cons, List.take_zero, List.drop_succ_cons, List.drop_zero, List.take_nil, List.drop_nil]
      refine qdv (by rfl) (by (rintro _ ⟨x, rfl⟩; go_simp; try (with_reducible rfl))) ?_
      try simp only [Act.put, List.setIfInBounds_toArray, List.set_cons_zero, List.set_cons_succ]
      refine qdv (by rfl) (by (rintro _ ⟨x, rfl⟩; go_simp; try (with_reducible rfl))) ?_
      try simp only [Act.put, List.setIfInBounds_toArray, List.set_cons_zero, List.set_cons_succ]
      refine qdv (by rfl) (by (rintro _ ⟨x, rfl⟩; go_simp; try (with_reducible rfl))) ?_
      try simp only [Act.put, List.setIfInBounds_toArray, List.set_cons_zero, List.set_cons_succ]
      refine qdv (by rfl) (by (rintro _ ⟨x, rfl⟩; go_simp; try (with_reducible rfl))) ?_
      try simp only [Act.put, List.setIfInBounds_toArray, List.set_cons_zero, List.set_cons_succ]
      refine wpReads_nil ?_
      refine wpSpec_cons (by rfl) (fun K hK => ?_)
      go_simp
      refine (timedfn_any B F[B.length].body hwb (w.heap.size + 1) x _ _ ((hw1.trans (Ext.refl _).drew).at hx0.out) ?_ ?_).mono ?_
      · exact hR'.out.upb (hw1.trans (Ext.refl _).drew)
      · exact hbod.out.upb (hw1.trans (Ext.refl _).drew)
      rintro r w2 ⟨rfl, he⟩
      refine hK.out _ _ (ext_in ((Ext.refl W1).drew.trans he)) ?_
      try simp only [Act.put, List.setIfInBounds_toArray, List.set_cons_zero, List.set_cons_succ]
      clear hK K
      refine wpSpec_cons (by rfl) (fun K hK => ?_)
      go_simp
      refine hK.out _ _ (ext_in (((Ext.refl W1).drew.trans he).alloc _)) ?_
      try simp only [Act.put, List.setIfInBounds_toArray, List.set_cons_zero, List.set_cons_succ]
      clear hK K
      refine wpSpec_nil ?_
      have he2 : Ext wr w2 := hw1.trans ((Ext.refl W1).drew.trans he)
      have hown2 := own_ext hown'.out he2
      have hsz2 : w.heap.size + 2 ≤ w2.heap.size := Nat.le_trans hsz he2.size
      refine wp_append1 _ _ _ rfl _ _ _ rfl (w.heap.size + 2) 4 1 1 _ Tryz.underlying54 infoBool rfl (by decide) (by decide) _ _ _ rfl hown2 (by simp [Act.eval]) rfl (by intro u hu; simp at hu; subst hu; rfl) (by omega) hsz2 ?_
      intro v' w3 hown3 hg hnn
      have hne : ∀ b, b < w.heap.size + 2 → some b ≠ x.ownBlock := fun b hb hx2 => by have := (hown2.lt b hx2.symm).1; omega
      obtain ⟨A3, cap3, rfl⟩ := own_form hown3
      have p0 : w3.cell? ⟨w.heap.size + 1, 0, none⟩ = some x := qdh hg (he2.at hx0.out) (hne _ (by dsimp only; omega))
      have pz : w3.frozen? ⟨w.heap.size + 1, 0, none⟩ = false := (grown_frozen hg (World.block_lt_of_cell? w2 _ (he2.at hx0.out)) (hne _ (by dsimp only; omega))).trans ((he2.frozens _ _ (World.block_lt_of_cell? wr _ hx0.out)).trans hz)
      have hE3 := Lib.hid (And.intro (qdh hg (he2.at hE.out.1) (hne _ (by dsimp only; omega))) (And.intro (qdh hg (he2.at hE.out.2.1) (hne _ (by dsimp only; omega))) (And.intro (qdh hg (he2.at hE.out.2.2.1) (hne _ (by dsimp only; omega))) (qdh hg (he2.at hE.out.2.2.2) (hne _ (by dsimp only; omega))))))
      have hb3 : Ext w w3 := Below.grown (hb.trans he2) hg (by omega) (fun k hk => by have := (hown2.lt k hk).1; omega)
      have hsz3 : w.heap.size + 2 ≤ w3.heap.size := Nat.le_trans hsz2 hg.size
      have hown4 := Lib.hid hown3
      have HH2 := Lib.hid (show bodiesT [] F = bodiesT (B ++ [timE B F[B.length].body]) (F.drop (B.length + 1)) by rw [HH.out, List.drop_eq_getElem_cons hlt, bodiesT])
      clear hown2 hown3 hg hnn he t3 t4 t5 t6 hx1 ghx1 gt3 gt4 gt5 gt6 c0 c1 c2 c3 c4 c5 c6 hne
      go_wp2_with fail
      refine NoPanic.normal ?_
      go_wp2_with fail
      go_roundw
      case rel =>
        refine ⟨B.length + 1, B ++ [timE B F[B.length].body], .slice A3 (B.length + 1) cap3, by omega, by go_num, by simp, by go_simp, by go_simp, own_set (by simpa using hown4.out) (by dsimp only; omega) _, HH2, Lib.hid ?_, by simpa using hsz3, hb3.setCell (by dsimp only; omega) _⟩
        exact ⟨cell_set hE3.out.1 (by dsimp only; omega), cell_set hE3.out.2.1 (by dsimp only; omega), cell_set hE3.out.2.2.1 (by dsimp only; omega), cell_set hE3.out.2.2.2 (by dsimp only; omega)⟩
      case measure => simp [RowKit.intOf]; omega
    · have hkl : F.drop B.length = [] := List.drop_eq_nil_of_le (by omega)
      have H := Lib.hid (show timedP F e = timE B e by unfold timedP; rw [HH.out, hkl, bodiesT])
      have hBF : B.length = F.length := by omega
      have hwB := Lib.hid (show wfS B.length e = true by rw [hBF]; exact hwf'.out)
      obtain ⟨e0, e1, e2, e3⟩ := hE.out
      clear hkl hBF
      go_wp2_with fail
      refine (timedfn_any B e hwB.out (w.heap.size + 1) x _ wr hx0.out hR'.out (hr'.out.upb hb)).mono ?_
      rintro r w2 ⟨rfl, he⟩
      go_wp2_with fail
      go_ret
      exact ⟨qbk (by rw [H.out]), hb.trans he⟩
end Go.Proofs.YtnkimlkoijfcpaaGreatDoor

/- Walks: Same, of the reference. -/
namespace Go.Proofs.YtnkimlkoijfcpaaGreatDoor
open Go.RowKit Go.Lib
set_option maxRecDepth 10000 in
set_option maxHeartbeats 4000000 in
theorem rsame_any (a : Ex) : ∀ (e : Ex) (S S1 : Nat → Prop) (cs cs1 : List Value) (w : World), Rd w S a.d cs → Rd w S1 e.d cs1 → parts a ≤ 1000000 →
    Calls Tryz.prog 11 #[.agg cs.toArray, .agg cs1.toArray] w fun r w' => r = .returned (.bool (sameB a e)) ∧ Ext w w' := by
  induction a using Ex.ind with | h o n s l ih => ?_
  intro e S S1 cs cs1 w hr hr1 hpb
  obtain ⟨o2, n2, s2, l2⟩ := e
  obtain ⟨A, cap, b, off, rfl, hl1, hl2, hl3, hm⟩ := Ex.open hr
  obtain ⟨B, cap1, b1, off1, rfl, k1, k2, k3, km⟩ := Ex.open hr1
  have ih' := Lib.hid ih
  clear ih
  simp only [Ex.args, Ex.op, Ex.n, Ex.s] at hl1 hl2 hl3 hm k1 k2 k3 km ⊢
  have hll : l.length ≤ 1000000 := by rw [parts] at hpb; have := qbw l; omega
  have hl3' := Lib.hid hl3; have hm' := Lib.hid hm; have k3' := Lib.hid k3; have km' := Lib.hid km
  clear hr hr1 hl3 hm k3 km
  by_cases ho : o = o2
  · subst ho
    by_cases hn : n = n2
    · subst hn
      by_cases hs : s.toList = s2.toList
      · have hsb : (s.toList == s2.toList) = true := by simp [hs]
        by_cases hlen : l.length = l2.length
        · have H := Lib.hid (show sameB (.mk o n s l) (.mk o n s2 l2) = qby l l2 by rw [sameB]; simp [hs])
          have hlen' := Lib.hid hlen
          have hs' := Lib.hid hs
          have hbnd : l2.length ≤ 1000000 := by omega
          have hlb : ((l.length : Int) != (l2.length : Int)) = false := by simp [hlen]
          clear hs
          go_enter Tryz.func11, Tryz.ntmps11
          go_wp2_with fail
          generalize hWe : World.alloc (World.alloc w _) _ = W
          have e3 : W.cell? ⟨w.heap.size, 3, none⟩ = some (.slice A l.length cap) := by rw [← hWe]; clear hWe; go_simp
          have d3 : W.cell? ⟨w.heap.size + 1, 3, none⟩ = some (.slice B l2.length cap1) := by rw [← hWe]; clear hWe; go_simp
          have hwW : Ext w W := by rw [← hWe]; exact (by repeat' first | exact Ext.refl _ | assumption | apply Ext.alloc | apply Ext.drew | apply Ext.drewN | (refine Ext.trans ?_ (by assumption)))
          clear hWe hlb hlen
          go_loopw [5] (fun i wr => ∃ (k : Nat), k ≤ l.length ∧ i = .int .i64 k ∧ Hid (∀ (j : Nat) (h : j < l.length) (h2 : j < l2.length), j < k → sameB l[j] l2[j] = true) ∧ Ext W wr) (fun i _ => l.length - (RowKit.intOf i).toNat)
          case atStart => exact ⟨0, by omega, rfl, Lib.hid (fun j _ _ h => by omega), Ext.refl _⟩
          case round =>
            obtain ⟨k, hk, rfl, HH, hb⟩ := hrel
            replace e3 := hb.at e3
            replace d3 := hb.at d3
            have hw : Ext w wr := hwW.trans hb
            by_cases hk2 : k < l.length
            · have hk3 : k < l2.length := by have := hlen'.out; omega
              obtain ⟨rfl, hSb⟩ := hl3'.out (by omega)
              obtain ⟨rfl, hSb1⟩ := k3'.out (by omega)
              obtain ⟨A1, cp1, bb1, of1, c0, c1, c2, c3, hr', -⟩ := Ex.at (hm'.out.ext (fun _ => hSb) hw) hk2
              obtain ⟨A2, cp2, bb2, of2, q0, q1, q2, q3, hr2', -⟩ := Ex.at (km'.out.ext (fun _ => hSb1) hw) hk3
              have hpk : parts l[k] ≤ 1000000 := by rw [parts] at hpb; have := qbi l l[k] (List.getElem_mem hk2); omega
              have hcall := fun (w' : World) (h1 : Rd w' S l[k].d [.int .i64 l[k].op, .int .i64 l[k].n, .string l[k].s, .slice A1 l[k].args.length cp1]) (h2 : Rd w' S1 l2[k].d [.int .i64 l2[k].op, .int .i64 l2[k].n, .string l2[k].s, .slice A2 l2[k].args.length cp2]) => ih'.out l[k] (List.getElem_mem hk2) l2[k] S S1 _ _ w' h1 h2 hpk
              have hcall' := Lib.hid (fun (w' : World) (he : Ext wr w') => hcall w' (hr'.ext he) (hr2'.ext he))
              have hki : (k : Int) < (l.length : Int) := by omega
              have hki2 : (k : Int) < (l2.length : Int) := by omega
              clear hr' hr2' hSb hSb1 hcall
              cases hsk : sameB l[k] l2[k] with
              | false =>
                have H2 := Lib.hid (H.out.trans (sameBs_at l l2 k hk2 hk3 hsk))
                rw [hsk] at hcall'
                clear hsk H
                go_wp2_with fail
                have ge3 := ExtW.at e3
                have gd3 := ExtW.at d3
                have gc0 := ExtW.at c0
                have gc1 := ExtW.at c1
                have gc2 := ExtW.at c2
                have gc3 := ExtW.at c3
                have gq0 := ExtW.at q0
                have gq1 := ExtW.at q1
                have gq2 := ExtW.at q2
                have gq3 := ExtW.at q3
                refine qy (by kernel_rfl) (by kernel_rfl) ?_
                repeat (go_big_quiet_step (((go_at_call 11; exact Calls.ext_of (hcall'.out _ (ExtW.ext _))))))
                refine wpQuiet_nil ?_
                intro w2 he
                go_wp2_with fail
                go_ret
                exact ⟨qbk (by rw [H2.out]), hw.trans he⟩
              | true =>
                have HH2 := Lib.hid (show ∀ (j : Nat) (h : j < l.length) (h2 : j < l2.length), j < k + 1 → sameB l[j] l2[j] = true from fun j h h2 hj => by
                  by_cases hjk : j < k
                  · exact HH.out j h h2 hjk
                  · obtain rfl : j = k := by omega
                    exact hsk)
                rw [hsk] at hcall'
                clear hsk
                go_wp2_with fail
                have ge3 := ExtW.at e3
                have gd3 := ExtW.at d3
                have gc0 := ExtW.at c0
                have gc1 := ExtW.at c1
                have gc2 := ExtW.at c2
                have gc3 := ExtW.at c3
                have gq0 := ExtW.at q0
                have gq1 := ExtW.at q1
                have gq2 := ExtW.at q2
                have gq3 := ExtW.at q3
                refine qy (by kernel_rfl) (by kernel_rfl) ?_
                repeat (go_big_quiet_step (((go_at_call 11; exact Calls.ext_of (hcall'.out _ (ExtW.ext _))))))
                refine wpQuiet_nil ?_
                intro w2 he
                go_wp2_with fail
                go_roundw
                case rel => exact ⟨k + 1, by omega, by go_num, HH2, hb.trans he⟩
                case measure => simp [RowKit.intOf]; omega
            · have hkl : k = l.length := by omega
              subst hkl
              have H2 := Lib.hid (H.out.trans (sameBs_all l l2 hlen'.out (fun k h h2 => HH.out k h h2 h)))
              clear H
              go_wp2_with fail
              go_ret
              exact ⟨qbk (by rw [H2.out]), hw⟩
        · have H := Lib.hid (show sameB (.mk o n s l) (.mk o n s2 l2) = false by rw [sameB, sameBs_len l l2 hlen]; simp)
          have hlb : ((l.length : Int) != (l2.length : Int)) = true := by simp; omega
          have hlb2 : ¬ (l.length : Int) = (l2.length : Int) := by omega
          clear hlen hs
          go_enter Tryz.func11, Tryz.ntmps11
          go_wp2_with fail
          go_ret
          exact ⟨qbk (by rw [H.out]), (by repeat' first | exact Ext.refl _ | assumption | apply Ext.alloc | apply Ext.drew | apply Ext.drewN | (refine Ext.trans ?_ (by assumption)))⟩
      · have hsb : (s.toList == s2.toList) = false := by simp [hs]
        have H := Lib.hid (show sameB (.mk o n s l) (.mk o n s2 l2) = false by rw [sameB]; simp [hs])
        clear hs
        go_enter Tryz.func11, Tryz.ntmps11
        go_wp2_with fail
        go_ret
        exact ⟨qbk (by rw [H.out]), (by repeat' first | exact Ext.refl _ | assumption | apply Ext.alloc | apply Ext.drew | apply Ext.drewN | (refine Ext.trans ?_ (by assumption)))⟩
    · have H := Lib.hid (show sameB (.mk o n s l) (.mk o n2 s2 l2) = false by rw [sameB]; simp [hn])
      have hb2 : (n != n2) = true := by simp [hn]
      go_enter Tryz.func11, Tryz.ntmps11
      go_wp2_with fail
      go_ret
      exact ⟨qbk (by rw [H.out]), (by repeat' first | exact Ext.refl _ | assumption | apply Ext.alloc | apply Ext.drew | apply Ext.drewN | (refine Ext.trans ?_ (by assumption)))⟩
  · have H := Lib.hid (show sameB (.mk o n s l) (.mk o2 n2 s2 l2) = false by rw [sameB]; simp [ho])
    have hb2 : (o != o2) = true := by simp [ho]
    go_enter Tryz.func11, Tryz.ntmps11
    go_wp2_with fail
    go_ret
    exact ⟨qbk (by rw [H.out]), (by repeat' first | exact Ext.refl _ | assumption | apply Ext.alloc | apply Ext.drew | apply Ext.drewN | (refine Ext.trans ?_ (by assumption)))⟩
end Go.Proofs.YtnkimlkoijfcpaaGreatDoor
