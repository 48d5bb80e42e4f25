/- Walk: (frame).eval: what it is shown to do; a choice. -/
import Derived.Test.YtmhelkhmgbbfhaaEval16
import Derived.Test.YtmhelkhmgbbfhaaQuietTail
namespace Go.Proofs.Ytmhelkhmgbbfhaa
open Go.RowKit Go.Lib

def frameV (vF : Value) (time : Int) (vR vP : Value) : Value := .agg #[vF, .int .i64 time, vR, vP]

/-- what eval is shown to do with an expression -/
def EvalOk (F : List Fn) (time : Int) (m : Nat) (e : Ex) : Prop :=
  ∀ (c p : List Int) (R P : List Val) (t : Int) (vF vR vP : Value) (cs : List Value) (w : World), ty (F.take m) c p e = some t → R.map Val.k = c → P.map Val.k = p → (∀ v ∈ R, soundV v) → (∀ v ∈ P, soundV v) → parts e ≤ 1000000 →
    Rd w Any (.sl (F.map Fn.d)) [vF] → Rd w Any (.sl (R.map Val.d)) [vR] → Rd w Any (.sl (P.map Val.d)) [vP] → Rd w Any e.d cs →
    Calls Try.prog 42 #[frameV vF time vR vP, .agg cs.toArray] w fun r w' => r = .returned (ev (callN F time m) time R P e).v ∧ Ext w w'

theorem if_args {F : List Fn} {c p : List Int} {n : Int} {s : ByteArray} {l : List Ex} {t : Int} (h : ty F c p (.mk 21 n s l) = some t) :
    ∃ a b d, l = [a, b, d] ∧ ty F c p a = some 2 ∧ ty F c p b = some t ∧ ty F c p d = some t := by
  rw [ty] at h
  cases hl : tys F c p l with
  | none => rw [hl] at h; cases h
  | some ts =>
    rw [hl] at h
    dsimp only at h
    unfold tailT at h
    split at h
    · cases h
    split at h
    · rename_i h2; omega
    split at h
    · unfold leafT at h; simp at h
    · unfold operT at h
      simp only [show ¬ ((21 : Int) = 6) by decide, show ¬ ((21 : Int) = 7) by decide, show ¬ ((21 : Int) = 20) by decide, if_false] at h
      split at h
      · cases h
      rw [if_neg (by omega), if_neg (by omega), if_neg (by omega), if_neg (by omega), if_pos trivial] at h
      split at h
      · rename_i x y z
        split at h
        · rename_i hxy
          obtain ⟨rfl, rfl⟩ := hxy
          cases h
          match l, hl with
          | [a, b, d], hl =>
            simp only [tys] at hl
            cases ha : ty F c p a <;> rw [ha] at hl <;> try (cases hl; done)
            cases hb : ty F c p b <;> rw [hb] at hl <;> try (cases hl; done)
            cases hd : ty F c p d <;> rw [hd] at hl <;> try (cases hl; done)
            simp at hl
            obtain ⟨rfl, rfl, rfl⟩ := hl
            exact ⟨a, b, d, rfl, ha, hb, hd⟩
          | [], hl => simp [tys] at hl
          | [a], hl => simp only [tys] at hl; cases ha : ty F c p a <;> rw [ha] at hl <;> simp at hl
          | [a, b], hl =>
            simp only [tys] at hl
            cases ha : ty F c p a <;> rw [ha] at hl <;> try (cases hl; done)
            cases hb : ty F c p b <;> rw [hb] at hl <;> simp at hl
          | a :: b :: d :: e :: r, hl =>
            have := hl
            rw [tys] at this
            cases ha : ty F c p a <;> rw [ha] at this <;> try (cases this; done)
            rw [tys] at this
            cases hb : ty F c p b <;> rw [hb] at this <;> try (cases this; done)
            rw [tys] at this
            cases hd : ty F c p d <;> rw [hd] at this <;> try (cases this; done)
            rw [tys] at this
            cases he : ty F c p e <;> rw [he] at this <;> try (cases this; done)
            cases hr : tys F c p r <;> rw [hr] at this <;> simp at this
        · cases h
      · cases h

set_option maxRecDepth 10000 in
set_option maxHeartbeats 1000000 in
theorem eval_if (F : List Fn) (time : Int) (m : Nat) (n : Int) (s : ByteArray) (l : List Ex) (ih : ∀ x ∈ l, EvalOk F time m x) : EvalOk F time m (.mk 21 n s l) := by
  intro c p R P t vF vR vP cs w ht hR hP hsR hsP hpb hF hRr hPr hr
  obtain ⟨A, cap, b, off, rfl, hl1, hl2, hl3, hm⟩ := Ex.open hr
  simp only [Ex.args, Ex.op, Ex.n, Ex.s] at *
  obtain ⟨x, y, z, rfl, tx, tyy, tz⟩ := if_args ht
  obtain ⟨rfl, -⟩ := hl3 (by simp)
  obtain ⟨A1, cap1, b1, off1, c0, c1, c2, c3, hr1, -⟩ := Ex.at hm (k := 0) (by simp)
  obtain ⟨A2, cap2, b2, off2, d0, d1, d2, d3, hr2, -⟩ := Ex.at hm (k := 1) (by simp)
  obtain ⟨A3, cap3, b3, off3, q0, q1, q2, q3, hr3, -⟩ := Ex.at hm (k := 2) (by simp)
  simp only [List.getElem_cons_zero, List.getElem_cons_succ, List.length_cons, List.length_nil, Nat.zero_mul, Nat.one_mul, Nat.add_zero, Nat.reduceAdd, Nat.reduceMul, Nat.zero_add] at *
  have hx := fun cs w (h1 : Rd w Any (.sl (F.map Fn.d)) [vF]) h2 h3 h4 => ih x (by simp) c p R P _ vF vR vP cs w tx hR hP hsR hsP (by rw [parts] at hpb; have := partsL_mem [x, y, z] x (by simp); omega) h1 h2 h3 h4
  have hy := fun cs w (h1 : Rd w Any (.sl (F.map Fn.d)) [vF]) h2 h3 h4 => ih y (by simp) c p R P _ vF vR vP cs w tyy hR hP hsR hsP (by rw [parts] at hpb; have := partsL_mem [x, y, z] y (by simp); omega) h1 h2 h3 h4
  have hz := fun cs w (h1 : Rd w Any (.sl (F.map Fn.d)) [vF]) h2 h3 h4 => ih z (by simp) c p R P _ vF vR vP cs w tz hR hP hsR hsP (by rw [parts] at hpb; have := partsL_mem [x, y, z] z (by simp); omega) h1 h2 h3 h4
  have H := Lib.hid (show ev (callN F time m) time R P (.mk 21 n s [x, y, z]) = if (ev (callN F time m) time R P x).n = 1 then ev (callN F time m) time R P y else ev (callN F time m) time R P z by
    rw [ev, if_pos rfl]; simp only [evs]; rfl)
  generalize ev (callN F time m) time R P x = X at *
  generalize ev (callN F time m) time R P y = Y at *
  generalize ev (callN F time m) time R P z = Z at *
  obtain ⟨kx, nx, sx⟩ := X
  obtain ⟨ky, ny, sy⟩ := Y
  obtain ⟨kz, nz, sz⟩ := Z
  simp only [Val.v, frameV] at hx hy hz
  have hF' := Lib.hid hF; have hR' := Lib.hid hRr; have hP' := Lib.hid hPr
  have hr1' := Lib.hid hr1; have hr2' := Lib.hid hr2; have hr3' := Lib.hid hr3
  have hx' := Lib.hid hx; have hy' := Lib.hid hy; have hz' := Lib.hid hz
  clear hF hRr hPr hr hr1 hr2 hr3 hx hy hz hm hl3 ih hpb ht hsR hsP hR hP tx tyy tz
  simp only [frameV]
  have hfd : ∀ W : World, (Instr.field 34 (.agg #[.int .i64 kx, .int .i64 nx, .string sx]) 1).run Try.prog W = .ok (.int .i64 nx) W := fun _ => by kernel_rfl
  go_enter Try.func42, Try.ntmps42
  go_wp2_with fail
  generalize hWe : World.alloc (World.alloc (World.alloc w _) _) _ = W
  have s0 : W.cell? ⟨w.heap.size, 0, none⟩ = some vF := by rw [← hWe]; clear hWe; go_simp
  have s1 : W.cell? ⟨w.heap.size, 1, none⟩ = some (.int .i64 time) := by rw [← hWe]; clear hWe; go_simp
  have s2 : W.cell? ⟨w.heap.size, 2, none⟩ = some vR := by rw [← hWe]; clear hWe; go_simp
  have s3 : W.cell? ⟨w.heap.size, 3, none⟩ = some vP := by rw [← hWe]; clear hWe; go_simp
  have e3 : W.cell? ⟨w.heap.size + 1, 3, none⟩ = some (.slice (some ⟨b, off, none⟩) 3 cap) := by rw [← hWe]; clear hWe; go_simp
  have f0 : W.cell? ⟨w.heap.size + 2, 0, none⟩ = some (.int .i64 0) := by rw [← hWe]; clear hWe; go_simp
  have f1 : W.cell? ⟨w.heap.size + 2, 1, none⟩ = some (.int .i64 0) := by rw [← hWe]; clear hWe; go_simp
  have f2 : W.cell? ⟨w.heap.size + 2, 2, none⟩ = some (.string ByteArray.empty) := by rw [← hWe]; clear hWe; go_simp; rfl
  have z0 : W.frozen? ⟨w.heap.size + 2, 0, none⟩ = false := by rw [← hWe]; clear hWe; go_simp
  have z1 : W.frozen? ⟨w.heap.size + 2, 1, none⟩ = false := by rw [← hWe]; clear hWe; go_simp
  have z2 : W.frozen? ⟨w.heap.size + 2, 2, none⟩ = false := by rw [← hWe]; clear hWe; go_simp
  have hlt : w.heap.size + 2 < W.heap.size := by rw [← hWe]; clear hWe; go_simp
  have hw : Ext w W := by rw [← hWe]; exact (by repeat' first | exact Ext.refl _ | assumption | apply Ext.alloc | apply Ext.drew | apply Ext.drewN | (refine Ext.trans ?_ (by assumption)))
  clear hWe
  have c0 := hw.at c0
  have c1 := hw.at c1
  have c2 := hw.at c2
  have c3 := hw.at c3
  have d0 := hw.at d0
  have d1 := hw.at d1
  have d2 := hw.at d2
  have d3 := hw.at d3
  have q0 := hw.at q0
  have q1 := hw.at q1
  have q2 := hw.at q2
  have q3 := hw.at q3
  have gs0 := ExtW.at s0
  have gs1 := ExtW.at s1
  have gs2 := ExtW.at s2
  have gs3 := ExtW.at s3
  have ge3 := ExtW.at e3
  have gc0 := ExtW.at c0
  have gc1 := ExtW.at c1
  have gc2 := ExtW.at c2
  have gc3 := ExtW.at c3
  refine wp_region_ext (by kernel_rfl) (by kernel_rfl) ?_
  repeat (go_big_quiet_step (((go_at_call 42; exact Calls.ext_of (hx'.out _ _ (hF'.out.ext (hw.trans (ExtW.ext _))) (hR'.out.ext (hw.trans (ExtW.ext _))) (hP'.out.ext (hw.trans (ExtW.ext _))) (hr1'.out.ext (hw.trans (ExtW.ext _))))))))
  refine wpQuiet_nil ?_
  intro w1 he
  by_cases hX : nx = 1
  · subst hX
    have H2 := Lib.hid (H.out.trans (if_pos rfl))
    clear H
    have s0 := he.at s0
    have s1 := he.at s1
    have s2 := he.at s2
    have s3 := he.at s3
    have e3 := he.at e3
    have d0 := he.at d0
    have d1 := he.at d1
    have d2 := he.at d2
    have d3 := he.at d3
    have gs0 := ExtW.at s0
    have gs1 := ExtW.at s1
    have gs2 := ExtW.at s2
    have gs3 := ExtW.at s3
    have ge3 := ExtW.at e3
    have gd0 := ExtW.at d0
    have gd1 := ExtW.at d1
    have gd2 := ExtW.at d2
    have gd3 := ExtW.at d3
    go_wp2_with fail
    refine wp_region_ext_tail 6 (by kernel_rfl) (by kernel_rfl) ?_
    simp only [List.take_succ_cons, List.take_zero, List.drop_succ_cons, List.drop_zero]
    repeat (go_big_quiet_step (((go_at_call 42; exact Calls.ext_of (hy'.out _ _ (hF'.out.ext ((hw.trans he).trans (ExtW.ext _))) (hR'.out.ext ((hw.trans he).trans (ExtW.ext _))) (hP'.out.ext ((hw.trans he).trans (ExtW.ext _))) (hr2'.out.ext ((hw.trans he).trans (ExtW.ext _))))))))
    refine wpQuiet_nil ?_
    intro w2 he2
    have he3 := he.trans he2
    replace f0 := he3.at f0
    replace f1 := he3.at f1
    replace f2 := he3.at f2
    replace z0 := (he3.frozens _ _ hlt).trans z0
    replace z1 := (he3.frozens _ _ hlt).trans z1
    replace z2 := (he3.frozens _ _ hlt).trans z2
    have hw2 : Ext w w2 := hw.trans he3
    go_wp2_with fail
    exact bodyPost_ret (v := .agg #[.int .i64 ky, .int .i64 ny, .string sy]) (by simp [results, Try.results42, go_sem, f0, f1, f2]) rfl ⟨by rw [H2.out]; rfl, ext_three hw2 _ (by omega) _ _ _⟩
  · have hXb : (nx == 1) = false := by simp [hX]
    have H2 := Lib.hid (H.out.trans (if_neg hX))
    clear H
    have s0 := he.at s0
    have s1 := he.at s1
    have s2 := he.at s2
    have s3 := he.at s3
    have e3 := he.at e3
    have q0 := he.at q0
    have q1 := he.at q1
    have q2 := he.at q2
    have q3 := he.at q3
    have gs0 := ExtW.at s0
    have gs1 := ExtW.at s1
    have gs2 := ExtW.at s2
    have gs3 := ExtW.at s3
    have ge3 := ExtW.at e3
    have gq0 := ExtW.at q0
    have gq1 := ExtW.at q1
    have gq2 := ExtW.at q2
    have gq3 := ExtW.at q3
    go_wp2_with fail
    refine wp_region_ext_tail 6 (by kernel_rfl) (by kernel_rfl) ?_
    simp only [List.take_succ_cons, List.take_zero, List.drop_succ_cons, List.drop_zero]
    repeat (go_big_quiet_step (((go_at_call 42; exact Calls.ext_of (hz'.out _ _ (hF'.out.ext ((hw.trans he).trans (ExtW.ext _))) (hR'.out.ext ((hw.trans he).trans (ExtW.ext _))) (hP'.out.ext ((hw.trans he).trans (ExtW.ext _))) (hr3'.out.ext ((hw.trans he).trans (ExtW.ext _))))))))
    refine wpQuiet_nil ?_
    intro w2 he2
    have he3 := he.trans he2
    replace f0 := he3.at f0
    replace f1 := he3.at f1
    replace f2 := he3.at f2
    replace z0 := (he3.frozens _ _ hlt).trans z0
    replace z1 := (he3.frozens _ _ hlt).trans z1
    replace z2 := (he3.frozens _ _ hlt).trans z2
    have hw2 : Ext w w2 := hw.trans he3
    go_wp2_with fail
    exact bodyPost_ret (v := .agg #[.int .i64 kz, .int .i64 nz, .string sz]) (by simp [results, Try.results42, go_sem, f0, f1, f2]) rfl ⟨by rw [H2.out]; rfl, ext_three hw2 _ (by omega) _ _ _⟩
end Go.Proofs.Ytmhelkhmgbbfhaa
