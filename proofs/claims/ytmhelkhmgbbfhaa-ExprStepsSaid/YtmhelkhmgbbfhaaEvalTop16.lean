/- Walk: expr.Eval. -/
import Derived.Test.YtmhelkhmgbbfhaaEvalP16
namespace Go.Proofs.Ytmhelkhmgbbfhaa
open Go.RowKit Go.Lib

theorem eval_any (F : List Fn) (time : Int) (hOk : ∀ i, i < F.length → okF F i = true) (hFp : ∀ f ∈ F, parts f.body ≤ 1000000) : ∀ (m : Nat) (e : Ex), EvalOk F time m e := by
  intro m
  induction m with
  | zero => exact fun e => eval_step F time 0 hOk hFp (fun m' h => by omega) e
  | succ m ih => exact fun e => eval_step F time (m + 1) hOk hFp (fun m' h => by obtain rfl : m' = m := by omega
                                                                                 exact ih) e

/-- the value of an expression for a row -/
def evalP (F : List Fn) (time : Int) (R : List Val) (e : Ex) : Val := ev (callN F time F.length) time R [] e

set_option maxHeartbeats 1000000 in
theorem Eval_any (F : List Fn) (time : Int) (R : List Val) (e : Ex) (t : Int) (hOk : ∀ i, i < F.length → okF F i = true) (hFp : ∀ f ∈ F, parts f.body ≤ 1000000) (hpb : parts e ≤ 1000000) (ht : ty F (R.map Val.k) [] e = some t) (hR : ∀ v ∈ R, soundV v)
    (vF vR : Value) (cs : List Value) (w : World) (hF : Rd w Any (.sl (F.map Fn.d)) [vF]) (hRr : Rd w Any (.sl (R.map Val.d)) [vR]) (hr : Rd w Any e.d cs) :
    Calls Try.prog 13 #[vF, .agg cs.toArray, .int .i64 time, vR] w fun r w' => r = .returned (evalP F time R e).v ∧ Ext w w' := by
  have hc := fun w (h1 : Rd w Any (.sl (F.map Fn.d)) [vF]) h2 h3 h4 => eval_any F time hOk hFp F.length e (R.map Val.k) [] R [] t vF vR (.slice none 0 0) cs w (by rw [List.take_length]; exact ht) rfl rfl hR (by simp) hpb h1 h2 h3 h4
  obtain ⟨AF, capF, bF, offF, rfl, F1, F2, F3, F4⟩ := Rd.sl_open hF
  obtain ⟨AR, capR, bR, offR, rfl, R1, R2, R3, R4⟩ := Rd.sl_open hRr
  obtain ⟨A, cap, b, off, rfl, hl1, hl2, hl3, hm⟩ := Ex.open hr
  simp only [List.length_map] at *
  have hev : ev (callN F time F.length) time R [] e = evalP F time R e := rfl
  rw [hev] at hc
  generalize evalP F time R e = Z at *
  obtain ⟨kz, nz, sz⟩ := Z
  simp only [Val.v, frameV] at *
  have hc' := Lib.hid hc; have hF' := Lib.hid hF; have hR' := Lib.hid hRr; have hr' := Lib.hid hr
  clear hc hF hRr hr hm hl3 F3 F4 R3 R4 hev hR ht hFp hOk hpb
  go_enter Try.func13, Try.ntmps13
  go_wp2_with fail
  refine (hc'.out _ (hF'.out.ext (by repeat' first | exact Ext.refl _ | assumption | apply Ext.alloc | apply Ext.drew | apply Ext.drewN | (refine Ext.trans ?_ (by assumption)))) (hR'.out.ext (by repeat' first | exact Ext.refl _ | assumption | apply Ext.alloc | apply Ext.drew | apply Ext.drewN | (refine Ext.trans ?_ (by assumption)))) (Rd.nil none (by omega)) (hr'.out.ext (by repeat' first | exact Ext.refl _ | assumption | apply Ext.alloc | apply Ext.drew | apply Ext.drewN | (refine Ext.trans ?_ (by assumption))))).mono ?_
  rintro r w1 ⟨rfl, he⟩
  have f0 : w1.cell? ⟨w.heap.size + 1, 0, none⟩ = some (.int .i64 0) := he.at (by go_simp)
  have f1 : w1.cell? ⟨w.heap.size + 1, 1, none⟩ = some (.int .i64 0) := he.at (by go_simp)
  have f2 : w1.cell? ⟨w.heap.size + 1, 2, none⟩ = some (.string ByteArray.empty) := he.at (by go_simp; rfl)
  have z0 : w1.frozen? ⟨w.heap.size + 1, 0, none⟩ = false := (he.frozens _ _ (by go_simp)).trans (by go_simp)
  have z1 : w1.frozen? ⟨w.heap.size + 1, 1, none⟩ = false := (he.frozens _ _ (by go_simp)).trans (by go_simp)
  have z2 : w1.frozen? ⟨w.heap.size + 1, 2, none⟩ = false := (he.frozens _ _ (by go_simp)).trans (by go_simp)
  have hw : Ext w w1 := ((Ext.refl w).alloc _ |>.alloc _).trans he
  clear he
  go_wp2_with fail
  exact bodyPost_ret (v := .agg #[.int .i64 kz, .int .i64 nz, .string sz]) (by simp [results, Try.results13, go_sem, f0, f1, f2]) rfl ⟨rfl, ext_three hw _ (by omega) _ _ _⟩
end Go.Proofs.Ytmhelkhmgbbfhaa
