/- Walks: right functions and types, as the program finds them. -/
import Derived.Test.YtmhelkhmgbbfhaaGa1
import Derived.Test.YtmhelkhmgbbfhaaGa3
import Derived.Test.YtmhelkhmgbbfhaaGa4
set_option linter.unusedSimpArgs false
set_option linter.unusedVariables false
namespace Go.Proofs.Ytmhelkhmgbbfhaa
open Go.RowKit Go.Lib

set_option maxRecDepth 10000 in
set_option maxHeartbeats 1000000 in
theorem typed_any (F : List Fn) (c p : List Int) (e : Ex) (S S1 S2 S3 : Nat → Prop) (vF vc vp : Value) (cs : List Value) (w : World) (hF : Rd w S (.sl (F.map Fn.d)) [vF]) (hc : Rd w S1 (.sl (c.map D.int)) [vc]) (hp : Rd w S2 (.sl (p.map D.int)) [vp]) (hr : Rd w S3 e.d cs) (hbd : parts e ≤ 1000000) :
    Calls Try.prog 41 #[.agg #[vF, vc, vp], .agg cs.toArray] w fun r w' => r = .returned (.tuple #[.int .i64 ((tyD F c p e).getD 0), .bool (tyD F c p e).isSome]) ∧ Ext w w' := by
  obtain ⟨A, cap, b, off, rfl, hl1, hl2, hl3, hm⟩ := Ex.open hr
  have hF' := Lib.hid hF; have hc' := Lib.hid hc; have hp' := Lib.hid hp; have hr' := Lib.hid hr
  clear hF hc hp hr hm hl3
  have hlv := levels_bd hbd
  by_cases h12 : levels e > 12
  · have H := Lib.hid (show tyD F c p e = none by unfold tyD; rw [if_pos h12])
    go_enter Try.func41, Try.ntmps41
    go_wp2_with fail
    refine (levels_any e S3 _ _ (hr'.out.ext (by repeat' first | exact Ext.refl _ | assumption | apply Ext.alloc | apply Ext.drew | apply Ext.drewN | (refine Ext.trans ?_ (by assumption)))) hlv).mono ?_
    rintro r w1 ⟨rfl, he⟩
    go_wp2_with fail
    go_ret2
    exact ⟨by rw [H.out]; rfl, (by repeat' first | exact Ext.refl _ | assumption | apply Ext.alloc | apply Ext.drew | apply Ext.drewN | (refine Ext.trans ?_ (by assumption)))⟩
  · have H := Lib.hid (show tyD F c p e = ty F c p e by unfold tyD; rw [if_neg h12])
    go_enter Try.func41, Try.ntmps41
    go_wp2_with fail
    refine (levels_any e S3 _ _ (hr'.out.ext (by repeat' first | exact Ext.refl _ | assumption | apply Ext.alloc | apply Ext.drew | apply Ext.drewN | (refine Ext.trans ?_ (by assumption)))) hlv).mono ?_
    rintro r w1 ⟨rfl, he⟩
    have hcs := he.cells
    go_wp2_with fail
    refine (of_any F c p e S S1 S2 S3 vF vc vp _ _ (hF'.out.ext (by repeat' first | exact Ext.refl _ | assumption | apply Ext.alloc | apply Ext.drew | apply Ext.drewN | (refine Ext.trans ?_ (by assumption)))) (hc'.out.ext (by repeat' first | exact Ext.refl _ | assumption | apply Ext.alloc | apply Ext.drew | apply Ext.drewN | (refine Ext.trans ?_ (by assumption)))) (hp'.out.ext (by repeat' first | exact Ext.refl _ | assumption | apply Ext.alloc | apply Ext.drew | apply Ext.drewN | (refine Ext.trans ?_ (by assumption)))) (hr'.out.ext (by repeat' first | exact Ext.refl _ | assumption | apply Ext.alloc | apply Ext.drew | apply Ext.drewN | (refine Ext.trans ?_ (by assumption)))) hbd).mono ?_
    rintro r w2 ⟨⟨t, ok, rfl, hA⟩, he2⟩
    have hA' := Lib.hid hA; clear hA hcs
    cases ok
    all_goals
      go_wp2_with fail
      go_ret2
      exact ⟨by rw [H.out, ← hA'.out]; rfl, (by repeat' first | exact Ext.refl _ | assumption | apply Ext.alloc | apply Ext.drew | apply Ext.drewN | (refine Ext.trans ?_ (by assumption)))⟩

set_option maxRecDepth 10000 in
set_option maxHeartbeats 2000000 in
theorem right_any (F : List Fn) (S : Nat → Prop) (v : Value) (w : World) (hr : Rd w S (.sl (F.map Fn.d)) [v]) (hp : ∀ f ∈ F, parts f.body ≤ 1000000) :
    Calls Try.prog 32 #[v] w fun r w' => r = .returned (.bool (rightF F)) ∧ Ext w w' := by
  obtain ⟨A, cap, b, off, rfl, hl1, hl2, hl3, hm⟩ := Rd.sl_open hr
  simp only [List.length_map] at *
  have hp' := Lib.hid hp; have hl3' := Lib.hid hl3; have hm' := Lib.hid hm
  clear hp hr hl3 hm
  by_cases h20 : (F.length : Int) ≤ 20
  case neg =>
    have H := Lib.hid (show rightF F = false by unfold rightF; rw [decide_eq_false h20]; rfl)
    go_enter Try.func32, Try.ntmps32
    go_wp2_with fail
    go_ret
    exact ⟨ret_bool (by rw [H.out]), Ext.refl _⟩
  go_enter Try.func32, Try.ntmps32
  go_wp2_with fail
  go_loopw [13] (fun i wr => ∃ (k : Nat), k ≤ F.length ∧ i = .int .i64 k ∧ Hid (∀ j, j < k → okF F j = true) ∧ Ext w wr) (fun i _ => F.length - (intOf i).toNat)
  case atStart => exact ⟨0, by omega, rfl, Lib.hid (fun j h => absurd h (by omega)), Ext.refl _⟩
  case round =>
    obtain ⟨k, hk, rfl, HH, hw⟩ := hrel
    by_cases hlt : k < F.length
    case neg =>
      have hkl : k = F.length := by omega
      subst hkl
      have H := Lib.hid (show rightF F = true by rw [rightF_end HH.out, decide_eq_true h20])
      go_wp2_with fail
      go_ret
      exact ⟨ret_bool (by rw [H.out]), hw⟩
    obtain ⟨rfl, hSb⟩ := hl3'.out (by omega)
    obtain ⟨A1, cap1, b1, off1, A2, cap2, b2, off2, c0, c1, c2, c3, c4, c5, c6, hr', q1, q2, q3, q4, q5, q6, q7, q8⟩ := Fn.at (hm'.out.ext (fun _ => hSb) hw) hlt
    have hfun := Lib.hid (Rd.cut (k := k) (by simpa using hk) (by simpa using hl1) hl2 hSb (hm'.out.ext (fun _ => hSb) hw))
    have hpar := Lib.hid (Rd.sl_mk (w := wr) (S := S) (n := F[k].params.length) (l := F[k].params.map D.int) (by simp) (by simpa using q1) q2 (by simpa using q3) q4)
    have hbod := Lib.hid (Ex.mk_rd q5 q6 q7 q8)
    have hpb := hp'.out F[k] (List.getElem_mem hlt)
    have hok := Lib.hid (okF_at hlt)
    have hSb' := Lib.hid hSb
    clear hr' q3 q4 q5 q7 q8 hSb
    by_cases h6 : (F[k].params.length : Int) ≤ 6
    case neg =>
      have H := Lib.hid (rightF_false hlt (by rw [hok.out, decide_eq_false h6, Bool.and_false]))
      go_wp2_with fail
      go_ret
      exact ⟨ret_bool (by rw [H.out]), (by repeat' first | exact Ext.refl _ | assumption | apply Ext.alloc | apply Ext.drew | apply Ext.drewN | (refine Ext.trans ?_ (by assumption)))⟩
    have hany : F[k].params.any (fun n => !kindB n) = !F[k].params.all kindB := by rw [List.any_eq_not_all_not]; simp
    have hcf := fun (w' : World) (hw' : Ext wr w') => containsFunc_any F[k].params (fun n => !kindB n) 59 (fun a w => by kernel_rfl) #[] S _ w' (hpar.out.ext hw') (fun x w'' _ => wrongKind_any x w'')
    rw [hany] at hcf
    cases hall : F[k].params.all kindB with
    | false =>
      rw [hall] at hcf
      have hcf' := Lib.hid hcf
      have H := Lib.hid (rightF_false hlt (by rw [hok.out, hall]; rfl))
      clear hcf hany hall
      go_wp2_with fail
      refine (hcf'.out _ (by repeat' first | exact Ext.refl _ | assumption | apply Ext.alloc | apply Ext.drew | apply Ext.drewN | (refine Ext.trans ?_ (by assumption)))).mono ?_
      rintro r w1 ⟨rfl, he⟩
      go_wp2_with fail
      go_ret
      exact ⟨ret_bool (by rw [H.out]), (by repeat' first | exact Ext.refl _ | assumption | apply Ext.alloc | apply Ext.drew | apply Ext.drewN | (refine Ext.trans ?_ (by assumption)))⟩
    | true =>
      rw [hall] at hcf
      have hcf' := Lib.hid hcf
      have hall' := Lib.hid hall
      clear hcf hany hall
      have hcall := fun (x : World) (hx : Ext wr x) => typed_any (F.take k) [] F[k].params F[k].body S Any S S _ (.slice none 0 0) _ _ x (by simpa [List.map_take] using hfun.out.ext hx) (Rd.nil none (by omega)) (hpar.out.ext hx) (hbod.out.ext hx) hpb
      go_wp2_with fail
      refine (hcf'.out _ (by repeat' first | exact Ext.refl _ | assumption | apply Ext.alloc | apply Ext.drew | apply Ext.drewN | (refine Ext.trans ?_ (by assumption)))).mono ?_
      rintro r w1 ⟨rfl, he⟩
      have he9 : Ext wr w1 := ((Ext.refl _).alloc _).trans he
      have f1 : w1.cell? ⟨wr.heap.size, 1, none⟩ = some (.slice A1 F[k].params.length cap1) := he.at (by go_simp)
      have f2 : w1.cell? ⟨wr.heap.size, 2, none⟩ = some (.int .i64 F[k].res) := he.at (by go_simp)
      have f3 : w1.cell? ⟨wr.heap.size, 3, none⟩ = some (.int .i64 F[k].body.op) := he.at (by go_simp)
      have f4 : w1.cell? ⟨wr.heap.size, 4, none⟩ = some (.int .i64 F[k].body.n) := he.at (by go_simp)
      have f5 : w1.cell? ⟨wr.heap.size, 5, none⟩ = some (.string F[k].body.s) := he.at (by go_simp)
      have f6 : w1.cell? ⟨wr.heap.size, 6, none⟩ = some (.slice A2 F[k].body.args.length cap2) := he.at (by go_simp)
      have gf1 := ExtW.at f1
      have gf2 := ExtW.at f2
      have gf3 := ExtW.at f3
      have gf4 := ExtW.at f4
      have gf5 := ExtW.at f5
      have gf6 := ExtW.at f6
      cases hT : tyD (F.take k) [] F[k].params F[k].body with
      | none =>
        rw [hT] at hcall
        have hcall' := Lib.hid (fun x : ExtW w1 => hcall x.val (he9.trans x.ext))
        have H := Lib.hid (rightF_false hlt (by rw [hok.out, hT]; simp))
        clear hcall hT
        go_wp2_with fail
        refine wp_region_ext (by kernel_rfl) (by kernel_rfl) ?_
        repeat (go_big_quiet_step ((go_at_call 41; exact Calls.ext_of (hcall'.out _))))
        refine wpQuiet_nil ?_
        intro w2 he2
        go_wp2_with fail
        go_ret
        exact ⟨ret_bool (by rw [H.out]), (by repeat' first | exact Ext.refl _ | assumption | apply Ext.alloc | apply Ext.drew | apply Ext.drewN | (refine Ext.trans ?_ (by assumption)))⟩
      | some t =>
        rw [hT] at hcall
        have hcall' := Lib.hid (fun x : ExtW w1 => hcall x.val (he9.trans x.ext))
        by_cases ht : t = F[k].res
        · have H := Lib.hid (show okF F k = true by rw [hok.out, hT, hall'.out, ht, decide_eq_true h6]; simp)
          subst ht
          clear hcall hT
          go_wp2_with fail
          refine wp_region_ext (by kernel_rfl) (by kernel_rfl) ?_
          repeat (go_big_quiet_step ((go_at_call 41; exact Calls.ext_of (hcall'.out _))))
          refine wpQuiet_nil ?_
          intro w2 he2
          have f1 := he2.at f1
          have f2 := he2.at f2
          go_wp2_with fail
          go_roundw
          case rel => exact ⟨k + 1, by omega, by go_num, Lib.hid (fun i h => by rcases Nat.lt_succ_iff_lt_or_eq.1 h with h | rfl; exact HH.out i h; exact H.out), (hw.trans he9).trans he2⟩
          case measure => simp [intOf]; omega
        · have H := Lib.hid (rightF_false hlt (by rw [hok.out, hT]; simp [ht]))
          have ht' : (t != F[k].res) = true := by simp [ht]
          clear hcall hT
          go_wp2_with fail
          refine wp_region_ext (by kernel_rfl) (by kernel_rfl) ?_
          repeat (go_big_quiet_step ((go_at_call 41; exact Calls.ext_of (hcall'.out _))))
          refine wpQuiet_nil ?_
          intro w2 he2
          have f1 := he2.at f1
          have f2 := he2.at f2
          go_wp2_with fail
          go_ret
          exact ⟨ret_bool (by rw [H.out]), (by repeat' first | exact Ext.refl _ | assumption | apply Ext.alloc | apply Ext.drew | apply Ext.drewN | (refine Ext.trans ?_ (by assumption)))⟩

set_option maxHeartbeats 1000000 in
theorem type_any (F : List Fn) (c p : List Int) (e : Ex) (S S1 S2 S3 : Nat → Prop) (vF vc vp : Value) (cs : List Value) (w : World) (hF : Rd w S (.sl (F.map Fn.d)) [vF]) (hc : Rd w S1 (.sl (c.map D.int)) [vc]) (hp : Rd w S2 (.sl (p.map D.int)) [vp]) (hr : Rd w S3 e.d cs) (hbd : parts e ≤ 1000000) (hpF : ∀ f ∈ F, parts f.body ≤ 1000000) :
    Calls Try.prog 11 #[vF, vc, vp, .agg cs.toArray] w fun r w' => r = .returned (.tuple #[.int .i64 ((typeP F c p e).getD 0), .bool (typeP F c p e).isSome]) ∧ Ext w w' := by
  obtain ⟨A, cap, b, off, rfl, hl1, hl2, hl3, hm⟩ := Ex.open hr
  obtain ⟨x1, x2, x3, x4, rfl, -⟩ := Rd.sl_open hF
  obtain ⟨y1, y2, y3, y4, rfl, -⟩ := Rd.sl_open hc
  obtain ⟨z1, z2, z3, z4, rfl, -⟩ := Rd.sl_open hp
  simp only [List.length_map] at *
  have hF' := Lib.hid hF; have hc' := Lib.hid hc; have hp' := Lib.hid hp; have hr' := Lib.hid hr; have hpF' := Lib.hid hpF
  clear hF hc hp hr hm hl3 hpF
  cases hR : rightF F with
  | false =>
    have H := Lib.hid (show typeP F c p e = none by unfold typeP; rw [hR]; rfl)
    have hcall := right_any F S (.slice x1 F.length x2)
    rw [hR] at hcall
    have hcall' := Lib.hid hcall
    clear hcall hR
    go_enter Try.func11, Try.ntmps11
    go_wp2_with fail
    refine (hcall'.out _ (hF'.out.ext (by repeat' first | exact Ext.refl _ | assumption | apply Ext.alloc | apply Ext.drew | apply Ext.drewN | (refine Ext.trans ?_ (by assumption)))) hpF'.out).mono ?_
    rintro r w1 ⟨rfl, he⟩
    go_wp2_with fail
    go_ret2
    exact ⟨by rw [H.out]; rfl, (by repeat' first | exact Ext.refl _ | assumption | apply Ext.alloc | apply Ext.drew | apply Ext.drewN | (refine Ext.trans ?_ (by assumption)))⟩
  | true =>
    have H := Lib.hid (show typeP F c p e = tyD F c p e by unfold typeP; rw [hR]; rfl)
    have hcall := right_any F S (.slice x1 F.length x2)
    rw [hR] at hcall
    have hcall' := Lib.hid hcall
    clear hcall hR
    go_enter Try.func11, Try.ntmps11
    go_wp2_with fail
    refine (hcall'.out _ (hF'.out.ext (by repeat' first | exact Ext.refl _ | assumption | apply Ext.alloc | apply Ext.drew | apply Ext.drewN | (refine Ext.trans ?_ (by assumption)))) hpF'.out).mono ?_
    rintro r w1 ⟨rfl, he⟩
    have hcs := he.cells
    go_wp2_with fail
    refine (typed_any F c p e S S1 S2 S3 _ _ _ _ w1 (hF'.out.ext (by repeat' first | exact Ext.refl _ | assumption | apply Ext.alloc | apply Ext.drew | apply Ext.drewN | (refine Ext.trans ?_ (by assumption)))) (hc'.out.ext (by repeat' first | exact Ext.refl _ | assumption | apply Ext.alloc | apply Ext.drew | apply Ext.drewN | (refine Ext.trans ?_ (by assumption)))) (hp'.out.ext (by repeat' first | exact Ext.refl _ | assumption | apply Ext.alloc | apply Ext.drew | apply Ext.drewN | (refine Ext.trans ?_ (by assumption)))) (hr'.out.ext (by repeat' first | exact Ext.refl _ | assumption | apply Ext.alloc | apply Ext.drew | apply Ext.drewN | (refine Ext.trans ?_ (by assumption)))) hbd).mono ?_
    rintro r w2 ⟨rfl, he2⟩
    go_wp2_with fail
    go_ret2
    exact ⟨by rw [H.out]; rfl, (by repeat' first | exact Ext.refl _ | assumption | apply Ext.alloc | apply Ext.drew | apply Ext.drewN | (refine Ext.trans ?_ (by assumption)))⟩

end Go.Proofs.Ytmhelkhmgbbfhaa

/- What evaluating computes, on plain data; a typed expression's value is right. -/
namespace Go.Proofs.Ytmhelkhmgbbfhaa
open Go.RowKit Go.Lib

def zeroV : Val := ⟨0, 0, ByteArray.empty⟩

def binV (op : Int) (a b : Val) : Val :=
  if op = 8 then numV (wrap64 (a.n + b.n))
  else if op = 9 then numV (wrap64 (a.n - b.n))
  else if op = 10 then numV (wrap64 (a.n * b.n))
  else if op = 11 then numV (divI a.n b.n)
  else if op = 12 then numV (modI a.n b.n)
  else if op = 13 then boolV (eqV a b)
  else if op = 14 then boolV (!eqV a b)
  else if op = 15 then boolV (decide (cmpV a b < 0))
  else if op = 16 then boolV (decide (cmpV a b ≤ 0))
  else if op = 17 then boolV (decide (a.n = 1) && decide (b.n = 1))
  else if op = 18 then boolV (decide (a.n = 1) || decide (b.n = 1))
  else textV (joinS a.s b.s)

def opV (call : Int → List Val → Val) (time : Int) (row params : List Val) (op n : Int) (s : ByteArray) (vs : List Val) : Val :=
  if op = 0 then numV n
  else if op = 1 then textV s
  else if op = 2 then boolV (decide (n = 1))
  else if op = 3 then row.getD n.toNat zeroV
  else if op = 4 then params.getD n.toNat zeroV
  else if op = 5 then numV time
  else if op = 6 then boolV (decide ((vs.getD 0 zeroV).n = 0))
  else if op = 7 then numV (wrap64 (-(vs.getD 0 zeroV).n))
  else if op = 20 then numV (vs.getD 0 zeroV).s.size
  else if op = 22 then call n vs
  else binV op (vs.getD 0 zeroV) (vs.getD 1 zeroV)

def ifV (vs : List Val) : Val := if (vs.getD 0 zeroV).n = 1 then vs.getD 1 zeroV else vs.getD 2 zeroV

mutual
def ev (call : Int → List Val → Val) (time : Int) (row params : List Val) : Ex → Val
  | .mk op n s l => if op = 21 then ifV (evs call time row params l) else opV call time row params op n s (evs call time row params l)
def evs (call : Int → List Val → Val) (time : Int) (row params : List Val) : List Ex → List Val
  | [] => []
  | e :: l => ev call time row params e :: evs call time row params l
end

def callN (F : List Fn) (time : Int) : Nat → Int → List Val → Val
  | 0 => fun _ _ => zeroV
  | m + 1 => fun i vs => match F[i.toNat]? with
    | some f => ev (callN F time m) time [] vs f.body
    | none => zeroV

theorem evs_map (call : Int → List Val → Val) (time : Int) (row params : List Val) : ∀ l : List Ex, evs call time row params l = l.map (ev call time row params)
  | [] => by rw [evs]; rfl
  | e :: l => by rw [evs, evs_map call time row params l]; rfl

def soundV (v : Val) : Prop := okV v = true ∧ v.s.size ≤ 200

theorem empty_list : ByteArray.empty.toList = [] := by
  rw [ByteArray.toList, ByteArray.toList.loop]; rfl
@[simp] theorem numV_k (n : Int) : (numV n).k = 0 := rfl
@[simp] theorem boolV_k (b : Bool) : (boolV b).k = 2 := rfl
@[simp] theorem textV_k (s : ByteArray) : (textV s).k = 1 := rfl
theorem sound_num (n : Int) : soundV (numV n) := by
  refine ⟨?_, by simp [numV]⟩
  simp [numV, okV, empty_list]
theorem sound_bool (b : Bool) : soundV (boolV b) := by
  refine ⟨?_, by simp [boolV]⟩
  cases b <;> simp [boolV, okV, empty_list]
theorem sound_text {s : ByteArray} (h : s.size ≤ 200) : soundV (textV s) := by
  refine ⟨?_, h⟩
  show okV ⟨1, 0, s⟩ = true
  have h2 : (s.size : Int) ≤ 200 := by omega
  unfold okV
  simp only [show ¬ ((1 : Int) = 0) by decide, if_false, if_true, h2, decide_true, Bool.and_self]

theorem joinS_size (a b : ByteArray) : (joinS a b).size ≤ 200 := by
  unfold joinS; rw [ByteArray.size_extract]; omega

/-- with more functions in front, a type stays -/
theorem callT_mono {F : List Fn} {i m : Nat} (h : i ≤ m) {n r : Int} {ts : List Int} (hc : callT (F.take i) n ts = some r) : callT (F.take m) n ts = some r := by
  unfold callT at *
  split at hc
  · cases hc
  · rename_i hn
    rw [if_neg hn]
    cases hf : (F.take i)[n.toNat]? with
    | none => rw [hf] at hc; cases hc
    | some f =>
      rw [hf] at hc
      have : (F.take m)[n.toNat]? = some f := by
        rw [List.getElem?_take] at hf ⊢
        split at hf
        · rw [if_pos (by omega)]; exact hf
        · cases hf
      rw [this]; exact hc
theorem tailT_mono {F : List Fn} {i m : Nat} (h : i ≤ m) {c p : List Int} {op n r : Int} {s : ByteArray} {ts : List Int} (hc : tailT (F.take i) c p op n s ts = some r) : tailT (F.take m) c p op n s ts = some r := by
  unfold tailT at *
  split at hc
  · cases hc
  · rename_i h1
    rw [if_neg h1]
    split at hc
    · rename_i h2; rw [if_pos h2]; exact callT_mono h hc
    · rename_i h2; rw [if_neg h2]; exact hc
mutual
theorem ty_mono {F : List Fn} {i m : Nat} (h : i ≤ m) {c p : List Int} : ∀ (e : Ex) {r : Int}, ty (F.take i) c p e = some r → ty (F.take m) c p e = some r
  | .mk op n s l, r, hc => by
    rw [ty] at hc ⊢
    cases hl : tys (F.take i) c p l with
    | none => rw [hl] at hc; cases hc
    | some ts => rw [hl] at hc; rw [tys_mono h l hl]; exact tailT_mono h hc
theorem tys_mono {F : List Fn} {i m : Nat} (h : i ≤ m) {c p : List Int} : ∀ (l : List Ex) {ts : List Int}, tys (F.take i) c p l = some ts → tys (F.take m) c p l = some ts
  | [], ts, hc => by rw [tys] at hc ⊢; exact hc
  | e :: l, ts, hc => by
    rw [tys] at hc ⊢
    cases he : ty (F.take i) c p e with
    | none => rw [he] at hc; cases hc
    | some t =>
      rw [he] at hc; rw [ty_mono h e he]
      cases hl : tys (F.take i) c p l with
      | none => rw [hl] at hc; cases hc
      | some us => rw [hl] at hc; rw [tys_mono h l hl]; exact hc
end

/-- the types of parts are those of the expression's parts -/
theorem tys_mem {F : List Fn} {c p : List Int} : ∀ (l : List Ex) {ts : List Int}, tys F c p l = some ts → ∀ e ∈ l, ∃ t, ty F c p e = some t
  | [], _, _, e, he => by cases he
  | x :: l, ts, hc, e, he => by
    rw [tys] at hc
    cases hx : ty F c p x with
    | none => rw [hx] at hc; cases hc
    | some t =>
      rw [hx] at hc
      cases hl : tys F c p l with
      | none => rw [hl] at hc; cases hc
      | some us =>
        rcases List.mem_cons.1 he with rfl | he
        · exact ⟨t, hx⟩
        · exact tys_mem l hl e he

theorem callT_some {F : List Fn} {m : Nat} {n r : Int} {ts : List Int} (hc : callT (F.take m) n ts = some r) : 0 ≤ n ∧ n.toNat < m ∧ ∃ f, F[n.toNat]? = some f ∧ f.params = ts ∧ f.res = r := by
  unfold callT at hc
  split at hc
  · cases hc
  · rename_i hn
    cases hf : (F.take m)[n.toNat]? with
    | none => rw [hf] at hc; cases hc
    | some f =>
      rw [hf] at hc
      rw [List.getElem?_take] at hf
      split at hf
      · rename_i hlt
        dsimp at hc
        split at hc
        · rename_i hp
          exact ⟨by omega, hlt, f, hf, hp, by injection hc⟩
        · cases hc
      · cases hf

theorem okF_body {F : List Fn} {i : Nat} {f : Fn} (h : okF F i = true) (hf : F[i]? = some f) : ty (F.take i) [] f.params f.body = some f.res := by
  unfold okF at h
  rw [hf] at h
  simp only [Bool.and_eq_true, decide_eq_true_eq] at h
  have h2 := h.1.2
  unfold tyD at h2
  split at h2
  · cases h2
  · exact h2

theorem pick_sound {c : List Int} {row : List Val} {n t : Int} (hk : row.map Val.k = c) (hs : ∀ v ∈ row, soundV v) (h : pickT c n = some t) : 0 ≤ n ∧ n.toNat < row.length ∧ (row.getD n.toNat zeroV).k = t ∧ soundV (row.getD n.toNat zeroV) := by
  subst hk
  unfold pickT at h
  split at h
  · cases h
  · rename_i hn
    rw [List.getElem?_map] at h
    cases hv : row[n.toNat]? with
    | none => rw [hv] at h; cases h
    | some v =>
      rw [hv] at h
      obtain ⟨hl, hv2⟩ := List.getElem?_eq_some_iff.1 hv
      have hg : row.getD n.toNat zeroV = v := by rw [List.getD_eq_getElem?_getD, hv]; rfl
      rw [hg]
      dsimp at h
      split at h
      · exact ⟨by omega, hl, by injection h, hs v (by rw [← hv2]; exact List.getElem_mem hl)⟩
      · cases h

/-- the row's first values have the types c, and are sound -/
def RowFit (c : List Int) (R : List Val) : Prop := ∃ R0 R1, R = R0 ++ R1 ∧ R0.map Val.k = c ∧ ∀ v ∈ R0, soundV v
theorem RowFit.of {R : List Val} (h : ∀ v ∈ R, soundV v) : RowFit (R.map Val.k) R := ⟨R, [], by simp, rfl, h⟩
theorem RowFit.nil (R : List Val) : RowFit [] R := ⟨[], R, rfl, rfl, by simp⟩
theorem pick_fit {c : List Int} {row : List Val} {n t : Int} (hf : RowFit c row) (h : pickT c n = some t) : 0 ≤ n ∧ n.toNat < row.length ∧ (row.getD n.toNat zeroV).k = t ∧ soundV (row.getD n.toNat zeroV) := by
  obtain ⟨R0, R1, rfl, hk, hs⟩ := hf
  obtain ⟨h1, h2, h3, h4⟩ := pick_sound hk hs h
  have hg : (R0 ++ R1).getD n.toNat zeroV = R0.getD n.toNat zeroV := by rw [List.getD_eq_getElem?_getD, List.getElem?_append_left h2, List.getD_eq_getElem?_getD]
  rw [hg]
  exact ⟨h1, by simp; omega, h3, h4⟩

theorem two_of {vs : List Val} {a b : Int} (h : vs.map Val.k = [a, b]) : ∃ x y, vs = [x, y] ∧ x.k = a ∧ y.k = b := by
  match vs, h with
  | [x, y], h => simp at h; exact ⟨x, y, rfl, h.1, h.2⟩
theorem one_of {vs : List Val} {a : Int} (h : vs.map Val.k = [a]) : ∃ x, vs = [x] ∧ x.k = a := by
  match vs, h with
  | [x], h => simp at h; exact ⟨x, rfl, h⟩
theorem three_of {vs : List Val} {a b c : Int} (h : vs.map Val.k = [a, b, c]) : ∃ x y z, vs = [x, y, z] ∧ x.k = a ∧ y.k = b ∧ z.k = c := by
  match vs, h with
  | [x, y, z], h => simp at h; exact ⟨x, y, z, rfl, h.1, h.2.1, h.2.2⟩

theorem oper_sound {call : Int → List Val → Val} {time : Int} {row params vs : List Val} {op n t : Int} {s : ByteArray} (hs : ∀ v ∈ vs, soundV v) (h : operT op n (vs.map Val.k) = some t) :
    op ≠ 22 ∧ (if op = 21 then ifV vs else opV call time row params op n s vs).k = t ∧ soundV (if op = 21 then ifV vs else opV call time row params op n s vs) := by
  unfold operT at h
  split at h
  · cases h
  split at h
  · subst op; split at h <;> cases h
    simp [opV]; exact sound_bool _
  split at h
  · subst op; split at h <;> cases h
    simp [opV]; exact sound_num _
  split at h
  · subst op; split at h <;> cases h
    simp [opV]; exact sound_num _
  split at h
  · rename_i ho
    split at h <;> cases h
    have : op = 8 ∨ op = 9 ∨ op = 10 ∨ op = 11 ∨ op = 12 := by omega
    rcases this with rfl | rfl | rfl | rfl | rfl
    all_goals simp [opV, binV]; exact sound_num _
  split at h
  · rename_i ho
    have hb : t = 2 := by
      split at h
      · split at h <;> cases h
        rfl
      · cases h
    subst hb
    have : op = 13 ∨ op = 14 ∨ op = 15 ∨ op = 16 := by omega
    rcases this with rfl | rfl | rfl | rfl
    all_goals simp [opV, binV]; exact sound_bool _
  split at h
  · rename_i ho
    split at h <;> cases h
    have : op = 17 ∨ op = 18 := by omega
    rcases this with rfl | rfl
    all_goals simp [opV, binV]; exact sound_bool _
  split at h
  · subst op; split at h <;> cases h
    simp [opV, binV]; exact sound_text (joinS_size _ _)
  split at h
  · subst op
    split at h
    · rename_i a b c hk
      split at h
      · rename_i hab
        cases h
        obtain ⟨x, y, z, rfl, hx, hy, hz⟩ := three_of hk
        refine ⟨by decide, ?_⟩
        rw [if_pos rfl]
        unfold ifV
        simp only [List.getD_cons_zero, List.getD_cons_succ]
        split
        · exact ⟨by rw [hy]; exact hab.2, hs y (by simp)⟩
        · exact ⟨hz, hs z (by simp)⟩
      · cases h
    · cases h
  · cases h

theorem leaf_fit {call : Int → List Val → Val} {time : Int} {row params : List Val} {c p : List Int} {op n t : Int} {s : ByteArray} (hc : RowFit c row) (hp : params.map Val.k = p) (hq : ∀ v ∈ params, soundV v) (h : leafT c p op n s = some t) :
    op ≠ 21 ∧ op ≠ 22 ∧ (opV call time row params op n s []).k = t ∧ soundV (opV call time row params op n s []) := by
  unfold leafT at h
  split at h
  · subst op; cases h
    simp [opV]; exact sound_num _
  split at h
  · subst op; split at h <;> cases h
    simp [opV]; exact sound_bool _
  split at h
  · subst op
    have := pick_fit hc h
    simp only [opV]; exact ⟨by decide, by decide, this.2.2⟩
  split at h
  · subst op
    have := pick_sound hp hq h
    simp only [opV]; exact ⟨by decide, by decide, this.2.2⟩
  split at h
  · subst op
    split at h
    · rename_i hh
      cases h
      simp [opV]; exact sound_text (by omega)
    · cases h
  split at h
  · subst op; split at h <;> cases h
    simp [opV]; exact sound_num _
  · cases h

theorem evs_kinds {F : List Fn} {call : Int → List Val → Val} {time : Int} {row params : List Val} {c p : List Int} : ∀ (l : List Ex) {ts : List Int}, tys F c p l = some ts →
    (∀ e ∈ l, ∀ t, ty F c p e = some t → (ev call time row params e).k = t ∧ soundV (ev call time row params e)) →
    (evs call time row params l).map Val.k = ts ∧ ∀ v ∈ evs call time row params l, soundV v
  | [], ts, hc, _ => by rw [tys] at hc; cases hc; rw [evs]; simp
  | x :: l, ts, hc, ih => by
    rw [tys] at hc
    cases hx : ty F c p x with
    | none => rw [hx] at hc; cases hc
    | some t =>
      rw [hx] at hc
      cases hl : tys F c p l with
      | none => rw [hl] at hc; cases hc
      | some us =>
        rw [hl] at hc
        cases hc
        have h1 := ih x (by simp) t hx
        have h2 := evs_kinds l hl (fun e he => ih e (by simp [he]))
        rw [evs]
        refine ⟨by rw [List.map_cons, h1.1, h2.1], ?_⟩
        intro v hv
        rcases List.mem_cons.1 hv with rfl | hv
        · exact h1.2
        · exact h2.2 v hv

theorem ev_fit {F : List Fn} (time : Int) (hF : ∀ i, i < F.length → okF F i = true) : ∀ (m : Nat) (e : Ex) {c p : List Int} {row params : List Val} {t : Int}, ty (F.take m) c p e = some t →
    RowFit c row → params.map Val.k = p → (∀ v ∈ params, soundV v) →
    (ev (callN F time m) time row params e).k = t ∧ soundV (ev (callN F time m) time row params e) := by
  intro m
  induction m with
  | zero =>
    intro e
    induction e using Ex.ind with
    | h op n s l ih =>
    intro c p row params t ht hc hp hq
    rw [ty] at ht
    cases hl : tys (F.take 0) c p l with
    | none => rw [hl] at ht; cases ht
    | some ts =>
      rw [hl] at ht
      dsimp only at ht
      have hk := evs_kinds (call := callN F time 0) (time := time) (row := row) (params := params) l hl (fun e he t h => ih e he h hc hp hq)
      rw [ev]
      unfold tailT at ht
      split at ht
      · cases ht
      split at ht
      · rw [List.take_zero] at ht
        unfold callT at ht
        split at ht
        · cases ht
        · simp at ht
      split at ht
      · rename_i hnil
        obtain ⟨hk1, hk2⟩ := hk
        have he : evs (callN F time 0) time row params l = [] := by rw [hnil] at hk1; simpa using hk1
        rw [he]
        obtain ⟨a, b, d⟩ := leaf_fit (call := callN F time 0) (time := time) hc hp hq ht
        rw [if_neg a]; exact d
      · obtain ⟨hk1, hk2⟩ := hk
        rw [← hk1] at ht
        exact (oper_sound hk2 ht).2
  | succ m ihm =>
    intro e
    induction e using Ex.ind with
    | h op n s l ih =>
    intro c p row params t ht hc hp hq
    rw [ty] at ht
    cases hl : tys (F.take (m + 1)) c p l with
    | none => rw [hl] at ht; cases ht
    | some ts =>
      rw [hl] at ht
      dsimp only at ht
      have hk := evs_kinds (call := callN F time (m + 1)) (time := time) (row := row) (params := params) l hl (fun e he t h => ih e he h hc hp hq)
      rw [ev]
      unfold tailT at ht
      split at ht
      · cases ht
      split at ht
      · rename_i ho
        subst ho
        obtain ⟨h0, hlt, f, hf, hpar, hres⟩ := callT_some ht
        have hfl : n.toNat < F.length := (List.getElem?_eq_some_iff.1 hf).1
        have hb := ty_mono (m := m) (by omega) f.body (okF_body (hF n.toNat hfl) hf)
        have := ihm f.body hb (row := []) (params := evs (callN F time (m + 1)) time row params l) (RowFit.nil []) (by rw [hk.1, hpar]) hk.2
        simp only [opV]
        rw [← hres]
        simp only [callN, hf]
        exact this
      split at ht
      · rename_i hnil
        obtain ⟨hk1, hk2⟩ := hk
        have he : evs (callN F time (m + 1)) time row params l = [] := by rw [hnil] at hk1; simpa using hk1
        rw [he]
        obtain ⟨a, b, d⟩ := leaf_fit (call := callN F time (m + 1)) (time := time) hc hp hq ht
        rw [if_neg a]; exact d
      · obtain ⟨hk1, hk2⟩ := hk
        rw [← hk1] at ht
        exact (oper_sound hk2 ht).2
theorem ev_sound {F : List Fn} (time : Int) (hF : ∀ i, i < F.length → okF F i = true) : ∀ (m : Nat) (e : Ex) {c p : List Int} {row params : List Val} {t : Int}, ty (F.take m) c p e = some t →
    row.map Val.k = c → params.map Val.k = p → (∀ v ∈ row, soundV v) → (∀ v ∈ params, soundV v) →
    (ev (callN F time m) time row params e).k = t ∧ soundV (ev (callN F time m) time row params e) :=
  fun m e _ _ row params _ ht hc hp hr hq => by
    subst hc
    exact ev_fit time hF m e ht (RowFit.of hr) hp hq
/-- the value of an expression for a row -/
def evalP (F : List Fn) (time : Int) (R : List Val) (e : Ex) : Val := ev (callN F time F.length) time R [] e
end Go.Proofs.Ytmhelkhmgbbfhaa

/- Walk: (frame).eval: what it is shown to do; a choice. -/
namespace Go.Proofs.Ytmhelkhmgbbfhaa
open Go.RowKit Go.Lib

def frameV (vF : Value) (time : Int) (vR vP : Value) : Value := .agg #[vF, .int .i64 time, vR, vP]

/-- what eval is shown to do with an expression -/
def EvalOk (F : List Fn) (time : Int) (m : Nat) (e : Ex) : Prop :=
  ∀ (c p : List Int) (R P : List Val) (t : Int) (vF vR vP : Value) (cs : List Value) (w : World), ty (F.take m) c p e = some t → RowFit c R → P.map Val.k = p → RowFit c R → (∀ v ∈ P, soundV v) → parts e ≤ 1000000 →
    Rd w Any (.sl (F.map Fn.d)) [vF] → Rd w Any (.sl (R.map Val.d)) [vR] → Rd w Any (.sl (P.map Val.d)) [vP] → Rd w Any e.d cs →
    Calls Try.prog 42 #[frameV vF time vR vP, .agg cs.toArray] w fun r w' => r = .returned (ev (callN F time m) time R P e).v ∧ Ext w w'

theorem if_args {F : List Fn} {c p : List Int} {n : Int} {s : ByteArray} {l : List Ex} {t : Int} (h : ty F c p (.mk 21 n s l) = some t) :
    ∃ a b d, l = [a, b, d] ∧ ty F c p a = some 2 ∧ ty F c p b = some t ∧ ty F c p d = some t := by
  rw [ty] at h
  cases hl : tys F c p l with
  | none => rw [hl] at h; cases h
  | some ts =>
    rw [hl] at h
    dsimp only at h
    unfold tailT at h
    split at h
    · cases h
    split at h
    · rename_i h2; omega
    split at h
    · unfold leafT at h; simp at h
    · unfold operT at h
      simp only [show ¬ ((21 : Int) = 6) by decide, show ¬ ((21 : Int) = 7) by decide, show ¬ ((21 : Int) = 20) by decide, if_false] at h
      split at h
      · cases h
      rw [if_neg (by omega), if_neg (by omega), if_neg (by omega), if_neg (by omega), if_pos trivial] at h
      split at h
      · rename_i x y z
        split at h
        · rename_i hxy
          obtain ⟨rfl, rfl⟩ := hxy
          cases h
          match l, hl with
          | [a, b, d], hl =>
            simp only [tys] at hl
            cases ha : ty F c p a <;> rw [ha] at hl <;> try (cases hl; done)
            cases hb : ty F c p b <;> rw [hb] at hl <;> try (cases hl; done)
            cases hd : ty F c p d <;> rw [hd] at hl <;> try (cases hl; done)
            simp at hl
            obtain ⟨rfl, rfl, rfl⟩ := hl
            exact ⟨a, b, d, rfl, ha, hb, hd⟩
          | [], hl => simp [tys] at hl
          | [a], hl => simp only [tys] at hl; cases ha : ty F c p a <;> rw [ha] at hl <;> simp at hl
          | [a, b], hl =>
            simp only [tys] at hl
            cases ha : ty F c p a <;> rw [ha] at hl <;> try (cases hl; done)
            cases hb : ty F c p b <;> rw [hb] at hl <;> simp at hl
          | a :: b :: d :: e :: r, hl =>
            have := hl
            rw [tys] at this
            cases ha : ty F c p a <;> rw [ha] at this <;> try (cases this; done)
            rw [tys] at this
            cases hb : ty F c p b <;> rw [hb] at this <;> try (cases this; done)
            rw [tys] at this
            cases hd : ty F c p d <;> rw [hd] at this <;> try (cases this; done)
            rw [tys] at this
            cases he : ty F c p e <;> rw [he] at this <;> try (cases this; done)
            cases hr : tys F c p r <;> rw [hr] at this <;> simp at this
        · cases h
      · cases h

set_option maxRecDepth 10000 in
set_option maxHeartbeats 1000000 in
theorem eval_if (F : List Fn) (time : Int) (m : Nat) (n : Int) (s : ByteArray) (l : List Ex) (ih : ∀ x ∈ l, EvalOk F time m x) : EvalOk F time m (.mk 21 n s l) := by
  intro c p R P t vF vR vP cs w ht hR hP hsR hsP hpb hF hRr hPr hr
  obtain ⟨A, cap, b, off, rfl, hl1, hl2, hl3, hm⟩ := Ex.open hr
  simp only [Ex.args, Ex.op, Ex.n, Ex.s] at *
  obtain ⟨x, y, z, rfl, tx, tyy, tz⟩ := if_args ht
  obtain ⟨rfl, -⟩ := hl3 (by simp)
  obtain ⟨A1, cap1, b1, off1, c0, c1, c2, c3, hr1, -⟩ := Ex.at hm (k := 0) (by simp)
  obtain ⟨A2, cap2, b2, off2, d0, d1, d2, d3, hr2, -⟩ := Ex.at hm (k := 1) (by simp)
  obtain ⟨A3, cap3, b3, off3, q0, q1, q2, q3, hr3, -⟩ := Ex.at hm (k := 2) (by simp)
  simp only [List.getElem_cons_zero, List.getElem_cons_succ, List.length_cons, List.length_nil, Nat.zero_mul, Nat.one_mul, Nat.add_zero, Nat.reduceAdd, Nat.reduceMul, Nat.zero_add] at *
  have hx := fun cs w (h1 : Rd w Any (.sl (F.map Fn.d)) [vF]) h2 h3 h4 => ih x (by simp) c p R P _ vF vR vP cs w tx hR hP hsR hsP (by rw [parts] at hpb; have := partsL_mem [x, y, z] x (by simp); omega) h1 h2 h3 h4
  have hy := fun cs w (h1 : Rd w Any (.sl (F.map Fn.d)) [vF]) h2 h3 h4 => ih y (by simp) c p R P _ vF vR vP cs w tyy hR hP hsR hsP (by rw [parts] at hpb; have := partsL_mem [x, y, z] y (by simp); omega) h1 h2 h3 h4
  have hz := fun cs w (h1 : Rd w Any (.sl (F.map Fn.d)) [vF]) h2 h3 h4 => ih z (by simp) c p R P _ vF vR vP cs w tz hR hP hsR hsP (by rw [parts] at hpb; have := partsL_mem [x, y, z] z (by simp); omega) h1 h2 h3 h4
  have H := Lib.hid (show ev (callN F time m) time R P (.mk 21 n s [x, y, z]) = if (ev (callN F time m) time R P x).n = 1 then ev (callN F time m) time R P y else ev (callN F time m) time R P z by
    rw [ev, if_pos rfl]; simp only [evs]; rfl)
  generalize ev (callN F time m) time R P x = X at *
  generalize ev (callN F time m) time R P y = Y at *
  generalize ev (callN F time m) time R P z = Z at *
  obtain ⟨kx, nx, sx⟩ := X
  obtain ⟨ky, ny, sy⟩ := Y
  obtain ⟨kz, nz, sz⟩ := Z
  simp only [Val.v, frameV] at hx hy hz
  have hF' := Lib.hid hF; have hR' := Lib.hid hRr; have hP' := Lib.hid hPr
  have hr1' := Lib.hid hr1; have hr2' := Lib.hid hr2; have hr3' := Lib.hid hr3
  have hx' := Lib.hid hx; have hy' := Lib.hid hy; have hz' := Lib.hid hz
  clear hF hRr hPr hr hr1 hr2 hr3 hx hy hz hm hl3 ih hpb ht hsR hsP hR hP tx tyy tz
  simp only [frameV]
  have hfd : ∀ W : World, (Instr.field 34 (.agg #[.int .i64 kx, .int .i64 nx, .string sx]) 1).run Try.prog W = .ok (.int .i64 nx) W := fun _ => by kernel_rfl
  go_enter Try.func42, Try.ntmps42
  go_wp2_with fail
  generalize hWe : World.alloc (World.alloc (World.alloc w _) _) _ = W
  have s0 : W.cell? ⟨w.heap.size, 0, none⟩ = some vF := by rw [← hWe]; clear hWe; go_simp
  have s1 : W.cell? ⟨w.heap.size, 1, none⟩ = some (.int .i64 time) := by rw [← hWe]; clear hWe; go_simp
  have s2 : W.cell? ⟨w.heap.size, 2, none⟩ = some vR := by rw [← hWe]; clear hWe; go_simp
  have s3 : W.cell? ⟨w.heap.size, 3, none⟩ = some vP := by rw [← hWe]; clear hWe; go_simp
  have e3 : W.cell? ⟨w.heap.size + 1, 3, none⟩ = some (.slice (some ⟨b, off, none⟩) 3 cap) := by rw [← hWe]; clear hWe; go_simp
  have f0 : W.cell? ⟨w.heap.size + 2, 0, none⟩ = some (.int .i64 0) := by rw [← hWe]; clear hWe; go_simp
  have f1 : W.cell? ⟨w.heap.size + 2, 1, none⟩ = some (.int .i64 0) := by rw [← hWe]; clear hWe; go_simp
  have f2 : W.cell? ⟨w.heap.size + 2, 2, none⟩ = some (.string ByteArray.empty) := by rw [← hWe]; clear hWe; go_simp; rfl
  have z0 : W.frozen? ⟨w.heap.size + 2, 0, none⟩ = false := by rw [← hWe]; clear hWe; go_simp
  have z1 : W.frozen? ⟨w.heap.size + 2, 1, none⟩ = false := by rw [← hWe]; clear hWe; go_simp
  have z2 : W.frozen? ⟨w.heap.size + 2, 2, none⟩ = false := by rw [← hWe]; clear hWe; go_simp
  have hlt : w.heap.size + 2 < W.heap.size := by rw [← hWe]; clear hWe; go_simp
  have hw : Ext w W := by rw [← hWe]; exact (by repeat' first | exact Ext.refl _ | assumption | apply Ext.alloc | apply Ext.drew | apply Ext.drewN | (refine Ext.trans ?_ (by assumption)))
  clear hWe
  have c0 := hw.at c0
  have c1 := hw.at c1
  have c2 := hw.at c2
  have c3 := hw.at c3
  have d0 := hw.at d0
  have d1 := hw.at d1
  have d2 := hw.at d2
  have d3 := hw.at d3
  have q0 := hw.at q0
  have q1 := hw.at q1
  have q2 := hw.at q2
  have q3 := hw.at q3
  have gs0 := ExtW.at s0
  have gs1 := ExtW.at s1
  have gs2 := ExtW.at s2
  have gs3 := ExtW.at s3
  have ge3 := ExtW.at e3
  have gc0 := ExtW.at c0
  have gc1 := ExtW.at c1
  have gc2 := ExtW.at c2
  have gc3 := ExtW.at c3
  refine wp_region_ext (by kernel_rfl) (by kernel_rfl) ?_
  repeat (go_big_quiet_step (((go_at_call 42; exact Calls.ext_of (hx'.out _ _ (hF'.out.ext (hw.trans (ExtW.ext _))) (hR'.out.ext (hw.trans (ExtW.ext _))) (hP'.out.ext (hw.trans (ExtW.ext _))) (hr1'.out.ext (hw.trans (ExtW.ext _))))))))
  refine wpQuiet_nil ?_
  intro w1 he
  by_cases hX : nx = 1
  · subst hX
    have H2 := Lib.hid (H.out.trans (if_pos rfl))
    clear H
    have s0 := he.at s0
    have s1 := he.at s1
    have s2 := he.at s2
    have s3 := he.at s3
    have e3 := he.at e3
    have d0 := he.at d0
    have d1 := he.at d1
    have d2 := he.at d2
    have d3 := he.at d3
    have gs0 := ExtW.at s0
    have gs1 := ExtW.at s1
    have gs2 := ExtW.at s2
    have gs3 := ExtW.at s3
    have ge3 := ExtW.at e3
    have gd0 := ExtW.at d0
    have gd1 := ExtW.at d1
    have gd2 := ExtW.at d2
    have gd3 := ExtW.at d3
    go_wp2_with fail
    refine wp_region_ext_tail 6 (by kernel_rfl) (by kernel_rfl) ?_
    simp only [List.take_succ_cons, List.take_zero, List.drop_succ_cons, List.drop_zero]
    repeat (go_big_quiet_step (((go_at_call 42; exact Calls.ext_of (hy'.out _ _ (hF'.out.ext ((hw.trans he).trans (ExtW.ext _))) (hR'.out.ext ((hw.trans he).trans (ExtW.ext _))) (hP'.out.ext ((hw.trans he).trans (ExtW.ext _))) (hr2'.out.ext ((hw.trans he).trans (ExtW.ext _))))))))
    refine wpQuiet_nil ?_
    intro w2 he2
    have he3 := he.trans he2
    replace f0 := he3.at f0
    replace f1 := he3.at f1
    replace f2 := he3.at f2
    replace z0 := (he3.frozens _ _ hlt).trans z0
    replace z1 := (he3.frozens _ _ hlt).trans z1
    replace z2 := (he3.frozens _ _ hlt).trans z2
    have hw2 : Ext w w2 := hw.trans he3
    go_wp2_with fail
    exact bodyPost_ret (v := .agg #[.int .i64 ky, .int .i64 ny, .string sy]) (by simp [results, Try.results42, go_sem, f0, f1, f2]) rfl ⟨by rw [H2.out]; rfl, ext_three hw2 _ (by omega) _ _ _⟩
  · have hXb : (nx == 1) = false := by simp [hX]
    have H2 := Lib.hid (H.out.trans (if_neg hX))
    clear H
    have s0 := he.at s0
    have s1 := he.at s1
    have s2 := he.at s2
    have s3 := he.at s3
    have e3 := he.at e3
    have q0 := he.at q0
    have q1 := he.at q1
    have q2 := he.at q2
    have q3 := he.at q3
    have gs0 := ExtW.at s0
    have gs1 := ExtW.at s1
    have gs2 := ExtW.at s2
    have gs3 := ExtW.at s3
    have ge3 := ExtW.at e3
    have gq0 := ExtW.at q0
    have gq1 := ExtW.at q1
    have gq2 := ExtW.at q2
    have gq3 := ExtW.at q3
    go_wp2_with fail
    refine wp_region_ext_tail 6 (by kernel_rfl) (by kernel_rfl) ?_
    simp only [List.take_succ_cons, List.take_zero, List.drop_succ_cons, List.drop_zero]
    repeat (go_big_quiet_step (((go_at_call 42; exact Calls.ext_of (hz'.out _ _ (hF'.out.ext ((hw.trans he).trans (ExtW.ext _))) (hR'.out.ext ((hw.trans he).trans (ExtW.ext _))) (hP'.out.ext ((hw.trans he).trans (ExtW.ext _))) (hr3'.out.ext ((hw.trans he).trans (ExtW.ext _))))))))
    refine wpQuiet_nil ?_
    intro w2 he2
    have he3 := he.trans he2
    replace f0 := he3.at f0
    replace f1 := he3.at f1
    replace f2 := he3.at f2
    replace z0 := (he3.frozens _ _ hlt).trans z0
    replace z1 := (he3.frozens _ _ hlt).trans z1
    replace z2 := (he3.frozens _ _ hlt).trans z2
    have hw2 : Ext w w2 := hw.trans he3
    go_wp2_with fail
    exact bodyPost_ret (v := .agg #[.int .i64 kz, .int .i64 nz, .string sz]) (by simp [results, Try.results42, go_sem, f0, f1, f2]) rfl ⟨by rw [H2.out]; rfl, ext_three hw2 _ (by omega) _ _ _⟩
end Go.Proofs.Ytmhelkhmgbbfhaa
