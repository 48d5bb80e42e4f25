/- Layer 26 on plain data: what Compile returns. -/
import Derived.Test.YtnkimlkoijfcpaaGreatDoorGf1
import Derived.Test.YtnkimlkoijfcpaaGreatDoorGf2
import Derived.Test.YtnkimlkoijfcpaaGreatDoorGf5
import Derived.Test.YtnkimlkoijfcpaaGreatDoorGf9
import Derived.Test.YtnkimlkoijfcpaaGreatDoorGf10
import Derived.Test.YtnkimlkoijfcpaaGreatDoorGf14
import Derived.Test.YtnkimlkoijfcpaaGreatDoorGf15
import Derived.Test.YtnkimlkoijfcpaaGreatDoorGf18
set_option linter.unusedSimpArgs false
set_option linter.unusedVariables false
namespace Go.Proofs.YtnkimlkoijfcpaaGreatDoor
open Go.RowKit Go.Lib
mutual
def allP (P : Int → Int → Prop) : Ex → Prop
  | .mk o n _ l => P o n ∧ allPs P l
def allPs (P : Int → Int → Prop) : List Ex → Prop
  | [] => True
  | e :: l => allP P e ∧ allPs P l
end
theorem allPs_iff {P : Int → Int → Prop} : ∀ {l : List Ex}, allPs P l ↔ ∀ x ∈ l, allP P x
  | [] => by rw [allPs]; simp
  | e :: l => by rw [allPs, allPs_iff]; simp
theorem qeg {P : Int → Int → Prop} {o n : Int} {s : ByteArray} {l : List Ex} : allP P (.mk o n s l) ↔ P o n ∧ ∀ x ∈ l, allP P x := by rw [allP, allPs_iff]
section
variable {P : Int → Int → Prop}
theorem put_allP {op : Int} {L : List Ex} (hL : ∀ x ∈ L, allP P x) (e : Ex) : ∀ {y : Ex}, allP P e → putP op L e = some y → allP P y := by
  induction e using Ex.ind with
  | h o n s l ih =>
    intro y h hy
    obtain ⟨hn, hl⟩ := qeg.1 h
    rw [putP] at hy
    split at hy
    · split at hy
      · cases hy
      · exact hL _ (List.mem_of_getElem? hy)
    · cases hp : putPs op L l with
      | none => rw [hp] at hy; cases hy
      | some l' =>
        rw [hp] at hy; cases hy
        refine qeg.2 ⟨hn, fun x hx => ?_⟩
        obtain ⟨z, hz, h2⟩ := putPs_mem l hp x hx
        exact ih z hz (hl z hz) h2
theorem inl_allP (h0 : P 0 0) {bs : List (Option Ex)} (hbs : ∀ b ∈ bs, ∀ y, b = some y → allP P y) (e : Ex) : ∀ {y : Ex}, allP P e → inlE bs e = some y → allP P y := by
  induction e using Ex.ind with
  | h o n s l ih =>
    intro y h hy
    obtain ⟨hn, hl⟩ := qeg.1 h
    rw [inlE] at hy
    cases hp : inlL bs l with
    | none => rw [hp] at hy; cases hy
    | some ys =>
      rw [hp] at hy
      have hys : ∀ x ∈ ys, allP P x := fun x hx => by
        obtain ⟨z, hz, h2⟩ := inlL_mem26 l hp x hx
        exact ih z hz (hl z hz) h2
      dsimp only at hy
      split at hy
      · cases hb : bs.getD n.toNat none with
        | none => rw [hb] at hy; cases hy
        | some b =>
          rw [hb] at hy
          have hbm : some b ∈ bs := by
            rw [List.getD_eq_getElem?_getD] at hb
            cases hg : bs[n.toNat]? with
            | none => rw [hg] at hb; cases hb
            | some z => rw [hg] at hb; cases hb; exact List.mem_of_getElem? hg
          rw [← fitX_some hy]
          cases hq : putP 4 ys b with
          | none => exact qeg.2 ⟨h0, by simp⟩
          | some z => exact put_allP hys b (hbs _ hbm b rfl) hq
      · rw [← fitX_some hy]
        exact qeg.2 ⟨hn, hys⟩
theorem inlB_allP (h0 : P 0 0) : ∀ (F : List Fn) (bs : List (Option Ex)), (∀ b ∈ bs, ∀ y, b = some y → allP P y) → (∀ f ∈ F, allP P f.body) → ∀ b ∈ inlB bs F, ∀ y, b = some y → allP P y
  | [], bs, h, _ => by rw [inlB]; exact h
  | f :: F, bs, h, hF => by
    rw [inlB]
    refine inlB_allP h0 F _ (fun b hb y hy => ?_) fun g hg => hF g (by simp [hg])
    rcases List.mem_append.1 hb with hb | hb
    · exact h b hb y hy
    · rw [List.mem_singleton] at hb
      rw [hb] at hy
      exact inl_allP h0 h f.body (hF f (by simp)) hy
theorem inlineP_some {F : List Fn} {e y : Ex} (h : qcl F e = some y) : inlE (inlB [] F) e = some y ∧ levels y ≤ 12 := by
  unfold qcl at h
  split at h
  · rename_i x hx
    split at h
    · cases h
    · cases h; exact ⟨hx, by omega⟩
  · cases h
end
theorem ty_cols {F : List Fn} {c p : List Int} (e : Ex) : ∀ {t : Int}, ty F c p e = some t → allP (fun o n => o = 3 → ∃ u, pickT c n = some u) e := by
  induction e using Ex.ind with
  | h o n s l ih =>
    intro t h
    obtain ⟨ts, h1, h2⟩ := ty_mk h
    refine qeg.2 ⟨fun ho => ?_, fun x hx => ?_⟩
    · have := qee (.inl ho) h2
      rw [if_pos ho] at this
      exact ⟨_, this⟩
    · obtain ⟨u, hu⟩ := tys_mem l h1 x hx
      exact ih x hx hu
theorem ty_swap {F : List Fn} {c c' p : List Int} (h : ∀ n u, pickT c n = some u → pickT c' n = some u) (e : Ex) : allP (fun o n => o = 3 → ∃ u, pickT c n = some u) e → ty F c' p e = ty F c p e := by
  induction e using Ex.ind with
  | h o n s l ih =>
    intro ha
    obtain ⟨h1, h2⟩ := qeg.1 ha
    have hts : ∀ l : List Ex, (∀ x ∈ l, ty F c' p x = ty F c p x) → tys F c' p l = tys F c p l := fun l => by
      induction l with
      | nil => intro _; rw [tys, tys]
      | cons x l ih2 => intro hx; rw [tys, tys, hx x (by simp), ih2 fun z hz => hx z (by simp [hz])]
    have ht : ∀ ts, tailT F c' p o n s ts = tailT F c p o n s ts := fun ts => by
      unfold tailT leafT
      by_cases ho : o = 3
      · obtain ⟨u, hu⟩ := h1 ho
        rw [hu, h n u hu]
      · simp only [if_neg ho]
    rw [ty, ty, hts l fun x hx => ih x hx (h2 x hx)]
    cases tys F c p l with
    | none => rfl
    | some ts => exact ht ts
theorem typeP_all {F : List Fn} {c p : List Int} {e : Ex} {t : Int} (h : typeP F c p e = some t) : F.length ≤ 20 ∧ (∀ i, i < F.length → okF F i = true) ∧ ty F c p e = some t ∧ levels e ≤ 12 := by
  unfold typeP at h
  split at h
  · rename_i hF
    unfold qch at hF
    simp only [Bool.and_eq_true, decide_eq_true_eq, List.all_eq_true, List.mem_range] at hF
    unfold tyD at h
    split at h
    · cases h
    · exact ⟨by omega, hF.2, h, by omega⟩
  · cases h
theorem okF_wfS {F : List Fn} (hOk : ∀ i, i < F.length → okF F i = true) : ∀ i (h : i < F.length), wfS i F[i].body = true := fun i h => by
  have h1 := okF_body (hOk i h) (List.getElem?_eq_getElem h)
  have h2 := wfS_of_ty _ h1
  rw [List.length_take, Nat.min_eq_left (by omega)] at h2
  exact h2
theorem pick_nil (n : Int) : pickT [] n = none := by
  unfold pickT
  split <;> simp
theorem pick_fix {c : List Int} {n u : Int} (h : pickT c n = some u) : pickT (c.map fun k => if kindB k = true then k else 0) n = some u := by
  unfold pickT at h ⊢
  split at h
  · cases h
  · rename_i hn
    rw [if_neg hn, List.getElem?_map]
    split at h
    · rename_i v hv
      rw [hv]
      split at h
      · rename_i hk
        simp only [Option.map_some, if_pos hk]
        exact h
      · cases h
    · cases h
theorem inline_ty {F : List Fn} {c : List Int} {e y : Ex} {t : Int} (hOk : ∀ i, i < F.length → okF F i = true) (ht : ty F c [] e = some t) (hy : qcl F e = some y) : ty [] c [] y = some t := by
  have hc0 : ∀ n u, pickT c n = some u → pickT (c.map fun k => if kindB k = true then k else 0) n = some u := fun n u h => pick_fix h
  have he := ty_cols e ht
  have hF : ∀ f ∈ F, allP (fun o n => o = 3 → ∃ u, pickT c n = some u) f.body := fun f hf => by
    obtain ⟨i, hi, rfl⟩ := List.mem_iff_getElem.1 hf
    have h1 := ty_cols _ (okF_body (hOk i hi) (List.getElem?_eq_getElem hi))
    have mono : ∀ e : Ex, allP (fun o n => o = 3 → ∃ u, pickT [] n = some u) e → allP (fun o n => o = 3 → ∃ u, pickT c n = some u) e := fun e => by
      induction e using Ex.ind with
      | h o n s l ih =>
        intro h
        obtain ⟨g1, g2⟩ := qeg.1 h
        refine qeg.2 ⟨fun ho => ?_, fun x hx => ih x hx (g2 x hx)⟩
        obtain ⟨u, hu⟩ := g1 ho
        rw [pick_nil] at hu; cases hu
    exact mono _ h1
  have hyc := inl_allP (P := fun o n => o = 3 → ∃ u, pickT c n = some u) (fun h => by cases h) (inlB_allP (fun h => by cases h) F [] (by simp) hF) e he (inlineP_some hy).1
  have ht' : ty F (c.map fun k => if kindB k = true then k else 0) [] e = some t := by rw [ty_swap hc0 e he]; exact ht
  have hk : ((c.map fun k => if kindB k = true then k else 0).map someV).map Val.k = c.map fun k => if kindB k = true then k else 0 := by
    rw [List.map_map, List.map_map]
    apply List.map_congr_left
    intro k _
    show (someV (if kindB k = true then k else 0)).k = _
    split
    · exact someV_k ‹_›
    · exact someV_k (by decide)
  have h3 := (inline_sem (time := 0) (R := (c.map fun k => if kindB k = true then k else 0).map someV) hOk (fun v hv => by
    obtain ⟨k, -, rfl⟩ := List.mem_map.1 hv
    exact someV_sound k) (by rw [hk]; exact ht') hy).1
  rw [hk, ty_swap hc0 y hyc] at h3
  exact h3
def zeroCd : Cod := ⟨[], [], 0⟩
def compileP (F : List Fn) (cols : List Int) (e : Ex) : Cod × Int := match typeP F cols [] e with
  | none => (zeroCd, 13)
  | some _ => match qcl F e with
    | none => (zeroCd, 6)
    | some y => (compP (rawP cols (foldE y)), 0)
theorem compile_typ {F : List Fn} {cols : List Int} {e y : Ex} {t : Int} (ht : typeP F cols [] e = some t) (hy : qcl F e = some y) :
    ty [] cols [] y = some t ∧ parts y ≤ 1000 ∧ TypE cols (foldE y) ∧ parts (foldE y) ≤ 1000 ∧ ty [] cols [] (foldE y) = some t := by
  obtain ⟨h1, h2, h3, h4⟩ := typeP_all ht
  have h5 := inline_ty h2 h3 hy
  have h6 := inlE_parts (inlineP_some hy).1
  have h7 := (fold_ok y h5).1
  have h8 := fold_parts y
  have h9 := fold_levels y
  have h10 := (inlineP_some hy).2
  exact ⟨h5, h6, ⟨⟨t, h7⟩, by omega⟩, by omega, h7⟩
end Go.Proofs.YtnkimlkoijfcpaaGreatDoor

/- Walks: the operations on two values, of the program. -/
namespace Go.Proofs.YtnkimlkoijfcpaaGreatDoor
open Go.RowKit Go.Lib
theorem qck (n : Int) : Gives Tryz.prog 97 [.int n] (numV n).av := by
  refine qn Tryz.func97 Tryz.ntmps97 rfl rfl (by decide) rfl (by intro n; simp) fun σ n0 hcl hft => ?_
  repeat' (first | ((first | ((with_reducible refine qo (fun hg => ?_) (fun hg => ?_)) <;> (try simp only [hg]) <;> (try simp only [gS] at hg) <;> (try (first | simp only [eq_false hg, gI] | simp only [eq_true hg, gI]))) | (with_reducible first | refine qg ?_ | refine qf ?_ | refine ql ?_ | refine qk ?_) | refine qd ?_ | refine qi ?_ | refine qj ?_ | refine qm ?_) <;> (try simp (disch := first | omega | simp) [qh, -qq, -qs])) | ((with_reducible refine sideT ?_ ?_); first | omega | assumption | (simp; done)) | (refine qe fun K hK => ?_) | (refine qa ?_) | (refine qb true (by kernel_rfl) (by kernel_rfl) ?_) | (refine qb false (by kernel_rfl) (by kernel_rfl) ?_) | (refine hK _ ?_; clear hK K) | (clear hK K; refine hK _ ?_; clear hK K) | (clear hK K; clear hK K; refine hK _ ?_; clear hK K) | refine qc ?_)
  all_goals simp [numV, Val.av, -Val.av_fold]
theorem qbz (b : Bool) : Gives Tryz.prog 98 [.bool b] (boolV b).av := by
  cases b
  · refine qn Tryz.func98 Tryz.ntmps98 rfl rfl (by decide) rfl (by intro n; simp) fun σ n0 hcl hft => ?_
    repeat' (first | ((first | ((with_reducible refine qo (fun hg => ?_) (fun hg => ?_)) <;> (try simp only [hg]) <;> (try simp only [gS] at hg) <;> (try (first | simp only [eq_false hg, gI] | simp only [eq_true hg, gI]))) | (with_reducible first | refine qg ?_ | refine qf ?_ | refine ql ?_ | refine qk ?_) | refine qd ?_ | refine qi ?_ | refine qj ?_ | refine qm ?_) <;> (try simp (disch := first | omega | simp) [qh, -qq, -qs])) | ((with_reducible refine sideT ?_ ?_); first | omega | assumption | (simp; done)) | (refine qe fun K hK => ?_) | (refine qa ?_) | (refine qb true (by kernel_rfl) (by kernel_rfl) ?_) | (refine qb false (by kernel_rfl) (by kernel_rfl) ?_) | (refine hK _ ?_; clear hK K) | (clear hK K; refine hK _ ?_; clear hK K) | (clear hK K; clear hK K; refine hK _ ?_; clear hK K) | refine qc ?_)
    all_goals simp [boolV, Val.av, -Val.av_fold]
  · refine qn Tryz.func98 Tryz.ntmps98 rfl rfl (by decide) rfl (by intro n; simp) fun σ n0 hcl hft => ?_
    repeat' (first | ((first | ((with_reducible refine qo (fun hg => ?_) (fun hg => ?_)) <;> (try simp only [hg]) <;> (try simp only [gS] at hg) <;> (try (first | simp only [eq_false hg, gI] | simp only [eq_true hg, gI]))) | (with_reducible first | refine qg ?_ | refine qf ?_ | refine ql ?_ | refine qk ?_) | refine qd ?_ | refine qi ?_ | refine qj ?_ | refine qm ?_) <;> (try simp (disch := first | omega | simp) [qh, -qq, -qs])) | ((with_reducible refine sideT ?_ ?_); first | omega | assumption | (simp; done)) | (refine qe fun K hK => ?_) | (refine qa ?_) | (refine qb true (by kernel_rfl) (by kernel_rfl) ?_) | (refine qb false (by kernel_rfl) (by kernel_rfl) ?_) | (refine hK _ ?_; clear hK K) | (clear hK K; refine hK _ ?_; clear hK K) | (clear hK K; clear hK K; refine hK _ ?_; clear hK K) | refine qc ?_)
    all_goals simp [boolV, Val.av, -Val.av_fold]
theorem pcmpI_g (x y : Int) : Gives Tryz.prog 179 [.int x, .int y] (.int (compareInt x y)) :=
  gives_v fun X vals ha => by
    obtain ⟨v0, _, rfl, h0, v1, _, rfl, h1, h2⟩ := ha
    cases h2
    cases arg_v h0
    cases arg_v h1
    exact (Tryz.cmp_Compare_int x y X.w).mono fun r w' ⟨h1, h2⟩ => ⟨h1, by subst h2; exact Ext.refl _⟩
theorem pcmpS_g (x y : ByteArray) : Gives Tryz.prog 180 [.str x, .str y] (.int (compareBytes x.data.toList y.data.toList)) :=
  gives_v fun X vals ha => by
    obtain ⟨v0, _, rfl, h0, v1, _, rfl, h1, h2⟩ := ha
    cases h2
    cases arg_v h0
    cases arg_v h1
    exact (Tryz.strings_Compare x y X.w).mono fun r w' ⟨h1, h2⟩ => ⟨h1, by subst h2; exact Ext.refl _⟩
theorem orI_zero : ∀ {l : List Int}, (∀ j (h : j < l.length), l[j] = 0) → orI l = 0
  | [], _ => rfl
  | x :: l, h => by
    have h0 : x = 0 := h 0 (by simp)
    rw [orI, if_neg (by simp [h0])]
    exact orI_zero fun j hj => h (j + 1) (by simpa using hj)
theorem orI_at : ∀ {l : List Int} {k : Nat} (h : k < l.length), (∀ j (h : j < l.length), j < k → l[j] = 0) → l[k] ≠ 0 → orI l = l[k]
  | x :: l, 0, _, _, hk => by rw [orI, if_pos (by simpa using hk)]; rfl
  | x :: l, k + 1, h, h0, hk => by
    have hx : x = 0 := h0 0 (by simp) (by omega)
    rw [orI, if_neg (by simp [hx])]
    have := orI_at (l := l) (k := k) (by simpa using h) (fun j hj hjk => h0 (j + 1) (by simpa using hj) (by omega)) hk
    exact this
theorem por_g (l : List Int) (hl : l.length ≤ 1000000) : Gives Tryz.prog 178 [.sl (l.map AV.int)] (.int (orI l)) := by
  obtain ⟨R, hR⟩ : ∃ R, R = orI l := ⟨_, rfl⟩
  rw [← hR]
  refine qn Tryz.func178 Tryz.ntmps178 rfl rfl (by decide) rfl (by intro n; simp) fun σ n0 hcl hft => ?_
  repeat' (first | ((first | ((with_reducible refine qo (fun hg => ?_) (fun hg => ?_)) <;> (try simp only [hg]) <;> (try simp only [gS] at hg) <;> (try (first | simp only [eq_false hg, gI] | simp only [eq_true hg, gI]))) | (with_reducible first | refine qg ?_ | refine qf ?_ | refine ql ?_ | refine qk ?_) | refine qd ?_ | refine qi ?_ | refine qj ?_ | refine qm ?_) <;> (try simp (disch := first | omega | simp) [qh, -qq, -qs])) | ((with_reducible refine sideT ?_ ?_); first | omega | assumption | (simp; done)) | (refine qe fun K hK => ?_) | (refine qa ?_) | (refine qb true (by kernel_rfl) (by kernel_rfl) ?_) | (refine qb false (by kernel_rfl) (by kernel_rfl) ?_) | (refine hK _ ?_; clear hK K) | (clear hK K; refine hK _ ?_; clear hK K) | (clear hK K; clear hK K; refine hK _ ?_; clear hK K) | refine qc ?_)
  refine qt hcl (fun k : Nat => [(3, .int 0), (6, .sl (l.map AV.int)), (7, .int l.length), (8, .int k)]) (fun _ => [])
    (fun k => k ≤ l.length ∧ ∀ j (h : j < l.length), j < k → l[j] = 0) (fun k => l.length - k) 0 ⟨by omega, fun j h hj => by omega⟩ (by simp) fun k ⟨hk, he⟩ => ?_
  by_cases hlt : k < l.length
  · by_cases hx : l[k] = 0
    · repeat' (first | ((first | ((with_reducible refine qo (fun hg => ?_) (fun hg => ?_)) <;> (try simp only [hg]) <;> (try simp only [gS] at hg) <;> (try (first | simp only [eq_false hg, gI] | simp only [eq_true hg, gI]))) | (with_reducible first | refine qg ?_ | refine qf ?_ | refine ql ?_ | refine qk ?_) | refine qd ?_ | refine qi ?_ | refine qj ?_ | refine qm ?_) <;> (try simp (disch := first | omega | simp) [qh, -qq, -qs, hlt, hx])) | ((with_reducible refine sideT ?_ ?_); first | omega | assumption | (simp; done)) | (refine qe fun K hK => ?_) | (refine qa ?_) | (refine qb true (by kernel_rfl) (by kernel_rfl) ?_) | (refine qb false (by kernel_rfl) (by kernel_rfl) ?_) | (refine hK _ ?_; clear hK K) | (clear hK K; refine hK _ ?_; clear hK K) | (clear hK K; clear hK K; refine hK _ ?_; clear hK K) | refine qc ?_)
      all_goals first
        | exact absurd hx (by assumption)
        | (refine ⟨k + 1, ⟨by omega, fun j h hj => ?_⟩, by omega, by simp⟩
           by_cases hjk : j < k
           · exact he j h hjk
           · obtain rfl : j = k := by omega
             exact hx)
    · have := orI_at hlt he hx
      repeat' (first | ((first | ((with_reducible refine qo (fun hg => ?_) (fun hg => ?_)) <;> (try simp only [hg]) <;> (try simp only [gS] at hg) <;> (try (first | simp only [eq_false hg, gI] | simp only [eq_true hg, gI]))) | (with_reducible first | refine qg ?_ | refine qf ?_ | refine ql ?_ | refine qk ?_) | refine qd ?_ | refine qi ?_ | refine qj ?_ | refine qm ?_) <;> (try simp (disch := first | omega | simp) [qh, -qq, -qs, hlt, hx])) | ((with_reducible refine sideT ?_ ?_); first | omega | assumption | (simp; done)) | (refine qe fun K hK => ?_) | (refine qa ?_) | (refine qb true (by kernel_rfl) (by kernel_rfl) ?_) | (refine qb false (by kernel_rfl) (by kernel_rfl) ?_) | (refine hK _ ?_; clear hK K) | (clear hK K; refine hK _ ?_; clear hK K) | (clear hK K; clear hK K; refine hK _ ?_; clear hK K) | refine qc ?_)
      all_goals first
        | exact absurd (by assumption) hx
        | (rw [hR, this])
  · have := orI_zero fun j h => he j h (by omega)
    repeat' (first | ((first | ((with_reducible refine qo (fun hg => ?_) (fun hg => ?_)) <;> (try simp only [hg]) <;> (try simp only [gS] at hg) <;> (try (first | simp only [eq_false hg, gI] | simp only [eq_true hg, gI]))) | (with_reducible first | refine qg ?_ | refine qf ?_ | refine ql ?_ | refine qk ?_) | refine qd ?_ | refine qi ?_ | refine qj ?_ | refine qm ?_) <;> (try simp (disch := first | omega | simp) [qh, -qq, -qs, hlt])) | ((with_reducible refine sideT ?_ ?_); first | omega | assumption | (simp; done)) | (refine qe fun K hK => ?_) | (refine qa ?_) | (refine qb true (by kernel_rfl) (by kernel_rfl) ?_) | (refine qb false (by kernel_rfl) (by kernel_rfl) ?_) | (refine hK _ ?_; clear hK K) | (clear hK K; refine hK _ ?_; clear hK K) | (clear hK K; clear hK K; refine hK _ ?_; clear hK K) | refine qc ?_)
    all_goals (rw [hR, this])
theorem pcompare_g (a b : Val) : Gives Tryz.prog 143 [a.av, b.av] (.int (cmpV a b)) := by
  have c1 := pcmpI_g a.k b.k
  have c2 := pcmpI_g a.n b.n
  have c3 := pcmpS_g a.s b.s
  have c4 := por_g [compareInt a.k b.k, compareInt a.n b.n, compareBytes a.s.data.toList b.s.data.toList] (by simp)
  have e : cmpV a b = orI [compareInt a.k b.k, compareInt a.n b.n, compareBytes a.s.data.toList b.s.data.toList] := rfl
  rw [← e] at c4
  generalize cmpV a b = C at *
  clear e
  obtain ⟨k, n, s⟩ := a
  obtain ⟨k2, n2, s2⟩ := b
  refine qn Tryz.func143 Tryz.ntmps143 rfl rfl (by decide) rfl (by intro n; simp) fun σ n0 hcl hft => ?_
  repeat' (first | ((first | ((with_reducible refine qo (fun hg => ?_) (fun hg => ?_)) <;> (try simp only [hg]) <;> (try simp only [gS] at hg) <;> (try (first | simp only [eq_false hg, gI] | simp only [eq_true hg, gI]))) | (with_reducible first | refine qg ?_ | refine qf ?_ | refine ql ?_ | refine qk ?_) | refine acall (c1) ?_ | refine qp (c1) ?_ | refine qr (c1) ?_ | refine acall (c2) ?_ | refine qp (c2) ?_ | refine qr (c2) ?_ | refine acall (c3) ?_ | refine qp (c3) ?_ | refine qr (c3) ?_ | refine acall (c4) ?_ | refine qp (c4) ?_ | refine qr (c4) ?_ | refine qd ?_ | refine qi ?_ | refine qj ?_ | refine qm ?_) <;> (try simp (disch := first | omega | simp) [qh, -qq, -qs])) | ((with_reducible refine sideT ?_ ?_); first | omega | assumption | (simp; done)) | (refine qe fun K hK => ?_) | (refine qa ?_) | (refine qb true (by kernel_rfl) (by kernel_rfl) ?_) | (refine qb false (by kernel_rfl) (by kernel_rfl) ?_) | (refine hK _ ?_; clear hK K) | (clear hK K; refine hK _ ?_; clear hK K) | (clear hK K; clear hK K; refine hK _ ?_; clear hK K) | refine qc ?_)
def pairA (a b : Val) : AV := .agg [.int a.k, .int a.n, .str a.s, .int b.k, .int b.n, .str b.s]
theorem pnum_w (n : Int) : Gives Tryz.prog 97 [.int (IntKind.i64.wrap n)] (numV (wrap64 n)).av := by
  have e : IntKind.i64.wrap n = wrap64 n := by rw [IntKind.wrap_i64, wrap64]
  rw [e]; exact qck _
theorem padd_g (a b : Val) : Gives Tryz.prog 99 [pairA a b] (numV (wrap64 (a.n + b.n))).av := by
  have c := pnum_w (a.n + b.n)
  generalize numV (wrap64 (a.n + b.n)) = R at *
  refine qn Tryz.func99 Tryz.ntmps99 rfl rfl (by decide) rfl (by intro n; simp) fun σ n0 hcl hft => ?_
  repeat' (first | ((first | ((with_reducible refine qo (fun hg => ?_) (fun hg => ?_)) <;> (try simp only [hg]) <;> (try simp only [gS] at hg) <;> (try (first | simp only [eq_false hg, gI] | simp only [eq_true hg, gI]))) | (with_reducible first | refine qg ?_ | refine qf ?_ | refine ql ?_ | refine qk ?_) | refine acall (c) ?_ | refine qp (c) ?_ | refine qr (c) ?_ | refine qd ?_ | refine qi ?_ | refine qj ?_ | refine qm ?_) <;> (try simp (disch := first | omega | simp) [qh, -qq, -qs, pairA])) | ((with_reducible refine sideT ?_ ?_); first | omega | assumption | (simp; done)) | (refine qe fun K hK => ?_) | (refine qa ?_) | (refine qb true (by kernel_rfl) (by kernel_rfl) ?_) | (refine qb false (by kernel_rfl) (by kernel_rfl) ?_) | (refine hK _ ?_; clear hK K) | (clear hK K; refine hK _ ?_; clear hK K) | (clear hK K; clear hK K; refine hK _ ?_; clear hK K) | refine qc ?_)
theorem psub_g (a b : Val) : Gives Tryz.prog 100 [pairA a b] (numV (wrap64 (a.n - b.n))).av := by
  have c := pnum_w (a.n - b.n)
  generalize numV (wrap64 (a.n - b.n)) = R at *
  refine qn Tryz.func100 Tryz.ntmps100 rfl rfl (by decide) rfl (by intro n; simp) fun σ n0 hcl hft => ?_
  repeat' (first | ((first | ((with_reducible refine qo (fun hg => ?_) (fun hg => ?_)) <;> (try simp only [hg]) <;> (try simp only [gS] at hg) <;> (try (first | simp only [eq_false hg, gI] | simp only [eq_true hg, gI]))) | (with_reducible first | refine qg ?_ | refine qf ?_ | refine ql ?_ | refine qk ?_) | refine acall (c) ?_ | refine qp (c) ?_ | refine qr (c) ?_ | refine qd ?_ | refine qi ?_ | refine qj ?_ | refine qm ?_) <;> (try simp (disch := first | omega | simp) [qh, -qq, -qs, pairA])) | ((with_reducible refine sideT ?_ ?_); first | omega | assumption | (simp; done)) | (refine qe fun K hK => ?_) | (refine qa ?_) | (refine qb true (by kernel_rfl) (by kernel_rfl) ?_) | (refine qb false (by kernel_rfl) (by kernel_rfl) ?_) | (refine hK _ ?_; clear hK K) | (clear hK K; refine hK _ ?_; clear hK K) | (clear hK K; clear hK K; refine hK _ ?_; clear hK K) | refine qc ?_)
theorem pmul_g (a b : Val) : Gives Tryz.prog 101 [pairA a b] (numV (wrap64 (a.n * b.n))).av := by
  have c := pnum_w (a.n * b.n)
  generalize numV (wrap64 (a.n * b.n)) = R at *
  refine qn Tryz.func101 Tryz.ntmps101 rfl rfl (by decide) rfl (by intro n; simp) fun σ n0 hcl hft => ?_
  repeat' (first | ((first | ((with_reducible refine qo (fun hg => ?_) (fun hg => ?_)) <;> (try simp only [hg]) <;> (try simp only [gS] at hg) <;> (try (first | simp only [eq_false hg, gI] | simp only [eq_true hg, gI]))) | (with_reducible first | refine qg ?_ | refine qf ?_ | refine ql ?_ | refine qk ?_) | refine acall (c) ?_ | refine qp (c) ?_ | refine qr (c) ?_ | refine qd ?_ | refine qi ?_ | refine qj ?_ | refine qm ?_) <;> (try simp (disch := first | omega | simp) [qh, -qq, -qs, pairA])) | ((with_reducible refine sideT ?_ ?_); first | omega | assumption | (simp; done)) | (refine qe fun K hK => ?_) | (refine qa ?_) | (refine qb true (by kernel_rfl) (by kernel_rfl) ?_) | (refine qb false (by kernel_rfl) (by kernel_rfl) ?_) | (refine hK _ ?_; clear hK K) | (clear hK K; refine hK _ ?_; clear hK K) | (clear hK K; clear hK K; refine hK _ ?_; clear hK K) | refine qc ?_)
theorem pdiv_g (a b : Val) : Gives Tryz.prog 102 [pairA a b] (numV (divI a.n b.n)).av := by
  by_cases h0 : b.n = 0
  · have e : divI a.n b.n = 0 := by unfold divI; rw [if_pos h0]
    rw [e]
    have c := qck 0
    generalize numV 0 = R at *
    refine qn Tryz.func102 Tryz.ntmps102 rfl rfl (by decide) rfl (by intro n; simp) fun σ n0 hcl hft => ?_
    repeat' (first | ((first | ((with_reducible refine qo (fun hg => ?_) (fun hg => ?_)) <;> (try simp only [hg]) <;> (try simp only [gS] at hg) <;> (try (first | simp only [eq_false hg, gI] | simp only [eq_true hg, gI]))) | (with_reducible first | refine qg ?_ | refine qf ?_ | refine ql ?_ | refine qk ?_) | refine acall (c) ?_ | refine qp (c) ?_ | refine qr (c) ?_ | refine qd ?_ | refine qi ?_ | refine qj ?_ | refine qm ?_) <;> (try simp (disch := first | omega | simp) [qh, -qq, -qs, pairA, h0])) | ((with_reducible refine sideT ?_ ?_); first | omega | assumption | (simp; done)) | (refine qe fun K hK => ?_) | (refine qa ?_) | (refine qb true (by kernel_rfl) (by kernel_rfl) ?_) | (refine qb false (by kernel_rfl) (by kernel_rfl) ?_) | (refine hK _ ?_; clear hK K) | (clear hK K; refine hK _ ?_; clear hK K) | (clear hK K; clear hK K; refine hK _ ?_; clear hK K) | refine qc ?_)
    all_goals exact absurd h0 (by assumption)
  · have e : divI a.n b.n = wrap64 (a.n.tdiv b.n) := by unfold divI; rw [if_neg h0]
    rw [e]
    have c := pnum_w (a.n.tdiv b.n)
    generalize numV (wrap64 (a.n.tdiv b.n)) = R at *
    refine qn Tryz.func102 Tryz.ntmps102 rfl rfl (by decide) rfl (by intro n; simp) fun σ n0 hcl hft => ?_
    repeat' (first | ((first | ((with_reducible refine qo (fun hg => ?_) (fun hg => ?_)) <;> (try simp only [hg]) <;> (try simp only [gS] at hg) <;> (try (first | simp only [eq_false hg, gI] | simp only [eq_true hg, gI]))) | (with_reducible first | refine qg ?_ | refine qf ?_ | refine ql ?_ | refine qk ?_) | refine acall (c) ?_ | refine qp (c) ?_ | refine qr (c) ?_ | refine qd ?_ | refine qi ?_ | refine qj ?_ | refine qm ?_) <;> (try simp (disch := first | omega | simp) [qh, -qq, -qs, pairA, h0])) | ((with_reducible refine sideT ?_ ?_); first | omega | assumption | (simp; done)) | (refine qe fun K hK => ?_) | (refine qa ?_) | (refine qb true (by kernel_rfl) (by kernel_rfl) ?_) | (refine qb false (by kernel_rfl) (by kernel_rfl) ?_) | (refine hK _ ?_; clear hK K) | (clear hK K; refine hK _ ?_; clear hK K) | (clear hK K; clear hK K; refine hK _ ?_; clear hK K) | refine qc ?_)
    all_goals exact absurd (by assumption) h0
theorem pmod_g (a b : Val) : Gives Tryz.prog 103 [pairA a b] (numV (modI a.n b.n)).av := by
  by_cases h0 : b.n = 0
  · have e : modI a.n b.n = 0 := by unfold modI; rw [if_pos h0]
    rw [e]
    have c := qck 0
    generalize numV 0 = R at *
    refine qn Tryz.func103 Tryz.ntmps103 rfl rfl (by decide) rfl (by intro n; simp) fun σ n0 hcl hft => ?_
    repeat' (first | ((first | ((with_reducible refine qo (fun hg => ?_) (fun hg => ?_)) <;> (try simp only [hg]) <;> (try simp only [gS] at hg) <;> (try (first | simp only [eq_false hg, gI] | simp only [eq_true hg, gI]))) | (with_reducible first | refine qg ?_ | refine qf ?_ | refine ql ?_ | refine qk ?_) | refine acall (c) ?_ | refine qp (c) ?_ | refine qr (c) ?_ | refine qd ?_ | refine qi ?_ | refine qj ?_ | refine qm ?_) <;> (try simp (disch := first | omega | simp) [qh, -qq, -qs, pairA, h0])) | ((with_reducible refine sideT ?_ ?_); first | omega | assumption | (simp; done)) | (refine qe fun K hK => ?_) | (refine qa ?_) | (refine qb true (by kernel_rfl) (by kernel_rfl) ?_) | (refine qb false (by kernel_rfl) (by kernel_rfl) ?_) | (refine hK _ ?_; clear hK K) | (clear hK K; refine hK _ ?_; clear hK K) | (clear hK K; clear hK K; refine hK _ ?_; clear hK K) | refine qc ?_)
    all_goals exact absurd h0 (by assumption)
  · have e : modI a.n b.n = a.n.tmod b.n := by unfold modI; rw [if_neg h0]
    rw [e]
    have c := qck (a.n.tmod b.n)
    generalize numV (a.n.tmod b.n) = R at *
    refine qn Tryz.func103 Tryz.ntmps103 rfl rfl (by decide) rfl (by intro n; simp) fun σ n0 hcl hft => ?_
    repeat' (first | ((first | ((with_reducible refine qo (fun hg => ?_) (fun hg => ?_)) <;> (try simp only [hg]) <;> (try simp only [gS] at hg) <;> (try (first | simp only [eq_false hg, gI] | simp only [eq_true hg, gI]))) | (with_reducible first | refine qg ?_ | refine qf ?_ | refine ql ?_ | refine qk ?_) | refine acall (c) ?_ | refine qp (c) ?_ | refine qr (c) ?_ | refine qd ?_ | refine qi ?_ | refine qj ?_ | refine qm ?_) <;> (try simp (disch := first | omega | simp) [qh, -qq, -qs, pairA, h0])) | ((with_reducible refine sideT ?_ ?_); first | omega | assumption | (simp; done)) | (refine qe fun K hK => ?_) | (refine qa ?_) | (refine qb true (by kernel_rfl) (by kernel_rfl) ?_) | (refine qb false (by kernel_rfl) (by kernel_rfl) ?_) | (refine hK _ ?_; clear hK K) | (clear hK K; refine hK _ ?_; clear hK K) | (clear hK K; clear hK K; refine hK _ ?_; clear hK K) | refine qc ?_)
    all_goals exact absurd (by assumption) h0
theorem plt_g (a b : Val) : Gives Tryz.prog 106 [pairA a b] (boolV (decide (cmpV a b < 0))).av := by
  have c1 := pcompare_g a b
  simp only [Val.av] at c1
  generalize cmpV a b = C at *
  have c2 := qbz (decide (C < 0))
  generalize boolV (decide (C < 0)) = R at *
  refine qn Tryz.func106 Tryz.ntmps106 rfl rfl (by decide) rfl (by intro n; simp) fun σ n0 hcl hft => ?_
  repeat' (first | ((first | ((with_reducible refine qo (fun hg => ?_) (fun hg => ?_)) <;> (try simp only [hg]) <;> (try simp only [gS] at hg) <;> (try (first | simp only [eq_false hg, gI] | simp only [eq_true hg, gI]))) | (with_reducible first | refine qg ?_ | refine qf ?_ | refine ql ?_ | refine qk ?_) | refine acall (c1) ?_ | refine qp (c1) ?_ | refine qr (c1) ?_ | refine acall (c2) ?_ | refine qp (c2) ?_ | refine qr (c2) ?_ | refine qd ?_ | refine qi ?_ | refine qj ?_ | refine qm ?_) <;> (try simp (disch := first | omega | simp) [qh, -qq, -qs, pairA])) | ((with_reducible refine sideT ?_ ?_); first | omega | assumption | (simp; done)) | (refine qe fun K hK => ?_) | (refine qa ?_) | (refine qb true (by kernel_rfl) (by kernel_rfl) ?_) | (refine qb false (by kernel_rfl) (by kernel_rfl) ?_) | (refine hK _ ?_; clear hK K) | (clear hK K; refine hK _ ?_; clear hK K) | (clear hK K; clear hK K; refine hK _ ?_; clear hK K) | refine qc ?_)
theorem ple_g (a b : Val) : Gives Tryz.prog 107 [pairA a b] (boolV (decide (cmpV a b ≤ 0))).av := by
  have c1 := pcompare_g a b
  simp only [Val.av] at c1
  generalize cmpV a b = C at *
  have c2 := qbz (decide (C ≤ 0))
  generalize boolV (decide (C ≤ 0)) = R at *
  refine qn Tryz.func107 Tryz.ntmps107 rfl rfl (by decide) rfl (by intro n; simp) fun σ n0 hcl hft => ?_
  repeat' (first | ((first | ((with_reducible refine qo (fun hg => ?_) (fun hg => ?_)) <;> (try simp only [hg]) <;> (try simp only [gS] at hg) <;> (try (first | simp only [eq_false hg, gI] | simp only [eq_true hg, gI]))) | (with_reducible first | refine qg ?_ | refine qf ?_ | refine ql ?_ | refine qk ?_) | refine acall (c1) ?_ | refine qp (c1) ?_ | refine qr (c1) ?_ | refine acall (c2) ?_ | refine qp (c2) ?_ | refine qr (c2) ?_ | refine qd ?_ | refine qi ?_ | refine qj ?_ | refine qm ?_) <;> (try simp (disch := first | omega | simp) [qh, -qq, -qs, pairA])) | ((with_reducible refine sideT ?_ ?_); first | omega | assumption | (simp; done)) | (refine qe fun K hK => ?_) | (refine qa ?_) | (refine qb true (by kernel_rfl) (by kernel_rfl) ?_) | (refine qb false (by kernel_rfl) (by kernel_rfl) ?_) | (refine hK _ ?_; clear hK K) | (clear hK K; refine hK _ ?_; clear hK K) | (clear hK K; clear hK K; refine hK _ ?_; clear hK K) | refine qc ?_)
theorem pboth_g (a b : Val) : Gives Tryz.prog 108 [pairA a b] (boolV (decide (a.n = 1) && decide (b.n = 1))).av := by
  by_cases h1 : a.n = 1
  · have e : (decide (a.n = 1) && decide (b.n = 1)) = decide (b.n = 1) := by simp [h1]
    rw [e]
    have c : Gives Tryz.prog 98 [.bool (b.n == 1)] (boolV (decide (b.n = 1))).av := qbz _
    generalize boolV (decide (b.n = 1)) = R at *
    refine qn Tryz.func108 Tryz.ntmps108 rfl rfl (by decide) rfl (by intro n; simp) fun σ n0 hcl hft => ?_
    repeat' (first | ((first | ((with_reducible refine qo (fun hg => ?_) (fun hg => ?_)) <;> (try simp only [hg]) <;> (try simp only [gS] at hg) <;> (try (first | simp only [eq_false hg, gI] | simp only [eq_true hg, gI]))) | (with_reducible first | refine qg ?_ | refine qf ?_ | refine ql ?_ | refine qk ?_) | refine acall (c) ?_ | refine qp (c) ?_ | refine qr (c) ?_ | refine qd ?_ | refine qi ?_ | refine qj ?_ | refine qm ?_) <;> (try simp (disch := first | omega | simp) [qh, -qq, -qs, pairA, h1])) | ((with_reducible refine sideT ?_ ?_); first | omega | assumption | (simp; done)) | (refine qe fun K hK => ?_) | (refine qa ?_) | (refine qb true (by kernel_rfl) (by kernel_rfl) ?_) | (refine qb false (by kernel_rfl) (by kernel_rfl) ?_) | (refine hK _ ?_; clear hK K) | (clear hK K; refine hK _ ?_; clear hK K) | (clear hK K; clear hK K; refine hK _ ?_; clear hK K) | refine qc ?_)
    all_goals exact absurd h1 (by assumption)
  · have e : (decide (a.n = 1) && decide (b.n = 1)) = false := by simp [h1]
    rw [e]
    have c : Gives Tryz.prog 98 [.bool (false)] (boolV (false)).av := qbz _
    generalize boolV (false) = R at *
    refine qn Tryz.func108 Tryz.ntmps108 rfl rfl (by decide) rfl (by intro n; simp) fun σ n0 hcl hft => ?_
    repeat' (first | ((first | ((with_reducible refine qo (fun hg => ?_) (fun hg => ?_)) <;> (try simp only [hg]) <;> (try simp only [gS] at hg) <;> (try (first | simp only [eq_false hg, gI] | simp only [eq_true hg, gI]))) | (with_reducible first | refine qg ?_ | refine qf ?_ | refine ql ?_ | refine qk ?_) | refine acall (c) ?_ | refine qp (c) ?_ | refine qr (c) ?_ | refine qd ?_ | refine qi ?_ | refine qj ?_ | refine qm ?_) <;> (try simp (disch := first | omega | simp) [qh, -qq, -qs, pairA, h1])) | ((with_reducible refine sideT ?_ ?_); first | omega | assumption | (simp; done)) | (refine qe fun K hK => ?_) | (refine qa ?_) | (refine qb true (by kernel_rfl) (by kernel_rfl) ?_) | (refine qb false (by kernel_rfl) (by kernel_rfl) ?_) | (refine hK _ ?_; clear hK K) | (clear hK K; refine hK _ ?_; clear hK K) | (clear hK K; clear hK K; refine hK _ ?_; clear hK K) | refine qc ?_)
    all_goals exact absurd (by assumption) h1
theorem pany_g (a b : Val) : Gives Tryz.prog 109 [pairA a b] (boolV (decide (a.n = 1) || decide (b.n = 1))).av := by
  by_cases h1 : a.n = 1
  · have e : (decide (a.n = 1) || decide (b.n = 1)) = true := by simp [h1]
    rw [e]
    have c : Gives Tryz.prog 98 [.bool (true)] (boolV (true)).av := qbz _
    generalize boolV (true) = R at *
    refine qn Tryz.func109 Tryz.ntmps109 rfl rfl (by decide) rfl (by intro n; simp) fun σ n0 hcl hft => ?_
    repeat' (first | ((first | ((with_reducible refine qo (fun hg => ?_) (fun hg => ?_)) <;> (try simp only [hg]) <;> (try simp only [gS] at hg) <;> (try (first | simp only [eq_false hg, gI] | simp only [eq_true hg, gI]))) | (with_reducible first | refine qg ?_ | refine qf ?_ | refine ql ?_ | refine qk ?_) | refine acall (c) ?_ | refine qp (c) ?_ | refine qr (c) ?_ | refine qd ?_ | refine qi ?_ | refine qj ?_ | refine qm ?_) <;> (try simp (disch := first | omega | simp) [qh, -qq, -qs, pairA, h1])) | ((with_reducible refine sideT ?_ ?_); first | omega | assumption | (simp; done)) | (refine qe fun K hK => ?_) | (refine qa ?_) | (refine qb true (by kernel_rfl) (by kernel_rfl) ?_) | (refine qb false (by kernel_rfl) (by kernel_rfl) ?_) | (refine hK _ ?_; clear hK K) | (clear hK K; refine hK _ ?_; clear hK K) | (clear hK K; clear hK K; refine hK _ ?_; clear hK K) | refine qc ?_)
    all_goals exact absurd h1 (by assumption)
  · have e : (decide (a.n = 1) || decide (b.n = 1)) = decide (b.n = 1) := by simp [h1]
    rw [e]
    have c : Gives Tryz.prog 98 [.bool (b.n == 1)] (boolV (decide (b.n = 1))).av := qbz _
    generalize boolV (decide (b.n = 1)) = R at *
    refine qn Tryz.func109 Tryz.ntmps109 rfl rfl (by decide) rfl (by intro n; simp) fun σ n0 hcl hft => ?_
    repeat' (first | ((first | ((with_reducible refine qo (fun hg => ?_) (fun hg => ?_)) <;> (try simp only [hg]) <;> (try simp only [gS] at hg) <;> (try (first | simp only [eq_false hg, gI] | simp only [eq_true hg, gI]))) | (with_reducible first | refine qg ?_ | refine qf ?_ | refine ql ?_ | refine qk ?_) | refine acall (c) ?_ | refine qp (c) ?_ | refine qr (c) ?_ | refine qd ?_ | refine qi ?_ | refine qj ?_ | refine qm ?_) <;> (try simp (disch := first | omega | simp) [qh, -qq, -qs, pairA, h1])) | ((with_reducible refine sideT ?_ ?_); first | omega | assumption | (simp; done)) | (refine qe fun K hK => ?_) | (refine qa ?_) | (refine qb true (by kernel_rfl) (by kernel_rfl) ?_) | (refine qb false (by kernel_rfl) (by kernel_rfl) ?_) | (refine hK _ ?_; clear hK K) | (clear hK K; refine hK _ ?_; clear hK K) | (clear hK K; clear hK K; refine hK _ ?_; clear hK K) | refine qc ?_)
    all_goals exact absurd (by assumption) h1
theorem eqv_av (a b : Val) : aeq Tryz.prog .eql 39 (.agg [.int a.k, .int a.n, .str a.s]) (.agg [.int b.k, .int b.n, .str b.s]) = some (eqV a b) := by
  simp only [aeq, aeqS, Val.q, feq, feq1, eqV]
  by_cases h1 : a.k = b.k <;> by_cases h2 : a.n = b.n <;> by_cases h3 : a.s.toList = b.s.toList <;> simp [h1, h2, h3]
theorem nev_av (a b : Val) : aeq Tryz.prog .neq 39 (.agg [.int a.k, .int a.n, .str a.s]) (.agg [.int b.k, .int b.n, .str b.s]) = some (!eqV a b) := by
  simp only [aeq, aeqS, Val.q, feq, feq1, eqV]
  by_cases h1 : a.k = b.k <;> by_cases h2 : a.n = b.n <;> by_cases h3 : a.s.toList = b.s.toList <;> simp [h1, h2, h3]
theorem peq_g (a b : Val) : Gives Tryz.prog 104 [pairA a b] (boolV (eqV a b)).av := by
  have e := eqv_av a b
  have c := qbz (eqV a b)
  generalize eqV a b = q at *
  generalize boolV q = R at *
  refine qn Tryz.func104 Tryz.ntmps104 rfl rfl (by decide) rfl (by intro n; simp) fun σ n0 hcl hft => ?_
  repeat' (first | ((first | ((with_reducible refine qo (fun hg => ?_) (fun hg => ?_)) <;> (try simp only [hg]) <;> (try simp only [gS] at hg) <;> (try (first | simp only [eq_false hg, gI] | simp only [eq_true hg, gI]))) | (with_reducible first | refine qg ?_ | refine qf ?_ | refine ql ?_ | refine qk ?_) | refine acall (c) ?_ | refine qp (c) ?_ | refine qr (c) ?_ | refine qd ?_ | refine qi ?_ | refine qj ?_ | refine qm ?_) <;> (try simp (disch := first | omega | simp) [qh, -qq, -qs, pairA, e, -Val.av_fold])) | ((with_reducible refine sideT ?_ ?_); first | omega | assumption | (simp; done)) | (refine qe fun K hK => ?_) | (refine qa ?_) | (refine qb true (by kernel_rfl) (by kernel_rfl) ?_) | (refine qb false (by kernel_rfl) (by kernel_rfl) ?_) | (refine hK _ ?_; clear hK K) | (clear hK K; refine hK _ ?_; clear hK K) | (clear hK K; clear hK K; refine hK _ ?_; clear hK K) | refine qc ?_)
  all_goals rfl
theorem pne_g (a b : Val) : Gives Tryz.prog 105 [pairA a b] (boolV (!eqV a b)).av := by
  have e := nev_av a b
  have c := qbz (!eqV a b)
  generalize (!eqV a b) = q at *
  generalize boolV q = R at *
  refine qn Tryz.func105 Tryz.ntmps105 rfl rfl (by decide) rfl (by intro n; simp) fun σ n0 hcl hft => ?_
  repeat' (first | ((first | ((with_reducible refine qo (fun hg => ?_) (fun hg => ?_)) <;> (try simp only [hg]) <;> (try simp only [gS] at hg) <;> (try (first | simp only [eq_false hg, gI] | simp only [eq_true hg, gI]))) | (with_reducible first | refine qg ?_ | refine qf ?_ | refine ql ?_ | refine qk ?_) | refine acall (c) ?_ | refine qp (c) ?_ | refine qr (c) ?_ | refine qd ?_ | refine qi ?_ | refine qj ?_ | refine qm ?_) <;> (try simp (disch := first | omega | simp) [qh, -qq, -qs, pairA, e, -Val.av_fold])) | ((with_reducible refine sideT ?_ ?_); first | omega | assumption | (simp; done)) | (refine qe fun K hK => ?_) | (refine qa ?_) | (refine qb true (by kernel_rfl) (by kernel_rfl) ?_) | (refine qb false (by kernel_rfl) (by kernel_rfl) ?_) | (refine hK _ ?_; clear hK K) | (clear hK K; refine hK _ ?_; clear hK K) | (clear hK K; clear hK K; refine hK _ ?_; clear hK K) | refine qc ?_)
  all_goals rfl
theorem pjoin_g (a b : Val) (hz : a.s.size + b.s.size ≤ 9223372036854775807) : Gives Tryz.prog 110 [pairA a b] (textV (joinS a.s b.s)).av := by
  by_cases h2 : (200 : Int) < (a.s.size : Int) + b.s.size
  · have e : joinS a.s b.s = (a.s ++ b.s).extract 0 200 := by unfold joinS; rw [show min (a.s.size + b.s.size) 200 = 200 by omega]
    rw [e]
    have h3 : 200 ≤ a.s.size + b.s.size := by omega
    refine qn Tryz.func110 Tryz.ntmps110 rfl rfl (by decide) rfl (by intro n; simp) fun σ n0 hcl hft => ?_
    repeat' (first | ((first | ((with_reducible refine qo (fun hg => ?_) (fun hg => ?_)) <;> (try simp only [hg]) <;> (try simp only [gS] at hg) <;> (try (first | simp only [eq_false hg, gI] | simp only [eq_true hg, gI]))) | (with_reducible first | refine qg ?_ | refine qf ?_ | refine ql ?_ | refine qk ?_) | refine qd ?_ | refine qi ?_ | refine qj ?_ | refine qm ?_) <;> (try simp (disch := first | omega | simp) [qh, -qq, -qs, pairA, hz, h2, h3])) | ((with_reducible refine sideT ?_ ?_); first | omega | assumption | (simp; done)) | (refine qe fun K hK => ?_) | (refine qa ?_) | (refine qb true (by kernel_rfl) (by kernel_rfl) ?_) | (refine qb false (by kernel_rfl) (by kernel_rfl) ?_) | (refine hK _ ?_; clear hK K) | (clear hK K; refine hK _ ?_; clear hK K) | (clear hK K; clear hK K; refine hK _ ?_; clear hK K) | refine qc ?_)
    all_goals rfl
  · have e : joinS a.s b.s = (a.s ++ b.s).extract 0 (a.s.size + b.s.size) := by unfold joinS; rw [show min (a.s.size + b.s.size) 200 = a.s.size + b.s.size by omega]
    rw [e]
    have h3 : (0 : Int) ≤ (a.s.size : Int) + b.s.size := by omega
    have h4 : ((a.s.size : Int) + b.s.size).toNat = a.s.size + b.s.size := by omega
    refine qn Tryz.func110 Tryz.ntmps110 rfl rfl (by decide) rfl (by intro n; simp) fun σ n0 hcl hft => ?_
    repeat' (first | ((first | ((with_reducible refine qo (fun hg => ?_) (fun hg => ?_)) <;> (try simp only [hg]) <;> (try simp only [gS] at hg) <;> (try (first | simp only [eq_false hg, gI] | simp only [eq_true hg, gI]))) | (with_reducible first | refine qg ?_ | refine qf ?_ | refine ql ?_ | refine qk ?_) | refine qd ?_ | refine qi ?_ | refine qj ?_ | refine qm ?_) <;> (try simp (disch := first | omega | simp) [qh, -qq, -qs, pairA, hz, h2, h3, h4])) | ((with_reducible refine sideT ?_ ?_); first | omega | assumption | (simp; done)) | (refine qe fun K hK => ?_) | (refine qa ?_) | (refine qb true (by kernel_rfl) (by kernel_rfl) ?_) | (refine qb false (by kernel_rfl) (by kernel_rfl) ?_) | (refine hK _ ?_; clear hK K) | (clear hK K; refine hK _ ?_; clear hK K) | (clear hK K; clear hK K; refine hK _ ?_; clear hK K) | refine qc ?_)
    all_goals rfl
end Go.Proofs.YtnkimlkoijfcpaaGreatDoor
