/- Walks: Right and Type of the program. -/
import Derived.Test.YtnkimlkoijfcpaaGreatDoorGh2
import Derived.Test.YtnkimlkoijfcpaaGreatDoorGh5
import Derived.Test.YtnkimlkoijfcpaaGreatDoorGh14
import Derived.Test.YtnkimlkoijfcpaaGreatDoorGh15
import Derived.Test.YtnkimlkoijfcpaaGreatDoorGh16
import Derived.Test.YtnkimlkoijfcpaaGreatDoorGh17
set_option linter.unusedSimpArgs false
set_option linter.unusedVariables false
namespace Go.Proofs.YtnkimlkoijfcpaaGreatDoor
open Go.RowKit Go.Lib
theorem wrong_g (n : Int) : Gives Tryz.prog 86 [.int n] (.bool (!kindB n)) := by
  have c := xkind_g n
  generalize kindB n = b at *
  refine qn Tryz.func86 Tryz.ntmps86 rfl rfl (by decide) rfl (by intro n; simp) fun σ n0 hcl hft => ?_
  repeat' (first | ((first | ((with_reducible refine qo (fun hg => ?_) (fun hg => ?_)) <;> (try simp only [hg]) <;> (try simp only [gS] at hg) <;> (try (first | simp only [eq_false hg, gI] | simp only [eq_true hg, gI]))) | (with_reducible first | refine qh ?_ | refine qg ?_ | refine ql ?_ | refine qk ?_) | refine acall (c) ?_ | refine qr (c) ?_ | refine qp (c) ?_ | refine qd ?_ | refine qi ?_ | refine qj ?_ | refine qm ?_) <;> (try simp (disch := first | omega | simp) [qf, -qq, -qs])) | ((with_reducible refine sideT ?_ ?_); first | omega | assumption | (simp; done)) | (refine qe fun K hK => ?_) | (refine qb ?_) | (refine qa true (by kernel_rfl) (by kernel_rfl) ?_) | (refine qa false (by kernel_rfl) (by kernel_rfl) ?_) | (refine hK _ ?_; clear hK K) | (clear hK K; refine hK _ ?_; clear hK K) | (clear hK K; clear hK K; refine hK _ ?_; clear hK K) | refine qc ?_)
theorem fns_fits' {F : List Fn} (h : AV.fitss [.sl (F.map Fn.av)]) : ∀ f ∈ F, f.params.length ≤ 9223372036854775807 := fun f hf => by
  have h1 := (AV.fitss_iff.1 h) _ (List.mem_singleton_self _)
  rw [AV.fits] at h1
  have h2 := (AV.fitss_iff.1 h1.2) f.av (List.mem_map_of_mem hf)
  unfold Fn.av at h2
  rw [AV.fits] at h2
  have h3 := (AV.fitss_iff.1 h2) (.sl (f.params.map AV.int)) (by simp)
  rw [AV.fits] at h3
  simpa using h3.1
theorem any_wrong (l : List Int) : (l.any fun n => !kindB n) = !l.all kindB := by
  induction l with
  | nil => rfl
  | cons a l ih => simp [ih]
set_option maxHeartbeats 8000000 in
theorem xright_g (F : List Fn) (hp : ∀ f ∈ F, parts f.body ≤ 1000000) : Gives Tryz.prog 38 [.sl (F.map Fn.av)] (.bool (rightF F)) := by
  obtain ⟨B, hB⟩ : ∃ B, B = rightF F := ⟨_, rfl⟩
  rw [← hB]
  by_cases h20 : F.length ≤ 20
  rotate_left
  · have hBe : B = false := by
      rw [hB]; unfold rightF
      have : ¬ (F.length : Int) ≤ 20 := by omega
      simp [this]
    subst hBe
    have h20b : (20 : Int) < F.length := by omega
    clear hB
    refine qn Tryz.func38 Tryz.ntmps38 rfl rfl (by decide) rfl (by intro n; simp) fun σ n0 hcl hft => ?_
    repeat' (first | ((first | ((with_reducible refine qo (fun hg => ?_) (fun hg => ?_)) <;> (try simp only [hg]) <;> (try simp only [gS] at hg) <;> (try (first | simp only [eq_false hg, gI] | simp only [eq_true hg, gI]))) | (with_reducible first | refine qh ?_ | refine qg ?_ | refine ql ?_ | refine qk ?_) | refine qd ?_ | refine qi ?_ | refine qj ?_ | refine qm ?_) <;> (try simp (disch := first | omega | simp) [qf, -qq, -qs, h20b])) | ((with_reducible refine sideT ?_ ?_); first | omega | assumption | (simp; done)) | (refine qe fun K hK => ?_) | (refine qb ?_) | (refine qa true (by kernel_rfl) (by kernel_rfl) ?_) | (refine qa false (by kernel_rfl) (by kernel_rfl) ?_) | (refine hK _ ?_; clear hK K) | (clear hK K; refine hK _ ?_; clear hK K) | (clear hK K; clear hK K; refine hK _ ?_; clear hK K) | refine qc ?_)
  have h20b : ¬ (20 : Int) < F.length := by omega
  refine qn Tryz.func38 Tryz.ntmps38 rfl rfl (by decide) rfl (by intro n; simp) fun σ n0 hcl hft => ?_
  repeat' (first | ((first | ((with_reducible refine qo (fun hg => ?_) (fun hg => ?_)) <;> (try simp only [hg]) <;> (try simp only [gS] at hg) <;> (try (first | simp only [eq_false hg, gI] | simp only [eq_true hg, gI]))) | (with_reducible first | refine qh ?_ | refine qg ?_ | refine ql ?_ | refine qk ?_) | refine qd ?_ | refine qi ?_ | refine qj ?_ | refine qm ?_) <;> (try simp (disch := first | omega | simp) [qf, -qq, -qs, h20b])) | ((with_reducible refine sideT ?_ ?_); first | omega | assumption | (simp; done)) | (refine qe fun K hK => ?_) | (refine qb ?_) | (refine qa true (by kernel_rfl) (by kernel_rfl) ?_) | (refine qa false (by kernel_rfl) (by kernel_rfl) ?_) | (refine hK _ ?_; clear hK K) | (clear hK K; refine hK _ ?_; clear hK K) | (clear hK K; clear hK K; refine hK _ ?_; clear hK K) | refine qc ?_)
  refine qu hcl (fun i : Nat => [(0, .sl (F.map Fn.av)), (11, .sl (F.map Fn.av)), (12, .int F.length), (13, .int i)]) (fun _ => []) (fun i => i ≤ F.length ∧ ∀ j, j < i → j < F.length → okF F j = true) (fun i => F.length - i) 0 ⟨by omega, fun j h => by omega⟩ (by simp) fun i ⟨hi, he⟩ => ?_
  by_cases hlt : i < F.length
  rotate_left
  · have hBe : B = true := by rw [hB, rightF_end fun j hj => he j (by omega) hj]; simp; omega
    subst hBe
    repeat' (first | ((first | ((with_reducible refine qo (fun hg => ?_) (fun hg => ?_)) <;> (try simp only [hg]) <;> (try simp only [gS] at hg) <;> (try (first | simp only [eq_false hg, gI] | simp only [eq_true hg, gI]))) | (with_reducible first | refine qh ?_ | refine qg ?_ | refine ql ?_ | refine qk ?_) | refine qd ?_ | refine qi ?_ | refine qj ?_ | refine qm ?_) <;> (try simp (disch := first | omega | simp) [qf, -qq, -qs, hlt])) | ((with_reducible refine sideT ?_ ?_); first | omega | assumption | (simp; done)) | (refine qe fun K hK => ?_) | (refine qb ?_) | (refine qa true (by kernel_rfl) (by kernel_rfl) ?_) | (refine qa false (by kernel_rfl) (by kernel_rfl) ?_) | (refine hK _ ?_; clear hK K) | (clear hK K; refine hK _ ?_; clear hK K) | (clear hK K; clear hK K; refine hK _ ?_; clear hK K) | refine qc ?_)
  have hpk := hp F[i] (List.getElem_mem hlt)
  have hfl : F[i].params.length ≤ 9223372036854775807 := by
    simp [AV.fitss] at hft
    exact fns_fits' (F := F) (by simpa [AV.fitss] using hft) _ (List.getElem_mem hlt)
  obtain ⟨f, hf⟩ : ∃ f, f = F[i] := ⟨_, rfl⟩
  rw [← hf] at hpk hfl
  have hok := okF_at hlt
  rw [← hf] at hok
  have hil : ¬ F.length < i := by omega
  have hb : okF F i = false → B = false := fun h => by rw [hB]; exact rightF_false hlt h
  by_cases hl6 : (f.params.length : Int) ≤ 6
  rotate_left
  · have : B = false := hb (by rw [hok]; simp [hl6])
    subst this
    have hl6b : (6 : Int) < f.params.length := by omega
    clear hB hb hok
    repeat' (first | ((first | ((with_reducible refine qo (fun hg => ?_) (fun hg => ?_)) <;> (try simp only [hg]) <;> (try simp only [gS] at hg) <;> (try (first | simp only [eq_false hg, gI] | simp only [eq_true hg, gI]))) | (with_reducible first | refine qh ?_ | refine qg ?_ | refine ql ?_ | refine qk ?_) | refine qd ?_ | refine qi ?_ | refine qj ?_ | refine qm ?_) <;> (try simp (disch := first | omega | simp) [qf, -qq, -qs, hlt, hl6b, ← hf])) | ((with_reducible refine sideT ?_ ?_); first | omega | assumption | (simp; done)) | (refine qe fun K hK => ?_) | (refine qb ?_) | (refine qa true (by kernel_rfl) (by kernel_rfl) ?_) | (refine qa false (by kernel_rfl) (by kernel_rfl) ?_) | (refine hK _ ?_; clear hK K) | (clear hK K; refine hK _ ?_; clear hK K) | (clear hK K; clear hK K; refine hK _ ?_; clear hK K) | refine qc ?_)
  have hl6b : ¬ (6 : Int) < f.params.length := by omega
  have c1 := contI_n f.params (fun n => !kindB n) 86 (by kernel_rfl) (fun x _ => wrong_g x) (by omega)
  rw [any_wrong] at c1
  have c2 := typed_g (F.take i) [] f.params f.body hpk
  rw [scopeA, List.map_take, List.map_nil] at c2
  cases hall : f.params.all kindB with
  | false =>
    have : B = false := hb (by rw [hok, hall]; rfl)
    subst this
    rw [hall] at c1
    clear hB hb hok
    repeat' (first | ((first | ((with_reducible refine qo (fun hg => ?_) (fun hg => ?_)) <;> (try simp only [hg]) <;> (try simp only [gS] at hg) <;> (try (first | simp only [eq_false hg, gI] | simp only [eq_true hg, gI]))) | (with_reducible first | refine qh ?_ | refine qg ?_ | refine ql ?_ | refine qk ?_) | refine acall (c1) ?_ | refine qr (c1) ?_ | refine qp (c1) ?_ | refine qd ?_ | refine qi ?_ | refine qj ?_ | refine qm ?_) <;> (try simp (disch := first | omega | simp) [qf, -qq, -qs, hlt, hl6b, ← hf])) | ((with_reducible refine sideT ?_ ?_); first | omega | assumption | (simp; done)) | (refine qe fun K hK => ?_) | (refine qb ?_) | (refine qa true (by kernel_rfl) (by kernel_rfl) ?_) | (refine qa false (by kernel_rfl) (by kernel_rfl) ?_) | (refine hK _ ?_; clear hK K) | (clear hK K; refine hK _ ?_; clear hK K) | (clear hK K; clear hK K; refine hK _ ?_; clear hK K) | refine qc ?_)
  | true =>
    rw [hall] at c1 hok
    rw [Bool.true_and] at hok
    cases ht : tyD (F.take i) [] f.params f.body with
    | none =>
      rw [ht] at c2 hok
      have : B = false := hb (by rw [hok]; simp)
      subst this
      simp only [Option.getD_none, Option.isSome_none] at c2
      clear hB hb hok
      repeat' (first | ((first | ((with_reducible refine qo (fun hg => ?_) (fun hg => ?_)) <;> (try simp only [hg]) <;> (try simp only [gS] at hg) <;> (try (first | simp only [eq_false hg, gI] | simp only [eq_true hg, gI]))) | (with_reducible first | refine qh ?_ | refine qg ?_ | refine ql ?_ | refine qk ?_) | refine acall (c1) ?_ | refine qr (c1) ?_ | refine qp (c1) ?_ | refine acall (c2) ?_ | refine qr (c2) ?_ | refine qp (c2) ?_ | refine qd ?_ | refine qi ?_ | refine qj ?_ | refine qm ?_) <;> (try simp (disch := first | omega | simp) [qf, -qq, -qs, hlt, hl6b, hil, ← hf])) | ((with_reducible refine sideT ?_ ?_); first | omega | assumption | (simp; done)) | (refine qe fun K hK => ?_) | (refine qb ?_) | (refine qa true (by kernel_rfl) (by kernel_rfl) ?_) | (refine qa false (by kernel_rfl) (by kernel_rfl) ?_) | (refine hK _ ?_; clear hK K) | (clear hK K; refine hK _ ?_; clear hK K) | (clear hK K; clear hK K; refine hK _ ?_; clear hK K) | refine qc ?_)
    | some t =>
      rw [ht] at c2 hok
      simp only [Option.getD_some, Option.isSome_some] at c2
      by_cases htr : t = f.res
      rotate_left
      · have : B = false := hb (by rw [hok]; simp [htr])
        subst this
        have htb : (t == f.res) = false := by simp [htr]
        clear hB hb hok
        repeat' (first | ((first | ((with_reducible refine qo (fun hg => ?_) (fun hg => ?_)) <;> (try simp only [hg]) <;> (try simp only [gS] at hg) <;> (try (first | simp only [eq_false hg, gI] | simp only [eq_true hg, gI]))) | (with_reducible first | refine qh ?_ | refine qg ?_ | refine ql ?_ | refine qk ?_) | refine acall (c1) ?_ | refine qr (c1) ?_ | refine qp (c1) ?_ | refine acall (c2) ?_ | refine qr (c2) ?_ | refine qp (c2) ?_ | refine qd ?_ | refine qi ?_ | refine qj ?_ | refine qm ?_) <;> (try simp (disch := first | omega | simp) [qf, -qq, -qs, hlt, hl6b, hil, htr, htb, ← hf])) | ((with_reducible refine sideT ?_ ?_); first | omega | assumption | (simp; done)) | (refine qe fun K hK => ?_) | (refine qb ?_) | (refine qa true (by kernel_rfl) (by kernel_rfl) ?_) | (refine qa false (by kernel_rfl) (by kernel_rfl) ?_) | (refine hK _ ?_; clear hK K) | (clear hK K; refine hK _ ?_; clear hK K) | (clear hK K; clear hK K; refine hK _ ?_; clear hK K) | refine qc ?_)
        all_goals exact absurd (by assumption) htr
      · have hoki : okF F i = true := by rw [hok]; simp [htr, hl6]
        clear hB hb hok
        repeat' (first | ((first | ((with_reducible refine qo (fun hg => ?_) (fun hg => ?_)) <;> (try simp only [hg]) <;> (try simp only [gS] at hg) <;> (try (first | simp only [eq_false hg, gI] | simp only [eq_true hg, gI]))) | (with_reducible first | refine qh ?_ | refine qg ?_ | refine ql ?_ | refine qk ?_) | refine acall (c1) ?_ | refine qr (c1) ?_ | refine qp (c1) ?_ | refine acall (c2) ?_ | refine qr (c2) ?_ | refine qp (c2) ?_ | refine qd ?_ | refine qi ?_ | refine qj ?_ | refine qm ?_) <;> (try simp (disch := first | omega | simp) [qf, -qq, -qs, hlt, hl6b, hil, htr, ← hf])) | ((with_reducible refine sideT ?_ ?_); first | omega | assumption | (simp; done)) | (refine qe fun K hK => ?_) | (refine qb ?_) | (refine qa true (by kernel_rfl) (by kernel_rfl) ?_) | (refine qa false (by kernel_rfl) (by kernel_rfl) ?_) | (refine hK _ ?_; clear hK K) | (clear hK K; refine hK _ ?_; clear hK K) | (clear hK K; clear hK K; refine hK _ ?_; clear hK K) | refine qc ?_)
        all_goals
          refine ⟨i + 1, ⟨by omega, fun j hj hjl => ?_⟩, by omega, by simp⟩
          by_cases hji : j < i
          · exact he j hji hjl
          · obtain rfl : j = i := by omega
            exact hoki
theorem type_g (F : List Fn) (c p : List Int) (e : Ex) (hbd : parts e ≤ 1000000) (hpF : ∀ f ∈ F, parts f.body ≤ 1000000) :
    Gives Tryz.prog 9 [.sl (F.map Fn.av), .sl (c.map AV.int), .sl (p.map AV.int), e.av] (.tup [.int ((typeP F c p e).getD 0), .bool (typeP F c p e).isSome]) := by
  have c1 := xright_g F hpF
  have c2 := typed_g F c p e hbd
  unfold scopeA at c2
  unfold typeP
  cases h : rightF F with
  | false =>
    rw [h] at c1
    refine qn Tryz.func9 Tryz.ntmps9 rfl rfl (by decide) rfl (by intro n; simp) fun σ n0 hcl hft => ?_
    repeat' (first | ((first | ((with_reducible refine qo (fun hg => ?_) (fun hg => ?_)) <;> (try simp only [hg]) <;> (try simp only [gS] at hg) <;> (try (first | simp only [eq_false hg, gI] | simp only [eq_true hg, gI]))) | (with_reducible first | refine qh ?_ | refine qg ?_ | refine ql ?_ | refine qk ?_) | refine acall (c1) ?_ | refine qr (c1) ?_ | refine qp (c1) ?_ | refine qd ?_ | refine qi ?_ | refine qj ?_ | refine qm ?_) <;> (try simp (disch := first | omega | simp) [qf, -qq, -qs])) | ((with_reducible refine sideT ?_ ?_); first | omega | assumption | (simp; done)) | (refine qe fun K hK => ?_) | (refine qb ?_) | (refine qa true (by kernel_rfl) (by kernel_rfl) ?_) | (refine qa false (by kernel_rfl) (by kernel_rfl) ?_) | (refine hK _ ?_; clear hK K) | (clear hK K; refine hK _ ?_; clear hK K) | (clear hK K; clear hK K; refine hK _ ?_; clear hK K) | refine qc ?_)
  | true =>
    rw [h] at c1
    simp only [if_true]
    generalize tyD F c p e = T at *
    refine qn Tryz.func9 Tryz.ntmps9 rfl rfl (by decide) rfl (by intro n; simp) fun σ n0 hcl hft => ?_
    repeat' (first | ((first | ((with_reducible refine qo (fun hg => ?_) (fun hg => ?_)) <;> (try simp only [hg]) <;> (try simp only [gS] at hg) <;> (try (first | simp only [eq_false hg, gI] | simp only [eq_true hg, gI]))) | (with_reducible first | refine qh ?_ | refine qg ?_ | refine ql ?_ | refine qk ?_) | refine acall (c1) ?_ | refine qr (c1) ?_ | refine qp (c1) ?_ | refine acall (c2) ?_ | refine qr (c2) ?_ | refine qp (c2) ?_ | refine qd ?_ | refine qi ?_ | refine qj ?_ | refine qm ?_) <;> (try simp (disch := first | omega | simp) [qf, -qq, -qs])) | ((with_reducible refine sideT ?_ ?_); first | omega | assumption | (simp; done)) | (refine qe fun K hK => ?_) | (refine qb ?_) | (refine qa true (by kernel_rfl) (by kernel_rfl) ?_) | (refine qa false (by kernel_rfl) (by kernel_rfl) ?_) | (refine hK _ ?_; clear hK K) | (clear hK K; refine hK _ ?_; clear hK K) | (clear hK K; clear hK K; refine hK _ ?_; clear hK K) | refine qc ?_)
end Go.Proofs.YtnkimlkoijfcpaaGreatDoor

/- The contract of the program's Type, as an abstract one. -/
namespace Go.Proofs.YtnkimlkoijfcpaaGreatDoor
open Go.RowKit Go.Lib
end Go.Proofs.YtnkimlkoijfcpaaGreatDoor

/- Arrays: the address of an element. -/
namespace Go.Proofs.YtnkimlkoijfcpaaGreatDoor
open Go.RowKit Go.Lib
section
variable {P : Program} {ev : Operand → AV} {σ : Nat → AB}
theorem fop_indexArr {t e : TypeId} {n : Nat} {p i : Operand} {r off : Nat} {ik : IntKind} {k : Int} {ag : Bool} {sz : Nat} (ht : P.underlying t = some (.array n e)) (hs : tinfo P e = some (ag, sz)) (hp : ev p = .ptr r off) (hi : ev i = .v (.int ik k)) (h0 : 0 ≤ k) (h1 : k < n) :
    FOp P ev σ (.indexAddr t p i) (.ptr r (off + k.toNat * sz)) none := FOp.of fun X a oper ho hS hsub hev => by
  have h := hev p (by simp [Op.operands])
  have h2 := hev i (by simp [Op.operands])
  rw [hp] at h; rw [hi, RR.v] at h2
  change RC X (.ptr r off) [a.eval p] at h
  rw [RC] at h
  obtain ⟨hc, b, hm, hv⟩ := h
  have hv' : a.eval p = .pointer (some ⟨b, off, none⟩) := by simpa using hv
  refine ⟨.pointer (some ⟨b, off + k.toNat * sz, none⟩), ?_, ?_⟩
  · have := (qbt hs X.w).2
    simp [execOp, ho, hv', h2, Instr.indexAt, Instr.sureAddr, asIntOf, underlying, ht, h0, h1, this, qbi]
  · show RC X (.ptr r _) [_]
    rw [RC]
    exact ⟨hc, b, hm, rfl⟩
end
def aevX (P : Program) (s : AS) (o : Op) (K : AV → AS → Prop) : Prop :=
  match o with
  | .indexAddr t p i => match P.underlying t with
    | some (.array n e) => match tinfo P e, s.eval p, s.eval i with
      | some (_, sz), .ptr r off, .v (.int _ k) => 0 ≤ k ∧ k < n ∧ K (.ptr r (off + k.toNat * sz)) s
      | _, _, _ => False
    | _ => aev P s (.indexAddr t p i) K
  | o => aev P s o K
theorem aevX_sound {P : Program} {s : AS} {o : Op} {K : AV → AS → Prop} (h : aevX P s o K) : EOp P s o K := by
  unfold aevX at h
  split at h
  · split at h
    · split at h
      · exact eop_fun (nb := none) (fop_indexArr ‹_› ‹_› ‹_› ‹_› h.1 h.2.1) h.2.2
      · exact h.elim
    · exact qcj h
  · exact qcj h
def aseqX (P : Program) (ops : Array Oper) (K : AS → Prop) : List Oper → AS → Prop
  | [], s => K s
  | o :: l, s => match awant ops o s.t with
    | some b => qbn b (aevX P s o.op (fun x s1 => dstOk o.dst s1.n ∧ aseqX P ops K l (s1.put o.dst x))) (dstOk o.dst s.n ∧ aseqX P ops K l (s.put o.dst (.v undef)))
    | none => False
theorem aseqX_sound {P : Program} {ops : Array Oper} {K : AS → Prop} : ∀ {l : List Oper} {s : AS}, aseqX P ops K l s → aseq P ops K l s
  | [], _, h => h
  | o :: l, s, h => by
    rw [aseqX] at h
    rw [aseq]
    split at h
    · rename_i b hb
      cases b with
      | true => exact ⟨true, hb, (aevX_sound (h.1 rfl)).mono fun x s1 ⟨h1, h2⟩ => ⟨h1, aseqX_sound h2⟩⟩
      | false => exact ⟨false, hb, (h.2 rfl).1, aseqX_sound (h.2 rfl).2⟩
    · exact h.elim
theorem qel {P : Program} {s : AS} {id : Nat} {l : List Oper} {Q : Exit → AS → Prop} (h : aseqX P l.toArray (Q .normal) l s) : awp P (.region id l.toArray false) Q s := qde (aseqX_sound h)
attribute [simp] aevX aseqX
end Go.Proofs.YtnkimlkoijfcpaaGreatDoor

/- Regions that draw their order, and write own blocks alone: reads see the caller's blocks, and the own ones that stay. -/
namespace Go.Proofs.YtnkimlkoijfcpaaGreatDoor
open Go.RowKit Go.Lib
theorem wop_callB {P : Program} {s : AS} {f : FuncId} {d : Tmp} {caps : List AV} {args : List Operand} {tys : Array TypeId} {x : AV} {τ : Nat → AB} (hd : s.t d = .bm f caps) (hf : enters P f = true) (hn : ∀ y ∈ args, ∀ l, s.eval y ≠ .tup l) (h : AC P f (caps ++ (args.map s.eval).map AV.pub) s.st fun y τ' => y = x ∧ τ' = τ) :
    WOp P s.eval s.st (.call { callee := .value (.tmp d), args := args.toArray, argTypes := tys }) x τ := by
  intro X a oper ho hS _ hσ hev Q
  have hfn := hev (.tmp d) (by simp [Op.operands, Call.operands])
  change RR X (s.t d) _ at hfn
  rw [hd] at hfn
  change RC X (.bm f caps) [a.eval (.tmp d)] at hfn
  rw [RC] at hfn
  obtain ⟨vs, hv, hcaps⟩ := hfn
  have he : a.eval (.tmp d) = .func (.func f) vs.toArray #[] := by simpa using hv
  have hrun : (execOp a.eval oper).run P X.w = .ok (.enter f (vs ++ args.map a.eval).toArray) X.w := by
    simp [execOp, ho, resolve, he, Deferred.ofValue, invoke, qbu hf]
  have hargs := rrl_ev (a := a) args (fun y hy => hev y (by simp [Op.operands, Call.operands, hy])) hn
  unfold Oper.wp
  rw [hrun]
  refine (h X _ s.nx hS hσ s.fin (hcaps.rrl.append hargs.pub)).mono ?_
  rintro e w' ⟨Y, v, y, rfl, rfl, ⟨rfl, hσ'⟩, hS', hF, hR⟩
  exact ⟨v, Y, rfl, rfl, hS', hF, hR, hσ'⟩
theorem wop_of_fop {P : Program} {s : AS} {o : Op} {x : AV} {nb : Option AB} (h : FOp P s.eval s.st o x (nb.map (s.nx, ·))) : WOp P s.eval s.st o x (s.ext nb).st := by
  intro X a oper ho hS _ hσ hev Q
  refine Oper.wp_mono ?_ (h X a oper ho hS (fun r hr => .inl (by rw [hσ])) hev (fun r ab hr => ?_) Q)
  · rintro a' w' ⟨v, Y, e1, e2, e3, e4, e5, e6⟩
    refine ⟨v, Y, e1, e2, e3, e4, e5, ?_⟩
    rw [e6]
    cases nb with
    | none => exact hσ
    | some ab => rw [(ext_st s ab).1, hσ]; rfl
  · cases nb with
    | none => cases hr
    | some ab => cases hr; rw [hσ]; exact s.fin _ (Nat.le_refl _)
def aevW2 (P : Program) (s : AS) (o : Op) (K : AV → AS → Prop) : Prop :=
  match o with
  | .call { callee := .value (.tmp d), args := ⟨args⟩, argTypes := tys } => match s.t d with
    | .bm f bound => nts (args.map s.eval) = true ∧ enters P f = true ∧ ACall P f (bound ++ (args.map s.eval).map AV.pub) s K
    | _ => aevW P s (.call { callee := .value (.tmp d), args := ⟨args⟩, argTypes := tys }) K
  | .fieldAddr t p f => aevF P s (.fieldAddr t p f) (fun x nb => K x (s.ext nb))
  | .indexAddr t p f => aevF P s (.indexAddr t p f) (fun x nb => K x (s.ext nb))
  | .load t p => aevF P s (.load t p) (fun x nb => K x (s.ext nb))
  | .nilCheck p => aevF P s (.nilCheck p) (fun x nb => K x (s.ext nb))
  | .move p => aevF P s (.move p) (fun x nb => K x (s.ext nb))
  | o => aevW P s o K
theorem aevW2_sound {P : Program} {s : AS} {o : Op} {K : AV → AS → Prop} (h : aevW2 P s o K) : ∃ x s1, WOp P s.eval s.st o x s1.st ∧ (s1.t = s.t ∧ s1.n = s.n ∧ s1.n0 = s.n0) ∧ K x s1 := by
  have hf : ∀ o, aevF P s o (fun x nb => K x (s.ext nb)) → ∃ x s1, WOp P s.eval s.st o x s1.st ∧ (s1.t = s.t ∧ s1.n = s.n ∧ s1.n0 = s.n0) ∧ K x s1 := fun o h => by
    obtain ⟨x, nb, h1, h2⟩ := qcq h
    exact ⟨x, s.ext nb, wop_of_fop h1, by cases nb <;> exact ⟨rfl, rfl, rfl⟩, h2⟩
  unfold aevW2 at h
  split at h
  · split at h
    · obtain ⟨h1, h2, x, s1, h3, h4, h5⟩ := h
      exact ⟨x, s1, wop_callB ‹_› h2 (qco h1) h3, h4, h5⟩
    · exact aevW_sound h
  · exact hf _ h
  · exact hf _ h
  · exact hf _ h
  · exact hf _ h
  · exact hf _ h
  · exact aevW_sound h
def AS.seen (m : List AB) (s : AS) : AS := { s with L := m }
theorem kept_e {m : List AB} {s : AS} {σ0 : Nat → AB} {n0 : Nat} (hσ : s.σ = σ0) (hn : s.n0 = n0) (h : qcn m s.L) : ∀ r, loc σ0 n0 m r ≠ .unborn → s.st r = loc σ0 n0 m r := fun r hr => by
  by_cases hlt : r < n0
  · show loc s.σ s.n0 s.L r = _
    unfold loc
    rw [hn, if_pos hlt, if_pos hlt, hσ]
  · have e : loc σ0 n0 m r = loc (fun _ => .unborn) n0 m r := by unfold loc; rw [if_neg hlt, if_neg hlt]
    rw [e] at hr ⊢
    exact kept_of hn h r hr
theorem ext_keeps {m : List AB} {s : AS} {σ0 : Nat → AB} {n0 : Nat} (hke : ∀ r, loc σ0 n0 m r ≠ .unborn → s.st r = loc σ0 n0 m r) (nb : Option AB) : ∀ r, loc σ0 n0 m r ≠ .unborn → (s.ext nb).st r = loc σ0 n0 m r := fun r hr => by
  cases nb with
  | none => exact hke r hr
  | some ab =>
    have h0 := hke r hr
    have hlt : r < s.nx := Nat.lt_of_not_le fun hle => hr (h0.symm.trans (s.fin r hle))
    rw [(ext_st s ab).1]; unfold upd; rw [if_neg (by omega)]; exact h0
section
variable {P : Program}
end
attribute [simp] aevW2
@[simp] theorem seen_mk (m : List AB) (n : Nat) (t : Nat → AV) (σ : Nat → AB) (n0 : Nat) (L : List AB) : (AS.mk n t σ n0 L).seen m = ⟨n, t, σ, n0, m⟩ := rfl
end Go.Proofs.YtnkimlkoijfcpaaGreatDoor

/- A nil slice in an element of an own slice, from now on one that can grow. -/
namespace Go.Proofs.YtnkimlkoijfcpaaGreatDoor
open Go.RowKit Go.Lib
theorem RCs.set {X : St} {y z : AV} (h : ∀ vs, RC X y vs → RC X z vs) : ∀ {l : List AV} {xs : List Value} {k : Nat}, RCs X l xs → l[k]? = some y → RCs X (l.set k z) xs
  | [], _, _, _, h => by simp at h
  | d :: l, xs, 0, hr, hk => by
    rw [RCs] at hr
    obtain ⟨c1, c2, rfl, h1, h2⟩ := hr
    simp at hk
    subst hk
    rw [List.set_cons_zero, RCs]
    exact ⟨c1, c2, rfl, h _ h1, h2⟩
  | d :: l, xs, k + 1, hr, hk => by
    rw [RCs] at hr
    obtain ⟨c1, c2, rfl, h1, h2⟩ := hr
    rw [List.set_cons_succ, RCs]
    exact ⟨c1, c2, rfl, h1, RCs.set h h2 (by simpa using hk)⟩
end Go.Proofs.YtnkimlkoijfcpaaGreatDoor

/- Walks of layer 26: the one that makes registers. -/
namespace Go.Proofs.YtnkimlkoijfcpaaGreatDoor
open Go.RowKit Go.Lib
def mkB (cols : List Int) (L : List Ex) (a b c : Nat) : AB := .cells [.sl (cols.map AV.int), .gs a ((rawI L L 0).map Ins.av), .gs b ((L.map (typE cols)).map AV.int), .int 0, .own c 0] 100
def stM (cols : List Int) (q a b c : Nat) (L : List Ex) (σ : Nat → AB) : Nat → AB := fun r =>
  if r = q then mkB cols L a b c else if r = a then .tail L.length 78 7 else if r = b then .tail L.length 3 1 else if r = c then .obj (mapI (entI L L 0)) else σ r
structure Mk (cols : List Int) (q a b c : Nat) (L : List Ex) (σ : Nat → AB) : Prop where
  hq : σ q = mkB cols L a b c
  ha : σ a = .tail L.length 78 7
  hb : σ b = .tail L.length 3 1
  hc : σ c = .obj (mapI (entI L L 0))
section
variable {cols : List Int} {q a b c : Nat} {L M : List Ex} {σ : Nat → AB}
theorem Mk.ne (h : Mk cols q a b c L σ) : a ≠ q ∧ b ≠ q ∧ c ≠ q ∧ b ≠ a ∧ c ≠ a ∧ c ≠ b := by
  obtain ⟨h1, h2, h3, h4⟩ := h
  refine ⟨?_, ?_, ?_, ?_, ?_, ?_⟩ <;> (intro e; subst e)
  · rw [h1] at h2; cases h2
  · rw [h1] at h3; cases h3
  · rw [h1] at h4; cases h4
  · rw [h2] at h3; injection h3 with e1 e2 e3; exact absurd e2 (by decide)
  · rw [h2] at h4; cases h4
  · rw [h3] at h4; cases h4
theorem Mk.self (h : Mk cols q a b c L σ) : stM cols q a b c L σ = σ := by
  funext r
  unfold stM
  split
  · rename_i e; rw [e, h.hq]
  split
  · rename_i e; rw [e, h.ha]
  split
  · rename_i e; rw [e, h.hb]
  split
  · rename_i e; rw [e, h.hc]
  · rfl
theorem stM_mk (h : Mk cols q a b c L σ) (M : List Ex) : Mk cols q a b c M (stM cols q a b c M σ) := by
  obtain ⟨h1, h2, h3, h4, h5, h6⟩ := h.ne
  exact ⟨by simp [stM], by simp [stM, h1], by simp [stM, h2, h4], by simp [stM, h3, h5, h6]⟩
theorem stM_stM (L M : List Ex) : stM cols q a b c M (stM cols q a b c L σ) = stM cols q a b c M σ := by
  funext r
  unfold stM
  repeat' split
  all_goals rfl
theorem Mk.loc {n0 : Nat} (h : Mk cols q a b c L σ) (hfin : Fin σ n0) (K : List AB) : Mk cols q a b c L (loc σ n0 K) := by
  obtain ⟨h1, h2, h3, h4⟩ := h
  exact ⟨loc_at hfin h1 (by simp [mkB]) K, loc_at hfin h2 (by simp) K, loc_at hfin h3 (by simp) K, loc_at hfin h4 (by simp) K⟩
theorem Mk.lt {n0 : Nat} (h : Mk cols q a b c L σ) (hfin : Fin σ n0) : q < n0 ∧ a < n0 ∧ b < n0 ∧ c < n0 := by
  obtain ⟨h1, h2, h3, h4⟩ := h
  exact ⟨fin_lt hfin h1 (by simp [mkB]), fin_lt hfin h2 (by simp), fin_lt hfin h3 (by simp), fin_lt hfin h4 (by simp)⟩
theorem stM_loc {n0 : Nat} (hq : q < n0) (ha : a < n0) (hb : b < n0) (hc : c < n0) (K : List AB) : stM cols q a b c M (loc σ n0 K) = loc (stM cols q a b c M σ) n0 K := by
  funext r
  by_cases hr : r < n0
  · rw [qed _ _ _ _ hr]
    unfold stM
    rw [qed _ _ _ _ hr]
  · unfold stM loc
    rw [if_neg hr, if_neg hr, if_neg (by omega), if_neg (by omega), if_neg (by omega), if_neg (by omega)]
theorem mkB_cl {n0 : Nat} (ha : a < n0) (hb : b < n0) (hc : c < n0) : (mkB cols L a b c).cl n0 := by
  unfold mkB
  simp [ha, hb, hc]
theorem stM_cl {n0 : Nat} (hcl : ∀ r, (σ r).cl n0) (ha : a < n0) (hb : b < n0) (hc : c < n0) : ∀ r, (stM cols q a b c M σ r).cl n0 := fun r => by
  unfold stM
  split
  · exact mkB_cl ha hb hc
  split
  · trivial
  split
  · trivial
  split
  · trivial
  · exact hcl r
end
theorem acallT {P : Program} {f : FuncId} {args : List AV} {n n0 : Nat} {t : Nat → AV} {σ : Nat → AB} {L : List AB} {K : AV → AS → Prop} {x : AV} (σ' : Nat → AB) (h : AC P f args (loc σ n0 L) fun y τ => y = x ∧ τ = loc σ' n0 L) (hK : K x ⟨n, t, σ', n0, L⟩) : ACall P f args ⟨n, t, σ, n0, L⟩ K :=
  ⟨x, ⟨n, t, σ', n0, L⟩, h, ⟨rfl, rfl, rfl⟩, hK⟩
theorem acT_of_awp {P : Program} {f : FuncId} {fn : Func} {c : Code} {rs : List ResultVar} {args : List AV} {x : AV} {N : Nat} {σ σ' : Nat → AB} (hf : P.funcs[f]? = some fn) (hN : fn.ntmps = N) (hb : fn.body = some c) (hr : fn.results = rs.toArray) (hlen : rs.length ≤ 4) (ha : Nat.ble args.length N = true) (hx : ∀ n, x.cl n)
    (h : ∀ n0, Fin σ n0 → (∀ r, (σ r).cl n0) → AV.fitss args → Fin σ' n0 ∧ (∀ r, (σ' r).cl n0) ∧ awp P c (fun e s' => (e = .normal ∨ e = .ret) ∧ s'.n0 = n0 ∧ s'.σ = σ' ∧ ares P s' rs x) { n := N, t := qdj args 0, σ := σ, n0 := n0, L := [] }) : AC P f args σ fun y τ => y = x ∧ τ = σ' := by
  subst hN
  refine ac_of_awp hf hb hr hlen (Nat.le_of_ble_eq_true ha) fun n0 hfin hcl hft => ?_
  obtain ⟨g1, g2, g3⟩ := h n0 hfin hcl hft
  refine qek g3 fun e s' ⟨h1, h2, h3, h4⟩ => ⟨h1, h2, x, h4, hx n0, fun k _ => by rw [h3]; exact g2 k, rfl, ?_⟩
  funext k
  unfold Proofs.YtnkimlkoijfcpaaGreatDoor.cut
  rw [h3]
  split
  · rfl
  · exact (g1 k (by omega)).symm
theorem stM_fin {cols : List Int} {q a b c : Nat} {M : List Ex} {σ : Nat → AB} {n0 : Nat} (hfin : Fin σ n0) (hq : q < n0) (ha : a < n0) (hb : b < n0) (hc : c < n0) : Fin (stM cols q a b c M σ) n0 := fun r hr => by
  unfold stM
  rw [if_neg (by omega), if_neg (by omega), if_neg (by omega), if_neg (by omega)]
  exact hfin r hr
theorem aseqX_step {P : Program} {ops : Array Oper} {K : AS → Prop} {o : Oper} {l : List Oper} {s : AS} (h : match awant ops o s.t with
    | some b => qbn b (aevX P s o.op (fun x s1 => dstOk o.dst s1.n ∧ aseqX P ops K l (s1.put o.dst x))) (dstOk o.dst s.n ∧ aseqX P ops K l (s.put o.dst (.v undef)))
    | none => False) : aseqX P ops K (o :: l) s := h
theorem aseqX_end {P : Program} {ops : Array Oper} {K : AS → Prop} {s : AS} (h : K s) : aseqX P ops K [] s := h
theorem stM_new {cols : List Int} {q a b c : Nat} {M R : List Ex} {τ : Nat → AB} {B : AB} {n : Nat} (h : Mk cols q a b c M τ) (hB : B = mkB cols R a b c) (hn : n = R.length) :
    upd (upd (upd (upd τ a (.tail n 78 7)) b (.tail n 3 1)) q B) c (.obj (mapI (entI R R 0))) = stM cols q a b c R τ := by
  obtain ⟨n1, n2, n3, n4, n5, n6⟩ := h.ne
  subst hB hn
  funext r
  unfold stM upd
  by_cases h1 : r = c
  · subst h1; simp [n3, n5, n6]
  · rw [if_neg h1, if_neg h1]
    by_cases h2 : r = q
    · rw [if_pos h2, if_pos h2]
    · rw [if_neg h2, if_neg h2]
      by_cases h3 : r = b
      · subst h3; simp [n4]
      · rw [if_neg h3, if_neg h3]
end Go.Proofs.YtnkimlkoijfcpaaGreatDoor

/- Walk of layer 26: add. -/
namespace Go.Proofs.YtnkimlkoijfcpaaGreatDoor
open Go.RowKit Go.Lib
theorem findE_le (L : List Ex) (e : Ex) : -1 ≤ findE L e ∧ findE L e ≤ L.length := by
  refine ⟨findE_ge L e, ?_⟩
  by_cases h : 0 ≤ findE L e
  · have := qdc (L := L) (e := e) (k := (findE L e).toNat) (by omega)
    have := (List.getElem?_eq_some_iff.1 this).1
    omega
  · omega
set_option maxRecDepth 100000 in
set_option maxHeartbeats 16000000 in
theorem add_ac (cols : List Int) (hcols : cols.length ≤ 1000000) (q a b c : Nat) (e : Ex) : ∀ (L : List Ex) (σ : Nat → AB), PartsG cols L → TypE cols e → n64 e → L.length + parts e ≤ 1000000 → Mk cols q a b c L σ →
    AC Tryz.prog 53 [.ptr q 0, e.av] σ fun y τ => y = .int (findE (qz e L) e) ∧ τ = stM cols q a b c (qz e L) σ := by
  induction e using Ex.ind with | h o n s l ih => ?_
  intro L σ hg hT hn hsz hM
  obtain ⟨hn1, hn2⟩ := qch.1 hn
  have hl3 : l.length ≤ 3 := typ_args hT
  have hpe : parts (.mk o n s l) = qv l + 1 := by rw [parts]
  have hTl : ∀ x ∈ l, TypE cols x ∧ n64 x := fun x hx => ⟨hT.arg x hx, hn2 x hx⟩
  obtain ⟨hgM, hMl, -⟩ := qcy hg hTl
  obtain ⟨M, hMd⟩ : ∃ M, M = qt l L := ⟨_, rfl⟩
  have hlM : M.length ≤ L.length + qv l := by rw [hMd]; exact qbx l L
  rw [← hMd] at hgM hMl
  obtain ⟨R, hR⟩ : ∃ R, R = qz (.mk o n s l) L := ⟨_, rfl⟩
  have hR2 := hR
  rw [qz, ← hMd] at hR2
  rw [← hR]
  refine acT_of_awp Tryz.func53 Tryz.ntmps53 rfl rfl (by decide) rfl (by intro n; simp) fun n0 hfin hcl hft => ?_
  obtain ⟨hq, ha, hb, hc⟩ := hM.lt hfin
  refine ⟨stM_fin hfin hq ha hb hc, stM_cl hcl ha hb hc, ?_⟩
  obtain ⟨G, hG⟩ : ∃ G : Nat → Nat → Int, G = fun k j => if j < k then regK M (.mk o n s l) j else 0 := ⟨_, rfl⟩
  have hG0 : ∀ j, G 0 j = 0 := fun j => by rw [hG]; simp
  have hGl : ∀ j, G l.length j = regK M (.mk o n s l) j := fun j => by
    rw [hG]; dsimp only
    split
    · rfl
    · unfold regK
      rw [show (Ex.mk o n s l).args = l from rfl, List.getElem?_eq_none (by omega)]
  have hGs : ∀ k j, j ≠ k → G (k + 1) j = G k j := fun k j h => by
    rw [hG]; dsimp only
    by_cases h2 : j < k
    · rw [if_pos h2, if_pos (by omega)]
    · rw [if_neg h2, if_neg (by omega)]
  have hGk : ∀ k (h : k < l.length), G (k + 1) k = findE (qt (l.take (k + 1)) L) l[k] + 1 := fun k h => by
    rw [hG]; dsimp only
    rw [if_pos (by omega)]
    unfold regK
    rw [show (Ex.mk o n s l).args = l from rfl, List.getElem?_eq_getElem h]
    dsimp only
    have h1 : M = qt (l.drop (k + 1)) (qt (l.take (k + 1)) L) := by
      rw [hMd, ← qeq, List.take_append_drop]
    obtain ⟨g1, g2, -⟩ := qcy (l := l.take (k + 1)) hg fun x hx => hTl x (List.mem_of_mem_take hx)
    obtain ⟨g3, -, r, g4⟩ := qcy (l := l.drop (k + 1)) g1 fun x hx => hTl x (List.mem_of_mem_drop hx)
    rw [h1, g4]
    rw [g4] at g3
    rw [find_pre g3.di (g2 _ (List.mem_take_iff_getElem.2 ⟨k, by omega, rfl⟩))]
  clear hG
  repeat' (first | ((first | ((with_reducible refine qo (fun hg => ?_) (fun hg => ?_)) <;> (try simp only [hg]) <;> (try simp only [gS] at hg) <;> (try (first | simp only [eq_false hg, gI] | simp only [eq_true hg, gI]))) | (with_reducible first | refine qh ?_ | refine qg ?_ | refine ql ?_ | refine qk ?_) | refine qd ?_ | refine qi ?_ | refine qj ?_ | refine qm ?_) <;> (try simp (disch := first | omega | simp) [qf, -qq, -qs])) | ((with_reducible refine sideT ?_ ?_); first | omega | assumption | (simp; done)) | (refine qe fun K hK => ?_) | (refine qb ?_) | (refine qa true (by kernel_rfl) (by kernel_rfl) ?_) | (refine qa false (by kernel_rfl) (by kernel_rfl) ?_) | (refine hK _ ?_; clear hK K) | (clear hK K; refine hK _ ?_; clear hK K) | (clear hK K; clear hK K; refine hK _ ?_; clear hK K) | refine qc ?_)
  refine awp_loopS (fun k => stM cols q a b c (qt (l.take k) L) σ) (fun k : Nat => [(0, .ptr q 0), (3, .ptr n0 0), (5, .ptr (n0 + 1) 0), (22, .sl (l.map Ex.av)), (23, .int l.length), (24, .int k)])
    (fun k => [.cells [.int o, .int n, .str s, .sl (l.map Ex.av)] 25, .cells [.int o, .int n, .str s, .int (G k 0), .int (G k 1), .int (G k 2)] 145])
    (fun k => k ≤ l.length) (fun k => l.length - k) 0 (fun k _ => stM_cl hcl ha hb hc) (by omega) (by
      rw [List.take_zero, qt, hM.self]
      simp [leS, hG0]; omega) hcl fun k hk => ?_
  by_cases hlt : k < l.length
  · have hx := hTl l[k] (List.getElem_mem hlt)
    obtain ⟨gk, -, -⟩ := qcy (l := l.take k) hg fun x hx => hTl x (List.mem_of_mem_take hx)
    have hpk : (qt (l.take k) L).length + parts l[k] ≤ 1000000 := by
      have h1 := qbx (l.take k) L
      have h2 := qcr l k hlt
      have h3 := qbd l (k + 1)
      omega
    have hMk := stM_mk hM (qt (l.take k) L)
    have hfk : Fin (stM cols q a b c (qt (l.take k) L) σ) n0 := stM_fin hfin hq ha hb hc
    have hst : qz l[k] (qt (l.take k) L) = qt (l.take (k + 1)) L := by
      rw [List.take_succ_eq_append_getElem hlt, partsPs_snoc]
    have c1 := fun Lo => ih l[k] (List.getElem_mem hlt) (qt (l.take k) L) _ gk hx.1 hx.2 hpk (hMk.loc hfk Lo)
    rw [hst] at c1
    have c2 : ∀ Lo, AC Tryz.prog 53 [.ptr q 0, l[k].av] (loc (stM cols q a b c (qt (l.take k) L) σ) n0 Lo) fun y τ => y = .int (findE (qt (l.take (k + 1)) L) l[k]) ∧ τ = loc (stM cols q a b c (qt (l.take (k + 1)) L) σ) n0 Lo := fun Lo => by
      have := c1 Lo
      rw [stM_loc hq ha hb hc, stM_stM] at this
      exact this
    have hGk2 := hGk k hlt
    have hfe := findE_le (qt (l.take (k + 1)) L) l[k]
    have hle : ((qt (l.take (k + 1)) L).length : Int) ≤ 1000000 := by
      have h1 := qbx (l.take (k + 1)) L
      have h3 := qbd l (k + 1)
      omega
    obtain ⟨F, hF⟩ : ∃ F, F = findE (qt (l.take (k + 1)) L) l[k] := ⟨_, rfl⟩
    rw [← hF] at hfe hGk2 c2
    have hF2 : F + 1 ≤ 9223372036854775807 := by omega
    have hF3 : -9223372036854775808 ≤ F + 1 := by omega
    have hG1 := hGs k
    obtain rfl | rfl | rfl : k = 0 ∨ k = 1 ∨ k = 2 := by omega
    · have hi : (0 : Int) < l.length := by omega
      have e0 : G 1 0 = F + 1 := hGk2
      have e1 : G 1 1 = G 0 1 := hG1 1 (by omega)
      have e2 : G 1 2 = G 0 2 := hG1 2 (by omega)
      repeat' (first | ((first | with_reducible refine qel (id := 5) ?_ | ((with_reducible refine qo (fun hg => ?_) (fun hg => ?_)) <;> (try simp only [hg]) <;> (try simp only [gS] at hg) <;> (try (first | simp only [eq_false hg, gI] | simp only [eq_true hg, gI]))) | (with_reducible first | refine qh ?_ | refine qg ?_ | refine ql ?_ | refine qk ?_) | refine acallT _ (c2 _) ?_ | refine qd ?_ | refine qi ?_ | refine qj ?_ | refine qm ?_) <;> (try simp (disch := first | omega | simp) [qf, -qq, -qs, hlt, hi, hF2, hF3])) | ((with_reducible refine sideT ?_ ?_); first | omega | assumption | (simp; done)) | (refine qe fun K hK => ?_) | (refine qb ?_) | (refine qa true (by kernel_rfl) (by kernel_rfl) ?_) | (refine qa false (by kernel_rfl) (by kernel_rfl) ?_) | (refine hK _ ?_; clear hK K) | (clear hK K; refine hK _ ?_; clear hK K) | (clear hK K; clear hK K; refine hK _ ?_; clear hK K) | refine qc ?_)
      exact ⟨stM_cl hcl ha hb hc, 1, by omega, by omega, fun r _ => rfl, by simp [e0, e1, e2]; omega⟩
    · have hi : (1 : Int) < l.length := by omega
      have e0 : G 2 0 = G 1 0 := hG1 0 (by omega)
      have e1 : G 2 1 = F + 1 := hGk2
      have e2 : G 2 2 = G 1 2 := hG1 2 (by omega)
      repeat' (first | ((first | with_reducible refine qel (id := 5) ?_ | ((with_reducible refine qo (fun hg => ?_) (fun hg => ?_)) <;> (try simp only [hg]) <;> (try simp only [gS] at hg) <;> (try (first | simp only [eq_false hg, gI] | simp only [eq_true hg, gI]))) | (with_reducible first | refine qh ?_ | refine qg ?_ | refine ql ?_ | refine qk ?_) | refine acallT _ (c2 _) ?_ | refine qd ?_ | refine qi ?_ | refine qj ?_ | refine qm ?_) <;> (try simp (disch := first | omega | simp) [qf, -qq, -qs, hlt, hi, hF2, hF3])) | ((with_reducible refine sideT ?_ ?_); first | omega | assumption | (simp; done)) | (refine qe fun K hK => ?_) | (refine qb ?_) | (refine qa true (by kernel_rfl) (by kernel_rfl) ?_) | (refine qa false (by kernel_rfl) (by kernel_rfl) ?_) | (refine hK _ ?_; clear hK K) | (clear hK K; refine hK _ ?_; clear hK K) | (clear hK K; clear hK K; refine hK _ ?_; clear hK K) | refine qc ?_)
      exact ⟨stM_cl hcl ha hb hc, 2, by omega, by omega, fun r _ => rfl, by simp [e0, e1, e2]; omega⟩
    · have hi : (2 : Int) < l.length := by omega
      have e0 : G 3 0 = G 2 0 := hG1 0 (by omega)
      have e1 : G 3 1 = G 2 1 := hG1 1 (by omega)
      have e2 : G 3 2 = F + 1 := hGk2
      repeat' (first | ((first | with_reducible refine qel (id := 5) ?_ | ((with_reducible refine qo (fun hg => ?_) (fun hg => ?_)) <;> (try simp only [hg]) <;> (try simp only [gS] at hg) <;> (try (first | simp only [eq_false hg, gI] | simp only [eq_true hg, gI]))) | (with_reducible first | refine qh ?_ | refine qg ?_ | refine ql ?_ | refine qk ?_) | refine acallT _ (c2 _) ?_ | refine qd ?_ | refine qi ?_ | refine qj ?_ | refine qm ?_) <;> (try simp (disch := first | omega | simp) [qf, -qq, -qs, hlt, hi, hF2, hF3])) | ((with_reducible refine sideT ?_ ?_); first | omega | assumption | (simp; done)) | (refine qe fun K hK => ?_) | (refine qb ?_) | (refine qa true (by kernel_rfl) (by kernel_rfl) ?_) | (refine qa false (by kernel_rfl) (by kernel_rfl) ?_) | (refine hK _ ?_; clear hK K) | (clear hK K; refine hK _ ?_; clear hK K) | (clear hK K; clear hK K; refine hK _ ?_; clear hK K) | refine qc ?_)
      exact ⟨stM_cl hcl ha hb hc, 3, by omega, by omega, fun r _ => rfl, by simp [e0, e1, e2]; omega⟩
  · obtain rfl : k = l.length := by omega
    rw [List.take_length, ← hMd, hGl, hGl, hGl]
    have hMτ := stM_mk hM M
    have hRτ : stM cols q a b c R σ = stM cols q a b c R (stM cols q a b c M σ) := (stM_stM M R).symm
    have hself := hMτ.self
    rw [hRτ]
    have hclτ := stM_cl (cols := cols) (q := q) (M := M) hcl ha hb hc
    generalize stM cols q a b c M σ = τ at hMτ hclτ hself hRτ ⊢
    have hMlen : M.length ≤ 1000000 := by omega
    have hMl1 : (M.length : Int) ≤ 1000000 := by omega
    have tq : τ q = .cells [.sl (cols.map AV.int), .gs a ((rawI M M 0).map Ins.av), .gs b ((M.map (typE cols)).map AV.int), .int 0, .own c 0] 100 := hMτ.hq
    have ta := hMτ.ha
    have tb := hMτ.hb
    have tc := hMτ.hc
    by_cases he : Ex.mk o n s l ∈ M
    · have hf := qbr.2 he
      rw [if_neg (by omega)] at hR2
      have look := part_hit hgM hMlen he
      rw [hR2, hself]
      repeat' (first | ((first | ((with_reducible refine qo (fun hg => ?_) (fun hg => ?_)) <;> (try simp only [hg]) <;> (try simp only [gS] at hg) <;> (try (first | simp only [eq_false hg, gI] | simp only [eq_true hg, gI]))) | (with_reducible first | refine qh ?_ | refine qg ?_ | refine ql ?_ | refine qk ?_) | refine alook (look) ?_ | refine aupd (look) ?_ | refine qd ?_ | refine qi ?_ | refine qj ?_ | refine qm ?_) <;> (try simp (disch := first | omega | simp) [qf, -qq, -qs, hlt, hq, ha, hb, hc, tq, ta, tb, tc, qed])) | ((with_reducible refine sideT ?_ ?_); first | omega | assumption | (simp; done)) | (refine qe fun K hK => ?_) | (refine qb ?_) | (refine qa true (by kernel_rfl) (by kernel_rfl) ?_) | (refine qa false (by kernel_rfl) (by kernel_rfl) ?_) | (refine hK _ ?_; clear hK K) | (clear hK K; refine hK _ ?_; clear hK K) | (clear hK K; clear hK K; refine hK _ ?_; clear hK K) | refine qc ?_)
      all_goals exact ⟨by rw [hRτ, hR2, hself], by rw [hR2]⟩
    · have hf : findE M (Ex.mk o n s l) < 0 := by
        have := mt qbr.1 he; omega
      rw [if_pos hf] at hR2
      have look := part_miss hgM hMlen hT hn hMl he
      have upd1 := part_upd hgM hMlen hT hn hMl he
      have ct := type_g [] cols [] (.mk o n s l) (by omega) (by simp)
      simp only [Ex.av_mk, List.map_nil] at ct
      have hk0 := regK_i64 (L := M) hMlen (.mk o n s l)
      have hkr : ∀ k, 0 ≤ regK M (.mk o n s l) k ∧ regK M (.mk o n s l) k ≤ 1000001 := fun k => by
        unfold regK
        split
        · rename_i x hx
          have h1 := findE_le M x
          omega
        · omega
      have k0 := hkr 0
      have k1 := hkr 1
      have k2 := hkr 2
      have ak : ∀ k, (if regK M (.mk o n s l) k - 1 < 0 then 0 else regK M (.mk o n s l) k - 1) = argI M (.mk o n s l) k := fun k => by
        have h1 := hkr k
        unfold regK argI at *
        cases hk2 : (Ex.mk o n s l).args[k]? with
        | none => simp
        | some x =>
          have hx := qbr.2 (hMl x (List.mem_of_getElem? hk2))
          simp only
          rw [if_neg (by omega)]; omega
      have ak0 := ak 0
      have ak1 := ak 1
      have ak2 := ak 2
      obtain ⟨n1, n2, n3, n4, n5, n6⟩ := hMτ.ne
      have n1' := n1.symm
      have n2' := n2.symm
      have n3' := n3.symm
      have n4' := n4.symm
      have n5' := n5.symm
      have n6' := n6.symm
      have rl := rawI_len M M 0
      have wr : AV.wid ((rawI M M 0).map Ins.av) 7 := Ins.avs_wid _
      have wt : AV.wid (M.map (AV.int ∘ typE cols)) 1 := AV.wid_map (f := AV.int ∘ typE cols) (fun _ => rfl) _
      have bs1 : (M.length + 1) * 72 ≤ 140737488355328 := by omega
      have bs2 : (M.length + 1) * 8 ≤ 140737488355328 := by omega
      repeat' (first | ((first | ((with_reducible refine qo (fun hg => ?_) (fun hg => ?_)) <;> (try simp only [hg]) <;> (try simp only [gS] at hg) <;> (try (first | simp only [eq_false hg, gI] | simp only [eq_true hg, gI]))) | (with_reducible first | refine qh ?_ | refine qg ?_ | refine ql ?_ | refine qk ?_) | refine qd ?_ | refine qi ?_ | refine qj ?_ | refine qm ?_) <;> (try simp (disch := first | omega | simp) [qf, -qq, -qs, hlt, hq, ha, hb, hc, tq, ta, tb, tc, qed, -aseqX, ak0, ak1, ak2])) | ((with_reducible refine sideT ?_ ?_); first | omega | assumption | (simp; done)) | (refine qe fun K hK => ?_) | (refine qb ?_) | (refine hK _ ?_; clear hK K) | (clear hK K; refine hK _ ?_; clear hK K) | (clear hK K; clear hK K; refine hK _ ?_; clear hK K) | refine qc ?_)
      refine qa true (by kernel_rfl) (by kernel_rfl) ?_
      repeat' (first | ((first | with_reducible refine qel (id := 11) ?_ | ((with_reducible refine qo (fun hg => ?_) (fun hg => ?_)) <;> (try simp only [hg]) <;> (try simp only [gS] at hg) <;> (try (first | simp only [eq_false hg, gI] | simp only [eq_true hg, gI]))) | (with_reducible first | refine qh ?_ | refine qg ?_ | refine ql ?_ | refine qk ?_) | refine alook (look) ?_ | refine aupd (look) ?_ | refine aseqX_step ?_ | refine aseqX_end ?_ | refine qd ?_ | refine qi ?_ | refine qj ?_ | refine qm ?_) <;> (try simp (disch := first | omega | simp) [qf, -qq, -qs, hlt, hq, ha, hb, hc, tq, ta, tb, tc, qed, -aseqX, ak0, ak1, ak2])) | ((with_reducible refine sideT ?_ ?_); first | omega | assumption | (simp; done)) | (refine qe fun K hK => ?_) | (refine qb ?_) | (refine hK _ ?_; clear hK K) | (clear hK K; refine hK _ ?_; clear hK K) | (clear hK K; clear hK K; refine hK _ ?_; clear hK K) | refine qc ?_)
      refine qa true (by kernel_rfl) (by kernel_rfl) ?_
      repeat' (first | ((first | ((with_reducible refine qo (fun hg => ?_) (fun hg => ?_)) <;> (try simp only [hg]) <;> (try simp only [gS] at hg) <;> (try (first | simp only [eq_false hg, gI] | simp only [eq_true hg, gI]))) | (with_reducible first | refine qh ?_ | refine qg ?_ | refine ql ?_ | refine qk ?_) | refine acall (ct) ?_ | refine qr (ct) ?_ | refine qp (ct) ?_ | refine qd ?_ | refine qi ?_ | refine qj ?_ | refine qm ?_) <;> (try simp (disch := first | omega | simp) [qf, -qq, -qs, hlt, hq, ha, hb, hc, tq, ta, tb, tc, qed, -aseqX, ak0, ak1, ak2])) | ((with_reducible refine sideT ?_ ?_); first | omega | assumption | (simp; done)) | (refine qe fun K hK => ?_) | (refine qb ?_) | (refine hK _ ?_; clear hK K) | (clear hK K; refine hK _ ?_; clear hK K) | (clear hK K; clear hK K; refine hK _ ?_; clear hK K) | refine qc ?_)
      refine awp_anyQ [.unborn, .unborn, .cells [.int o, .int M.length, .int (argI M (.mk o n s l) 0), .int (argI M (.mk o n s l) 1), .int (argI M (.mk o n s l) 2), .int n, .str s] 78] q [.R, .R, .R, .R, .R, .R, .N, .R, .R, .A, .R, .R, .R, .R, .N, .R, .R, .A, .R, .R, .R, .W, .R, .R, .R, .W] (by kernel_rfl) (by kernel_rfl) (by simp) ?_
      repeat' (first | ((first | ((with_reducible refine qo (fun hg => ?_) (fun hg => ?_)) <;> (try simp only [hg]) <;> (try simp only [gS] at hg) <;> (try (first | simp only [eq_false hg, gI] | simp only [eq_true hg, gI]))) | (with_reducible first | refine qh ?_ | refine qg ?_ | refine ql ?_ | refine qk ?_) | refine qd ?_ | refine qi ?_ | refine qj ?_ | refine qm ?_) <;> (try simp (disch := first | omega | simp) [qf, -qq, -qs, hlt, hq, ha, hb, hc, tq, ta, tb, tc, qed, -aseqX, ak0, ak1, ak2, n1, n2, n3, n4, n5, n6, n1', n2', n3', n4', n5', n6', rl, wr, wt, bs1, bs2])) | ((with_reducible refine sideT ?_ ?_); first | omega | assumption | (simp; done)) | (refine qe fun K hK => ?_) | (refine qb ?_) | (refine hK _ ?_; clear hK K) | (clear hK K; refine hK _ ?_; clear hK K) | (clear hK K; clear hK K; refine hK _ ?_; clear hK K) | refine qc ?_)
      refine awp_anyQ [.unborn, .cells [.int o, .int n, .str s, .int (regK M (.mk o n s l) 0), .int (regK M (.mk o n s l) 1), .int (regK M (.mk o n s l) 2)] 145] q [.R, .R, .R, .N, .R, .R, .W] (by kernel_rfl) (by kernel_rfl) (by simp) ?_
      repeat' (first | ((first | ((with_reducible refine qo (fun hg => ?_) (fun hg => ?_)) <;> (try simp only [hg]) <;> (try simp only [gS] at hg) <;> (try (first | simp only [eq_false hg, gI] | simp only [eq_true hg, gI]))) | (with_reducible first | refine qh ?_ | refine qg ?_ | refine ql ?_ | refine qk ?_) | refine alook (upd1) ?_ | refine aupd (upd1) ?_ | refine qd ?_ | refine qi ?_ | refine qj ?_ | refine qm ?_) <;> (try simp (disch := first | omega | simp) [qf, -qq, -qs, hlt, hq, ha, hb, hc, tq, ta, tb, tc, qed, -aseqX, ak0, ak1, ak2, n1, n2, n3, n4, n5, n6, n1', n2', n3', n4', n5', n6', rl, wr, wt, bs1, bs2])) | ((with_reducible refine sideT ?_ ?_); first | omega | assumption | (simp; done)) | (refine qe fun K hK => ?_) | (refine qb ?_) | (refine hK _ ?_; clear hK K) | (clear hK K; refine hK _ ?_; clear hK K) | (clear hK K; clear hK K; refine hK _ ?_; clear hK K) | refine qc ?_)
      have hsn := raw_snoc hgM.cl (dist_snoc hgM.di he) hMl
      refine ⟨?_, ?_⟩
      · rw [hRτ, hR2]
        refine stM_new hMτ ?_ (by simp)
        unfold mkB
        rw [hsn.1]
        simp [insE, Ins.av, typE, -Ins.av_fold, Ex.op, Ex.n, Ex.s]
      · rw [hR2, findE_at (dist_snoc hgM.di he) (k := M.length) (by simp)]
end Go.Proofs.YtnkimlkoijfcpaaGreatDoor

/- Layer 26 on plain data: what Compile returns. -/
namespace Go.Proofs.YtnkimlkoijfcpaaGreatDoor
open Go.RowKit Go.Lib
mutual
def allP (P : Int → Int → Prop) : Ex → Prop
  | .mk o n _ l => P o n ∧ allPs P l
def allPs (P : Int → Int → Prop) : List Ex → Prop
  | [] => True
  | e :: l => allP P e ∧ allPs P l
end
theorem allPs_iff {P : Int → Int → Prop} : ∀ {l : List Ex}, allPs P l ↔ ∀ x ∈ l, allP P x
  | [] => by rw [allPs]; simp
  | e :: l => by rw [allPs, allPs_iff]; simp
theorem qej {P : Int → Int → Prop} {o n : Int} {s : ByteArray} {l : List Ex} : allP P (.mk o n s l) ↔ P o n ∧ ∀ x ∈ l, allP P x := by rw [allP, allPs_iff]
section
variable {P : Int → Int → Prop}
theorem put_allP {op : Int} {L : List Ex} (hL : ∀ x ∈ L, allP P x) (e : Ex) : ∀ {y : Ex}, allP P e → putP op L e = some y → allP P y := by
  induction e using Ex.ind with
  | h o n s l ih =>
    intro y h hy
    obtain ⟨hn, hl⟩ := qej.1 h
    rw [putP] at hy
    split at hy
    · split at hy
      · cases hy
      · exact hL _ (List.mem_of_getElem? hy)
    · cases hp : putPs op L l with
      | none => rw [hp] at hy; cases hy
      | some l' =>
        rw [hp] at hy; cases hy
        refine qej.2 ⟨hn, fun x hx => ?_⟩
        obtain ⟨z, hz, h2⟩ := putPs_mem l hp x hx
        exact ih z hz (hl z hz) h2
theorem inl_allP (h0 : P 0 0) {bs : List (Option Ex)} (hbs : ∀ b ∈ bs, ∀ y, b = some y → allP P y) (e : Ex) : ∀ {y : Ex}, allP P e → inlE bs e = some y → allP P y := by
  induction e using Ex.ind with
  | h o n s l ih =>
    intro y h hy
    obtain ⟨hn, hl⟩ := qej.1 h
    rw [inlE] at hy
    cases hp : inlL bs l with
    | none => rw [hp] at hy; cases hy
    | some ys =>
      rw [hp] at hy
      have hys : ∀ x ∈ ys, allP P x := fun x hx => by
        obtain ⟨z, hz, h2⟩ := inlL_mem26 l hp x hx
        exact ih z hz (hl z hz) h2
      dsimp only at hy
      split at hy
      · cases hb : bs.getD n.toNat none with
        | none => rw [hb] at hy; cases hy
        | some b =>
          rw [hb] at hy
          have hbm : some b ∈ bs := by
            rw [List.getD_eq_getElem?_getD] at hb
            cases hg : bs[n.toNat]? with
            | none => rw [hg] at hb; cases hb
            | some z => rw [hg] at hb; cases hb; exact List.mem_of_getElem? hg
          rw [← fitX_some hy]
          cases hq : putP 4 ys b with
          | none => exact qej.2 ⟨h0, by simp⟩
          | some z => exact put_allP hys b (hbs _ hbm b rfl) hq
      · rw [← fitX_some hy]
        exact qej.2 ⟨hn, hys⟩
theorem inlB_allP (h0 : P 0 0) : ∀ (F : List Fn) (bs : List (Option Ex)), (∀ b ∈ bs, ∀ y, b = some y → allP P y) → (∀ f ∈ F, allP P f.body) → ∀ b ∈ inlB bs F, ∀ y, b = some y → allP P y
  | [], bs, h, _ => by rw [inlB]; exact h
  | f :: F, bs, h, hF => by
    rw [inlB]
    refine inlB_allP h0 F _ (fun b hb y hy => ?_) fun g hg => hF g (by simp [hg])
    rcases List.mem_append.1 hb with hb | hb
    · exact h b hb y hy
    · rw [List.mem_singleton] at hb
      rw [hb] at hy
      exact inl_allP h0 h f.body (hF f (by simp)) hy
theorem qdr {F : List Fn} {e y : Ex} (h : qcb F e = some y) : inlE (inlB [] F) e = some y ∧ levels y ≤ 12 := by
  unfold qcb at h
  split at h
  · rename_i x hx
    split at h
    · cases h
    · cases h; exact ⟨hx, by omega⟩
  · cases h
end
theorem ty_cols {F : List Fn} {c p : List Int} (e : Ex) : ∀ {t : Int}, ty F c p e = some t → allP (fun o n => o = 3 → ∃ u, pickT c n = some u) e := by
  induction e using Ex.ind with
  | h o n s l ih =>
    intro t h
    obtain ⟨ts, h1, h2⟩ := ty_mk h
    refine qej.2 ⟨fun ho => ?_, fun x hx => ?_⟩
    · have := qdn (.inl ho) h2
      rw [if_pos ho] at this
      exact ⟨_, this⟩
    · obtain ⟨u, hu⟩ := qet l h1 x hx
      exact ih x hx hu
theorem ty_swap {F : List Fn} {c c' p : List Int} (h : ∀ n u, pickT c n = some u → pickT c' n = some u) (e : Ex) : allP (fun o n => o = 3 → ∃ u, pickT c n = some u) e → ty F c' p e = ty F c p e := by
  induction e using Ex.ind with
  | h o n s l ih =>
    intro ha
    obtain ⟨h1, h2⟩ := qej.1 ha
    have hts : ∀ l : List Ex, (∀ x ∈ l, ty F c' p x = ty F c p x) → tys F c' p l = tys F c p l := fun l => by
      induction l with
      | nil => intro _; rw [tys, tys]
      | cons x l ih2 => intro hx; rw [tys, tys, hx x (by simp), ih2 fun z hz => hx z (by simp [hz])]
    have ht : ∀ ts, tailT F c' p o n s ts = tailT F c p o n s ts := fun ts => by
      unfold tailT leafT
      by_cases ho : o = 3
      · obtain ⟨u, hu⟩ := h1 ho
        rw [hu, h n u hu]
      · simp only [if_neg ho]
    rw [ty, ty, hts l fun x hx => ih x hx (h2 x hx)]
    cases tys F c p l with
    | none => rfl
    | some ts => exact ht ts
theorem typeP_all {F : List Fn} {c p : List Int} {e : Ex} {t : Int} (h : typeP F c p e = some t) : F.length ≤ 20 ∧ (∀ i, i < F.length → okF F i = true) ∧ ty F c p e = some t ∧ levels e ≤ 12 := by
  unfold typeP at h
  split at h
  · rename_i hF
    unfold rightF at hF
    simp only [Bool.and_eq_true, decide_eq_true_eq, List.all_eq_true, List.mem_range] at hF
    unfold tyD at h
    split at h
    · cases h
    · exact ⟨by omega, hF.2, h, by omega⟩
  · cases h
theorem okF_wfS {F : List Fn} (hOk : ∀ i, i < F.length → okF F i = true) : ∀ i (h : i < F.length), wfS i F[i].body = true := fun i h => by
  have h1 := okF_body (hOk i h) (List.getElem?_eq_getElem h)
  have h2 := wfS_of_ty _ h1
  rw [List.length_take, Nat.min_eq_left (by omega)] at h2
  exact h2
theorem pick_nil (n : Int) : pickT [] n = none := by
  unfold pickT
  split <;> simp
theorem pick_fix {c : List Int} {n u : Int} (h : pickT c n = some u) : pickT (c.map fun k => if kindB k = true then k else 0) n = some u := by
  unfold pickT at h ⊢
  split at h
  · cases h
  · rename_i hn
    rw [if_neg hn, List.getElem?_map]
    split at h
    · rename_i v hv
      rw [hv]
      split at h
      · rename_i hk
        simp only [Option.map_some, if_pos hk]
        exact h
      · cases h
    · cases h
theorem inline_ty {F : List Fn} {c : List Int} {e y : Ex} {t : Int} (hOk : ∀ i, i < F.length → okF F i = true) (ht : ty F c [] e = some t) (hy : qcb F e = some y) : ty [] c [] y = some t := by
  have hc0 : ∀ n u, pickT c n = some u → pickT (c.map fun k => if kindB k = true then k else 0) n = some u := fun n u h => pick_fix h
  have he := ty_cols e ht
  have hF : ∀ f ∈ F, allP (fun o n => o = 3 → ∃ u, pickT c n = some u) f.body := fun f hf => by
    obtain ⟨i, hi, rfl⟩ := List.mem_iff_getElem.1 hf
    have h1 := ty_cols _ (okF_body (hOk i hi) (List.getElem?_eq_getElem hi))
    have mono : ∀ e : Ex, allP (fun o n => o = 3 → ∃ u, pickT [] n = some u) e → allP (fun o n => o = 3 → ∃ u, pickT c n = some u) e := fun e => by
      induction e using Ex.ind with
      | h o n s l ih =>
        intro h
        obtain ⟨g1, g2⟩ := qej.1 h
        refine qej.2 ⟨fun ho => ?_, fun x hx => ih x hx (g2 x hx)⟩
        obtain ⟨u, hu⟩ := g1 ho
        rw [pick_nil] at hu; cases hu
    exact mono _ h1
  have hyc := inl_allP (P := fun o n => o = 3 → ∃ u, pickT c n = some u) (fun h => by cases h) (inlB_allP (fun h => by cases h) F [] (by simp) hF) e he (qdr hy).1
  have ht' : ty F (c.map fun k => if kindB k = true then k else 0) [] e = some t := by rw [ty_swap hc0 e he]; exact ht
  have hk : ((c.map fun k => if kindB k = true then k else 0).map someV).map Val.k = c.map fun k => if kindB k = true then k else 0 := by
    rw [List.map_map, List.map_map]
    apply List.map_congr_left
    intro k _
    show (someV (if kindB k = true then k else 0)).k = _
    split
    · exact someV_k ‹_›
    · exact someV_k (by decide)
  have h3 := (inline_sem (time := 0) (R := (c.map fun k => if kindB k = true then k else 0).map someV) hOk (fun v hv => by
    obtain ⟨k, -, rfl⟩ := List.mem_map.1 hv
    exact someV_sound k) (by rw [hk]; exact ht') hy).1
  rw [hk, ty_swap hc0 y hyc] at h3
  exact h3
def zeroCd : Cod := ⟨[], [], 0⟩
def qck (F : List Fn) (cols : List Int) (e : Ex) : Cod × Int := match typeP F cols [] e with
  | none => (zeroCd, 13)
  | some _ => match qcb F e with
    | none => (zeroCd, 6)
    | some y => (compP (rawP cols (foldE y)), 0)
theorem compile_typ {F : List Fn} {cols : List Int} {e y : Ex} {t : Int} (ht : typeP F cols [] e = some t) (hy : qcb F e = some y) :
    ty [] cols [] y = some t ∧ parts y ≤ 1000 ∧ TypE cols (foldE y) ∧ parts (foldE y) ≤ 1000 ∧ ty [] cols [] (foldE y) = some t := by
  obtain ⟨h1, h2, h3, h4⟩ := typeP_all ht
  have h5 := inline_ty h2 h3 hy
  have h6 := inlE_parts (qdr hy).1
  have h7 := (fold_ok y h5).1
  have h8 := fold_parts y
  have h9 := fold_levels y
  have h10 := (qdr hy).2
  exact ⟨h5, h6, ⟨⟨t, h7⟩, by omega⟩, by omega, h7⟩
end Go.Proofs.YtnkimlkoijfcpaaGreatDoor
