/- From contracts at worlds to abstract ones, and back. -/
import Derived.Test.YtkhmlicikbnmdaaDoorGa10
import Derived.Test.YtkhmlicikbnmdaaDoorGa15
import Derived.Test.YtkhmlicikbnmdaaDoorGa16
set_option linter.unusedSimpArgs false
set_option linter.unusedVariables false
namespace Go.Proofs.YtkhmlicikbnmdaaDoor
open Go.RowKit Go.Lib

mutual
def D.av : D → AV
  | .int n => .v (.int .i64 n)
  | .bool b => .v (.bool b)
  | .str s => .v (.string s)
  | .st l => .agg (D.cs l)
  | .sl l => .sl (D.avs l)
def D.cs : List D → List AV
  | [] => []
  | .st l' :: l => D.cs l' ++ D.cs l
  | .int n :: l => .v (.int .i64 n) :: D.cs l
  | .bool b :: l => .v (.bool b) :: D.cs l
  | .str s :: l => .v (.string s) :: D.cs l
  | .sl l' :: l => .sl (D.avs l') :: D.cs l
def D.avs : List D → List AV
  | [] => []
  | d :: l => d.av :: D.avs l
end
theorem D.avs_map : ∀ l : List D, D.avs l = l.map D.av
  | [] => by rw [D.avs]; rfl
  | d :: l => by rw [D.avs, D.avs_map l]; rfl
theorem D.cs_cons (d : D) (l : List D) : D.cs (d :: l) = (match d with | .st l' => D.cs l' | d => [d.av]) ++ D.cs l := by
  cases d <;> simp [D.cs, D.av]
mutual
theorem D.av_width : ∀ d : D, d.av.width = d.width
  | .int _ => by rw [D.av]; rfl
  | .bool _ => by rw [D.av]; rfl
  | .str _ => by rw [D.av]; rfl
  | .st l => by rw [D.av, D.width]; exact D.cs_len l
  | .sl _ => by rw [D.av]; rfl
theorem D.cs_len : ∀ l : List D, (D.cs l).length = D.widths l
  | [] => by rw [D.cs]; rfl
  | .st l' :: l => by rw [D.cs, List.length_append, D.cs_len l', D.cs_len l, D.widths, D.width]
  | .int n :: l => by rw [D.cs, List.length_cons, D.cs_len l, D.widths, D.width]; omega
  | .bool b :: l => by rw [D.cs, List.length_cons, D.cs_len l, D.widths, D.width]; omega
  | .str s :: l => by rw [D.cs, List.length_cons, D.cs_len l, D.widths, D.width]; omega
  | .sl l' :: l => by rw [D.cs, List.length_cons, D.cs_len l, D.widths, D.width]; omega
end
theorem R1s.split {X : St} : ∀ {a b : List AV} {cs : List Value}, R1s X (a ++ b) cs → ∃ c1 c2, cs = c1 ++ c2 ∧ R1s X a c1 ∧ R1s X b c2
  | [], b, cs, h => ⟨[], cs, rfl, by rw [R1s], h⟩
  | x :: a, b, cs, h => by
    rw [List.cons_append, R1s] at h
    obtain ⟨v, vs, rfl, h0, h1, h2⟩ := h
    obtain ⟨c1, c2, rfl, h3, h4⟩ := h2.split
    exact ⟨v :: c1, c2, rfl, by rw [R1s]; exact ⟨v, c1, rfl, h0, h1, h3⟩, h4⟩

mutual
theorem rd_of_rc {X : St} : ∀ (d : D) (cs : List Value), RC X d.av cs → Rd X.w Any d cs
  | .int n, cs, h => by rw [D.av, RC] at h; rw [Rd]; exact h
  | .bool n, cs, h => by rw [D.av, RC] at h; rw [Rd]; exact h
  | .str n, cs, h => by rw [D.av, RC] at h; rw [Rd]; exact h
  | .st l, cs, h => by rw [D.av, RC] at h; rw [Rd]; exact rdS_of_r1s l cs h
  | .sl l, cs, h => by
    rw [D.av, RC] at h; rw [Rd]
    obtain ⟨A, cap, b, off, h1, h2, h3, h4, h5⟩ := h
    have hl : (D.avs l).length = l.length := by rw [D.avs_map]; simp
    rw [hl] at h1 h2 h4
    exact ⟨A, cap, b, off, h1, h2, h3, fun h => ⟨h4 h, trivial⟩, rdM_of_rm l b off h5⟩
theorem rdS_of_r1s {X : St} : ∀ (l : List D) (cs : List Value), R1s X (D.cs l) cs → RdS X.w Any l cs
  | [], cs, h => by rw [D.cs, R1s] at h; rw [RdS]; exact h
  | .st l' :: l, cs, h => by
    rw [D.cs] at h
    obtain ⟨c1, c2, rfl, h1, h2⟩ := h.split
    rw [RdS]
    exact ⟨c1, c2, rfl, by rw [Rd]; exact rdS_of_r1s l' c1 h1, rdS_of_r1s l c2 h2⟩
  | .int n :: l, cs, h => by
    rw [D.cs, R1s] at h
    obtain ⟨v, vs, rfl, h0, h1, h2⟩ := h
    rw [RdS]; rw [RC] at h1
    exact ⟨[v], vs, rfl, by rw [Rd]; exact h1, rdS_of_r1s l vs h2⟩
  | .bool n :: l, cs, h => by
    rw [D.cs, R1s] at h
    obtain ⟨v, vs, rfl, h0, h1, h2⟩ := h
    rw [RdS]; rw [RC] at h1
    exact ⟨[v], vs, rfl, by rw [Rd]; exact h1, rdS_of_r1s l vs h2⟩
  | .str n :: l, cs, h => by
    rw [D.cs, R1s] at h
    obtain ⟨v, vs, rfl, h0, h1, h2⟩ := h
    rw [RdS]; rw [RC] at h1
    exact ⟨[v], vs, rfl, by rw [Rd]; exact h1, rdS_of_r1s l vs h2⟩
  | .sl l' :: l, cs, h => by
    rw [D.cs, R1s] at h
    obtain ⟨v, vs, rfl, h0, h1, h2⟩ := h
    rw [RdS]
    refine ⟨[v], vs, rfl, ?_, rdS_of_r1s l vs h2⟩
    rw [RC] at h1; rw [Rd]
    obtain ⟨A, cap, b, off, h3, h4, h5, h6, h7⟩ := h1
    have hl : (D.avs l').length = l'.length := by rw [D.avs_map]; simp
    rw [hl] at h3 h4 h6
    exact ⟨A, cap, b, off, h3, h4, h5, fun h => ⟨h6 h, trivial⟩, rdM_of_rm l' b off h7⟩
theorem rdM_of_rm {X : St} : ∀ (l : List D) (b off : Nat), RM X (D.avs l) b off → RdM X.w Any l b off
  | [], _, _, _ => by rw [RdM]; trivial
  | d :: l, b, off, h => by
    rw [D.avs, RM] at h; rw [RdM]
    obtain ⟨⟨cs, h1, h2⟩, h3⟩ := h
    rw [D.av_width] at h3
    exact ⟨⟨cs, h1.at, rd_of_rc d cs h2⟩, rdM_of_rm l b _ h3⟩
end

theorem cellsS_of_at {X : St} {b : Nat} (hS : ∀ o v, X.w.cell? ⟨b, o, none⟩ = some v → X.S b o) : ∀ {cs : List Value} {off : Nat}, CellsAt X.w b off cs → CellsS X b off cs
  | [], _, _ => trivial
  | _ :: _, _, h => ⟨h.1, hS _ _ h.1, cellsS_of_at hS h.2⟩
mutual
theorem rc_of_rd {X : St} {S : Nat → Prop} (hS : ∀ b o v, S b → X.w.cell? ⟨b, o, none⟩ = some v → X.S b o) : ∀ (d : D) (cs : List Value), Rd X.w S d cs → RC X d.av cs
  | .int n, cs, h => by rw [Rd] at h; rw [D.av, RC]; exact h
  | .bool n, cs, h => by rw [Rd] at h; rw [D.av, RC]; exact h
  | .str n, cs, h => by rw [Rd] at h; rw [D.av, RC]; exact h
  | .st l, cs, h => by rw [Rd] at h; rw [D.av, RC]; exact r1s_of_rdS hS l cs h
  | .sl l, cs, h => by
    rw [Rd] at h; rw [D.av, RC]
    obtain ⟨A, cap, b, off, h1, h2, h3, h4, h5⟩ := h
    have hl : (D.avs l).length = l.length := by rw [D.avs_map]; simp
    rw [hl]
    refine ⟨A, cap, b, off, h1, h2, h3, fun h => (h4 h).1, ?_⟩
    cases l with
    | nil => rw [D.avs, RM]; trivial
    | cons d l => exact rm_of_rdM hS (d :: l) b off (h4 (by simp)).2 h5
theorem r1s_of_rdS {X : St} {S : Nat → Prop} (hS : ∀ b o v, S b → X.w.cell? ⟨b, o, none⟩ = some v → X.S b o) : ∀ (l : List D) (cs : List Value), RdS X.w S l cs → R1s X (D.cs l) cs
  | [], cs, h => by rw [RdS] at h; rw [D.cs, R1s]; exact h
  | .st l' :: l, cs, h => by
    rw [RdS] at h
    obtain ⟨c1, c2, rfl, h1, h2⟩ := h
    rw [Rd] at h1
    rw [D.cs]
    exact (r1s_of_rdS hS l' c1 h1).append (r1s_of_rdS hS l c2 h2)
  | .int n :: l, cs, h => by
    rw [RdS] at h
    obtain ⟨c1, c2, rfl, h1, h2⟩ := h
    rw [Rd] at h1; subst h1
    rw [D.cs, R1s]
    exact ⟨_, c2, rfl, rfl, by rw [RC], r1s_of_rdS hS l c2 h2⟩
  | .bool n :: l, cs, h => by
    rw [RdS] at h
    obtain ⟨c1, c2, rfl, h1, h2⟩ := h
    rw [Rd] at h1; subst h1
    rw [D.cs, R1s]
    exact ⟨_, c2, rfl, rfl, by rw [RC], r1s_of_rdS hS l c2 h2⟩
  | .str n :: l, cs, h => by
    rw [RdS] at h
    obtain ⟨c1, c2, rfl, h1, h2⟩ := h
    rw [Rd] at h1; subst h1
    rw [D.cs, R1s]
    exact ⟨_, c2, rfl, rfl, by rw [RC], r1s_of_rdS hS l c2 h2⟩
  | .sl l' :: l, cs, h => by
    rw [RdS] at h
    obtain ⟨c1, c2, rfl, h1, h2⟩ := h
    rw [Rd] at h1
    obtain ⟨A, cap, b, off, rfl, h4, h5, h6, h7⟩ := h1
    rw [D.cs, R1s]
    refine ⟨_, c2, rfl, rfl, ?_, r1s_of_rdS hS l c2 h2⟩
    have hl : (D.avs l').length = l'.length := by rw [D.avs_map]; simp
    rw [RC, hl]
    refine ⟨A, cap, b, off, rfl, h4, h5, fun h => (h6 h).1, ?_⟩
    cases l' with
    | nil => rw [D.avs, RM]; trivial
    | cons d l' => exact rm_of_rdM hS (d :: l') b off (h6 (by simp)).2 h7
theorem rm_of_rdM {X : St} {S : Nat → Prop} (hS : ∀ b o v, S b → X.w.cell? ⟨b, o, none⟩ = some v → X.S b o) : ∀ (l : List D) (b off : Nat), S b → RdM X.w S l b off → RM X (D.avs l) b off
  | [], _, _, _, _ => by rw [D.avs, RM]; trivial
  | d :: l, b, off, hb, h => by
    rw [RdM] at h; rw [D.avs, RM]
    obtain ⟨⟨cs, h1, h2⟩, h3⟩ := h
    rw [D.av_width]
    exact ⟨⟨cs, cellsS_of_at (fun o v => hS b o v hb) h1, rc_of_rd hS d cs h2⟩, rm_of_rdM hS l b _ hb h3⟩
end

theorem later_rc {X : St} {w : World} {d : D} {cs : List Value} (h : Rd w (fun b => X.w.heap.size ≤ b ∧ b < w.heap.size) d cs) : RC (X.later w) d.av cs :=
  rc_of_rd (X := X.later w) (S := fun b => X.w.heap.size ≤ b ∧ b < w.heap.size) (fun _ _ _ hb _ => .inr hb) d cs h
theorem gives_of {P : Program} {f : FuncId} {args : List AV} {x : AV} (h : ∀ X vals, RRl X args vals → Calls P f vals.toArray X.w fun r w' => Ext X.w w' ∧ ∃ v, r = .returned v ∧ RR (X.later w') x v) : Gives P f args x := by
  intro σ X vals nx hS hσ hfin hargs
  refine (h X vals hargs).mono ?_
  rintro r w' ⟨he, v, rfl, hR⟩
  exact ⟨X.later w', v, x, rfl, rfl, ⟨rfl, hσ⟩, later_sr hS he, later_fr hS he, hR⟩
theorem gives_v {P : Program} {f : FuncId} {args : List AV} {u : Value} (h : ∀ X vals, RRl X args vals → Calls P f vals.toArray X.w fun r w' => r = .returned u ∧ Ext X.w w') : Gives P f args (.v u) :=
  gives_of fun X vals ha => (h X vals ha).mono fun _ _ ⟨h1, h2⟩ => ⟨h2, u, h1, RR.v.2 rfl⟩

/-- back: in a world where nothing is the call's own -/
def St.flat (w : World) : St := { w := w, μ := fun _ => undef, S := fun b _ => b < w.heap.size, σ := fun _ => .unborn }
theorem flat_sr (w : World) (hg : globsOk (GlobS (St.flat w))) : SR (St.flat w) where
  block := fun _ => trivial
  alone := fun r r' b h _ => by cases h
  apart := fun r b o h _ => by cases h
  old := fun _ _ h => h
  glob := hg
theorem flat_rc {w : World} {S : Nat → Prop} {d : D} {cs : List Value} (h : Rd w S d cs) : RC (St.flat w) d.av cs :=
  rc_of_rd (X := St.flat w) (S := S) (fun _ _ _ _ hc => World.block_lt_of_cell? w _ hc) d cs h
theorem calls_of_gives {P : Program} {f : FuncId} {args : List AV} {u : Value} {w : World} {vals : List Value} (h : Gives P f args (.v u)) (ha : RRl (St.flat w) args vals) (hg : globsOk (GlobS (St.flat w)) := by exact trivial) : Calls P f vals.toArray w fun r w' => r = .returned u ∧ Ext w w' := by
  refine (h _ (St.flat w) vals 0 (flat_sr w hg) rfl (fun _ _ => rfl) ha).mono ?_
  rintro e w' ⟨Y, v, x, rfl, rfl, ⟨rfl, -⟩, hS, hF, hR⟩
  rw [RR.v] at hR
  subst hR
  exact ⟨rfl, hF.os, hF.tape, hF.output, hF.size, fun k hk => hF.keep k hk fun r hr => by cases hr⟩
end Go.Proofs.YtkhmlicikbnmdaaDoor

/- Contracts of the library: strconv, strings. -/
namespace Go.Proofs.YtkhmlicikbnmdaaDoor
open Go.RowKit Go.Lib

theorem ba_eq {s : ByteArray} {l : List UInt8} (h : s.data.toList = l) : s = bytesA l := by rw [← h, bytesA_eq]
theorem gives_ofS {P : Program} {f : FuncId} {args : List AV} {x : AV} (h : ∀ X vals, SR X → RRl X args vals → Calls P f vals.toArray X.w fun r w' => Ext X.w w' ∧ ∃ v, r = .returned v ∧ RR (X.later w') x v) : Gives P f args x := by
  intro σ X vals nx hS hσ hfin ha
  refine (h X vals hS ha).mono ?_
  rintro r w' ⟨hE, v, rfl, hR⟩
  exact ⟨X.later w', v, x, rfl, rfl, ⟨rfl, hσ⟩, later_sr hS hE, later_fr hS hE, hR⟩
theorem arg_vv {X : St} {x v : Value} (h : RR1 X (.v x) v) : v = x := by
  change RC X (.v x) [v] at h
  rw [RC] at h
  simpa using h
theorem tab10 {X : St} (hS : SR X) : Lib.TabIs Tryd.prog X.w "internal/strconv.uint64pow10" .u64 Lib.pow10Tab := by
  obtain ⟨-, ⟨-, -, ⟨t, fz, h⟩, -⟩, -⟩ := hS.glob
  unfold Lib.TabIs World.var?
  rw [show Tryd.prog.globalNamed "internal/strconv.uint64pow10" = some 3 by kernel_rfl]
  show (match X.w.heap[3]? with | some (.cells cs _ _) => some cs | _ => none) = _
  rw [h]
theorem tab10E {X : St} (hS : SR X) {w' : World} (hE : Ext X.w w') : Lib.TabIs Tryd.prog w' "internal/strconv.uint64pow10" .u64 Lib.pow10Tab := by
  obtain ⟨-, ⟨-, -, ⟨t, fz, h⟩, -⟩, -⟩ := hS.glob
  unfold Lib.TabIs World.var?
  rw [show Tryd.prog.globalNamed "internal/strconv.uint64pow10" = some 3 by kernel_rfl]
  show (match w'.heap[3]? with | some (.cells cs _ _) => some cs | _ => none) = _
  rw [hE.block 3 (Array.getElem?_eq_some_iff.1 h).1, h]
theorem itoa_g (n : Int) (h : i64 n) : Gives Tryd.prog 55 [.int n] (.str (bytesA (itoa n))) :=
  gives_ofS fun X vals hS ha => by
    obtain ⟨v0, _, rfl, h2, h4⟩ := ha
    cases h4
    cases arg_vv h2
    refine (Tryd.strconv_Itoa n h.1 h.2 X.w (tab10 hS)).mono ?_
    rintro e w' ⟨rfl, k, os, rfl⟩
    refine ⟨?_, _, rfl, RR.v.2 rfl⟩
    exact ⟨rfl, rfl, rfl, by show X.w.heap.size ≤ (X.w.heap ++ os).size; simp, fun b hb => by
      show (X.w.heap ++ os)[b]? = _
      rw [Array.getElem?_append_left hb]⟩
theorem grow_ext {w : World} (k : Nat) (os : Array Obj) : Ext w (Go.Sort.grow (w.drewN k) os) := ⟨rfl, rfl, rfl, by show w.heap.size ≤ (w.heap ++ os).size; simp, fun b hb => by
  show (w.heap ++ os)[b]? = _
  rw [Array.getElem?_append_left hb]⟩
theorem format_g (n : Int) (h : i64 n) : Gives Tryd.prog 54 [.int n, .int 10] (.str (bytesA (itoa n))) :=
  gives_ofS fun X vals hS ha => by
    obtain ⟨v0, _, rfl, h2, v1, _, rfl, h3, h4⟩ := ha
    cases h4
    cases arg_vv h2; cases arg_vv h3
    refine (Tryd.strconv_FormatInt_10 n h.1 h.2 X.w (tab10 hS)).mono ?_
    rintro e w' ⟨rfl, k, os, rfl⟩
    exact ⟨grow_ext k os, _, rfl, RR.v.2 rfl⟩
theorem indexByte_g (s : ByteArray) (c : Int) : Gives Tryd.prog 52 [.str s, .v (.int .u8 c)] (.int (Lib.indexByte s.data.toList c.toNat.toUInt8)) :=
  gives_ofS fun X vals hS ha => by
    obtain ⟨v0, _, rfl, h2, v1, _, rfl, h3, h4⟩ := ha
    cases h4
    cases arg_vv h2; cases arg_vv h3
    refine (Tryd.strings_IndexByte s c X.w).mono ?_
    rintro e w' ⟨rfl, rfl⟩
    exact ⟨Ext.refl _, _, rfl, RR.v.2 rfl⟩
theorem trimSuffix_g (s p : ByteArray) (hs : s.size ≤ 9223372036854775807) : Gives Tryd.prog 45 [.str s, .str p] (.str (bytesA (Lib.trimSuffix s.data.toList p.data.toList))) :=
  gives_ofS fun X vals hS ha => by
    obtain ⟨v0, _, rfl, h2, v1, _, rfl, h3, h4⟩ := ha
    cases h4
    cases arg_vv h2; cases arg_vv h3
    refine (Tryd.strings_TrimSuffix s p X.w hs).mono ?_
    rintro e w' ⟨rfl, rfl⟩
    exact ⟨Ext.refl _, _, rfl, RR.v.2 rfl⟩
theorem decimal_g (n : Int) (h : i64 n) : Gives Tryd.prog 21 [.int n] (.str (bytesA (itoa n))) := by
  refine gives_of_awp Tryd.func21 Tryd.ntmps21 rfl rfl (by decide) rfl (by intro n; simp) fun σ n0 hcl hft => ?_
  repeat' (first | ((with_reducible refine aguard (fun hg => ?_) (fun hg => ?_)) <;> (try simp only [hg]) <;> (try simp only [beq_iff_eq, beq_eq_false_iff_ne, ne_eq, decide_eq_true_eq, decide_eq_false_iff_not, bne_iff_ne, bne_eq_false_iff_eq] at hg) <;> (try (first | simp only [eq_false hg, if_true, if_false] | simp only [eq_true hg, if_true, if_false])) <;> (try simp (disch := first | omega | simp) [wrap_i64, -aseqC, -anyC])) | (with_reducible refine aseq_step ?_; try simp (disch := first | omega | simp) [wrap_i64, -aseqC, -anyC]) | (with_reducible refine any_step' ?_; try simp (disch := first | omega | simp) [wrap_i64, -aseqC, -anyC]) | (with_reducible refine aseq_end ?_; try simp (disch := first | omega | simp) [wrap_i64, -aseqC, -anyC]) | (with_reducible refine any_end' ?_; try simp (disch := first | omega | simp) [wrap_i64, -aseqC, -anyC]) | ((first | with_reducible refine sideG ?_ ?_ | with_reducible refine sideG2 ?_ ?_ | with_reducible refine sideS ?_ ?_ | with_reducible refine sideS2 ?_ ?_ | with_reducible refine sideS3 ?_ ?_ | with_reducible refine sideA ?_ ?_ | with_reducible refine sideA2 ?_ ?_ | with_reducible refine sideA3 ?_ ?_); (first | omega | assumption | (simp; done))) | (refine acall (itoa_g n h) ?_; try simp (disch := first | omega | simp) [wrap_i64, -aseqC, -anyC]) | (refine agives (itoa_g n h) ?_; try simp (disch := first | omega | simp) [wrap_i64, -aseqC, -anyC]) | (refine acallAt (itoa_g n h) ?_; try simp (disch := first | omega | simp) [wrap_i64, -aseqC, -anyC]) | (refine awp_seq_k fun K hK => ?_) | (refine awp_regionC ?_) | (refine awp_anyA true (by kernel_rfl) (by kernel_rfl) ?_) | (refine awp_anyA false (by kernel_rfl) (by kernel_rfl) ?_) | (refine hK _ ?_; clear hK; clear K) | (clear hK; clear K; refine hK _ ?_; clear hK; clear K) | (clear hK; clear K; clear hK; clear K; refine hK _ ?_; clear hK; clear K) | refine awp_block ?_ | (refine awp_condC ?_; simp (disch := first | omega | simp) [wrap_i64, -aseqC, -anyC]) | (refine awp_exit ?_; try simp (disch := first | omega | simp) [wrap_i64, -aseqC, -anyC]) | (refine awp_skip ?_; try simp (disch := first | omega | simp) [wrap_i64, -aseqC, -anyC]) | (refine awp_ret ?_; try simp (disch := first | omega | simp) [wrap_i64, -aseqC, -anyC]))
/- text.Int, at the world as it is -/
theorem err_cell {X : St} (hS : SR X) : (∃ ev, X.w.cell? ⟨1, 0, none⟩ = some ev ∧ (ev = .nilIface ∨ ∃ te pe, ev = .iface te pe)) ∧ ∃ ev, X.w.cell? ⟨2, 0, none⟩ = some ev ∧ (ev = .nilIface ∨ ∃ te pe, ev = .iface te pe) := by
  obtain ⟨-, -, ⟨m1, h1, -⟩, ⟨m2, h2, -⟩, -⟩ := hS.glob
  exact ⟨⟨m1.1, h1.1, m1.2⟩, ⟨m2.1, h2.1, m2.2⟩⟩
theorem bytesWorld_ext (w : World) (e : TypeId) (t : ByteArray) : Ext w (Lib.bytesWorld w e t) := by
  unfold Lib.bytesWorld
  exact Lib.below_freeze ((Ext.refl w).drew.alloc _) (p := ⟨w.heap.size, _, none⟩) (Nat.le_refl _) _
set_option maxHeartbeats 1000000 in
theorem int_g (s : ByteArray) (hs : s.size ≤ 1000000) : Gives Tryd.prog 20 [.str s] (.tup [.int ((intP s.data.toList).getD 0), .bool (intP s.data.toList).isSome]) :=
  gives_ofS fun X vals hS ha => by
    obtain ⟨v0, _, rfl, h2, h4⟩ := ha
    cases h4
    cases arg_vv h2
    obtain ⟨⟨e1, hc1, he1⟩, e2, hc2, he2⟩ := err_cell hS
    have ht := tab10 hS
    have fin : ∀ (r : Option Int) (w' : World), Ext X.w w' → Ext X.w w' ∧ ∃ v, Ending.returned (.tuple #[.int .i64 (r.getD 0), .bool r.isSome]) = .returned v ∧ RR (X.later w') (.tup [.int (r.getD 0), .bool r.isSome]) v := fun r w' hE =>
      ⟨hE, _, rfl, [_, _], rfl, _, _, rfl, RR1.of_one rfl (by rw [RC]), _, _, rfl, RR1.of_one rfl (by rw [RC]), rfl⟩
    have hE0 := Ext.refl X.w
    cases hp : Lib.parseIntB 64 s.data.toList
    · rename_i v
      have hv := parse_i64 hp
      have hr : intP s.data.toList = if itoa v = s.data.toList then some v else none := by unfold intP; rw [hp]
      by_cases hi : itoa v = s.data.toList
      · rw [if_pos hi] at hr
        rw [hr]
        have hi2 : (⟨(itoa v).toArray⟩ : ByteArray).toList = s.toList := by rw [ByteArray.toList_eq, ByteArray.toList_eq]; exact hi
        go_enter Tryd.func20, Tryd.ntmps20
        go_wp2_with (go_at_call 53; refine (Tryd.strconv_ParseInt_10_at64_ok s (by omega) v hp _).mono ?_)
        rintro e w1 ⟨rfl, hw1⟩
        have hE1 : Ext X.w w1 := by
          rcases hw1 with rfl | ⟨t, rfl⟩
          · exact Ext.refl _
          · exact bytesWorld_ext _ _ _
        go_wp2_with (go_at_call 54; refine (Tryd.strconv_FormatInt_10 v hv.1 hv.2 _ (tab10E hS hE1)).mono ?_)
        rintro e w2 ⟨rfl, k, os, rfl⟩
        have hE2 : Ext X.w (Go.Sort.grow (w1.drewN k) os) := hE1.trans (grow_ext k os)
        go_wp2
        go_ret2
        exact fin (some v) _ hE2
      · rw [if_neg hi] at hr
        rw [hr]
        have hi2 : (itoa v == s.toList) = false := by rw [ByteArray.toList_eq, beq_eq_false_iff_ne]; exact hi
        have hi3 : ¬ itoa v = s.toList := by rw [ByteArray.toList_eq]; exact hi
        go_enter Tryd.func20, Tryd.ntmps20
        go_wp2_with (go_at_call 53; refine (Tryd.strconv_ParseInt_10_at64_ok s (by omega) v hp _).mono ?_)
        rintro e w1 ⟨rfl, hw1⟩
        have hE1 : Ext X.w w1 := by
          rcases hw1 with rfl | ⟨t, rfl⟩
          · exact Ext.refl _
          · exact bytesWorld_ext _ _ _
        go_wp2_with (go_at_call 54; refine (Tryd.strconv_FormatInt_10 v hv.1 hv.2 _ (tab10E hS hE1)).mono ?_)
        rintro e w2 ⟨rfl, k, os, rfl⟩
        have hE2 : Ext X.w (Go.Sort.grow (w1.drewN k) os) := hE1.trans (grow_ext k os)
        go_wp2
        go_ret2
        exact fin none _ hE2
    · have hr : intP s.data.toList = none := by unfold intP; rw [hp]
      rw [hr]
      go_enter Tryd.func20, Tryd.ntmps20
      go_wp2_with (go_at_call 53; refine (Tryd.strconv_ParseInt_10_at64_syntax s (by omega) hp e1 _ hc1 he1).mono ?_)
      rintro e w1 ⟨N, rfl, -, -, hE1⟩
      go_wp2
      go_ret2
      exact fin none _ hE1
    · have hr : intP s.data.toList = none := by unfold intP; rw [hp]
      rw [hr]
      go_enter Tryd.func20, Tryd.ntmps20
      go_wp2_with (go_at_call 53; refine (Tryd.strconv_ParseInt_10_at64_range s (by omega) hp e2 _ hc2 he2).mono ?_)
      rintro e w1 ⟨N, rfl, -, -, hE1⟩
      go_wp2
      go_ret2
      exact fin none _ hE1
end Go.Proofs.YtkhmlicikbnmdaaDoor
