/- Walk of layer 26: Compile. -/
import Derived.Test.YtnkakofcejkhiaaDoorGc6
import Derived.Test.YtnkakofcejkhiaaDoorGc10
import Derived.Test.YtnkakofcejkhiaaDoorGc18
import Derived.Test.YtnkakofcejkhiaaDoorGc21
import Derived.Test.YtnkakofcejkhiaaDoorGc22
import Derived.Test.YtnkakofcejkhiaaDoorGc23
import Derived.Test.YtnkakofcejkhiaaDoorGc24
import Derived.Test.YtnkakofcejkhiaaDoorGc26
set_option linter.unusedSimpArgs false
set_option linter.unusedVariables false
namespace Go.Proofs.YtnkakofcejkhiaaDoor
open Go.RowKit Go.Lib
theorem awp_reobj {P : Program} {code : Code} {Q : Exit → AS → Prop} {n n0 : Nat} {t : Nat → AV} {σ : Nat → AB} {L : List AB} (i : Nat) {I I' : Obj → Prop} (hL : L[i]? = some (.obj I)) (hI : ∀ o, I o → I' o)
    (h : awp P code Q ⟨n, t, σ, n0, L.set i (.obj I')⟩) : awp P code Q ⟨n, t, σ, n0, L⟩ := by
  intro X0 a w ⟨X, hc⟩
  have hi := (List.getElem?_eq_some_iff.1 hL).1
  have hst : (AS.mk n t σ n0 L).st (n0 + i) = .obj I := by
    show loc σ n0 L (n0 + i) = _
    unfold loc
    rw [if_neg (by omega), Nat.add_sub_cancel_left, List.getD_eq_getElem?_getD, hL]; rfl
  have hset : (AS.mk n t σ n0 L).set (n0 + i) (.obj I') = ⟨n, t, σ, n0, L.set i (.obj I')⟩ := by
    unfold AS.set; dsimp only; rw [if_neg (by omega), Nat.add_sub_cancel_left]
  have hX : X.σ (n0 + i) = .obj I := by rw [hc.σ, hst]
  have hlt : n0 + i < (AS.mk n t σ n0 L).nx := by show n0 + i < n0 + L.length; omega
  have hT : Turns X X.w X.S (n0 + i) (.obj I') (X.μ (n0 + i)) :=
    { grown := ⟨rfl, rfl, rfl, Nat.le_refl _, fun _ _ _ => rfl⟩
      blk := fun b2 h => .inl (by unfold St.blk; rw [hX]; exact h)
      ver := by
        unfold Ver
        rw [hX]
        exact ⟨⟨I', by simp [St.turn, upd]⟩, by simp [St.turn, upd]⟩
      keepS := fun b2 o h1 h2 => rfl
      more := fun _ _ h => h
      less := fun _ _ h => .inl h
      apart := fun b2 o h1 h2 => by
        obtain ⟨_, e, s2, h3, -⟩ := hc.sr.apart (n0 + i) b2 o (by unfold St.blk; rw [hX]; exact h1) h2
        rw [hX] at h3; cases h3
      old := fun b2 h => by
        have : X.blk (n0 + i) = some b2 := by unfold St.blk; rw [hX]; exact h
        exact hc.sr.lt this }
  have hw := hc.w
  subst hw
  have hB := hc.sr.block (n0 + i)
  rw [hX] at hB
  obtain ⟨b, o, h1, h2, h3⟩ := hB
  have hcon := con_turn (v := X.μ (n0 + i)) hc (by rw [hst]; simp) hT ⟨b, o, h1, h2, hI o h3⟩
  rw [hset] at hcon
  exact h X0 a X.w ⟨_, hcon⟩
theorem acallL {P : Program} {f : FuncId} {args : List AV} {n n0 : Nat} {t : Nat → AV} {σ : Nat → AB} {L : List AB} {K : AV → AS → Prop} {x : AV} (L' : List AB) (h : AC P f args (loc σ n0 L) fun y τ => y = x ∧ τ = loc σ n0 L') (hK : K x ⟨n, t, σ, n0, L'⟩) : ACall P f args ⟨n, t, σ, n0, L⟩ K :=
  ⟨x, ⟨n, t, σ, n0, L'⟩, h, ⟨rfl, rfl, rfl⟩, hK⟩
theorem stM_own {cols : List Int} {σ : Nat → AB} {n0 : Nat} {b0 b1 o m ta tb : AB} {M : List Ex} :
    stM cols (n0 + 3) (n0 + 4) (n0 + 5) (n0 + 2) M (loc σ n0 [b0, b1, o, m, ta, tb]) = loc σ n0 [b0, b1, .obj (mapI (entI M M 0)), mkB cols M (n0 + 4) (n0 + 5) (n0 + 2), .tail M.length 68 7, .tail M.length 3 1] := by
  funext r
  unfold stM loc
  by_cases hr : r < n0
  · rw [if_neg (by omega), if_neg (by omega), if_neg (by omega), if_neg (by omega), if_pos hr, if_pos hr]
  · obtain ⟨i, rfl⟩ : ∃ i, r = n0 + i := ⟨r - n0, by omega⟩
    rw [if_neg hr, if_neg hr, Nat.add_sub_cancel_left]
    match i with
    | 0 => simp
    | 1 => simp
    | 2 => simp
    | 3 => simp
    | 4 => simp
    | 5 => simp
    | i + 6 => simp
theorem adopt_mk {P : Program} {code : Code} {Q : Exit → AS → Prop} {n n0 : Nat} {t : Nat → AV} {σ : Nat → AB} {b0 b1 : AB} {x y z : AV} {T : TypeId}
    (h : awp P code Q ⟨n, t, σ, n0, [b0, b1, .obj (mapI []), .cells [x, .gs (n0 + 4) [], .gs (n0 + 5) [], y, z] T, .tail 0 68 7, .tail 0 3 1]⟩) :
    awp P code Q ⟨n, t, σ, n0, [b0, b1, .obj fun o => o = .map #[] 0, .cells [x, .v (.slice none 0 0), .v (.slice none 0 0), y, z] T]⟩ := by
  refine awp_reobj 2 (I' := mapI []) (by rfl) (fun o ho => by rw [ho]; exact mapI_nil) ?_
  refine qca 3 1 68 7 (by rfl) (by rfl) ?_
  refine qca 3 2 3 1 (by rfl) (by rfl) ?_
  exact h
set_option maxRecDepth 100000 in
set_option maxHeartbeats 16000000 in
theorem Compile_g (F : List Fn) (cols : List Int) (e : Ex) (hF : ∀ f ∈ F, parts f.body ≤ 990) (hlF : F.length ≤ 1000) (hcols : cols.length ≤ 1000000) (he : parts e ≤ 990) (hn : n64 e) (hFn : ∀ f ∈ F, n64 f.body) :
    Gives Tryd.prog 25 [.sl (F.map Fn.av), .sl (cols.map AV.int), e.av] (.tup [(qdh F cols e).1.av, .int (qdh F cols e).2]) := by
  obtain ⟨R, hR⟩ : ∃ R, R = qdh F cols e := ⟨_, rfl⟩
  rw [← hR]
  unfold qdh at hR
  have c1 := type_g F cols [] e (by omega) (fun f hf => by have := hF f hf; omega)
  simp only [List.map_nil] at c1
  cases ht : typeP F cols [] e with
  | none =>
    rw [ht] at hR c1
    simp only [Option.getD_none, Option.isSome_none] at c1
    refine qn Tryd.func25 Tryd.ntmps25 rfl rfl (by decide) rfl (by intro n; simp) fun σ n0 hcl hft => ?_
    repeat' (first | ((first | ((with_reducible refine qo (fun hg => ?_) (fun hg => ?_)) <;> (try simp only [hg]) <;> (try simp only [gS] at hg) <;> (try (first | simp only [eq_false hg, gI] | simp only [eq_true hg, gI]))) | (with_reducible first | refine qh ?_ | refine qg ?_ | refine ql ?_ | refine qk ?_) | refine acall (c1) ?_ | refine qq (c1) ?_ | refine qp (c1) ?_ | refine qd ?_ | refine qi ?_ | refine qj ?_ | refine qm ?_) <;> (try simp (disch := first | omega | simp) [qf, -qr, -qw])) | ((with_reducible refine sideT ?_ ?_); first | omega | assumption | (simp; done)) | (refine qe fun K hK => ?_) | (refine qa ?_) | (refine qb true (by kernel_rfl) (by kernel_rfl) ?_) | (refine qb false (by kernel_rfl) (by kernel_rfl) ?_) | (refine hK _ ?_; clear hK K) | (clear hK K; refine hK _ ?_; clear hK K) | (clear hK K; clear hK K; refine hK _ ?_; clear hK K) | refine qc ?_)
    all_goals (rw [hR]; simp [zeroCd, Cod.av, -Cod.av_fold])
  | some t =>
    rw [ht] at hR c1
    simp only [Option.getD_some, Option.isSome_some] at c1
    obtain ⟨h1, h2, h3, h4⟩ := typeP_all ht
    have c2 := Inline_g F hF hlF (okF_wfS h2) e he (wfS_of_ty e h3)
    unfold exr at c2
    cases hy : qco F e with
    | none =>
      rw [hy] at hR c2
      simp only [Option.getD_none, Option.isSome_none] at c2
      refine qn Tryd.func25 Tryd.ntmps25 rfl rfl (by decide) rfl (by intro n; simp) fun σ n0 hcl hft => ?_
      repeat' (first | ((first | ((with_reducible refine qo (fun hg => ?_) (fun hg => ?_)) <;> (try simp only [hg]) <;> (try simp only [gS] at hg) <;> (try (first | simp only [eq_false hg, gI] | simp only [eq_true hg, gI]))) | (with_reducible first | refine qh ?_ | refine qg ?_ | refine ql ?_ | refine qk ?_) | refine acall (c1) ?_ | refine qq (c1) ?_ | refine qp (c1) ?_ | refine acall (c2) ?_ | refine qq (c2) ?_ | refine qp (c2) ?_ | refine qd ?_ | refine qi ?_ | refine qj ?_ | refine qm ?_) <;> (try simp (disch := first | omega | simp) [qf, -qr, -qw])) | ((with_reducible refine sideT ?_ ?_); first | omega | assumption | (simp; done)) | (refine qe fun K hK => ?_) | (refine qa ?_) | (refine qb true (by kernel_rfl) (by kernel_rfl) ?_) | (refine qb false (by kernel_rfl) (by kernel_rfl) ?_) | (refine hK _ ?_; clear hK K) | (clear hK K; refine hK _ ?_; clear hK K) | (clear hK K; clear hK K; refine hK _ ?_; clear hK K) | refine qc ?_)
      all_goals (rw [hR]; simp [zeroCd, Cod.av, -Cod.av_fold])
    | some y =>
      rw [hy] at hR c2
      simp only [Option.getD_some, Option.isSome_some] at c2
      obtain ⟨g1, g2, g3, g4, g5⟩ := compile_typ ht hy
      have gn := fold_n64 y (inline_n64 hFn hn hy)
      have c3 := Fold_g y g1 (by omega)
      have gk := raw_ok g3 g4
      have c5 := compact_g gk.1
      have hR1 : R.1 = compP (rawP cols (foldE y)) := by rw [hR]
      have hR0 : R.2 = 0 := by rw [hR]
      clear hR
      rw [← hR1] at c5
      generalize foldE y = f at *
      unfold rawP Cod.av at c5
      dsimp only at c5
      have hpg : PartsG cols [] := ⟨fun i y h => by simp at h, fun i j y h => by simp at h, by simp⟩
      obtain ⟨M, hM⟩ : ∃ M, M = qbj f [] := ⟨_, rfl⟩
      rw [← hM] at c5
      rw [List.map_map] at c5
      refine qn Tryd.func25 Tryd.ntmps25 rfl rfl (by decide) rfl (by intro n; simp) fun σ n0 hcl hft => ?_
      have c6 : ∀ b0 b1, AC Tryd.prog 52 [.ptr (n0 + 3) 0, f.av] (loc σ n0 [b0, b1, .obj (mapI []), .cells [.sl (cols.map AV.int), .gs (n0 + 4) [], .gs (n0 + 5) [], .v (.int .i64 0), .own (n0 + 2) 0] 96, .tail 0 68 7, .tail 0 3 1]) fun y τ => y = .int (findE M f) ∧
          τ = loc σ n0 [b0, b1, .obj (mapI (entI M M 0)), mkB cols M (n0 + 4) (n0 + 5) (n0 + 2), .tail M.length 68 7, .tail M.length 3 1] := fun b0 b1 => by
        have h := add_ac cols hcols (n0 + 3) (n0 + 4) (n0 + 5) (n0 + 2) f [] (loc σ n0 [b0, b1, .obj (mapI []), .cells [.sl (cols.map AV.int), .gs (n0 + 4) [], .gs (n0 + 5) [], .v (.int .i64 0), .own (n0 + 2) 0] 96, .tail 0 68 7, .tail 0 3 1]) hpg g3 gn (by simp; omega) ⟨by simp [loc, mkB, rawI] <;> omega, by simp [loc] <;> omega, by simp [loc] <;> omega, by simp [loc, entI] <;> omega⟩
        rw [stM_own, ← hM] at h
        exact h
      repeat' (first | ((first | ((with_reducible refine qo (fun hg => ?_) (fun hg => ?_)) <;> (try simp only [hg]) <;> (try simp only [gS] at hg) <;> (try (first | simp only [eq_false hg, gI] | simp only [eq_true hg, gI]))) | (with_reducible first | refine qh ?_ | refine qg ?_ | refine ql ?_ | refine qk ?_) | refine acall (c1) ?_ | refine qq (c1) ?_ | refine qp (c1) ?_ | refine acall (c2) ?_ | refine qq (c2) ?_ | refine qp (c2) ?_ | refine adopt_mk ?_ | refine acall (c3) ?_ | refine qq (c3) ?_ | refine qp (c3) ?_ | refine acallL _ (c6 _ _) ?_ | refine acall (c5) ?_ | refine qq (c5) ?_ | refine qp (c5) ?_ | refine qd ?_ | refine qi ?_ | refine qj ?_ | refine qm ?_) <;> (try simp (disch := first | omega | simp) [qf, -qr, -qw, mkB])) | ((with_reducible refine sideT ?_ ?_); first | omega | assumption | (simp; done)) | (refine qe fun K hK => ?_) | (refine qa ?_) | (refine hK _ ?_; clear hK K) | (clear hK K; refine hK _ ?_; clear hK K) | (clear hK K; clear hK K; refine hK _ ?_; clear hK K) | refine qc ?_)
      all_goals (first | rfl | (rw [hR0]; done) | (simp [hR0]; done))
end Go.Proofs.YtnkakofcejkhiaaDoor

/- Walks of chapter 3: right values and rows; of the reference, too. -/
namespace Go.Proofs.YtnkakofcejkhiaaDoor
open Go.RowKit Go.Lib
def rightV (v : Val) : Bool :=
  if v.k = 0 then Val.eqB v ⟨0, v.n, ⟨#[]⟩⟩
  else if v.k = 1 then Val.eqB v ⟨1, 0, v.s⟩ && decide (v.s.size ≤ 200)
  else Val.eqB v ⟨2, 0, ⟨#[]⟩⟩ || Val.eqB v ⟨2, 1, ⟨#[]⟩⟩
theorem rightV_eq (v : Val) : rightV v = if v.k = 0 then decide (v.s.toList = []) else if v.k = 1 then decide (v.n = 0) && decide (v.s.size ≤ 200) else decide (v.k = 2) && (decide (v.n = 0) || decide (v.n = 1)) && decide (v.s.toList = []) := by
  obtain ⟨k, n, s⟩ := v
  have e : (⟨#[]⟩ : ByteArray).toList = [] := by rw [ByteArray.toList_eq]
  unfold rightV
  dsimp only
  by_cases h0 : k = 0
  · subst h0
    rw [if_pos rfl, if_pos rfl]
    rw [Bool.eq_iff_iff]
    simp [Val.eqB, e]
  · rw [if_neg h0, if_neg h0]
    by_cases h1 : k = 1
    · subst h1
      rw [if_pos rfl, if_pos rfl]
      rw [Bool.eq_iff_iff]
      simp [Val.eqB]
    · rw [if_neg h1, if_neg h1]
      rw [Bool.eq_iff_iff]
      simp only [Val.eqB, e, Bool.or_eq_true, Bool.and_eq_true, beq_iff_eq, decide_eq_true_eq]
      constructor
      · rintro (⟨a, b, c⟩ | ⟨a, b, c⟩)
        · exact ⟨⟨a, .inl b⟩, c⟩
        · exact ⟨⟨a, .inr b⟩, c⟩
      · rintro ⟨⟨a, b | b⟩, c⟩
        · exact .inl ⟨a, b, c⟩
        · exact .inr ⟨a, b, c⟩
theorem vint_g (n : Int) : Gives Tryd.prog 85 [.int n] (Val.av ⟨0, n, ⟨#[]⟩⟩) := by
  refine qn Tryd.func85 Tryd.ntmps85 rfl rfl (by decide) rfl (by intro n; simp) fun σ n0 hcl hft => ?_
  repeat' (first | ((first | ((with_reducible refine qo (fun hg => ?_) (fun hg => ?_)) <;> (try simp only [hg]) <;> (try simp only [gS] at hg) <;> (try (first | simp only [eq_false hg, gI] | simp only [eq_true hg, gI]))) | (with_reducible first | refine qh ?_ | refine qg ?_ | refine ql ?_ | refine qk ?_) | refine qd ?_ | refine qi ?_ | refine qj ?_ | refine qm ?_) <;> (try simp (disch := first | omega | simp) [qf, -qr, -qw])) | ((with_reducible refine sideT ?_ ?_); first | omega | assumption | (simp; done)) | (refine qe fun K hK => ?_) | (refine qa ?_) | (refine qb true (by kernel_rfl) (by kernel_rfl) ?_) | (refine hK _ ?_; clear hK K) | (clear hK K; refine hK _ ?_; clear hK K) | (clear hK K; clear hK K; refine hK _ ?_; clear hK K) | refine qc ?_)
  rfl
theorem vtext_g (s : ByteArray) : Gives Tryd.prog 86 [.str s] (Val.av ⟨1, 0, s⟩) := by
  refine qn Tryd.func86 Tryd.ntmps86 rfl rfl (by decide) rfl (by intro n; simp) fun σ n0 hcl hft => ?_
  repeat' (first | ((first | ((with_reducible refine qo (fun hg => ?_) (fun hg => ?_)) <;> (try simp only [hg]) <;> (try simp only [gS] at hg) <;> (try (first | simp only [eq_false hg, gI] | simp only [eq_true hg, gI]))) | (with_reducible first | refine qh ?_ | refine qg ?_ | refine ql ?_ | refine qk ?_) | refine qd ?_ | refine qi ?_ | refine qj ?_ | refine qm ?_) <;> (try simp (disch := first | omega | simp) [qf, -qr, -qw])) | ((with_reducible refine sideT ?_ ?_); first | omega | assumption | (simp; done)) | (refine qe fun K hK => ?_) | (refine qa ?_) | (refine qb true (by kernel_rfl) (by kernel_rfl) ?_) | (refine hK _ ?_; clear hK K) | (clear hK K; refine hK _ ?_; clear hK K) | (clear hK K; clear hK K; refine hK _ ?_; clear hK K) | refine qc ?_)
  rfl
theorem vfalse_g : Gives Tryd.prog 87 [.bool false] (Val.av ⟨2, 0, ⟨#[]⟩⟩) := by
  refine qn Tryd.func87 Tryd.ntmps87 rfl rfl (by decide) rfl (by intro n; simp) fun σ n0 hcl hft => ?_
  repeat' (first | ((first | ((with_reducible refine qo (fun hg => ?_) (fun hg => ?_)) <;> (try simp only [hg]) <;> (try simp only [gS] at hg) <;> (try (first | simp only [eq_false hg, gI] | simp only [eq_true hg, gI]))) | (with_reducible first | refine qh ?_ | refine qg ?_ | refine ql ?_ | refine qk ?_) | refine qd ?_ | refine qi ?_ | refine qj ?_ | refine qm ?_) <;> (try simp (disch := first | omega | simp) [qf, -qr, -qw])) | ((with_reducible refine sideT ?_ ?_); first | omega | assumption | (simp; done)) | (refine qe fun K hK => ?_) | (refine qa ?_) | (refine qb true (by kernel_rfl) (by kernel_rfl) ?_) | (refine hK _ ?_; clear hK K) | (clear hK K; refine hK _ ?_; clear hK K) | (clear hK K; clear hK K; refine hK _ ?_; clear hK K) | refine qc ?_)
  rfl
theorem vtrue_g : Gives Tryd.prog 87 [.bool true] (Val.av ⟨2, 1, ⟨#[]⟩⟩) := by
  refine qn Tryd.func87 Tryd.ntmps87 rfl rfl (by decide) rfl (by intro n; simp) fun σ n0 hcl hft => ?_
  repeat' (first | ((first | ((with_reducible refine qo (fun hg => ?_) (fun hg => ?_)) <;> (try simp only [hg]) <;> (try simp only [gS] at hg) <;> (try (first | simp only [eq_false hg, gI] | simp only [eq_true hg, gI]))) | (with_reducible first | refine qh ?_ | refine qg ?_ | refine ql ?_ | refine qk ?_) | refine qd ?_ | refine qi ?_ | refine qj ?_ | refine qm ?_) <;> (try simp (disch := first | omega | simp) [qf, -qr, -qw])) | ((with_reducible refine sideT ?_ ?_); first | omega | assumption | (simp; done)) | (refine qe fun K hK => ?_) | (refine qa ?_) | (refine qb true (by kernel_rfl) (by kernel_rfl) ?_) | (refine hK _ ?_; clear hK K) | (clear hK K; refine hK _ ?_; clear hK K) | (clear hK K; clear hK K; refine hK _ ?_; clear hK K) | refine qc ?_)
  rfl
theorem vright_g (v : Val) : Gives Tryd.prog 54 [v.av] (.bool (rightV v)) := by
  refine qn Tryd.func54 Tryd.ntmps54 rfl rfl (by decide) rfl (by intro n; simp) fun σ n0 hcl hft => ?_
  repeat' (first | ((first | ((with_reducible refine qo (fun hg => ?_) (fun hg => ?_)) <;> (try simp only [hg]) <;> (try simp only [gS] at hg) <;> (try (first | simp only [eq_false hg, gI] | simp only [eq_true hg, gI]))) | (with_reducible first | refine qh ?_ | refine qg ?_ | refine ql ?_ | refine qk ?_) | refine acall (vint_g _) ?_ | refine qq (vint_g _) ?_ | refine acall (vtext_g _) ?_ | refine qq (vtext_g _) ?_ | refine acall (vfalse_g) ?_ | refine qq (vfalse_g) ?_ | refine acall (vtrue_g) ?_ | refine qq (vtrue_g) ?_ | refine qd ?_ | refine qi ?_ | refine qj ?_ | refine qm ?_) <;> (try simp (disch := first | omega | simp) [qf, -qr, -qw])) | ((with_reducible refine sideT ?_ ?_); first | omega | assumption | (simp; done)) | (refine qe fun K hK => ?_) | (refine qa ?_) | (refine qb true (by kernel_rfl) (by kernel_rfl) ?_) | (refine hK _ ?_; clear hK K) | (clear hK K; refine hK _ ?_; clear hK K) | (clear hK K; clear hK K; refine hK _ ?_; clear hK K) | refine qc ?_)
  all_goals simp_all [rightV] <;> omega
end Go.Proofs.YtnkakofcejkhiaaDoor

/- Walks of the laws of layer 26: the examples, and the bounds. -/
namespace Go.Proofs.YtnkakofcejkhiaaDoor
open Go.RowKit Go.Lib
theorem col26_g (n : Int) : Gives Tryd.prog 48 [.int n] (Ex.mk 3 n ByteArray.empty []).av := by
  refine qn Tryd.func48 Tryd.ntmps48 rfl rfl (by decide) rfl (by intro n; simp) fun σ n0 hcl hft => ?_
  repeat' (first | ((first | ((with_reducible refine qo (fun hg => ?_) (fun hg => ?_)) <;> (try simp only [hg]) <;> (try simp only [gS] at hg) <;> (try (first | simp only [eq_false hg, gI] | simp only [eq_true hg, gI]))) | (with_reducible first | refine qh ?_ | refine qg ?_ | refine ql ?_ | refine qk ?_) | refine qd ?_ | refine qi ?_ | refine qj ?_ | refine qm ?_) <;> (try simp (disch := first | omega | simp) [qf, -qr, -qw])) | ((with_reducible refine sideT ?_ ?_); first | omega | assumption | (simp; done)) | (refine qe fun K hK => ?_) | (refine qa ?_) | (refine qb true (by kernel_rfl) (by kernel_rfl) ?_) | (refine hK _ ?_; clear hK K) | (clear hK K; refine hK _ ?_; clear hK K) | (clear hK K; clear hK K; refine hK _ ?_; clear hK K) | refine qc ?_)
theorem two26_g (op : Int) (a b : Ex) : Gives Tryd.prog 47 [.int op, a.av, b.av] (Ex.mk op 0 ByteArray.empty [a, b]).av := by
  refine qn Tryd.func47 Tryd.ntmps47 rfl rfl (by decide) rfl (by intro n; simp) fun σ n0 hcl hft => ?_
  repeat' (first | ((first | ((with_reducible refine qo (fun hg => ?_) (fun hg => ?_)) <;> (try simp only [hg]) <;> (try simp only [gS] at hg) <;> (try (first | simp only [eq_false hg, gI] | simp only [eq_true hg, gI]))) | (with_reducible first | refine qh ?_ | refine qg ?_ | refine ql ?_ | refine qk ?_) | refine qd ?_ | refine qi ?_ | refine qj ?_ | refine qm ?_) <;> (try simp (disch := first | omega | simp) [qf, -qr, -qw])) | ((with_reducible refine sideT ?_ ?_); first | omega | assumption | (simp; done)) | (refine qe fun K hK => ?_) | (refine qa ?_) | (refine qb true (by kernel_rfl) (by kernel_rfl) ?_) | (refine hK _ ?_; clear hK K) | (clear hK K; refine hK _ ?_; clear hK K) | (clear hK K; clear hK K; refine hK _ ?_; clear hK K) | refine qc ?_)
set_option maxHeartbeats 4000000 in
theorem ops26_g (c : Cod) (l : List Int) (hl : l.length ≤ 1000000) (hc : c.ins.length ≤ 1000000) : Gives Tryd.prog 49 [c.av, .sl (l.map AV.int)] (.bool (decide (c.ins.map Ins.op = l))) := by
  obtain ⟨ins, types, out⟩ := c
  simp only at *
  by_cases hlen : ins.length = l.length
  · have hlenI : (ins.length : Int) = l.length := by omega
    refine qn Tryd.func49 Tryd.ntmps49 rfl rfl (by decide) rfl (by intro n; simp) fun σ n0 hcl hft => ?_
    repeat' (first | ((first | ((with_reducible refine qo (fun hg => ?_) (fun hg => ?_)) <;> (try simp only [hg]) <;> (try simp only [gS] at hg) <;> (try (first | simp only [eq_false hg, gI] | simp only [eq_true hg, gI]))) | (with_reducible first | refine qh ?_ | refine qg ?_ | refine ql ?_ | refine qk ?_) | refine qd ?_ | refine qi ?_ | refine qj ?_ | refine qm ?_) <;> (try simp (disch := first | omega | simp) [qf, -qr, -qw, hlen, hlenI])) | ((with_reducible refine sideT ?_ ?_); first | omega | assumption | (simp; done)) | (refine qe fun K hK => ?_) | (refine qa ?_) | (refine qb true (by kernel_rfl) (by kernel_rfl) ?_) | (refine qb false (by kernel_rfl) (by kernel_rfl) ?_) | (refine hK _ ?_; clear hK K) | (clear hK K; refine hK _ ?_; clear hK K) | (clear hK K; clear hK K; refine hK _ ?_; clear hK K) | refine qc ?_)
    refine qx hcl (fun k : Nat => [(1, .sl (l.map AV.int)), (2, .ptr n0 0), (5, .int k)]) (fun _ => [.cells [.sl (ins.map Ins.av), .sl (types.map AV.int), .int out] 25])
      (fun k => k ≤ l.length ∧ ∀ j (h : j < ins.length) (h2 : j < l.length), j < k → ins[j].op = l[j]) (fun k => l.length - k) 0 (by simp) (by simp) fun k ⟨hk, he⟩ => ?_
    by_cases hlt : k < l.length
    · have hlt2 : k < ins.length := by omega
      by_cases heq : ins[k].op = l[k]
      · repeat' (first | ((first | ((with_reducible refine qo (fun hg => ?_) (fun hg => ?_)) <;> (try simp only [hg]) <;> (try simp only [gS] at hg) <;> (try (first | simp only [eq_false hg, gI] | simp only [eq_true hg, gI]))) | (with_reducible first | refine qh ?_ | refine qg ?_ | refine ql ?_ | refine qk ?_) | refine qd ?_ | refine qi ?_ | refine qj ?_ | refine qm ?_) <;> (try simp (disch := first | omega | simp) [qf, -qr, -qw, hlt, hlt2, heq])) | ((with_reducible refine sideT ?_ ?_); first | omega | assumption | (simp; done)) | (refine qe fun K hK => ?_) | (refine qa ?_) | (refine qb true (by kernel_rfl) (by kernel_rfl) ?_) | (refine qb false (by kernel_rfl) (by kernel_rfl) ?_) | (refine hK _ ?_; clear hK K) | (clear hK K; refine hK _ ?_; clear hK K) | (clear hK K; clear hK K; refine hK _ ?_; clear hK K) | refine qc ?_)
        all_goals first | exact absurd heq (by assumption) | exact ⟨k + 1, ⟨by omega, fun j h h2 hj => by
          by_cases hjk : j = k
          · subst hjk; exact heq
          · exact he j h h2 (by omega)⟩, by omega, by simp⟩
      · have : ¬ ins.map Ins.op = l := fun e => heq (by subst e; simp)
        repeat' (first | ((first | ((with_reducible refine qo (fun hg => ?_) (fun hg => ?_)) <;> (try simp only [hg]) <;> (try simp only [gS] at hg) <;> (try (first | simp only [eq_false hg, gI] | simp only [eq_true hg, gI]))) | (with_reducible first | refine qh ?_ | refine qg ?_ | refine ql ?_ | refine qk ?_) | refine qd ?_ | refine qi ?_ | refine qj ?_ | refine qm ?_) <;> (try simp (disch := first | omega | simp) [qf, -qr, -qw, hlt, hlt2, heq])) | ((with_reducible refine sideT ?_ ?_); first | omega | assumption | (simp; done)) | (refine qe fun K hK => ?_) | (refine qa ?_) | (refine qb true (by kernel_rfl) (by kernel_rfl) ?_) | (refine qb false (by kernel_rfl) (by kernel_rfl) ?_) | (refine hK _ ?_; clear hK K) | (clear hK K; refine hK _ ?_; clear hK K) | (clear hK K; clear hK K; refine hK _ ?_; clear hK K) | refine qc ?_)
        all_goals first | exact absurd (by assumption) heq | (simp [this]; done)
    · have : ins.map Ins.op = l := by
        apply List.ext_getElem (by simpa using hlen)
        intro i h1 h2
        rw [List.getElem_map]; exact he i _ h2 (by omega)
      repeat' (first | ((first | ((with_reducible refine qo (fun hg => ?_) (fun hg => ?_)) <;> (try simp only [hg]) <;> (try simp only [gS] at hg) <;> (try (first | simp only [eq_false hg, gI] | simp only [eq_true hg, gI]))) | (with_reducible first | refine qh ?_ | refine qg ?_ | refine ql ?_ | refine qk ?_) | refine qd ?_ | refine qi ?_ | refine qj ?_ | refine qm ?_) <;> (try simp (disch := first | omega | simp) [qf, -qr, -qw, hlt])) | ((with_reducible refine sideT ?_ ?_); first | omega | assumption | (simp; done)) | (refine qe fun K hK => ?_) | (refine qa ?_) | (refine qb true (by kernel_rfl) (by kernel_rfl) ?_) | (refine qb false (by kernel_rfl) (by kernel_rfl) ?_) | (refine hK _ ?_; clear hK K) | (clear hK K; refine hK _ ?_; clear hK K) | (clear hK K; clear hK K; refine hK _ ?_; clear hK K) | refine qc ?_)
      all_goals (simp [this])
  · have hne : ¬ ins.map Ins.op = l := fun e => hlen (by subst e; simp)
    have hlenI : ¬ (ins.length : Int) = l.length := by omega
    refine qn Tryd.func49 Tryd.ntmps49 rfl rfl (by decide) rfl (by intro n; simp) fun σ n0 hcl hft => ?_
    repeat' (first | ((first | ((with_reducible refine qo (fun hg => ?_) (fun hg => ?_)) <;> (try simp only [hg]) <;> (try simp only [gS] at hg) <;> (try (first | simp only [eq_false hg, gI] | simp only [eq_true hg, gI]))) | (with_reducible first | refine qh ?_ | refine qg ?_ | refine ql ?_ | refine qk ?_) | refine qd ?_ | refine qi ?_ | refine qj ?_ | refine qm ?_) <;> (try simp (disch := first | omega | simp) [qf, -qr, -qw, hlenI, hne])) | ((with_reducible refine sideT ?_ ?_); first | omega | assumption | (simp; done)) | (refine qe fun K hK => ?_) | (refine qa ?_) | (refine qb true (by kernel_rfl) (by kernel_rfl) ?_) | (refine qb false (by kernel_rfl) (by kernel_rfl) ?_) | (refine hK _ ?_; clear hK K) | (clear hK K; refine hK _ ?_; clear hK K) | (clear hK K; clear hK K; refine hK _ ?_; clear hK K) | refine qc ?_)
    all_goals first | exact absurd (by assumption) hlenI | (simp [hne]; done)
def ex26a : Ex := .mk 8 0 ByteArray.empty [.mk 3 0 ByteArray.empty [], .mk 10 0 ByteArray.empty [.mk 0 2 ByteArray.empty [], .mk 0 3 ByteArray.empty []]]
def ex26s : Ex := .mk 8 0 ByteArray.empty [.mk 3 0 ByteArray.empty [], .mk 0 1 ByteArray.empty []]
def ex26b : Ex := .mk 10 0 ByteArray.empty [ex26s, ex26s]
def ex26c : Ex := .mk 21 0 ByteArray.empty [.mk 2 1 ByteArray.empty [], .mk 3 0 ByteArray.empty [], .mk 0 5 ByteArray.empty []]
def ex26d : Ex := .mk 8 0 ByteArray.empty [.mk 3 1 ByteArray.empty [], .mk 0 1 ByteArray.empty []]
theorem com26a : qdh [] [0, 1] ex26a = (⟨[⟨3, 0, 0, 0, 0, 0, ByteArray.empty⟩, ⟨0, 1, 0, 0, 0, 6, ByteArray.empty⟩, ⟨8, 0, 0, 1, 0, 0, ByteArray.empty⟩], [0, 0], 0⟩, 0) := by kernel_rfl
theorem com26b : qdh [] [0, 1] ex26b = (⟨[⟨3, 0, 0, 0, 0, 0, ByteArray.empty⟩, ⟨0, 1, 0, 0, 0, 1, ByteArray.empty⟩, ⟨8, 0, 0, 1, 0, 0, ByteArray.empty⟩, ⟨10, 0, 0, 0, 0, 0, ByteArray.empty⟩], [0, 0], 0⟩, 0) := by kernel_rfl
theorem com26c : qdh [] [0, 1] ex26c = (⟨[⟨3, 0, 0, 0, 0, 0, ByteArray.empty⟩], [0], 0⟩, 0) := by kernel_rfl
theorem com26d : qdh [] [0, 1] ex26d = (⟨[], [], 0⟩, 13) := by kernel_rfl
theorem n64_small : n64 ex26a ∧ n64 ex26b ∧ n64 ex26c ∧ n64 ex26d := by
  have h0 : ByteArray.empty.size ≤ 9223372036854775807 := by decide
  refine ⟨?_, ?_, ?_, ?_⟩ <;> simp [ex26a, ex26b, ex26c, ex26d, ex26s, qcq, NS, I64, h0]
theorem small26_g : Gives Tryd.prog 23 [] (.bool true) := by
  obtain ⟨na, nb, nc, nd⟩ := n64_small
  have ca := Compile_g [] [0, 1] ex26a (by simp) (by simp) (by simp) (by decide) na (by simp)
  have cb := Compile_g [] [0, 1] ex26b (by simp) (by simp) (by simp) (by decide) nb (by simp)
  have cc := Compile_g [] [0, 1] ex26c (by simp) (by simp) (by simp) (by decide) nc (by simp)
  have cd := Compile_g [] [0, 1] ex26d (by simp) (by simp) (by simp) (by decide) nd (by simp)
  rw [com26a] at ca
  rw [com26b] at cb
  rw [com26c] at cc
  rw [com26d] at cd
  have o1 := ops26_g ⟨[⟨3, 0, 0, 0, 0, 0, ByteArray.empty⟩, ⟨0, 1, 0, 0, 0, 6, ByteArray.empty⟩, ⟨8, 0, 0, 1, 0, 0, ByteArray.empty⟩], [0, 0], 0⟩ [3, 0, 8] (by simp) (by simp)
  have o2 := ops26_g ⟨[⟨3, 0, 0, 0, 0, 0, ByteArray.empty⟩, ⟨0, 1, 0, 0, 0, 1, ByteArray.empty⟩, ⟨8, 0, 0, 1, 0, 0, ByteArray.empty⟩, ⟨10, 0, 0, 0, 0, 0, ByteArray.empty⟩], [0, 0], 0⟩ [3, 0, 8, 10] (by simp) (by simp)
  have o3 := ops26_g ⟨[⟨3, 0, 0, 0, 0, 0, ByteArray.empty⟩], [0], 0⟩ [3] (by simp) (by simp)
  simp only [ex26a, ex26b, ex26c, ex26d, ex26s, Ex.av_mk, List.map_cons, List.map_nil, Cod.av, Ins.av] at ca cb cc cd o1 o2 o3
  simp at o1 o2 o3
  have w1 := col26_g 0
  have w2 := col26_g 1
  have v1 := two26_g 10 (.mk 0 2 ByteArray.empty []) (.mk 0 3 ByteArray.empty [])
  have v2 := two26_g 8 (.mk 3 0 ByteArray.empty []) (.mk 10 0 ByteArray.empty [.mk 0 2 ByteArray.empty [], .mk 0 3 ByteArray.empty []])
  have v3 := two26_g 8 (.mk 3 0 ByteArray.empty []) (.mk 0 1 ByteArray.empty [])
  have v4 := two26_g 10 ex26s ex26s
  have v5 := two26_g 8 (.mk 3 1 ByteArray.empty []) (.mk 0 1 ByteArray.empty [])
  simp only [ex26s, Ex.av_mk, List.map_cons, List.map_nil] at w1 w2 v1 v2 v3 v4 v5
  refine qn Tryd.func23 Tryd.ntmps23 rfl rfl (by decide) rfl (by intro n; simp) fun σ n0 hcl hft => ?_
  repeat' (first | ((first | ((with_reducible refine qo (fun hg => ?_) (fun hg => ?_)) <;> (try simp only [hg]) <;> (try simp only [gS] at hg) <;> (try (first | simp only [eq_false hg, gI] | simp only [eq_true hg, gI]))) | (with_reducible first | refine qh ?_ | refine qg ?_ | refine ql ?_ | refine qk ?_) | refine acall (w1) ?_ | refine qq (w1) ?_ | refine qp (w1) ?_ | refine acall (w2) ?_ | refine qq (w2) ?_ | refine qp (w2) ?_ | refine acall (v1) ?_ | refine qq (v1) ?_ | refine qp (v1) ?_ | refine acall (v2) ?_ | refine qq (v2) ?_ | refine qp (v2) ?_ | refine acall (v3) ?_ | refine qq (v3) ?_ | refine qp (v3) ?_ | refine acall (v4) ?_ | refine qq (v4) ?_ | refine qp (v4) ?_ | refine acall (v5) ?_ | refine qq (v5) ?_ | refine qp (v5) ?_ | refine acall (ca) ?_ | refine qq (ca) ?_ | refine qp (ca) ?_ | refine acall (cb) ?_ | refine qq (cb) ?_ | refine qp (cb) ?_ | refine acall (cc) ?_ | refine qq (cc) ?_ | refine qp (cc) ?_ | refine acall (cd) ?_ | refine qq (cd) ?_ | refine qp (cd) ?_ | refine acall (o1) ?_ | refine qq (o1) ?_ | refine qp (o1) ?_ | refine acall (o2) ?_ | refine qq (o2) ?_ | refine qp (o2) ?_ | refine acall (o3) ?_ | refine qq (o3) ?_ | refine qp (o3) ?_ | refine qd ?_ | refine qi ?_ | refine qj ?_ | refine qm ?_) <;> (try simp (disch := first | omega | simp) [qf, -qr, -qw])) | ((with_reducible refine sideT ?_ ?_); first | omega | assumption | (simp; done)) | (refine qe fun K hK => ?_) | (refine qa ?_) | (refine qb true (by kernel_rfl) (by kernel_rfl) ?_) | (refine qb false (by kernel_rfl) (by kernel_rfl) ?_) | (refine hK _ ?_; clear hK K) | (clear hK K; refine hK _ ?_; clear hK K) | (clear hK K; clear hK K; refine hK _ ?_; clear hK K) | refine qc ?_)
end Go.Proofs.YtnkakofcejkhiaaDoor

/- Walks of the laws of layer 26: running a program. -/
namespace Go.Proofs.YtnkakofcejkhiaaDoor
open Go.RowKit Go.Lib
theorem constVs_ty {cols : List Int} : ∀ {l : List Val}, (∀ v ∈ l, qbc v) → tys [] cols [] (l.map qbh) = some (l.map Val.k)
  | [], _ => by rw [List.map_nil, tys]; rfl
  | v :: l, h => by
    rw [List.map_cons, tys, (qcd (h v (by simp)) [] cols []).1, constVs_ty fun x hx => h x (by simp [hx])]; rfl
theorem constVs_ev {call : Int → List Val → Val} {time : Int} {row params : List Val} : ∀ {l : List Val}, (∀ v ∈ l, qbc v) → evs call time row params (l.map qbh) = l
  | [], _ => by rw [List.map_nil, evs]
  | v :: l, h => by
    rw [List.map_cons, evs, (qcd (h v (by simp)) [] [] []).2.1 call time row params, constVs_ev fun x hx => h x (by simp [hx])]
theorem callN_zero (time : Int) (m : Nat) : callN [] time m = fun _ _ => zeroV := by
  funext i vs; exact callN_nil time m i vs
theorem evalI26_g {cols types : List Int} {done : List Bool} {x : Ins} (hx : InsOk cols types done x) {regs : List Val} (hr : qea types done regs) (time : Int) {row : List Val} (hrow : qbn cols row) :
    Gives Tryd.prog 27 [.sl [], (Ex.mk x.op x.n x.s ((argsI regs x).map qbh)).av, .int time, .sl (row.map Val.av)] (opI time row x (argsI regs x)).av := by
  obtain ⟨hk, hs⟩ := hr.args hx
  have htl := hx.tail
  rw [← hk] at htl
  have hal : (argsI regs x).length ≤ 3 := by
    unfold argsI; rw [List.length_map]
    have := qev x; have := arO_le x.op; split at * <;> omega
  have hty : ty [] cols [] (.mk x.op x.n x.s ((argsI regs x).map qbh)) = some (types.getD x.to.toNat 0) := by
    rw [ty, constVs_ty hs]
    dsimp only
    rw [← htl]
    unfold tailT leafT
    simp only [if_neg hx.op.2.2]
  have hp : parts (Ex.mk x.op x.n x.s ((argsI regs x).map qbh)) ≤ 1000000 := by
    have : ∀ l : List Val, qu (l.map qbh) = l.length := fun l => by
      induction l with
      | nil => rw [List.map_nil, qu]; rfl
      | cons v l ih => rw [List.map_cons, qu, ih, (const_parts v).1, List.length_cons]; omega
    rw [parts, this]; omega
  have hev : evalP [] time row (.mk x.op x.n x.s ((argsI regs x).map qbh)) = opI time row x (argsI regs x) := by
    unfold evalP opI
    rw [ev, constVs_ev hs, callN_zero]
  have c := eval_fit_g [] time row (.mk x.op x.n x.s ((argsI regs x).map qbh)) _ (by simp) (by simp) hp hty hrow
  rw [hev] at c
  exact c
set_option maxRecDepth 100000 in
set_option maxHeartbeats 16000000 in
theorem run26_g {c : Cod} {cols : List Int} (h : CodOk c cols) (time : Int) {row : List Val} (hrow : qbn cols row) : Gives Tryd.prog 28 [c.av, .int time, .sl (row.map Val.av)] (valC c time row).av := by
  have hni := h.ni
  have hnt := h.nt
  have hout0 := h.out0
  have hout1 := h.out1
  obtain ⟨G, hG⟩ : ∃ G : Nat → List Val, G = fun k => regsI time row (c.ins.take k) (List.replicate c.types.length zeroV) := ⟨_, rfl⟩
  have G0 : G 0 = List.replicate c.types.length zeroV := by rw [hG]; rfl
  have G1 : ∀ k (hk : k < c.ins.length), G (k + 1) = (G k).set c.ins[k].to.toNat (opI time row c.ins[k] (argsI (G k) c.ins[k])) := fun k hk => by
    rw [hG]; dsimp only; rw [List.take_succ_eq_append_getElem hk, regsI_snoc]; rfl
  have GL : ∀ k, k ≤ c.ins.length → (G k).length = c.types.length := fun k => by
    induction k with
    | zero => intro _; rw [G0]; simp
    | succ k ih => intro hk; rw [G1 k (by omega), List.length_set, ih (by omega)]
  have GO : ∀ k (hk : k < c.ins.length), qea c.types (doneL (c.ins.take k) (List.replicate c.types.length false)) (G k) := fun k hk => by
    rw [hG]; exact AllOk.regs hrow time _ (AllOk.take c.ins k _ h.all) (regsOk_start c.types)
  have GE : valC c time row = (G c.ins.length).getD c.out.toNat zeroV := by rw [hG]; simp [valC]
  have hx : ∀ k (hk : k < c.ins.length), InsOk cols c.types (doneL (c.ins.take k) (List.replicate c.types.length false)) c.ins[k] := fun k hk => AllOk.at c.ins k _ hk h.all
  generalize valC c time row = V at *
  clear hG
  obtain ⟨ins, types, out⟩ := c
  simp only at *
  have hsz : 32 * types.length ≤ 281474976710656 := by omega
  refine qn Tryd.func28 Tryd.ntmps28 rfl rfl (by decide) rfl (by intro n; simp) fun σ n0 hcl hft => ?_
  repeat' (first | ((first | ((with_reducible refine qo (fun hg => ?_) (fun hg => ?_)) <;> (try simp only [hg]) <;> (try simp only [gS] at hg) <;> (try (first | simp only [eq_false hg, gI] | simp only [eq_true hg, gI]))) | (with_reducible first | refine qh ?_ | refine qg ?_ | refine ql ?_ | refine qk ?_) | refine qd ?_ | refine qi ?_ | refine qj ?_ | refine qm ?_) <;> (try simp (disch := first | omega | simp) [qf, -qr, -qw, hsz])) | ((with_reducible refine sideT ?_ ?_); first | omega | assumption | (simp; done)) | (refine qe fun K hK => ?_) | (refine qa ?_) | (refine qb true (by kernel_rfl) (by kernel_rfl) ?_) | (refine qb false (by kernel_rfl) (by kernel_rfl) ?_) | (refine hK _ ?_; clear hK K) | (clear hK K; refine hK _ ?_; clear hK K) | (clear hK K; clear hK K; refine hK _ ?_; clear hK K) | refine qc ?_)
  refine qx hcl (fun k : Nat => [(1, .int time), (2, .sl (row.map Val.av)), (3, .ptr n0 0), (6, .ptr (n0 + 1) 0), (7, .own (n0 + 2) types.length), (8, .int k)])
    (fun k => [.cells [.sl (ins.map Ins.av), .sl (types.map AV.int), .int out] 25, .cells [.int 0, .int 0, .str ByteArray.empty] 39, .vec ((G k).map Val.av) 39 3])
    (fun k => k ≤ ins.length) (fun k => ins.length - k) 0 (by omega) (by simp [G0, zeroV, Val.av, -Val.av_fold]) fun k hk => ?_
  by_cases hlt : k < ins.length
  · have hxk := hx k hlt
    have c1 := ops_g ins[k]
    have c2 := evalI26_g hxk (GO k hlt) time hrow
    have g1 := G1 k hlt
    have gl := GL k (by omega)
    have hto0 := hxk.to0
    have hto1 : ins[k].to < types.length := hxk.to1
    have hxa := hxk.args
    have hol : (opsP ins[k]).length ≤ 3 := by have := qev ins[k]; have := arO_le ins[k].op; split at * <;> omega
    have hag : argsI (G k) ins[k] = (opsP ins[k]).map fun r => (G k).getD r.toNat zeroV := rfl
    generalize hV : opI time row ins[k] (argsI (G k) ins[k]) = W at *
    rw [hag] at c2
    generalize opsP ins[k] = ops at *
    rw [Ex.av_mk, List.map_map, List.map_map] at c2
    repeat' (first | ((first | ((with_reducible refine qo (fun hg => ?_) (fun hg => ?_)) <;> (try simp only [hg]) <;> (try simp only [gS] at hg) <;> (try (first | simp only [eq_false hg, gI] | simp only [eq_true hg, gI]))) | (with_reducible first | refine qh ?_ | refine qg ?_ | refine ql ?_ | refine qk ?_) | refine acall (c1) ?_ | refine qq (c1) ?_ | refine qp (c1) ?_ | refine qd ?_ | refine qi ?_ | refine qj ?_ | refine qm ?_) <;> (try simp (disch := first | omega | simp) [qf, -qr, -qw, hlt])) | ((with_reducible refine sideT ?_ ?_); first | omega | assumption | (simp; done)) | (refine qe fun K hK => ?_) | (refine qa ?_) | (refine qb true (by kernel_rfl) (by kernel_rfl) ?_) | (refine qb false (by kernel_rfl) (by kernel_rfl) ?_) | (refine hK _ ?_; clear hK K) | (clear hK K; refine hK _ ?_; clear hK K) | (clear hK K; clear hK K; refine hK _ ?_; clear hK K) | refine qc ?_)
    obtain ⟨PA, hPA⟩ : ∃ PA, PA = ops.map ((Ex.av ∘ qbh) ∘ fun r => (G k).getD r.toNat zeroV) := ⟨_, rfl⟩
    have hPl : PA.length = ops.length := by rw [hPA, List.length_map]
    have hPj : ∀ j (hj : j < ops.length) (hj2 : j < PA.length), PA[j] = (qbh ((G k).getD ops[j].toNat zeroV)).av := fun j hj hj2 => by subst hPA; simp
    have hPc : ∀ m j, AV.cls m (PA.take j) := fun m j => by rw [hPA]; exact AV.cls_take (AV.cls_map (fun r => Ex.av_cl _ _) ops) j
    have hPw : ∀ j, AV.wid (PA.take j) 4 := fun j => by rw [hPA, ← List.map_take]; exact AV.wid_map (fun r => Ex.av_width _) _
    rw [← hPA] at c2
    clear hPA
    refine qca 4 3 52 4 (by rfl) (by rfl) ?_
    refine qx hcl (fun j : Nat => [(1, .int time), (2, .sl (row.map Val.av)), (3, .ptr n0 0), (6, .ptr (n0 + 1) 0), (7, .own (n0 + 2) types.length), (8, .int k), (9, .ptr (n0 + 3) 0), (10, .ptr (n0 + 4) 0), (11, .sl (ops.map AV.int)), (12, .int j)])
      (fun j => [.cells [.sl (ins.map Ins.av), .sl (types.map AV.int), .int out] 25, .cells [.int 0, .int 0, .str ByteArray.empty] 39, .vec ((G k).map Val.av) 39 3,
        .cells [.int ins[k].op, .int ins[k].to, .int ins[k].a, .int ins[k].b, .int ins[k].c, .int ins[k].n, .str ins[k].s] 68, .cells [.int ins[k].op, .int ins[k].n, .str ins[k].s, .gs (n0 + 5) (PA.take j)] 52, .tail j 52 4])
      (fun j => j ≤ ops.length) (fun j => ops.length - j) 0 (by omega) (by simp) fun j hj => ?_
    have hpc := fun m => hPc m j
    have hpw := hPw j
    by_cases hlt2 : j < ops.length
    · have hj2 : j < PA.length := by omega
      obtain ⟨r0, r1, -⟩ := hxa ops[j] (List.getElem_mem _)
      have c3 := Constant_g ((G k).getD ops[j].toNat zeroV)
      have hgj : (G k).getD ops[j].toNat zeroV = (G k)[ops[j].toNat]'(by omega) := by rw [List.getD_eq_getElem?_getD, List.getElem?_eq_getElem (by omega)]; rfl
      have htk : PA.take (j + 1) = PA.take j ++ [(qbh ((G k).getD ops[j].toNat zeroV)).av] := by rw [List.take_succ_eq_append_getElem hj2, hPj j hlt2 hj2]
      rw [hgj] at c3 htk
      have hsz2 : (j + 1) * 56 ≤ 140737488355328 := by omega
      have hml : min j PA.length = j := by omega
      have r2 : ¬ ops[j] < 0 := by omega
      have r3 : ¬ (types.length : Int) ≤ ops[j] := by omega
      have hva : ((G k)[ops[j].toNat]'(by omega)).av = .agg [.int ((G k)[ops[j].toNat]'(by omega)).k, .int ((G k)[ops[j].toNat]'(by omega)).n, .str ((G k)[ops[j].toNat]'(by omega)).s] := rfl
      rw [hva] at c3
      generalize hb : decide (((G k)[ops[j].toNat]'(by omega)).k = 0 ∨ ((G k)[ops[j].toNat]'(by omega)).k = 1 ∨ ((G k)[ops[j].toNat]'(by omega)).k = 2) = bb at c3
      repeat' (first | ((first | ((with_reducible refine qo (fun hg => ?_) (fun hg => ?_)) <;> (try simp only [hg]) <;> (try simp only [gS] at hg) <;> (try (first | simp only [eq_false hg, gI] | simp only [eq_true hg, gI]))) | (with_reducible first | refine qh ?_ | refine qg ?_ | refine ql ?_ | refine qk ?_) | refine acall (c3) ?_ | refine qq (c3) ?_ | refine qp (c3) ?_ | refine qd ?_ | refine qi ?_ | refine qj ?_ | refine qm ?_) <;> (try simp (disch := first | omega | simp) [qf, -qr, -qw, hlt2, gl, r0, r1, r2, r3, hsz2, hpw, hml, -Val.av_fold, hva])) | ((with_reducible refine sideT ?_ ?_); first | omega | assumption | (simp; done)) | (refine qe fun K hK => ?_) | (refine qa ?_) | (refine qb true (by kernel_rfl) (by kernel_rfl) ?_) | (refine qb false (by kernel_rfl) (by kernel_rfl) ?_) | (refine hK _ ?_; clear hK K) | (clear hK K; refine hK _ ?_; clear hK K) | (clear hK K; clear hK K; refine hK _ ?_; clear hK K) | refine qc ?_)
      exact ⟨j + 1, by omega, by omega, ⟨htk.symm, rfl⟩, hPc _ _, by omega⟩
    · obtain rfl : j = ops.length := by omega
      rw [List.take_of_length_le (by omega)] at hpc hpw ⊢
      have hto2 : ¬ (types.length : Int) ≤ ins[k].to := by omega
      repeat' (first | ((first | ((with_reducible refine qo (fun hg => ?_) (fun hg => ?_)) <;> (try simp only [hg]) <;> (try simp only [gS] at hg) <;> (try (first | simp only [eq_false hg, gI] | simp only [eq_true hg, gI]))) | (with_reducible first | refine qh ?_ | refine qg ?_ | refine ql ?_ | refine qk ?_) | refine acall (c2) ?_ | refine qq (c2) ?_ | refine qp (c2) ?_ | refine qd ?_ | refine qi ?_ | refine qj ?_ | refine qm ?_) <;> (try simp (disch := first | omega | simp) [qf, -qr, -qw, hlt2, gl, hto0, hto1, hto2, hpc])) | ((with_reducible refine sideT ?_ ?_); first | omega | assumption | (simp; done)) | (refine qe fun K hK => ?_) | (refine qa ?_) | (refine qb true (by kernel_rfl) (by kernel_rfl) ?_) | (refine qb false (by kernel_rfl) (by kernel_rfl) ?_) | (refine hK _ ?_; clear hK K) | (clear hK K; refine hK _ ?_; clear hK K) | (clear hK K; clear hK K; refine hK _ ?_; clear hK K) | refine qc ?_)
      refine ⟨k + 1, by omega, by omega, ?_, by omega⟩
      rw [g1]; simp [List.map_set]
  · obtain rfl : k = ins.length := by omega
    have gl := GL ins.length (Nat.le_refl _)
    have hgj : (G ins.length).getD out.toNat zeroV = (G ins.length)[out.toNat]'(by omega) := by rw [List.getD_eq_getElem?_getD, List.getElem?_eq_getElem (by omega)]; rfl
    rw [hgj] at GE
    have o1 : ¬ out < 0 := by omega
    have o2 : ¬ (types.length : Int) ≤ out := by omega
    have o3 : out < types.length := by omega
    have o4 : 0 ≤ out := by omega
    have hva : ((G ins.length)[out.toNat]'(by omega)).av = .agg [.int ((G ins.length)[out.toNat]'(by omega)).k, .int ((G ins.length)[out.toNat]'(by omega)).n, .str ((G ins.length)[out.toNat]'(by omega)).s] := rfl
    repeat' (first | ((first | ((with_reducible refine qo (fun hg => ?_) (fun hg => ?_)) <;> (try simp only [hg]) <;> (try simp only [gS] at hg) <;> (try (first | simp only [eq_false hg, gI] | simp only [eq_true hg, gI]))) | (with_reducible first | refine qh ?_ | refine qg ?_ | refine ql ?_ | refine qk ?_) | refine qd ?_ | refine qi ?_ | refine qj ?_ | refine qm ?_) <;> (try simp (disch := first | omega | simp) [qf, -qr, -qw, hlt, gl, o1, o2, o3, o4, -Val.av_fold, hva])) | ((with_reducible refine sideT ?_ ?_); first | omega | assumption | (simp; done)) | (refine qe fun K hK => ?_) | (refine qa ?_) | (refine qb true (by kernel_rfl) (by kernel_rfl) ?_) | (refine qb false (by kernel_rfl) (by kernel_rfl) ?_) | (refine hK _ ?_; clear hK K) | (clear hK K; refine hK _ ?_; clear hK K) | (clear hK K; clear hK K; refine hK _ ?_; clear hK K) | refine qc ?_)
    all_goals (rw [GE]; rfl)
end Go.Proofs.YtnkakofcejkhiaaDoor

/- Contracts of Steps, as abstract ones. -/
namespace Go.Proofs.YtnkakofcejkhiaaDoor
open Go.RowKit Go.Lib
theorem steps_g (F : List Fn) (e : Ex) (hbd : parts e ≤ 1000000) (hp : ∀ f ∈ F, parts f.body ≤ 1000000) (hlen : F.length ≤ 1000000) (hwf : wfS F.length e = true) (hwF : ∀ i (h : i < F.length), wfS i F[i].body = true) : Gives Tryd.prog 31 [.sl (F.map Fn.av), e.av] (.int (stepsP F e)) :=
  gives_v fun X vals ha => by
    obtain ⟨v0, _, rfl, h0, v1, _, rfl, h1, h3⟩ := ha
    cases h3
    obtain ⟨cs, rfl, hr⟩ := arg_ex h1
    exact Steps_any F e Any Any v0 cs X.w (arg_fns h0) hr hbd hp hlen hwf hwF
end Go.Proofs.YtnkakofcejkhiaaDoor

/- Layer 27 on plain data: batches that fit; the columns of a program. -/
namespace Go.Proofs.YtnkakofcejkhiaaDoor
open Go.RowKit Go.Lib
theorem rightV_sound {v : Val} (h : rightV v = true) : qbc v := by
  rw [rightV_eq] at h
  unfold qbc okV
  by_cases h0 : v.k = 0
  · rw [if_pos h0] at h ⊢
    refine ⟨h, ?_⟩
    have h1 : v.s.toList = [] := by simpa using h
    have h2 : v.s.size = 0 := by rw [Lib.size_eq, ← ByteArray.toList_eq, h1]; rfl
    omega
  · rw [if_neg h0] at h ⊢
    by_cases h1 : v.k = 1
    · rw [if_pos h1] at h ⊢
      simp only [Bool.and_eq_true, decide_eq_true_eq] at h ⊢
      exact ⟨⟨h.1, by omega⟩, h.2⟩
    · rw [if_neg h1] at h ⊢
      refine ⟨h, ?_⟩
      simp only [Bool.and_eq_true, decide_eq_true_eq] at h
      have h2 : v.s.size = 0 := by rw [Lib.size_eq, ← ByteArray.toList_eq, h.2]; rfl
      omega
end Go.Proofs.YtnkakofcejkhiaaDoor
