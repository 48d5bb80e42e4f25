/- Walks of layer 25's reference: what an instruction computes; the results of a program; its value. -/
import Derived.Shelf.Strings.BuilderK
import Derived.Test.YtgpcpmfdklpifaaGreatDoorGa2
import Derived.Test.YtgpcpmfdklpifaaGreatDoorGa3
import Derived.Test.YtgpcpmfdklpifaaGreatDoorGa11
import Derived.Test.YtgpcpmfdklpifaaGreatDoorGa13
import Derived.Test.YtgpcpmfdklpifaaGreatDoorGa14
import Derived.Test.YtgpcpmfdklpifaaGreatDoorGa16
import Derived.Test.YtgpcpmfdklpifaaGreatDoorGa17
import Derived.Test.YtgpcpmfdklpifaaGreatDoorGa19
import Derived.Test.YtgpcpmfdklpifaaGreatDoorGa20
set_option linter.unusedSimpArgs false
set_option linter.unusedVariables false
namespace Go.Proofs.YtgpcpmfdklpifaaGreatDoor
open Go.RowKit Go.Lib
def qcj (v : Val) : Ex := if v.k = 1 then .mk 1 0 v.s [] else if v.k = 2 then .mk 2 v.n ByteArray.empty [] else .mk 0 v.n ByteArray.empty []
theorem rconst_g (v : Val) : Gives Tryz.prog 30 [v.av] (qcj v).av := by
  unfold qcj
  obtain ⟨k, n, s⟩ := v
  by_cases h1 : k = 1
  · subst h1
    refine qn Tryz.func30 Tryz.ntmps30 rfl rfl (by decide) rfl (by intro n; simp) fun σ n0 hcl hft => ?_
    repeat' (first | ((first | ((with_reducible refine qo (fun hg => ?_) (fun hg => ?_)) <;> (try simp only [hg]) <;> (try simp only [gS] at hg) <;> (try (first | simp only [eq_false hg, gI] | simp only [eq_true hg, gI]))) | (with_reducible first | refine qc ?_ | refine qb ?_ | refine qi ?_ | refine qh ?_) | refine qe ?_ | refine qj ?_ | refine qk ?_ | refine qm ?_) <;> (try simp (disch := first | omega | simp) [qg, -qq, -qs])) | ((with_reducible refine sideT ?_ ?_); first | omega | assumption | (simp; done)) | (refine qf fun K hK => ?_) | (refine qa ?_) | refine ql ?_ | ((first | refine hK _ ?_ | (clear hK K; refine hK _ ?_) | (clear hK K; clear hK K; refine hK _ ?_)); clear hK K) | refine qd ?_)
    all_goals (simp [Ex.av_mk])
  · by_cases h2 : k = 2
    · subst h2
      refine qn Tryz.func30 Tryz.ntmps30 rfl rfl (by decide) rfl (by intro n; simp) fun σ n0 hcl hft => ?_
      repeat' (first | ((first | ((with_reducible refine qo (fun hg => ?_) (fun hg => ?_)) <;> (try simp only [hg]) <;> (try simp only [gS] at hg) <;> (try (first | simp only [eq_false hg, gI] | simp only [eq_true hg, gI]))) | (with_reducible first | refine qc ?_ | refine qb ?_ | refine qi ?_ | refine qh ?_) | refine qe ?_ | refine qj ?_ | refine qk ?_ | refine qm ?_) <;> (try simp (disch := first | omega | simp) [qg, -qq, -qs])) | ((with_reducible refine sideT ?_ ?_); first | omega | assumption | (simp; done)) | (refine qf fun K hK => ?_) | (refine qa ?_) | refine ql ?_ | ((first | refine hK _ ?_ | (clear hK K; refine hK _ ?_) | (clear hK K; clear hK K; refine hK _ ?_)); clear hK K) | refine qd ?_)
      all_goals (simp [Ex.av_mk])
    · simp only [if_neg h1, if_neg h2]
      refine qn Tryz.func30 Tryz.ntmps30 rfl rfl (by decide) rfl (by intro n; simp) fun σ n0 hcl hft => ?_
      repeat' (first | ((first | ((with_reducible refine qo (fun hg => ?_) (fun hg => ?_)) <;> (try simp only [hg]) <;> (try simp only [gS] at hg) <;> (try (first | simp only [eq_false hg, gI] | simp only [eq_true hg, gI]))) | (with_reducible first | refine qc ?_ | refine qb ?_ | refine qi ?_ | refine qh ?_) | refine qe ?_ | refine qj ?_ | refine qk ?_ | refine qm ?_) <;> (try simp (disch := first | omega | simp) [qg, -qq, -qs, h1, h2])) | ((with_reducible refine sideT ?_ ?_); first | omega | assumption | (simp; done)) | (refine qf fun K hK => ?_) | (refine qa ?_) | refine ql ?_ | ((first | refine hK _ ?_ | (clear hK K; refine hK _ ?_) | (clear hK K; clear hK K; refine hK _ ?_)); clear hK K) | refine qd ?_)
      all_goals first | exact absurd (by assumption) h1 | exact absurd (by assumption) h2 | (simp [Ex.av_mk])
def cntAv (v : Val) (n : Int) : AV := .agg [.int v.k, .int v.n, .str v.s, .int n]
abbrev opR (time : Int) (R : List Val) (op n : Int) (s : ByteArray) (vs : List Val) : Val := opV (fun _ _ => zeroV) time R [] op n s vs
set_option maxHeartbeats 8000000 in
theorem rrunG {op n : Int} {s : ByteArray} {time : Int} {R vs : List Val} (hvs : ∀ v ∈ vs, Gives Tryz.prog 56 [.sl [], (qcj v).av, .int time, .sl (R.map Val.av), .sl []] (cntAv v 1))
    (h21 : ¬ op = 21) (h4 : ¬ op = 4) (h22 : ¬ op = 22) (hcol : op = 3 → 0 ≤ n ∧ n < R.length) (c1 : ¬ op = 3 → ¬ op = 5 → Gives Tryz.prog 74 [(Ex.mk op n s (vs.map qcj)).av, .sl (vs.map Val.av)] (opR time R op n s vs).av) (hl : vs.length ≤ 3) :
    Gives Tryz.prog 56 [.sl [], (Ex.mk op n s (vs.map qcj)).av, .int time, .sl (R.map Val.av), .sl []] (cntAv (opR time R op n s vs) (1 + vs.length)) := by
  rw [Ex.av_mk] at c1 ⊢
  obtain ⟨A, hA⟩ : ∃ A, A = vs.map qcj := ⟨_, rfl⟩
  have hAl : A.length = vs.length := by rw [hA, List.length_map]
  have hAg : ∀ i (h : i < vs.length) (h2 : i < A.length), A[i] = qcj vs[i] := fun i h h2 => by subst hA; simp
  rw [← hA] at c1 ⊢
  clear hA
  obtain ⟨V, hV⟩ : ∃ V, V = opR time R op n s vs := ⟨_, rfl⟩
  rw [← hV] at c1 ⊢
  unfold cntAv
  refine qn Tryz.func56 Tryz.ntmps56 rfl rfl (by decide) rfl (by intro n; simp) fun σ n0 hcl hft => ?_
  repeat' (first | ((first | ((with_reducible refine qo (fun hg => ?_) (fun hg => ?_)) <;> (try simp only [hg]) <;> (try simp only [gS] at hg) <;> (try (first | simp only [eq_false hg, gI] | simp only [eq_true hg, gI]))) | (with_reducible first | refine qc ?_ | refine qb ?_ | refine qi ?_ | refine qh ?_) | refine qe ?_ | refine qj ?_ | refine qk ?_ | refine qm ?_) <;> (try simp (disch := first | omega | simp) [qg, -qq, -qs, h21])) | ((with_reducible refine sideT ?_ ?_); first | omega | assumption | (simp; done)) | (refine qf fun K hK => ?_) | (refine qa ?_) | refine ql ?_ | ((first | refine hK _ ?_ | (clear hK K; refine hK _ ?_) | (clear hK K; clear hK K; refine hK _ ?_)); clear hK K) | refine qd ?_)
  all_goals first | exact absurd (by assumption) h21 | skip
  refine qby 15 40 3 (by simp) ?_
  refine qr hcl (fun i : Nat => [(0, .sl []), (2, .int time), (3, .sl (R.map Val.av)), (4, .sl []), (6, .ptr n0 0), (10, .ptr (n0 + 1) 0), (14, .int (1 + (i : Int))), (15, .gs (n0 + 2) ((vs.take i).map Val.av)), (16, .int i)])
    (fun i => [.cells [.int op, .int n, .str s, .sl (A.map Ex.av)] 36, .cells [.int 0, .int 0, .str ByteArray.empty, .int 0] 84, .tail i 40 3])
    (fun i => i ≤ vs.length) (fun i => vs.length - i) 0 (by simp) (by simp) fun i hi => ?_
  by_cases hlt : i < vs.length
  · have hltA : i < A.length := by omega
    have c0 := hvs vs[i] (List.getElem_mem _)
    rw [← hAg i hlt hltA] at c0
    have hsz : (i + 1) * 32 ≤ 140737488355328 := by omega
    have htk : (vs.take (i + 1)).map Val.av = (vs.take i).map Val.av ++ [vs[i].av] := by rw [List.take_succ_eq_append_getElem hlt, List.map_append]; rfl
    have hwd : AV.wid (List.take i (List.map Val.av vs)) 3 := by rw [← List.map_take]; exact Val.avs_wid _
    unfold cntAv at c0
    repeat' (first | ((first | ((with_reducible refine qo (fun hg => ?_) (fun hg => ?_)) <;> (try simp only [hg]) <;> (try simp only [gS] at hg) <;> (try (first | simp only [eq_false hg, gI] | simp only [eq_true hg, gI]))) | (with_reducible first | refine qc ?_ | refine qb ?_ | refine qi ?_ | refine qh ?_) | refine acall (c0) ?_ | refine qp (c0) ?_ | refine qe ?_ | refine qj ?_ | refine qk ?_ | refine qm ?_) <;> (try simp (disch := first | omega | simp) [qg, -qq, -qs, hltA, hsz, hwd])) | ((with_reducible refine sideT ?_ ?_); first | omega | assumption | (simp; done)) | (refine qf fun K hK => ?_) | (refine qa ?_) | refine ql ?_ | ((first | refine hK _ ?_ | (clear hK K; refine hK _ ?_) | (clear hK K; clear hK K; refine hK _ ?_)); clear hK K) | refine qd ?_)
    exact ⟨i + 1, by omega, by omega, rfl, by omega, by rw [← List.map_take, ← List.map_take]; exact htk.symm, by omega⟩
  · obtain rfl : i = vs.length := by omega
    have hltA : ¬ vs.length < A.length := by omega
    rw [List.take_length]
    by_cases h3 : op = 3
    · obtain ⟨q0, q1⟩ := hcol h3
      repeat' (first | ((first | ((with_reducible refine qo (fun hg => ?_) (fun hg => ?_)) <;> (try simp only [hg]) <;> (try simp only [gS] at hg) <;> (try (first | simp only [eq_false hg, gI] | simp only [eq_true hg, gI]))) | (with_reducible first | refine qc ?_ | refine qb ?_ | refine qi ?_ | refine qh ?_) | refine qe ?_ | refine qj ?_ | refine qk ?_ | refine qm ?_) <;> (try simp (disch := first | omega | simp) [qg, -qq, -qs, hltA, h3, q0, q1])) | ((with_reducible refine sideT ?_ ?_); first | omega | assumption | (simp; done)) | (refine qf fun K hK => ?_) | (refine qa ?_) | refine ql ?_ | ((first | refine hK _ ?_ | (clear hK K; refine hK _ ?_) | (clear hK K; clear hK K; refine hK _ ?_)); clear hK K) | refine qd ?_)
      have hV2 : V = R[n.toNat]'(by omega) := by rw [hV, h3]; unfold opR opV; simp; rw [List.getElem?_eq_getElem (by omega)]; rfl
      rw [hV2]; exact ⟨rfl, rfl, rfl⟩
    · by_cases h5 : op = 5
      · have hV2 : V = numV time := by rw [hV, h5]; unfold opR opV; simp
        repeat' (first | ((first | ((with_reducible refine qo (fun hg => ?_) (fun hg => ?_)) <;> (try simp only [hg]) <;> (try simp only [gS] at hg) <;> (try (first | simp only [eq_false hg, gI] | simp only [eq_true hg, gI]))) | (with_reducible first | refine qc ?_ | refine qb ?_ | refine qi ?_ | refine qh ?_) | refine qe ?_ | refine qj ?_ | refine qk ?_ | refine qm ?_) <;> (try simp (disch := first | omega | simp) [qg, -qq, -qs, hltA, h3, h4, h5])) | ((with_reducible refine sideT ?_ ?_); first | omega | assumption | (simp; done)) | (refine qf fun K hK => ?_) | (refine qa ?_) | refine ql ?_ | ((first | refine hK _ ?_ | (clear hK K; refine hK _ ?_) | (clear hK K; clear hK K; refine hK _ ?_)); clear hK K) | refine qd ?_)
        all_goals first | exact absurd (by assumption) h3 | exact absurd (by assumption) h4 | (rw [hV2]; exact ⟨rfl, rfl, rfl⟩)
      · have c2 := c1 h3 h5
        obtain ⟨vk, vn, vz⟩ := V
        repeat' (first | ((first | ((with_reducible refine qo (fun hg => ?_) (fun hg => ?_)) <;> (try simp only [hg]) <;> (try simp only [gS] at hg) <;> (try (first | simp only [eq_false hg, gI] | simp only [eq_true hg, gI]))) | (with_reducible first | refine qc ?_ | refine qb ?_ | refine qi ?_ | refine qh ?_) | refine acall (c2) ?_ | refine qp (c2) ?_ | refine qe ?_ | refine qj ?_ | refine qk ?_ | refine qm ?_) <;> (try simp (disch := first | omega | simp) [qg, -qq, -qs, hltA, h3, h4, h5, h22])) | ((with_reducible refine sideT ?_ ?_); first | omega | assumption | (simp; done)) | (refine qf fun K hK => ?_) | (refine qa ?_) | refine ql ?_ | ((first | refine hK _ ?_ | (clear hK K; refine hK _ ?_) | (clear hK K; clear hK K; refine hK _ ?_)); clear hK K) | refine qd ?_)
        all_goals first | exact absurd (by assumption) h3 | exact absurd (by assumption) h4 | exact absurd (by assumption) h5 | exact absurd (by assumption) h22 | rfl | exact ⟨rfl, rfl, rfl⟩
theorem konst_g {v : Val} (hv : qbf v) (time : Int) (R : List Val) : Gives Tryz.prog 56 [.sl [], (qcj v).av, .int time, .sl (R.map Val.av), .sl []] (cntAv v 1) := by
  have key : ∀ op n s, op = 0 ∨ op = 1 ∨ op = 2 → opR time R op n s [] = v → Gives Tryz.prog 56 [.sl [], (Ex.mk op n s []).av, .int time, .sl (R.map Val.av), .sl []] (cntAv v 1) := fun op n s h1 h2 => by
    have := rrunG (op := op) (n := n) (s := s) (time := time) (R := R) (vs := []) (by simp) (by omega) (by omega) (by omega) (by omega) (fun _ _ => rap0_g (fun _ _ => zeroV) time R [] h1 []) (by simp)
    rw [h2] at this
    exact this
  obtain ⟨h1, -⟩ := hv
  obtain ⟨k, n, s⟩ := v
  unfold okV at h1
  unfold qcj
  dsimp only at h1 ⊢
  have hse : s.toList = [] → s = ByteArray.empty := fun h => by
    apply ByteArray.ext
    rw [ByteArray.toList_eq] at h
    exact Array.toList_eq_nil_iff.1 h
  by_cases hk0 : k = 0
  · subst hk0
    rw [if_pos rfl] at h1
    rw [if_neg (by omega), if_neg (by omega)]
    refine key 0 n _ (.inl rfl) ?_
    rw [hse (by simpa using h1)]
    rfl
  · rw [if_neg hk0] at h1
    by_cases hk1 : k = 1
    · subst hk1
      rw [if_pos rfl] at h1 ⊢
      refine key 1 0 _ (.inr (.inl rfl)) ?_
      have : n = 0 := by simp at h1; exact h1.1
      subst this
      rfl
    · rw [if_neg hk1] at h1 ⊢
      simp only [Bool.and_eq_true, Bool.or_eq_true, decide_eq_true_eq] at h1
      obtain ⟨⟨rfl, hn⟩, hs⟩ := h1
      obtain rfl := hse hs
      rw [if_pos rfl]
      refine key 2 n _ (.inr (.inr rfl)) ?_
      rcases hn with rfl | rfl <;> rfl
set_option maxHeartbeats 4000000 in
theorem rrunI {n : Int} {s : ByteArray} {time : Int} {R : List Val} {a b c : Val} (ha : qbf a) (hb : qbf b) (hc : qbf c) :
    ∃ m, Gives Tryz.prog 56 [.sl [], (Ex.mk 21 n s ([a, b, c].map qcj)).av, .int time, .sl (R.map Val.av), .sl []] (cntAv (ifV [a, b, c]) m) := by
  refine ⟨3, ?_⟩
  have ca := konst_g ha time R
  have cb := konst_g hb time R
  have cc := konst_g hc time R
  rw [Ex.av_mk]
  have hif : ifV [a, b, c] = if a.n = 1 then b else c := rfl
  rw [hif]
  simp only [List.map_cons, List.map_nil]
  generalize qcj a = ea at *
  generalize qcj b = eb at *
  generalize qcj c = ec at *
  unfold cntAv at ca cb cc ⊢
  by_cases h : a.n = 1
  · rw [if_pos h]
    refine qn Tryz.func56 Tryz.ntmps56 rfl rfl (by decide) rfl (by intro n; simp) fun σ n0 hcl hft => ?_
    repeat' (first | ((first | ((with_reducible refine qo (fun hg => ?_) (fun hg => ?_)) <;> (try simp only [hg]) <;> (try simp only [gS] at hg) <;> (try (first | simp only [eq_false hg, gI] | simp only [eq_true hg, gI]))) | (with_reducible first | refine qc ?_ | refine qb ?_ | refine qi ?_ | refine qh ?_) | refine acall (ca) ?_ | refine qp (ca) ?_ | refine acall (cb) ?_ | refine qp (cb) ?_ | refine qe ?_ | refine qj ?_ | refine qk ?_ | refine qm ?_) <;> (try simp (disch := first | omega | simp) [qg, -qq, -qs, h])) | ((with_reducible refine sideT ?_ ?_); first | omega | assumption | (simp; done)) | (refine qf fun K hK => ?_) | (refine qa ?_) | refine ql ?_ | ((first | refine hK _ ?_ | (clear hK K; refine hK _ ?_) | (clear hK K; clear hK K; refine hK _ ?_)); clear hK K) | refine qd ?_)
    all_goals first | rfl | exact ⟨rfl, rfl, rfl⟩
  · rw [if_neg h]
    refine qn Tryz.func56 Tryz.ntmps56 rfl rfl (by decide) rfl (by intro n; simp) fun σ n0 hcl hft => ?_
    repeat' (first | ((first | ((with_reducible refine qo (fun hg => ?_) (fun hg => ?_)) <;> (try simp only [hg]) <;> (try simp only [gS] at hg) <;> (try (first | simp only [eq_false hg, gI] | simp only [eq_true hg, gI]))) | (with_reducible first | refine qc ?_ | refine qb ?_ | refine qi ?_ | refine qh ?_) | refine acall (ca) ?_ | refine qp (ca) ?_ | refine acall (cc) ?_ | refine qp (cc) ?_ | refine qe ?_ | refine qj ?_ | refine qk ?_ | refine qm ?_) <;> (try simp (disch := first | omega | simp) [qg, -qq, -qs, h])) | ((with_reducible refine sideT ?_ ?_); first | omega | assumption | (simp; done)) | (refine qf fun K hK => ?_) | (refine qa ?_) | refine ql ?_ | ((first | refine hK _ ?_ | (clear hK K; refine hK _ ?_) | (clear hK K; clear hK K; refine hK _ ?_)); clear hK K) | refine qd ?_)
    all_goals first | exact absurd (by assumption) h | rfl | exact ⟨rfl, rfl, rfl⟩
end Go.Proofs.YtgpcpmfdklpifaaGreatDoor

/- Stores of values into elements of own slices: what a value without slices that are nil or grow becomes. -/
namespace Go.Proofs.YtgpcpmfdklpifaaGreatDoor
open Go.RowKit Go.Lib
theorem keeps_all : ∀ {l : List AV}, (∀ z ∈ l, z.pub = z ∧ ∀ c, keep1 c z = z) → ∀ cs, keeps cs l = l
  | [], _, cs => keeps_nil
  | y :: l, h, [] => by rw [keeps_cons0, (h y (by simp)).1, keeps_all (fun z hz => h z (by simp [hz]))]
  | y :: l, h, c :: cs => by rw [keeps_cons, (h y (by simp)).2, keeps_all (fun z hz => h z (by simp [hz]))]
theorem keep_all {l : List AV} (h : ∀ z ∈ l, z.pub = z ∧ ∀ c, keep1 c z = z) (hp : (AV.agg l).pub = .agg l) (x : AV) (o : Nat) : x.keep o (.agg l) = .agg l := by
  cases x <;> first | exact hp | (rw [keep_agg, keeps_all h])
@[simp] theorem Val.av_keep (x : AV) (o : Nat) (v : Val) : x.keep o v.av = v.av := by
  have h := v.av_pub
  unfold Val.av at h ⊢
  exact keep_all (by simp) h x o
end Go.Proofs.YtgpcpmfdklpifaaGreatDoor

/- Walks of layer 25's reference: the results of a program, and its value. -/
namespace Go.Proofs.YtgpcpmfdklpifaaGreatDoor
open Go.RowKit Go.Lib
theorem opcmp_ts {o n t : Int} {ts : List Int} (h : operT o n ts = some t) (ho : 13 ≤ o ∧ o ≤ 16) : ∃ u, ts = [u, u] := by
  unfold operT at h
  split at h
  · cases h
  rw [if_neg (by omega), if_neg (by omega), if_neg (by omega), if_neg (by omega)] at h
  match ts, h with
  | [a, b], h =>
    dsimp only at h
    split at h
    · rename_i e; exact ⟨a, by rw [e]⟩
    · cases h
theorem runI_g {cols types : List Int} {done : List Bool} {x : Ins} (hx : InsOk cols types done x) {regs : List Val} (hr : qdc types done regs) (time : Int) {row : List Val} (hrow : qch cols row) :
    ∃ m, Gives Tryz.prog 56 [.sl [], (Ex.mk x.op x.n x.s ((argsI regs x).map qcj)).av, .int time, .sl (row.map Val.av), .sl []] (cntAv (opI time row x (argsI regs x)) m) := by
  obtain ⟨hk, hs⟩ := hr.args hx
  have htl := hx.tail
  have hal : (argsI regs x).length = arO x.op := by unfold argsI; rw [List.length_map, qci, if_pos (form_op hx.form)]
  have hop := hx.op
  rw [← hk] at htl
  have hcol : x.op = 3 → 0 ≤ x.n ∧ x.n < row.length := fun h3 => by
    have := hx.col h3
    obtain ⟨R0, R1, rfl, rfl, -⟩ := hrow
    simp at this ⊢; omega
  generalize argsI regs x = vs at *
  unfold opI
  by_cases h21 : x.op = 21
  · rw [if_pos h21, h21]
    have h3 : vs.length = 3 := by rw [hal, h21]; rfl
    match vs, h3 with
    | [a, b, c], _ => exact rrunI (hs a (by simp)) (hs b (by simp)) (hs c (by simp))
  · rw [if_neg h21]
    refine ⟨_, rrunG (fun v hv => konst_g (hs v hv) time row) h21 hop.2.2 (by omega) hcol (fun h3 h5 => ?_) (by rw [hal]; exact qdd _)⟩
    have hcases : (x.op = 0 ∨ x.op = 1 ∨ x.op = 2) ∨ (x.op = 6 ∨ x.op = 7 ∨ x.op = 20) ∨ (8 ≤ x.op ∧ x.op ≤ 19) := by omega
    rcases hcases with h | h | h
    · exact rap0_g _ _ _ _ h vs
    · have h1 : vs.length = 1 := by rw [hal]; rcases h with h | h | h <;> rw [h] <;> rfl
      match vs, h1 with
      | [a], _ => exact rap1_g _ _ _ _ h a
    · have h2 : vs.length = 2 := by rw [hal]; unfold arO; rw [if_neg (by omega), if_neg (by omega), if_neg (by omega)]
      match vs, h2 with
      | [a, b], _ =>
        have sa := hs a (by simp)
        have sb := hs b (by simp)
        refine rap2_g _ _ _ _ h a b (fun hc => ?_) (by have := sa.2; have := sb.2; omega)
        refine less_cmp sa sb ?_
        unfold tailT at htl
        split at htl
        · cases htl
        rw [if_neg (by omega), if_neg (by simp)] at htl
        obtain ⟨u, hu⟩ := opcmp_ts htl (by omega)
        simp at hu
        rw [hu.1, hu.2]
theorem evalI_g {cols types : List Int} {done : List Bool} {x : Ins} (hx : InsOk cols types done x) {regs : List Val} (hr : qdc types done regs) (time : Int) {row : List Val} (hrow : qch cols row) :
    Gives Tryz.prog 31 [.sl [], (Ex.mk x.op x.n x.s ((argsI regs x).map qcj)).av, .int time, .sl (row.map Val.av)] (opI time row x (argsI regs x)).av := by
  obtain ⟨m, c1⟩ := runI_g hx hr time hrow
  rw [Ex.av_mk] at c1 ⊢
  generalize opI time row x (argsI regs x) = V at *
  generalize argsI regs x = vs at *
  unfold cntAv at c1
  rw [List.map_map] at c1 ⊢
  refine qn Tryz.func31 Tryz.ntmps31 rfl rfl (by decide) rfl (by intro n; simp) fun σ n0 hcl hft => ?_
  repeat' (first | ((first | ((with_reducible refine qo (fun hg => ?_) (fun hg => ?_)) <;> (try simp only [hg]) <;> (try simp only [gS] at hg) <;> (try (first | simp only [eq_false hg, gI] | simp only [eq_true hg, gI]))) | (with_reducible first | refine qc ?_ | refine qb ?_ | refine qi ?_ | refine qh ?_) | refine acall (c1) ?_ | refine qp (c1) ?_ | refine qe ?_ | refine qj ?_ | refine qk ?_ | refine qm ?_) <;> (try simp (disch := first | omega | simp) [qg, -qq, -qs])) | ((with_reducible refine sideT ?_ ?_); first | omega | assumption | (simp; done)) | (refine qf fun K hK => ?_) | (refine qa ?_) | refine ql ?_ | ((first | refine hK _ ?_ | (clear hK K; refine hK _ ?_) | (clear hK K; clear hK K; refine hK _ ?_)); clear hK K) | refine qd ?_)
def resI (time : Int) (row : List Val) (l : List Ins) (nt : Nat) : List Val := resN time row (nodes l 0 (List.replicate nt 0)) []
theorem agree_take {c : Cod} {cols : List Int} (h : CodOk c cols) (time : Int) (row : List Val) (k : Nat) :
    Agree (doneL (c.ins.take k) (List.replicate c.types.length false)) (regsI time row (c.ins.take k) (List.replicate c.types.length zeroV)) (lastL (c.ins.take k) 0 (List.replicate c.types.length 0)) (resI time row (c.ins.take k) c.types.length) := by
  have := agree_all time row (c.ins.take k) (AllOk.take c.ins k _ h.all) (regs := List.replicate c.types.length zeroV) (by simp) (agree_start c.types.length)
  exact this
theorem resI_snoc {c : Cod} {cols : List Int} (h : CodOk c cols) (time : Int) (row : List Val) {k : Nat} (hk : k < c.ins.length) :
    resI time row (c.ins.take (k + 1)) c.types.length = resI time row (c.ins.take k) c.types.length ++ [opI time row c.ins[k] (argsI (regsI time row (c.ins.take k) (List.replicate c.types.length zeroV)) c.ins[k])] := by
  have hx := AllOk.at c.ins k _ hk h.all
  have ha := (agree_take h time row k).args hx
  unfold resI at ha ⊢
  rw [List.take_succ_eq_append_getElem hk, nodes_snoc, resN_append, resN, resN, ha]
set_option maxHeartbeats 8000000 in
theorem rresults_g {c : Cod} {cols : List Int} (h : CodOk c cols) (time : Int) {row : List Val} (hrow : qch cols row) : Gives Tryz.prog 9 [c.av, .int time, .sl (row.map Val.av)] (.sl ((resI time row c.ins c.types.length).map Val.av)) := by
  have hni := h.ni
  have hnt := h.nt
  obtain ⟨T, hT⟩ : ∃ T : Nat → List Val, T = fun k => resI time row (c.ins.take k) c.types.length := ⟨_, rfl⟩
  obtain ⟨G, hG⟩ : ∃ G : Nat → List Val, G = fun k => regsI time row (c.ins.take k) (List.replicate c.types.length zeroV) := ⟨_, rfl⟩
  have T0 : T 0 = [] := by rw [hT]; rfl
  have T1 : ∀ k (hk : k < c.ins.length), T (k + 1) = T k ++ [opI time row c.ins[k] (argsI (G k) c.ins[k])] := fun k hk => by rw [hT, hG]; exact resI_snoc h time row hk
  have T2 : T c.ins.length = resI time row c.ins c.types.length := by rw [hT]; simp
  have TL : ∀ k, k ≤ c.ins.length → (T k).length = k := fun k => by
    induction k with
    | zero => intro _; rw [T0]; rfl
    | succ k ih => intro hk; rw [T1 k (by omega), List.length_append, ih (by omega)]; rfl
  have G0 : G 0 = List.replicate c.types.length zeroV := by rw [hG]; rfl
  have G1 : ∀ k (hk : k < c.ins.length), G (k + 1) = (G k).set c.ins[k].tgt.toNat (opI time row c.ins[k] (argsI (G k) c.ins[k])) := fun k hk => by
    rw [hG]; dsimp only; rw [List.take_succ_eq_append_getElem hk, regsI_snoc]; rfl
  have GL : ∀ k, k ≤ c.ins.length → (G k).length = c.types.length := fun k => by
    induction k with
    | zero => intro _; rw [G0]; simp
    | succ k ih => intro hk; rw [G1 k (by omega), List.length_set, ih (by omega)]
  have GO : ∀ k (hk : k < c.ins.length), qdc c.types (doneL (c.ins.take k) (List.replicate c.types.length false)) (G k) := fun k hk => by
    rw [hG]; exact AllOk.regs hrow time _ (AllOk.take c.ins k _ h.all) (regsOk_start c.types)
  have hx : ∀ k (hk : k < c.ins.length), InsOk cols c.types (doneL (c.ins.take k) (List.replicate c.types.length false)) c.ins[k] := fun k hk => AllOk.at c.ins k _ hk h.all
  rw [← T2]
  clear hT hG T2
  obtain ⟨ins, types, out⟩ := c
  simp only at *
  have hsz : 32 * types.length ≤ 281474976710656 := by omega
  refine qn Tryz.func9 Tryz.ntmps9 rfl rfl (by decide) rfl (by intro n; simp) fun σ n0 hcl hft => ?_
  repeat' (first | ((first | ((with_reducible refine qo (fun hg => ?_) (fun hg => ?_)) <;> (try simp only [hg]) <;> (try simp only [gS] at hg) <;> (try (first | simp only [eq_false hg, gI] | simp only [eq_true hg, gI]))) | (with_reducible first | refine qc ?_ | refine qb ?_ | refine qi ?_ | refine qh ?_) | refine qe ?_ | refine qj ?_ | refine qk ?_ | refine qm ?_) <;> (try simp (disch := first | omega | simp) [qg, -qq, -qs, hsz])) | ((with_reducible refine sideT ?_ ?_); first | omega | assumption | (simp; done)) | (refine qf fun K hK => ?_) | (refine qa ?_) | refine ql ?_ | ((first | refine hK _ ?_ | (clear hK K; refine hK _ ?_) | (clear hK K; clear hK K; refine hK _ ?_)); clear hK K) | refine qd ?_)
  refine qby 8 40 3 (by simp) ?_
  refine qr hcl (fun k : Nat => [(1, .int time), (2, .sl (row.map Val.av)), (3, .ptr n0 0), (7, .own (n0 + 1) types.length), (8, .gs (n0 + 2) ((T k).map Val.av)), (9, .int k)])
    (fun k => [.cells [.sl (ins.map Ins.av), .sl (types.map AV.int), .int out] 25, .vec ((G k).map Val.av) 40 3, .tail (T k).length 40 3])
    (fun k => k ≤ ins.length) (fun k => ins.length - k) 0 (by omega) (by simp [T0, G0, zeroV, Val.av, -Val.av_fold]) fun k hk => ?_
  by_cases hlt : k < ins.length
  · have hxk := hx k hlt
    have c1 := rops_g ins[k]
    have c2 := evalI_g hxk (GO k hlt) time hrow
    have t1 := T1 k hlt
    have g1 := G1 k hlt
    have tl := TL k (by omega)
    have gl := GL k (by omega)
    have hto0 := hxk.to0
    have hto1 : ins[k].tgt < types.length := hxk.to1
    have hxa := hxk.args
    have hol : (opsP ins[k]).length ≤ 3 := by have := qci ins[k]; have := qdd ins[k].op; split at * <;> omega
    have hag : argsI (G k) ins[k] = (opsP ins[k]).map fun r => (G k).getD r.toNat zeroV := rfl
    generalize hV : opI time row ins[k] (argsI (G k) ins[k]) = V at *
    rw [hag] at c2
    generalize opsP ins[k] = ops at *
    rw [Ex.av_mk, List.map_map, List.map_map] at c2
    repeat' (first | ((first | ((with_reducible refine qo (fun hg => ?_) (fun hg => ?_)) <;> (try simp only [hg]) <;> (try simp only [gS] at hg) <;> (try (first | simp only [eq_false hg, gI] | simp only [eq_true hg, gI]))) | (with_reducible first | refine qc ?_ | refine qb ?_ | refine qi ?_ | refine qh ?_) | refine acall (c1) ?_ | refine qp (c1) ?_ | refine qe ?_ | refine qj ?_ | refine qk ?_ | refine qm ?_) <;> (try simp (disch := first | omega | simp) [qg, -qq, -qs, hlt])) | ((with_reducible refine sideT ?_ ?_); first | omega | assumption | (simp; done)) | (refine qf fun K hK => ?_) | (refine qa ?_) | refine ql ?_ | ((first | refine hK _ ?_ | (clear hK K; refine hK _ ?_) | (clear hK K; clear hK K; refine hK _ ?_)); clear hK K) | refine qd ?_)
    obtain ⟨PA, hPA⟩ : ∃ PA, PA = ops.map ((Ex.av ∘ qcj) ∘ fun r => (G k).getD r.toNat zeroV) := ⟨_, rfl⟩
    have hPl : PA.length = ops.length := by rw [hPA, List.length_map]
    have hPj : ∀ j (hj : j < ops.length) (hj2 : j < PA.length), PA[j] = (qcj ((G k).getD ops[j].toNat zeroV)).av := fun j hj hj2 => by subst hPA; simp
    have hPc : ∀ m j, AV.cls m (PA.take j) := fun m j => by rw [hPA]; exact AV.cls_take (AV.cls_map (fun r => Ex.av_cl _ _) ops) j
    have hPw : ∀ j, AV.wid (PA.take j) 4 := fun j => by rw [hPA, ← List.map_take]; exact AV.wid_map (fun r => Ex.av_width _) _
    rw [← hPA] at c2
    clear hPA
    refine qw 4 3 36 4 (by rfl) (by rfl) ?_
    refine qr hcl (fun j : Nat => [(1, .int time), (2, .sl (row.map Val.av)), (3, .ptr n0 0), (7, .own (n0 + 1) types.length), (8, .gs (n0 + 2) ((T k).map Val.av)), (9, .int k), (10, .ptr (n0 + 3) 0), (11, .ptr (n0 + 4) 0), (12, .sl (ops.map AV.int)), (13, .int j)])
      (fun j => [.cells [.sl (ins.map Ins.av), .sl (types.map AV.int), .int out] 25, .vec ((G k).map Val.av) 40 3, .tail (T k).length 40 3,
        .cells [.int ins[k].op, .int ins[k].tgt, .int ins[k].a, .int ins[k].b, .int ins[k].c, .int ins[k].n, .str ins[k].s] 32, .cells [.int ins[k].op, .int ins[k].n, .str ins[k].s, .gs (n0 + 5) (PA.take j)] 36, .tail j 36 4])
      (fun j => j ≤ ops.length) (fun j => ops.length - j) 0 (by omega) (by simp) fun j hj => ?_
    have hpc := fun m => hPc m j
    have hpw := hPw j
    by_cases hlt2 : j < ops.length
    · have hj2 : j < PA.length := by omega
      obtain ⟨r0, r1, -⟩ := hxa ops[j] (List.getElem_mem _)
      have c3 := rconst_g ((G k).getD ops[j].toNat zeroV)
      have hgj : (G k).getD ops[j].toNat zeroV = (G k)[ops[j].toNat]'(by omega) := by rw [List.getD_eq_getElem?_getD, List.getElem?_eq_getElem (by omega)]; rfl
      have htk : PA.take (j + 1) = PA.take j ++ [(qcj ((G k).getD ops[j].toNat zeroV)).av] := by rw [List.take_succ_eq_append_getElem hj2, hPj j hlt2 hj2]
      rw [hgj] at c3 htk
      have hsz2 : (j + 1) * 56 ≤ 140737488355328 := by omega
      have hml : min j PA.length = j := by omega
      have hva : ((G k)[ops[j].toNat]'(by omega)).av = .agg [.int ((G k)[ops[j].toNat]'(by omega)).k, .int ((G k)[ops[j].toNat]'(by omega)).n, .str ((G k)[ops[j].toNat]'(by omega)).s] := rfl
      rw [hva] at c3
      repeat' (first | ((first | ((with_reducible refine qo (fun hg => ?_) (fun hg => ?_)) <;> (try simp only [hg]) <;> (try simp only [gS] at hg) <;> (try (first | simp only [eq_false hg, gI] | simp only [eq_true hg, gI]))) | (with_reducible first | refine qc ?_ | refine qb ?_ | refine qi ?_ | refine qh ?_ | refine qdv ?_ | refine anyF_end ?_) | refine acall (c3) ?_ | refine qp (c3) ?_ | refine qe ?_ | refine qj ?_ | refine qk ?_ | refine qm ?_) <;> (try simp (disch := first | omega | simp) [qg, -qq, -qs, hlt2, gl, r0, r1, hsz2, hpw, hml, -Val.av_fold, hva])) | (with_reducible refine awp_anyF (id := 12) [] 4 [.M, .M, .R, .R, .R, .M, .M, .M, .M, .M, .R, .A, .N, .W] (by kernel_rfl) (by kernel_rfl) (by simp) ?_) | ((with_reducible refine sideT ?_ ?_); first | omega | assumption | (simp; done)) | (refine qf fun K hK => ?_) | (refine qa ?_) | refine ql ?_ | ((first | refine hK _ ?_ | (clear hK K; refine hK _ ?_) | (clear hK K; clear hK K; refine hK _ ?_)); clear hK K) | refine qd ?_)
      exact ⟨j + 1, by omega, by omega, ⟨htk.symm, rfl⟩, hPc _ _, by omega⟩
    · obtain rfl : j = ops.length := by omega
      rw [List.take_of_length_le (by omega)] at hpc hpw ⊢
      have hsz3 : ((T k).length + 1) * 32 ≤ 140737488355328 := by omega
      have htw : AV.wid ((T k).map Val.av) 3 := Val.avs_wid _
      repeat' (first | ((first | ((with_reducible refine qo (fun hg => ?_) (fun hg => ?_)) <;> (try simp only [hg]) <;> (try simp only [gS] at hg) <;> (try (first | simp only [eq_false hg, gI] | simp only [eq_true hg, gI]))) | (with_reducible first | refine qc ?_ | refine qb ?_ | refine qi ?_ | refine qh ?_) | refine acall (c2) ?_ | refine qp (c2) ?_ | refine qe ?_ | refine qj ?_ | refine qk ?_ | refine qm ?_) <;> (try simp (disch := first | omega | simp) [qg, -qq, -qs, hlt2, gl, hto0, hto1, hsz3, htw, hpc])) | ((with_reducible refine sideT ?_ ?_); first | omega | assumption | (simp; done)) | (refine qf fun K hK => ?_) | (refine qa ?_) | refine ql ?_ | ((first | refine hK _ ?_ | (clear hK K; refine hK _ ?_) | (clear hK K; clear hK K; refine hK _ ?_)); clear hK K) | refine qd ?_)
      refine ⟨k + 1, by omega, by omega, ?_⟩
      rw [t1, g1]; simp [List.map_set]
  · obtain rfl : k = ins.length := by omega
    repeat' (first | ((first | ((with_reducible refine qo (fun hg => ?_) (fun hg => ?_)) <;> (try simp only [hg]) <;> (try simp only [gS] at hg) <;> (try (first | simp only [eq_false hg, gI] | simp only [eq_true hg, gI]))) | (with_reducible first | refine qc ?_ | refine qb ?_ | refine qi ?_ | refine qh ?_) | refine qe ?_ | refine qj ?_ | refine qk ?_ | refine qm ?_) <;> (try simp (disch := first | omega | simp) [qg, -qq, -qs, hlt])) | ((with_reducible refine sideT ?_ ?_); first | omega | assumption | (simp; done)) | (refine qf fun K hK => ?_) | (refine qa ?_) | refine ql ?_ | ((first | refine hK _ ?_ | (clear hK K; refine hK _ ?_) | (clear hK K; clear hK K; refine hK _ ?_)); clear hK K) | refine qd ?_)
theorem last_at : ∀ (l : List Ins) (i0 : Nat) (last : List Nat) (r i : Nat) (hi : i < l.length), l[i].tgt.toNat = r → (∀ j (h : j < l.length), i < j → l[j].tgt.toNat ≠ r) → r < last.length → (lastL l i0 last).getD r 0 = i0 + i
  | x :: l, i0, last, r, 0, _, hx, hn, hr => by
    rw [lastL]
    have keep : ∀ (l : List Ins) (k : Nat) (last : List Nat), (∀ j (h : j < l.length), l[j].tgt.toNat ≠ r) → (lastL l k last).getD r 0 = last.getD r 0 := fun l => by
      induction l with
      | nil => intro _ _ _; rfl
      | cons y l ih =>
        intro k last h
        rw [lastL, ih _ _ fun j hj => h (j + 1) (by simpa using hj), qu, if_neg (fun e => h 0 (by simp) e.1)]
    rw [keep l _ _ fun j hj => hn (j + 1) (by simpa using hj) (by omega), qu, if_pos ⟨hx, by have hx2 : x.tgt.toNat = r := hx; rw [hx2]; exact hr⟩]; rfl
  | x :: l, i0, last, r, i + 1, hi, hx, hn, hr => by
    rw [lastL, last_at l (i0 + 1) _ r i (by simpa using hi) hx (fun j hj hij => hn (j + 1) (by simpa using hj) (by omega)) (by rw [List.length_set]; exact hr)]
    omega
theorem done_some : ∀ (l : List Ins) (done : List Bool) (r : Nat), (doneL l done).getD r false = true → done.getD r false = false → ∃ i, ∃ h : i < l.length, l[i].tgt.toNat = r
  | [], done, r, h1, h2 => by rw [doneL] at h1; rw [h1] at h2; cases h2
  | x :: l, done, r, h1, h2 => by
    by_cases hx : x.tgt.toNat = r
    · exact ⟨0, by simp, hx⟩
    · rw [doneL] at h1
      obtain ⟨i, hi, h⟩ := done_some l _ r h1 (by rw [qu, if_neg (fun e => hx e.1)]; exact h2)
      exact ⟨i + 1, by simpa using hi, h⟩
set_option maxHeartbeats 4000000 in
theorem rlast_g {c : Cod} {cols : List Int} (h : CodOk c cols) : Gives Tryz.prog 44 [c.av, .int c.ins.length, .int c.out] (.int (rootC c)) := by
  have hni := h.ni
  have o0 := h.out0
  have o1 := h.out1
  have hto : ∀ i (hi : i < c.ins.length), 0 ≤ c.ins[i].tgt := fun i hi => (AllOk.at c.ins i _ hi h.all).to0
  have hroot : ∀ i (hi : i < c.ins.length), c.ins[i].tgt = c.out → (∀ j (hj : j < c.ins.length), i < j → c.ins[j].tgt ≠ c.out) → (rootC c : Int) = i := fun i hi h1 h2 => by
    unfold rootC
    rw [last_at c.ins 0 _ c.out.toNat i hi (by rw [h1]) (fun j hj hij e => h2 j hj hij (by have := hto j hj; omega)) (by simp; omega)]
    omega
  have hex : ∃ i, ∃ hi : i < c.ins.length, c.ins[i].tgt = c.out := by
    obtain ⟨i, hi, e⟩ := done_some c.ins _ _ h.out2 (by rw [List.getD_eq_getElem?_getD, List.getElem?_replicate]; split <;> rfl)
    exact ⟨i, hi, by have := hto i hi; omega⟩
  generalize (rootC c : Int) = r at *
  obtain ⟨ins, types, out⟩ := c
  simp only at *
  refine qn Tryz.func44 Tryz.ntmps44 rfl rfl (by decide) rfl (by intro n; simp) fun σ n0 hcl hft => ?_
  repeat' (first | ((first | ((with_reducible refine qo (fun hg => ?_) (fun hg => ?_)) <;> (try simp only [hg]) <;> (try simp only [gS] at hg) <;> (try (first | simp only [eq_false hg, gI] | simp only [eq_true hg, gI]))) | (with_reducible first | refine qc ?_ | refine qb ?_ | refine qi ?_ | refine qh ?_) | refine qe ?_ | refine qj ?_ | refine qk ?_ | refine qm ?_) <;> (try simp (disch := first | omega | simp) [qg, -qq, -qs])) | ((with_reducible refine sideT ?_ ?_); first | omega | assumption | (simp; done)) | (refine qf fun K hK => ?_) | (refine qa ?_) | refine ql ?_ | ((first | refine hK _ ?_ | (clear hK K; refine hK _ ?_) | (clear hK K; clear hK K; refine hK _ ?_)); clear hK K) | refine qd ?_)
  refine qr hcl (fun b : Nat × Int => [(2, .int out), (3, .ptr n0 0), (7, .int b.2)]) (fun _ => [.cells [.sl (ins.map Ins.av), .sl (types.map AV.int), .int out] 25])
    (fun b => b.1 ≤ ins.length ∧ b.2 = (b.1 : Int) - 1 ∧ ∀ j (hj : j < ins.length), b.1 ≤ j → ins[j].tgt ≠ out) (fun b => b.1) (ins.length, (ins.length : Int) - 1) ⟨by omega, rfl, fun j hj h1 => by omega⟩ (by simp) fun ⟨k, i⟩ ⟨hk, hi, hn⟩ => ?_
  dsimp only at hk hi hn
  by_cases hi0 : 0 ≤ i
  · obtain ⟨m, rfl⟩ : ∃ m : Nat, i = m := ⟨i.toNat, by omega⟩
    obtain rfl : k = m + 1 := by omega
    have hm : m < ins.length := by omega
    by_cases he : ins[m].tgt = out
    · have hr := hroot m hm he fun j hj hij => hn j hj (by omega)
      repeat' (first | ((first | ((with_reducible refine qo (fun hg => ?_) (fun hg => ?_)) <;> (try simp only [hg]) <;> (try simp only [gS] at hg) <;> (try (first | simp only [eq_false hg, gI] | simp only [eq_true hg, gI]))) | (with_reducible first | refine qc ?_ | refine qb ?_ | refine qi ?_ | refine qh ?_) | refine qe ?_ | refine qj ?_ | refine qk ?_ | refine qm ?_) <;> (try simp (disch := first | omega | simp) [qg, -qq, -qs, hm, he])) | ((with_reducible refine sideT ?_ ?_); first | omega | assumption | (simp; done)) | (refine qf fun K hK => ?_) | (refine qa ?_) | refine ql ?_ | ((first | refine hK _ ?_ | (clear hK K; refine hK _ ?_) | (clear hK K; clear hK K; refine hK _ ?_)); clear hK K) | refine qd ?_)
      all_goals first | exact absurd he (by assumption) | (rw [hr])
    · repeat' (first | ((first | ((with_reducible refine qo (fun hg => ?_) (fun hg => ?_)) <;> (try simp only [hg]) <;> (try simp only [gS] at hg) <;> (try (first | simp only [eq_false hg, gI] | simp only [eq_true hg, gI]))) | (with_reducible first | refine qc ?_ | refine qb ?_ | refine qi ?_ | refine qh ?_) | refine qe ?_ | refine qj ?_ | refine qk ?_ | refine qm ?_) <;> (try simp (disch := first | omega | simp) [qg, -qq, -qs, hm, he])) | ((with_reducible refine sideT ?_ ?_); first | omega | assumption | (simp; done)) | (refine qf fun K hK => ?_) | (refine qa ?_) | refine ql ?_ | ((first | refine hK _ ?_ | (clear hK K; refine hK _ ?_) | (clear hK K; clear hK K; refine hK _ ?_)); clear hK K) | refine qd ?_)
      all_goals first | exact absurd (by assumption) he | exact ⟨m, ⟨by omega, rfl, fun j hj hij => by
        by_cases hjm : j = m
        · subst hjm; exact he
        · exact hn j hj (by omega)⟩, by omega⟩
  · exfalso
    obtain ⟨j, hj, e⟩ := hex
    exact hn j hj (by omega) e
theorem rvalue_g {c : Cod} {cols : List Int} (h : CodOk c cols) (time : Int) {row : List Val} (hrow : qch cols row) : Gives Tryz.prog 16 [c.av, .int time, .sl (row.map Val.av)] (valC c time row).av := by
  have c1 := rresults_g h time hrow
  have c2 := rlast_g h
  obtain ⟨hro, hval⟩ := h.val_res time row
  have hl : (resI time row c.ins c.types.length).length = c.ins.length := by unfold resI; rw [resN_len, qx]; simp
  have hg : valC c time row = (resI time row c.ins c.types.length).getD (rootC c) zeroV := hval
  clear hval
  generalize valC c time row = V at *
  generalize resI time row c.ins c.types.length = RS at *
  generalize rootC c = ro at *
  have hro2 : ro < RS.length := by omega
  have hg2 : V = RS[ro] := by rw [hg, List.getD_eq_getElem?_getD, List.getElem?_eq_getElem hro2]; rfl
  rw [hg2]
  obtain ⟨ins, types, out⟩ := c
  simp only at *
  refine qn Tryz.func16 Tryz.ntmps16 rfl rfl (by decide) rfl (by intro n; simp) fun σ n0 hcl hft => ?_
  have hrn : ¬ (ro : Int) < 0 := by omega
  repeat' (first | ((first | ((with_reducible refine qo (fun hg => ?_) (fun hg => ?_)) <;> (try simp only [hg]) <;> (try simp only [gS] at hg) <;> (try (first | simp only [eq_false hg, gI] | simp only [eq_true hg, gI]))) | (with_reducible first | refine qc ?_ | refine qb ?_ | refine qi ?_ | refine qh ?_) | refine acall (c1) ?_ | refine qp (c1) ?_ | refine acall (c2) ?_ | refine qp (c2) ?_ | refine qe ?_ | refine qj ?_ | refine qk ?_ | refine qm ?_) <;> (try simp (disch := first | omega | simp) [qg, -qq, -qs, hro2, hrn])) | ((with_reducible refine sideT ?_ ?_); first | omega | assumption | (simp; done)) | (refine qf fun K hK => ?_) | (refine qa ?_) | refine ql ?_ | ((first | refine hK _ ?_ | (clear hK K; refine hK _ ?_) | (clear hK K; clear hK K; refine hK _ ?_)); clear hK K) | refine qd ?_)
  all_goals exact absurd (by assumption) hrn
end Go.Proofs.YtgpcpmfdklpifaaGreatDoor

/- Walk of the law CodeSafe, given the examples (head). -/
namespace Go.Proofs.YtgpcpmfdklpifaaGreatDoor
open Go.RowKit Go.Lib
theorem sound_rightV {v : Val} (h : qbf v) : qcx v = true := by
  rw [rightV_eq]
  unfold qbf okV at h
  obtain ⟨h1, h2⟩ := h
  by_cases h0 : v.k = 0
  · rw [if_pos h0] at h1 ⊢; exact h1
  · rw [if_neg h0] at h1 ⊢
    by_cases h3 : v.k = 1
    · rw [if_pos h3] at h1 ⊢
      simp only [Bool.and_eq_true, decide_eq_true_eq] at h1 ⊢
      exact ⟨h1.1, h2⟩
    · rw [if_neg h3] at h1 ⊢; exact h1
theorem suits_fit {c : Cod} {cols : List Int} {row : List Val} (h : suitsB c cols row = true) : qch cols row := by
  obtain ⟨-, -, -, h4, h5⟩ := suits_ok h
  unfold rowOk at h5
  simp only [Bool.and_eq_true, List.all_eq_true] at h5
  rw [← h4]
  exact qch.of fun v hv => rightV_sound (h5.2 v hv)
set_option maxHeartbeats 8000000 in
theorem codeSafe_g (hsm : Gives Tryz.prog 7 [] (.bool true)) (c : Cod) (cols : List Int) (time : Int) (row : List Val) : Gives Tryz.prog 3 [c.av, .sl (cols.map AV.int), .int time, .sl (row.map Val.av)] (.bool true) := by
  have c1 := suits_g c cols row
  cases hb : suitsB c cols row
  · rw [hb] at c1
    obtain ⟨ins, types, out⟩ := c
    refine qn Tryz.func3 Tryz.ntmps3 rfl rfl (by decide) rfl (by intro n; simp) fun σ n0 hcl hft => ?_
    repeat' (first | ((first | ((with_reducible refine qo (fun hg => ?_) (fun hg => ?_)) <;> (try simp only [hg]) <;> (try simp only [gS] at hg) <;> (try (first | simp only [eq_false hg, gI] | simp only [eq_true hg, gI]))) | (with_reducible first | refine qc ?_ | refine qb ?_ | refine qi ?_ | refine qh ?_) | refine acall (hsm) ?_ | refine qp (hsm) ?_ | refine acall (c1) ?_ | refine qp (c1) ?_ | refine qe ?_ | refine qj ?_ | refine qk ?_ | refine qm ?_) <;> (try simp (disch := first | omega | simp) [qg, -qq, -qs])) | ((with_reducible refine sideT ?_ ?_); first | omega | assumption | (simp; done)) | (refine qf fun K hK => ?_) | (refine qa ?_) | refine ql ?_ | ((first | refine hK _ ?_ | (clear hK K; refine hK _ ?_) | (clear hK K; clear hK K; refine hK _ ?_)); clear hK K) | refine qd ?_)
  rw [hb] at c1
  have h := (suits_ok hb).1
  have hrow := suits_fit hb
  have c2 := rresults_g h time hrow
  obtain ⟨D, hD⟩ : ∃ D : Nat → List Bool, D = fun k => doneL (c.ins.take k) (List.replicate c.types.length false) := ⟨_, rfl⟩
  have D0 : D 0 = List.replicate c.types.length false := by rw [hD]; rfl
  have D1 : ∀ k (hk : k < c.ins.length), D (k + 1) = (D k).set c.ins[k].tgt.toNat true := fun k hk => by
    rw [hD]; dsimp only
    rw [List.take_succ_eq_append_getElem hk]
    have : ∀ (l : List Ins) (x : Ins) (d : List Bool), doneL (l ++ [x]) d = (doneL l d).set x.tgt.toNat true := fun l x => by
      induction l with
      | nil => intro d; rfl
      | cons y l ih => intro d; rw [List.cons_append, doneL, ih, doneL]
    exact this _ _ _
  have DL : ∀ k, (D k).length = c.types.length := fun k => by rw [hD]; dsimp only; rw [doneL_len]; simp
  have DE : (D c.ins.length).getD c.out.toNat false = true := by rw [hD]; dsimp only; rw [List.take_length]; exact h.out2
  have hx : ∀ k (hk : k < c.ins.length), InsOk cols c.types (D k) c.ins[k] := fun k hk => by rw [hD]; exact AllOk.at c.ins k _ hk h.all
  obtain ⟨RS, hRS⟩ : ∃ RS, RS = resI time row c.ins c.types.length := ⟨_, rfl⟩
  have hl : RS.length = c.ins.length := by rw [hRS]; unfold resI; rw [resN_len, qx]; simp
  have hpre : ∀ (l : List Nd) (acc : List Val), ∃ r, resN time row l acc = acc ++ r := fun l => by
    induction l with
    | nil => intro acc; exact ⟨[], by simp [resN]⟩
    | cons d l ih =>
      intro acc
      obtain ⟨r, hr⟩ := ih (acc ++ [opI time row d.x (d.src.map fun i => acc.getD i zeroV)])
      exact ⟨_, by rw [resN, hr, List.append_assoc]⟩
  have hR1 : ∀ k (hk : k < c.ins.length) (hk2 : k < RS.length), RS[k].k = c.types.getD c.ins[k].tgt.toNat 0 ∧ qcx RS[k] = true := fun k hk hk2 => by
    have h1 := resI_snoc h time row hk
    have hlk : (resI time row (c.ins.take k) c.types.length).length = k := by unfold resI; rw [resN_len, qx]; simp; omega
    have hro := qdc.res hrow (AllOk.regs hrow time _ (AllOk.take c.ins k _ h.all) (regsOk_start c.types)) (hD ▸ hx k hk) time
    have h2 : RS[k] = opI time row c.ins[k] (argsI (regsI time row (c.ins.take k) (List.replicate c.types.length zeroV)) c.ins[k]) := by
      have h3 : ∀ m, k < m → m ≤ c.ins.length → (resI time row (c.ins.take m) c.types.length)[k]? = some (opI time row c.ins[k] (argsI (regsI time row (c.ins.take k) (List.replicate c.types.length zeroV)) c.ins[k])) := fun m => by
        induction m with
        | zero => intro h; omega
        | succ m ih =>
          intro h4 h5
          by_cases h6 : m = k
          · subst h6
            rw [h1, List.getElem?_append_right (by omega), hlk]; simp
          · rw [resI_snoc h time row (show m < c.ins.length by omega), List.getElem?_append_left (by unfold resI; rw [resN_len, qx]; simp; omega)]
            exact ih (by omega) (by omega)
      have h4 := h3 c.ins.length hk (Nat.le_refl _)
      rw [List.take_length, ← hRS, List.getElem?_eq_getElem hk2] at h4
      exact Option.some.inj h4
    rw [h2]
    exact ⟨hro.1, sound_rightV hro.2⟩
  have o0 := h.out0
  have o1 := h.out1
  have hni := h.ni
  have hnt := h.nt
  rw [← hRS] at c2
  clear hRS hD hpre h hb hrow
  obtain ⟨ins, types, out⟩ := c
  simp only at *
  have hsz : 1 * types.length ≤ 281474976710656 := by omega
  refine qn Tryz.func3 Tryz.ntmps3 rfl rfl (by decide) rfl (by intro n; simp) fun σ n0 hcl hft => ?_
  repeat' (first | ((first | ((with_reducible refine qo (fun hg => ?_) (fun hg => ?_)) <;> (try simp only [hg]) <;> (try simp only [gS] at hg) <;> (try (first | simp only [eq_false hg, gI] | simp only [eq_true hg, gI]))) | (with_reducible first | refine qc ?_ | refine qb ?_ | refine qi ?_ | refine qh ?_) | refine acall (hsm) ?_ | refine qp (hsm) ?_ | refine acall (c1) ?_ | refine qp (c1) ?_ | refine acall (c2) ?_ | refine qp (c2) ?_ | refine qe ?_ | refine qj ?_ | refine qk ?_ | refine qm ?_) <;> (try simp (disch := first | omega | simp) [qg, -qq, -qs, hsz])) | ((with_reducible refine sideT ?_ ?_); first | omega | assumption | (simp; done)) | (refine qf fun K hK => ?_) | (refine qa ?_) | refine ql ?_ | ((first | refine hK _ ?_ | (clear hK K; refine hK _ ?_) | (clear hK K; clear hK K; refine hK _ ?_)); clear hK K) | refine qd ?_)
  refine qr hcl (fun k : Nat => [(1, .sl (cols.map AV.int)), (2, .int time), (3, .sl (row.map Val.av)), (4, .ptr n0 0), (9, .bool true), (10, .sl (RS.map Val.av)), (11, .own (n0 + 1) types.length), (12, .int k)])
    (fun k => [.cells [.sl (ins.map Ins.av), .sl (types.map AV.int), .int out] 25, .vec ((D k).map AV.bool) 4 1])
    (fun k => k ≤ ins.length) (fun k => ins.length - k) 0 (by omega) (by simp [D0]) fun k hk => ?_
  have dl := DL k
  by_cases hlt : k < ins.length
  · have hxk := hx k hlt
    have hrs : k < RS.length := by omega
    obtain ⟨r1, r2⟩ := hR1 k hlt hrs
    have c3 := ops_g ins[k]
    have d1 := D1 k hlt
    have to0 := hxk.to0
    have to1 : ins[k].tgt < types.length := hxk.to1
    have hxa := hxk.args
    have hty : tyI cols types ins[k] = some (types[ins[k].tgt.toNat]'(by omega)) := by
      rw [hxk.typ, List.getD_eq_getElem?_getD, List.getElem?_eq_getElem (by omega)]; rfl
    have hgt : types.getD ins[k].tgt.toNat 0 = types[ins[k].tgt.toNat]'(by omega) := by rw [List.getD_eq_getElem?_getD, List.getElem?_eq_getElem (by omega)]; rfl
    rw [hgt] at r1
    have hol := ops_le3 ins[k]
    have c4 : Gives Tryz.prog 11 [.sl [], .sl (cols.map AV.int), .sl (types.map AV.int), .agg [.int ins[k].op, .int ins[k].n, .str ins[k].s, .sl ((opsP ins[k]).map fun r => (qba r).av)]] (.tup [.int (types[ins[k].tgt.toNat]'(by omega)), .bool true]) := by
      have hpx : parts (exI ins[k]) ≤ 1000000 := by
        have h1 : ∀ l : List Int, qbt (l.map qba) = l.length := fun l => by
          induction l with
          | nil => rfl
          | cons r l ih => rw [List.map_cons, qbt, ih]; unfold qba; rw [parts, qbt, List.length_cons]; omega
        unfold exI; rw [parts, h1]; omega
      have h1 := rtype_g [] cols types (exI ins[k]) hpx (by simp)
      have h2 : typeP [] cols types (exI ins[k]) = some (types[ins[k].tgt.toNat]'(by omega)) := hty
      rw [h2] at h1
      unfold exI at h1
      rw [Ex.av_mk, List.map_map] at h1
      exact h1
    have c5 := vright_g RS[k]
    rw [r2] at c5
    generalize opsP ins[k] = ops at *
    have hex : ∀ r : Int, (AV.agg [.int 4, .int r, .str ByteArray.empty, .sl []]) = (qba r).av := fun r => by unfold qba; rw [Ex.av_mk]; rfl
    repeat' (first | ((first | ((with_reducible refine qo (fun hg => ?_) (fun hg => ?_)) <;> (try simp only [hg]) <;> (try simp only [gS] at hg) <;> (try (first | simp only [eq_false hg, gI] | simp only [eq_true hg, gI]))) | (with_reducible first | refine qc ?_ | refine qb ?_ | refine qi ?_ | refine qh ?_) | refine acall (c3) ?_ | refine qp (c3) ?_ | refine qe ?_ | refine qj ?_ | refine qk ?_ | refine qm ?_) <;> (try simp (disch := first | omega | simp) [qg, -qq, -qs, hlt])) | ((with_reducible refine sideT ?_ ?_); first | omega | assumption | (simp; done)) | (refine qf fun K hK => ?_) | (refine qa ?_) | refine ql ?_ | ((first | refine hK _ ?_ | (clear hK K; refine hK _ ?_) | (clear hK K; clear hK K; refine hK _ ?_)); clear hK K) | refine qd ?_)
    refine qw 3 3 36 4 (by rfl) (by rfl) ?_
    refine qr hcl (fun j : Nat => [(1, .sl (cols.map AV.int)), (2, .int time), (3, .sl (row.map Val.av)), (4, .ptr n0 0), (9, .bool true), (10, .sl (RS.map Val.av)), (11, .own (n0 + 1) types.length), (12, .int k), (13, .ptr (n0 + 2) 0), (14, .sl (ops.map AV.int)), (15, .ptr (n0 + 3) 0), (16, .int j)])
      (fun j => [.cells [.sl (ins.map Ins.av), .sl (types.map AV.int), .int out] 25, .vec ((D k).map AV.bool) 4 1,
        .cells [.int ins[k].op, .int ins[k].tgt, .int ins[k].a, .int ins[k].b, .int ins[k].c, .int ins[k].n, .str ins[k].s] 32, .cells [.int ins[k].op, .int ins[k].n, .str ins[k].s, .gs (n0 + 4) ((ops.take j).map fun r => (qba r).av)] 36, .tail j 36 4])
      (fun j => j ≤ ops.length) (fun j => ops.length - j) 0 (by omega) (by simp) fun j hj => ?_
    by_cases hlt2 : j < ops.length
    · obtain ⟨q0, q1, q2⟩ := hxa ops[j] (List.getElem_mem _)
      have htk : (ops.map fun r => (qba r).av).take (j + 1) = (ops.map fun r => (qba r).av).take j ++ [(qba ops[j]).av] := by
        rw [List.take_succ_eq_append_getElem (by simpa using hlt2), List.getElem_map]
      have hsz2 : (j + 1) * 56 ≤ 140737488355328 := by omega
      have q3 : ¬ ops[j] < 0 := by omega
      have q4 : ¬ (types.length : Int) ≤ ops[j] := by omega
      have q5 : (D k)[ops[j].toNat]'(by omega) = true := by
        rw [List.getD_eq_getElem?_getD, List.getElem?_eq_getElem (by omega)] at q2; exact q2
      repeat' (first | ((first | ((with_reducible refine qo (fun hg => ?_) (fun hg => ?_)) <;> (try simp only [hg]) <;> (try simp only [gS] at hg) <;> (try (first | simp only [eq_false hg, gI] | simp only [eq_true hg, gI]))) | (with_reducible first | refine qc ?_ | refine qb ?_ | refine qi ?_ | refine qh ?_) | refine qe ?_ | refine qj ?_ | refine qk ?_ | refine qm ?_) <;> (try simp (disch := first | omega | simp) [qg, -qq, -qs, hlt2, hex, hsz2, q0, q1, q3, q4, q5, dl])) | (with_reducible refine qed (id := 19) false (by kernel_rfl) (by kernel_rfl) ?_) | ((with_reducible refine sideT ?_ ?_); first | omega | assumption | (simp; done)) | (refine qf fun K hK => ?_) | (refine qa ?_) | refine ql ?_ | ((first | refine hK _ ?_ | (clear hK K; refine hK _ ?_) | (clear hK K; clear hK K; refine hK _ ?_)); clear hK K) | refine qd ?_)
      exact ⟨j + 1, by omega, by omega, ⟨htk.symm, rfl⟩, by omega⟩
    · obtain rfl : j = ops.length := by omega
      rw [List.take_length]
      have q3 : ¬ ins[k].tgt < 0 := by omega
      have q4 : ¬ (types.length : Int) ≤ ins[k].tgt := by omega
      repeat' (first | ((first | ((with_reducible refine qo (fun hg => ?_) (fun hg => ?_)) <;> (try simp only [hg]) <;> (try simp only [gS] at hg) <;> (try (first | simp only [eq_false hg, gI] | simp only [eq_true hg, gI]))) | (with_reducible first | refine qc ?_ | refine qb ?_ | refine qi ?_ | refine qh ?_) | refine acall (c4) ?_ | refine qp (c4) ?_ | refine acall (c5) ?_ | refine qp (c5) ?_ | refine qe ?_ | refine qj ?_ | refine qk ?_ | refine qm ?_) <;> (try simp (disch := first | omega | simp) [qg, -qq, -qs, hlt2, q3, q4, to0, to1, r1, dl, hrs])) | ((with_reducible refine sideT ?_ ?_); first | omega | assumption | (simp; done)) | (refine qf fun K hK => ?_) | (refine qa ?_) | refine ql ?_ | ((first | refine hK _ ?_ | (clear hK K; refine hK _ ?_) | (clear hK K; clear hK K; refine hK _ ?_)); clear hK K) | refine qd ?_)
      exact ⟨k + 1, by omega, by omega, by rw [d1, List.map_set], by omega⟩
  · obtain rfl : k = ins.length := by omega
    repeat' (first | ((first | ((with_reducible refine qo (fun hg => ?_) (fun hg => ?_)) <;> (try simp only [hg]) <;> (try simp only [gS] at hg) <;> (try (first | simp only [eq_false hg, gI] | simp only [eq_true hg, gI]))) | (with_reducible first | refine qc ?_ | refine qb ?_ | refine qi ?_ | refine qh ?_) | refine qe ?_ | refine qj ?_ | refine qk ?_ | refine qm ?_) <;> (try simp (disch := first | omega | simp) [qg, -qq, -qs, hlt, o0, o1, dl])) | ((with_reducible refine sideT ?_ ?_); first | omega | assumption | (simp; done)) | (refine qf fun K hK => ?_) | (refine qa ?_) | refine ql ?_ | ((first | refine hK _ ?_ | (clear hK K; refine hK _ ?_) | (clear hK K; clear hK K; refine hK _ ?_)); clear hK K) | refine qd ?_)
    rw [List.getD_eq_getElem?_getD, List.getElem?_eq_getElem (by omega)] at DE
    have DE2 : (D ins.length)[out.toNat]'(by omega) = true := DE
    rw [← DE2]
    congr 1
    (repeat' split) <;> omega
end Go.Proofs.YtgpcpmfdklpifaaGreatDoor

/- Lists of bytes as strings. -/
namespace Go.Proofs.YtgpcpmfdklpifaaGreatDoor
open Go.RowKit Go.Lib
def qbc (l : List UInt8) : ByteArray := ⟨l.toArray⟩
@[simp] theorem bytesA_data (l : List UInt8) : (qbc l).data.toList = l := rfl
@[simp] theorem bytesA_list (l : List UInt8) : (qbc l).toList = l := by rw [ByteArray.toList_eq]; rfl
theorem qdf (s : ByteArray) : qbc s.data.toList = s := by obtain ⟨⟨l⟩⟩ := s; rfl
end Go.Proofs.YtgpcpmfdklpifaaGreatDoor

/- Appends of strings to growing slices of bytes; calls that change two blocks. -/
namespace Go.Proofs.YtgpcpmfdklpifaaGreatDoor
open Go.RowKit Go.Lib
section
variable {P : Program} {s : AS}
theorem acallS2 {f : FuncId} {args : List AV} {K : AV → AS → Prop} {x : AV} (r r' : Nat) (ab ab' : AB) (h : AC P f args s.st fun y τ => y = x ∧ τ = upd (upd s.st r ab) r' ab') (hr : s.st r ≠ .unborn) (hr' : s.st r' ≠ .unborn) (hK : K x ((s.set r ab).set r' ab')) : ACall P f args s K := by
  have h1 : r < s.nx := Nat.lt_of_not_le fun hle => hr (s.fin r hle)
  have h2 : r' < s.nx := Nat.lt_of_not_le fun hle => hr' (s.fin r' hle)
  have hn : (s.set r ab).nx = s.nx := by unfold AS.set AS.nx; split <;> simp
  obtain ⟨e1, e2, e3⟩ := s.set_nx r ab
  obtain ⟨g1, g2, g3⟩ := (s.set r ab).set_nx r' ab'
  exact ⟨x, (s.set r ab).set r' ab', by rw [AS.set_st _ _ _ (by rw [hn]; exact h2), AS.set_st _ _ _ h1]; exact h, ⟨g3.trans e3, g1.trans e1, g2.trans e2⟩, hK⟩
theorem acT_of_awp {f : FuncId} {fn : Func} {c : Code} {rs : List ResultVar} {args : List AV} {x : AV} {N : Nat} {σ τ : Nat → AB} (hf : P.funcs[f]? = some fn) (hN : fn.ntmps = N) (hb : fn.body = some c) (hr : fn.results = rs.toArray) (hlen : rs.length ≤ 4) (ha : Nat.ble args.length N = true) (hx : ∀ n, x.cl n) (hτ : ∀ n, Fin σ n → (∀ r, (σ r).cl n) → Fin τ n ∧ ∀ r, (τ r).cl n)
    (h : ∀ n0, Fin σ n0 → (∀ r, (σ r).cl n0) → AV.fitss args → awp P c (fun e s' => (e = .normal ∨ e = .ret) ∧ s'.n0 = n0 ∧ s'.σ = τ ∧ ares P s' rs x) { n := N, t := atEntry args 0, σ := σ, n0 := n0, L := [] }) : AC P f args σ fun y τ' => y = x ∧ τ' = τ := by
  subst hN
  refine ac_of_awp hf hb hr hlen (Nat.le_of_ble_eq_true ha) fun n0 hfin hcl hft => ?_
  obtain ⟨h5, h6⟩ := hτ n0 hfin hcl
  refine awp_mono (h n0 hfin hcl hft) fun e s' ⟨h1, h2, h3, h4⟩ => ⟨h1, h2, x, h4, hx n0, fun k _ => by rw [h3]; exact h6 k, rfl, ?_⟩
  funext k
  unfold Proofs.YtgpcpmfdklpifaaGreatDoor.cut
  rw [h3]
  split
  · rfl
  · exact (h5 k (by omega)).symm
end
end Go.Proofs.YtgpcpmfdklpifaaGreatDoor
