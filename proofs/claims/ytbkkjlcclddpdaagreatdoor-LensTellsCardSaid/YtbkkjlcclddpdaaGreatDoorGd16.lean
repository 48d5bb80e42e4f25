/- strings.Builder: its methods, over the abstract store: a block of two cells (its own address or nil, and a growing slice of bytes). -/
import Derived.Test.YtbkkjlcclddpdaaGreatDoorGdShelf
import Derived.Test.YtbkkjlcclddpdaaGreatDoorGd8
import Derived.Test.YtbkkjlcclddpdaaGreatDoorGd15
set_option linter.unusedSimpArgs false
set_option linter.unusedVariables false
namespace Go.Proofs.YtbkkjlcclddpdaaGreatDoor
open Go.RowKit Go.Lib
set_option maxHeartbeats 1000000 in
set_option maxRecDepth 100000 in
theorem copyCheck_used (b : Nat) (w : World) (h0 : w.cell? ⟨b, 0, none⟩ = some (.pointer (some ⟨b, 0, none⟩))) :
    Calls Tryz.prog 71 #[.pointer (some ⟨b, 0, none⟩)] w fun e w' => e = .returned (.tuple #[]) ∧ w' = w := by
  obtain ⟨j, hj, _⟩ := Option.map_eq_some_iff.1 (show (Tryz.prog.info? 61).map (·.size) = some 2 by kernel_rfl)
  go_enter Tryz.func71, Tryz.ntmps71
  go_wp2
  rw [Lib.run_neq_ptr_same w _ Tryz.underlying58 hj]
  go_wp2
  go_end0
  exact ⟨rfl, rfl⟩
set_option maxHeartbeats 1000000 in
set_option maxRecDepth 100000 in
theorem copyCheck_fresh (b : Nat) (w : World) (h0 : w.cell? ⟨b, 0, none⟩ = some (.pointer none)) (hsh : w.shape? b = some (61, 2)) (hfz : w.frozen? ⟨b, 0, none⟩ = false) :
    Calls Tryz.prog 71 #[.pointer (some ⟨b, 0, none⟩)] w fun e w' => e = .returned (.tuple #[]) ∧ w' = w.setCell ⟨b, 0, none⟩ (.pointer (some ⟨b, 0, none⟩)) := by
  obtain ⟨j, hj, hjs⟩ := Option.map_eq_some_iff.1 (show (Tryz.prog.info? 61).map (·.size) = some 2 by kernel_rfl)
  go_enter Tryz.func71, Tryz.ntmps71
  go_wp2
  rw [Lib.run_to_unsafe w ⟨b, 0, none⟩ Tryz.underlying58 Tryz.underlying137 hj (by rw [hjs]; decide) hsh (Nat.zero_lt_succ 1)]
  simp only [Result.andThen]
  rw [Oper.upon_value]
  go_wp2
  rw [run_callFunc_extern Tryz.func124 (by kernel_rfl) (by kernel_rfl) (by kernel_rfl) (e := Extern.AbiNoEscape.same) (by kernel_rfl)]
  rw [Lib.run_noEscape]
  simp only [Result.andThen]
  rw [Oper.upon_value]
  go_wp2
  rw [Lib.run_from_unsafe w ⟨b, 0, none⟩ Tryz.underlying137 Tryz.underlying58 hj hsh (by kernel_rfl)]
  simp only [Result.andThen]
  rw [Oper.upon_value]
  go_wp2
  go_end0
  exact ⟨rfl, rfl⟩
theorem setCell0 {w : World} {b : Nat} {p q v : Value} {T : TypeId} (hb : w.heap[b]? = some (.cells #[p, v] T (0, 0))) : (w.setCell ⟨b, 0, none⟩ q).heap[b]? = some (.cells #[q, v] T (0, 0)) ∧ w.grownBy (w.setCell ⟨b, 0, none⟩ q) (some b) := by
  refine ⟨?_, ⟨rfl, rfl, rfl, by simp [World.setCell], fun k hk hn => ?_⟩⟩
  · unfold World.setCell
    simp [Array.getElem?_modify, hb]
  · unfold World.setCell
    simp only [Array.getElem?_modify]
    rw [if_neg fun e => hn (by rw [e])]
theorem copyCheck_g {σ : Nat → AB} {r : Nat} {p y : AV} (hσ : σ r = .cells [p, y] 61) (hp : p = .v (.pointer none) ∨ p = .ptr r 0) :
    AC Tryz.prog 71 [.ptr r 0] σ fun z τ => z = .tup [] ∧ τ = upd σ r (.cells [.ptr r 0, y] 61) := by
  intro X vals nx hS hX hfin hargs
  subst hX
  obtain ⟨v0, vs0, rfl, h0, h1⟩ := hargs
  have h1' : vs0 = [] := h1
  subst h1'
  change RC X (.ptr r 0) [v0] at h0
  rw [RC] at h0
  obtain ⟨-, b, hm, hv⟩ := h0
  have hv' : v0 = .pointer (some ⟨b, 0, none⟩) := by simpa using hv
  subst hv'
  have hB := hS.block r
  rw [hσ] at hB
  obtain ⟨b', vs, hm', hh, hr⟩ := hB
  rw [hm] at hm'; cases hm'
  rw [R1s] at hr
  obtain ⟨pv, vs1, rfl, hp1, hrp, hr⟩ := hr
  have hr0 := hr
  rw [R1s] at hr
  obtain ⟨yv, vs2, rfl, hy1, hry, hr⟩ := hr
  rw [R1s] at hr
  subst hr
  have hbr : X.blk r = some b := by unfold St.blk; rw [hσ, hm]; rfl
  have key : ∀ w', w'.heap[b]? = some (.cells #[.pointer (some ⟨b, 0, none⟩), yv] 61 (0, 0)) → X.w.grownBy w' (some b) →
      ∃ Y v x, Ending.returned (.tuple #[]) = .returned v ∧ Y.w = w' ∧ (x = .tup [] ∧ Y.σ = upd X.σ r (.cells [.ptr r 0, y] 61)) ∧ SR Y ∧ Fr X Y ∧ RR Y x v := fun w' hb hg => by
    have hT : Turns X w' X.S r (.cells [.ptr r 0, y] 61) (.pointer (some ⟨b, 0, none⟩)) := by
      refine ⟨by rw [hbr]; exact hg, fun b2 h => .inl ?_, ?_, fun b2 o h5 h6 => ?_, fun _ _ h => h, fun b2 o h => .inl h, fun b2 o h5 h6 => ?_, fun b2 h => ?_⟩
      · change some b = some b2 at h; rw [hbr, h]
      · unfold Ver
        rw [hσ]
        exact ⟨⟨[.ptr r 0, y], by simp [St.turn, upd]⟩, by simp [St.turn, upd, hm]⟩
      · obtain ⟨n, e, s, h7, -⟩ := hS.apart r b2 o h5 h6
        rw [hσ] at h7; cases h7
      · change some b = some b2 at h5
        obtain ⟨n, e, s, h7, -⟩ := hS.apart r b2 o (by rw [hbr, h5]) h6
        rw [hσ] at h7; cases h7
      · change some b = some b2 at h
        cases h
        exact (Array.getElem?_eq_some_iff.1 hb).1
    have hF := qfn hS hT
    refine ⟨X.turn w' X.S r (.cells [.ptr r 0, y] 61) (.pointer (some ⟨b, 0, none⟩)), _, .tup [], rfl, rfl, ⟨rfl, rfl⟩, turn_sr hS hT ?_, hF, [], rfl, rfl⟩
    refine ⟨b, [_, yv], rfl, hb, ?_⟩
    rw [R1s]
    refine ⟨_, _, rfl, rfl, ?_, R1s.fr hF _ _ hr0⟩
    rw [RC]
    exact ⟨⟨[.ptr r 0, y], 61, by simp [St.turn, upd]⟩, b, by simp [St.turn, upd], rfl⟩
  rcases hp with rfl | rfl
  · rw [RC] at hrp
    obtain rfl : pv = .pointer none := by simpa using hrp
    refine (copyCheck_fresh b X.w (by rw [Lib.cell_of_heap hh]; rfl) (by simp [World.shape?, hh]) (Lib.frozen_of_heap hh 0)).mono ?_
    rintro e w' ⟨rfl, rfl⟩
    obtain ⟨h5, h6⟩ := setCell0 (q := .pointer (some ⟨b, 0, none⟩)) hh
    exact key _ h5 h6
  · rw [RC] at hrp
    obtain ⟨-, b2, hm2, hp2⟩ := hrp
    rw [hm] at hm2; cases hm2
    obtain rfl : pv = .pointer (some ⟨b, 0, none⟩) := by simpa using hp2
    refine (copyCheck_used b X.w (by rw [Lib.cell_of_heap hh]; rfl)).mono ?_
    rintro e w' ⟨rfl, rfl⟩
    exact key _ hh ⟨rfl, rfl, rfl, Nat.le_refl _, fun _ _ _ => rfl⟩
theorem string_g {σ : Nat → AB} {r r' : Nat} {p : AV} (l : List UInt8) (hσ : σ r = .cells [p, .gs r' (l.map AV.byte)] 61) (hσ' : σ r' = .tail l.length 5 1) :
    GivesAt Tryz.prog 38 [.ptr r 0] σ (.v (.string ⟨l.toArray⟩)) := by
  intro X vals nx hS hX hfin hargs
  subst hX
  obtain ⟨v0, vs0, rfl, h0, h1⟩ := hargs
  have h1' : vs0 = [] := h1
  subst h1'
  change RC X (.ptr r 0) [v0] at h0
  rw [RC] at h0
  obtain ⟨-, b, hm, hv⟩ := h0
  have hv' : v0 = .pointer (some ⟨b, 0, none⟩) := by simpa using hv
  subst hv'
  have hB := hS.block r
  rw [hσ] at hB
  obtain ⟨b', vs, hm', hh, hr⟩ := hB
  rw [hm] at hm'; cases hm'
  rw [R1s] at hr
  obtain ⟨pv, vs1, rfl, hp1, hrp, hr⟩ := hr
  rw [R1s] at hr
  obtain ⟨yv, vs2, rfl, hy1, hry, hr⟩ := hr
  rw [R1s] at hr
  subst hr
  rw [RC] at hry
  obtain ⟨A, cap, c, off, hy, hl1, hl2, hl3, hRM, -, hall⟩ := hry
  have hyv : yv = .slice A l.length cap := by simpa using hy
  have hvm : yv = X.μ r' := by rw [hyv]; simpa using (hall _ _ _ hσ').2 (by simp)
  have hB' := hS.block r'
  rw [hσ'] at hB'
  obtain ⟨⟨xs, hown⟩, hown0⟩ := hB'
  have hblk : X.blk r' = (X.μ r').ownBlock := by unfold St.blk; rw [hσ']; rfl
  have hxs : xs = Lib.byteCells l := by
    have hlx : xs.length = l.length := by simpa using hown.1
    obtain ⟨olds, h12, h13⟩ := hRM.row
    have ho : olds = Lib.byteCells l := by
      have : ∀ (l : List UInt8) (olds : List Value), RCs X (l.map AV.byte) olds → olds = Lib.byteCells l := fun l => by
        induction l with
        | nil => intro olds h; exact h
        | cons a l ih =>
          intro olds h
          obtain ⟨c1, c2, rfl, h2, h3⟩ := h
          rw [RC] at h2
          rw [h2, ih _ h3]; rfl
      exact this l olds h12
    subst ho
    by_cases hl00 : l.length = 0
    · have hln : l = [] := List.eq_nil_of_length_eq_zero hl00
      subst hln
      exact List.eq_nil_of_length_eq_zero hlx
    · obtain rfl := hl3 (by simpa using (by omega : 0 < l.length))
      have ho : (X.μ r').ownBlock = some c := by
        rw [← hvm, hyv]
        have hoff : off = 0 := by
          rcases hown.2 with ⟨h16, -⟩ | ⟨g2, cap3, cur2, fz2, h16, -⟩
          · rw [← hvm, hyv] at h16; cases h16
          · rw [← hvm, hyv] at h16; cases h16; rfl
        rw [hoff]; rfl
      have hoff : off = 0 := by
        rcases hown.2 with ⟨h16, -⟩ | ⟨g2, cap3, cur2, fz2, h16, -⟩
        · rw [← hvm, hyv] at h16; cases h16
        · rw [← hvm, hyv] at h16; cases h16; rfl
      refine List.ext_getElem? fun j => ?_
      by_cases hj : j < l.length
      · have hj3 : j < (Lib.byteCells l).length := by rw [Lib.byteCells_length]; exact hj
        have h14 := h13.at.get j (Lib.byteCells l)[j] (List.getElem?_eq_getElem hj3)
        have hj2 : j < xs.length := by omega
        have h15 := hown.cells ho j xs[j] (List.getElem?_eq_getElem hj2)
        rw [hoff] at h14
        rw [qbf] at h15
        rw [h14] at h15
        rw [List.getElem?_eq_getElem hj2, List.getElem?_eq_getElem hj3]
        exact h15.symm
      · rw [List.getElem?_eq_none (by rw [hlx]; omega), List.getElem?_eq_none (by rw [Lib.byteCells_length]; omega)]
  subst hxs
  refine (string_c b pv yv l X.w hh (by rw [hvm]; exact hown) fun h => ?_).mono ?_
  · obtain ⟨ys, hys⟩ := hown0 h
    have : ys = [] := List.eq_nil_of_length_eq_zero (by have := hys.1; simpa using this)
    rw [hvm, ← this]; exact hys
  rintro e w' ⟨rfl, hg, hk, hO, hO0⟩
  rw [hvm] at hg hk hO hO0
  have hT : Turns X w' X.S r' (.tail l.length 5 1) (X.μ r') := by
    refine ⟨by rw [hblk]; exact hg, fun b2 h => .inl (hblk.trans h), ?_, fun b2 o h5 h6 => hk b2 o (hblk.symm.trans h5), fun _ _ h => h, fun b2 o h => .inl h, fun b2 o h5 h6 => ?_, fun b2 h => ?_⟩
    · unfold Ver
      rw [hσ']
      exact .inr ⟨l.length, by simp [St.turn, upd], .inr ⟨rfl, by simp [St.turn, upd]⟩⟩
    · obtain ⟨n, e, s, h7, h8⟩ := hS.apart r' b2 o (hblk.trans h5) h6
      rw [hσ'] at h7; cases h7
      exact ⟨_, _, _, rfl, h8⟩
    · have := (hO.lt b2 h).2
      exact this
  refine ⟨X.turn w' X.S r' (.tail l.length 5 1) (X.μ r'), _, _, rfl, rfl, ⟨rfl, ?_⟩, turn_sr hS hT ⟨⟨_, hO⟩, fun h => ⟨_, hO0 h⟩⟩, qfn hS hT, RR.v.2 rfl⟩
  show upd X.σ r' _ = X.σ
  funext k
  unfold upd
  split
  · rename_i e; rw [e]; exact hσ'.symm
  · rfl
end Go.Proofs.YtbkkjlcclddpdaaGreatDoor

/- strings.Builder: WriteByte, WriteString, and how a walk uses them. -/
namespace Go.Proofs.YtbkkjlcclddpdaaGreatDoor
open Go.RowKit Go.Lib
structure Bld (σ : Nat → AB) (r r' : Nat) (l : List AV) : Prop where
  ne : r ≠ r'
  cells : ∃ p, (p = .v (.pointer none) ∨ p = .ptr r 0) ∧ σ r = .cells [p, .gs r' l] 61
  row : σ r' = .tail l.length 5 1
  bs : AV.isBs l
def bldT (σ : Nat → AB) (r r' : Nat) (l : List AV) : Nat → AB := upd (upd σ r (.cells [.ptr r 0, .gs r' l] 61)) r' (.tail l.length 5 1)
theorem isB_cases {x : AV} (h : x.isB = true) : ∃ n, x = .v (.int .u8 n) := by
  unfold AV.isB at h
  split at h
  · exact ⟨_, rfl⟩
  · cases h
theorem isBs_wid {l : List AV} (h : AV.isBs l) : AV.wid l 1 := fun x hx => by obtain ⟨n, rfl⟩ := isB_cases (h x hx); rfl
theorem isBs_elms {l : List AV} (h : AV.isBs l) : AV.elms l := fun x hx => by obtain ⟨n, rfl⟩ := isB_cases (h x hx); rfl
theorem isBs_cls {l : List AV} (h : AV.isBs l) (m : Nat) : AV.cls m l := AV.cls_iff.2 fun x hx => by obtain ⟨n, rfl⟩ := isB_cases (h x hx); rw [AV.cl]; trivial
theorem bldT_fin {σ : Nat → AB} {r r' : Nat} {l l' : List AV} (h : Bld σ r r' l) (h' : AV.isBs l') : ∀ n, Fin σ n → (∀ k, (σ k).cl n) → Fin (bldT σ r r' l') n ∧ ∀ k, (bldT σ r r' l' k).cl n := fun n hf hc => by
  obtain ⟨p, -, h1⟩ := h.cells
  have hr : r < n := Nat.lt_of_not_le fun hle => by have := hf r hle; rw [h1] at this; cases this
  have hr' : r' < n := Nat.lt_of_not_le fun hle => by have := hf r' hle; rw [h.row] at this; cases this
  have hcl := isBs_cls h' n
  unfold bldT
  refine ⟨fun k hk => ?_, fun k => ?_⟩
  · unfold upd
    rw [if_neg (by omega), if_neg (by omega)]
    exact hf k hk
  · unfold upd
    split
    · trivial
    · split
      · unfold AB.cl
        simp [hr, hr', hcl]
      · exact hc k
theorem bldT_of {σ : Nat → AB} {r r' n : Nat} {l l' : List AV} (hne : ¬ r' = r) (hn : n = l'.length) : upd (upd (upd σ r (.cells [.ptr r 0, .gs r' l] 61)) r' (.tail n 5 1)) r (.cells [.ptr r 0, .gs r' l'] 61) = bldT σ r r' l' := by
  subst hn
  funext k
  unfold bldT upd
  by_cases h1 : k = r
  · subst h1
    rw [if_pos rfl, if_neg (fun e => hne e.symm), if_pos rfl]
  · rw [if_neg h1]
    all_goals (split <;> rfl)
set_option maxHeartbeats 2000000 in
theorem writeByte_g {σ : Nat → AB} {r r' : Nat} {l : List AV} (m : Int) (h : Bld σ r r' l) (hl : l.length + 1 ≤ 140737488355328) :
    AC Tryz.prog 125 [.ptr r 0, .v (.int .u8 m)] σ fun z τ => z = .v .nilIface ∧ τ = bldT σ r r' (l ++ [.v (.int .u8 m)]) := by
  obtain ⟨p, hp, h1⟩ := h.cells
  have h2 := h.row
  have hne := h.ne
  have hw := isBs_wid h.bs
  have he := isBs_elms h.bs
  refine acT_of_awp Tryz.func125 Tryz.ntmps125 rfl rfl (by decide) rfl (by intro n; simp) (bldT_fin h (by simp [h.bs])) fun n0 hfin hcl hft => ?_
  have hr : r < n0 := Nat.lt_of_not_le fun hle => by have := hfin r hle; rw [h1] at this; cases this
  have hr' : r' < n0 := Nat.lt_of_not_le fun hle => by have := hfin r' hle; rw [h2] at this; cases this
  repeat' (first | ((first | ((with_reducible refine qf (fun hg => ?_) (fun hg => ?_)) <;> (try simp only [hg]) <;> (try simp only [gS] at hg) <;> (try (first | simp only [eq_false hg, gI] | simp only [eq_true hg, gI]))) | refine Stp.m ?_) <;> (try simp (disch := first | omega | simp) [qd, -qg, -ql])) | refine sideA ?_ | refine qc fun K hK => ?_ | refine qa ?_ | refine qe ?_ | refine qb ?_ | (refine hK _ ?_; clear hK K) | clear hK K)
  refine qfp r _ (copyCheck_g (r := r) (p := p) (y := .gs r' l) (by simp [qct, hr, h1]) hp) (by simp [qct, hr, h1]) ?_
  have hL : ∀ (τ : Nat → AB) (L : List AB), loc τ n0 L r = τ r := fun τ L => qct _ _ _ _ hr
  have hL' : ∀ (τ : Nat → AB) (L : List AB), loc τ n0 L r' = τ r' := fun τ L => qct _ _ _ _ hr'
  have hne' : ¬ r' = r := fun e => hne e.symm
  simp (disch := first | omega | simp) [qd, hr]
  repeat' (first | ((first | ((with_reducible refine qf (fun hg => ?_) (fun hg => ?_)) <;> (try simp only [hg]) <;> (try simp only [gS] at hg) <;> (try (first | simp only [eq_false hg, gI] | simp only [eq_true hg, gI]))) | refine Stp.m ?_) <;> (try simp (disch := first | omega | simp) [qd, -qg, -ql, hr, hr', h1, h2, hne, hne', hL, hL', hw, he])) | refine sideA ?_ | refine qc fun K hK => ?_ | refine qa ?_ | refine qe ?_ | refine qb ?_ | (refine hK _ ?_; clear hK K) | clear hK K)
  exact bldT_of hne' (by simp)
set_option maxHeartbeats 2000000 in
theorem writeString_g {σ : Nat → AB} {r r' : Nat} {l : List AV} (b : ByteArray) (h : Bld σ r r' l) (hl : l.length + b.size ≤ 140737488355328) :
    AC Tryz.prog 36 [.ptr r 0, .v (.string b)] σ fun z τ => z = .tup [.v (.int .i64 b.size), .v .nilIface] ∧ τ = bldT σ r r' (l ++ b.data.toList.map AV.byte) := by
  obtain ⟨p, hp, h1⟩ := h.cells
  have h2 := h.row
  have hne := h.ne
  have hw := isBs_wid h.bs
  have he := isBs_elms h.bs
  refine acT_of_awp Tryz.func36 Tryz.ntmps36 rfl rfl (by decide) rfl (by intro n; simp) (bldT_fin h (by simp [h.bs])) fun n0 hfin hcl hft => ?_
  have hr : r < n0 := Nat.lt_of_not_le fun hle => by have := hfin r hle; rw [h1] at this; cases this
  have hr' : r' < n0 := Nat.lt_of_not_le fun hle => by have := hfin r' hle; rw [h2] at this; cases this
  repeat' (first | ((first | ((with_reducible refine qf (fun hg => ?_) (fun hg => ?_)) <;> (try simp only [hg]) <;> (try simp only [gS] at hg) <;> (try (first | simp only [eq_false hg, gI] | simp only [eq_true hg, gI]))) | refine Stp.m ?_) <;> (try simp (disch := first | omega | simp) [qd, -qg, -ql])) | refine sideA ?_ | refine qc fun K hK => ?_ | refine qa ?_ | refine qe ?_ | refine qb ?_ | (refine hK _ ?_; clear hK K) | clear hK K)
  refine qfp r _ (copyCheck_g (r := r) (p := p) (y := .gs r' l) (by simp [qct, hr, h1]) hp) (by simp [qct, hr, h1]) ?_
  have hL : ∀ (τ : Nat → AB) (L : List AB), loc τ n0 L r = τ r := fun τ L => qct _ _ _ _ hr
  have hL' : ∀ (τ : Nat → AB) (L : List AB), loc τ n0 L r' = τ r' := fun τ L => qct _ _ _ _ hr'
  have hne' : ¬ r' = r := fun e => hne e.symm
  simp (disch := first | omega | simp) [qd, hr]
  repeat' (first | ((first | ((with_reducible refine qf (fun hg => ?_) (fun hg => ?_)) <;> (try simp only [hg]) <;> (try simp only [gS] at hg) <;> (try (first | simp only [eq_false hg, gI] | simp only [eq_true hg, gI]))) | refine Stp.m ?_) <;> (try simp (disch := first | omega | simp) [qd, -qg, -ql, hr, hr', h1, h2, hne, hne', hL, hL', hw, he])) | refine sideA ?_ | refine qc fun K hK => ?_ | refine qa ?_ | refine qe ?_ | refine qb ?_ | (refine hK _ ?_; clear hK K) | clear hK K)
  exact bldT_of hne' (by rw [List.length_append, List.length_map, ← Lib.size_eq])
@[simp] theorem ba_size (a : Array UInt8) : (ByteArray.mk a).size = a.size := rfl
theorem set_ge (n : Nat) (t : Nat → AV) (σ : Nat → AB) (n0 i : Nat) (L : List AB) (ab : AB) : (AS.mk n t σ n0 L).set (n0 + i) ab = ⟨n, t, σ, n0, L.set i ab⟩ := by
  unfold AS.set
  dsimp only
  rw [if_neg (by omega), Nat.add_sub_cancel_left]
section
variable {n n0 i j : Nat} {t : Nat → AV} {σ : Nat → AB} {L : List AB} {p : AV} {l : List AV} {K : AV → AS → Prop}
theorem own_bld (hi : L[i]? = some (.cells [p, .gs (n0 + j) l] 61)) (hj : L[j]? = some (.tail l.length 5 1)) (hp : p = .v (.pointer none) ∨ p = .ptr (n0 + i) 0) (hb : AV.isBs l) : Bld (loc σ n0 L) (n0 + i) (n0 + j) l := by
  have e : ∀ k x, L[k]? = some x → loc σ n0 L (n0 + k) = x := fun k x h => by
    unfold loc
    rw [if_neg (by omega), Nat.add_sub_cancel_left, List.getD_eq_getElem?_getD, h]; rfl
  refine ⟨fun h => ?_, ⟨p, hp, e i _ hi⟩, e j _ hj, hb⟩
  have hij : i = j := by omega
  rw [hij, hj] at hi
  cases hi
theorem own_bldT (hi : L[i]? = some (.cells [p, .gs (n0 + j) l] 61)) (hj : L[j]? = some (.tail l.length 5 1)) (l' : List AV) {f : FuncId} {args : List AV} {x : AV}
    (h : AC Tryz.prog f args (loc σ n0 L) fun z τ => z = x ∧ τ = bldT (loc σ n0 L) (n0 + i) (n0 + j) l') (hK : K x ⟨n, t, σ, n0, (L.set i (.cells [.ptr (n0 + i) 0, .gs (n0 + j) l'] 61)).set j (.tail l'.length 5 1)⟩) : ACall Tryz.prog f args ⟨n, t, σ, n0, L⟩ K := by
  have hil : i < L.length := (List.getElem?_eq_some_iff.1 hi).1
  have hjl : j < L.length := (List.getElem?_eq_some_iff.1 hj).1
  have e : ∀ k x, L[k]? = some x → loc σ n0 L (n0 + k) = x := fun k x h => by
    unfold loc
    rw [if_neg (by omega), Nat.add_sub_cancel_left, List.getD_eq_getElem?_getD, h]; rfl
  refine acallS2 (n0 + i) (n0 + j) _ _ h (by show loc σ n0 L (n0 + i) ≠ _; rw [e i _ hi]; simp) (by show loc σ n0 L (n0 + j) ≠ _; rw [e j _ hj]; simp) ?_
  have : ((AS.mk n t σ n0 L).set (n0 + i) (.cells [.ptr (n0 + i) 0, .gs (n0 + j) l'] 61)).set (n0 + j) (.tail l'.length 5 1) = ⟨n, t, σ, n0, (L.set i (.cells [.ptr (n0 + i) 0, .gs (n0 + j) l'] 61)).set j (.tail l'.length 5 1)⟩ := by
    rw [set_ge, set_ge]
  rw [this]; exact hK
theorem qcz (m : Int) (hi : L[i]? = some (.cells [p, .gs (n0 + j) l] 61)) {ln : Nat} (hj : L[j]? = some (.tail ln 5 1)) (hln : ln = l.length) (hp : p = .v (.pointer none) ∨ p = .ptr (n0 + i) 0) (hb : AV.isBs l) (hl : l.length + 1 ≤ 140737488355328)
    (hK : K (.v .nilIface) ⟨n, t, σ, n0, (L.set i (.cells [.ptr (n0 + i) 0, .gs (n0 + j) (l ++ [.v (.int .u8 m)])] 61)).set j (.tail (l.length + 1) 5 1)⟩) : ACall Tryz.prog 125 [.ptr (n0 + i) 0, .v (.int .u8 m)] ⟨n, t, σ, n0, L⟩ K :=
  own_bldT hi (hln ▸ hj) _ (writeByte_g m (own_bld hi (hln ▸ hj) hp hb) hl) (by simpa using hK)
theorem qbw (b : ByteArray) (hi : L[i]? = some (.cells [p, .gs (n0 + j) l] 61)) {ln : Nat} (hj : L[j]? = some (.tail ln 5 1)) (hln : ln = l.length) (hp : p = .v (.pointer none) ∨ p = .ptr (n0 + i) 0) (hb : AV.isBs l) (hl : l.length + b.size ≤ 140737488355328)
    (hK : K (.tup [.v (.int .i64 b.size), .v .nilIface]) ⟨n, t, σ, n0, (L.set i (.cells [.ptr (n0 + i) 0, .gs (n0 + j) (l ++ b.data.toList.map AV.byte)] 61)).set j (.tail (l.length + b.size) 5 1)⟩) : ACall Tryz.prog 36 [.ptr (n0 + i) 0, .v (.string b)] ⟨n, t, σ, n0, L⟩ K :=
  own_bldT hi (hln ▸ hj) _ (writeString_g b (own_bld hi (hln ▸ hj) hp hb) hl) (by rw [List.length_append, List.length_map, ← Lib.size_eq]; exact hK)
theorem qdg {l : List AV} (l0 : List UInt8) (hi : L[i]? = some (.cells [p, .gs (n0 + j) l] 61)) {ln : Nat} (hj : L[j]? = some (.tail ln 5 1)) (hln : ln = l.length) (hl : l = l0.map AV.byte) : GivesAt Tryz.prog 38 [.ptr (n0 + i) 0] (loc σ n0 L) (.v (.string ⟨l0.toArray⟩)) := by
  have e : ∀ k x, L[k]? = some x → loc σ n0 L (n0 + k) = x := fun k x h => by
    unfold loc
    rw [if_neg (by omega), Nat.add_sub_cancel_left, List.getD_eq_getElem?_getD, h]; rfl
  subst hln
  subst hl
  exact string_g l0 (e i _ hi) (by rw [e j _ hj, List.length_map])
end
end Go.Proofs.YtbkkjlcclddpdaaGreatDoor

/- Quoted strings, on plain data. -/
namespace Go.Proofs.YtbkkjlcclddpdaaGreatDoor
def hexd (n : Nat) : UInt8 := if n < 10 then UInt8.ofNat (48 + n) else UInt8.ofNat (87 + n)
def qB (c : UInt8) : List UInt8 :=
  if c = 34 ∨ c = 92 then [92, c] else if c = 10 then [92, 110] else if 32 ≤ c.toNat ∧ c.toNat ≤ 126 then [c] else [92, 120, hexd (c.toNat / 16), hexd (c.toNat % 16)]
def qmid (l : List UInt8) : List UInt8 := l.flatMap qB
def qP (l : List UInt8) : List UInt8 := 34 :: (qmid l ++ [34])
def decM (hx : UInt8 → UInt8 → UInt8) : List UInt8 → List UInt8
  | 92 :: 110 :: r => 10 :: decM hx r
  | 92 :: 120 :: a :: b :: r => hx a b :: decM hx r
  | 92 :: d :: r => d :: decM hx r
  | c :: r => c :: decM hx r
  | [] => []
def mid (l : List UInt8) : List UInt8 := (l.take (l.length - 1)).drop 1
def unqP (hx : UInt8 → UInt8 → UInt8) (l : List UInt8) : Option (List UInt8) := if qP (decM hx (mid l)) = l then some (decM hx (mid l)) else none
theorem dec_nil (hx : UInt8 → UInt8 → UInt8) : decM hx [] = [] := by rw [decM]
theorem dec_one (hx : UInt8 → UInt8 → UInt8) (c : UInt8) : decM hx [c] = [c] := by
  unfold decM
  split
  · rename_i e; cases e
  · rename_i e; cases e
  · rename_i e; cases e
  · rename_i e; cases e; rw [dec_nil]
  · rename_i e; cases e
theorem dec_plain {hx : UInt8 → UInt8 → UInt8} {c : UInt8} (hc : c ≠ 92) (r : List UInt8) : decM hx (c :: r) = c :: decM hx r := by
  rw [decM]
  · intro _ e; exact absurd e hc
  · intro _ _ _ e; exact absurd e hc
  · intro _ _ e; exact absurd e hc
theorem dec_n (hx : UInt8 → UInt8 → UInt8) (r : List UInt8) : decM hx (92 :: 110 :: r) = 10 :: decM hx r := by rw [decM]
theorem dec_x (hx : UInt8 → UInt8 → UInt8) (a b : UInt8) (r : List UInt8) : decM hx (92 :: 120 :: a :: b :: r) = hx a b :: decM hx r := by rw [decM]
theorem dec_esc {hx : UInt8 → UInt8 → UInt8} {d : UInt8} {r : List UInt8} (h1 : d ≠ 110) (h2 : d ≠ 120 ∨ r.length < 2) : decM hx (92 :: d :: r) = d :: decM hx r := by
  rw [decM]
  · exact h1
  · intro a b r' e1 e2
    rcases h2 with h2 | h2
    · exact h2 e1
    · rw [e2] at h2; simp at h2; omega
theorem qmid_cons (c : UInt8) (l : List UInt8) : qmid (c :: l) = qB c ++ qmid l := rfl
end Go.Proofs.YtbkkjlcclddpdaaGreatDoor
