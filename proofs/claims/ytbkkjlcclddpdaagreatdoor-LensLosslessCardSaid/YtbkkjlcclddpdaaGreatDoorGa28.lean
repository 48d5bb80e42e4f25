/- Layer 14 on plain data: rows that fit, forward and back. -/
import Derived.Test.YtbkkjlcclddpdaaGreatDoorGa27
set_option linter.unusedSimpArgs false
set_option linter.unusedVariables false
namespace Go.Proofs.YtbkkjlcclddpdaaGreatDoor
open Go.RowKit Go.Lib
theorem qdx (n : Int) : qbl ⟨0, n, ⟨#[]⟩⟩ = true := by unfold qbl; rw [if_pos rfl]; exact (Val.eqB_iff _ _).2 rfl
theorem qfh {s : ByteArray} (h : s.size ≤ 200) : qbl ⟨1, 0, s⟩ = true := by
  unfold qbl
  rw [if_neg (by show ¬ (1 : Int) = 0; decide), if_pos rfl, Bool.and_eq_true]
  exact ⟨(Val.eqB_iff _ _).2 rfl, by simpa using h⟩
theorem rightV_bit (b : Bool) : qbl (bitV b) = true := by
  unfold qbl bitV
  rw [if_neg (by show ¬ (2 : Int) = 0; decide), if_neg (by show ¬ (2 : Int) = 1; decide), Bool.or_eq_true]
  cases b
  · exact .inl ((Val.eqB_iff _ _).2 rfl)
  · exact .inr ((Val.eqB_iff _ _).2 rfl)
theorem qdw (s : List UInt8) : qbl (cutV s) = true := qfh (by rw [qt, List.length_take]; omega)
theorem rightV_cases {v : Val} (h : qbl v = true) : (v = ⟨0, v.n, ⟨#[]⟩⟩) ∨ (v = ⟨1, 0, v.s⟩ ∧ v.s.size ≤ 200) ∨ v = bitV false ∨ v = bitV true := by
  unfold qbl at h
  by_cases h0 : v.k = 0
  · rw [if_pos h0] at h
    exact .inl ((Val.eqB_iff _ _).1 h)
  · rw [if_neg h0] at h
    by_cases h1 : v.k = 1
    · rw [if_pos h1, Bool.and_eq_true] at h
      exact .inr (.inl ⟨(Val.eqB_iff _ _).1 h.1, by simpa using h.2⟩)
    · rw [if_neg h1, Bool.or_eq_true] at h
      rcases h with h | h
      · exact .inr (.inr (.inl ((Val.eqB_iff _ _).1 h)))
      · exact .inr (.inr (.inr ((Val.eqB_iff _ _).1 h)))
theorem right_zero {t : Int} (h0 : 0 ≤ t) (h1 : t < 3) : qbl ⟨t, 0, ⟨#[]⟩⟩ = true := by
  have : t = 0 ∨ t = 1 ∨ t = 2 := by omega
  rcases this with rfl | rfl | rfl
  · exact qdx 0
  · exact qfh (by show 0 ≤ 200; omega)
  · exact rightV_bit false
theorem conv_kind {v o : Val} {t : Int} (h0 : 0 ≤ t) (h1 : t < 3) (hk : o.k = t) (ho : qbl o = true) : (convP v t o).k = t ∧ qbl (convP v t o) = true := by
  have ht : t = 0 ∨ t = 1 ∨ t = 2 := by omega
  unfold convP
  rcases ht with rfl | rfl | rfl
  · rw [if_neg (by simp), if_neg (by decide)]
    split
    · exact ⟨rfl, qdx _⟩
    · rw [if_pos rfl]
      split
      · exact ⟨rfl, qdx _⟩
      · exact ⟨hk, ho⟩
  · split
    · exact ⟨rfl, qdw _⟩
    · rw [if_pos rfl]; exact ⟨rfl, qdw _⟩
  · rw [if_neg (by simp), if_neg (by decide), if_neg (by simp), if_neg (by decide)]
    repeat' split
    · exact ⟨rfl, rightV_bit _⟩
    · exact ⟨rfl, rightV_bit _⟩
    · exact ⟨hk, ho⟩
theorem FitOk.app {r q : List Val} {L M : List Col} (h1 : FitOk r L) (h2 : FitOk q M) : FitOk (r ++ q) (L ++ M) :=
  ⟨by rw [List.map_append, List.map_append, h1.kinds, h2.kinds], fun v hv => (List.mem_append.1 hv).elim (h1.vals v) (h2.vals v)⟩
theorem FitOk.one {v : Val} {c : Col} (h : v.k = c.type) (hr : qbl v = true) : FitOk [v] [c] :=
  ⟨by simp [h], fun u hu => by rw [List.mem_singleton] at hu; subst hu; exact hr⟩
theorem FitOk.take {r : List Val} {L : List Col} (h : FitOk r L) (i : Nat) : FitOk (r.take i) (L.take i) :=
  ⟨by rw [List.map_take, List.map_take, h.kinds], fun v hv => h.vals v (List.mem_of_mem_take hv)⟩
theorem FitOk.drop {r : List Val} {L : List Col} (h : FitOk r L) (i : Nat) : FitOk (r.drop i) (L.drop i) :=
  ⟨by rw [List.map_drop, List.map_drop, h.kinds], fun v hv => h.vals v (List.mem_of_mem_drop hv)⟩
theorem FitOk.set {r : List Val} {L : List Col} (h : FitOk r L) (i : Nat) {v : Val} {c : Col} (hk : v.k = c.type) (hr : qbl v = true) : FitOk (r.set i v) (L.set i c) :=
  ⟨by rw [List.map_set, List.map_set, h.kinds, hk], fun u hu => by
    rcases List.mem_or_eq_of_mem_set hu with h1 | rfl
    · exact h.vals u h1
    · exact hr⟩
theorem FitOk.erase {r : List Val} {L : List Col} (h : FitOk r L) (i : Nat) : FitOk (r.eraseIdx i) (L.eraseIdx i) :=
  ⟨by rw [qby, qby, h.kinds], fun v hv => h.vals v (List.mem_of_mem_eraseIdx hv)⟩
theorem FitOk.types {r : List Val} {L M : List Col} (h : FitOk r L) (e : L.map Col.type = M.map Col.type) : FitOk r M := ⟨by rw [h.kinds, e], h.vals⟩
theorem types_set {L : List Col} {i : Nat} (hi : i < L.length) {c : Col} (h : c.type = L[i].type) : (L.set i c).map Col.type = L.map Col.type := by
  rw [List.map_set, h]
  have : L[i].type = (L.map Col.type)[i]'(by simpa using hi) := by simp
  rw [this, List.set_getElem_self]
theorem FitOk.kind {r : List Val} {L : List Col} (h : FitOk r L) {i : Nat} (hi : i < r.length) (hi2 : i < L.length) : r[i].k = L[i].type := by
  have e : (r.map Val.k)[i]'(by simpa using hi) = (L.map Col.type)[i]'(by simpa using hi2) := by simp only [h.kinds]
  simpa using e
theorem split_at {α : Type} {L : List α} {i : Nat} (hi : i < L.length) : L.take i ++ [L[i]] ++ L.drop (i + 1) = L := by
  rw [← List.take_succ_eq_append_getElem hi, List.take_append_drop]
theorem fwd_fits {x : Lens} {L : List Col} {row : List Val} (hL : qdc L) (h : qef x L) (hf : FitOk row L) : FitOk (fwdP x L row) (oneP x L).1 := by
  have hlen := hf.len
  cases h
  case add ho ha hn hl hR hu hv =>
    have e : fwdP x L row = row ++ [x.value] := by simp only [fwdP, ho]; rfl
    rw [e, hR]; exact hf.app (.one rfl hv)
  case drop i hi ho h hk hl hR hv =>
    have e : fwdP x L row = row.eraseIdx i := by simp only [fwdP, ho, h.find, Int.toNat_natCast]; rfl
    rw [e, hR]; exact hf.erase i
  case rename i hi ho h hb hb2 hR =>
    have e : fwdP x L row = row := by simp only [fwdP, ho]; rfl
    rw [e, hR]; exact hf.types (types_set (c := ⟨x.b, L[i].type, L[i].unit⟩) hi rfl).symm
  case split i hi ho h hk hb hc hs hbc hb2 hc2 hl hR =>
    have e : fwdP x L row = row.take i ++ [(qbf (valAt row i).s.data.toList x.sep.data.toList).1, (qbf (valAt row i).s.data.toList x.sep.data.toList).2] ++ row.drop (i + 1) := by simp only [fwdP, ho, h.find, Int.toNat_natCast]; rfl
    rw [e, hR]
    exact ((hf.take i).app ((FitOk.one (c := ⟨x.b, 1, ⟨#[]⟩⟩) rfl (qdw _)).app (.one rfl (qdw _)))).app (hf.drop (i + 1))
  case join i k hi hk ho h hkf hkn hik ti tk hc hs hc2 hR =>
    have e : fwdP x L row = (row.set i (cutV ((valAt row i).s.data.toList ++ x.sep.data.toList ++ (valAt row k).s.data.toList))).eraseIdx k := by simp only [fwdP, ho, h.find, hkf, Int.toNat_natCast]; rfl
    rw [e, hR]
    exact (hf.set i ti.symm (qdw _)).erase k
  case retype i hi ho h hn0 hn3 hv hk ht hR =>
    have e : fwdP x L row = row.set i (convP (valAt row i) x.n x.value) := by simp only [fwdP, ho, h.find, Int.toNat_natCast]; rfl
    rw [e, hR]
    obtain ⟨c1, c2⟩ := conv_kind (v := valAt row i) hn0 hn3 hk hv
    exact hf.set i c1 c2
  case scale i hi ho h ht hn hu hR =>
    have e : fwdP x L row = row.set i ⟨0, IntKind.i64.wrap ((valAt row i).n * x.n), ⟨#[]⟩⟩ := by simp only [fwdP, ho, h.find, Int.toNat_natCast]; rfl
    rw [e, hR]
    exact hf.set i ht.symm (qdx _)
theorem bck_fits {x : Lens} {L : List Col} {row : List Val} (hL : qdc L) (h : qef x L) (hf : FitOk row (oneP x L).1) : FitOk (bckP x L row) L := by
  have hlen := hf.len
  cases h
  case add ho ha hn hl hR hu hv =>
    rw [hR] at hf hlen
    have e : bckP x L row = row.take (row.length - 1) := by simp only [bckP, ho]; rfl
    rw [e, hlen]
    have := hf.take L.length
    rw [List.take_left] at this
    simpa using this
  case drop i hi ho h hk hl hR hv =>
    rw [hR] at hf
    have e : bckP x L row = row.take i ++ [x.value] ++ row.drop i := by simp only [bckP, ho, h.find, Int.toNat_natCast]; rfl
    rw [e]
    have h1 := hf.take i
    have h2 := hf.drop i
    rw [List.eraseIdx_eq_take_drop_succ] at h1 h2
    have e1 : (L.take i ++ L.drop (i + 1)).take i = L.take i := List.take_left' (by rw [List.length_take]; omega)
    have e2 : (L.take i ++ L.drop (i + 1)).drop i = L.drop (i + 1) := List.drop_left' (by rw [List.length_take]; omega)
    rw [e1] at h1
    rw [e2] at h2
    have := (h1.app (FitOk.one hk.symm hv)).app h2
    rwa [split_at hi] at this
  case rename i hi ho h hb hb2 hR =>
    rw [hR] at hf
    have e : bckP x L row = row := by simp only [bckP, ho]; rfl
    rw [e]; exact hf.types (types_set (c := ⟨x.b, L[i].type, L[i].unit⟩) hi rfl)
  case split i hi ho h hk hb hc hs hbc hb2 hc2 hl hR =>
    rw [hR] at hf
    have e : bckP x L row = row.take i ++ [cutV ((valAt row i).s.data.toList ++ if (valAt row (i + 1)).s.toList = [] then [] else x.sep.data.toList ++ (valAt row (i + 1)).s.data.toList)] ++ row.drop (i + 2) := by simp only [bckP, ho, h.find, Int.toNat_natCast]; rfl
    rw [e]
    have h1 := hf.take i
    have h2 := hf.drop (i + 2)
    have e1 : (L.take i ++ [(⟨x.b, 1, ⟨#[]⟩⟩ : Col), ⟨x.c, 1, ⟨#[]⟩⟩] ++ L.drop (i + 1)).take i = L.take i := by
      rw [List.append_assoc]; exact List.take_left' (by rw [List.length_take]; omega)
    have e2 : (L.take i ++ [(⟨x.b, 1, ⟨#[]⟩⟩ : Col), ⟨x.c, 1, ⟨#[]⟩⟩] ++ L.drop (i + 1)).drop (i + 2) = L.drop (i + 1) := List.drop_left' (by simp; omega)
    rw [e1] at h1
    rw [e2] at h2
    have := (h1.app (FitOk.one (v := cutV ((valAt row i).s.data.toList ++ if (valAt row (i + 1)).s.toList = [] then [] else x.sep.data.toList ++ (valAt row (i + 1)).s.data.toList)) (c := L[i]) hk.symm (qdw _))).app h2
    rwa [split_at hi] at this
  case join i k hi hk ho h hkf hkn hik ti tk hc hs hc2 hR =>
    rw [hR] at hf
    obtain ⟨a, ha⟩ : ∃ a, a = if k < i then i - 1 else i := ⟨_, rfl⟩
    have e : bckP x L row = (row.set a (qbf (valAt row a).s.data.toList x.sep.data.toList).1).take k ++ [(qbf (valAt row a).s.data.toList x.sep.data.toList).2] ++ (row.set a (qbf (valAt row a).s.data.toList x.sep.data.toList).1).drop k := by
      simp only [bckP, ho, h.find, hkf, Int.toNat_natCast, ← ha]; rfl
    rw [e]
    obtain ⟨c, hcc⟩ : ∃ c : Col, c = ⟨x.c, L[i].type, L[i].unit⟩ := ⟨_, rfl⟩
    rw [← hcc] at hf
    have hct : c.type = 1 := by rw [hcc]; exact ti
    have hls : (L.set i c).length = L.length := List.length_set
    have hM : ((L.set i c).eraseIdx k).length = L.length - 1 := by rw [List.length_eraseIdx_of_lt (by omega), hls]
    have hal : a < ((L.set i c).eraseIdx k).length := by rw [hM, ha]; split <;> omega
    have hat : ((L.set i c).eraseIdx k)[a] = c := by
      rw [List.getElem_eraseIdx]
      split
      · have hai : a = i := by rw [ha]; rw [if_neg]; intro hki; rw [if_pos hki] at ha; omega
        rw [List.getElem_set, if_pos hai.symm]
      · have hai : a + 1 = i := by
          by_cases hki : k < i
          · rw [if_pos hki] at ha; omega
          · rw [if_neg hki] at ha; omega
        rw [List.getElem_set, if_pos hai.symm]
    have hf2 := hf.set a (v := (qbf (valAt row a).s.data.toList x.sep.data.toList).1) (c := c) hct.symm (qdw _)
    have hset : ((L.set i c).eraseIdx k).set a c = (L.set i c).eraseIdx k := by
      have := List.set_getElem_self hal
      rwa [hat] at this
    rw [hset] at hf2
    have h1 := hf2.take k
    have h2 := hf2.drop k
    rw [List.eraseIdx_eq_take_drop_succ] at h1 h2
    have e1 : ((L.set i c).take k ++ (L.set i c).drop (k + 1)).take k = (L.set i c).take k := List.take_left' (by rw [List.length_take]; omega)
    have e2 : ((L.set i c).take k ++ (L.set i c).drop (k + 1)).drop k = (L.set i c).drop (k + 1) := List.drop_left' (by rw [List.length_take]; omega)
    rw [e1] at h1
    rw [e2] at h2
    have hkl : k < (L.set i c).length := by omega
    have hk1 : ((L.set i c)[k]).type = 1 := by rw [List.getElem_set_ne hik]; exact tk
    have := (h1.app (FitOk.one (v := (qbf (valAt row a).s.data.toList x.sep.data.toList).2) hk1.symm (qdw _))).app h2
    rw [split_at hkl] at this
    exact this.types (types_set hi (by rw [hct, ti]))
  case retype i hi ho h hn0 hn3 hv hk ht hR =>
    rw [hR] at hf
    have e : bckP x L row = row.set i (convP (valAt row i) L[i].type ⟨L[i].type, 0, ⟨#[]⟩⟩) := by simp only [bckP, ho, h.find, Int.toNat_natCast, qbz hi]; rfl
    rw [e]
    have hci := hL.cols _ (List.getElem_mem hi)
    obtain ⟨c1, c2⟩ := conv_kind (v := valAt row i) (o := ⟨L[i].type, 0, ⟨#[]⟩⟩) hci.k0 hci.k1 rfl (right_zero hci.k0 hci.k1)
    have := hf.set i (c := L[i]) c1 c2
    rwa [List.set_set, List.set_getElem_self] at this
  case scale i hi ho h ht hn hu hR =>
    rw [hR] at hf
    have e : bckP x L row = row.set i ⟨0, IntKind.i64.wrap ((valAt row i).n.tdiv x.n), ⟨#[]⟩⟩ := by simp only [bckP, ho, h.find, Int.toNat_natCast]; rfl
    rw [e]
    have := hf.set i (v := ⟨0, IntKind.i64.wrap ((valAt row i).n.tdiv x.n), ⟨#[]⟩⟩) (c := L[i]) ht.symm (qdx _)
    rwa [List.set_set, List.set_getElem_self] at this
end Go.Proofs.YtbkkjlcclddpdaaGreatDoor
