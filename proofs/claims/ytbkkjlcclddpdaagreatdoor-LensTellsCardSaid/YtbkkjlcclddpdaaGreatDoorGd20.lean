/- Rows all of whose cells are known (AB.buf) and slices over them (AV.sub): what the library's Insert, Delete, Replace do with them. -/
import Derived.Laws.CopyRow
import Derived.Laws.Externs
import Derived.Test.YtbkkjlcclddpdaaGreatDoorGd10
set_option linter.unusedSimpArgs false
set_option linter.unusedVariables false
namespace Go.Proofs.YtbkkjlcclddpdaaGreatDoor
open Go.RowKit Go.Lib
theorem Sub.buf {σ τ : Nat → AB} (h : Sub σ τ) {r : Nat} {cs : List Value} {e : TypeId} (hr : σ r = .buf cs e) (hu : τ r ≠ .unborn) : τ r = .buf cs e := by
  rcases h r (by rw [hr]; simp) with h | h
  · rw [h, hr]
  · exact absurd h hu
theorem qfa {X : St} (hS : SR X) {r a n c sz : Nat} {v : Value} (h : RC X (.sub r a n c sz) [v]) {cs : List Value} {e : TypeId} (hX : X.σ r = .buf cs e) :
    ∃ b A, X.μ r = .map (some b) ∧ X.w.heap[b]? = some (.cells cs.toArray e (0, 0)) ∧ v = .slice A n c ∧ (0 < c → A = some ⟨b, a * sz, none⟩) := by
  rw [RC] at h
  obtain ⟨-, w, hw, -, hall⟩ := h
  obtain ⟨b, A, h1, h2, h3⟩ := hall cs e hX
  have hB := hS.block r
  rw [hX] at hB
  obtain ⟨b', h4, h5⟩ := hB
  rw [h1] at h4; cases h4
  have : v = w := by simpa using hw
  exact ⟨b, A, h1, h5, by rw [this, h2], h3⟩
section
variable {P : Program} {ev : Operand → AV} {σ : Nat → AB}
theorem fop_lenB {t u : TypeId} {p : Operand} {r a n c sz : Nat} {cs : List Value} {e : TypeId} (ht : einfo P t = some u) (hp : ev p = .sub r a n c sz) (hσ : σ r = .buf cs e) : FOp P ev σ (.call { callee := .builtin .len, args := #[p], argTypes := #[t] }) (.v (.int .i64 n)) none := FOp.of fun X ac oper ho hS hsub hev => by
  have h := hev p (by simp [Op.operands, Call.operands])
  rw [hp] at h
  change RC X (.sub r a n c sz) [ac.eval p] at h
  have hX := hsub.buf hσ (by rw [RC] at h; exact h.1)
  obtain ⟨b, A, -, -, hv, -⟩ := qfa hS h hX
  refine ⟨_, ?_, RR.v.2 rfl⟩
  simp [execOp, ho, resolve, invoke, builtin, Builtin.len_, underlying, qbx ht, hv, goInt]
theorem fop_capB {t u : TypeId} {p : Operand} {r a n c sz : Nat} {cs : List Value} {e : TypeId} (ht : einfo P t = some u) (hp : ev p = .sub r a n c sz) (hσ : σ r = .buf cs e) : FOp P ev σ (.call { callee := .builtin .cap, args := #[p], argTypes := #[t] }) (.v (.int .i64 c)) none := FOp.of fun X ac oper ho hS hsub hev => by
  have h := hev p (by simp [Op.operands, Call.operands])
  rw [hp] at h
  change RC X (.sub r a n c sz) [ac.eval p] at h
  have hX := hsub.buf hσ (by rw [RC] at h; exact h.1)
  obtain ⟨b, A, -, -, hv, -⟩ := qfa hS h hX
  refine ⟨_, ?_, RR.v.2 rfl⟩
  simp [execOp, ho, resolve, invoke, builtin, Builtin.cap_, underlying, qbx ht, hv, goInt]
theorem fop_sliceB {t e : TypeId} {x : Operand} {lo hi : Option Operand} {r a n c sz l h : Nat} {cs : List Value} {e' : TypeId} {ag : Bool} (ht : einfo P t = some e) (hs : tinfo P e = some (ag, sz)) (hx : ev x = .sub r a n c sz) (hσ : σ r = .buf cs e')
    (hlo : bnd ev lo 0 l) (hhi : bnd ev hi n h) (h1 : l ≤ h) (h2 : h ≤ c) :
    FOp P ev σ (.slice t x lo hi none) (.sub r (a + l) (h - l) (c - l) sz) none := FOp.of fun X ac oper ho hS hsub hev => by
  have hx2 := hev x (by simp [Op.operands])
  rw [hx] at hx2
  change RC X (.sub r a n c sz) [ac.eval x] at hx2
  have hun : X.σ r ≠ .unborn := by rw [RC] at hx2; exact hx2.1
  have hX := hsub.buf hσ hun
  obtain ⟨b, A, hm, -, hv', hA⟩ := qfa hS hx2 hX
  have hl : bndV ac lo 0 l := qgd (fun o h => hev o (by simp [Op.operands, h])) hlo
  have hh : bndV ac hi n h := qgd (fun o h => hev o (by simp [Op.operands, h])) hhi
  unfold bndV at hl hh
  have hrun : (execOp ac.eval oper).run P X.w = .ok (.value (.slice (if c = l then A else A.map (·.add (l * sz))) (h - l) (c - l))) X.w := by
    have hu := qbx ht
    have hsz := (qca hs X.w).2
    cases lo with
    | none =>
      dsimp only at hl; subst hl
      cases hi with
      | none =>
        dsimp only at hh; subst hh
        simp [execOp, ho, hv', Instr.sliceAt, underlying, hu, Instr.slice, Instr.sliceBounds, hsz, h2]
      | some y =>
        obtain ⟨k, hy⟩ := hh
        simp [execOp, ho, hv', Instr.sliceAt, underlying, hu, Instr.slice, Instr.sliceBounds, Instr.sliceBound, hy, asIntOf, h2, hsz]
    | some z =>
      obtain ⟨k, hz⟩ := hl
      cases hi with
      | none =>
        dsimp only at hh; subst hh
        simp [execOp, ho, hv', Instr.sliceAt, underlying, hu, Instr.slice, Instr.sliceBounds, Instr.sliceBound, hz, asIntOf, h1, hsz, h2]
      | some y =>
        obtain ⟨k2, hy⟩ := hh
        simp [execOp, ho, hv', Instr.sliceAt, underlying, hu, Instr.slice, Instr.sliceBounds, Instr.sliceBound, hz, hy, asIntOf, h1, h2, hsz]
  refine ⟨_, hrun, ?_⟩
  show RC X (.sub _ _ _ _ _) [_]
  rw [RC]
  refine ⟨hun, _, rfl, rfl, fun xs e2 h3 => ?_⟩
  refine ⟨b, _, hm, rfl, fun hp => ?_⟩
  rw [if_neg (by omega), hA (by omega)]
  simp [qbf, Nat.add_mul]
end
def rawC : AV → List Value
  | .v x => [x]
  | .agg l => l.flatMap fun | .v x => [x] | _ => []
  | _ => []
def rawOk : AV → Bool
  | .v x => x.oneCell'
  | .agg l => l.all fun | .v x => x.oneCell' | _ => false
  | _ => false
def rawsL (l : List AV) : List Value := l.flatMap rawC
theorem raw_r1 {X : St} : ∀ {l : List AV} {cs : List Value}, (l.all fun | .v x => x.oneCell' | _ => false) = true → R1s X l cs → cs = l.flatMap (fun | .v x => [x] | _ => []) ∧ ∀ u ∈ cs, u.oneCell' = true
  | [], cs, _, h => by rw [R1s] at h; subst h; simp
  | y :: l, cs, h1, h => by
    rw [List.all_cons, Bool.and_eq_true] at h1
    rw [R1s] at h
    obtain ⟨v, vs, rfl, -, h2, h3⟩ := h
    obtain ⟨h4, h5⟩ := raw_r1 h1.2 h3
    cases y with
    | v x =>
      rw [RC] at h2
      have : v = x := by simpa using h2
      subst this
      refine ⟨by rw [List.flatMap_cons, ← h4]; rfl, fun u hu => ?_⟩
      rcases List.mem_cons.1 hu with rfl | hu
      · exact h1.1
      · exact h5 u hu
    | _ => exact absurd h1.1 (by simp)
theorem raw_rc {X : St} {x : AV} {cs : List Value} (h1 : rawOk x = true) (h : RC X x cs) : cs = rawC x ∧ ∀ u ∈ cs, u.oneCell' = true := by
  cases x with
  | v x => rw [RC] at h; subst h; exact ⟨rfl, fun u hu => by rw [List.mem_singleton.1 hu]; exact h1⟩
  | agg l => rw [RC] at h; exact raw_r1 h1 h
  | _ => cases h1
theorem raws_rc {X : St} : ∀ {l : List AV} {cs : List Value}, l.all rawOk = true → RCs X l cs → cs = rawsL l ∧ ∀ u ∈ cs, u.oneCell' = true
  | [], cs, _, h => by rw [RCs] at h; subst h; exact ⟨rfl, by simp⟩
  | x :: l, cs, h1, h => by
    rw [List.all_cons, Bool.and_eq_true] at h1
    rw [RCs] at h
    obtain ⟨c1, c2, rfl, h2, h3⟩ := h
    obtain ⟨h4, h5⟩ := raw_rc h1.1 h2
    obtain ⟨h6, h7⟩ := raws_rc h1.2 h3
    refine ⟨by unfold rawsL; rw [List.flatMap_cons, ← h4]; unfold rawsL at h6; rw [← h6], fun u hu => ?_⟩
    rcases List.mem_append.1 hu with hu | hu
    · exact h5 u hu
    · exact h7 u hu
def OneC (l : List Value) : Prop := ∀ u ∈ l, u.oneCell' = true
def Src (s : AS) (sz : Nat) (y : AV) (cs : List Value) (m : Nat) : Prop :=
  cs.length = m * sz ∧ match y with
  | .sl l => l.all rawOk = true ∧ AV.wid l sz ∧ cs = rawsL l ∧ m = l.length
  | .own r n => ∃ l e, s.st r = .vec l e sz ∧ n = l.length ∧ l.all rawOk = true ∧ cs = rawsL l ∧ m = n
  | .sub r a n c sz' => sz' = sz ∧ ∃ bs e, s.st r = .buf bs e ∧ cs = (bs.drop (a * sz)).take (n * sz) ∧ m = n ∧ n ≤ c
  | _ => False
theorem cell_cells {w : World} {b o : Nat} {xs : List Value} {t : TypeId} {fz : Nat × Nat} (h : w.heap[b]? = some (.cells xs.toArray t fz)) : w.cell? ⟨b, o, none⟩ = xs[o]? := by
  simp [World.cell?, h]
theorem src_cells {X0 : St} {s : AS} {ac : Act} {X : St} (hc : Con X0 s ac X.w X) {sz : Nat} {y : AV} {cs : List Value} {m : Nat} {v : Value} (h : Src s sz y cs m) (hv : RR X y v) :
    ∃ A cap, v = .slice A m cap ∧ (0 < m → 0 < sz → ∃ a : Addr, A = some a ∧ ∀ j u, cs[j]? = some u → X.w.cell? (a.add j) = some u) := by
  obtain ⟨hl, h⟩ := h
  cases y with
  | sl l =>
    obtain ⟨h2, h3, rfl, rfl⟩ := h
    obtain ⟨A, cap, b, off, hyv, hc1, hc2, hA, hm⟩ := RR.list (x := .sl l) rfl hv
    refine ⟨A, cap, hyv, fun hp _ => ?_⟩
    obtain rfl := hA hp
    obtain ⟨news, hr2, hcell⟩ := hm.row
    obtain ⟨rfl, -⟩ := raws_rc h2 hr2
    exact ⟨_, rfl, fun j u hj => by rw [qbf]; exact hcell.at.get j u hj⟩
  | own r n =>
    obtain ⟨l, e, hσ, rfl, h2, rfl, rfl⟩ := h
    change RC X (.own r l.length) [v] at hv
    rw [RC] at hv
    obtain ⟨-, w, hw, -, hall⟩ := hv
    have hX : X.σ r = .vec l e sz := by rw [hc.σ, hσ]
    have hvm : v = X.μ r := by
      have := (hall _ _ _ hX).2 rfl
      rw [← this]; simpa using hw
    have hB := hc.sr.block r
    rw [hX] at hB
    obtain ⟨-, xs, hown, hrs⟩ := hB
    obtain ⟨rfl, -⟩ := raws_rc h2 hrs
    rcases hown.2 with ⟨h5, h6⟩ | ⟨g, cap, cur, h5, -, h7, h8, h9, h10, h11⟩
    · exact ⟨none, 0, by rw [hvm, h5]; rw [h6], fun hp => by omega⟩
    · refine ⟨_, cap, by rw [hvm, h5], fun hp _ => ⟨_, rfl, fun j u hj => ?_⟩⟩
      have h12 : cur.toList[j]? = some u := by
        have hjl := (List.getElem?_eq_some_iff.1 hj).1
        rw [← h11] at hj
        rw [List.getElem?_take] at hj
        split at hj
        · exact hj
        · cases hj
      rw [qbf]
      simp [World.cell?, h7]
      simpa using h12
  | sub r a n c sz' =>
    obtain ⟨rfl, bs, e, hσ, rfl, rfl, hnc⟩ := h
    have hX : X.σ r = .buf bs e := by rw [hc.σ, hσ]
    obtain ⟨b, A, hm, hh, rfl, hA⟩ := qfa hc.sr (show RC X (.sub r a m c sz') [v] from hv) hX
    refine ⟨A, c, rfl, fun hp _ => ?_⟩
    obtain rfl := hA (by omega)
    refine ⟨_, rfl, fun j u hj => ?_⟩
    rw [qbf, cell_cells hh]
    rw [List.getElem?_take] at hj
    split at hj
    · rw [List.getElem?_drop] at hj; exact hj
    · cases hj
  | _ => exact h.elim
section
variable {P : Program} {s : AS}
theorem buf_turns {X : St} (hS : SR X) {r b : Nat} {cs cs' : List Value} {e : TypeId} (hX : X.σ r = .buf cs e) (hm : X.μ r = .map (some b)) (hh : X.w.heap[b]? = some (.cells cs.toArray e (0, 0))) :
    Turns X (X.w.setRow b cs'.toArray) X.S r (.buf cs' e) (X.μ r) := by
  have hbr : X.blk r = some b := by unfold St.blk; rw [hX, hm]; rfl
  exact { grown := by rw [hbr]; exact setRow_grown _ _ _
          blk := fun b2 h => .inl (by unfold St.blk; rw [hX]; exact h)
          ver := by
            unfold Ver
            rw [hX]
            exact .inr ⟨⟨cs', by simp [St.turn, upd]⟩, by simp [St.turn, upd]⟩
          keepS := fun b2 o h1 h2 => by
            obtain ⟨_, e, s2, h3, -⟩ := hS.apart r b2 o h1 h2
            rw [hX] at h3; cases h3
          more := fun _ _ h => h
          less := fun _ _ h => .inl h
          apart := fun b2 o h1 h2 => by
            obtain ⟨_, e, s2, h3, -⟩ := hS.apart r b2 o (by unfold St.blk; rw [hX]; exact h1) h2
            rw [hX] at h3; cases h3
          old := fun b2 h => by
            have : X.blk r = some b2 := by unfold St.blk; rw [hX]; exact h
            simpa using hS.lt this }
theorem sub_turn {X : St} {w : World} {r a n c sz b : Nat} {cs : List Value} {e : TypeId} {A : Option Addr} (hm : X.μ r = .map (some b)) (hA : 0 < c → A = some ⟨b, a * sz, none⟩) :
    RC (X.turn w X.S r (.buf cs e) (X.μ r)) (.sub r a n c sz) [.slice A n c] := by
  rw [RC]
  refine ⟨by simp [St.turn, upd], _, rfl, rfl, fun xs e2 h => ?_⟩
  exact ⟨b, A, by simp [St.turn, upd, hm], rfl, hA⟩
end
theorem run_copy_rowN {P : Program} (w : World) (dT sT ty elem : TypeId) (i : TypeInfo) (hi : P.info? elem = some i) (g o dLen dCap : Nat) (a : Addr) (sLen sCap : Nat) (cur : Array Value) (t : TypeId) (cs : List Value) (k : Nat)
    (hu : P.underlying dT = some (.slice elem)) (hg : w.heap[g]? = some (.cells cur t (0, 0))) (hk : Nat.min sLen dLen = k) (hn : k * i.size = cs.length)
    (hsrc : ∀ j v, cs[j]? = some v → w.cell? (a.add j) = some v) (hfit : o + cs.length ≤ cur.size) (h1 : ∀ v ∈ cs, v.oneCell' = true) :
    (Builtin.copy_ #[dT, sT] ty #[.slice (some ⟨g, o, none⟩) dLen dCap, .slice (some a) sLen sCap]).run P w =
      .ok (goInt k) (w.setRow g (cur.toList.take o ++ cs ++ cur.toList.drop (o + cs.length)).toArray) := by
  have hl := run_loadCells_list (P := P) w a cs hsrc
  have hst := run_storeCells_at P g o t cs 0 cur w hg (by simpa using hfit) h1
  subst hk
  simp [Builtin.copy_, run_underlying hu, Builtin.lenOf, Builtin.firstCells, sizeOf, typeInfo, hi, hn, hl, hst]
theorem run_copy_noneN {P : Program} (w : World) (dT sT ty elem : TypeId) (i : TypeInfo) (hi : P.info? elem = some i) (d a : Option Addr) (dLen dCap sLen sCap : Nat) (hu : P.underlying dT = some (.slice elem)) (hn : Nat.min sLen dLen = 0) :
    (Builtin.copy_ #[dT, sT] ty #[.slice d dLen dCap, .slice a sLen sCap]).run P w = .ok (goInt 0) w := by
  have hl : ∀ (x : Addr), (loadCells x 0).run P w = .ok #[] w := fun x => by simpa using run_loadCells_list (P := P) w x [] (by simp)
  cases d <;> cases a <;> simp [Builtin.copy_, run_underlying hu, Builtin.lenOf, Builtin.firstCells, sizeOf, typeInfo, hi, hn, storeCells, hl]
section
variable {P : Program} {s : AS}
theorem eop_copyB {t t' : TypeId} {d y : Operand} {r a n c sz by_ m k : Nat} {cs news : List Value} {e : TypeId} {K : AV → AS → Prop} (ht : vinfo P t = some (e, sz, by_)) (hd : s.eval d = .sub r a n c sz) (hσ : s.st r = .buf cs e) (hy : Src s sz (s.eval y) news m)
    (hnc : n ≤ c) (hk : Nat.min m n = k) (hfit : (a + k) * sz ≤ cs.length) (h1 : OneC (news.take (k * sz))) (hK : K (.v (.int .i64 k)) (s.set r (.buf (cs.take (a * sz) ++ news.take (k * sz) ++ cs.drop ((a + k) * sz)) e))) :
    EOp P s (.call { callee := .builtin .copy, args := #[d, y], argTypes := #[t, t'] }) K := by
  intro X0 ac w X oper ho hc Q
  have hw0 := hc.w
  subst hw0
  have hX : X.σ r = .buf cs e := by rw [hc.σ, hσ]
  have hd2 := hc.eval d
  rw [hd] at hd2
  obtain ⟨b, A, hm, hh, hdv, hA⟩ := qfa hc.sr (show RC X (.sub r a n c sz) [ac.eval d] from hd2) hX
  obtain ⟨hut, i, z, hi, hzz, hsz, hby, hzs, hsz0, hby0, hz1⟩ := qbm ht
  obtain ⟨A2, cap2, hyv, hA2⟩ := src_cells hc hy (hc.eval y)
  by_cases hk0 : k = 0
  · subst hk0
    have hr := run_copy_noneN (P := P) X.w t t' oper.type e i hi A A2 n c m cap2 hut hk
    rw [Nat.zero_mul, List.take_zero, List.append_nil, Nat.add_zero, List.take_append_drop, AS.set_same hσ] at hK
    exact qbb (w' := X.w) (v := goInt 0) (by simp [execOp, ho, resolve, invoke, builtin, hdv, hyv, hr]) ⟨_, .v (.int .i64 0), _, _, rfl, hK, hc, RR.v.2 rfl⟩
  · have hkm : k ≤ m ∧ k ≤ n := by subst hk; exact ⟨Nat.min_le_left _ _, Nat.min_le_right _ _⟩
    obtain ⟨a2, rfl, hsrc⟩ := hA2 (by omega) hsz0
    obtain rfl := hA (by omega)
    have hlen : (news.take (k * sz)).length = k * sz := by
      rw [List.length_take, hy.1]
      exact Nat.min_eq_left (Nat.mul_le_mul_right _ hkm.1)
    have hr := run_copy_rowN (P := P) X.w t t' oper.type e i hi b (a * sz) n c a2 m cap2 cs.toArray e (news.take (k * sz)) k hut hh hk (by rw [hlen, hsz])
      (fun j u hj => by
        rw [List.getElem?_take] at hj
        split at hj
        · exact hsrc j u hj
        · cases hj)
      (by rw [hlen]; rw [Nat.add_mul] at hfit; simpa using hfit) h1
    rw [hlen, ← Nat.add_mul] at hr
    have hT := buf_turns (cs' := cs.take (a * sz) ++ news.take (k * sz) ++ cs.drop ((a + k) * sz)) hc.sr hX hm hh
    refine qbb (w' := X.w.setRow b (cs.take (a * sz) ++ news.take (k * sz) ++ cs.drop ((a + k) * sz)).toArray) (v := goInt k) (by simp [execOp, ho, resolve, invoke, builtin, hdv, hyv, hr])
      ⟨_, .v (.int .i64 k), _, _, rfl, hK, qep (v := X.μ r) hc (by rw [hσ]; simp) hT ⟨b, hm, setRow_heap _ _ _ _ _ _ hh⟩, RR.v.2 rfl⟩
theorem eop_clearB {t : TypeId} {x : Operand} {r a n c sz by_ : Nat} {cs : List Value} {e : TypeId} {K : AV → AS → Prop} (ht : vinfo P t = some (e, sz, by_)) (hx : s.eval x = .sub r a n c sz) (hσ : s.st r = .buf cs e)
    (hnc : n ≤ c) (hfit : (a + n) * sz ≤ cs.length) (hK : ∀ zs : List Value, zs.length = n * sz → K (.tup []) (s.set r (.buf (cs.take (a * sz) ++ zs ++ cs.drop ((a + n) * sz)) e))) :
    EOp P s (.call { callee := .builtin .clear, args := #[x], argTypes := #[t] }) K := by
  intro X0 ac w X oper ho hc Q
  have hw0 := hc.w
  subst hw0
  have hX : X.σ r = .buf cs e := by rw [hc.σ, hσ]
  have hx2 := hc.eval x
  rw [hx] at hx2
  obtain ⟨b, A, hm, hh, hxv, hA⟩ := qfa hc.sr (show RC X (.sub r a n c sz) [ac.eval x] from hx2) hX
  obtain ⟨hut, i, z, hi, hzz, hsz, hby, hzs, hsz0, hby0, hz1⟩ := qbm ht
  by_cases hn0 : n = 0
  · subst hn0
    have hK0 := hK [] (by simp)
    rw [List.append_nil, Nat.add_zero, List.take_append_drop, AS.set_same hσ] at hK0
    exact qbb (w' := X.w) (v := .tuple #[]) (by cases A <;> simp [execOp, ho, resolve, invoke, builtin, hxv, Builtin.clear_, run_underlying hut]) ⟨_, .tup [], _, _, rfl, hK0, hc, [], rfl, rfl⟩
  · obtain rfl := hA (by omega)
    obtain ⟨zs, hzs'⟩ : ∃ zs, zs = (Builtin.zeroCells z.cells n).toList := ⟨_, rfl⟩
    have hzl : zs.length = n * sz := by rw [hzs']; simp [Builtin.zeroCells, hzs]
    have hz2 : ∀ u ∈ zs, u.oneCell' = true := fun u hu => by
      rw [hzs'] at hu
      unfold Builtin.zeroCells at hu
      rw [Array.toList_map] at hu
      obtain ⟨j, hj, rfl⟩ := List.mem_map.1 hu
      have hp : 0 < z.cells.size := by omega
      have hjm : j % z.cells.size < z.cells.size := Nat.mod_lt _ hp
      rw [getElem!_pos z.cells _ hjm]
      exact hz1 _ (by simp)
    have hst := run_storeCells_at P b (a * sz) e zs 0 cs.toArray X.w hh (by rw [hzl, Nat.add_zero, ← Nat.add_mul]; simpa using hfit) hz2
    rw [Nat.add_zero, hzl, ← Nat.add_mul] at hst
    have hv0 : (zeroValue e).run P X.w = .ok z X.w := by simp [zeroValue, typeInfo, hi, hzz]
    obtain ⟨q, rfl⟩ : ∃ q, n = q + 1 := ⟨n - 1, by omega⟩
    have hr : (Builtin.clear_ #[t] oper.type #[.slice (some ⟨b, a * sz, none⟩) (q + 1) c]).run P X.w = .ok (.tuple #[]) (X.w.setRow b (cs.take (a * sz) ++ zs ++ cs.drop ((a + (q + 1)) * sz)).toArray) := by
      simp [Builtin.clear_, run_underlying hut, hv0, ← hzs']
      simp at hst
      rw [hst]; rfl
    have hT := buf_turns (cs' := cs.take (a * sz) ++ zs ++ cs.drop ((a + (q + 1)) * sz)) hc.sr hX hm hh
    exact qbb (w' := X.w.setRow b (cs.take (a * sz) ++ zs ++ cs.drop ((a + (q + 1)) * sz)).toArray) (v := .tuple #[]) (by simp [execOp, ho, resolve, invoke, builtin, hxv, hr])
      ⟨_, .tup [], _, _, rfl, hK zs hzl, qep (v := X.μ r) hc (by rw [hσ]; simp) hT ⟨b, hm, setRow_heap _ _ _ _ _ _ hh⟩, [], rfl, rfl⟩
theorem eop_appendB {t : TypeId} {x y : Operand} {r n c sz by_ m : Nat} {cs news : List Value} {e : TypeId} {K : AV → AS → Prop} (ht : vinfo P t = some (e, sz, by_)) (hx : s.eval x = .sub r 0 n c sz) (hσ : s.st r = .buf cs e) (hy : Src s sz (s.eval y) news m)
    (hnc : n ≤ c) (hcs : cs.length = c * sz) (hc0 : 0 < c) (hb : (n + m) * by_ ≤ 140737488355328)
    (h1 : OneC news) (hroom : n + m ≤ c → K (.sub r 0 (n + m) c sz) (s.set r (.buf (cs.take (n * sz) ++ news ++ cs.drop ((n + m) * sz)) e)))
    (hgrow : c < n + m → ∀ c' (zs : List Value), n + m ≤ c' → c' ≤ 9223372036854775807 → zs.length = (c' - (n + m)) * sz → K (.sub s.nx 0 (n + m) c' sz) (s.ext (some (.buf (cs.take (n * sz) ++ news ++ zs) e)))) :
    EOp P s (.call { callee := .builtin .append, args := #[x, y], argTypes := #[t, t] }) K := by
  intro X0 ac w X oper ho hc Q
  have hw0 := hc.w
  subst hw0
  have hX : X.σ r = .buf cs e := by rw [hc.σ, hσ]
  have hx2 := hc.eval x
  rw [hx] at hx2
  obtain ⟨b, A, hm, hh, hxv, hA⟩ := qfa hc.sr (show RC X (.sub r 0 n c sz) [ac.eval x] from hx2) hX
  obtain rfl := hA hc0
  rw [Nat.zero_mul] at hxv
  obtain ⟨hut, i, z, hi, hzz, hsz, hby, hzs, hsz0, hby0, hz1⟩ := qbm ht
  obtain ⟨A2, cap2, hyv, hA2⟩ := src_cells hc hy (hc.eval y)
  have hnl : news.length = m * sz := hy.1
  have hbig : n + m ≤ 140737488355328 := Nat.le_trans (Nat.le_mul_of_pos_right _ hby0) hb
  by_cases hm0 : m = 0
  · subst hm0
    have hn0 : news = [] := List.eq_nil_of_length_eq_zero (by rw [hnl]; simp)
    have hK0 := hroom (by omega)
    rw [hn0, List.append_nil, Nat.add_zero, List.take_append_drop, AS.set_same hσ] at hK0
    have hr := qdt (P := P) (w := X.w) (t := t) (ty := oper.type) hut hi (some ⟨b, 0, none⟩) A2 n c cap2 hnc
    refine qbb (w' := X.w) (v := .slice (some ⟨b, 0, none⟩) n c) (by simp [execOp, ho, resolve, invoke, builtin, hxv, hyv, hr]) ⟨_, .sub r 0 n c sz, _, _, rfl, hK0, hc, ?_⟩
    rw [← hxv]; exact hx2
  · obtain ⟨a2, rfl, hsrc⟩ := hA2 (by omega) hsz0
    have htl : (cs.take (n * sz)).length = n * sz := by
      rw [List.length_take, hcs]
      exact Nat.min_eq_left (Nat.mul_le_mul_right _ hnc)
    by_cases hroom2 : n + m ≤ c
    · have hr := run_append_room (P := P) (w := X.w) t oper.type e i hut hi b n c cs.toArray hh a2 m cap2 news (by rw [hnl, hsz]) hsrc h1 hroom2 (by
        rw [hsz, hnl, ← Nat.add_mul]
        simpa [hcs] using Nat.mul_le_mul_right sz hroom2)
      rw [hsz, hnl, ← Nat.add_mul] at hr
      have hT := buf_turns (cs' := cs.take (n * sz) ++ news ++ cs.drop ((n + m) * sz)) hc.sr hX hm hh
      refine qbb (w' := X.w.setRow b (cs.take (n * sz) ++ news ++ cs.drop ((n + m) * sz)).toArray) (v := .slice (some ⟨b, 0, none⟩) (n + m) c) (by simp [execOp, ho, resolve, invoke, builtin, hxv, hyv, hr])
        ⟨_, .sub r 0 (n + m) c sz, _, _, rfl, hroom hroom2, qep (v := X.μ r) hc (by rw [hσ]; simp) hT ⟨b, hm, setRow_heap _ _ _ _ _ _ hh⟩, ?_⟩
      exact sub_turn hm fun _ => by simp
    · have hg : c < n + m := by omega
      have hr := run_append_grow (P := P) X.w t oper.type e i z hut hi hzz ⟨b, 0, none⟩ n c (cs.take (n * sz)) (by rw [htl, hsz]) (fun j u hj => by
        rw [qbf, Nat.zero_add, cell_cells hh]
        rw [List.getElem?_take] at hj
        split at hj
        · exact hj
        · cases hj) a2 m cap2 news (by rw [hnl, hsz]) hsrc hg (by omega) (growslice_fits hg (by rw [hby]; exact hb))
      obtain ⟨cap3, hcap⟩ : ∃ cap3, cap3 = grownCap X.w (n + m) c e := ⟨_, rfl⟩
      rw [← hcap] at hr
      have hge : n + m ≤ cap3 := by rw [hcap]; exact grownCap_ge _ _ _ _
      have hcm : cap3 ≤ 9223372036854775807 := by rw [hcap]; exact grownCap_le_maxLen _ _ _ _ (by unfold maxLen; omega)
      obtain ⟨zs, hzs'⟩ : ∃ zs, zs = (Builtin.zeroCells z.cells (cap3 - (n + m))).toList := ⟨_, rfl⟩
      have hzl : zs.length = (cap3 - (n + m)) * sz := by rw [hzs']; simp [Builtin.zeroCells, hzs]
      have harr : (cs.take (n * sz)).toArray ++ news.toArray ++ Builtin.zeroCells z.cells (cap3 - (n + m)) = (cs.take (n * sz) ++ news ++ zs).toArray := by
        rw [hzs']; simp
      rw [harr] at hr
      have hE : Ext X.w X.w.drew := (Ext.refl X.w).drew
      have hS1 := later_sr hc.sr hE
      have hF1 := qer hc.sr hE
      have hu1 : (X.later X.w.drew).σ s.nx = .unborn := by show X.σ s.nx = _; rw [hc.σ]; exact s.fin _ (Nat.le_refl _)
      have hv1 : (AB.buf (cs.take (n * sz) ++ news ++ zs) e).blk (.map (some X.w.drew.heap.size)) = some X.w.drew.heap.size := rfl
      have hF2 := qfl hS1 (cs := (cs.take (n * sz) ++ news ++ zs).toArray) (t := e) hu1 hv1
      have hS2 := born_sr hS1 (cs := (cs.take (n * sz) ++ news ++ zs).toArray) (t := e) hu1 hv1 ⟨_, rfl, heap_alloc_new X.w.drew _⟩
      refine qbb (w' := X.w.drew.alloc (.cells (cs.take (n * sz) ++ news ++ zs).toArray e)) (v := .slice (some ⟨X.w.heap.size, 0, none⟩) (n + m) cap3) (by simp only [execOp, ho]; simp [resolve, invoke, builtin, hxv, hyv]; rw [hr]; simp)
        ⟨_, .sub s.nx 0 (n + m) cap3 sz, s.ext (some (.buf (cs.take (n * sz) ++ news ++ zs) e)), _, rfl, hgrow hg cap3 zs hge hcm hzl, ⟨rfl, ?_, hS2, hc.fr.trans (hF1.trans hF2), hc.size, fun d => (hc.regs d).fr (hF1.trans hF2), hc.defers, hc.fin⟩, ?_⟩
      · show upd X.σ s.nx _ = _
        rw [hc.σ]
        exact qfi s.σ s.n0 s.L _
      · show RC _ (.sub _ _ _ _ _) [_]
        rw [RC]
        refine ⟨by simp [St.born, upd], _, rfl, rfl, fun xs e2 h => ?_⟩
        exact ⟨X.w.heap.size, _, by simp [St.born, upd], rfl, fun _ => by simp⟩
end
theorem run_ovl_apart {P : Program} (w : World) (tS tR e : TypeId) (ht : P.underlying tS = some (.slice e)) (size : Nat) (hz : ∀ w, (Go.sizeOf e).run P w = .ok size w) (a b : Addr) (la ca lb cb : Nat) (hne : a.block ≠ b.block)
    {csA csB : Array Value} {tA tB : TypeId} {fzA : Nat × Nat} (hA : w.heap[a.block]? = some (.cells csA tA fzA)) (hB : w.heap[b.block]? = some (.cells csB tB (0, 0))) (hkA : csA.size ≠ 0) (hkB : csB.size ≠ 0) :
    (Extern.SlicesOverlaps.overlaps #[tS, tS] #[tR] #[.slice (some a) la ca, .slice (some b) lb cb]).run P w = .ok (.bool false) w ∧ (Extern.SlicesOverlaps.overlaps #[tS, tS] #[tR] #[.slice (some b) lb cb, .slice (some a) la ca]).run P w = .ok (.bool false) w := by
  have hsa : w.shape? a.block = some (tA, csA.size) := by simp [World.shape?, hA]
  have hsb : w.shape? b.block = some (tB, csB.size) := by simp [World.shape?, hB]
  have hfb : ∀ o, w.frozen? { block := b.block, off := o } = false := fun o => by simp [World.frozen?, hB]
  have hfb2 : w.frozen? b = false := by simp [World.frozen?, hB]
  obtain ⟨k, hk⟩ : ∃ k, csB.size = k + 1 := ⟨csB.size - 1, by omega⟩
  rw [hk] at hsb
  have hfk := hfb (k + 1)
  have h1 : (a.block != b.block) = true := by simpa using hne
  have h2 : (a.block == b.block) = false := by simpa using hne
  have h3 : (b.block != a.block) = true := by simpa using Ne.symm hne
  have h4 : (b.block == a.block) = false := by simpa using Ne.symm hne
  obtain ⟨kA, hkA'⟩ : ∃ k, csA.size = k + 1 := ⟨csA.size - 1, by omega⟩
  rw [hkA'] at hsa
  generalize hfa : w.frozen? a = fa at *
  generalize hfe : w.frozen? { block := a.block, off := kA + 1 } = fe at *
  constructor
  · change Sem.run P (α := Value) (do
      let some t := (#[tS, tS] : Array TypeId)[0]? | stuck "slices.overlaps: no parameter types"
      let .slice elem ← underlying t | stuck "slices.overlaps: slice type expected"
      let size ← sizeOf elem
      match (some a : Option Addr), (some b : Option Addr) with
      | some a, some b =>
        if la = 0 ∨ lb = 0 ∨ size = 0 then pure (Value.bool false)
        else if a.block != b.block && (← frozen a) && (← frozen b) then unsupported .addressObserved
        else do
          if a.block != b.block then do
            noView a; noView b
            if ← mayBeOne a b then return Value.bool ((← choose (.extern "sameAddr.stringBytes" 2)) == 1)
          pure (Value.bool (a.block == b.block && a.off < b.off + lb * size && b.off < a.off + la * size))
      | _, _ => pure (Value.bool false)) w = _
    by_cases h0 : la = 0 ∨ lb = 0 ∨ size = 0
    · simp [run_underlying ht, hz, h0]
    · cases fa <;> cases fe <;> simp [run_underlying ht, hz, h0, h1, h2, frozen, noView, viewAt, mayBeOne, stringish, shape, Sem.run, hsa, hsb, hfa, hfe, hfb2, hfk]
  · change Sem.run P (α := Value) (do
      let some t := (#[tS, tS] : Array TypeId)[0]? | stuck "slices.overlaps: no parameter types"
      let .slice elem ← underlying t | stuck "slices.overlaps: slice type expected"
      let size ← sizeOf elem
      match (some b : Option Addr), (some a : Option Addr) with
      | some a, some b =>
        if lb = 0 ∨ la = 0 ∨ size = 0 then pure (Value.bool false)
        else if a.block != b.block && (← frozen a) && (← frozen b) then unsupported .addressObserved
        else do
          if a.block != b.block then do
            noView a; noView b
            if ← mayBeOne a b then return Value.bool ((← choose (.extern "sameAddr.stringBytes" 2)) == 1)
          pure (Value.bool (a.block == b.block && a.off < b.off + la * size && b.off < a.off + lb * size))
      | _, _ => pure (Value.bool false)) w = _
    by_cases h0 : lb = 0 ∨ la = 0 ∨ size = 0
    · simp [run_underlying ht, hz, h0]
    · cases fa <;> cases fe <;> simp [run_underlying ht, hz, h0, h3, h4, frozen, noView, viewAt, mayBeOne, stringish, shape, Sem.run, hsa, hsb, hfa, hfe, hfb2, hfk]
def OvlF (P : Program) (f : FuncId) : Prop := ∃ fn tS tR e size, P.funcs[f]? = some fn ∧ (fn.name == "runtime.NumGoroutine") = false ∧ fn.body.isNone = true ∧ Extern.findNext fn = none ∧ Extern.find fn = some (Extern.SlicesOverlaps.overlaps #[tS, tS] #[tR]) ∧ P.underlying tS = some (.slice e) ∧ ∀ w, (Go.sizeOf e).run P w = .ok size w
section
variable {P : Program} {s : AS}
theorem eop_overlaps {f : FuncId} {x y p q : Operand} {tys : Array TypeId} {r a n c sz : Nat} {cs : List Value} {e : TypeId} {l : List AV} {K : AV → AS → Prop} (hf : OvlF P f) (hpq : (p = x ∧ q = y) ∨ (p = y ∧ q = x)) (hx : s.eval x = .sub r a n c sz) (hσ : s.st r = .buf cs e) (hcs : cs ≠ []) (hy : s.eval y = .sl l) (hw : ∀ z ∈ l, 0 < z.width) (hnc : n ≤ c)
    (hK : K (.v (.bool false)) s) : EOp P s (.call { callee := .value (.func f), args := #[p, q], argTypes := tys }) K := by
  intro X0 ac w X oper ho hc Q
  have hw0 := hc.w
  subst hw0
  obtain ⟨fn, tS, tR, e1, size, h1, h2, h3, h4, h5, h6, h7⟩ := hf
  have hX : X.σ r = .buf cs e := by rw [hc.σ, hσ]
  have hx2 := hc.eval x
  rw [hx] at hx2
  obtain ⟨b, A, hm, hh, hxv, hA⟩ := qfa hc.sr (show RC X (.sub r a n c sz) [ac.eval x] from hx2) hX
  obtain ⟨A2, cap2, b2, off2, hyv, hc1, hc2, hA2, hmm⟩ := RR.list (x := .sl l) rfl (by rw [← hy]; exact hc.eval y)
  have hov : (Extern.SlicesOverlaps.overlaps #[tS, tS] #[tR] #[ac.eval p, ac.eval q]).run P X.w = .ok (.bool false) X.w := by
    by_cases hz : n = 0 ∨ l.length = 0
    · have : ∀ (A A' : Option Addr) (la lb ca cb : Nat), (la = 0 ∨ lb = 0) → (Extern.SlicesOverlaps.overlaps #[tS, tS] #[tR] #[.slice A la ca, .slice A' lb cb]).run P X.w = .ok (.bool false) X.w := fun A A' la lb ca cb h0 => by
        have h0' : la = 0 ∨ lb = 0 ∨ size = 0 := by rcases h0 with h | h <;> simp [h]
        change Sem.run P (α := Value) (do
          let some t := (#[tS, tS] : Array TypeId)[0]? | stuck "slices.overlaps: no parameter types"
          let .slice elem ← underlying t | stuck "slices.overlaps: slice type expected"
          let size ← sizeOf elem
          match A, A' with
          | some a, some b =>
            if la = 0 ∨ lb = 0 ∨ size = 0 then pure (Value.bool false)
            else if a.block != b.block && (← frozen a) && (← frozen b) then unsupported .addressObserved
            else do
              if a.block != b.block then do
                noView a; noView b
                if ← mayBeOne a b then return Value.bool ((← choose (.extern "sameAddr.stringBytes" 2)) == 1)
              pure (Value.bool (a.block == b.block && a.off < b.off + lb * size && b.off < a.off + la * size))
          | _, _ => pure (Value.bool false)) X.w = _
        cases A <;> cases A' <;> simp [run_underlying h6, h7, h0']
      rcases hpq with ⟨rfl, rfl⟩ | ⟨rfl, rfl⟩
      · rw [hxv, hyv]; exact this _ _ _ _ _ _ hz
      · rw [hxv, hyv]; exact this _ _ _ _ _ _ hz.symm
    · obtain rfl := hA (by omega)
      obtain rfl := hA2 (by omega)
      cases l with
      | nil => simp at hz
      | cons z l =>
        rw [RM] at hmm
        obtain ⟨⟨zs, h8, h9⟩, -⟩ := hmm
        have hzl := RC.length _ _ h9
        have hzw := hw z (by simp)
        cases zs with
        | nil => simp at hzl; omega
        | cons u us =>
          obtain ⟨h10, h11, -⟩ := h8
          have hbr : X.blk r = some b := by unfold St.blk; rw [hX, hm]; rfl
          have hne : b2 ≠ b := fun e' => by
            subst e'
            obtain ⟨_, e', s2, h12, -⟩ := hc.sr.apart r b2 off2 hbr h11
            rw [hX] at h12; cases h12
          have hcell : ∃ csA tA fzA, X.w.heap[b2]? = some (.cells csA tA fzA) ∧ csA.size ≠ 0 := by
            unfold World.cell? at h10
            split at h10
            · rename_i csA tA fzA hh2
              refine ⟨csA, tA, fzA, hh2, fun h0 => ?_⟩
              dsimp only at h10
              rw [Array.getElem?_eq_none (by omega)] at h10; cases h10
            · cases h10
          obtain ⟨csA, tA, fzA, hA3, hkA⟩ := hcell
          have hlc : cs.length ≠ 0 := fun h => hcs (List.eq_nil_of_length_eq_zero h)
          have := run_ovl_apart (P := P) X.w tS tR e1 h6 size h7 ⟨b2, off2, none⟩ ⟨b, a * sz, none⟩ (z :: l).length cap2 n c hne hA3 hh hkA (by simpa using hlc)
          rcases hpq with ⟨rfl, rfl⟩ | ⟨rfl, rfl⟩
          · rw [hxv, hyv]; exact this.2
          · rw [hxv, hyv]; exact this.1
  have hrun : (callFunc f #[ac.eval p, ac.eval q]).run P X.w = .ok (.value (.bool false)) X.w := by
    rw [run_callFunc_extern h1 h2 h3 h4 h5, hov]; rfl
  have he : ac.eval (.func f) = .func (.func f) #[] #[] := rfl
  exact qbb (w' := X.w) (v := .bool false) (by simp [execOp, ho, resolve, he, Deferred.ofValue, invoke, hrun]) ⟨_, .v (.bool false), _, _, rfl, hK, hc, RR.v.2 rfl⟩
end
theorem raw_back1 {X : St} : ∀ {l : List AV}, (l.all fun | .v x => x.oneCell' | _ => false) = true → R1s X l (l.flatMap fun | .v x => [x] | _ => [])
  | [], _ => by rw [R1s]; rfl
  | y :: l, h1 => by
    rw [List.all_cons, Bool.and_eq_true] at h1
    cases y with
    | v x =>
      rw [R1s]
      exact ⟨x, _, rfl, h1.1, by rw [RC], raw_back1 h1.2⟩
    | _ => exact absurd h1.1 (by simp)
theorem raw_back {X : St} : ∀ {l : List AV}, l.all rawOk = true → RCs X l (rawsL l)
  | [], _ => by rw [RCs]; rfl
  | x :: l, h1 => by
    rw [List.all_cons, Bool.and_eq_true] at h1
    rw [RCs]
    refine ⟨rawC x, rawsL l, by simp [rawsL], ?_, raw_back h1.2⟩
    cases x with
    | v x => rw [RC]; rfl
    | agg l => rw [RC]; exact raw_back1 h1.1
    | _ => cases h1.1
theorem qek {sz : Nat} : ∀ {l : List AV}, l.all rawOk = true → AV.wid l sz → (rawsL l).length = l.length * sz
  | [], _, _ => by simp [rawsL]
  | x :: l, h1, h2 => by
    have h3 := h2 x (by simp)
    rw [List.all_cons, Bool.and_eq_true] at h1
    have ih := qek (sz := sz) h1.2 fun y hy => h2 y (List.mem_cons_of_mem _ hy)
    have h4 : (rawC x).length = x.width := by
      have hb : RCs ({ w := default, μ := fun _ => undef, S := fun _ _ => False, σ := fun _ => .unborn } : St) [x] (rawsL [x]) := raw_back (by simp [h1.1])
      rw [RCs] at hb
      obtain ⟨c1, c2, he, h5, h6⟩ := hb
      rw [RCs] at h6
      subst h6
      have : rawsL [x] = rawC x := by simp [rawsL]
      rw [this, List.append_nil] at he
      rw [he]; exact RC.length _ _ h5
    rw [List.length_cons, Nat.succ_mul]
    unfold rawsL at ih ⊢
    rw [List.flatMap_cons, List.length_append, ih, h4, h3]; omega
theorem qy (a b : List AV) : rawsL (a ++ b) = rawsL a ++ rawsL b := by unfold rawsL; rw [List.flatMap_append]
theorem con_freezeB {X0 X : St} {s : AS} {a : Act} {w : World} (hc : Con X0 s a w X) {r n c sz : Nat} {cs : List Value} {e : TypeId} {l : List AV} (hσ : s.st r = .buf cs e) (hl : l.all rawOk = true) (hw : AV.wid l sz) (hn : l.length = n) (hnc : n ≤ c) (hc63 : c ≤ 9223372036854775807) (hcs : cs.take (n * sz) = rawsL l) :
    ∃ X', X'.w = X.w ∧ Con X0 (s.set r .dead) a w X' ∧ Fr X X' ∧ ∀ v, RC X (.sub r 0 n c sz) [v] → RC X' (.sl l) [v] := by
  have hX : X.σ r = .buf cs e := by rw [hc.σ, hσ]
  have hlt : r < s.nx := Nat.lt_of_not_le fun h => by have := s.fin r h; rw [hσ] at this; cases this
  have hB := hc.sr.block r
  rw [hX] at hB
  obtain ⟨b0, hm, hh⟩ := hB
  have hbr : X.blk r = some b0 := by unfold St.blk; rw [hX, hm]; rfl
  let X' : St := { X with S := fun b o => X.S b o ∨ (b = b0 ∧ o < n * sz), σ := upd X.σ r .dead }
  have hσ2 : X'.σ r = .dead := by simp [X', upd]
  have hσ3 : ∀ k, k ≠ r → X'.σ k = X.σ k ∧ X'.μ k = X.μ k := fun k h1 => by simp [X', upd, h1]
  have hb : ∀ k b, X'.blk k = some b → k ≠ r ∧ X.blk k = some b := fun k b h => by
    unfold St.blk at h
    by_cases h2 : k = r
    · subst h2; rw [hσ2] at h; cases h
    · obtain ⟨e1, e2⟩ := hσ3 k h2
      rw [e1, e2] at h
      exact ⟨h2, h⟩
  have hF : Fr X X' := ⟨rfl, rfl, rfl, Nat.le_refl _, fun _ _ _ => rfl, fun _ _ _ => rfl, fun _ _ h => .inl h, fun b o h => by
    rcases h with h | h
    · exact .inl h
    · exact .inr (.inr ⟨r, by rw [h.1]; exact hbr⟩), fun k => by
    unfold Ver
    by_cases h2 : k = r
    · subst h2; rw [hX]; exact .inl hσ2
    · obtain ⟨e1, e2⟩ := hσ3 k h2
      have := (Fr.refl X).ver k
      unfold Ver at this
      rw [e1, e2]; exact this, fun k b h => .inr ⟨k, (hb k b h).2⟩⟩
  refine ⟨X', rfl, ⟨hc.w, ?_, ⟨fun k => ?_, fun k k' b h1 h2 => hc.sr.alone _ _ b (hb k b h1).2 (hb k' b h2).2, fun k b o h1 h2 => ?_, fun b o h => ?_, hc.sr.glob.mono fun _ _ _ h => h.fr hF⟩, hc.fr.trans hF, ?_, fun d => ?_, hc.defers, ?_⟩, hF, fun v hv => ?_⟩
  · rw [AS.set_st _ _ _ hlt, ← hc.σ]
  · by_cases h2 : k = r
    · subst h2; rw [hσ2]; trivial
    · obtain ⟨e1, e2⟩ := hσ3 k h2
      exact BR.fr hc.sr hF e1 e2 fun _ _ => rfl
  · obtain ⟨h3, h4⟩ := hb k b h1
    rcases h2 with h2 | h2
    · obtain ⟨n2, e2, s2, h6, h7⟩ := hc.sr.apart k b o h4 h2
      exact ⟨n2, e2, s2, by rw [(hσ3 k h3).1]; exact h6, h7⟩
    · exact absurd (hc.sr.alone _ _ b h4 (by rw [h2.1]; exact hbr)) h3
  · rcases h with h | h
    · exact hc.sr.old b o h
    · rw [h.1]; exact hc.sr.lt hbr
  · have := (s.set_nx r .dead).1
    show _ = (s.set r .dead).n
    rw [this]; exact hc.size
  · have := (s.set_nx r .dead).2.2
    show RR X' ((s.set r .dead).t d) _
    rw [this]; exact (hc.regs d).fr hF
  · have := (s.set_nx r .dead).2.1
    show Fin _ (s.set r .dead).n0
    rw [this]; exact hc.fin
  · obtain ⟨b, A, h1, h2, rfl, hA⟩ := qfa hc.sr hv hX
    rw [hm] at h1; cases h1
    rw [RC]
    refine ⟨A, c, b0, 0, by rw [hn], by omega, hc63, fun h => by rw [hA (by omega), Nat.zero_mul], ?_⟩
    refine RM.of (RCs.fr hF _ _ (raw_back hl)) (qei _ 0 fun j u hj => ⟨?_, .inr ⟨rfl, ?_⟩⟩)
    · show X.w.cell? _ = _
      rw [cell_cells hh, Nat.zero_add]
      rw [← hcs, List.getElem?_take] at hj
      split at hj
      · exact hj
      · cases hj
    · have := (List.getElem?_eq_some_iff.1 hj).1
      rw [qek hl hw, hn] at this
      omega
theorem qr {P : Program} {cd : Code} {Q : Exit → AS → Prop} {s : AS} (d : Nat) {r n c sz : Nat} {cs : List Value} {e : TypeId} (l : List AV) (hd : s.t d = .sub r 0 n c sz) (hσ : s.st r = .buf cs e) (hl : l.all rawOk = true) (hw : AV.wid l sz) (hn : l.length = n) (hnc : n ≤ c) (hc63 : c ≤ 9223372036854775807) (hcs : cs.take (n * sz) = rawsL l)
    (h : awp P cd Q { s.set r .dead with t := upd s.t d (.sl l) }) : awp P cd Q s := by
  intro X0 a w ⟨X, hc⟩
  obtain ⟨X', hXw, hc', hF, hR⟩ := con_freezeB hc hσ hl hw hn hnc hc63 hcs
  refine h X0 a w ⟨X', ⟨hc'.w, hc'.σ, hc'.sr, hc'.fr, hc'.size, fun j => ?_, hc'.defers, hc'.fin⟩⟩
  show RR X' (upd s.t d _ j) _
  unfold upd
  by_cases hj : j = d
  · subst hj
    rw [if_pos rfl]
    have := hc.regs j
    rw [hd] at this
    exact hR _ this
  · rw [if_neg hj]
    have := hc'.regs j
    rw [(s.set_nx r .dead).2.2] at this
    exact this
theorem ac_thaw {P : Program} {f : FuncId} {args : List AV} {σ : Nat → AB} {r n sz : Nat} {l L : List AV} {e : TypeId} (hσ : σ r = .vec l e sz) (hn : n = l.length) (h0 : l ≠ []) (hsz : 0 < sz) (hl : l.all rawOk = true) (hw : AV.wid l sz) (hL : ∀ m, AV.cls m L)
    (h : ∀ r' c (rest : List Value), r' ≠ r → σ r' = .unborn → n ≤ c → c ≤ 9223372036854775807 → rest.length = (c - n) * sz →
      AC P f (.sub r' 0 n c sz :: args) (upd (upd σ r .dead) r' (.buf (rawsL l ++ rest) e)) fun y τ => y = .sl L ∧ τ = upd (upd (upd σ r .dead) r' (.buf (rawsL l ++ rest) e)) r' .dead) :
    AC P f (.own r n :: args) σ fun y τ => y = .sl L ∧ τ = upd σ r .dead := by
  intro X vals nx hS hXσ hfin hargs
  subst hXσ
  obtain ⟨v0, vs, rfl, h1, h2⟩ := hargs
  subst hn
  have h1' : RC X (.own r l.length) [v0] := h1
  rw [RC] at h1'
  obtain ⟨-, w0, hw0, -, hall⟩ := h1'
  have hvm : v0 = X.μ r := by
    have := (hall _ _ _ hσ).2 rfl
    rw [← this]; simpa using hw0
  have hun : X.σ nx = .unborn := hfin nx (Nat.le_refl _)
  have hrn : r ≠ nx := fun e => by rw [e, hun] at hσ; cases hσ
  have hrlt : r < nx := Nat.lt_of_not_le fun hle => by rw [hfin r hle] at hσ; cases hσ
  have hB := hS.block r
  rw [hσ] at hB
  obtain ⟨-, xs, hown, hrs⟩ := hB
  obtain ⟨rfl, -⟩ := raws_rc hl hrs
  have hpos : 0 < l.length := List.length_pos_iff.2 h0
  rcases hown.2 with ⟨h5, h6⟩ | ⟨g, cap, cur, h5, -, h7, h8, h9, h10, h11⟩
  · omega
  have hbr : X.blk r = some g := by unfold St.blk; rw [hσ, h5]; rfl
  have hlen := qek hl hw
  obtain ⟨rest, hrest⟩ : ∃ rest, rest = cur.toList.drop (l.length * sz) := ⟨_, rfl⟩
  have hcur : cur.toList = rawsL l ++ rest := by rw [hrest, ← h11, List.take_append_drop]
  have hrl : rest.length = (cap - l.length) * sz := by
    rw [hrest, List.length_drop, Array.length_toList, h10, Nat.sub_mul]
  let X1 : St := { X with μ := upd X.μ nx (.map (some g)), σ := upd (upd X.σ r .dead) nx (.buf (rawsL l ++ rest) e) }
  have hσ1 : X1.σ nx = .buf (rawsL l ++ rest) e := by simp [X1, upd]
  have hσ2 : X1.σ r = .dead := by simp [X1, upd, hrn]
  have hσ3 : ∀ k, k ≠ r → k ≠ nx → X1.σ k = X.σ k ∧ X1.μ k = X.μ k := fun k h1 h2 => by simp [X1, upd, h1, h2]
  have hμ1 : X1.μ nx = .map (some g) := by simp [X1, upd]
  have hb : ∀ k b, X1.blk k = some b → (k = nx ∧ X.blk r = some b) ∨ (k ≠ r ∧ k ≠ nx ∧ X.blk k = some b) := fun k b h => by
    unfold St.blk at h
    by_cases h1 : k = nx
    · subst h1
      rw [hσ1, hμ1] at h
      exact .inl ⟨rfl, hbr.trans h⟩
    · by_cases h2 : k = r
      · subst h2; rw [hσ2] at h; cases h
      · obtain ⟨e1, e2⟩ := hσ3 k h2 h1
        rw [e1, e2] at h
        exact .inr ⟨h2, h1, h⟩
  have hF : Fr X X1 := ⟨rfl, rfl, rfl, Nat.le_refl _, fun _ _ _ => rfl, fun _ _ _ => rfl, fun _ _ h => h, fun b o h => .inl h, fun k => by
    unfold Ver
    by_cases h1 : k = nx
    · subst h1; rw [hun]; trivial
    · by_cases h2 : k = r
      · subst h2; rw [hσ]; exact .inl hσ2
      · obtain ⟨e1, e2⟩ := hσ3 k h2 h1
        have := (Fr.refl X).ver k
        unfold Ver at this
        rw [e1, e2]; exact this, fun k b h => by
    rcases hb k b h with ⟨-, h⟩ | ⟨-, -, h⟩
    · exact .inr ⟨r, h⟩
    · exact .inr ⟨k, h⟩⟩
  have hS1 : SR X1 := by
    refine ⟨fun k => ?_, fun k k' b h1 h2 => ?_, fun k b o h1 h2 => ?_, fun b o h => hS.old b o h, hS.glob.mono fun _ _ _ h => h.fr hF⟩
    · by_cases h1 : k = nx
      · subst h1; rw [hσ1, hμ1]
        exact ⟨g, rfl, by show X.w.heap[g]? = _; rw [h7, ← hcur]⟩
      · by_cases h2 : k = r
        · subst h2; rw [hσ2]; trivial
        · obtain ⟨e1, e2⟩ := hσ3 k h2 h1
          exact BR.fr hS hF e1 e2 fun _ _ => rfl
    · rcases hb k b h1 with ⟨rfl, h3⟩ | ⟨h3, h4, h5⟩ <;> rcases hb k' b h2 with ⟨rfl, h6⟩ | ⟨h6, h7, h8⟩
      · rfl
      · exact absurd (hS.alone _ _ b h8 h3) h6
      · exact absurd (hS.alone _ _ b h5 h6) h3
      · exact hS.alone _ _ b h5 h8
    · rcases hb k b h1 with ⟨rfl, h3⟩ | ⟨h3, h4, h5⟩
      · obtain ⟨_, e, s2, h6, h7⟩ := hS.apart r b o h3 h2
        rw [hσ] at h6; cases h6
      · obtain ⟨n2, e, s2, h6, h7⟩ := hS.apart k b o h5 h2
        exact ⟨n2, e, s2, by rw [(hσ3 k h3 h4).1]; exact h6, h7⟩
  have hfin1 : Fin X1.σ (nx + 1) := fun k hk => by
    obtain ⟨e1, -⟩ := hσ3 k (by omega) (by omega)
    rw [e1]; exact hfin k (by omega)
  have harg : RR1 X1 (.sub nx 0 l.length cap sz) v0 := by
    show RC X1 (.sub nx 0 l.length cap sz) [v0]
    rw [RC]
    refine ⟨by rw [hσ1]; simp, _, rfl, by rw [hvm, h5]; rfl, fun xs e2 h => ⟨g, _, hμ1, by rw [hvm, h5], fun _ => by simp⟩⟩
  refine (h nx cap rest (Ne.symm hrn) hun h8 (by unfold maxLen at h9; omega) hrl X1 (v0 :: vs) (nx + 1) hS1 rfl hfin1 ⟨v0, vs, rfl, harg, h2.fr hF⟩).mono ?_
  rintro e' w' ⟨Y, v, y, rfl, rfl, ⟨rfl, hσY⟩, hSY, hFY, hR⟩
  have hYk : ∀ k, k < nx → Y.σ k = upd X.σ r .dead k := fun k hk => by
    rw [hσY]
    have h12 : k ≠ nx := by omega
    simp [upd, h12]
  refine ⟨Y.cut nx, v, .sl L, rfl, rfl, ⟨rfl, ?_⟩, hSY.cut fun k hk => ?_, (hF.trans hFY).cut hfin, ?_⟩
  · funext k
    show Proofs.YtbkkjlcclddpdaaGreatDoor.cut nx Y.σ k = _
    unfold Proofs.YtbkkjlcclddpdaaGreatDoor.cut
    split
    · exact hYk k ‹_›
    · rename_i hk
      have h13 : k ≠ r := by omega
      rw [show upd X.σ r .dead k = X.σ k by simp [upd, h13]]
      exact (hfin k (by omega)).symm
  · rw [hYk k hk]
    unfold upd
    split
    · trivial
    · exact BR.cl hfin (hS.block k)
  · have hR' : RC Y (.sl L) [v] := hR
    exact RC.cut _ _ (by rw [AV.cl]; exact hL nx) hR'
end Go.Proofs.YtbkkjlcclddpdaaGreatDoor

/- Slices over known rows: three indexes, and an append of new zeros that grows. -/
namespace Go.Proofs.YtbkkjlcclddpdaaGreatDoor
open Go.RowKit Go.Lib
theorem fop_slice3B {P : Program} {ev : Operand → AV} {σ : Nat → AB} {t e : TypeId} {x ox oy oz : Operand} {r a n c sz l h m : Nat} {cs : List Value} {e' : TypeId} {ag : Bool} (ht : einfo P t = some e) (hs : tinfo P e = some (ag, sz)) (hx : ev x = .sub r a n c sz) (hσ : σ r = .buf cs e')
    (hlo : bnd ev (some ox) 0 l) (hhi : bnd ev (some oy) n h) (hmx : bnd ev (some oz) 0 m) (h1 : l ≤ h) (h2 : h ≤ m) (h3 : m ≤ c) :
    FOp P ev σ (.slice t x (some ox) (some oy) (some oz)) (.sub r (a + l) (h - l) (m - l) sz) none := FOp.of fun X ac oper ho hS hsub hev => by
  have hx2 := hev x (by simp [Op.operands])
  rw [hx] at hx2
  change RC X (.sub r a n c sz) [ac.eval x] at hx2
  have hun : X.σ r ≠ .unborn := by rw [RC] at hx2; exact hx2.1
  have hX := hsub.buf hσ hun
  obtain ⟨b, A, hm, -, hv', hA⟩ := qfa hS hx2 hX
  have hl : bndV ac (some ox) 0 l := qgd (fun o h => hev o (by cases h; simp [Op.operands])) hlo
  have hh : bndV ac (some oy) n h := qgd (fun o h => hev o (by cases h; simp [Op.operands])) hhi
  have hmm : bndV ac (some oz) 0 m := qgd (fun o h => hev o (by cases h; simp [Op.operands])) hmx
  unfold bndV at hl hh hmm
  have hu := qbx ht
  have hsz := (qca hs X.w).2
  obtain ⟨k1, hz⟩ := hl
  obtain ⟨k2, hy⟩ := hh
  obtain ⟨k3, hw⟩ := hmm
  have hrun : (execOp ac.eval oper).run P X.w = .ok (.value (.slice (if m = l then A else A.map (·.add (l * sz))) (h - l) (m - l))) X.w := by
    simp [execOp, ho, hv', Instr.sliceAt, underlying, hu, Instr.slice, Instr.sliceBounds, Instr.sliceBound, hz, hy, hw, asIntOf, h1, hsz, h2, h3]
  refine ⟨_, hrun, ?_⟩
  show RC X (.sub _ _ _ _ _) [_]
  rw [RC]
  refine ⟨hun, _, rfl, rfl, fun xs e2 h3 => ?_⟩
  refine ⟨b, _, hm, rfl, fun hp => ?_⟩
  rw [if_neg (by omega), hA (by omega)]
  simp [qbf, Nat.add_mul]
theorem run_append_makes {P : Program} (w : World) (t u ty e : TypeId) (i : TypeInfo) (z : Value) (ht : P.underlying t = some (.slice e)) (hut : P.underlying u = some (.int .i64)) (hi : P.info? e = some i) (hz : i.zero = some z)
    (b : Addr) (sLen sCap : Nat) (olds : List Value) (hlo : olds.length = sLen * i.size) (holds : ∀ j v, olds[j]? = some v → w.cell? (b.add j) = some v)
    (n : Nat) (h1 : n * i.bytes ≤ 281474976710656) (hn0 : n * i.size ≠ 0) (hg : sCap < sLen + n) (h63 : ((sLen + n : Nat) : Int) ≤ 9223372036854775807) (hfit : Builtin.nextslicecap (sLen + n) sCap * i.bytes ≤ 281474976710656) :
    (Builtin.append_ #[t, u] ty #[.slice (some b) sLen sCap, .int .i64 (n : Int)]).run P w =
      .ok (.slice (some ⟨w.heap.size, 0, none⟩) (sLen + n) (grownCap w (sLen + n) sCap e))
        (w.drew.alloc (.cells (olds.toArray ++ Builtin.zeroCells z.cells n ++ Builtin.zeroCells z.cells (grownCap w (sLen + n) sCap e - (sLen + n))) e)) := by
  have hn : ¬ (sLen + n ≤ sCap) := by omega
  have hw : IntKind.i64.wrap (n : Int) = n := qd (by omega) (by omega)
  have h1' : ¬ (281474976710656 < (n : Int) * (i.bytes : Int)) := by
    have : (n : Int) * (i.bytes : Int) = ((n * i.bytes : Nat) : Int) := by simp
    rw [this]; omega
  have h2' : ¬ ((n : Int) < 0) := by omega
  have h63' : ¬ (9223372036854775807 < ((sLen : Int) + (n : Int))) := by omega
  have h48' : ¬ (281474976710656 < Builtin.nextslicecap (sLen + n) sCap * i.bytes) := by omega
  have hn1 : n ≠ 0 := fun h => hn0 (by rw [h, Nat.zero_mul])
  have hs1 : i.size ≠ 0 := fun h => hn0 (by rw [h, Nat.mul_zero])
  have hfo := run_firstCells_some (P := P) w.drew i.size sLen b sLen sCap olds hlo (by simpa using holds)
  simp [Builtin.append_, run_underlying ht, run_underlying hut, sizeOf, typeInfo, zeroValue, hi, hz, asInt, asIntOf, hw, h1', h2', hn1, hs1, hn, h63', h48', Question.forced, hfo, newRow, grownCap]
  exact fun h => absurd h hn0
theorem eop_appendZ {P : Program} {s : AS} {t u : TypeId} {x y : Operand} {r n c sz by_ m : Nat} {cs : List Value} {e : TypeId} {K : AV → AS → Prop} (ht : vinfo P t = some (e, sz, by_)) (hu : P.underlying u = some (.int .i64)) (hx : s.eval x = .sub r 0 n c sz) (hσ : s.st r = .buf cs e) (hy : s.eval y = .v (.int .i64 (m : Int)))
    (hnc : n ≤ c) (hcs : cs.length = c * sz) (hc0 : 0 < c) (hm0 : 0 < m) (hb : (n + m) * by_ ≤ 140737488355328) (hg : c < n + m)
    (hgrow : ∀ c' (zs : List Value), n + m ≤ c' → c' ≤ 9223372036854775807 → zs.length = (c' - n) * sz → K (.sub s.nx 0 (n + m) c' sz) (s.ext (some (.buf (cs.take (n * sz) ++ zs) e)))) :
    EOp P s (.call { callee := .builtin .append, args := #[x, y], argTypes := #[t, u] }) K := by
  intro X0 ac w X oper ho hc Q
  have hw0 := hc.w
  subst hw0
  have hX : X.σ r = .buf cs e := by rw [hc.σ, hσ]
  have hx2 := hc.eval x
  rw [hx] at hx2
  obtain ⟨b, A, hm, hh, hxv, hA⟩ := qfa hc.sr (show RC X (.sub r 0 n c sz) [ac.eval x] from hx2) hX
  obtain rfl := hA hc0
  rw [Nat.zero_mul] at hxv
  obtain ⟨hut, i, z, hi, hzz, hsz, hby, hzs, hsz0, hby0, hz1⟩ := qbm ht
  have hyv : ac.eval y = .int .i64 (m : Int) := by
    have := hc.eval y
    rw [hy] at this
    exact RR.v.1 this
  have hbig : n + m ≤ 140737488355328 := Nat.le_trans (Nat.le_mul_of_pos_right _ hby0) hb
  have htl : (cs.take (n * sz)).length = n * sz := by
    rw [List.length_take, hcs]
    exact Nat.min_eq_left (Nat.mul_le_mul_right _ hnc)
  have hr := run_append_makes (P := P) X.w t u oper.type e i z hut hu hi hzz ⟨b, 0, none⟩ n c (cs.take (n * sz)) (by rw [htl, hsz]) (fun j u hj => by
    rw [qbf, Nat.zero_add, cell_cells hh]
    rw [List.getElem?_take] at hj
    split at hj
    · exact hj
    · cases hj) m (by
      rw [hby]
      have : m * by_ ≤ (n + m) * by_ := Nat.mul_le_mul_right _ (by omega)
      omega) (by rw [hsz]; exact Nat.pos_iff_ne_zero.1 (Nat.mul_pos hm0 hsz0)) hg (by omega) (growslice_fits hg (by rw [hby]; exact hb))
  obtain ⟨cap3, hcap⟩ : ∃ cap3, cap3 = grownCap X.w (n + m) c e := ⟨_, rfl⟩
  rw [← hcap] at hr
  have hge : n + m ≤ cap3 := by rw [hcap]; exact grownCap_ge _ _ _ _
  have hcm : cap3 ≤ 9223372036854775807 := by rw [hcap]; exact grownCap_le_maxLen _ _ _ _ (by unfold maxLen; omega)
  obtain ⟨zs, hzs'⟩ : ∃ zs, zs = (Builtin.zeroCells z.cells m).toList ++ (Builtin.zeroCells z.cells (cap3 - (n + m))).toList := ⟨_, rfl⟩
  have hzl : zs.length = (cap3 - n) * sz := by
    have h1 : zs.length = m * sz + (cap3 - (n + m)) * sz := by rw [hzs']; simp [Builtin.zeroCells, hzs]
    rw [h1, ← Nat.add_mul]; congr 1; omega
  have harr : (cs.take (n * sz)).toArray ++ Builtin.zeroCells z.cells m ++ Builtin.zeroCells z.cells (cap3 - (n + m)) = (cs.take (n * sz) ++ zs).toArray := by
    rw [hzs']; simp
  rw [harr] at hr
  have hE : Ext X.w X.w.drew := (Ext.refl X.w).drew
  have hS1 := later_sr hc.sr hE
  have hF1 := qer hc.sr hE
  have hu1 : (X.later X.w.drew).σ s.nx = .unborn := by show X.σ s.nx = _; rw [hc.σ]; exact s.fin _ (Nat.le_refl _)
  have hv1 : (AB.buf (cs.take (n * sz) ++ zs) e).blk (.map (some X.w.drew.heap.size)) = some X.w.drew.heap.size := rfl
  have hF2 := qfl hS1 (cs := (cs.take (n * sz) ++ zs).toArray) (t := e) hu1 hv1
  have hS2 := born_sr hS1 (cs := (cs.take (n * sz) ++ zs).toArray) (t := e) hu1 hv1 ⟨_, rfl, heap_alloc_new X.w.drew _⟩
  refine qbb (w' := X.w.drew.alloc (.cells (cs.take (n * sz) ++ zs).toArray e)) (v := .slice (some ⟨X.w.heap.size, 0, none⟩) (n + m) cap3) (by simp only [execOp, ho]; simp [resolve, invoke, builtin, hxv, hyv]; rw [hr]; simp)
    ⟨_, .sub s.nx 0 (n + m) cap3 sz, s.ext (some (.buf (cs.take (n * sz) ++ zs) e)), _, rfl, hgrow cap3 zs hge hcm hzl, ⟨rfl, ?_, hS2, hc.fr.trans (hF1.trans hF2), hc.size, fun d => (hc.regs d).fr (hF1.trans hF2), hc.defers, hc.fin⟩, ?_⟩
  · show upd X.σ s.nx _ = _
    rw [hc.σ]
    exact qfi s.σ s.n0 s.L _
  · show RC _ (.sub _ _ _ _ _) [_]
    rw [RC]
    refine ⟨by simp [St.born, upd], _, rfl, rfl, fun xs e2 h => ?_⟩
    exact ⟨X.w.heap.size, _, by simp [St.born, upd], rfl, fun _ => by simp⟩
end Go.Proofs.YtbkkjlcclddpdaaGreatDoor
