/- Appends onto a row whose head may be frozen. -/
import Derived.Test.YtkedbjjfmejbhaaGreatDoorGe7
set_option linter.unusedSimpArgs false
set_option linter.unusedVariables false
namespace Go.Proofs.YtkedbjjfmejbhaaGreatDoor
open Go.RowKit Go.Lib
section
variable {P : Program}
theorem qir {w : World} {t ty e : TypeId} {i : TypeInfo} {z : Value} (ht : P.underlying t = some (.slice e)) (hi : P.info? e = some i) (hz : i.zero = some z) (hzs : z.cells.size = i.size) (hsz : 0 < i.size)
  {v : Value} {n : Nat} {xs : List Value} (hown : w.ownsRowF 0 e i.size v n xs) {a : Addr} {m c : Nat} {news : List Value} (hl : news.length = m * i.size) (hnews : ∀ j u, news[j]? = some u -> w.cell? (a.add j) = some u) (h1 : ∀ u ∈ news, u.oneCell' = true)
  (h63 : n + m <= maxLen) (hbytes : (n + m) * i.bytes <= 140737488355328) :
  ∃ v' w', (Builtin.append_ #[t, t] ty #[v, .slice (some a) m c]).run P w = .ok v' w' /\ w'.ownsRowF 0 e i.size v' (n + m) (xs ++ news) /\ w.grownBy w' v.ownBlock /\ (v'.ownBlock = v.ownBlock \/ v'.ownBlock = some w.heap.size) /\
   ∀ b o, v.ownBlock = some b -> o < n * i.size -> w'.cell? ⟨b, o, none⟩ = w.cell? ⟨b, o, none⟩ := by
 have hsmall : n + m <= 9223372036854775807 := by simp only [maxLen] at h63; omega
 have hlen : (xs ++ news).length = (n + m) * i.size := by rw [List.length_append, hown.1, hl, Nat.add_mul]
 have keep : ∀ {w' : World} {v' : Value}, w'.ownsRowF 0 e i.size v' (n + m) (xs ++ news) -> v'.ownBlock = v.ownBlock -> ∀ b o, v.ownBlock = some b -> o < n * i.size -> w'.cell? ⟨b, o, none⟩ = w.cell? ⟨b, o, none⟩ := fun {w' v'} h2 h4 b o hb ho => by
  have ho2 : o < xs.length := by rw [hown.1]; exact ho
  have h5 := hown.cells (g := b) hb o xs[o] (List.getElem?_eq_getElem ho2)
  have h6 := h2.cells (g := b) (h4.trans hb) o xs[o] (by rw [List.getElem?_append_left ho2]; exact List.getElem?_eq_getElem ho2)
  rw [qbd, Nat.zero_add] at h5 h6
  rw [h5, h6]
 rcases hown.2 with ⟨rfl, rfl⟩ | ⟨g, cap, cur, fz, rfl, hbg, hg, hfz, hnc, hcm, hcs, htake⟩
 .obtain ⟨v', w', r1, r2, r3, -, r5⟩ := run_append_own_at (P := P) w 0 t ty e i z i.size i.bytes ht hi hz rfl rfl hzs hsz (.slice none 0 0) 0 xs ⟨hown.1, .inl ⟨rfl, rfl⟩⟩ a m c news hl hnews h1 h63 hbytes (Nat.zero_le _)
  exact ⟨v', w', r1, World.ownsRowF_of r2, r3, r5, fun b o hb => by cases hb⟩
 .by_cases hroom : n + m <= cap
  .have hfit : n * i.size + news.length <= cur.size := by rw [hl, hcs, <- Nat.add_mul]; exact Nat.mul_le_mul_right _ hroom
   have hr := run_append_roomF (P := P) (ty := ty) w t e i ht hi g n cap cur fz hg hfz a m c news hl hnews h1 hroom hfit
   have hO : (w.setRow g (cur.toList.take (n * i.size) ++ news ++ cur.toList.drop (n * i.size + news.length)).toArray).ownsRowF 0 e i.size (.slice (some ⟨g, 0, none⟩) (n + m) cap) (n + m) (xs ++ news) := by
    refine ⟨hlen, .inr ⟨g, cap, _, fz, rfl, hbg, setRow_heap w g cur _ e _ hg, Nat.le_trans hfz (Nat.mul_le_mul_right _ (Nat.le_add_right n m)), hroom, hcm, ?_, ?_⟩⟩
    .simp only [List.size_toArray, List.length_append, List.length_take, List.length_drop, Array.length_toList]
     omega
    .rw [htake, <- hlen]
     exact List.take_left
   exact ⟨_, _, hr, hO, ⟨rfl, rfl, rfl, by simp, fun k _ hk => setRow_other w g k _ (fun e => hk (by simp [Value.ownBlock, e]))⟩, .inl rfl, keep hO rfl⟩
  .have holds : ∀ j u, xs[j]? = some u -> w.cell? ((⟨g, 0, none⟩ : Addr).add j) = some u := hown.cells (g := g) rfl
   have hr := run_append_grow (P := P) w t ty e i z ht hi hz ⟨g, 0, none⟩ n cap xs hown.1 holds a m c news hl hnews (by omega) (by omega) (growslice_fits (by omega) hbytes)
   have hge := grownCap_ge w (n + m) cap e
   have hcm2 : grownCap w (n + m) cap e <= maxLen := grownCap_le_maxLen w (n + m) cap e h63
   refine ⟨_, _, hr, ⟨hlen, .inr ⟨w.heap.size, _, _, (0, 0), rfl, Nat.zero_le _, heap_alloc_new w.drew _, Nat.zero_le _, hge, hcm2, ?_, ?_⟩⟩, ⟨rfl, rfl, rfl, by simp, fun k hk _ => Lib.alloc_old w.drew _ k hk⟩, .inr rfl, fun b o hb ho => ?_⟩
   .simp only [Array.size_append, List.size_toArray, size_zeroCells, hzs, hown.1, hl, <- Nat.add_mul]
    congr 1
    omega
   .simp only [Array.toList_append, List.append_assoc]
    rw [<- List.append_assoc, <- hlen]
    exact List.take_left
   .have hbg' : g = b := by simpa [Value.ownBlock] using hb
    subst hbg'
    exact World.cell?_of_block (Below.heap_alloc w.drew _ g (Array.getElem?_eq_some_iff.1 hg).1)
theorem qis {w : World} {t u ty e : TypeId} {i : TypeInfo} (ht : P.underlying t = some (.slice e)) (hu : P.underlying u = some .string) (hi : P.info? e = some i) (hz : i.zero = some (.int .u8 0)) (hs1 : i.size = 1) (hb1 : i.bytes = 1)
  {v : Value} {n : Nat} {xs : List Value} (hown : w.ownsRowF 0 e 1 v n xs) (s : ByteArray) (h63 : n + s.size <= maxLen) (hbytes : n + s.size <= 140737488355328) :
  ∃ v' w', (Builtin.append_ #[t, u] ty #[v, .string s]).run P w = .ok v' w' /\ w'.ownsRowF 0 e 1 v' (n + s.size) (xs ++ strCells s) /\ w.grownBy w' v.ownBlock /\ (v'.ownBlock = v.ownBlock \/ v'.ownBlock = some w.heap.size) /\
   ∀ b o, v.ownBlock = some b -> o < n -> w'.cell? ⟨b, o, none⟩ = w.cell? ⟨b, o, none⟩ := by
 have hsmall : n + s.size <= 9223372036854775807 := by simp only [maxLen] at h63; omega
 have hxl : xs.length = n := by simpa using hown.1
 have hlen : (xs ++ strCells s).length = (n + s.size) * 1 := by rw [List.length_append, hxl, strCells_length, Nat.mul_one]
 have keep : ∀ {w' : World} {v' : Value}, w'.ownsRowF 0 e 1 v' (n + s.size) (xs ++ strCells s) -> v'.ownBlock = v.ownBlock -> ∀ b o, v.ownBlock = some b -> o < n -> w'.cell? ⟨b, o, none⟩ = w.cell? ⟨b, o, none⟩ := fun {w' v'} h2 h4 b o hb ho => by
  have ho2 : o < xs.length := by rw [hxl]; exact ho
  have h5 := hown.cells (g := b) hb o xs[o] (List.getElem?_eq_getElem ho2)
  have h6 := h2.cells (g := b) (h4.trans hb) o xs[o] (by rw [List.getElem?_append_left ho2]; exact List.getElem?_eq_getElem ho2)
  rw [qbd, Nat.zero_add] at h5 h6
  rw [h5, h6]
 have grown : ∀ (old : Nat), old < n + s.size -> 
   (w.drew.alloc (.cells (xs.toArray ++ (strCells s).toArray ++ Builtin.zeroCells (Value.int .u8 0).cells (grownCap w (n + s.size) old e - (n + s.size))) e)).ownsRowF 0 e 1
    (.slice (some ⟨w.heap.size, 0, none⟩) (n + s.size) (grownCap w (n + s.size) old e)) (n + s.size) (xs ++ strCells s) := by
  intro old ho
  have hge := grownCap_ge w (n + s.size) old e
  have hcm : grownCap w (n + s.size) old e <= maxLen := grownCap_le_maxLen w (n + s.size) old e h63
  refine ⟨hlen, .inr ⟨w.heap.size, _, _, (0, 0), rfl, Nat.zero_le _, heap_alloc_new w.drew _, Nat.zero_le _, hge, hcm, ?_, ?_⟩⟩
  .have hz1 : (Value.int IntKind.u8 0).cells.size = 1 := rfl
   simp only [Array.size_append, List.size_toArray, size_zeroCells, hz1, hxl, strCells_length]
   omega
  .simp only [Array.toList_append, List.append_assoc]
   rw [<- List.append_assoc, <- hlen]
   exact List.take_left
 rcases hown.2 with ⟨rfl, rfl⟩ | ⟨g, cap, cur, fz, rfl, hbg, hg, hfz, hnc, hcm, hcs, htake⟩
 .have hx : xs = [] := List.eq_nil_of_length_eq_zero hxl
  subst hx
  by_cases hm : s.size = 0
  .have hn : strCells s = [] := List.eq_nil_of_length_eq_zero (by rw [strCells_length]; exact hm)
   refine ⟨.slice none 0 0, w, ?_, by rw [hm, hn]; exact World.ownsRowF_nil w 0 e 1, ⟨rfl, rfl, rfl, Nat.le_refl _, fun _ _ _ => rfl⟩, .inl rfl, fun b o hb => by cases hb⟩
   have hf := run_firstCells_string (P := P) w 1 s
   rw [hm] at hf
   simp [Builtin.append_, run_underlying ht, run_underlying hu, sizeOf, typeInfo, hi, hs1, Builtin.lenOf, hm, hf]
  .have hr := run_append_nil_string (P := P) w t u ty e i (.int .u8 0) ht hu hi hz s (by omega) (by omega) (by rw [hb1]; omega)
   have hgr := grown 0 (by omega)
   simp only [Nat.zero_add, List.nil_append, Array.empty_append] at hgr ⊢
   have e1 : (s.data.map fun b => Value.int .u8 b.toNat) = (strCells s).toArray := by
    apply Array.ext'
    simp [strCells]
   rw [e1] at hr
   exact ⟨_, _, hr, hgr, ⟨rfl, rfl, rfl, by simp, fun k hk _ => Lib.alloc_old w.drew _ k hk⟩, .inr rfl, fun b o hb => by cases hb⟩
 .by_cases hroom : n + s.size <= cap
  .have hcs' : cur.size = cap := by simpa using hcs
   have hr := run_append_room_stringF (P := P) (ty := ty) w t u e i ht hu hi hs1 g n cap cur fz hg (by simpa using hfz) s hroom (by omega)
   have hO : (w.setRow g (cur.toList.take n ++ strCells s ++ cur.toList.drop (n + s.size)).toArray).ownsRowF 0 e 1 (.slice (some ⟨g, 0, none⟩) (n + s.size) cap) (n + s.size) (xs ++ strCells s) := by
    refine ⟨hlen, .inr ⟨g, cap, _, fz, rfl, hbg, setRow_heap w g cur _ e _ hg, by omega, hroom, hcm, ?_, ?_⟩⟩
    .simp only [List.size_toArray, List.length_append, List.length_take, List.length_drop, Array.length_toList, strCells_length]
     omega
    .have ht' : cur.toList.take n = xs := by simpa using htake
     rw [ht', <- hlen]
     exact List.take_left
   exact ⟨_, _, hr, hO, ⟨rfl, rfl, rfl, by simp, fun k _ hk => setRow_other w g k _ (fun e => hk (by simp [Value.ownBlock, e]))⟩, .inl rfl, keep hO rfl⟩
  .have holds : ∀ j u, xs[j]? = some u -> w.cell? ((⟨g, 0, none⟩ : Addr).add j) = some u := hown.cells (g := g) rfl
   have hr := run_append_grow_string (P := P) w t u ty e i (.int .u8 0) ht hu hi hz ⟨g, 0, none⟩ n cap xs (by rw [hs1]; simpa using hxl) holds s (by omega) (by omega) (by rw [hb1]; exact growslice_fits (by omega) (by omega))
   refine ⟨_, _, hr, grown cap (by omega), ⟨rfl, rfl, rfl, by simp, fun k hk _ => Lib.alloc_old w.drew _ k hk⟩, .inr rfl, fun b o hb ho => ?_⟩
   have hbg' : g = b := by simpa [Value.ownBlock] using hb
   subst hbg'
   exact World.cell?_of_block (Below.heap_alloc w.drew _ g (Array.getElem?_eq_some_iff.1 hg).1)
end
def vinfo (P : Program) (t : TypeId) : Option (TypeId × Nat × Nat) :=
 match P.underlying t with
 | some (.slice e) => match P.info? e with
  | some i => match i.zero with
   | some z => if z.cells.size = i.size /\ 0 < i.size /\ 0 < i.bytes /\ z.cells.toList.all Value.oneCell' = true then some (e, i.size, i.bytes) else none
   | none => none
  | none => none
 | _ => none
theorem qbr {P : Program} {t e : TypeId} {sz by_ : Nat} (h : vinfo P t = some (e, sz, by_)) :
  P.underlying t = some (.slice e) /\ ∃ i z, P.info? e = some i /\ i.zero = some z /\ i.size = sz /\ i.bytes = by_ /\ z.cells.size = sz /\ 0 < sz /\ 0 < by_ /\ ∀ v ∈ z.cells.toList, v.oneCell' = true := by
 unfold vinfo at h
 split at h
 .rename_i e' hu
  split at h
  .rename_i i hi
   split at h
   .rename_i z hz
    split at h
    .rename_i hc
     cases h
     exact ⟨hu, i, z, hi, hz, rfl, rfl, hc.1, hc.2.1, hc.2.2.1, fun v hv => List.all_eq_true.1 hc.2.2.2 v hv⟩
    .cases h
   .cases h
  .cases h
 .cases h
theorem qy.append {X : St} {b : Nat} : ∀ {c1 c2 : List Value} {off : Nat}, qy X b off c1 -> qy X b (off + c1.length) c2 -> qy X b off (c1 ++ c2)
 | [], _, _, _, h => h
 | c :: c1, c2, off, h1, h2 => ⟨h1.1, h1.2.1, qy.append h1.2.2 (by rw [List.length_cons] at h2; rwa [show off + 1 + c1.length = off + (c1.length + 1) by omega])⟩
theorem RM.row {X : St} {b : Nat} : ∀ {l : List AV} {off : Nat}, RM X l b off -> ∃ xs, RCs X l xs /\ qy X b off xs
 | [], _, _ => ⟨[], rfl, trivial⟩
 | d :: l, off, h => by
  rw [RM] at h
  obtain ⟨⟨cs, h1, h2⟩, h3⟩ := h
  obtain ⟨xs, h4, h5⟩ := h3.row
  rw [<- RC.length _ _ h2] at h5
  exact ⟨cs ++ xs, ⟨cs, xs, rfl, h2, h4⟩, h1.append h5⟩
theorem qeg {X : St} {g : Nat} : ∀ (cs : List Value) (off : Nat), (∀ j u, cs[j]? = some u -> X.w.cell? ⟨g, off + j, none⟩ = some u /\ X.S g (off + j)) -> qy X g off cs
 | [], _, _ => trivial
 | v :: cs, off, h => ⟨(h 0 v rfl).1, (h 0 v rfl).2, qeg cs (off + 1) fun j u hu => by
   have := h (j + 1) u (by simpa using hu)
   rwa [show off + (j + 1) = off + 1 + j by omega] at this⟩
theorem RM.of {X : St} {g : Nat} : ∀ {l : List AV} {xs : List Value} {off : Nat}, RCs X l xs -> qy X g off xs -> RM X l g off
 | [], _, _, _, _ => by rw [RM]; trivial
 | d :: l, _, off, h, hc => by
  obtain ⟨c1, c2, rfl, h1, h2⟩ := h
  have hsplit : ∀ (c1 c2 : List Value) (off : Nat), qy X g off (c1 ++ c2) -> qy X g off c1 /\ qy X g (off + c1.length) c2 := fun c1 => by
   induction c1 with
   | nil => intro c2 off h; exact ⟨trivial, h⟩
   | cons v c1 ih =>
    intro c2 off h
    obtain ⟨h3, h4⟩ := ih c2 (off + 1) h.2.2
    exact ⟨⟨h.1, h.2.1, h3⟩, by rw [List.length_cons, show off + (c1.length + 1) = off + 1 + c1.length by omega]; exact h4⟩
  obtain ⟨h3, h4⟩ := hsplit c1 c2 off hc
  rw [RM]
  rw [RC.length _ _ h1] at h4
  exact ⟨⟨c1, h3, h1⟩, RM.of h2 h4⟩
theorem RCs.append {X : St} : ∀ {l l' : List AV} {xs xs' : List Value}, RCs X l xs -> RCs X l' xs' -> RCs X (l ++ l') (xs ++ xs')
 | [], _, _, _, h, h' => by
  have : _ = [] := h
  subst this; exact h'
 | d :: l, l', _, xs', h, h' => by
  obtain ⟨c1, c2, rfl, h1, h2⟩ := h
  exact ⟨c1, c2 ++ xs', by simp, h1, h2.append h'⟩
theorem RCs.len {X : St} {sz : Nat} : ∀ {l : List AV} {xs : List Value}, RCs X l xs -> (∀ y ∈ l, y.width = sz) -> xs.length = l.length * sz
 | [], xs, h, _ => by
  have : xs = [] := h
  subst this; simp
 | d :: l, _, h, hw => by
  obtain ⟨c1, c2, rfl, h1, h2⟩ := h
  rw [List.length_append, RC.length _ _ h1, hw d (by simp), RCs.len h2 (fun y hy => hw y (by simp [hy])), List.length_cons, Nat.succ_mul]; omega
def AV.elem : AV -> Bool
 | .tup _ => false
 | .v x => x.oneCell'
 | _ => true
theorem RCs.oneCell {X : St} : ∀ {l : List AV} {xs : List Value}, RCs X l xs -> (∀ y ∈ l, y.elem = true) -> ∀ u ∈ xs, u.oneCell' = true
 | [], xs, h, _, u, hu => by
  have : xs = [] := h
  subst this; cases hu
 | d :: l, _, h, hw, u, hu => by
  obtain ⟨c1, c2, rfl, h1, h2⟩ := h
  rcases List.mem_append.1 hu with hu | hu
  .have hd := hw d (by simp)
   cases d with
   | agg cs => rw [RC] at h1; exact R1s.oneCell h1 u hu
   | tup cs => rw [RC] at h1; exact h1.elim
   | v y =>
    rw [RC] at h1; subst h1
    simp at hu; subst hu; exact hd
   | _ =>
    obtain ⟨z, rfl⟩ := RC.single rfl h1
    simp at hu; subst hu
    exact RC.oneCell rfl h1
  .exact RCs.oneCell h2 (fun y hy => hw y (by simp [hy])) u hu
section
variable {P : Program} {s : AS}
theorem qnl {x : Operand} {r : Nat} {l ys : List AV} {e : TypeId} {sz : Nat} {K : AV -> AS -> Prop} {X0 X : St} {a : Act} {oper : Oper} (hc : Con X0 s a X.w X)
  (hx : RR X (.gs r l) (a.eval x)) (hσ : s.st r = .tail l.length e sz) (hne : 0 < ys.length) (hwl : ∀ z ∈ l, z.width = sz) {xs news : List Value} {v2 : Value} {w2 : World} (hr2 : RCs X ys news)
  (hown : X.w.ownsRowF 0 e sz (X.μ r) l.length xs) (hrun : X.μ r = a.eval x -> (execOp a.eval oper).run P X.w = .ok (.value v2) w2) (hown2 : w2.ownsRowF 0 e sz v2 (l.length + ys.length) (xs ++ news)) (hg : X.w.grownBy w2 (X.μ r).ownBlock)
  (h4 : v2.ownBlock = (X.μ r).ownBlock \/ v2.ownBlock = some X.w.heap.size) (hkeep : ∀ b o, (X.μ r).ownBlock = some b -> o < l.length * sz -> w2.cell? ⟨b, o, none⟩ = X.w.cell? ⟨b, o, none⟩)
  (hK : K (.gs r (l ++ ys)) (s.set r (.tail (l.length + ys.length) e sz))) (Q : Exit -> Act -> World -> Prop) :
  OwpA P oper a X.w (fun a' w' => ∃ v x s1 X', a' = a.put oper.dst v /\ K x s1 /\ Con X0 s1 a w' X' /\ RR X' x v) Q := by
 change RC X (.gs r l) [a.eval x] at hx
 rw [RC] at hx
 obtain ⟨A0, cap0, b0, off0, hv, hl0, hl1, hl2, hm0, hu, hall⟩ := hx
 have hv' : a.eval x = .slice A0 l.length cap0 := by simpa using hv
 have hX : X.σ r = .tail l.length e sz := by rw [hc.σ, hσ]
 have hvm : a.eval x = X.μ r := by rw [hv']; exact (hall _ _ _ hX).2 rfl
 have hblk : X.blk r = (X.μ r).ownBlock := by unfold St.blk; rw [hX]; rfl
 have hT : Turns X w2 (fun b o => X.S b o \/ (v2.ownBlock = some b /\ o < (l.length + ys.length) * sz)) r (.tail (l.length + ys.length) e sz) v2 := by
  refine ⟨by rw [hblk]; exact hg, fun b2 h => ?_, ?_, fun b2 o h5 h6 => ?_, fun _ _ h => .inl h, fun b2 o h => ?_, fun b2 o h5 h6 => ?_, fun b2 h => (hown2.lt b2 h).2⟩
  .change v2.ownBlock = some b2 at h
   rcases h4 with h4 | h4
   .left; rw [hblk, <- h4, h]
   .right; rw [h4] at h; cases h; exact Nat.le_refl _
  .unfold Ver
   rw [hX]
   exact .inr ⟨l.length + ys.length, by simp [St.turn, upd], .inl (by omega)⟩
  .obtain ⟨n2, e2, s2, h7, h8⟩ := hc.sr.apart r b2 o h5 h6
   rw [hX] at h7; cases h7
   exact hkeep b2 o (by rw [<- hblk]; exact h5) h8
  .rcases h with h | h
   .exact .inl h
   .exact .inr h.1
  .refine ⟨_, _, _, rfl, ?_⟩
   rcases h6 with h6 | h6
   .change v2.ownBlock = some b2 at h5
    rcases h4 with h4 | h4
    .obtain ⟨n2, e2, s2, h7, h8⟩ := hc.sr.apart r b2 o (by rw [hblk, <- h4]; exact h5) h6
     rw [hX] at h7; cases h7
     exact Nat.lt_of_lt_of_le h8 (Nat.mul_le_mul_right _ (by omega))
    .rw [h4] at h5; cases h5
     exact absurd (hc.sr.old _ o h6) (Nat.lt_irrefl _)
   .exact h6.2
 have hF := qhy hc.sr hT
 refine qbi (w' := w2) (v := v2) (hrun hvm.symm)
  ⟨v2, .gs r (l ++ ys), _, _, rfl, hK, qgt (v := v2) hc (by rw [hσ]; simp) hT ⟨⟨_, hown2⟩, fun h => by omega⟩, ?_⟩
 show RC _ (.gs r _) [_]
 rw [RC]
 rcases hown2.2 with ⟨h5, h6⟩ | ⟨g, cap2, cur, fz, h5, h6, h7, hfz, h8, h9, h10, h11⟩
 .omega
 subst h5
 refine ⟨some ⟨g, 0, none⟩, cap2, g, 0, by simp, by simpa using h8, by simpa [maxLen] using h9, fun _ => rfl, ?_, by simp [St.turn, upd], fun n2 e2 s2 hl => ?_⟩
 .-- the old elements and the new ones, where they now lie
  have hold : RCs X l xs := by
   by_cases hl00 : l.length = 0
   .have hln : l = [] := List.eq_nil_of_length_eq_zero hl00
    subst hln
    exact List.eq_nil_of_length_eq_zero (by rw [hown.1]; simp)
   .obtain rfl := hl2 (by omega)
    obtain ⟨olds, h12, h13⟩ := hm0.row
    have ho : (X.μ r).ownBlock = some b0 := by rw [<- hvm, hv']; rfl
    have : olds = xs := by
     have hlo := RCs.len h12 hwl
     refine List.ext_getElem? fun j => ?_
     by_cases hj : j < olds.length
     .have h14 := h13.at.get j olds[j] (List.getElem?_eq_getElem hj)
      have hj2 : j < xs.length := by rw [hown.1]; omega
      have h15 := hown.cells ho j xs[j] (List.getElem?_eq_getElem hj2)
      have hoff : off0 = 0 := by
       rcases hown.2 with ⟨h16, -⟩ | ⟨g2, cap3, cur2, fz2, h16, -⟩
       .rw [<- hvm, hv'] at h16; cases h16
       .rw [<- hvm, hv'] at h16; cases h16; rfl
      rw [hoff] at h14
      rw [qbd] at h15
      rw [h14] at h15
      rw [List.getElem?_eq_getElem hj, List.getElem?_eq_getElem hj2]
      exact h15
     .rw [List.getElem?_eq_none (by omega), List.getElem?_eq_none (by rw [hown.1]; omega)]
    rw [this] at h12; exact h12
  have hxl : (xs ++ news).length = (l.length + ys.length) * sz := hown2.1
  refine RM.of ((hold.append hr2).fr hF) (qeg _ 0 fun j u hj => ⟨?_, ?_⟩)
  .have := hown2.cells (g := g) rfl j u hj
   rwa [qbd] at this
  .right
   refine ⟨rfl, ?_⟩
   have := (List.getElem?_eq_some_iff.1 hj).1
   omega
 .simp [St.turn, upd] at hl
  obtain ⟨rfl, rfl, rfl⟩ := hl
  exact ⟨by simp, fun _ => by simp [St.turn, upd]⟩
theorem qle {t : TypeId} {x y : Operand} {r : Nat} {l ys : List AV} {e : TypeId} {sz by_ : Nat} {yv : AV} {K : AV -> AS -> Prop} {X0 X : St} {a : Act} {oper : Oper} (ho : oper.op = .call { callee := .builtin .append, args := #[x, y], argTypes := #[t, t] }) (hc : Con X0 s a X.w X)
  (ht : vinfo P t = some (e, sz, by_)) (hx : RR X (.gs r l) (a.eval x)) (hσ : s.st r = .tail l.length e sz) (hy : RR X yv (a.eval y)) (hyl : yv.list = some ys) (hne : 0 < ys.length)
  (hwl : ∀ z ∈ l, z.width = sz) (hw : ∀ z ∈ ys, z.width = sz) (h1 : ∀ z ∈ ys, z.elem = true) (hb : (l.length + ys.length) * by_ <= 140737488355328) (hK : K (.gs r (l ++ ys)) (s.set r (.tail (l.length + ys.length) e sz))) (Q : Exit -> Act -> World -> Prop) :
  OwpA P oper a X.w (fun a' w' => ∃ v x s1 X', a' = a.put oper.dst v /\ K x s1 /\ Con X0 s1 a w' X' /\ RR X' x v) Q := by
 have hX : X.σ r = .tail l.length e sz := by rw [hc.σ, hσ]
 obtain ⟨A, cap, b, off, hyv', hc1, hc2, hA, hm⟩ := RR.list hyl hy
 obtain rfl := hA hne
 obtain ⟨news, hr2, hcell⟩ := hm.row
 have hB := hc.sr.block r
 rw [hX] at hB
 obtain ⟨⟨xs, hown⟩, -⟩ := hB
 obtain ⟨hu1, i, z, hi, hz, hsz, hby, hzs, hsz0, hby0, -⟩ := qbr ht
 have hlen : l.length + ys.length <= 140737488355328 := Nat.le_trans (Nat.le_mul_of_pos_right _ hby0) hb
 have hnl := RCs.len hr2 hw
 have hnc : ∀ j u, news[j]? = some u -> X.w.cell? ((⟨b, off, none⟩ : Addr).add j) = some u := fun j u hj => by rw [qbd]; exact hcell.at.get j u hj
 have h63 : l.length + ys.length <= maxLen := by unfold maxLen; omega
 subst hsz
 subst hby
 obtain ⟨v2, w2, hrun, hown2, hg, h4, hkeep⟩ := qir (P := P) (ty := oper.type) (c := cap) (m := ys.length) (a := ⟨b, off, none⟩) hu1 hi hz hzs hsz0 hown hnl hnc (RCs.oneCell hr2 h1) h63 hb
 exact qnl hc hx hσ hne hwl hr2 hown (fun hvm => by simp [execOp, ho, resolve, invoke, builtin, <- hvm, hyv', hrun]) hown2 hg h4 hkeep hK Q
theorem qvm {t : TypeId} {x y : Operand} {r : Nat} {l ys : List AV} {e : TypeId} {sz by_ : Nat} {K : AV -> AS -> Prop} (ht : vinfo P t = some (e, sz, by_)) (hx : s.eval x = .gs r l) (hσ : s.st r = .tail l.length e sz) (hyl : (s.eval y).list = some ys) (hne : 0 < ys.length)
  (hwl : ∀ z ∈ l, z.width = sz) (hw : ∀ z ∈ ys, z.width = sz) (h1 : ∀ z ∈ ys, z.elem = true) (hb : (l.length + ys.length) * by_ <= 140737488355328) (hK : K (.gs r (l ++ ys)) (s.set r (.tail (l.length + ys.length) e sz))) :
  EOp P s (.call { callee := .builtin .append, args := #[x, y], argTypes := #[t, t] }) K := by
 intro X0 a w X oper ho hc Q
 have hw0 := hc.w
 subst hw0
 exact qle ho hc ht (by rw [<- hx]; exact hc.eval x) hσ (hc.eval y) hyl hne hwl hw h1 hb hK Q
theorem qif {X0 X : St} {a : Act} {w : World} (hc : Con X0 s a w X) (e : TypeId) (sz : Nat) : ∃ X', X'.w = X.w /\ Con X0 (s.ext (some (.tail 0 e sz))) a w X' /\ Fr X X' /\ RR X' (.gs s.nx []) (.slice none 0 0) := by
 have hun : X.σ s.nx = .unborn := by rw [hc.σ]; exact s.fin _ (Nat.le_refl _)
 let X' : St := { X with μ := upd X.μ s.nx (.slice none 0 0), σ := upd X.σ s.nx (.tail 0 e sz) }
 have hb : ∀ k b, X'.blk k = some b -> k ≠ s.nx /\ X.blk k = some b := fun k b h => by
  by_cases hk : k = s.nx
  .exfalso
   subst hk
   have : X'.blk s.nx = none := by simp [X', St.blk, upd, AB.blk, Value.ownBlock]
   rw [this] at h; cases h
  .refine ⟨hk, ?_⟩
   simpa [X', St.blk, upd, hk] using h
 have hF : Fr X X' := ⟨rfl, rfl, rfl, Nat.le_refl _, fun _ _ _ => rfl, fun _ _ _ => rfl, fun _ _ h => h, fun _ _ h => .inl h, fun k => by
  by_cases hk : k = s.nx
  .subst hk; unfold Ver; rw [hun]; trivial
  .have h1 : X'.σ k = X.σ k := by simp [X', upd, hk]
   have h2 : X'.μ k = X.μ k := by simp [X', upd, hk]
   have := (Fr.refl X).ver k
   unfold Ver at this ⊢
   rw [h1, h2]; exact this, fun k b h => .inr ⟨k, (hb k b h).2⟩⟩
 refine ⟨X', rfl, ⟨hc.w, ?_, ⟨fun k => ?_, fun k k' b h1 h2 => hc.sr.alone k k' b (hb k b h1).2 (hb k' b h2).2, fun k b o h1 h2 => ?_, hc.sr.old, hc.sr.glob.mono fun _ _ _ h => h.fr hF⟩, hc.fr.trans hF, hc.size, fun d => (hc.regs d).fr hF, hc.defers, hc.fin⟩, hF, ?_⟩
 .show upd X.σ s.nx _ = _
  rw [hc.σ]
  exact qkr s.σ s.n0 s.L _
 .by_cases hk : k = s.nx
  .subst hk
   have h1 : X'.σ s.nx = .tail 0 e sz := by simp [X', upd]
   have h2 : X'.μ s.nx = .slice none 0 0 := by simp [X', upd]
   rw [h1, h2]
   exact ⟨⟨[], World.ownsRowF_nil _ _ _ _⟩, fun _ => ⟨[], World.ownsRow_nil _ _ _ _⟩⟩
  .exact BR.fr hc.sr hF (by simp [X', upd, hk]) (by simp [X', upd, hk]) fun _ _ => rfl
 .obtain ⟨hk, h3⟩ := hb k b h1
  obtain ⟨n, e2, s2, h4, h5⟩ := hc.sr.apart k b o h3 h2
  exact ⟨n, e2, s2, by simp [X', upd, hk, h4], h5⟩
 .show RC X' (.gs s.nx []) [_]
  rw [RC]
  refine ⟨none, 0, 0, 0, rfl, Nat.le_refl _, by omega, fun h => absurd h (by simp), by rw [RM]; trivial, by simp [X', upd], fun n e2 s2 h => ⟨Nat.zero_le _, fun _ => by simp [X', upd]⟩⟩
theorem qlr {t : TypeId} {x y : Operand} {ys : List AV} {e : TypeId} {sz by_ : Nat} {K : AV -> AS -> Prop} (ht : vinfo P t = some (e, sz, by_)) (hx : s.eval x = .v (.slice none 0 0)) (hyl : (s.eval y).list = some ys) (hne : 0 < ys.length)
  (hw : ∀ z ∈ ys, z.width = sz) (h1 : ∀ z ∈ ys, z.elem = true) (hb : ys.length * by_ <= 140737488355328) (hK : K (.gs s.nx ys) (s.ext (some (.tail ys.length e sz)))) :
  EOp P s (.call { callee := .builtin .append, args := #[x, y], argTypes := #[t, t] }) K := by
 intro X0 a w X oper ho hc Q
 have hw0 := hc.w
 subst hw0
 obtain ⟨X', hXw, hc', hF, hR⟩ := qif hc e sz
 have hx2 := hc.eval x
 rw [hx, RR.v] at hx2
 rw [<- hXw]
 rw [<- hXw] at hc'
 have hlen : (s.ext (some (.tail 0 e sz))).nx = s.nx + 1 := by simp [AS.ext, AS.nx]; omega
 refine qle (s := s.ext (some (.tail 0 e sz))) (l := []) ho hc' ht (by rw [hx2]; exact hR) ?_ ((hc.eval y).fr hF) hyl hne (by simp) hw h1 (by simpa using hb) ?_ Q
 .show loc s.σ s.n0 (s.L ++ [_]) (s.n0 + s.L.length) = _
  rw [<- qkr]; simp [upd]
 .have : (s.ext (some (.tail 0 e sz))).set s.nx (.tail (([] : List AV).length + ys.length) e sz) = s.ext (some (.tail ys.length e sz)) := by
   unfold AS.set AS.ext AS.nx
   dsimp only
   rw [if_neg (by omega), Nat.add_sub_cancel_left]
   simp
  rw [this]; simpa using hK
theorem R1s.set {X : St} {y : AV} (hy : y.one = true) : ∀ {l : List AV} {vs : List Value} {j : Nat} {x : AV}, R1s X l vs -> l[j]? = some x -> (∀ v, RC X x [v] -> RC X y [v]) -> R1s X (l.set j y) vs
 | [], _, _, _, _, h, _ => by simp at h
 | z :: l, vs, j, x, hr, hj, hxy => by
  rw [R1s] at hr
  obtain ⟨v, vs, rfl, h0, h1, h2⟩ := hr
  cases j with
  | zero => simp at hj; subst hj; rw [List.set_cons_zero, R1s]; exact ⟨v, vs, rfl, hy, hxy v h1, h2⟩
  | succ j => rw [List.set_cons_succ, R1s]; exact ⟨v, vs, rfl, h0, h1, R1s.set hy h2 (by simpa using hj) hxy⟩
theorem qzx {X0 X : St} {a : Act} {w : World} {r : Nat} {cs cs' : List AV} {et : TypeId} (hc : Con X0 s a w X) (hσ : s.st r = .cells cs et) (h : ∀ vs, R1s X cs vs -> R1s X cs' vs) : ∃ X', Con X0 (s.set r (.cells cs' et)) a w X' := by
 have hX : X.σ r = .cells cs et := by rw [hc.σ, hσ]
 have hlt : r < s.nx := Nat.lt_of_not_le fun h => by have := s.fin r h; rw [hσ] at this; cases this
 obtain ⟨e1, e2, e3⟩ := s.set_nx r (.cells cs' et)
 let X' : St := { X with σ := upd X.σ r (.cells cs' et) }
 have hb : ∀ k, X'.blk k = X.blk k := fun k => by
  by_cases hk : k = r
  .subst hk; simp [X', St.blk, upd, hX, AB.blk]
  .simp [X', St.blk, upd, hk]
 have hF : Fr X X' := ⟨rfl, rfl, rfl, Nat.le_refl _, fun _ _ _ => rfl, fun _ _ _ => rfl, fun _ _ h => h, fun _ _ h => .inl h, fun k => by
  by_cases hk : k = r
  .subst hk; unfold Ver; rw [hX]; exact ⟨⟨cs', by simp [X', upd]⟩, rfl⟩
  .have h1 : X'.σ k = X.σ k := by simp [X', upd, hk]
   have := (Fr.refl X).ver k
   unfold Ver at this ⊢
   rw [h1]; exact this, fun k b h => .inr ⟨k, by rw [<- hb]; exact h⟩⟩
 refine ⟨X', hc.w, ?_, ⟨fun k => ?_, fun k k' b h1 h2 => hc.sr.alone k k' b (by rw [<- hb]; exact h1) (by rw [<- hb]; exact h2), fun k b o h1 h2 => ?_, hc.sr.old, hc.sr.glob.mono fun _ _ _ h => h.fr hF⟩, hc.fr.trans hF, by rw [e1]; exact hc.size, fun d => by rw [e3]; exact (hc.regs d).fr hF, hc.defers, by rw [e2]; exact hc.fin⟩
 .show upd X.σ r _ = _
  rw [hc.σ, AS.set_st _ _ _ hlt]
 .by_cases hk : k = r
  .subst hk
   have h1 : X'.σ k = .cells cs' et := by simp [X', upd]
   rw [h1]
   have hB := hc.sr.block k
   rw [hX] at hB
   obtain ⟨b, vs, hm, hh, hr⟩ := hB
   exact ⟨b, vs, hm, hh, R1s.fr hF _ _ (h vs hr)⟩
  .exact BR.fr hc.sr hF (by simp [X', upd, hk]) rfl fun _ _ => rfl
 .obtain ⟨n, e2, s2, h4, h5⟩ := hc.sr.apart k b o (by rw [<- hb]; exact h1) h2
  have hk : k ≠ r := fun hk => by rw [hk, hX] at h4; cases h4
  exact ⟨n, e2, s2, by simp [X', upd, hk, h4], h5⟩
theorem qco {c : Code} {Q : Exit -> AS -> Prop} {n n0 : Nat} {t : Nat -> AV} {σ : Nat -> AB} {L : List AB} (i j : Nat) (e : TypeId) (sz : Nat) {cs : List AV} {et : TypeId} (hL : L[i]? = some (.cells cs et)) (hj : cs[j]? = some (.v (.slice none 0 0)))
  (h : awp P c Q ⟨n, t, σ, n0, L.set i (.cells (cs.set j (.gs (n0 + L.length) [])) et) ++ [.tail 0 e sz]⟩) : awp P c Q ⟨n, t, σ, n0, L⟩ := by
 intro X0 a w ⟨X, hc⟩
 have hi := (List.getElem?_eq_some_iff.1 hL).1
 obtain ⟨X', hXw, hc', hF, hR⟩ := qif hc e sz
 have hst : (AS.ext ⟨n, t, σ, n0, L⟩ (some (.tail 0 e sz))).st (n0 + i) = .cells cs et := by
  show loc σ n0 (L ++ [_]) (n0 + i) = _
  unfold loc
  rw [if_neg (by omega), Nat.add_sub_cancel_left, List.getD_eq_getElem?_getD, List.getElem?_append_left hi, hL]; rfl
 obtain ⟨X2, hc2⟩ := qzx (cs' := cs.set j (.gs (n0 + L.length) [])) hc' hst fun vs hr => hr.set rfl hj fun v hv => by
  rw [RC] at hv
  obtain rfl : v = .slice none 0 0 := by simpa using hv
  exact hR
 refine h X0 a w ⟨X2, ?_⟩
 have : (AS.ext ⟨n, t, σ, n0, L⟩ (some (.tail 0 e sz))).set (n0 + i) (.cells (cs.set j (.gs (n0 + L.length) [])) et) = ⟨n, t, σ, n0, L.set i (.cells (cs.set j (.gs (n0 + L.length) [])) et) ++ [.tail 0 e sz]⟩ := by
  unfold AS.set AS.ext
  dsimp only
  rw [if_neg (by omega), Nat.add_sub_cancel_left, List.set_append_left _ _ hi]
 rw [this] at hc2; exact hc2
theorem qbn {c : Code} {Q : Exit -> AS -> Prop} {n n0 : Nat} {t : Nat -> AV} {σ : Nat -> AB} {L : List AB} (d : Nat) (e : TypeId) (sz : Nat) (hd : t d = .v (.slice none 0 0))
  (h : awp P c Q ⟨n, upd t d (.gs (n0 + L.length) []), σ, n0, L ++ [.tail 0 e sz]⟩) : awp P c Q ⟨n, t, σ, n0, L⟩ := by
 intro X0 a w ⟨X, hc⟩
 obtain ⟨X', hXw, hc', hF, hR⟩ := qif hc e sz
 refine h X0 a w ⟨X', ⟨hc'.w, hc'.σ, hc'.sr, hc'.fr, hc'.size, fun k => ?_, hc'.defers, hc'.fin⟩⟩
 show RR X' (upd t d _ k) _
 unfold upd
 by_cases hk : k = d
 .subst hk
  rw [if_pos rfl]
  have := hc.regs k
  change RR X (t k) _ at this
  rw [hd, RR.v] at this
  rw [this]; exact hR
 .rw [if_neg hk]; exact hc'.regs k
def pubV : Value -> AV
 | .slice none 0 0 => .sl []
 | x => .v x
mutual
def AV.pub : AV -> AV
 | .gs _ l => .sl l
 | .agg l => .agg (AV.pubs l)
 | .tup l => .tup (AV.pubs l)
 | .v x => pubV x
 | .sl l => .sl l
 | .ptr r off => .ptr r off
 | .own r n => .own r n
 | .ep x off => .ep x off
 | .eo r n k off => .eo r n k off
 | .fn f l => .fn f l
 | .bm f l => .bm f l
 | .es => .es
 | .sub r a n c sz => .sub r a n c sz
 | .any => .any
def AV.pubs : List AV -> List AV
 | [] => []
 | x :: l => x.pub :: AV.pubs l
end
theorem qkd1 {x : Value} (h : x.oneCell' = true) : (pubV x).one = true := by
 unfold pubV; split
 .rfl
 .exact h
theorem AV.pub_one (x : AV) (h : x.one = true) : x.pub.one = true := by
 cases x <;> rw [AV.pub] <;> first | exact h | rfl | exact qkd1 h
theorem qwi {X : St} {x : Value} : RC X (pubV x) [x] := by
 unfold pubV; split
 .rw [RC]; exact ⟨none, 0, 0, 0, rfl, Nat.le_refl _, by omega, fun h => absurd h (by simp), by rw [RM]; trivial⟩
 .rw [RC]
theorem RC.pub1 {X : St} {x : AV} {v : Value} (h0 : x.one = true) (h : RC X x [v]) : RC X x.pub [v] := by
 cases x with
 | gs r l =>
  rw [RC] at h
  rw [AV.pub, RC]
  obtain ⟨A, cap, b, off, h1, h2, h3, h4, h5, -⟩ := h
  exact ⟨A, cap, b, off, h1, h2, h3, h4, h5⟩
 | v y =>
  rw [RC] at h
  have : v = y := by simpa using h
  subst this
  rw [AV.pub]; exact qwi
 | agg l => cases h0
 | tup l => cases h0
 | _ => rw [AV.pub]; exact h
theorem R1s.pub {X : St} : ∀ {l : List AV} {vs : List Value}, R1s X l vs -> R1s X (AV.pubs l) vs
 | [], _, h => by rw [AV.pubs]; exact h
 | x :: l, _, h => by
  rw [R1s] at h
  obtain ⟨v, vs, rfl, h0, h1, h2⟩ := h
  rw [AV.pubs, R1s]
  exact ⟨v, vs, rfl, x.pub_one h0, RC.pub1 h0 h1, R1s.pub h2⟩
theorem RR1.pub {X : St} {x : AV} {v : Value} (h : RR1 X x v) : RR1 X x.pub v := by
 cases x with
 | agg l => obtain ⟨vs, h1, h2⟩ := h; rw [AV.pub]; exact ⟨vs, h1, h2.pub⟩
 | gs r l =>
  have h' : RC X (.gs r l) [v] := h
  have := RC.pub1 rfl h'
  rw [AV.pub] at this ⊢; exact this
 | v y =>
  have h' : RC X (.v y) [v] := h
  rw [RC] at h'
  have : v = y := by simpa using h'
  subst this
  rw [AV.pub]
  have h2 : RC X (pubV v) [v] := qwi
  unfold pubV at h2 ⊢
  split at h2
  .exact h2
  .exact h
 | _ => rw [AV.pub]; exact h
theorem RRl.pub {X : St} : ∀ {l : List AV} {vs : List Value}, RRl X l vs -> RRl X (l.map AV.pub) vs
 | [], _, h => h
 | x :: l, _, h => by
  obtain ⟨v, vs, rfl, h1, h2⟩ := h
  exact ⟨v, vs, rfl, h1.pub, RRl.pub h2⟩
theorem RC.pub {X : St} {x : AV} {cs : List Value} (h : RC X x cs) : RC X x.pub cs := by
 cases x with
 | agg l => rw [AV.pub, RC]; rw [RC] at h; exact h.pub
 | gs r l =>
  rw [RC] at h
  rw [AV.pub, RC]
  obtain ⟨A, cap, b, off, h1, h2, h3, h4, h5, -⟩ := h
  exact ⟨A, cap, b, off, h1, h2, h3, h4, h5⟩
 | v y => rw [RC] at h; subst h; rw [AV.pub]; exact qwi
 | tup l => rw [RC] at h; exact h.elim
 | _ => rw [AV.pub]; exact h
end
section
variable {P : Program} {s : AS}
def awant (ops : Array Oper) (o : Oper) (t : Nat -> AV) : Option Bool :=
 match o.guard with
 | none => some true
 | some (j, b) => match (ops[j]?).bind (·.dst) with
  | some d => match t d with
   | .v (.bool c) => some (c == b)
   | .v (.tuple _) => some false
   | _ => none
  | none => none
def dstOk (d : Option Tmp) (n : Nat) : Prop := ∀ k, d = some k -> k < n
def aseq (P : Program) (ops : Array Oper) (K : AS -> Prop) : List Oper -> AS -> Prop
 | [], s => K s
 | o :: l, s => ∃ b, awant ops o s.t = some b /\ (if b then EOp P s o.op (fun x s1 => dstOk o.dst s1.n /\ aseq P ops K l (s1.put o.dst x)) else dstOk o.dst s.n /\ aseq P ops K l (s.put o.dst (.v undef)))
theorem Con.put {X0 X : St} {a : Act} {w : World} (h : Con X0 s a w X) {d : Option Tmp} (hd : dstOk d s.n) {x : AV} {v : Value} (hx : RR X x v) : Con X0 (s.put d x) (a.put d v) w X := by
 cases d with
 | none => exact h
 | some k =>
  have hk := hd k rfl
  refine ⟨h.w, h.σ, h.sr, h.fr, ?_, fun j => ?_, h.defers, h.fin⟩
  .simp [Act.put, AS.put, h.size]
  .show RR X (upd s.t k x j) ((a.tmps.setIfInBounds k v).getD j undef)
   unfold upd
   by_cases hj : j = k
   .subst hj
    rw [if_pos rfl]
    have : (a.tmps.setIfInBounds j v).getD j undef = v := by simp [Array.getD, h.size, hk]
    rw [this]; exact hx
   .rw [if_neg hj]
    have : (a.tmps.setIfInBounds k v).getD j undef = a.tmps.getD j undef := by
     have hne : k ≠ j := fun e => hj e.symm
     rw [Array.getD_eq_getD_getElem?, Array.getD_eq_getD_getElem?, Array.getElem?_setIfInBounds_ne hne]
    rw [this]; exact h.regs j
theorem qzq {X0 X : St} {a : Act} {w : World} (h : Con X0 s a w X) {ops : Array Oper} {o : Oper} {b : Bool} (hb : awant ops o s.t = some b) : Region.wanted o (yielded ops a.tmps) = b := by
 unfold awant at hb
 unfold Region.wanted
 cases hg : o.guard with
 | none => rw [hg] at hb; simpa using hb
 | some jb =>
  obtain ⟨j, b'⟩ := jb
  rw [hg] at hb
  dsimp only at hb ⊢
  cases hd : (ops[j]?).bind (·.dst) with
  | none => rw [hd] at hb; cases hb
  | some d =>
   rw [hd] at hb
   dsimp only at hb
   have hr := h.regs d
   have hy : yielded ops a.tmps j = match a.tmps[d]? with | some (.bool b) => some b | _ => none := by
    unfold yielded; rw [hd]; rfl
   rw [hy]
   split at hb
   .rename_i c hc
    rw [hc, RR.v] at hr
    cases hb
    rw [Array.getD_eq_getD_getElem?] at hr
    have : a.tmps[d]? = some (.bool c) := by
     cases hx : a.tmps[d]? with
     | none => rw [hx] at hr; cases hr
     | some y => rw [hx] at hr; exact congrArg some hr
    rw [this]
    cases c <;> cases b' <;> rfl
   .rename_i c hc
    rw [hc, RR.v, Array.getD_eq_getD_getElem?] at hr
    cases hb
    cases hx : a.tmps[d]? with
    | none => cases b' <;> rfl
    | some y =>
     rw [hx] at hr
     have : y = .tuple c := hr
     subst this
     cases b' <;> rfl
   .cases hb
theorem qot (a : Act) (d : Option Tmp) (v : Value) : (a.put d v).defers = a.defers := by cases d <;> rfl
theorem qvb (ro : Option Nat) {ops : Array Oper} {K : AS -> Prop} {X0 : St} {ds : List Deferred} {Q : Exit -> Act -> World -> Prop} (hQ : ∀ s a w, K s -> (∃ X, Con X0 s a w X) -> a.defers = ds -> Q .normal a w) : ∀ (l : List Oper) (s : AS) (a : Act) (w : World), aseq P ops K l s -> (∃ X, Con X0 s a w X) -> a.defers = ds -> wpListIn (FW ro) 0 P ops Q l a w
 | [], s, a, w, h, hc, hd => hQ s a w h hc hd
 | o :: l, s, a, w, h, ⟨X, hc⟩, hd => by
  obtain ⟨b, hb, h⟩ := h
  rw [wpListIn, qzq hc hb]
  cases b with
  | true =>
   rw [if_pos rfl] at h ⊢
   refine Oper.wpIn_mono ?_ (h X0 a w X o rfl hc Q ro)
   rintro a' w' ⟨v, x, s1, X', rfl, ⟨hd', hK⟩, hc', hR⟩
   exact qvb ro hQ l _ _ _ hK ⟨X', hc'.put hd' hR⟩ ((qot _ _ _).trans hd)
  | false =>
   rw [if_neg (by simp)] at h ⊢
   exact ⟨fun _ _ => trivial, qvb ro hQ l _ _ _ h.2 ⟨X, hc.put h.1 (RR.v.2 rfl)⟩ ((qot _ _ _).trans hd)⟩
theorem qdh {id : Nat} {l : List Oper} {Q : Exit -> AS -> Prop} (h : aseq P l.toArray (Q .normal) l s) : awp P (.region id l.toArray false) Q s := fun X0 a w hc ro =>
 wpIn_region_lit (qvb ro (ds := a.defers) (fun s' a' w' hK hc' hd => ⟨s', hK, hc', hd⟩) l s a w h hc rfl)
def enters (P : Program) (f : FuncId) : Bool :=
 match P.funcs[f]? with
 | some fn => fn.name != "runtime.NumGoroutine" && fn.body.isSome
 | none => false
theorem qcq {f : FuncId} (h : enters P f = true) (args : Array Value) (w : World) : (callFunc f args).run P w = .ok (.enter f args) w := by
 unfold enters at h
 cases hf : P.funcs[f]? with
 | none => rw [hf] at h; cases h
 | some fn =>
  rw [hf] at h
  simp only [Bool.and_eq_true, bne_iff_ne, ne_eq] at h
  obtain ⟨h1, h2⟩ := h
  have h3 : fn.body.isNone = false := by cases hb : fn.body with
   | none => rw [hb] at h2; cases h2
   | some c => rfl
  have h4 : fn.body ≠ none := fun hn => by rw [hn] at h2; cases h2
  simp [callFunc, hf, h1, h4]
theorem qkt {X0 X : St} {a : Act} {w : World} (h : Con X0 s a w X) : ∀ (l : List Operand), (∀ x ∈ l, ∀ y, s.eval x ≠ .tup y) -> RRl X (l.map s.eval) (l.map a.eval)
 | [], _ => rfl
 | x :: l, hn => by
  refine ⟨_, _, rfl, ?_, qkt h l fun y hy => hn y (by simp [hy])⟩
  have := h.eval x
  unfold RR at this
  split at this
  .rename_i l' he; exact absurd he (hn x (by simp) l')
  .exact this
theorem qio1 {f : FuncId} {args : List Operand} {tys : Array TypeId} {x : AV} {s1 : AS} {K : AV -> AS -> Prop} (hf : enters P f = true) (hn : ∀ y ∈ args, ∀ l, s.eval y ≠ .tup l)
  (h : AC P f ((args.map s.eval).map AV.pub) s.st fun y τ => y = x /\ τ = s1.st) (hs : s1.t = s.t /\ s1.n = s.n /\ s1.n0 = s.n0) (hK : K x s1) : EOp P s (.call { callee := .value (.func f), args := args.toArray, argTypes := tys }) K := by
 intro X0 a w X oper ho hc Q
 have hw := hc.w
 subst hw
 have hrun : (execOp a.eval oper).run P X.w = .ok (.enter f (args.map a.eval).toArray) X.w := by
  have he : a.eval (.func f) = .func (.func f) #[] #[] := rfl
  simp [execOp, ho, resolve, he, Deferred.ofValue, invoke, qcq hf]
 refine OwpA.of (fun c h => by rw [ho] at h; cases h) ?_
 unfold Oper.wp
 rw [hrun]
 refine (h X (args.map a.eval) s.nx hc.sr hc.σ s.fin (qkt hc args hn).pub).mono ?_
 rintro e w' ⟨Y, v, y, rfl, rfl, ⟨rfl, hσ⟩, hS, hF, hR⟩
 exact ⟨v, y, s1, Y, rfl, hK, ⟨rfl, hσ, hS, hc.fr.trans hF, by rw [hs.2.1]; exact hc.size, fun d => by rw [hs.1]; exact (hc.regs d).fr hF, hc.defers, by rw [hs.2.2]; exact hc.fin⟩, hR⟩
theorem RRl.append {X : St} : ∀ {l : List AV} {vs : List Value} {l' : List AV} {vs' : List Value}, RRl X l vs -> RRl X l' vs' -> RRl X (l ++ l') (vs ++ vs')
 | [], _, _, _, h, h' => by
  have : _ = [] := h
  subst this; exact h'
 | x :: l, _, _, _, h, h' => by
  obtain ⟨v, vs, rfl, h1, h2⟩ := h
  exact ⟨v, _, rfl, h1, h2.append h'⟩
theorem R1s.rrl {X : St} : ∀ {l : List AV} {vs : List Value}, R1s X l vs -> RRl X l vs
 | [], _, h => by rw [R1s] at h; exact h
 | x :: l, _, h => by
  rw [R1s] at h
  obtain ⟨v, vs, rfl, h0, h1, h2⟩ := h
  exact ⟨v, vs, rfl, RR1.of_one h0 h1, h2.rrl⟩
theorem qcx1 {f : FuncId} {d : Tmp} {caps : List AV} {args : List Operand} {tys : Array TypeId} {x : AV} {s1 : AS} {K : AV -> AS -> Prop} (hd : s.t d = .fn f caps) (hf : enters P f = true) (hn : ∀ y ∈ args, ∀ l, s.eval y ≠ .tup l)
  (h : AC P f ((args.map s.eval).map AV.pub ++ caps) s.st fun y τ => y = x /\ τ = s1.st) (hs : s1.t = s.t /\ s1.n = s.n /\ s1.n0 = s.n0) (hK : K x s1) : EOp P s (.call { callee := .value (.tmp d), args := args.toArray, argTypes := tys }) K := by
 intro X0 a w X oper ho hc Q
 have hw := hc.w
 subst hw
 have hfn := hc.eval (.tmp d)
 change RR X (s.t d) _ at hfn
 rw [hd] at hfn
 change RC X (.fn f caps) [a.eval (.tmp d)] at hfn
 rw [RC] at hfn
 obtain ⟨vs, hv, hcaps⟩ := hfn
 have he : a.eval (.tmp d) = .func (.func f) #[] vs.toArray := by simpa using hv
 have hrun : (execOp a.eval oper).run P X.w = .ok (.enter f (args.map a.eval ++ vs).toArray) X.w := by
  simp [execOp, ho, resolve, he, Deferred.ofValue, invoke, qcq hf]
 refine OwpA.of (fun c h => by rw [ho] at h; cases h) ?_
 unfold Oper.wp
 rw [hrun]
 refine (h X (args.map a.eval ++ vs) s.nx hc.sr hc.σ s.fin ((qkt hc args hn).pub.append hcaps.rrl)).mono ?_
 rintro e w' ⟨Y, v, y, rfl, rfl, ⟨rfl, hσ⟩, hS, hF, hR⟩
 exact ⟨v, y, s1, Y, rfl, hK, ⟨rfl, hσ, hS, hc.fr.trans hF, by rw [hs.2.1]; exact hc.size, fun d => by rw [hs.1]; exact (hc.regs d).fr hF, hc.defers, by rw [hs.2.2]; exact hc.fin⟩, hR⟩
theorem qcw1 {f : FuncId} {d : Tmp} {caps : List AV} {args : List Operand} {tys : Array TypeId} {x : AV} {s1 : AS} {K : AV -> AS -> Prop} (hd : s.t d = .bm f caps) (hf : enters P f = true) (hn : ∀ y ∈ args, ∀ l, s.eval y ≠ .tup l)
  (h : AC P f (caps ++ (args.map s.eval).map AV.pub) s.st fun y τ => y = x /\ τ = s1.st) (hs : s1.t = s.t /\ s1.n = s.n /\ s1.n0 = s.n0) (hK : K x s1) : EOp P s (.call { callee := .value (.tmp d), args := args.toArray, argTypes := tys }) K := by
 intro X0 a w X oper ho hc Q
 have hw := hc.w
 subst hw
 have hfn := hc.eval (.tmp d)
 change RR X (s.t d) _ at hfn
 rw [hd] at hfn
 change RC X (.bm f caps) [a.eval (.tmp d)] at hfn
 rw [RC] at hfn
 obtain ⟨vs, hv, hcaps⟩ := hfn
 have he : a.eval (.tmp d) = .func (.func f) vs.toArray #[] := by simpa using hv
 have hrun : (execOp a.eval oper).run P X.w = .ok (.enter f (vs ++ args.map a.eval).toArray) X.w := by
  simp [execOp, ho, resolve, he, Deferred.ofValue, invoke, qcq hf]
 refine OwpA.of (fun c h => by rw [ho] at h; cases h) ?_
 unfold Oper.wp
 rw [hrun]
 refine (h X (vs ++ args.map a.eval) s.nx hc.sr hc.σ s.fin (hcaps.rrl.append (qkt hc args hn).pub)).mono ?_
 rintro e w' ⟨Y, v, y, rfl, rfl, ⟨rfl, hσ⟩, hS, hF, hR⟩
 exact ⟨v, y, s1, Y, rfl, hK, ⟨rfl, hσ, hS, hc.fr.trans hF, by rw [hs.2.1]; exact hc.size, fun d => by rw [hs.1]; exact (hc.regs d).fr hF, hc.defers, by rw [hs.2.2]; exact hc.fin⟩, hR⟩
def ares1 (P : Program) (s : AS) (r : ResultVar) (x : AV) : Prop :=
 match r with
 | .tmp d => (s.t d).pub = x /\ ∀ l, s.t d ≠ .tup l
 | .cell d t => ∃ ag n y, tinfo P t = some (ag, n) /\ rdAt s.st ag n (s.t d) = some y /\ y.pub = x
def aresl (P : Program) (s : AS) : List ResultVar -> List AV -> Prop
 | [], xs => xs = []
 | r :: rs, xs => ∃ x xs', xs = x :: xs' /\ ares1 P s r x /\ aresl P s rs xs'
def ares (P : Program) (s : AS) (rs : List ResultVar) (x : AV) : Prop :=
 match rs with
 | [r] => ares1 P s r x
 | rs => ∃ xs, aresl P s rs xs /\ x = .tup xs
def qdf : List AV -> Nat -> (Nat -> AV)
 | [], _ => fun _ => .any
 | x :: l, k => upd (qdf l (k + 1)) k x
def resV (tmps : Array Value) : ResultVar -> Sem Value
 | .tmp t => Pure.pure (tmps.getD t undef)
 | .cell a t => do loadVar t (<- asAddr (tmps.getD a undef))
theorem qdz (fn : Func) (tmps : Array Value) : results fn tmps = (do let vs <- fn.results.mapM (resV tmps); Pure.pure (if h : vs.size = 1 then vs[0] else .tuple vs)) := rfl
theorem qbt {X0 X : St} {a : Act} {w : World} (hc : Con X0 s a w X) {r : ResultVar} {x : AV} (h : ares1 P s r x) :
  ∃ v, (resV a.tmps r).run P X.w = .ok v X.w /\ RR1 X x v := by
 cases r with
 | tmp d =>
  obtain ⟨h1, h2⟩ := h
  refine ⟨_, rfl, ?_⟩
  have := hc.regs d
  rw [<- h1]
  unfold RR at this
  split at this
  .rename_i he; exact absurd he (h2 _)
  .exact this.pub
 | cell d t =>
  obtain ⟨ag, n, y, h1, h2, rfl⟩ := h
  obtain ⟨ad, u, h3, h4, h5⟩ := qyr (X := X) hc.sr (fun r hr => .inl (by rw [hc.σ])) h1 (hc.regs d) h2
  exact ⟨u, by simp [resV, h3, asAddr, h4], h5.pub⟩
theorem qmq {X0 X : St} {a : Act} {w : World} (hc : Con X0 s a w X) {fn : Func} {rs : List ResultVar} (hr : fn.results = rs.toArray) (hlen : rs.length <= 4) {x : AV} (h : ares P s rs x) : ∃ v, (results fn a.tmps).run P X.w = .ok v X.w /\ RR X x v := by
 match rs, hlen with
 | [], _ =>
  obtain ⟨xs, h1, rfl⟩ := h
  have h1' : xs = [] := h1
  subst h1'
  exact ⟨.tuple #[], by simp [qdz, hr], [], rfl, rfl⟩
 | [r], _ =>
  obtain ⟨v, h1, h2⟩ := qbt hc h
  exact ⟨v, by simp [qdz, hr, h1], h2.rr⟩
 | [r, r2], _ =>
  obtain ⟨xs, ⟨x1, _, rfl, h1, x2, _, rfl, h2, h3⟩, rfl⟩ := h
  have h3' : _ = [] := h3
  subst h3'
  obtain ⟨v1, g1, k1⟩ := qbt hc h1
  obtain ⟨v2, g2, k2⟩ := qbt hc h2
  exact ⟨.tuple #[v1, v2], by simp [qdz, hr, g1, g2], [v1, v2], rfl, v1, _, rfl, k1, v2, _, rfl, k2, rfl⟩
 | [r, r2, r3], _ =>
  obtain ⟨xs, ⟨x1, _, rfl, h1, x2, _, rfl, h2, x3, _, rfl, h3, h4⟩, rfl⟩ := h
  have h4' : _ = [] := h4
  subst h4'
  obtain ⟨v1, g1, k1⟩ := qbt hc h1
  obtain ⟨v2, g2, k2⟩ := qbt hc h2
  obtain ⟨v3, g3, k3⟩ := qbt hc h3
  exact ⟨.tuple #[v1, v2, v3], by simp [qdz, hr, g1, g2, g3], [v1, v2, v3], rfl, v1, _, rfl, k1, v2, _, rfl, k2, v3, _, rfl, k3, rfl⟩
 | [r, r2, r3, r4], _ =>
  obtain ⟨xs, ⟨x1, _, rfl, h1, x2, _, rfl, h2, x3, _, rfl, h3, x4, _, rfl, h4, h5⟩, rfl⟩ := h
  have h5' : _ = [] := h5
  subst h5'
  obtain ⟨v1, g1, k1⟩ := qbt hc h1
  obtain ⟨v2, g2, k2⟩ := qbt hc h2
  obtain ⟨v3, g3, k3⟩ := qbt hc h3
  obtain ⟨v4, g4, k4⟩ := qbt hc h4
  exact ⟨.tuple #[v1, v2, v3, v4], by simp [qdz, hr, g1, g2, g3, g4], [v1, v2, v3, v4], rfl, v1, _, rfl, k1, v2, _, rfl, k2, v3, _, rfl, k3, v4, _, rfl, k4, rfl⟩
theorem qgx {X : St} : ∀ (args : List AV) (vals pre : List Value) (n : Nat), RRl X args vals -> ∀ d, pre.length <= d -> RR X (qdf args pre.length d) (((pre ++ vals).toArray ++ Array.replicate n undef).getD d undef)
 | [], _, _, _, _, _, _ => trivial
 | x :: l, _, pre, n, h, d, hd => by
  obtain ⟨v, vs, rfl, h1, h2⟩ := h
  rw [qdf]
  unfold upd
  by_cases hj : d = pre.length
  .subst hj
   rw [if_pos rfl, Array.getD_eq_getD_getElem?]
   have : ((pre ++ v :: vs).toArray ++ Array.replicate n undef)[pre.length]? = some v := by
    rw [Array.getElem?_append_left (by rw [List.size_toArray, List.length_append, List.length_cons]; omega), List.getElem?_toArray, List.getElem?_append_right (Nat.le_refl _), Nat.sub_self]; rfl
   rw [this]; exact h1.rr
  .rw [if_neg hj]
   have := qgx l vs (pre ++ [v]) n h2 d (by simp; omega)
   simpa using this
theorem qia {f : FuncId} {fn : Func} {c : Code} {rs : List ResultVar} {args : List AV} {σ : Nat -> AB} {Q : AV -> (Nat -> AB) -> Prop} (hf : P.funcs[f]? = some fn) (hb : fn.body = some c) (hr : fn.results = rs.toArray) (hlen : rs.length <= 4) (ha : args.length <= fn.ntmps)
  (h : ∀ n0, Fin σ n0 -> (∀ r, (σ r).cl n0) -> AV.fitss args -> awp P c (fun e s' => (e = .normal \/ e = .ret) /\ s'.n0 = n0 /\ ∃ x, ares P s' rs x /\ x.cl n0 /\ (∀ r, r < n0 -> (s'.σ r).cl n0) /\ Q x (cut n0 s'.σ)) { n := fn.ntmps, t := qdf args 0, σ := σ, n0 := n0, L := [] }) : AC P f args σ Q := by
 intro X vals n0 hS hσ hfin hargs
 subst hσ
 have hl : vals.length = args.length := by
  have : ∀ (l : List AV) (vs : List Value), RRl X l vs -> vs.length = l.length := fun l => by
   induction l with
   | nil => intro vs h; have : vs = [] := h; subst this; rfl
   | cons x l ih => intro vs h; obtain ⟨v, vs', rfl, -, h2⟩ := h; simp [ih _ h2]
  exact this _ _ hargs
 refine calls_of_wp hf hb (wp_mono (CwpA.plain (h n0 hfin (fun r => (hS.block r).cl hfin) hargs.fits X { tmps := vals.toArray ++ Array.replicate (fn.ntmps - vals.toArray.size) undef, defers := [] } X.w ⟨X, rfl, ?_, hS, Fr.refl X, ?_, fun d => ?_, rfl, hfin⟩)) ?_)
 .funext r
  show X.σ r = loc X.σ n0 [] r
  unfold loc
  split
  .rfl
  .rw [hfin r (by omega)]; rfl
 .show (vals.toArray ++ Array.replicate _ undef).size = fn.ntmps
  rw [Array.size_append, Array.size_replicate, List.size_toArray]; omega
 .have := qgx args vals [] (fn.ntmps - vals.toArray.size) hargs d (by simp)
  simpa using this
 .rintro e a' w' ⟨s', ⟨he, hn0, x, hx, hcl, hcσ, hQ⟩, ⟨X', hc⟩, hdf⟩
  have hw := hc.w
  subst hw
  obtain ⟨v, hv, hR⟩ := qmq hc hr hlen hx
  have hst : ∀ r, r < n0 -> X'.σ r = s'.σ r := fun r hr => by
   rw [hc.σ]
   show loc s'.σ s'.n0 s'.L r = _
   unfold loc
   rw [hn0, if_pos hr]
  have hres : ∃ Y v' x', Ending.returned v = .returned v' /\ Y.w = X'.w /\ Q x' Y.σ /\ SR Y /\ Fr X Y /\ RR Y x' v' := by
   refine ⟨X'.cut n0, v, x, rfl, rfl, ?_, hc.sr.cut fun r hr => by rw [hst r hr]; exact hcσ r hr, hc.fr.cut (fun r hr => hfin r hr), hR.cut hcl⟩
   have : (X'.cut n0).σ = Proofs.YtkedbjjfmejbhaaGreatDoor.cut n0 s'.σ := by
    funext r
    show Proofs.YtkedbjjfmejbhaaGreatDoor.cut n0 X'.σ r = _
    unfold Proofs.YtkedbjjfmejbhaaGreatDoor.cut
    split
    .exact hst r ‹_›
    .rfl
   rw [this]; exact hQ
  rcases he with rfl | rfl
  .exact ⟨hdf, v, hv, hres⟩
  .exact ⟨hdf, v, hv, hres⟩
theorem qsz {f : FuncId} {fn : Func} {c : Code} {rs : List ResultVar} {args : List AV} {x : AV} {N : Nat} (hf : P.funcs[f]? = some fn) (hN : fn.ntmps = N) (hb : fn.body = some c) (hr : fn.results = rs.toArray) (hlen : rs.length <= 4) (ha : Nat.ble args.length N = true) (hx : ∀ n, x.cl n)
  (h : ∀ σ n0, (∀ r, (σ r).cl n0) -> AV.fitss args -> awp P c (fun e s' => (e = .normal \/ e = .ret) /\ s'.n0 = n0 /\ s'.σ = σ /\ ares P s' rs x) { n := N, t := qdf args 0, σ := σ, n0 := n0, L := [] }) : Gives P f args x := fun σ => by
 subst hN
 exact qia hf hb hr hlen (Nat.le_of_ble_eq_true ha) fun n0 hfin hcl hft => qfg (h σ n0 hcl hft) fun e s' ⟨h1, h2, h3, h4⟩ => ⟨h1, h2, x, h4, hx n0, fun r _ => by rw [h3]; exact hcl r, rfl, by
  funext r
  unfold Proofs.YtkedbjjfmejbhaaGreatDoor.cut
  rw [h3]
  split
  .rfl
  .exact (hfin r (by omega)).symm⟩
theorem qg {f : FuncId} {fn : Func} {c : Code} {rs : List ResultVar} {args : List AV} {x : AV} {N : Nat} (hf : P.funcs[f]? = some fn) (hN : fn.ntmps = N)
  (h : ∀ σ n0, (∀ r, (σ r).cl n0) -> AV.fitss args -> awp P c (fun e s' => (e = .normal \/ e = .ret) /\ s'.n0 = n0 /\ s'.σ = σ /\ ares P s' rs x) { n := N, t := qdf args 0, σ := σ, n0 := n0, L := [] }) (hb : fn.body = some c := by rfl) (hr : fn.results = rs.toArray := by rfl) (hlen : rs.length <= 4 := by decide) (ha : Nat.ble args.length N = true := by rfl) (hx : ∀ n, x.cl n := by intro n; simp) : Gives P f args x := qsz hf hN hb hr hlen ha hx h
theorem qcg {f : FuncId} {fn : Func} {c : Code} {rs : List ResultVar} {args : List AV} {x : AV} {N : Nat} {σ : Nat -> AB} {r : Nat} {ab : AB} (hf : P.funcs[f]? = some fn) (hN : fn.ntmps = N) (hb : fn.body = some c) (hr : fn.results = rs.toArray) (hlen : rs.length <= 4) (ha : Nat.ble args.length N = true) (hx : ∀ n, x.cl n) (hab : ∀ n, ab.cl n) (hσ : σ r ≠ .unborn)
  (h : ∀ n0, r < n0 -> (∀ r, (σ r).cl n0) -> AV.fitss args -> awp P c (fun e s' => (e = .normal \/ e = .ret) /\ s'.n0 = n0 /\ s'.σ = upd σ r ab /\ ares P s' rs x) { n := N, t := qdf args 0, σ := σ, n0 := n0, L := [] }) : AC P f args σ fun y τ => y = x /\ τ = upd σ r ab := by
 subst hN
 refine qia hf hb hr hlen (Nat.le_of_ble_eq_true ha) fun n0 hfin hcl hft => ?_
 have hrn : r < n0 := Nat.lt_of_not_le fun hle => hσ (hfin r hle)
 refine qfg (h n0 hrn hcl hft) fun e s' ⟨h1, h2, h3, h4⟩ => ⟨h1, h2, x, h4, hx n0, fun k _ => ?_, rfl, ?_⟩
 .rw [h3]; unfold upd; split
  .exact hab n0
  .exact hcl k
 .funext k
  unfold Proofs.YtkedbjjfmejbhaaGreatDoor.cut
  rw [h3]
  split
  .rfl
  .unfold upd
   rw [if_neg (by omega)]
   exact (hfin k (by omega)).symm
end
end Go.Proofs.YtkedbjjfmejbhaaGreatDoor
