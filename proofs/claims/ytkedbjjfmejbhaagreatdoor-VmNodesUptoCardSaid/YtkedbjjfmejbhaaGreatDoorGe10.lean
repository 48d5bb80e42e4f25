/- Slices that are made, stores into their elements, slices that are written no more, empty slice literals. -/
import Derived.Laws.MakeOwn
import Derived.Laws.IdiomStrings
import Derived.Lib.Strings
import Derived.ChangeMaps5
import Derived.Test.YtkedbjjfmejbhaaGreatDoorGe9
set_option linter.unusedSimpArgs false
set_option linter.unusedVariables false
namespace Go.Proofs.YtkedbjjfmejbhaaGreatDoor
open Go.RowKit Go.Lib
theorem qes (s : AS) (ab : AB) : (s.ext (some ab)).st = upd s.st s.nx ab /\ (s.ext (some ab)).nx = s.nx + 1 := by
 refine ⟨(qkr s.σ s.n0 s.L ab).symm, ?_⟩
 simp [AS.ext, AS.nx]; omega
def zelem : Value -> AV
 | .agg cs => .agg (cs.toList.map .v)
 | z => .v z
def zel (P : Program) (t : TypeId) : Option AV :=
 match zinfo P t with
 | some z => if z.cells.toList.all Value.oneCell' = true then some (zelem z) else none
 | none => none
theorem qeh1 (z : Array Value) (n : Nat) : (madeCells z (n * z.size)).toList = (List.replicate n z.toList).flatten := by
 induction n with
 | zero => simp [madeCells]
 | succ n ih =>
  have h0 : (List.range z.size).map (fun j => z[j % z.size]!) = z.toList := by
   refine List.ext_getElem (by simp) fun i h1 h2 => ?_
   have hi : i < z.size := by simpa using h2
   simp [Nat.mod_eq_of_lt hi, hi]
  have h1 : (List.range (n * z.size)).map ((fun j => z[j % z.size]!) ∘ (z.size + ·)) = (madeCells z (n * z.size)).toList := by
   unfold madeCells
   rw [Array.toList_map, Array.toList_range]
   refine List.map_congr_left fun j _ => ?_
   show z[(z.size + j) % z.size]! = z[j % z.size]!
   rw [Nat.add_mod_left]
  unfold madeCells
  rw [Nat.succ_mul, Nat.add_comm, Array.toList_map, Array.toList_range, List.range_add, List.map_append, List.map_map, h0, h1, ih, List.replicate_succ, List.flatten_cons]
theorem qfm1 {X : St} {x : AV} {cs : List Value} (h : RC X x cs) : ∀ n, RCs X (List.replicate n x) (List.replicate n cs).flatten
 | 0 => rfl
 | n + 1 => ⟨cs, _, by rw [List.replicate_succ, List.flatten_cons], h, qfm1 h n⟩
theorem qlb1 {X : St} {z : Value} (h : z.cells.toList.all Value.oneCell' = true) : RC X (zelem z) z.cells.toList := by
 cases z with
 | agg cs => show RC X (.agg _) _; rw [RC]; exact qmb1 (z := .agg cs) h
 | _ => show RC X (.v _) _; rw [RC]; rfl
theorem qwv {z : Value} : (zelem z).width = z.cells.size := by
 cases z <;> simp [zelem, AV.width, Value.cells]
theorem qqb {α : Type} {l : List α} : ∀ n, ((List.replicate n l).flatten).length = n * l.length
 | 0 => by simp
 | n + 1 => by rw [List.replicate_succ, List.flatten_cons, List.length_append, qqb n, Nat.succ_mul]; omega
section
variable {P : Program} {ev : Operand -> AV} {σ : Nat -> AB}
theorem qqe {t e : TypeId} {p q : Operand} {kl kc : IntKind} {n c sz by_ r : Nat} {x : AV} (ht : vinfo P t = some (e, sz, by_)) (hz : zel P e = some x) (hp : ev p = .v (.int kl n)) (hq : ev q = .v (.int kc c)) (hn : n <= c) (hb : by_ * c <= 281474976710656) :
  FOp P ev σ (.makeSlice t p q) (.own r n) (some (r, .vec (List.replicate n x) e sz)) := by
 intro X a oper ho hS hsub hev hnb Q
 have hu := hnb r _ rfl
 obtain ⟨hut, i, z, hi, hzz, hsz, hby, hzs, hsz0, hby0, hz1⟩ := qbr ht
 subst hsz; subst hby
 have hx : x = zelem z /\ z.cells.toList.all Value.oneCell' = true := by
  unfold zel zinfo at hz
  rw [hi] at hz
  simp only [Option.bind_some, hzz] at hz
  split at hz
  .rename_i h; cases hz; exact ⟨rfl, h⟩
  .cases hz
 have h1 := hev p (by simp [Op.operands])
 have h2 := hev q (by simp [Op.operands])
 rw [hp, RR.v] at h1; rw [hq, RR.v] at h2
 have hc : c <= 281474976710656 := Nat.le_trans (Nat.le_mul_of_pos_left c hby0) hb
 have hb' : (i.bytes : Int) * (c : Int) <= 281474976710656 := by
  have h : ((i.bytes * c : Nat) : Int) <= 281474976710656 := by omega
  rwa [Int.natCast_mul] at h
 have hr := run_make (P := P) X.w t e i z hut hi hzz kl kc n c (by omega) (by omega) hb' (by omega)
 simp only [Int.toNat_natCast] at hr
 rw [<- hzs] at hr
 have hv : (AB.vec (List.replicate n x) e i.size).blk (.slice (some ⟨X.w.heap.size, 0, none⟩) n c) = some X.w.heap.size := rfl
 have hfr := qfz hS (cs := madeCells z.cells (c * z.cells.size)) (t := e) hu hv
 refine qbi (w' := X.w.alloc (.cells (madeCells z.cells (c * z.cells.size)) e)) (v := .slice (some ⟨X.w.heap.size, 0, none⟩) n c) ?_
  ⟨_, X.born r _ (madeCells z.cells (c * z.cells.size)) e (.slice (some ⟨X.w.heap.size, 0, none⟩) n c), rfl, rfl, qje hS hu hv ?_, hfr, ?_, rfl⟩
 .simp only [execOp, ho]
  rw [Sem.run_bind, h1, h2, hr]; rfl
 .refine ⟨fun y hy => ?_, (List.replicate n z.cells.toList).flatten, ⟨by rw [qqb]; simp [hzs], .inr ⟨X.w.heap.size, c, _, by simp, Nat.zero_le _, heap_alloc_new X.w _, by simpa using hn, by unfold maxLen; omega, by rw [size_madeCells, hzs], ?_⟩⟩, ?_⟩
  .rw [(List.mem_replicate.1 hy).2, hx.1, qwv, hzs]
  .rw [qeh1, List.length_replicate]
   have : c = n + (c - n) := by omega
   rw [this, <- List.replicate_append_replicate, List.flatten_append]
   have hl : ((List.replicate n z.cells.toList).flatten).length = n * i.size := by rw [qqb]; simp [hzs]
   rw [<- hl]; exact List.take_left
  .rw [hx.1]; exact qfm1 (qlb1 hx.2) n
 .show RC _ (.own r n) [_]
  rw [RC]
  refine ⟨by simp [St.born, upd], _, rfl, ⟨rfl, fun I h => by simp [St.born, upd] at h⟩, fun l e2 s2 hl => ?_⟩
  simp [St.born, upd] at hl
  obtain ⟨rfl, rfl, rfl⟩ := hl
  exact ⟨by simp, fun _ => by simp [St.born, upd]⟩
theorem qsw {t e : TypeId} {p q : Operand} {kl kc : IntKind} {c sz by_ r : Nat} (ht : vinfo P t = some (e, sz, by_)) (hp : ev p = .v (.int kl 0)) (hq : ev q = .v (.int kc c)) (hb : by_ * c <= 281474976710656) :
  FOp P ev σ (.makeSlice t p q) (.gs r []) (some (r, .tail 0 e sz)) := by
 intro X a oper ho hS hsub hev hnb Q
 have hu := hnb r _ rfl
 obtain ⟨hut, i, z, hi, hzz, hsz, hby, hzs, hsz0, hby0, hz1⟩ := qbr ht
 subst hsz; subst hby
 have h1 := hev p (by simp [Op.operands])
 have h2 := hev q (by simp [Op.operands])
 rw [hp, RR.v] at h1; rw [hq, RR.v] at h2
 have hc : c <= 281474976710656 := Nat.le_trans (Nat.le_mul_of_pos_left c hby0) hb
 have hb' : (i.bytes : Int) * (c : Int) <= 281474976710656 := by
  have h : ((i.bytes * c : Nat) : Int) <= 281474976710656 := by omega
  rwa [Int.natCast_mul] at h
 have hr := run_make (P := P) X.w t e i z hut hi hzz kl kc 0 c (by omega) (by omega) hb' (by omega)
 simp only [Int.toNat_natCast, Int.toNat_zero] at hr
 rw [<- hzs] at hr
 have hv : (AB.tail 0 e i.size).blk (.slice (some ⟨X.w.heap.size, 0, none⟩) 0 c) = some X.w.heap.size := rfl
 have hfr := qfz hS (cs := madeCells z.cells (c * z.cells.size)) (t := e) hu hv
 refine qbi (w' := X.w.alloc (.cells (madeCells z.cells (c * z.cells.size)) e)) (v := .slice (some ⟨X.w.heap.size, 0, none⟩) 0 c) ?_
  ⟨_, X.born r _ (madeCells z.cells (c * z.cells.size)) e (.slice (some ⟨X.w.heap.size, 0, none⟩) 0 c), rfl, rfl, qje hS hu hv ?_, hfr, ?_, rfl⟩
 .simp only [execOp, ho]
  rw [Sem.run_bind, h1, h2, hr]; rfl
 .exact qqz (xs := []) ⟨by simp, .inr ⟨X.w.heap.size, c, _, rfl, Nat.zero_le _, heap_alloc_new X.w _, Nat.zero_le _, by unfold maxLen; omega, by rw [size_madeCells, hzs], by simp⟩⟩
 .show RC _ (.gs r []) [_]
  rw [RC]
  refine ⟨some ⟨X.w.heap.size, 0, none⟩, c, 0, 0, rfl, Nat.zero_le _, by omega, fun h => absurd h (by simp), by rw [RM]; trivial, by simp [St.born, upd], fun n2 e2 s2 hl => ?_⟩
  simp [St.born, upd] at hl
  obtain ⟨rfl, rfl, rfl⟩ := hl
  exact ⟨Nat.le_refl _, fun _ => by simp [St.born, upd]⟩
theorem qhf {t e : TypeId} {sz by_ r : Nat} (ht : vinfo P t = some (e, sz, by_)) : FOp P ev σ (.buildSlice t 0 #[]) (.gs r []) (some (r, .tail 0 e sz)) := by
 intro X a oper ho hS hsub hev hnb Q
 have hu := hnb r _ rfl
 obtain ⟨hut, i, z, hi, hzz, hsz, hby, hzs, hsz0, hby0, hz1⟩ := qbr ht
 subst hsz; subst hby
 have hv : (AB.tail 0 e i.size).blk (.slice (some ⟨X.w.heap.size, 0, none⟩) 0 0) = some X.w.heap.size := rfl
 have hfr := qfz hS (cs := #[]) (t := e) hu hv
 refine qbi (w' := X.w.alloc (.cells #[] e)) (v := .slice (some ⟨X.w.heap.size, 0, none⟩) 0 0) ?_
  ⟨_, X.born r _ #[] e (.slice (some ⟨X.w.heap.size, 0, none⟩) 0 0), rfl, rfl, qje hS hu hv ?_, hfr, ?_, rfl⟩
 .simp [execOp, ho, Instr.buildSlice, run_underlying hut, sizeOf, typeInfo, hi, Instr.fill, newRow, Array.range_zero']
 .exact qqz (xs := []) ⟨by simp, .inr ⟨X.w.heap.size, 0, #[], rfl, Nat.zero_le _, heap_alloc_new X.w _, Nat.zero_le _, by unfold maxLen; omega, by simp, by simp⟩⟩
 .show RC _ (.gs r []) [_]
  rw [RC]
  refine ⟨some ⟨X.w.heap.size, 0, none⟩, 0, 0, 0, rfl, Nat.zero_le _, by omega, fun h => absurd h (by simp), by rw [RM]; trivial, by simp [St.born, upd], fun n2 e2 s2 hl => ?_⟩
  simp [St.born, upd] at hl
  obtain ⟨rfl, rfl, rfl⟩ := hl
  exact ⟨Nat.le_refl _, fun _ => by simp [St.born, upd]⟩
end
theorem RCs.part {X : St} {sz : Nat} : ∀ {l : List AV} {xs : List Value} {k : Nat} {x : AV}, RCs X l xs -> (∀ y ∈ l, y.width = sz) -> l[k]? = some x ->
  ∃ pre cx post, xs = pre ++ cx ++ post /\ pre.length = k * sz /\ RC X x cx /\ ∀ (Y : St) (x' : AV) (cx' : List Value), Fr X Y -> RC Y x' cx' -> RCs Y (l.set k x') (pre ++ cx' ++ post)
 | [], _, _, _, _, _, h => by simp at h
 | y :: l, xs, k, x, hr, hw, hk => by
  obtain ⟨c1, c2, rfl, h1, h2⟩ := hr
  have hl := RC.length _ _ h1
  rw [hw y (by simp)] at hl
  cases k with
  | zero =>
   simp at hk; subst hk
   exact ⟨[], c1, c2, rfl, by simp, h1, fun Y x' cx' hF h => ⟨cx', c2, rfl, h, RCs.fr hF _ _ h2⟩⟩
  | succ k =>
   obtain ⟨pre, cx, post, rfl, h3, h4, h5⟩ := RCs.part h2 (fun z hz => hw z (by simp [hz])) (by simpa using hk)
   refine ⟨c1 ++ pre, cx, post, by simp, by rw [List.length_append, h3, hl, Nat.succ_mul]; omega, h4, fun Y x' cx' hF h => ?_⟩
   rw [List.set_cons_succ]
   exact ⟨c1, pre ++ cx' ++ post, by simp, RC.fr hF _ _ h1, h5 Y x' cx' hF h⟩
def wrEl (x : AV) (off : Nat) (y : AV) : Option AV :=
 match x with
 | .agg cs => if off + y.cells.length <= cs.length then some (.agg (qer cs off y.cells)) else none
 | _ => if off = 0 /\ y.one = true then some y else none
theorem qff1 {y : AV} (h : y.sure = true) : y.pub.cells = AV.pubs y.cells := by
 cases y with
 | agg l => rw [AV.pub]; rfl
 | gs r l => rw [AV.pub]; show _ = AV.pubs [AV.gs r l]; rw [AV.pubs, AV.pubs, AV.pub]; rfl
 | v x =>
  rw [AV.pub]; show _ = AV.pubs [AV.v x]; rw [AV.pubs, AV.pubs, AV.pub]
  unfold pubV; split <;> rfl
 | tup l => cases h
 | any => cases h
 | sl l => rw [AV.pub]; show _ = AV.pubs [AV.sl l]; rw [AV.pubs, AV.pubs, AV.pub]; rfl
 | ptr r o => rw [AV.pub]; show _ = AV.pubs [AV.ptr r o]; rw [AV.pubs, AV.pubs, AV.pub]; rfl
 | own r n => rw [AV.pub]; show _ = AV.pubs [AV.own r n]; rw [AV.pubs, AV.pubs, AV.pub]; rfl
 | ep y o => rw [AV.pub]; show _ = AV.pubs [AV.ep y o]; rw [AV.pubs, AV.pubs, AV.pub]; rfl
 | eo r n k o => rw [AV.pub]; show _ = AV.pubs [AV.eo r n k o]; rw [AV.pubs, AV.pubs, AV.pub]; rfl
 | fn f l => rw [AV.pub]; show _ = AV.pubs [AV.fn f l]; rw [AV.pubs, AV.pubs, AV.pub]; rfl
 | bm f l => rw [AV.pub]; show _ = AV.pubs [AV.bm f l]; rw [AV.pubs, AV.pubs, AV.pub]; rfl
 | es => rw [AV.pub]; show _ = AV.pubs [AV.es]; rw [AV.pubs, AV.pubs, AV.pub]; rfl
 | sub r a n c sz => rw [AV.pub]; show _ = AV.pubs [AV.sub r a n c sz]; rw [AV.pubs, AV.pubs, AV.pub]; rfl
def keep1 : AV -> AV -> AV
 | .v (.slice none 0 0), .v (.slice none 0 0) => .v (.slice none 0 0)
 | .gs r _, .gs r' l => if r' = r then .gs r' l else .sl l
 | _, y => y.pub
def keeps : List AV -> List AV -> List AV
 | _, [] => []
 | [], y :: l => y.pub :: keeps [] l
 | c :: cs, y :: l => keep1 c y :: keeps cs l
def AV.keep (x : AV) (off : Nat) (y : AV) : AV :=
 match x with
 | .agg cs => match y with
  | .agg l => .agg (keeps (cs.drop off) l)
  | y => keep1 (cs.getD off .any) y
 | _ => y.pub
theorem qqj (c y : AV) : keep1 c y = y.pub \/ keep1 c y = y := by
 unfold keep1
 split
 .exact .inr rfl
 .split
  .exact .inr rfl
  .left; rw [AV.pub]
 .exact .inl rfl
theorem qeb1 (c y : AV) (h : y.one = true) : (keep1 c y).one = true := by
 rcases qqj c y with e | e <;> rw [e]
 .exact y.pub_one h
 .exact h
theorem R1s.keeps {X : St} : ∀ {cs l : List AV} {vs : List Value}, R1s X l vs -> R1s X (keeps cs l) vs
 | cs, [], _, h => by cases cs <;> exact h
 | [], x :: l, _, h => by
  rw [R1s] at h
  obtain ⟨v, vs, rfl, h0, h1, h2⟩ := h
  rw [Proofs.YtkedbjjfmejbhaaGreatDoor.keeps, R1s]
  exact ⟨v, vs, rfl, x.pub_one h0, RC.pub1 h0 h1, R1s.keeps h2⟩
 | c :: cs, x :: l, _, h => by
  rw [R1s] at h
  obtain ⟨v, vs, rfl, h0, h1, h2⟩ := h
  rw [Proofs.YtkedbjjfmejbhaaGreatDoor.keeps, R1s]
  refine ⟨v, vs, rfl, qeb1 c x h0, ?_, R1s.keeps h2⟩
  rcases qqj c x with e | e <;> rw [e]
  .exact RC.pub1 h0 h1
  .exact h1
theorem qni1 {X : St} {x y : AV} {off : Nat} {v : Value} (h : RR X y v) (hs : y.sure = true) : RC X (x.keep off y) v.cells.toList /\ R1s X (x.keep off y).cells v.cells.toList := by
 have h1 := qfi h hs
 have hp : RC X y.pub v.cells.toList /\ R1s X y.pub.cells v.cells.toList := ⟨qxb h hs, by rw [qff1 hs]; exact h1.pub⟩
 unfold AV.keep
 split
 .split
  .refine ⟨?_, h1.keeps⟩
   rw [RC]; exact h1.keeps
  .rename_i hna
   rcases qqj _ y with e | e <;> rw [e]
   .exact hp
   .refine ⟨?_, h1⟩
    have hy : y.cells = [y] := by cases y <;> first | rfl | exact absurd rfl (hna _)
    rw [hy, R1s] at h1
    obtain ⟨u, us, he, -, h3, h4⟩ := h1
    rw [R1s] at h4; subst h4
    rw [he]; exact h3
 .exact hp
section
variable {P : Program} {s : AS}
theorem qsh {t : TypeId} {p y : Operand} {r off n k : Nat} {l : List AV} {et : TypeId} {sz : Nat} {ag : Bool} {m : Nat} {x x' : AV} {K : AV -> AS -> Prop} (ht : tinfo P t = some (ag, m)) (hp : s.eval p = .eo r n k off) (hσ : s.st r = .vec l et sz) (hn : n = l.length)
  (hk : l[k]? = some x) (hs : (s.eval y).sure = true) (hm : (s.eval y).cells.length = m) (hx : wrEl x off (x.keep off (s.eval y)) = some x') (hK : K .any (s.set r (.vec (l.set k x') et sz))) : EOp P s (.store t p y) K := by
 intro X0 a w X oper ho hc Q
 have hw := hc.w
 subst hw
 have h1 := hc.eval p
 obtain ⟨h2, h2'⟩ := qni1 (x := x) (off := off) (hc.eval y) hs
 have hly : (a.eval y).cells.size = m := by
  have := R1s.length _ _ (qfi (hc.eval y) hs)
  rw [hm] at this; simpa using this
 have hpm : (x.keep off (s.eval y)).cells.length = m := by have := R1s.length _ _ h2'; rw [<- this]; simpa using hly
 rw [hp] at h1
 change RC X (.eo r n k off) [a.eval p] at h1
 rw [RC] at h1
 obtain ⟨-, v, hv, -, hall⟩ := h1
 have hX : X.σ r = .vec l et sz := by rw [hc.σ, hσ]
 obtain ⟨b, hb, hvb⟩ := (hall _ _ _ hX).2 hn
 have hv' : a.eval p = .pointer (some ⟨b, k * sz + off, none⟩) := by rw [<- hvb]; simpa using hv
 have hB := hc.sr.block r
 rw [hX] at hB
 obtain ⟨hwd, xs, hown, hrs⟩ := hB
 have hkl : k < l.length := (List.getElem?_eq_some_iff.1 hk).1
 have hxw : x.width = sz := hwd x (List.mem_of_getElem? hk)
 obtain ⟨pre, cx, post, hxs, hpre, hcx, hset⟩ := hrs.part hwd hk
 have hcxl : cx.length = sz := by rw [RC.length _ _ hcx, hxw]
 rcases hown.2 with ⟨h3, h4⟩ | ⟨g, cap, cur, h3, h4, h5, h6, h7, h8, h9⟩
 .omega
 have hgb : g = b := by rw [h3] at hb; simpa [Value.ownBlock] using hb
 subst hgb
 have hoff : off + m <= sz /\ x'.width = sz /\ ∀ Y, Fr X Y -> RC Y x' (cx.take off ++ (a.eval y).cells.toList ++ cx.drop (off + m)) := by
  unfold wrEl at hx
  split at hx
  .rename_i cs
   split at hx
   .rename_i hle
    cases hx
    have hcl : cs.length = sz := hxw
    rw [hpm] at hle
    refine ⟨by omega, ?_, fun Y hF => ?_⟩
    .show (qer cs off _).length = sz
     unfold qer
     simp only [List.length_append, List.length_take, List.length_drop, hpm]
     omega
    .rw [RC] at hcx ⊢
     unfold qer
     rw [hpm]
     exact R1s.fr hF _ _ (((hcx.take off).append h2').append (hcx.drop _))
   .cases hx
  .rename_i hne
   split at hx
   .rename_i h0
    obtain ⟨rfl, hy1⟩ := h0
    cases hx
    have hw1 : (x.keep 0 (s.eval y)).width = 1 := by
     generalize x.keep 0 (s.eval y) = z at hy1
     cases z <;> first | rfl | (cases hy1; done)
    have hx1 : x.width = 1 := by
     cases x <;> first | rfl | (exfalso; exact hne _ rfl)
    have hm1 : m = 1 := by
     have := RC.length _ _ h2
     rw [hw1] at this
     rw [<- hly]; simpa using this
    have hsz1 : sz = 1 := by omega
    refine ⟨by omega, by rw [hw1, hsz1], fun Y hF => ?_⟩
    have : cx.drop (0 + m) = [] := List.drop_eq_nil_of_le (by omega)
    rw [this, List.take_zero, List.nil_append, List.append_nil]
    exact RC.fr hF _ _ h2
   .cases hx
 obtain ⟨hoff, hxw', hrc⟩ := hoff
 have hcur : cur.toList = pre ++ cx ++ post ++ cur.toList.drop (l.length * sz) := by
  rw [<- hxs, <- h9]; exact (List.take_append_drop _ _).symm
 have hnl : l.length * sz = pre.length + sz + post.length := by
  rw [<- hown.1, hxs]; simp; omega
 have hkn : k * sz + sz <= l.length * sz := by rw [<- Nat.succ_mul]; exact Nat.mul_le_mul_right _ hkl
 have hcapn : l.length * sz <= cap * sz := Nat.mul_le_mul_right _ h6
 have hrun := qkj (P := P) ht (off := k * sz + off) (v := a.eval y) h5 hly (by omega) (fun u hu => R1s.oneCell h2' u hu)
 have hnew : cur.toList.take (k * sz + off) ++ (a.eval y).cells.toList ++ cur.toList.drop (k * sz + off + m) = (pre ++ (cx.take off ++ (a.eval y).cells.toList ++ cx.drop (off + m)) ++ post) ++ cur.toList.drop (l.length * sz) := by
  have e1 : cur.toList.take (k * sz + off) = pre ++ cx.take off := by
   rw [hcur, List.append_assoc, List.append_assoc, List.take_append, <- hpre]
   rw [List.take_of_length_le (by omega), Nat.add_sub_cancel_left, List.take_append_of_le_length (by omega)]
  have e2 : cur.toList.drop (k * sz + off + m) = cx.drop (off + m) ++ post ++ cur.toList.drop (l.length * sz) := by
   conv => lhs; rw [hcur]
   rw [List.append_assoc, List.append_assoc, List.drop_append, <- hpre, List.drop_eq_nil_of_le (by omega), List.nil_append, Nat.add_assoc, Nat.add_sub_cancel_left, List.drop_append_of_le_length (by omega), List.append_assoc]
  rw [e1, e2]; simp
 have hbr : X.blk r = some g := by unfold St.blk; rw [hX]; exact hb
 have hglt : g < X.w.heap.size := (Array.getElem?_eq_some_iff.1 h5).1
 have hT : Turns X (X.w.setRow g (cur.toList.take (k * sz + off) ++ (a.eval y).cells.toList ++ cur.toList.drop (k * sz + off + m)).toArray) X.S r (.vec (l.set k x') et sz) (X.μ r) :=
  {grown := by rw [hbr]; exact qki _ _ _
   blk := fun b2 h => .inl (by rw [hbr]; exact hb.symm.trans h)
   ver := by
    unfold Ver
    rw [hX]
    exact .inr ⟨l.set k x', by simp [St.turn, upd], .inr ⟨by simp, by simp [St.turn, upd]⟩⟩
   keepS := fun b2 o h1 h2 => by
    obtain ⟨_, e, s2, h3, -⟩ := hc.sr.apart r b2 o h1 h2
    rw [hX] at h3; cases h3
   more := fun _ _ h => h
   less := fun _ _ h => .inl h
   apart := fun b2 o h1 h2 => by
    obtain ⟨_, e, s2, h3, -⟩ := hc.sr.apart r b2 o (by rw [hbr]; exact hb.symm.trans h1) h2
    rw [hX] at h3; cases h3
   old := fun b2 h => by
    have : some g = some b2 := hb.symm.trans h
    cases this; simpa using hglt }
 have hF := qhy hc.sr hT
 refine qrl (w' := X.w.setRow g (cur.toList.take (k * sz + off) ++ (a.eval y).cells.toList ++ cur.toList.drop (k * sz + off + m)).toArray) (by simp [execOp, ho, hv', Instr.storeAt, Instr.sureAddr, hrun])
  ⟨undef, .any, _, _, rfl, hK, qgt (v := X.μ r) hc (by rw [hσ]; simp) hT ?_, trivial⟩
 refine ⟨fun z hz => ?_, pre ++ (cx.take off ++ (a.eval y).cells.toList ++ cx.drop (off + m)) ++ post, ⟨?_, .inr ⟨g, cap, _, ?_, Nat.zero_le _, setRow_heap _ _ _ _ _ _ h5, by simpa using h6, h7, ?_, ?_⟩⟩, hset _ _ _ hF (hrc _ hF)⟩
 .rcases List.mem_or_eq_of_mem_set hz with h | rfl
  .exact hwd z h
  .exact hxw'
 .simp only [List.length_append, List.length_take, List.length_drop, List.length_set, Array.length_toList]
  omega
 .rw [h3]; simp
 .have : cur.toList.length = cap * sz := by simpa using h8
  simp only [List.size_toArray, List.length_append, List.length_take, List.length_drop, Array.length_toList]
  omega
 .simp only [List.length_set]
  rw [hnew]
  have hl : (pre ++ (cx.take off ++ (a.eval y).cells.toList ++ cx.drop (off + m)) ++ post).length = l.length * sz := by
   simp only [List.length_append, List.length_take, List.length_drop, Array.length_toList]
   omega
  rw [<- hl]; exact List.take_left
theorem qnr {X0 X : St} {a : Act} {w : World} (hc : Con X0 s a w X) {r : Nat} {l : List AV} {et : TypeId} {sz : Nat} (hσ : s.st r = .vec l et sz) :
  ∃ X', X'.w = X.w /\ Con X0 ((s.set r .dead).ext (some (.tail l.length et sz))) a w X' /\ Fr X X' /\ ∀ v n, n = l.length -> RC X (.own r n) [v] -> RC X' (.gs s.nx l) [v] := by
 have hX : X.σ r = .vec l et sz := by rw [hc.σ, hσ]
 have hlt : r < s.nx := Nat.lt_of_not_le fun h => by have := s.fin r h; rw [hσ] at this; cases this
 have hun : X.σ s.nx = .unborn := by rw [hc.σ]; exact s.fin _ (Nat.le_refl _)
 have hrn : r ≠ s.nx := by omega
 have hB := hc.sr.block r
 rw [hX] at hB
 obtain ⟨hwd, xs, hown, hrs⟩ := hB
 have hbr : X.blk r = (X.μ r).ownBlock := by unfold St.blk; rw [hX]; rfl
 let X' : St := { X with μ := upd X.μ s.nx (X.μ r), S := fun b o => X.S b o \/ ((X.μ r).ownBlock = some b /\ o < l.length * sz), σ := upd (upd X.σ r .dead) s.nx (.tail l.length et sz) }
 have hσ1 : X'.σ s.nx = .tail l.length et sz := by simp [X', upd]
 have hσ2 : X'.σ r = .dead := by simp [X', upd, hrn]
 have hσ3 : ∀ k, k ≠ r -> k ≠ s.nx -> X'.σ k = X.σ k /\ X'.μ k = X.μ k := fun k h1 h2 => by simp [X', upd, h1, h2]
 have hμ1 : X'.μ s.nx = X.μ r := by simp [X', upd]
 have hb : ∀ k b, X'.blk k = some b -> (k = s.nx /\ X.blk r = some b) \/ (k ≠ r /\ k ≠ s.nx /\ X.blk k = some b) := fun k b h => by
  unfold St.blk at h
  by_cases h1 : k = s.nx
  .subst h1
   rw [hσ1, hμ1] at h
   exact .inl ⟨rfl, hbr.trans h⟩
  .by_cases h2 : k = r
   .subst h2; rw [hσ2] at h; cases h
   .obtain ⟨e1, e2⟩ := hσ3 k h2 h1
    rw [e1, e2] at h
    exact .inr ⟨h2, h1, h⟩
 have hF : Fr X X' := ⟨rfl, rfl, rfl, Nat.le_refl _, fun _ _ _ => rfl, fun _ _ _ => rfl, fun _ _ h => .inl h, fun b o h => by
  rcases h with h | h
  .exact .inl h
  .exact .inr (.inr ⟨r, hbr.trans h.1⟩), fun k => by
  unfold Ver
  by_cases h1 : k = s.nx
  .subst h1; rw [hun]; trivial
  .by_cases h2 : k = r
   .subst h2; rw [hX]; exact .inl hσ2
   .obtain ⟨e1, e2⟩ := hσ3 k h2 h1
    have := (Fr.refl X).ver k
    unfold Ver at this
    rw [e1, e2]; exact this, fun k b h => by
  rcases hb k b h with ⟨-, h⟩ | ⟨-, -, h⟩
  .exact .inr ⟨r, h⟩
  .exact .inr ⟨k, h⟩⟩
 refine ⟨X', rfl, ⟨hc.w, ?_, ⟨fun k => ?_, fun k k' b h1 h2 => ?_, fun k b o h1 h2 => ?_, fun b o h => ?_, hc.sr.glob.mono fun _ _ _ h => h.fr hF⟩, hc.fr.trans hF, ?_, fun d => ?_, hc.defers, ?_⟩, hF, fun v n hn hv => ?_⟩
 .rw [(qes _ _).1, AS.set_st _ _ _ hlt, <- hc.σ]
  have : (s.set r .dead).nx = s.nx := by
   unfold AS.set AS.nx; split <;> simp
  rw [this]
 .by_cases h1 : k = s.nx
  .subst h1; rw [hσ1, hμ1]; exact qqz hown
  .by_cases h2 : k = r
   .subst h2; rw [hσ2]; trivial
   .obtain ⟨e1, e2⟩ := hσ3 k h2 h1
    exact BR.fr hc.sr hF e1 e2 fun _ _ => rfl
 .rcases hb k b h1 with ⟨rfl, h3⟩ | ⟨h3, h4, h5⟩ <;> rcases hb k' b h2 with ⟨rfl, h6⟩ | ⟨h6, h7, h8⟩
  .rfl
  .exact absurd (hc.sr.alone _ _ b h8 h3) h6
  .exact absurd (hc.sr.alone _ _ b h5 h6) h3
  .exact hc.sr.alone _ _ b h5 h8
 .rcases hb k b h1 with ⟨rfl, h3⟩ | ⟨h3, h4, h5⟩
  .rcases h2 with h2 | h2
   .obtain ⟨_, e, s2, h6, -⟩ := hc.sr.apart r b o h3 h2
    rw [hX] at h6; cases h6
   .exact ⟨_, _, _, hσ1, h2.2⟩
  .rcases h2 with h2 | h2
   .obtain ⟨n2, e, s2, h6, h7⟩ := hc.sr.apart k b o h5 h2
    exact ⟨n2, e, s2, by rw [(hσ3 k h3 h4).1]; exact h6, h7⟩
   .exact absurd (hc.sr.alone _ _ b h5 (hbr.trans h2.1)) h3
 .rcases h with h | h
  .exact hc.sr.old b o h
  .exact hc.sr.lt (hbr.trans h.1)
 .have := (s.set_nx r .dead).1
  show _ = (s.set r .dead).n
  rw [this]; exact hc.size
 .have := (s.set_nx r .dead).2.2
  show RR X' ((s.set r .dead).t d) _
  rw [this]; exact (hc.regs d).fr hF
 .have := (s.set_nx r .dead).2.1
  show Fin _ (s.set r .dead).n0
  rw [this]; exact hc.fin
 .subst hn
  rw [RC] at hv
  show RC X' (.gs s.nx l) [v]
  rw [RC]
  obtain ⟨-, v', hv1, -, hall⟩ := hv
  have hvv : v = X.μ r := by
   have := (hall _ _ _ hX).2 rfl
   rw [<- this]; simpa using hv1
  subst hvv
  rcases hown.2 with ⟨h3, h4⟩ | ⟨g, cap, cur, h3, h4, h5, h6, h7, h8, h9⟩
  .refine ⟨none, 0, 0, 0, by rw [h3, h4], by omega, by omega, fun h => by omega, ?_, by rw [hσ1]; simp, fun n2 e2 s2 h => ?_⟩
   .have : l = [] := List.eq_nil_of_length_eq_zero h4
    rw [this, RM]; trivial
   .rw [hσ1] at h; cases h
    exact ⟨Nat.le_refl _, fun _ => by rw [hμ1, h3, h4]⟩
  .refine ⟨some ⟨g, 0, none⟩, cap, g, 0, by rw [h3], h6, by simpa [maxLen] using h7, fun _ => rfl, ?_, by rw [hσ1]; simp, fun n2 e2 s2 h => ?_⟩
   .refine RM.of (RCs.fr hF _ _ hrs) (qeg _ 0 fun j u hj => ⟨?_, .inr ⟨by rw [h3]; rfl, ?_⟩⟩)
    .have := hown.cells (g := g) (by rw [h3]; rfl) j u hj
     rwa [qbd] at this
    .have := (List.getElem?_eq_some_iff.1 hj).1
     rw [hown.1] at this; omega
   .rw [hσ1] at h; cases h
    exact ⟨Nat.le_refl _, fun _ => by rw [hμ1, h3]⟩
theorem qdg {c : Code} {Q : Exit -> AS -> Prop} {n n0 : Nat} {t : Nat -> AV} {σ : Nat -> AB} {L : List AB} (d i : Nat) {k : Nat} {l : List AV} {et : TypeId} {sz : Nat} (hd : t d = .own (n0 + i) k) (hL : L[i]? = some (.vec l et sz)) (hk : k = l.length)
  (h : awp P c Q ⟨n, upd t d (.gs (n0 + L.length) l), σ, n0, L.set i .dead ++ [AB.tail l.length et sz]⟩) : awp P c Q ⟨n, t, σ, n0, L⟩ := by
 intro X0 a w ⟨X, hc⟩
 have hst : (AS.mk n t σ n0 L).st (n0 + i) = .vec l et sz := by
  show loc σ n0 L (n0 + i) = _
  unfold loc
  rw [if_neg (by omega), Nat.add_sub_cancel_left, List.getD_eq_getElem?_getD, hL]; rfl
 obtain ⟨X', hXw, hc', hF, hR⟩ := qnr hc hst
 have hset : (AS.mk n t σ n0 L).set (n0 + i) .dead = ⟨n, t, σ, n0, L.set i .dead⟩ := by
  unfold AS.set; dsimp only; rw [if_neg (by omega), Nat.add_sub_cancel_left]
 rw [hset] at hc'
 refine h X0 a w ⟨X', ⟨hc'.w, hc'.σ, hc'.sr, hc'.fr, hc'.size, fun j => ?_, hc'.defers, hc'.fin⟩⟩
 show RR X' (upd t d _ j) _
 unfold upd
 by_cases hj : j = d
 .subst hj
  rw [if_pos rfl]
  have := hc.regs j
  change RR X (t j) _ at this
  rw [hd] at this
  exact hR _ _ hk this
 .rw [if_neg hj]; exact hc'.regs j
end
def sbin2 (op : BinOp) (x y : Value) : Option (Prop × Value) :=
 match op, x, y with
 | .add, .string a, .string b => some (a.size + b.size <= 9223372036854775807, .string (a ++ b))
 | .quo, .int k a, .int k' b => some (k = k' /\ b ≠ 0, .int k (k.wrap (a.tdiv b)))
 | .rem, .int k a, .int k' b => some (k = k' /\ b ≠ 0, .int k (a.tmod b))
 | .shl, .int k a, .int _ b => some (0 <= b, .int k (k.wrap (a * 2 ^ (min b.toNat k.bits))))
 | .shr, .int k a, .int _ b => some (0 <= b, .int k (a.fdiv (2 ^ (min b.toNat k.bits))))
 | .and, .int k a, .int k' b => some (k = k', .int k (k.wrap (BitVec.ofInt k.bits a &&& BitVec.ofInt k.bits b).toNat))
 | .or, .int k a, .int k' b => some (k = k', .int k (k.wrap (BitVec.ofInt k.bits a ||| BitVec.ofInt k.bits b).toNat))
 | .xor, .int k a, .int k' b => some (k = k', .int k (k.wrap (BitVec.ofInt k.bits a ^^^ BitVec.ofInt k.bits b).toNat))
 | _, _, _ => none
theorem qfw1 {P : Program} {op : BinOp} {x y z : Value} {c : Prop} (h : sbin2 op x y = some (c, z)) (hc : c) (t : TypeId) (p q : Operand) (w : World) : ((do eqGuard op t p q x y; binOp op t x y) : Sem Value).run P w = .ok z w := by
 have hg : (eqGuard op t p q x y).run P w = .ok () w := by
  unfold sbin2 at h
  split at h <;> first | cases h; done | simp [eqGuard]
 rw [Sem.run_bind, hg, Result.andThen_ok]
 unfold sbin2 at h
 split at h
 .rename_i a b
  cases h
  have : ¬ ((a.size + b.size : Nat) : Int) > IntKind.i64.max := fun hgt => by
   have h2 : IntKind.i64.max = 9223372036854775807 := rfl
   rw [h2] at hgt
   have := hc
   omega
  simp only [binOp, Op.stringOp]
  rw [if_neg this]; rfl
 .cases h; obtain ⟨rfl, h0⟩ := hc; simp [binOp, Op.intDiv, h0]
 .cases h; obtain ⟨rfl, h0⟩ := hc; simp [binOp, Op.intDiv, h0]
 .cases h; have : ¬ _ < (0 : Int) := Int.not_lt.2 hc; simp [binOp, Op.shift, this]
 .cases h; have : ¬ _ < (0 : Int) := Int.not_lt.2 hc; simp [binOp, Op.shift, this]
 .cases h; have := hc; subst this; simp [binOp, Op.intBits]
 .cases h; have := hc; subst this; simp [binOp, Op.intBits]
 .cases h; have := hc; subst this; simp [binOp, Op.intBits]
 .cases h
def intk (P : Program) (t : TypeId) : Option IntKind :=
 match P.underlying t with
 | some (.int k) => some k
 | _ => none
section
variable {P : Program} {ev : Operand -> AV} {σ : Nat -> AB}
theorem qiu1 {op : BinOp} {t u : TypeId} {x y : Operand} {a b z : Value} {c : Prop} (hx : ev x = .v a) (hy : ev y = .v b) (h : sbin2 op a b = some (c, z)) (hc : c) : FOp P ev σ (.binOp op t x y u) (.v z) none := FOp.of fun X ac oper ho _ _ hev => by
 have h1 := hev x (by simp [Op.operands])
 have h2 := hev y (by simp [Op.operands])
 rw [hx, RR.v] at h1; rw [hy, RR.v] at h2
 refine ⟨z, ?_, RR.v.2 rfl⟩
 simp only [execOp, ho]
 rw [Sem.run_bind, h1, h2, qfw1 h hc]
 simp
theorem qim {t : TypeId} {k : IntKind} (h : intk P t = some k) : P.underlying t = some (.int k) := by
 unfold intk at h
 split at h
 .cases h; assumption
 .cases h
theorem qdl1 {s d : TypeId} {x : Operand} {k k0 k' : IntKind} {n : Int} (hs : intk P s = some k0) (hd : intk P d = some k') (hx : ev x = .v (.int k n)) : FOp P ev σ (.convert s d x) (.v (.int k' (k'.wrap n))) none := FOp.of fun X a oper ho _ _ hev => by
 have h1 := hev x (by simp [Op.operands])
 rw [hx, RR.v] at h1
 refine ⟨_, ?_, RR.v.2 rfl⟩
 simp [execOp, ho, h1, convert, run_underlying (qim hs), run_underlying (qim hd), Conv.intToInt]
end
def St.later (X : St) (w : World) : St := { X with w := w, S := fun b o => X.S b o \/ (X.w.heap.size <= b /\ b < w.heap.size) }
theorem qfl {X : St} {w : World} (hS : SR X) (h : Ext X.w w) : Fr X (X.later w) where
 os := h.os
 tape := h.tape
 output := h.output
 size := h.size
 keep := fun b hb _ => h.block b hb
 keepS := fun b o hb => World.cell?_of_block (h.block b (hS.old b o hb))
 more := fun _ _ h => .inl h
 less := fun b o h => by
  rcases h with h | h
  .exact .inl h
  .exact .inr (.inl h.1)
 ver := (Fr.refl X).ver
 own := fun r b h => .inr ⟨r, h⟩
theorem qkq {X : St} {w : World} (hS : SR X) (h : Ext X.w w) : SR (X.later w) where
 block := fun r => BR.fr hS (qfl hS h) rfl rfl fun b hb => h.block b (hS.lt hb)
 alone := hS.alone
 apart := fun r b o h1 h2 => by
  rcases h2 with h2 | h2
  .exact hS.apart r b o h1 h2
  .have := hS.lt (X := X) (r := r) h1; omega
 old := fun b o hb => by
  rcases hb with hb | hb
  .exact Nat.lt_of_lt_of_le (hS.old b o hb) h.size
  .exact hb.2
 glob := hS.glob.mono fun _ _ _ hc => hc.fr (qfl hS h)
abbrev AV.byte (c : UInt8) : AV := .v (.int .u8 c.toNat)
theorem qmo {X : St} : ∀ l : List UInt8, RCs X (l.map AV.byte) (l.map fun c => Value.int .u8 c.toNat)
 | [] => rfl
 | c :: l => ⟨[_], _, rfl, by rw [RC], qmo l⟩
theorem qqc {P : Program} {ev : Operand -> AV} {σ : Nat -> AB} {s d e : TypeId} {x : Operand} {b : ByteArray} (hs : P.underlying s = some .string) (hd : einfo P d = some e) (he : intk P e = some .u8) (hx : ev x = .v (.string b)) (hb : b.size <= 9223372036854775806) :
  FOp P ev σ (.convert s d x) (.sl (b.data.toList.map AV.byte)) none := by
 intro X a oper ho hS hsub hev _ Q
 have h1 := hev x (by simp [Op.operands])
 rw [hx, RR.v] at h1
 have hrun := run_bytes_of_string (P := P) X.w s d e b hs (qcp hd) (qim he)
 obtain ⟨cap, hcap⟩ : ∃ cap, cap = grownCap X.w b.size 0 e := ⟨_, rfl⟩
 rw [<- hcap] at hrun
 have hc1 : b.size <= cap := by rw [hcap]; exact grownCap_ge _ _ _ _
 have hc2 : cap <= 9223372036854775807 := by rw [hcap]; exact grownCap_le_maxLen _ _ _ _ (by unfold maxLen; omega)
 have hE : Ext X.w (X.w.drew.alloc (.cells (bytesRow b cap) e ((bytesRow b cap).size, (bytesRow b cap).size + 1))) := (Ext.refl X.w).drew.alloc _
 refine qbi (w' := _) (v := _) (by simp only [execOp, ho]; rw [Sem.run_bind, h1, hrun]; rfl) ⟨_, X.later _, rfl, rfl, qkq hS hE, qfl hS hE, ?_, rfl⟩
 show RC _ (.sl _) [_]
 rw [RC]
 have hlen : (b.data.toList.map AV.byte).length = b.size := by simp
 refine ⟨some ⟨X.w.heap.size, 0, none⟩, cap, X.w.heap.size, 0, by rw [hlen], by rw [hlen]; exact hc1, hc2, fun _ => rfl, ?_⟩
 refine RM.of (qmo _) (qeg _ 0 fun j u hj => ⟨?_, .inr ⟨Nat.le_refl _, by simp [World.size_alloc]⟩⟩)
 have hjl : j < b.data.toList.length := by
  have := (List.getElem?_eq_some_iff.1 hj).1; simpa using this
 rw [Nat.zero_add]
 have hblk : (X.w.drew.alloc (.cells (bytesRow b cap) e ((bytesRow b cap).size, (bytesRow b cap).size + 1))).heap[X.w.heap.size]? = some (.cells (bytesRow b cap) e ((bytesRow b cap).size, (bytesRow b cap).size + 1)) := heap_alloc_new X.w.drew _
 have hcell : (bytesRow b cap)[j]? = some u := by
  rw [<- hj]
  have hsz : j < b.data.size := by simpa using hjl
  have hsz2 : ¬ b.size <= j := by rw [Lib.size_eq]; omega
  simp [bytesRow, Array.getElem?_append, hsz, hjl]
  intro h; exact absurd h hsz2
 show World.cell? (X.w.drew.alloc _) _ = _
 unfold World.cell?
 dsimp only
 rw [hblk]
 exact hcell
def AV.isB : AV -> Bool
 | .v (.int .u8 _) => true
 | _ => false
def AV.toByte : AV -> UInt8
 | .v (.int .u8 n) => UInt8.ofNat n.toNat
 | _ => 0
def AV.isBs (l : List AV) : Prop := ∀ x ∈ l, x.isB = true
@[simp] theorem AV.isBs_cons (x : AV) (l : List AV) : AV.isBs (x :: l) ↔ x.isB = true /\ AV.isBs l := by
 unfold AV.isBs; simp
@[simp] theorem AV.isBs_bytes (l : List UInt8) : AV.isBs (l.map AV.byte) := fun x hx => by
 obtain ⟨c, -, rfl⟩ := List.mem_map.1 hx; rfl
@[simp] theorem AV.isB_int (n : Int) : (AV.v (.int .u8 n)).isB = true := rfl
@[simp] theorem AV.toByte_int (n : Int) : (AV.v (.int .u8 n)).toByte = UInt8.ofNat n.toNat := rfl
theorem qvt (ns : List Int) : ∀ r : ByteArray, ns.foldl (fun r n => r.push (UInt8.ofNat n.toNat)) r = ⟨(r.data.toList ++ ns.map fun n => UInt8.ofNat n.toNat).toArray⟩ := by
 induction ns with
 | nil => intro r; obtain ⟨⟨l⟩⟩ := r; simp
 | cons n ns ih => intro r; rw [List.foldl_cons, ih]; obtain ⟨⟨l⟩⟩ := r; simp [ByteArray.push]
theorem qsy {P : Program} {ev : Operand -> AV} {σ : Nat -> AB} {s d e : TypeId} {x : Operand} {L : List AV} (hs : einfo P s = some e) (he : intk P e = some .u8) (hd : P.underlying d = some .string) (hx : (ev x).list = some L) (hb : AV.isBs L) :
  FOp P ev σ (.convert s d x) (.v (.string ⟨(L.map AV.toByte).toArray⟩)) none := by
 refine FOp.of fun X a oper ho _ hsub hev => ?_
 obtain ⟨A, cap, b, off, hv, -, -, hA, hM⟩ := RR.list hx (hev x (by simp [Op.operands]))
 obtain ⟨xs, hr, hc⟩ := hM.row
 obtain ⟨ns, rfl, hns⟩ : ∃ ns : List Int, xs = ns.map (Value.int .u8) /\ ns.map (fun n => UInt8.ofNat n.toNat) = L.map AV.toByte := by
  have key : ∀ (L : List AV) (xs : List Value), AV.isBs L -> RCs X L xs -> ∃ ns : List Int, xs = ns.map (Value.int .u8) /\ ns.map (fun n => UInt8.ofNat n.toNat) = L.map AV.toByte := fun L => by
   induction L with
   | nil => intro xs _ h; have : xs = [] := h; subst this; exact ⟨[], rfl, rfl⟩
   | cons y L ih =>
    intro xs hb h
    rw [AV.isBs_cons] at hb
    obtain ⟨c1, c2, rfl, h1, h2⟩ := h
    obtain ⟨ns, rfl, h3⟩ := ih c2 hb.2 h2
    have hy := hb.1
    unfold AV.isB at hy
    split at hy
    .rename_i n
     rw [RC] at h1
     subst h1
     exact ⟨n :: ns, rfl, by rw [List.map_cons, List.map_cons, h3]; rfl⟩
    .cases hy
  exact key L xs hb hr
 have hlen : ns.length = L.length := by
  have := congrArg List.length hns
  simpa using this
 have hrun : (convert s d (.slice A L.length cap)).run P X.w = .ok (.string ⟨(L.map AV.toByte).toArray⟩) X.w := by
  rw [run_convert_bytes_string X.w s d e A L.length cap (qcp hs) (qim he) hd]
  by_cases h0 : L.length = 0
  .have hL : L = [] := List.eq_nil_of_length_eq_zero h0
   subst hL
   have e0 : (ByteArray.empty : ByteArray) = ⟨#[]⟩ := rfl
   cases A with
   | none => simp [Conv.bytesToString, Sem.run_pure, e0]
   | some a =>
    have := run_bytesToString (P := P) X.w a 0 cap [] (by simp [loadCells, loadCellsFrom])
    simpa [e0] using this
  .obtain rfl := hA (by omega)
   have hl := run_loadCells_list (P := P) X.w ⟨b, off, none⟩ (ns.map (Value.int .u8)) (fun j v hj => by rw [qbd]; exact hc.at.get j v hj)
   rw [List.length_map, hlen] at hl
   rw [run_bytesToString X.w ⟨b, off, none⟩ L.length cap ns hl, qvt, hns]
   rfl
 exact ⟨_, by simp only [execOp, ho]; rw [Sem.run_bind, hv, hrun]; rfl, RR.v.2 rfl⟩
end Go.Proofs.YtkedbjjfmejbhaaGreatDoor
namespace Go.Proofs.YtkedbjjfmejbhaaGreatDoor
open Go.RowKit Go.Lib Go.ChangeMaps
def AV.wholes : List AV -> Option (List Value)
 | [] => some []
 | .v x :: l => (AV.wholes l).map (x :: ·)
 | _ :: _ => none
def AV.whole : AV -> Option Value
 | .v x => some x
 | .agg l => (AV.wholes l).map fun vs => .agg vs.toArray
 | .fn f [] => some (.func (.func f) #[] #[])
 | _ => none
theorem quq {X : St} : ∀ {l : List AV} {vs us : List Value}, R1s X l vs -> AV.wholes l = some us -> vs = us
 | [], _, _, h, hw => by rw [R1s] at h; cases hw; exact h
 | x :: l, vs, us, h, hw => by
  rw [R1s] at h
  obtain ⟨v, vs, rfl, -, h1, h2⟩ := h
  cases x with
  | v y =>
   rw [AV.wholes] at hw
   cases hl : AV.wholes l with
   | none => rw [hl] at hw; cases hw
   | some zs =>
    rw [hl] at hw
    obtain rfl : us = y :: zs := (Option.some.inj hw).symm
    rw [RC] at h1
    rw [quq h2 hl]; simpa using h1
  | _ => cases hw
theorem qrj {X : St} {x : AV} {v u : Value} (h : RR X x v) (hw : x.whole = some u) : v = u := by
 cases x with
 | v y =>
  obtain rfl : u = y := (Option.some.inj hw).symm
  have h2 : RC X (.v u) [v] := h
  rw [RC] at h2; simpa using h2
 | agg l =>
  obtain ⟨vs, rfl, h1⟩ := h
  rw [AV.whole] at hw
  cases hl : AV.wholes l with
  | none => rw [hl] at hw; cases hw
  | some zs =>
   rw [hl] at hw
   obtain rfl : u = .agg zs.toArray := (Option.some.inj hw).symm
   rw [quq h1 hl]
 | fn f l =>
  cases l with
  | nil =>
   obtain rfl : u = .func (.func f) #[] #[] := (Option.some.inj hw).symm
   have h2 : RC X (.fn f []) [v] := h
   rw [RC] at h2
   obtain ⟨vs, h3, h4⟩ := h2
   rw [R1s] at h4
   subst h4
   simpa using h3
  | cons _ _ => cases hw
 | _ => cases hw
def qjw (P : Program) (t : TypeId) (I : Obj -> Prop) (ok : Bool) (key x : AV) : Prop :=
 ∃ kv r, key.whole = some kv /\ (∀ X : St, RR X x r) /\ ∀ (w : World) b o, w.heap[b]? = some o -> I o -> (Instr.lookup t (.map (some b)) kv ok).run P w = .ok r w
def UpdOk (P : Program) (t : TypeId) (I : Obj -> Prop) (key val : AV) (I' : Obj -> Prop) : Prop :=
 ∃ kv vv, key.whole = some kv /\ val.whole = some vv /\ ∀ (w : World) b es clock, w.heap[b]? = some (.map es clock) -> I (.map es clock) -> ∃ o', (Instr.mapUpdate t (.map (some b)) kv vv).run P w = .ok () (setBlock w b o') /\ I' o'
def IsMap (I : Obj -> Prop) : Prop := ∀ o, I o -> ∃ es clock, o = .map es clock
def ALook (P : Program) (t : TypeId) (I : Obj -> Prop) (ok : Bool) (key : AV) (K : AV -> Prop) : Prop := ∃ x, qjw P t I ok key x /\ K x
def AUpd (P : Program) (t : TypeId) (I : Obj -> Prop) (key val : AV) (K : (Obj -> Prop) -> Prop) : Prop := IsMap I /\ ∃ I', UpdOk P t I key val I' /\ K I'
theorem alook {P : Program} {t : TypeId} {I : Obj -> Prop} {ok : Bool} {key x : AV} {K : AV -> Prop} (h : qjw P t I ok key x) (hK : K x) : ALook P t I ok key K := ⟨x, h, hK⟩
theorem aupd {P : Program} {t : TypeId} {I I' : Obj -> Prop} {key val : AV} {K : (Obj -> Prop) -> Prop} (h : IsMap I /\ UpdOk P t I key val I') (hK : K I') : AUpd P t I key val K := ⟨h.1, I', h.2, hK⟩
section
variable {P : Program} {ev : Operand -> AV} {σ : Nat -> AB}
theorem qak1 {t : TypeId} {m k : Operand} {ok : Bool} {r n : Nat} {I : Obj -> Prop} {x : AV} (hm : ev m = .own r n) (hσ : σ r = .obj I) (h : qjw P t I ok (ev k) x) : FOp P ev σ (.lookup t m k ok) x none := by
 intro X a oper ho hS hsub hev _ Q
 obtain ⟨kv, rv, h1, h2, h3⟩ := h
 have hm1 := hev m (by simp [Op.operands])
 rw [hm] at hm1
 change RC X (.own r n) [a.eval m] at hm1
 rw [RC] at hm1
 obtain ⟨hu, v, hv, hv2, -⟩ := hm1
 have hX : X.σ r = .obj I := by
  rcases hsub r (by rw [hσ]; simp) with h | h
  .rw [h, hσ]
  .exact absurd h hu
 have hb := hS.block r
 rw [hX] at hb
 obtain ⟨b, o, hb1, hb2, hb3⟩ := hb
 have hvm : a.eval m = .map (some b) := by
  have := hv2.2 I hX
  rw [hb1] at this
  rw [<- this]; simpa using hv
 have hk := qrj (hev k (by simp [Op.operands])) h1
 exact qbi (w' := X.w) (v := rv) (by simp [execOp, ho, hvm, hk, h3 X.w b o hb2 hb3]) ⟨rv, X, rfl, rfl, hS, Fr.refl X, h2 X, rfl⟩
theorem qvw {t : TypeId} {r : Nat} : FOp P ev σ (.makeMap t none) (.own r 0) (some (r, .obj fun o => o = .map #[] 0)) := by
 intro X a oper ho hS hsub hev hnb Q
 have hu := hnb r _ rfl
 let Y : St := { w := X.w.alloc (.map #[] 0), μ := upd X.μ r (.map (some X.w.heap.size)), S := X.S, σ := upd X.σ r (.obj fun o => o = .map #[] 0) }
 have hblk : ∀ k b, Y.blk k = some b -> (k = r /\ b = X.w.heap.size) \/ (k ≠ r /\ X.blk k = some b) := fun k b h => by
  unfold St.blk at h
  by_cases hk : k = r
  .subst hk
   have h1 : Y.σ k = .obj fun o => o = .map #[] 0 := by simp [Y, upd]
   have h2 : Y.μ k = .map (some X.w.heap.size) := by simp [Y, upd]
   rw [h1, h2] at h
   exact .inl ⟨rfl, (Option.some.inj h).symm⟩
  .have h1 : Y.σ k = X.σ k := by simp [Y, upd, hk]
   have h2 : Y.μ k = X.μ k := by simp [Y, upd, hk]
   rw [h1, h2] at h
   exact .inr ⟨hk, h⟩
 have hF : Fr X Y := ⟨rfl, rfl, rfl, by simp [Y], fun b hb _ => Below.heap_alloc _ _ _ hb, fun b o h => World.cell?_of_block (Below.heap_alloc _ _ _ (hS.old b o h)), fun _ _ h => h, fun _ _ h => .inl h, fun k => by
  by_cases hk : k = r
  .subst hk; unfold Ver; rw [hu]; trivial
  .have h1 : Y.σ k = X.σ k := by simp [Y, upd, hk]
   have h2 : Y.μ k = X.μ k := by simp [Y, upd, hk]
   have := (Fr.refl X).ver k
   unfold Ver at this ⊢
   rw [h1, h2]; exact this, fun k b hb => by
  rcases hblk k b hb with ⟨-, rfl⟩ | ⟨-, h⟩
  .exact .inl (Nat.le_refl _)
  .exact .inr ⟨k, h⟩⟩
 have hS' : SR Y := by
  refine ⟨fun k => ?_, fun k k' b h1 h2 => ?_, fun k b o h1 h2 => ?_, fun b o hb => Nat.lt_of_lt_of_le (hS.old b o hb) (by simp [Y]), hS.glob.mono fun _ _ _ hc => hc.fr hF⟩
  .by_cases hk : k = r
   .subst hk
    have h1 : Y.σ k = .obj fun o => o = .map #[] 0 := by simp [Y, upd]
    have h2 : Y.μ k = .map (some X.w.heap.size) := by simp [Y, upd]
    rw [h1, h2]
    exact ⟨X.w.heap.size, _, rfl, heap_alloc_new X.w _, rfl⟩
   .exact BR.fr hS hF (by simp [Y, upd, hk]) (by simp [Y, upd, hk]) fun b hb => Below.heap_alloc _ _ _ (hS.lt hb)
  .rcases hblk k b h1 with ⟨rfl, rfl⟩ | ⟨hk, h3⟩ <;> rcases hblk k' _ h2 with ⟨rfl, h4⟩ | ⟨hk', h4⟩
   .rfl
   .have := hS.lt h4; omega
   .have := hS.lt h3; omega
   .exact hS.alone k k' b h3 h4
  .rcases hblk k b h1 with ⟨rfl, rfl⟩ | ⟨hk, h3⟩
   .exact absurd (hS.old _ _ h2) (Nat.lt_irrefl _)
   .obtain ⟨n, e, s, h4, h5⟩ := hS.apart k b o h3 h2
    exact ⟨n, e, s, by simp [Y, upd, hk, h4], h5⟩
 refine qbi (w' := Y.w) (v := .map (some X.w.heap.size)) (by simp [execOp, ho, Instr.makeMap, Y]) ⟨_, Y, rfl, rfl, hS', hF, ?_, rfl⟩
 show RC Y (.own r 0) [_]
 rw [RC]
 exact ⟨by simp [Y, upd], _, rfl, ⟨rfl, fun I h => by simp [Y, upd]⟩, fun l e s h => by simp [Y, upd] at h⟩
end
section
variable {P : Program} {s : AS}
theorem qfj {op : Op} {t : TypeId} {m k y : Operand} (hop : op = .mapUpdate t m k y \/ op = .insert t m k y) {r n : Nat} {I I' : Obj -> Prop} {K : AV -> AS -> Prop} (hm : s.eval m = .own r n) (hσ : s.st r = .obj I) (hI : IsMap I) (h : UpdOk P t I (s.eval k) (s.eval y) I') (hK : K .any (s.set r (.obj I'))) : EOp P s op K := by
 intro X0 a w X oper ho hc Q
 have hw := hc.w
 subst hw
 obtain ⟨kv, vv, h1, h2, h3⟩ := h
 have hm1 := hc.eval m
 rw [hm] at hm1
 change RC X (.own r n) [a.eval m] at hm1
 rw [RC] at hm1
 obtain ⟨-, v, hv, hv2, -⟩ := hm1
 have hX : X.σ r = .obj I := by rw [hc.σ, hσ]
 have hb := hc.sr.block r
 rw [hX] at hb
 obtain ⟨b, o, hb1, hb2, hb3⟩ := hb
 obtain ⟨es, clock, rfl⟩ := hI o hb3
 have hvm : a.eval m = .map (some b) := by
  have := hv2.2 I hX
  rw [hb1] at this
  rw [<- this]; simpa using hv
 have hk := qrj (hc.eval k) h1
 have hy := qrj (hc.eval y) h2
 obtain ⟨o', hrun, ho'⟩ := h3 X.w b es clock hb2 hb3
 have hbr : X.blk r = some b := by unfold St.blk; rw [hX, hb1]; rfl
 have hT : Turns X (setBlock X.w b o') X.S r (.obj I') (X.μ r) :=
  {grown := by rw [hbr]; exact ⟨rfl, rfl, rfl, by simp [setBlock], fun i _ hi => heap_setBlock_other hb2 _ (fun e => hi (by rw [e]))⟩
   blk := fun b2 h => .inl (by unfold St.blk; rw [hX]; exact h)
   ver := by
    unfold Ver
    rw [hX]
    exact ⟨⟨I', by simp [St.turn, upd]⟩, by simp [St.turn, upd]⟩
   keepS := fun b2 o h1 h2 => by
    obtain ⟨_, e, s2, h3, -⟩ := hc.sr.apart r b2 o h1 h2
    rw [hX] at h3; cases h3
   more := fun _ _ h => h
   less := fun _ _ h => .inl h
   apart := fun b2 o h1 h2 => by
    obtain ⟨_, e, s2, h3, -⟩ := hc.sr.apart r b2 o (by unfold St.blk; rw [hX]; exact h1) h2
    rw [hX] at h3; cases h3
   old := fun b2 h => by
    have : X.blk r = some b2 := by unfold St.blk; rw [hX]; exact h
    simpa [setBlock] using hc.sr.lt this }
 exact qrl (w' := setBlock X.w b o') (by rcases hop with rfl | rfl <;> simp [execOp, ho, hvm, hk, hy, hrun, Result.andThen])
  ⟨undef, .any, _, _, rfl, hK, qgt (v := X.μ r) hc (by rw [hσ]; simp) hT ⟨b, o', hb1, heap_setBlock_same hb2 _, ho'⟩, trivial⟩
end
end Go.Proofs.YtkedbjjfmejbhaaGreatDoor
