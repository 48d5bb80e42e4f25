/- Aggregates and slices that are built. -/
import Derived.Laws.StructEq
import Derived.Test.YtkedbjjfmejbhaaGreatDoorGe8
set_option linter.unusedSimpArgs false
set_option linter.unusedVariables false
namespace Go.Proofs.YtkedbjjfmejbhaaGreatDoor
open Go.RowKit Go.Lib
theorem qss (off : Nat) : ∀ (l : List Value) (k : Nat) (cells : Array Value), off + k + l.length <= cells.size ->
  (l.zipIdx k).foldl (fun cs (p : Value × Nat) => cs.setIfInBounds (off + p.2) p.1) cells = (cells.toList.take (off + k) ++ l ++ cells.toList.drop (off + k + l.length)).toArray
 | [], k, cells, _ => by simp
 | v :: l, k, cells, h => by
  rw [List.length_cons] at h
  rw [List.zipIdx_cons, List.foldl_cons, qss off l (k + 1) _ (by simp; omega)]
  congr 1
  simp only [Array.toList_setIfInBounds]
  have hk : off + k < cells.toList.length := by simp; omega
  apply List.ext_getElem?
  intro j
  simp only [List.getElem?_append, List.length_append, List.length_take, List.length_set, List.getElem?_take, List.getElem?_drop, List.getElem?_set, List.length_cons, List.getElem?_cons]
  have h1 : min (off + (k + 1)) cells.toList.length = off + k + 1 := by omega
  have h2 : min (off + k) cells.toList.length = off + k := by omega
  rw [h1, h2]
  clear h1 h2
  by_cases ha : j < off + k
  .rw [if_pos (by omega), if_pos (by omega), if_pos (by omega), if_neg (by omega), if_pos (by omega), if_pos (by omega), if_pos ha]
  .by_cases hb : j = off + k
   .subst hb
    rw [if_pos (by omega), if_pos (by omega), if_pos (by omega), if_pos rfl, if_pos hk, if_pos (by omega), if_neg (by omega)]
    simp
   .by_cases hc : j < off + k + 1 + l.length
    .rw [if_pos (by omega), if_neg (by omega), if_pos (by omega), if_neg (by omega), if_neg (by omega)]
     congr 1 <;> omega
    .rw [if_neg (by omega), if_neg (by omega), if_neg (by omega)]
     congr 1 <;> omega
theorem qsp {place : Nat -> Option (Nat × Nat)} {cells : Array Value} {i off n : Nat} {v : Value} {rest : List (Nat × Value)} (hp : place i = some (off, n)) (hv : v.cells.size = n) (hl : off + n <= cells.size) :
  Instr.fill place cells ((i, v) :: rest) = Instr.fill place (cells.toList.take off ++ v.cells.toList ++ cells.toList.drop (off + n)).toArray rest := by
 subst hv
 have hf : v.cells.zipIdx.foldl (fun cs (p : Value × Nat) => cs.setIfInBounds (off + p.2) p.1) cells = (cells.toList.take off ++ v.cells.toList ++ cells.toList.drop (off + v.cells.size)).toArray := by
  rw [<- Array.foldl_toList, Array.toList_zipIdx]
  have := qss off v.cells.toList 0 cells (by simpa using hl)
  simpa using this
 rw [Instr.fill, hp]
 dsimp only
 rw [if_neg (by simp; omega), hf]
def binfo (P : Program) (t : TypeId) : Option (List (Nat × Nat)) :=
 match P.underlying t with
 | some (.struct fs) => fs.toList.mapM fun f => (P.info? f.type).map fun i => (f.offset, i.size)
 | _ => none
def bld (pl : List (Nat × Nat)) : List (Nat × AV) -> List AV -> Option (List AV)
 | [], cs => some cs
 | (i, x) :: rest, cs => match pl[i]? with
  | some (off, n) => if x.sure = true /\ x.cells.length = n /\ off + n <= cs.length then bld pl rest (qer cs off x.cells) else none
  | none => none
theorem qcd1 {X : St} {pl : List (Nat × Nat)} : ∀ {ps : List (Nat × AV)} {vs : List (Nat × Value)} {cs : List AV} {cells : Array Value} {out : List AV},
  (ps.map (·.1) = vs.map (·.1)) -> (∀ (j : Nat) (p : Nat × AV) (q : Nat × Value), ps[j]? = some p -> vs[j]? = some q -> RR X p.2 q.2) -> R1s X cs cells.toList -> bld pl ps cs = some out -> ∃ c, Instr.fill (pl.toArray[·]?) cells vs = some c /\ R1s X out c.toList
 | [], [], cs, cells, out, _, _, hr, h => by cases h; exact ⟨cells, rfl, hr⟩
 | [], _ :: _, _, _, _, h, _, _, _ => by simp at h
 | _ :: _, [], _, _, _, h, _, _, _ => by simp at h
 | (i, x) :: ps, (i', v) :: vs, cs, cells, out, hi, hR, hr, h => by
  rw [List.map_cons, List.map_cons] at hi
  obtain ⟨h1, h2⟩ := List.cons.inj hi
  dsimp only at h1
  subst h1
  rw [bld] at h
  cases hp : pl[i]? with
  | none => rw [hp] at h; cases h
  | some on =>
   obtain ⟨off, n⟩ := on
   rw [hp] at h
   dsimp only at h
   split at h
   .rename_i hc
    have hv := qfi (hR 0 _ _ rfl rfl) hc.1
    have hlv := R1s.length _ _ hv
    have hlc := R1s.length _ _ hr
    have hvn : v.cells.size = n := by rw [<- hc.2.1]; simpa using hlv
    have hle : off + n <= cells.size := by
     have : cells.size = cs.length := by simpa using hlc
     omega
    obtain ⟨c, h3, h4⟩ := qcd1 (X := X) (vs := vs) (cells := (cells.toList.take off ++ v.cells.toList ++ cells.toList.drop (off + n)).toArray) h2 (fun j p q hj hq => hR (j + 1) p q (by simpa using hj) (by simpa using hq)) (by
     unfold qer
     rw [hc.2.1]
     exact ((hr.take off).append hv).append (hr.drop _)) h
    exact ⟨c, by rw [qsp (by simpa using hp) hvn hle]; exact h3, h4⟩
   .cases h
section
variable {P : Program} {ev : Operand -> AV} {σ : Nat -> AB}
theorem qcc1 {t : TypeId} {pl : List (Nat × Nat)} (h : binfo P t = some pl) (w : World) : ∃ fs, P.underlying t = some (.struct fs) /\ (fs.mapM fun f => (do Pure.pure (f.offset, <- sizeOf f.type) : Sem (Nat × Nat))).run P w = .ok pl.toArray w := by
 unfold binfo at h
 split at h
 .rename_i fs hu
  refine ⟨fs, hu, ?_⟩
  have key : ∀ (l : List Field) (pl : List (Nat × Nat)), l.mapM (fun f => (P.info? f.type).map fun i => (f.offset, i.size)) = some pl -> (l.mapM fun f => (do Pure.pure (f.offset, <- sizeOf f.type) : Sem (Nat × Nat))).run P w = .ok pl w := fun l => by
   induction l with
   | nil => intro pl h; simp at h; subst h; simp
   | cons f l ih =>
    intro pl h
    rw [List.mapM_cons] at h
    cases hi : P.info? f.type with
    | none => rw [hi] at h; cases h
    | some i =>
     rw [hi] at h
     cases hl : l.mapM (fun f => (P.info? f.type).map fun i => (f.offset, i.size)) with
     | none => rw [hl] at h; cases h
     | some pl' =>
      rw [hl] at h
      cases h
      have := ih pl' hl
      simp [List.mapM_cons, sizeOf, typeInfo, hi] at this ⊢
      simp [this]
  have h2 := key fs.toList pl h
  rw [Array.mapM_eq_mapM_toList]
  rw [Sem.run_map, h2]; rfl
 .cases h
theorem qmb1 {X : St} {z : Value} (h1 : z.cells.toList.all Value.oneCell' = true) : R1s X (z.cells.toList.map .v) z.cells.toList := by
 have : ∀ l : List Value, (∀ v ∈ l, v.oneCell' = true) -> R1s X (l.map .v) l := fun l => by
  induction l with
  | nil => intro _; rw [List.map_nil, R1s]
  | cons v l ih => intro hl; rw [List.map_cons, R1s]; exact ⟨v, l, rfl, hl v (by simp), by rw [RC], ih fun v hv => hl v (by simp [hv])⟩
 exact this _ (fun v hv => List.all_eq_true.1 h1 v hv)
theorem qdk1 {t : TypeId} {ps : List (Nat × Operand)} {pl : List (Nat × Nat)} {z : Value} {out : List AV} (hb : binfo P t = some pl) (hz : zinfo P t = some z) (h1 : z.cells.toList.all Value.oneCell' = true) (ho : bld pl (ps.map fun p => (p.1, ev p.2)) (z.cells.toList.map .v) = some out) :
  FOp P ev σ (.build t ps.toArray) (.agg out) none := FOp.of fun X a oper hop hS hsub hev => by
 obtain ⟨fs, hu, hpl⟩ := qcc1 hb X.w
 obtain ⟨c, h2, h3⟩ := qcd1 (X := X) (vs := ps.map fun p => (p.1, a.eval p.2)) (cells := z.cells) (by simp) (fun j p q hj hq => by
  rw [List.getElem?_map] at hj hq
  cases hp : ps[j]? with
  | none => rw [hp] at hj; cases hj
  | some p0 =>
   rw [hp] at hj hq
   cases hj; cases hq
   exact hev _ (by simp [Op.operands]; exact ⟨_, List.mem_of_getElem? hp⟩)) (qmb1 h1) ho
 refine ⟨.agg c, ?_, c.toList, rfl, h3⟩
 unfold zinfo at hz
 cases hi : P.info? t with
 | none => rw [hi] at hz; cases hz
 | some i =>
  rw [hi] at hz
  have hz' : i.zero = some z := hz
  have hpl' := hpl
  simp [execOp, hop, Instr.build, zeroValue, typeInfo, hi, hz', underlying, hu]
  simp at hpl'
  rw [hpl']
  simp at h2
  simp [h2]
def St.share (X : St) (cs : Array Value) (t : TypeId) : St := { X with w := X.w.alloc (.cells cs t), S := fun b o => X.S b o \/ b = X.w.heap.size }
theorem qqy {X : St} (hS : SR X) (cs : Array Value) (t : TypeId) : Fr X (X.share cs t) where
 os := rfl
 tape := rfl
 output := rfl
 size := by simp [St.share]
 keep := fun b hb _ => Below.heap_alloc _ _ _ hb
 keepS := fun b o h => World.cell?_of_block (Below.heap_alloc _ _ _ (hS.old b o h))
 more := fun _ _ h => .inl h
 less := fun b o h => by
  rcases h with h | h
  .exact .inl h
  .exact .inr (.inl (by rw [h]; exact Nat.le_refl _))
 ver := (Fr.refl X).ver
 own := fun r b h => .inr ⟨r, h⟩
theorem qkk1 {X : St} (hS : SR X) (cs : Array Value) (t : TypeId) : SR (X.share cs t) where
 block := fun r => BR.fr hS (qqy hS cs t) rfl rfl fun b hb => Below.heap_alloc _ _ _ (hS.lt hb)
 alone := hS.alone
 apart := fun r b o h1 h2 => by
  rcases h2 with h2 | h2
  .exact hS.apart r b o h1 h2
  .have := hS.lt (X := X) (r := r) h1; omega
 old := fun b o h => by
  rcases h with h | h
  .exact Nat.lt_of_lt_of_le (hS.old b o h) (by simp [St.share])
  .rw [h]; simp [St.share]
 glob := hS.glob.mono fun _ _ _ hc => hc.fr (qqy hS cs t)
def bldS (sz : Nat) : Nat -> List (Nat × AV) -> Prop
 | _, [] => True
 | k, (i, x) :: rest => i = k /\ x.sure = true /\ x.cells.length = sz /\ bldS sz (k + 1) rest
theorem qxb {X : St} {x : AV} {v : Value} (h : RR X x v) (hs : x.sure = true) : RC X x.pub v.cells.toList := by
 have h2 := qfi h hs
 cases x with
 | agg l => rw [AV.pub, RC]; exact R1s.pub h2
 | any => cases hs
 | tup l => cases hs
 | v y =>
  have h1 : (AV.v y).one = true := hs
  change R1s X [.v y] _ at h2
  rw [R1s] at h2
  obtain ⟨u, us, he, h0, h3, h4⟩ := h2
  rw [R1s] at h4; subst h4
  rw [he]; exact RC.pub1 h1 h3
 | gs r l =>
  change R1s X [.gs r l] _ at h2
  rw [R1s] at h2
  obtain ⟨u, us, he, h0, h3, h4⟩ := h2
  rw [R1s] at h4; subst h4
  rw [he]; exact RC.pub1 rfl h3
 | _ =>
  change R1s X [_] _ at h2
  rw [R1s] at h2
  obtain ⟨u, us, he, h0, h3, h4⟩ := h2
  rw [R1s] at h4; subst h4
  rw [he]; exact RC.pub1 rfl h3
theorem qpn {X : St} {sz : Nat} : ∀ {ps : List (Nat × AV)} {vs : List (Nat × Value)} {k : Nat} {cells : Array Value} {l : List AV} {xs : List Value},
  (ps.map (·.1) = vs.map (·.1)) -> (∀ (j : Nat) (p : Nat × AV) (q : Nat × Value), ps[j]? = some p -> vs[j]? = some q -> RR X p.2 q.2) -> bldS sz k ps -> xs.length = k * sz -> RCs X l xs -> cells.size = (k + ps.length) * sz -> cells.toList.take (k * sz) = xs ->
  ∃ c, Instr.fill (fun i => some (i * sz, sz)) cells vs = some c /\ RCs X (l ++ ps.map (·.2.pub)) c.toList
 | [], [], k, cells, l, xs, _, _, _, hx, hr, hc, ht => by
  refine ⟨cells, rfl, ?_⟩
  have : cells.toList = xs := by rw [<- ht, List.take_of_length_le (by simp [hc])]
  rw [this]; simpa using hr
 | [], _ :: _, _, _, _, _, h, _, _, _, _, _, _ => by simp at h
 | _ :: _, [], _, _, _, _, h, _, _, _, _, _, _ => by simp at h
 | (i, x) :: ps, (i', v) :: vs, k, cells, l, xs, hi, hR, hb, hx, hr, hc, ht => by
  rw [List.map_cons, List.map_cons] at hi
  obtain ⟨h1, h2⟩ := List.cons.inj hi
  dsimp only at h1
  subst h1
  obtain ⟨rfl, hs, hn, hb⟩ := hb
  have h0 := hR 0 _ _ rfl rfl
  have hlv := R1s.length _ _ (qfi h0 hs)
  have hvn : v.cells.size = sz := by rw [<- hn]; simpa using hlv
  rw [List.length_cons, Nat.add_mul, Nat.succ_mul] at hc
  have hle : i * sz + sz <= cells.size := by omega
  obtain ⟨c, h3, h4⟩ := qpn (X := X) (sz := sz) (ps := ps) (vs := vs) (k := i + 1) (l := l ++ [x.pub]) (xs := xs ++ v.cells.toList) (cells := (cells.toList.take (i * sz) ++ v.cells.toList ++ cells.toList.drop (i * sz + sz)).toArray) h2 (fun j p q hj hq => hR (j + 1) p q (by simpa using hj) (by simpa using hq)) hb
   (by rw [List.length_append, hx, Nat.succ_mul]; simp [hvn]) (hr.append ⟨_, [], by simp, qxb h0 hs, rfl⟩)
   (by simp [hvn, Nat.add_mul]; omega) (by
    rw [ht]
    have : (xs ++ v.cells.toList).length = (i + 1) * sz := by rw [List.length_append, hx, Nat.succ_mul]; simp [hvn]
    rw [<- this]; exact List.take_left)
  refine ⟨c, by rw [qsp rfl hvn hle]; exact h3, by simpa using h4⟩
theorem qne {t e : TypeId} {ps : List (Nat × Operand)} {n sz by_ : Nat} (ht : vinfo P t = some (e, sz, by_)) (hn : n = ps.length) (hsm : n * sz <= 16777216) (hb : bldS sz 0 (ps.map fun p => (p.1, ev p.2))) :
  FOp P ev σ (.buildSlice t n ps.toArray) (.sl (ps.map fun p => (ev p.2).pub)) none := by
 intro X a oper hop hS hsub hev _ Q
 obtain ⟨hu, i, z, hi, hz, rfl, rfl, hzs, hsz0, hby0, hz1⟩ := qbr ht
 subst hn
 obtain ⟨c, h2, h3⟩ := qpn (X := X) (sz := i.size) (k := 0) (l := []) (xs := []) (vs := ps.map fun p => (p.1, a.eval p.2)) (cells := (Array.range (ps.length * i.size)).map ((if ps.length * i.size = 0 then #[] else z.cells)[· % (if ps.length * i.size = 0 then #[] else z.cells).size]!)) (by simp) (fun j p q hj hq => by
  rw [List.getElem?_map] at hj hq
  cases hp : ps[j]? with
  | none => rw [hp] at hj; cases hj
  | some p0 =>
   rw [hp] at hj hq
   cases hj; cases hq
   exact hev _ (by simp [Op.operands]; exact ⟨_, List.mem_of_getElem? hp⟩)) hb (by simp) rfl (by simp) (by simp)
 have hrun : (execOp a.eval oper).run P X.w = .ok (.value (.slice (some ⟨X.w.heap.size, 0, none⟩) ps.length ps.length)) (X.w.alloc (.cells c e)) := by
  have hbig : ¬ (2 ^ 24 < ps.length * i.size) := by omega
  have hul : (underlying t).run P X.w = .ok (.slice e) X.w := run_underlying hu X.w
  have hsz : (sizeOf e).run P X.w = .ok i.size X.w := by simp [sizeOf, typeInfo, hi]
  have hzv : (zeroValue e).run P X.w = .ok z X.w := by simp [zeroValue, typeInfo, hi, hz]
  have hps : (ps.toArray.map fun (p : Nat × Operand) => (p.1, a.eval p.2)).toList = ps.map fun p => (p.1, a.eval p.2) := by simp
  have key : (Instr.buildSlice t ps.length (ps.toArray.map fun (p : Nat × Operand) => (p.1, a.eval p.2))).run P X.w = .ok (.slice (some ⟨X.w.heap.size, 0, none⟩) ps.length ps.length) (X.w.alloc (.cells c e)) := by
   unfold Instr.buildSlice
   rw [Sem.run_bind, hul, Result.andThen_ok, Sem.run_bind, hsz, Result.andThen_ok]
   dsimp only
   rw [if_neg (by simpa using hbig)]
   by_cases h0 : ps.length * i.size = 0
   .rw [if_pos h0] at h2
    rw [if_pos h0, hps]
    simp only [Sem.run_bind, Sem.run_pure, Result.andThen_ok]
    rw [h2]
    simp [newRow]
   .rw [if_neg h0] at h2
    rw [if_neg h0, hps]
    simp only [Sem.run_bind, Sem.run_pure, Result.andThen_ok, hzv]
    rw [h2]
    simp [newRow]
  simp only [execOp, hop]
  rw [Sem.run_bind, key]; rfl
 have hF := qqy hS c e
 refine qbi hrun ⟨_, X.share c e, rfl, rfl, qkk1 hS c e, hF, ?_, rfl⟩
 show RC _ (.sl _) [_]
 rw [RC]
 have hl := RCs.len h3 (sz := i.size)
 refine ⟨some ⟨X.w.heap.size, 0, none⟩, ps.length, X.w.heap.size, 0, by simp, by simp, ?_, fun _ => rfl, ?_⟩
 .have := Nat.le_mul_of_pos_right ps.length hsz0
  omega
 .rw [List.nil_append] at h3
  have h4 : RCs (X.share c e) (ps.map fun p => (ev p.2).pub) c.toList := by
   have := h3.fr hF
   rw [List.map_map] at this; exact this
  refine RM.of h4 (qeg _ 0 fun j u hj => ⟨?_, .inr rfl⟩)
  have := qlh X.w c e j u hj
  rwa [qbd] at this
end
def AV.val? : AV -> Option Value
 | .v a => some a
 | _ => none
@[simp] theorem AV.val?_v (a : Value) : (AV.v a).val? = some a := rfl
@[simp] theorem AV.val?_agg (l : List AV) : (AV.agg l).val? = none := rfl
theorem AV.val?_some {x : AV} {a : Value} (h : x.val? = some a) : x = .v a := by
 unfold AV.val? at h; split at h
 .cases h; rfl
 .cases h
def fkind (P : Program) (t : TypeId) : Option Nat :=
 match P.underlying t with
 | some (.int _) => some 0
 | some .bool => some 1
 | some .string => some 2
 | _ => none
def fk1 (P : Program) (g : TypeId -> Option (List (Nat × Nat))) : List Field -> Option (List (Nat × Nat))
 | [] => some []
 | f :: l => match fkind P f.type, fk1 P g l with
  | some k, some r => if f.name ≠ "_" then some ((f.offset, k) :: r) else none
  | none, some r => match g f.type with
   | some q => if f.name ≠ "_" /\ q.all (fun p => decide (p.1 < P.cellsOf f.type)) = true then some (q.map (fun p => (f.offset + p.1, p.2)) ++ r) else none
   | none => none
  | _, _ => none
def fkn (P : Program) : Nat -> TypeId -> Option (List (Nat × Nat))
 | 0, _ => none
 | n + 1, t => match P.underlying t with
  | some (.struct fs) => if P.stoodInHeld t = false then fk1 P (fkn P n) fs.toList else none
  | _ => none
def qinfo (P : Program) (t : TypeId) : Option (List (Nat × Nat)) := if P.eqGuardType P.depth t = false then fkn P 2 t else none
def feq1 : Nat -> AV -> AV -> Option Bool
 | 0, .v (.int k a), .v (.int k' b) => if k = k' then some (a == b) else none
 | 1, .v (.bool a), .v (.bool b) => some (a == b)
 | 2, .v (.string a), .v (.string b) => some (a.toList == b.toList)
 | _, _, _ => none
def feq : List (Nat × Nat) -> List AV -> List AV -> Option Bool
 | [], _, _ => some true
 | (o, k) :: l, a, b => match a[o]?, b[o]? with
  | some x, some y => match feq1 k x y, feq l a b with
   | some r, some q => some (r && q)
   | _, _ => none
  | _, _ => none
def aeqS (P : Program) (op : BinOp) (t : TypeId) (x y : AV) : Option Bool :=
 match qinfo P t, x, y with
 | some fs, .agg a, .agg b => match op, feq fs a b with
  | .eql, some r => some r
  | .neq, some r => some (!r)
  | _, _ => none
 | _, _, _ => none
def aeqB (P : Program) (op : BinOp) (t : TypeId) (x y : AV) : Option Bool :=
 match x, y with
 | .v (.bool a), .v (.bool b) => if fkind P t = some 1 then (match op with
  | .eql => some (a == b)
  | .neq => some (!(a == b))
  | _ => none) else none
 | _, _ => none
def aeq (P : Program) (op : BinOp) (t : TypeId) (x y : AV) : Option Bool := (aeqS P op t x y).orElse fun _ => aeqB P op t x y
@[simp] theorem qsx1 {P : Program} {op : BinOp} {t : TypeId} {a b : Bool} : aeq P op t (.v (.bool a)) (.v (.bool b)) = if fkind P t = some 1 then (match op with
  | .eql => some (a == b)
  | .neq => some (!(a == b))
  | _ => none) else none := by
 have : aeqS P op t (.v (.bool a)) (.v (.bool b)) = none := by unfold aeqS; split <;> simp_all
 rw [aeq, this]; rfl
section
variable {P : Program} {ev : Operand -> AV} {σ : Nat -> AB}
theorem qdf1 {t : TypeId} {k : Nat} (h : fkind P t = some k) (w : World) : (isAgg t).run P w = .ok false w := by
 unfold fkind at h
 split at h
 .rename_i hu; simp [isAgg, underlying, hu]
 .rename_i hu; simp [isAgg, underlying, hu]
 .rename_i hu; simp [isAgg, underlying, hu]
 .cases h
theorem qir1 {X : St} {t : TypeId} {k d : Nat} {x y : AV} {a b : Value} {r : Bool} (hk : fkind P t = some k) (h : feq1 k x y = some r) (ha : RC X x [a]) (hb : RC X y [b]) : (Op.equalIn (d + 1) t a b).run P X.w = .ok r X.w := by
 unfold feq1 at h
 unfold fkind at hk
 split at h
 .split at h
  .cases h; subst_vars
   rw [RC] at ha hb; cases ha; cases hb
   split at hk <;> first | (cases hk; done) | (rename_i hu; exact run_equalIn_int _ _ _ _ _ _ _ hu)
  .cases h
 .cases h
  rw [RC] at ha hb; cases ha; cases hb
  split at hk <;> first | (cases hk; done) | (rename_i hu; exact run_equalIn_bool' _ _ _ _ _ hu)
 .cases h
  rw [RC] at ha hb; cases ha; cases hb
  split at hk <;> first | (cases hk; done) | (rename_i hu; exact run_equalIn_string _ _ _ _ _ hu)
 .cases h
theorem qdc1 {a b : List AV} : ∀ {q1 q2 : List (Nat × Nat)} {r : Bool}, feq (q1 ++ q2) a b = some r -> ∃ r1 r2, feq q1 a b = some r1 /\ feq q2 a b = some r2 /\ r = (r1 && r2)
 | [], q2, r, h => ⟨true, r, rfl, h, rfl⟩
 | (o, k) :: q1, q2, r, h => by
  rw [List.cons_append, feq] at h
  split at h
  .rename_i x y hx hy
   split at h
   .rename_i r1 q e1 e2
    cases h
    obtain ⟨r2, r3, g1, g2, rfl⟩ := qdc1 e2
    exact ⟨r1 && r2, r3, by rw [feq, hx, hy]; simp only [e1, g1], g2, by rw [Bool.and_assoc]⟩
   .cases h
  .cases h
theorem qsj {a b : List AV} {off n : Nat} : ∀ {q : List (Nat × Nat)} {r : Bool}, q.all (fun p => decide (p.1 < n)) = true -> feq (q.map fun p => (off + p.1, p.2)) a b = some r -> feq q ((a.drop off).take n) ((b.drop off).take n) = some r
 | [], r, _, h => h
 | (o, k) :: q, r, hq, h => by
  rw [List.all_cons, Bool.and_eq_true, decide_eq_true_eq] at hq
  have e : ∀ l : List AV, ((l.drop off).take n)[o]? = l[off + o]? := fun l => by
   rw [List.getElem?_take_of_lt hq.1, List.getElem?_drop]
  rw [List.map_cons, feq] at h
  rw [feq, e, e]
  split at h
  .rename_i x y hx hy
   split at h
   .rename_i r1 q1 e1 e2
    cases h
    rw [hx, hy]
    simp only [e1, qsj hq.2 e2]
   .cases h
  .cases h
theorem qjt1 {t : TypeId} {fs : Array Field} (hu : P.underlying t = some (.struct fs)) (vs : List Value) (off : Nat) (w : World) : (part t vs.toArray off).run P w = .ok (.agg ((vs.drop off).take (P.cellsOf t)).toArray) w := by
 have hA : (isAgg t).run P w = .ok true w := by simp [isAgg, underlying, hu]
 have hc : ∃ i, P.info? t = some i := by
  unfold Program.underlying at hu
  cases h : P.info? t with
  | some i => exact ⟨i, rfl⟩
  | none => rw [h] at hu; cases hu
 obtain ⟨i, hi⟩ := hc
 have hz : (sizeOf t).run P w = .ok (P.cellsOf t) w := by simp [sizeOf, typeInfo, Program.cellsOf, hi]
 simp only [part, Sem.run_bind, hA, Result.andThen_ok, if_true, hz, Sem.run_pure]
 congr 2
 apply Array.ext'
 rw [Array.toList_extract, List.extract_eq_take_drop]
 simp
theorem qpy {X : St} {g : TypeId -> Option (List (Nat × Nat))} {d : Nat} (hg : ∀ (t : TypeId) q (a b : List AV) (vs us : List Value) r, g t = some q -> R1s X a vs -> R1s X b us -> feq q a b = some r -> (∃ fs, P.underlying t = some (.struct fs)) /\ (Op.equalIn (d + 1) t (.agg vs.toArray) (.agg us.toArray)).run P X.w = .ok r X.w) {a b : List AV} {vs us : List Value} (ha : R1s X a vs) (hb : R1s X b us) : ∀ {fs : List Field} {q : List (Nat × Nat)} {r : Bool}, fk1 P g fs = some q -> feq q a b = some r -> (Op.eqFields (d + 1) vs.toArray us.toArray fs).run P X.w = .ok r X.w
 | [], q, r, h1, h2 => by
  rw [fk1] at h1; cases h1
  rw [feq] at h2; cases h2
  simp [Op.eqFields]
 | f :: fs, q, r, h1, h2 => by
  rw [fk1] at h1
  split at h1
  .rename_i k r' hk hr'
   split at h1
   .rename_i hn
    cases h1
    rw [feq] at h2
    split at h2
    .rename_i x y hx hy
     split at h2
     .rename_i r1 q1 e1 e2
      cases h2
      obtain ⟨v, hv, -, hv2⟩ := ha.get hx
      obtain ⟨u, hu, -, hu2⟩ := hb.get hy
      have ih := qpy hg ha hb hr' e2
      have he := qir1 (d := d) hk e1 hv2 hu2
      have hA := qdf1 hk X.w
      rw [Op.eqFields, if_pos hn]
      simp only [part, Sem.run_bind, hA, Result.andThen_ok, Bool.false_eq_true, if_false]
      cases r1
      .simp [hv, hu, he, hA]
      .simpa [hv, hu, he, hA] using ih
     .cases h2
    .cases h2
   .cases h1
  .rename_i r' hk hr'
   split at h1
   .rename_i q' hq'
    split at h1
    .rename_i hn
     cases h1
     obtain ⟨r1, r2, e1, e2, rfl⟩ := qdc1 h2
     have e3 := qsj hn.2 e1
     obtain ⟨⟨gs, hu⟩, he⟩ := hg _ _ _ _ _ _ _ hq' ((ha.drop f.offset).take (P.cellsOf f.type)) ((hb.drop f.offset).take (P.cellsOf f.type)) e3
     have ih := qpy hg ha hb hr' e2
     rw [Op.eqFields, if_pos hn.1]
     simp only [Sem.run_bind, qjt1 hu, Result.andThen_ok, he]
     cases r1
     .simp
     .simpa using ih
    .cases h1
   .cases h1
  .cases h1
theorem qxj {X : St} : ∀ (n : Nat) {d : Nat} {t : TypeId} {q : List (Nat × Nat)} {a b : List AV} {vs us : List Value} {r : Bool}, n <= d -> fkn P n t = some q -> R1s X a vs -> R1s X b us -> feq q a b = some r -> (∃ fs, P.underlying t = some (.struct fs)) /\ (Op.equalIn (d + 1) t (.agg vs.toArray) (.agg us.toArray)).run P X.w = .ok r X.w
 | 0, _, _, _, _, _, _, _, _, _, h, _, _, _ => by rw [fkn] at h; cases h
 | n + 1, 0, _, _, _, _, _, _, _, hd, _, _, _, _ => by omega
 | n + 1, d + 1, t, q, a, b, vs, us, r, hd, h, ha, hb, hr => by
  rw [fkn] at h
  split at h
  .rename_i flds hun
   split at h
   .rename_i hs
    have hf : P.fieldsOf t = flds := by unfold Program.fieldsOf; rw [hun]
    have hun2 : P.underlying t = some (.struct (P.fieldsOf t)) := by rw [hf, hun]
    refine ⟨⟨flds, hun⟩, ?_⟩
    rw [run_equalIn_agg X.w (d + 1) t _ _ hun2 hs, hf]
    exact qpy (fun t q a b vs us r h1 h2 h3 h4 => qxj n (by omega) h1 h2 h3 h4) ha hb h hr
   .cases h
  .cases h
theorem qiv1 {op : BinOp} {t u : TypeId} {x y : Operand} {r : Bool} (h : aeqS P op t (ev x) (ev y) = some r) : FOp P ev σ (.binOp op t x y u) (.v (.bool r)) none := FOp.of fun X ac oper ho _ _ hev => by
 have h1 := hev x (by simp [Op.operands])
 have h2 := hev y (by simp [Op.operands])
 refine ⟨.bool r, ?_, RR.v.2 rfl⟩
 unfold aeqS at h
 split at h
 .rename_i fs a b hq hx hy
  rw [hx] at h1; rw [hy] at h2
  obtain ⟨vs, hv, h1⟩ := h1
  obtain ⟨us, hu, h2⟩ := h2
  have hq' := hq
  unfold qinfo at hq'
  split at hq'
  .rename_i hg
   have key : ∀ r', feq fs a b = some r' -> (Op.equalIn 10000 t (.agg vs.toArray) (.agg us.toArray)).run P X.w = .ok r' X.w := fun r' hr => (qxj 2 (d := 9999) (by omega) hq' h1 h2 hr).2
   simp only [execOp, ho]
   rw [Sem.run_bind, hv, hu]
   split at h
   .rename_i r' hr
    cases h
    rw [Sem.run_bind, run_eqGuard_agg X.w _ _ _ _ _ _ hg, Result.andThen_ok, run_eql_struct, key _ hr]
    simp
   .rename_i r' hr
    cases h
    rw [Sem.run_bind, run_eqGuard_agg X.w _ _ _ _ _ _ hg, Result.andThen_ok, run_neq_struct, key _ hr]
    simp
   .cases h
  .cases hq'
 .cases h
theorem qmy1 {op : BinOp} {t u : TypeId} {x y : Operand} {r : Bool} (h : aeqB P op t (ev x) (ev y) = some r) : FOp P ev σ (.binOp op t x y u) (.v (.bool r)) none := FOp.of fun X ac oper ho _ _ hev => by
 have h1 := hev x (by simp [Op.operands])
 have h2 := hev y (by simp [Op.operands])
 refine ⟨.bool r, ?_, RR.v.2 rfl⟩
 unfold aeqB at h
 split at h
 .rename_i a b hx hy
  rw [hx, RR.v] at h1; rw [hy, RR.v] at h2
  split at h
  .rename_i hk
   have hu : P.underlying t = some .bool := by
    unfold fkind at hk
    split at hk
    .cases hk
    .assumption
    .cases hk
    .cases hk
   simp only [execOp, ho]
   rw [Sem.run_bind, h1, h2]
   have hg : ∀ op, (eqGuard op t x y (.bool a) (.bool b)).run P X.w = .ok () X.w := fun op => by simp [eqGuard]
   split at h
   .cases h
    rw [Sem.run_bind, hg, Result.andThen_ok, run_eql_bool X.w t a b hu]
    simp
   .cases h
    rw [Sem.run_bind, hg, Result.andThen_ok, run_neq_bool X.w t a b hu]
    simp
   .cases h
  .cases h
 .cases h
theorem qdm1 {op : BinOp} {t u : TypeId} {x y : Operand} {r : Bool} (h : aeq P op t (ev x) (ev y) = some r) : FOp P ev σ (.binOp op t x y u) (.v (.bool r)) none := by
 unfold aeq at h
 cases h1 : aeqS P op t (ev x) (ev y) with
 | some r' => rw [h1] at h; cases h; exact qiv1 h1
 | none => rw [h1] at h; exact qmy1 h
end
end Go.Proofs.YtkedbjjfmejbhaaGreatDoor
