/- Operations computed: what simp runs. -/
import Derived.Test.YtkedbjjfmejbhaaGreatDoorGe8
import Derived.Test.YtkedbjjfmejbhaaGreatDoorGe9
import Derived.Test.YtkedbjjfmejbhaaGreatDoorGe10
set_option linter.unusedSimpArgs false
set_option linter.unusedVariables false
namespace Go.Proofs.YtkedbjjfmejbhaaGreatDoor
open Go.RowKit Go.Lib
def AV.nt : AV -> Bool
 | .tup _ => false
 | _ => true
def nts : List AV -> Bool
 | [] => true
 | x :: l => x.nt && nts l
def bndv (ev : Operand -> AV) (o : Option Operand) (d : Nat) : Option Nat :=
 match o with
 | none => some d
 | some o => match ev o with
  | .v (.int _ n) => if 0 <= n then some n.toNat else none
  | _ => none
theorem qeu {ev : Operand -> AV} {o : Option Operand} {d l : Nat} (h : bndv ev o d = some l) : bnd ev o d l := by
 unfold bndv at h
 unfold bnd
 cases o with
 | none => cases h; rfl
 | some o =>
  dsimp only at h ⊢
  split at h
  .rename_i k n he
   split at h
   .cases h; exact ⟨k, by rw [he, Int.toNat_of_nonneg ‹_›]⟩
   .cases h
  .cases h
def ACall (P : Program) (f : FuncId) (args : List AV) (s : AS) (K : AV -> AS -> Prop) : Prop := ∃ x s1, AC P f args s.st (fun y τ => y = x /\ τ = s1.st) /\ (s1.t = s.t /\ s1.n = s.n /\ s1.n0 = s.n0) /\ K x s1
theorem acall {P : Program} {f : FuncId} {args : List AV} {s : AS} {K : AV -> AS -> Prop} {x : AV} (h : Gives P f args x) (hK : K x s) : ACall P f args s K := ⟨x, s, h s.st, ⟨rfl, rfl, rfl⟩, hK⟩
theorem qh {P : Program} {f : FuncId} {args : List AV} {s : AS} {K : AV -> AS -> Prop} {x : AV} (hK : K x s) (h : Gives P f args x := by assumption) : ACall P f args s K := acall h hK
class Stp (G : Prop) (H : outParam Prop) : Prop where
 m : H -> G
theorem qdu {P : Program} {f : FuncId} {args : List AV} {s : AS} {K : AV -> AS -> Prop} {x : AV} (r : Nat) (ab : AB) (h : AC P f args s.st fun y τ => y = x /\ τ = upd s.st r ab) (hr : s.st r ≠ .unborn) (hK : K x (s.set r ab)) : ACall P f args s K :=
 ⟨x, s.set r ab, by rw [AS.set_st _ _ _ (Nat.lt_of_not_le fun hle => hr (s.fin r hle))]; exact h, ⟨(s.set_nx r ab).2.2, (s.set_nx r ab).1, (s.set_nx r ab).2.1⟩, hK⟩
def nts1 : List AV -> Bool
 | [] => true
 | x :: l => x.one && x.sure && nts1 l
section
variable {P : Program} {ev : Operand -> AV} {σ : Nat -> AB}
theorem qmh : ∀ {l : List Operand}, nts1 (l.map ev) = true -> ∀ y ∈ l, (ev y).one = true /\ (ev y).sure = true
 | [], _, _, hy => by cases hy
 | x :: l, h, y, hy => by
  rw [List.map_cons, nts1, Bool.and_eq_true, Bool.and_eq_true] at h
  rcases List.mem_cons.1 hy with rfl | hy
  .exact h.1
  .exact qmh h.2 y hy
theorem qsv {f : Nat} {caps : List Operand} (h1 : ∀ y ∈ caps, (ev y).one = true /\ (ev y).sure = true) : FOp P ev σ (.makeFunc (.func f) #[] caps.toArray) (.fn f (caps.map ev)) none := FOp.of fun X a oper ho _ _ hev => by
 refine ⟨.func (.func f) #[] (caps.map a.eval).toArray, by simp [execOp, ho, Instr.makeFunc], ?_⟩
 show RC X (.fn f _) [_]
 rw [RC]
 refine ⟨caps.map a.eval, rfl, ?_⟩
 have : ∀ l : List Operand, (∀ y ∈ l, RR X (ev y) (a.eval y)) -> (∀ y ∈ l, (ev y).one = true /\ (ev y).sure = true) -> R1s X (l.map ev) (l.map a.eval) := fun l => by
  induction l with
  | nil => intro _ _; rw [List.map_nil, List.map_nil, R1s]
  | cons y l ih =>
   intro h2 h3
   rw [List.map_cons, List.map_cons, R1s]
   obtain ⟨h4, h5⟩ := h3 y (by simp)
   refine ⟨_, _, rfl, h4, ?_, ih (fun z hz => h2 z (by simp [hz])) (fun z hz => h3 z (by simp [hz]))⟩
   have h6 := h2 y (by simp)
   generalize ev y = z at h4 h5 h6
   cases z <;> first | exact h6 | (cases h4; done) | (cases h5; done)
 exact this caps (fun y hy => hev y (by simp [Op.operands, hy])) h1
theorem qse1 {X : St} {a : Act} : ∀ l : List Operand, (∀ y ∈ l, RR X (ev y) (a.eval y)) -> (∀ y ∈ l, (ev y).one = true /\ (ev y).sure = true) -> R1s X (l.map ev) (l.map a.eval) := fun l => by
 induction l with
 | nil => intro _ _; rw [List.map_nil, List.map_nil, R1s]
 | cons y l ih =>
  intro h2 h3
  rw [List.map_cons, List.map_cons, R1s]
  obtain ⟨h4, h5⟩ := h3 y (by simp)
  refine ⟨_, _, rfl, h4, ?_, ih (fun z hz => h2 z (by simp [hz])) (fun z hz => h3 z (by simp [hz]))⟩
  have h6 := h2 y (by simp)
  generalize ev y = z at h4 h5 h6
  cases z <;> first | exact h6 | (cases h4; done) | (cases h5; done)
theorem qal1 {f : Nat} {bs : List Operand} (h1 : ∀ y ∈ bs, (ev y).one = true /\ (ev y).sure = true) : FOp P ev σ (.makeFunc (.func f) bs.toArray #[]) (.bm f (bs.map ev)) none := FOp.of fun X a oper ho _ _ hev => by
 refine ⟨.func (.func f) (bs.map a.eval).toArray #[], by simp [execOp, ho, Instr.makeFunc], ?_⟩
 show RC X (.bm f _) [_]
 rw [RC]
 exact ⟨bs.map a.eval, rfl, qse1 bs (fun y hy => hev y (by simp [Op.operands, hy])) h1⟩
theorem qsx {x : Operand} (h : qib σ (ev x)) : FOp P ev σ (.nilCheck x) (ev x) none := FOp.of fun X a oper ho _ hsub hev => by
 obtain ⟨b, o, h1, -⟩ := qbt1 hsub (hev x (by simp [Op.operands])) h
 refine ⟨a.eval x, ?_, hev x (by simp [Op.operands])⟩
 simp [execOp, ho, h1]
end
def AV.wid (l : List AV) (n : Nat) : Prop := ∀ y ∈ l, y.width = n
def AV.elms (l : List AV) : Prop := ∀ y ∈ l, y.elem = true
@[simp] theorem AV.wid_nil (n : Nat) : AV.wid [] n := by intro y hy; cases hy
@[simp] theorem AV.wid_cons (x : AV) (l : List AV) (n : Nat) : AV.wid (x :: l) n ↔ x.width = n /\ AV.wid l n := by simp [AV.wid]
@[simp] theorem AV.wid_map {α : Type} {f : α -> AV} {n : Nat} (h : ∀ a, (f a).width = n) (l : List α) : AV.wid (l.map f) n := by
 intro y hy
 obtain ⟨a, -, rfl⟩ := List.mem_map.1 hy
 exact h a
theorem AV.wid_take {l : List AV} {n : Nat} (h : AV.wid l n) (k : Nat) : AV.wid (l.take k) n := fun y hy => h y (List.mem_of_mem_take hy)
@[simp] theorem AV.wid_take' {α : Type} {f : α -> AV} {n : Nat} (h : ∀ a, (f a).width = n) (l : List α) (k : Nat) : AV.wid ((l.map f).take k) n := AV.wid_take (AV.wid_map h l) k
@[simp] theorem AV.elms_nil : AV.elms [] := by intro y hy; cases hy
@[simp] theorem AV.elms_cons (x : AV) (l : List AV) : AV.elms (x :: l) ↔ x.elem = true /\ AV.elms l := by simp [AV.elms]
@[simp] theorem AV.elms_map {α : Type} {f : α -> AV} (h : ∀ a, (f a).elem = true) (l : List α) : AV.elms (l.map f) := by
 intro y hy
 obtain ⟨a, -, rfl⟩ := List.mem_map.1 hy
 exact h a
def zl (P : Program) (t : TypeId) : Option (List AV) :=
 match zinfo P t with
 | some z => if z.cells.toList.all Value.oneCell' = true then some (z.cells.toList.map .v) else none
 | none => none
theorem qht1 {P : Program} {t : TypeId} {cs : List AV} (h : zl P t = some cs) : ∃ z, zinfo P t = some z /\ z.cells.toList.all Value.oneCell' = true /\ cs = z.cells.toList.map .v := by
 unfold zl at h
 split at h
 .rename_i z hz
  split at h
  .rename_i hc; cases h; exact ⟨z, hz, hc, rfl⟩
  .cases h
 .cases h
def aevF (P : Program) (s : AS) (o : Op) (K : AV -> Option AB -> Prop) : Prop :=
 match o with
 | .move x => K (s.eval x) none
 | .assign x => K (s.eval x) none
 | .pick c x y => match s.eval c with
  | .v (.bool t) => K (if t then s.eval x else s.eval y) none
  | _ => False
 | .extract x i => match s.eval x with
  | .tup l => match l[i]? with
   | some y => y.nt = true /\ K y none
   | none => False
  | _ => False
 | .binOp op t x y _ => match (s.eval x).val?, (s.eval y).val? with
  | some a, some b => match sbin op a b with
   | some z => K (.v z) none
   | none => match sbin2 op a b with
    | some cz => cz.1 /\ K (.v cz.2) none
    | none => match aeq P op t (s.eval x) (s.eval y) with
     | some r => K (.v (.bool r)) none
     | none => False
  | _, _ => match aeq P op t (s.eval x) (s.eval y) with
   | some r => K (.v (.bool r)) none
   | none => False
 | .unOp op _ x => match s.eval x with
  | .v a => match sun op a with
   | some z => K (.v z) none
   | none => False
  | _ => False
 | .load t p => match tinfo P t with
  | some (ag, n) => match rdAt s.st ag n (s.eval p) with
   | some x => K x none
   | none => False
  | none => False
 | .fieldAddr t p f => match finfo P t f with
  | some (off, ft) => match tinfo P ft with
   | some (_, n) => n ≠ 0 /\ qib s.st (s.eval p) /\ K ((s.eval p).at off) none
   | none => False
  | none => False
 | .field t p f => match finfo P t f, s.eval p with
  | some (off, ft), .agg l => match tinfo P ft with
   | some (ag, n) => match qdt ag n l off with
    | some x => K x none
    | none => False
   | none => False
  | _, _ => False
 | .indexAddr t p i => match einfo P t with
  | some e => match tinfo P e with
   | some (_, sz) => match s.eval p, s.eval i with
    | .sl l, .v (.int _ k) => AV.wid l sz /\ 0 <= k /\ k < l.length /\ K (.ep (l.getD k.toNat .any) 0) none
    | .gs _ l, .v (.int _ k) => AV.wid l sz /\ 0 <= k /\ k < l.length /\ K (.ep (l.getD k.toNat .any) 0) none
    | .own r n, .v (.int _ k) => match s.st r with
     | .vec l _ sz' => sz' = sz /\ n = l.length /\ 0 <= k /\ k < l.length /\ K (.eo r n k.toNat 0) none
     | _ => False
    | _, _ => False
   | none => False
  | none => match P.underlying t, s.eval p, s.eval i with
   | some (.array n e), .v (.pointer (some ⟨g, 0, none⟩)), .v (.int _ k) => tinfo P e = some (false, 1) /\ (match gtab g with
    | some cs => cs.length = n /\ 0 <= k /\ k < cs.length /\ K (.ep (.v (cs.getD k.toNat undef)) 0) none
    | none => False)
   | _, _, _ => False
 | .index t x i => match P.underlying t, s.eval x, s.eval i with
  | some .string, .v (.string b), .v (.int _ k) => 0 <= k /\ k < b.size /\ K (.v (.int .u8 (b.data.getD k.toNat 0).toNat)) none
  | _, _, _ => False
 | .slice t x lo hi mx => mx = none /\ (match s.eval x with
  | .v (.string b) => P.underlying t = some .string /\ (match bndv s.eval lo 0, bndv s.eval hi b.size with
   | some l, some h => l <= h /\ h <= b.size /\ K (.v (.string (b.extract l h))) none
   | _, _ => False)
  | .sl L => match einfo P t with
   | some e => match tinfo P e, bndv s.eval lo 0, bndv s.eval hi L.length with
    | some (_, sz), some l, some h => AV.wid L sz /\ l <= h /\ h <= L.length /\ K (.sl ((L.take h).drop l)) none
    | _, _, _ => False
   | none => False
  | .gs _ L => match einfo P t with
   | some e => match tinfo P e, bndv s.eval lo 0, bndv s.eval hi L.length with
    | some (_, sz), some l, some h => AV.wid L sz /\ l <= h /\ h <= L.length /\ K (.sl ((L.take h).drop l)) none
    | _, _, _ => False
   | none => False
  | _ => False)
 | .box t x => (s.eval x).sure = true /\ K (.ptr s.nx 0) (some (.cells (s.eval x).cells t))
 | .alloc t => match zl P t with
  | some cs => K (.ptr s.nx 0) (some (.cells cs t))
  | none => False
 | .call { callee := .builtin .len, args := ⟨[p]⟩, argTypes := ⟨[t]⟩ } => match s.eval p with
  | .sl l => (einfo P t).isSome = true /\ K (.v (.int .i64 l.length)) none
  | .gs _ l => (einfo P t).isSome = true /\ K (.v (.int .i64 l.length)) none
  | .own r n => match s.st r with
   | .vec l _ _ => (einfo P t).isSome = true /\ n = l.length /\ K (.v (.int .i64 n)) none
   | _ => False
  | .v (.slice _ n _) => (einfo P t).isSome = true /\ K (.v (.int .i64 n)) none
  | .v (.string b) => P.underlying t = some .string /\ K (.v (.int .i64 b.size)) none
  | _ => False
 | .call { callee := .builtin .min, args := ⟨[p, q]⟩, argTypes := ⟨[_, _]⟩ } => match s.eval p, s.eval q with
  | .v (.int k x), .v (.int _ y) => K (.v (.int k (if y < x then y else x))) none
  | _, _ => False
 | .call { callee := .builtin .max, args := ⟨[p, q]⟩, argTypes := ⟨[_, _]⟩ } => match s.eval p, s.eval q with
  | .v (.int k x), .v (.int _ y) => K (.v (.int k (if x < y then y else x))) none
  | _, _ => False
 | .build t ⟨ps⟩ => match binfo P t, zl P t with
  | some pl, some cs => match bld pl (ps.map fun p => (p.1, s.eval p.2)) cs with
   | some out => K (.agg out) none
   | none => False
  | _, _ => False
 | .makeSlice t p q => match vinfo P t with
  | some (e, sz, by_) => match p, s.eval p, s.eval q with
   | .const (.int _ 0), _, .v (.int _ c) => 0 <= c /\ by_ * c.toNat <= 281474976710656 /\ K (.gs s.nx []) (some (.tail 0 e sz))
   | _, .v (.int _ n), .v (.int _ c) => match zel P e with
    | some x => 0 <= n /\ n <= c /\ by_ * c.toNat <= 281474976710656 /\ K (.own s.nx n.toNat) (some (.vec (List.replicate n.toNat x) e sz))
    | none => False
   | _, _, _ => False
  | none => False
 | .convert a b x => match intk P a, intk P b, s.eval x with
  | some _, some k', .v (.int _ n) => K (.v (.int k' (k'.wrap n))) none
  | none, none, .v (.string s) => match einfo P b with
   | some e => P.underlying a = some .string /\ intk P e = some .u8 /\ s.size <= 9223372036854775806 /\ K (.sl (s.data.toList.map AV.byte)) none
   | none => False
  | none, none, x => match einfo P a, x.list with
   | some e, some L => intk P e = some .u8 /\ P.underlying b = some .string /\ AV.isBs L /\ K (.v (.string ⟨(L.map AV.toByte).toArray⟩)) none
   | _, _ => False
  | _, _, _ => False
 | .buildSlice t 0 ⟨[]⟩ => match vinfo P t with
  | some (e, sz, _) => K (.gs s.nx []) (some (.tail 0 e sz))
  | none => False
 | .buildSlice t n ⟨ps⟩ => match vinfo P t with
  | some (_, sz, _) => n = ps.length /\ n * sz <= 16777216 /\ bldS sz 0 (ps.map fun p => (p.1, s.eval p.2)) /\ K (.sl (ps.map fun p => (s.eval p.2).pub)) none
  | none => False
 | .makeFunc (.func f) ⟨[]⟩ ⟨caps⟩ => nts1 (caps.map s.eval) = true /\ K (.fn f (caps.map s.eval)) none
 | .makeFunc (.func f) ⟨b :: bs⟩ ⟨[]⟩ => nts1 ((b :: bs).map s.eval) = true /\ K (.bm f ((b :: bs).map s.eval)) none
 | .nilCheck x => qib s.st (s.eval x) /\ K (s.eval x) none
 | .lookup t m k ok => match s.eval m with
  | .own r _ => match s.st r with
   | .obj I => ALook P t I ok (s.eval k) (fun x => K x none)
   | _ => False
  | _ => False
 | .makeMap _ none => K (.own s.nx 0) (some (.obj fun o => o = .map #[] 0))
 | _ => False
theorem qch {P : Program} {s : AS} {o : Op} {K : AV -> Option AB -> Prop} (h : aevF P s o K) : ∃ x nb, FOp P s.eval s.st o x (nb.map (s.nx, ·)) /\ K x nb := by
 unfold aevF at h
 split at h
 .exact ⟨_, none, qiz1, h⟩
 .exact ⟨_, none, qaf1, h⟩
 .split at h
  .exact ⟨_, none, qja1 ‹_›, h⟩
  .exact h.elim
 .split at h
  .split at h
   .rename_i y hy
    exact ⟨_, none, qvv ‹_› hy (fun l e => by rw [e] at h; cases h.1), h.2⟩
   .exact h.elim
  .exact h.elim
 .split at h
  .split at h
   .exact ⟨_, none, qmw1 (AV.val?_some ‹_›) (AV.val?_some ‹_›) ‹_›, h⟩
   .split at h
    .exact ⟨_, none, qiu1 (AV.val?_some ‹_›) (AV.val?_some ‹_›) ‹_› h.1, h.2⟩
    .split at h
     .exact ⟨_, none, qdm1 ‹_›, h⟩
     .exact h.elim
  .split at h
   .exact ⟨_, none, qdm1 ‹_›, h⟩
   .exact h.elim
 .split at h
  .split at h
   .exact ⟨_, none, qqx1 ‹_› ‹_›, h⟩
   .exact h.elim
  .exact h.elim
 .split at h
  .split at h
   .exact ⟨_, none, qiy1 ‹_› ‹_›, h⟩
   .exact h.elim
  .exact h.elim
 .split at h
  .split at h
   .exact ⟨_, none, qqd ‹_› ‹_› h.1 h.2.1, h.2.2⟩
   .exact h.elim
  .exact h.elim
 .split at h
  .split at h
   .split at h
    .exact ⟨_, none, qdn1 ‹_› ‹_› ‹_› ‹_›, h⟩
    .exact h.elim
   .exact h.elim
  .exact h.elim
 .split at h
  .split at h
   .split at h
    .rename_i he _; exact ⟨_, none, qii ‹_› ‹_› (by rw [he]; rfl) ‹_› h.1 h.2.1 h.2.2.1, h.2.2.2⟩
    .rename_i he _; exact ⟨_, none, qii ‹_› ‹_› (by rw [he]; rfl) ‹_› h.1 h.2.1 h.2.2.1, h.2.2.2⟩
    .split at h
     .obtain ⟨rfl, h2, h3, h4, h5⟩ := h
      exact ⟨_, none, qsu ‹_› ‹_› ‹_› ‹_› h2 ‹_› h3 h4, h5⟩
     .exact h.elim
    .exact h.elim
   .exact h.elim
  .split at h
   .obtain ⟨hT, h⟩ := h
    split at h
    .obtain ⟨h1, h2, h3, h4⟩ := h
     exact ⟨_, none, qai1 ‹_› hT ‹_› ‹_› ‹_› h1 h2 h3, h4⟩
    .exact h.elim
   .exact h.elim
 .split at h
  .exact ⟨_, none, qah1 ‹_› ‹_› ‹_› h.1 h.2.1, h.2.2⟩
  .exact h.elim
 .obtain ⟨rfl, h⟩ := h
  split at h
  .obtain ⟨hu, h⟩ := h
   split at h
   .exact ⟨_, none, qan1 hu ‹_› (qeu ‹_›) (qeu ‹_›) h.1 h.2.1, h.2.2⟩
   .exact h.elim
  .rename_i he
   split at h
   .split at h
    .exact ⟨_, none, qoc ‹_› ‹_› (by rw [he]; rfl) h.1 (qeu ‹_›) (qeu ‹_›) h.2.1 h.2.2.1, h.2.2.2⟩
    .exact h.elim
   .exact h.elim
  .rename_i he
   split at h
   .split at h
    .exact ⟨_, none, qoc ‹_› ‹_› (by rw [he]; rfl) h.1 (qeu ‹_›) (qeu ‹_›) h.2.1 h.2.2.1, h.2.2.2⟩
    .exact h.elim
   .exact h.elim
  .exact h.elim
 .exact ⟨_, some _, qmx1 h.1, h.2⟩
 .split at h
  .obtain ⟨z, hz, h1, rfl⟩ := qht1 ‹_›
   exact ⟨_, some _, qdj1 hz (fun v hv => List.all_eq_true.1 h1 v hv), h⟩
  .exact h.elim
 .split at h
  .obtain ⟨h1, h2⟩ := h
   obtain ⟨e, he⟩ := Option.isSome_iff_exists.1 h1
   rename_i hp
   exact ⟨_, none, qdo1 he (by rw [hp]; rfl), h2⟩
  .obtain ⟨h1, h2⟩ := h
   obtain ⟨e, he⟩ := Option.isSome_iff_exists.1 h1
   rename_i hp
   exact ⟨_, none, qdo1 he (by rw [hp]; rfl), h2⟩
  .split at h
   .obtain ⟨h1, h2, h3⟩ := h
    obtain ⟨e, he⟩ := Option.isSome_iff_exists.1 h1
    exact ⟨_, none, qaj1 he ‹_› ‹_› h2, h3⟩
   .exact h.elim
  .obtain ⟨h1, h2⟩ := h
   obtain ⟨e, he⟩ := Option.isSome_iff_exists.1 h1
   exact ⟨_, none, qix1 he ‹_›, h2⟩
  .exact ⟨_, none, qiw1 h.1 ‹_›, h.2⟩
  .exact h.elim
 .split at h
  .exact ⟨_, none, qna1 ‹_› ‹_›, h⟩
  .exact h.elim
 .split at h
  .exact ⟨_, none, qmz1 ‹_› ‹_›, h⟩
  .exact h.elim
 .split at h
  .rename_i hb hz0
   obtain ⟨z, hz, h1, rfl⟩ := qht1 hz0
   split at h
   .exact ⟨_, none, qdk1 hb hz h1 ‹_›, h⟩
   .exact h.elim
  .exact h.elim
 .split at h
  .split at h
   .rename_i hq
    obtain ⟨h0, h1, h2⟩ := h
    exact ⟨_, some _, qsw ‹_› rfl (by rw [hq, Int.toNat_of_nonneg h0]) h1, h2⟩
   .rename_i hq hp
    split at h
    .obtain ⟨h0, h1, h2, h3⟩ := h
     exact ⟨_, some _, qqe ‹_› ‹_› (by rw [hp, Int.toNat_of_nonneg h0]) (by rw [hq, Int.toNat_of_nonneg (Int.le_trans h0 h1)]) (by omega) h2, h3⟩
    .exact h.elim
   .exact h.elim
  .exact h.elim
 .split at h
  .exact ⟨_, none, qdl1 ‹_› ‹_› ‹_›, h⟩
  .split at h
   .exact ⟨_, none, qqc h.1 ‹_› h.2.1 ‹_› h.2.2.1, h.2.2.2⟩
   .exact h.elim
  .split at h
   .exact ⟨_, none, qsy ‹_› h.1 h.2.1 ‹_› h.2.2.1, h.2.2.2⟩
   .exact h.elim
  .exact h.elim
 .split at h
  .exact ⟨_, some _, qhf ‹_›, h⟩
  .exact h.elim
 .split at h
  .exact ⟨_, none, qne ‹_› h.1 h.2.1 h.2.2.1, h.2.2.2⟩
  .exact h.elim
 .exact ⟨_, none, qsv (qmh h.1), h.2⟩
 .exact ⟨_, none, qal1 (qmh h.1), h.2⟩
 .exact ⟨_, none, qsx h.1, h.2⟩
 .split at h
  .split at h
   .obtain ⟨x, h1, h2⟩ := h
    exact ⟨x, none, qak1 ‹_› ‹_› h1, h2⟩
   .exact h.elim
  .exact h.elim
 .exact ⟨_, some _, qvw, h⟩
 .exact h.elim
def stC (P : Program) (s : AS) (t : TypeId) (p y : Operand) (K : AV -> AS -> Prop) : Prop :=
 match tinfo P t with
 | some (_, n) => match s.eval p with
  | .ptr r off => match s.st r with
   | .cells cs et => (s.eval y).sure = true /\ (s.eval y).cells.length = n /\ off + n <= cs.length /\ K .any (s.set r (.cells (qer cs off (s.eval y).cells) et))
   | _ => False
  | .eo r m k off => match s.st r with
   | .vec l et sz => match l[k]? with
    | some x => match wrEl x off (x.keep off (s.eval y)) with
     | some x' => m = l.length /\ (s.eval y).sure = true /\ (s.eval y).cells.length = n /\ K .any (s.set r (.vec (l.set k x') et sz))
     | none => False
    | none => False
   | _ => False
  | _ => False
 | none => False
theorem quc {P : Program} {s : AS} {t : TypeId} {p y : Operand} {K : AV -> AS -> Prop} (h : stC P s t p y K) : EOp P s (.store t p y) K := by
 unfold stC at h
 split at h
 .split at h
  .split at h
   .exact qcy1 ‹_› ‹_› ‹_› h.1 h.2.1 h.2.2.1 h.2.2.2
   .exact h.elim
  .split at h
   .split at h
    .split at h
     .exact qsh ‹_› ‹_› ‹_› h.1 ‹_› h.2.1 h.2.2.1 ‹_› h.2.2.2
     .exact h.elim
    .exact h.elim
   .exact h.elim
  .exact h.elim
 .exact h.elim
theorem qsm1 {P : Program} {s : AS} {t : TypeId} {p y : Operand} {K : AV -> AS -> Prop} (h : stC P s t p y K) : ∃ s1, (s1.t = s.t /\ s1.n = s.n /\ s1.n0 = s.n0) /\ K .any s1 /\
  ∀ s' : AS, s'.eval p = s.eval p -> s'.eval y = s.eval y -> s'.st = s.st -> s'.nx = s.nx -> stC P s' t p y (fun x1 s2 => x1 = .any /\ s2.st = s1.st) := by
 unfold stC at h
 split at h
 .rename_i ht
  split at h
  .rename_i r off hpe
   split at h
   .rename_i cs et hσ
    have hr : r < s.nx := Nat.lt_of_not_le fun hle => by have := s.fin r hle; rw [hσ] at this; cases this
    refine ⟨_, ⟨(s.set_nx r _).2.2, (s.set_nx r _).1, (s.set_nx r _).2.1⟩, h.2.2.2, fun s' hp hy hst hnx => ?_⟩
    unfold stC
    simp only [hp, hy, hst, ht, hpe, hσ]
    refine ⟨h.1, h.2.1, h.2.2.1, trivial, ?_⟩
    rw [AS.set_st _ _ _ (by rw [hnx]; exact hr), AS.set_st _ _ _ hr, hst]
   .exact h.elim
  .rename_i r m k off hpe
   split at h
   .rename_i l et sz hσ
    have hr : r < s.nx := Nat.lt_of_not_le fun hle => by have := s.fin r hle; rw [hσ] at this; cases this
    split at h
    .rename_i hk
     split at h
     .rename_i hx
      refine ⟨_, ⟨(s.set_nx r _).2.2, (s.set_nx r _).1, (s.set_nx r _).2.1⟩, h.2.2.2, fun s' hp hy hst hnx => ?_⟩
      unfold stC
      simp only [hp, hy, hst, ht, hpe, hσ, hk, hx]
      refine ⟨h.1, h.2.1, h.2.2.1, trivial, ?_⟩
      rw [AS.set_st _ _ _ (by rw [hnx]; exact hr), AS.set_st _ _ _ hr, hst]
     .exact h.elim
    .exact h.elim
   .exact h.elim
  .exact h.elim
 .exact h.elim
def aev (P : Program) (s : AS) (o : Op) (K : AV -> AS -> Prop) : Prop :=
 match o with
 | .store t p y => stC P s t p y K
 | .mapUpdate t m k y => match s.eval m with
  | .own r _ => match s.st r with
   | .obj I => AUpd P t I (s.eval k) (s.eval y) (fun I' => K .any (s.set r (.obj I')))
   | _ => False
  | _ => False
 | .insert t m k y => match s.eval m with
  | .own r _ => match s.st r with
   | .obj I => AUpd P t I (s.eval k) (s.eval y) (fun I' => K .any (s.set r (.obj I')))
   | _ => False
  | _ => False
 | .call { callee := .builtin .append, args := ⟨[x, y]⟩, argTypes := ⟨[t, t']⟩ } => if t' = t then (match vinfo P t with
  | some (e, sz, by_) => match s.eval x, s.eval y with
   | .gs r l, y => match s.st r, y.list with
    | .tail n e' sz', some ys => e' = e /\ sz' = sz /\ n = l.length /\ AV.wid l sz /\ AV.wid ys sz /\ AV.elms ys /\ (l.length + ys.length) * by_ <= 140737488355328 /\ K (.gs r (l ++ ys)) (s.set r (.tail (l.length + ys.length) e sz))
    | _, _ => False
   | .v (.slice none 0 0), y => match y.list with
    | some ys => 0 < ys.length /\ AV.wid ys sz /\ AV.elms ys /\ ys.length * by_ <= 140737488355328 /\ K (.gs s.nx ys) (s.ext (some (.tail ys.length e sz)))
    | none => False
   | _, _ => False
  | none => False) else (match vinfo P t, s.eval x, s.eval y with
  | some (e, 1, 1), .gs r l, .v (.string b) => (match s.st r with
   | .tail n e' 1 => e' = e /\ n = l.length /\ P.underlying t' = some .string /\ zel P e = some (.v (.int .u8 0)) /\ AV.wid l 1 /\ l.length + b.size <= 140737488355328 /\ K (.gs r (l ++ b.data.toList.map AV.byte)) (s.set r (.tail (l.length + b.size) e 1))
   | _ => False)
  | _, _, _ => False)
 | .call { callee := .value (.func f), args := ⟨args⟩, .. } => nts (args.map s.eval) = true /\ enters P f = true /\ ACall P f ((args.map s.eval).map AV.pub) s K
 | .call { callee := .value (.tmp d), args := ⟨args⟩, .. } => match s.t d with
  | .fn f caps => nts (args.map s.eval) = true /\ enters P f = true /\ ACall P f ((args.map s.eval).map AV.pub ++ caps) s K
  | .bm f bound => nts (args.map s.eval) = true /\ enters P f = true /\ ACall P f (bound ++ (args.map s.eval).map AV.pub) s K
  | _ => False
 | o => aevF P s o fun x nb => K x (s.ext nb)
theorem qdm {s : AS} : ∀ {l : List Operand}, nts (l.map s.eval) = true -> ∀ y ∈ l, ∀ z, s.eval y ≠ .tup z
 | [], _, _, hy, _, _ => by cases hy
 | x :: l, h, y, hy, z, he => by
  rw [List.map_cons, nts, Bool.and_eq_true] at h
  rcases List.mem_cons.1 hy with rfl | hy
  .rw [he] at h; cases h.1
  .exact qdm h.2 y hy z he
theorem EOp.mono {P : Program} {s : AS} {o : Op} {K K' : AV -> AS -> Prop} (h : EOp P s o K) (hk : ∀ x s, K x s -> K' x s) : EOp P s o K' := fun X0 a w X oper ho hc Q =>
 OwpA.mono (fun _ _ ⟨v, x, s1, X', h1, h2, h3⟩ => ⟨v, x, s1, X', h1, hk _ _ h2, h3⟩) (h X0 a w X oper ho hc Q)
theorem qej {P : Program} {w : World} {t ty e : TypeId} {i : TypeInfo} (ht : P.underlying t = some (.slice e)) (hi : P.info? e = some i) (A A' : Option Addr) (n cap c : Nat) (hn : n <= cap) :
  (Builtin.append_ #[t, t] ty #[.slice A n cap, .slice A' 0 c]).run P w = .ok (.slice A n cap) w := by
 have hf : (Builtin.firstCells i.size 0 (.slice A' 0 c)).run P w = .ok #[] w := by
  cases A' with
  | none => simp [Builtin.firstCells]
  | some b => exact run_firstCells_some (P := P) w i.size 0 b 0 c [] (by simp) (fun j v h => by simp at h)
 cases A with
 | none => simp [Builtin.append_, run_underlying ht, sizeOf, typeInfo, hi, Builtin.lenOf, hn, hf]
 | some a => simp [Builtin.append_, run_underlying ht, sizeOf, typeInfo, hi, Builtin.lenOf, hn, hf, storeCells]
theorem AS.set_same {s : AS} {r : Nat} {ab : AB} (h : s.st r = ab) : s.set r ab = s := by
 obtain ⟨n, t, σ, n0, L⟩ := s
 change loc σ n0 L r = ab at h
 unfold loc at h
 unfold AS.set
 dsimp only
 split
 .rename_i hr
  rw [if_pos hr] at h
  congr 1
  funext k
  unfold upd
  split
  .rename_i e; rw [e]; exact h.symm
  .rfl
 .rename_i hr
  rw [if_neg hr] at h
  congr 1
  refine List.ext_getElem (by simp) fun j h1 h2 => ?_
  rw [List.getElem_set]
  split
  .rename_i e
   subst e
   rw [<- h, List.getD_eq_getElem?_getD, List.getElem?_eq_getElem h2]; rfl
  .rfl
theorem qjz {P : Program} {s : AS} {t : TypeId} {x y : Operand} {r : Nat} {l ys : List AV} {e : TypeId} {sz by_ : Nat} {K : AV -> AS -> Prop} (ht : vinfo P t = some (e, sz, by_)) (hx : s.eval x = .gs r l) (hσ : s.st r = .tail l.length e sz) (hyl : (s.eval y).list = some ys)
  (hwl : ∀ z ∈ l, z.width = sz) (hw : ∀ z ∈ ys, z.width = sz) (h1 : ∀ z ∈ ys, z.elem = true) (hb : (l.length + ys.length) * by_ <= 140737488355328) (hK : K (.gs r (l ++ ys)) (s.set r (.tail (l.length + ys.length) e sz))) :
  EOp P s (.call { callee := .builtin .append, args := #[x, y], argTypes := #[t, t] }) K := by
 cases ys with
 | cons z ys => exact qvm ht hx hσ hyl (by simp) hwl hw h1 hb hK
 | nil =>
  intro X0 a w X oper ho hc Q
  have hw0 := hc.w
  subst hw0
  have hx2 := hc.eval x
  rw [hx] at hx2
  have hx3 : RC X (.gs r l) [a.eval x] := hx2
  rw [RC] at hx3
  obtain ⟨A0, cap0, b0, off0, hv, hl0, -⟩ := hx3
  have hv' : a.eval x = .slice A0 l.length cap0 := by simpa using hv
  obtain ⟨A, cap, b, off, hyv', -⟩ := RR.list hyl (hc.eval y)
  obtain ⟨hu1, i, z, hi, -⟩ := qbr ht
  rw [List.append_nil, List.length_nil, Nat.add_zero, AS.set_same hσ] at hK
  refine qbi (w' := X.w) (v := a.eval x) (by rw [List.length_nil] at hyv'; simp [execOp, ho, resolve, invoke, builtin, hv', hyv', qej hu1 hi A0 A l.length cap0 cap hl0])
   ⟨a.eval x, .gs r l, _, _, rfl, hK, hc, hx2⟩
theorem qhw {P : Program} {w : World} {t u ty e : TypeId} {i : TypeInfo} (ht : P.underlying t = some (.slice e)) (hu : P.underlying u = some .string) (hi : P.info? e = some i) (hs1 : i.size = 1) (A : Option Addr) (n cap : Nat) (hn : n <= cap) (b : ByteArray) (h0 : b.size = 0) :
  (Builtin.append_ #[t, u] ty #[.slice A n cap, .string b]).run P w = .ok (.slice A n cap) w := by
 have hf := run_firstCells_string (P := P) w 1 b
 have hn0 : strCells b = [] := List.eq_nil_of_length_eq_zero (by rw [strCells_length]; exact h0)
 rw [h0, hn0] at hf
 cases A with
 | none => simp [Builtin.append_, run_underlying ht, run_underlying hu, sizeOf, typeInfo, hi, hs1, Builtin.lenOf, h0, hn, hf]
 | some a => simp [Builtin.append_, run_underlying ht, run_underlying hu, sizeOf, typeInfo, hi, hs1, Builtin.lenOf, h0, hn, hf, storeCells]
theorem qla1 {P : Program} {e : TypeId} {i : TypeInfo} {z : Value} (h : zel P e = some (.v (.int .u8 0))) (hi : P.info? e = some i) (hz : i.zero = some z) : i.zero = some (.int .u8 0) := by
 have hzi : zinfo P e = some z := by unfold zinfo; rw [hi]; exact hz
 unfold zel at h
 rw [hzi] at h
 dsimp only at h
 split at h
 .have h2 := Option.some.inj h
  unfold zelem at h2
  split at h2
  .cases h2
  .cases h2; exact hz
 .cases h
theorem qpx {P : Program} {s : AS} {t u : TypeId} {x y : Operand} {r : Nat} {l : List AV} {e : TypeId} {b : ByteArray} {K : AV -> AS -> Prop} (ht : vinfo P t = some (e, 1, 1)) (hu2 : P.underlying u = some .string) (hze : zel P e = some (.v (.int .u8 0))) (hx : s.eval x = .gs r l) (hy : s.eval y = .v (.string b)) (hσ : s.st r = .tail l.length e 1)
  (hwl : ∀ z ∈ l, z.width = 1) (hb : l.length + b.size <= 140737488355328) (hK : K (.gs r (l ++ b.data.toList.map AV.byte)) (s.set r (.tail (l.length + b.size) e 1))) :
  EOp P s (.call { callee := .builtin .append, args := #[x, y], argTypes := #[t, u] }) K := by
 intro X0 a w X oper ho hc Q
 have hw0 := hc.w
 subst hw0
 have hx2 := hc.eval x
 rw [hx] at hx2
 have hx3 : RC X (.gs r l) [a.eval x] := hx2
 rw [RC] at hx3
 obtain ⟨A0, cap0, b0, off0, hv, hl0, -⟩ := hx3
 have hv' : a.eval x = .slice A0 l.length cap0 := by simpa using hv
 have hyv := hc.eval y
 rw [hy, RR.v] at hyv
 obtain ⟨hu1, i, z, hi, hz0, hs1, hb1, -⟩ := qbr ht
 have hz := qla1 hze hi hz0
 have hlen : (b.data.toList.map AV.byte).length = b.size := by rw [List.length_map, <- Lib.size_eq]
 by_cases h0 : b.size = 0
 .have hn : b.data.toList = [] := List.eq_nil_of_length_eq_zero (by rw [<- Lib.size_eq]; exact h0)
  rw [hn, List.map_nil, List.append_nil, h0, Nat.add_zero, AS.set_same hσ] at hK
  refine qbi (w' := X.w) (v := a.eval x) (by simp [execOp, ho, resolve, invoke, builtin, hv', hyv, qhw hu1 hu2 hi hs1 A0 l.length cap0 hl0 b h0])
   ⟨a.eval x, .gs r l, _, _, rfl, hK, hc, hx2⟩
 .have hX : X.σ r = .tail l.length e 1 := by rw [hc.σ, hσ]
  have hB := hc.sr.block r
  rw [hX] at hB
  obtain ⟨⟨xs, hown⟩, -⟩ := hB
  obtain ⟨v2, w2, hrun, hown2, hg, h4, hkeep⟩ := qis (P := P) (ty := oper.type) hu1 hu2 hi hz hs1 hb1 hown b (by unfold maxLen; omega) hb
  refine qnl (ys := b.data.toList.map AV.byte) (news := strCells b) hc hx2 hσ (by omega) hwl (qmo _) hown (fun hvm => by simp [execOp, ho, resolve, invoke, builtin, <- hvm, hyv, hrun]) (by rw [hlen]; exact hown2) hg h4 (fun c o h1 h2 => hkeep c o h1 (by omega)) (by rw [hlen]; exact hK) Q
theorem qck {P : Program} {s : AS} {o : Op} {K : AV -> AS -> Prop} (h : aev P s o K) : EOp P s o K := by
 unfold aev at h
 split at h
 .exact quc h
 .split at h
  .split at h
   .obtain ⟨h1, I', h2, h3⟩ := h
    exact qfj (.inl rfl) ‹_› ‹_› h1 h2 h3
   .exact h.elim
  .exact h.elim
 .split at h
  .split at h
   .obtain ⟨h1, I', h2, h3⟩ := h
    exact qfj (.inr rfl) ‹_› ‹_› h1 h2 h3
   .exact h.elim
  .exact h.elim
 .split at h
  .rename_i ht
   subst ht
   split at h
   .split at h
    .split at h
     .obtain ⟨rfl, rfl, rfl, h3, h4, h5, h6, h7⟩ := h
      exact qjz ‹_› ‹_› ‹_› ‹_› h3 h4 h5 h6 h7
     .exact h.elim
    .split at h
     .obtain ⟨h2, h4, h5, h6, h7⟩ := h
      exact qlr ‹_› ‹_› ‹_› h2 h4 h5 h6 h7
     .exact h.elim
    .exact h.elim
   .exact h.elim
  .split at h
   .split at h
    .obtain ⟨rfl, rfl, h1, h2, h3, h4, h5⟩ := h
     exact qpx ‹_› h1 h2 ‹_› ‹_› ‹_› h3 h4 h5
    .exact h.elim
   .exact h.elim
 .obtain ⟨h1, h2, x, s1, h3, h4, h5⟩ := h
  exact qio1 h2 (qdm h1) h3 h4 h5
 .split at h
  .obtain ⟨h1, h2, x, s1, h3, h4, h5⟩ := h
   exact qcx1 ‹_› h2 (qdm h1) h3 h4 h5
  .obtain ⟨h1, h2, x, s1, h3, h4, h5⟩ := h
   exact qcw1 ‹_› h2 (qdm h1) h3 h4 h5
  .exact h.elim
 .obtain ⟨x, nb, h1, h2⟩ := qch h
  exact qhs h1 h2
def qbm (b : Bool) (A B : Prop) : Prop := (b = true -> A) /\ (b = false -> B)
@[simp] theorem qmd1 (A B : Prop) : qbm true A B ↔ A := by simp [qbm]
@[simp] theorem qlc1 (A B : Prop) : qbm false A B ↔ B := by simp [qbm]
@[simp] theorem qpp1 (b : Bool) (A B : Prop) : qbm (!b) A B ↔ qbm b B A := by cases b <;> simp
theorem qj {b : Bool} {A B : Prop} (h1 : b = true -> A) (h2 : b = false -> B) : qbm b A B := ⟨h1, h2⟩
def qe (P : Program) (ops : Array Oper) (K : AS -> Prop) : List Oper -> AS -> Prop
 | [], s => K s
 | o :: l, s => match awant ops o s.t with
  | some b => qbm b (aev P s o.op (fun x s1 => dstOk o.dst s1.n /\ qe P ops K l (s1.put o.dst x))) (dstOk o.dst s.n /\ qe P ops K l (s.put o.dst (.v undef)))
  | none => False
theorem qee {P : Program} {ops : Array Oper} {K : AS -> Prop} : ∀ {l : List Oper} {s : AS}, qe P ops K l s -> aseq P ops K l s
 | [], _, h => h
 | o :: l, s, h => by
  rw [qe] at h
  rw [aseq]
  split at h
  .rename_i b hb
   cases b with
   | true => exact ⟨true, hb, (qck (h.1 rfl)).mono fun x s1 ⟨h1, h2⟩ => ⟨h1, qee h2⟩⟩
   | false => exact ⟨false, hb, (h.2 rfl).1, qee (h.2 rfl).2⟩
  .exact h.elim
theorem qa {P : Program} {s : AS} {id : Nat} {l : List Oper} {Q : Exit -> AS -> Prop} (h : qe P l.toArray (Q .normal) l s) : awp P (.region id l.toArray false) Q s := qdh (qee h)
theorem qb {P : Program} {s : AS} {Q : Exit -> AS -> Prop} {x y : Code} (h : ∀ K : AS -> Prop, (∀ s, awp P y Q s -> K s) -> awp P x (AThen K Q) s) : awp P (.seq x y) Q s := qmh1 (h _ fun _ h => h)
instance {P : Program} {ops : Array Oper} {K : AS -> Prop} {o : Oper} {l : List Oper} {s : AS} : Stp (qe P ops K (o :: l) s) (match awant ops o s.t with
  | some b => qbm b (aev P s o.op (fun x s1 => dstOk o.dst s1.n /\ qe P ops K l (s1.put o.dst x))) (dstOk o.dst s.n /\ qe P ops K l (s.put o.dst (.v undef)))
  | none => False) := ⟨fun h => h⟩
instance {P : Program} {ops : Array Oper} {K : AS -> Prop} {s : AS} : Stp (qe P ops K [] s) (K s) := ⟨fun h => h⟩
@[simp] theorem qtl1 : undef = Value.tuple #[] := rfl
attribute [simp] qe aev aevF stC wrEl sbin2 awant AS.ext nts nts1 bld bldS pubV qdt sbin sun bndv qer Value.oneCell' AThen qbm1 ares ares1 aresl
section
variable (x : Value) (l : List AV) (r off n k i m sz : Nat) (y : AV) (f : Nat) (σ : Nat -> AB) (ag : Bool)
@[simp] theorem AV.nt_v : (AV.v x).nt = true := rfl
@[simp] theorem AV.nt_sl : (AV.sl l).nt = true := rfl
@[simp] theorem AV.nt_agg : (AV.agg l).nt = true := rfl
@[simp] theorem AV.nt_tup : (AV.tup l).nt = false := rfl
@[simp] theorem AV.nt_ptr : (AV.ptr r off).nt = true := rfl
@[simp] theorem AV.nt_own : (AV.own r n).nt = true := rfl
@[simp] theorem AV.nt_ep : (AV.ep y off).nt = true := rfl
@[simp] theorem AV.nt_eo : (AV.eo r n k off).nt = true := rfl
@[simp] theorem AV.nt_fn : (AV.fn f l).nt = true := rfl
@[simp] theorem AV.nt_bm : (AV.bm f l).nt = true := rfl
@[simp] theorem AV.nt_es : AV.es.nt = true := rfl
@[simp] theorem AV.nt_sub {r a n c sz : Nat} : (AV.sub r a n c sz).nt = true := rfl
@[simp] theorem AV.nt_any : (AV.any).nt = true := rfl
@[simp] theorem AV.sure_v : (AV.v x).sure = x.oneCell' := rfl
@[simp] theorem AV.sure_sl : (AV.sl l).sure = true := rfl
@[simp] theorem AV.sure_agg : (AV.agg l).sure = true := rfl
@[simp] theorem AV.sure_tup : (AV.tup l).sure = false := rfl
@[simp] theorem AV.sure_ptr : (AV.ptr r off).sure = true := rfl
@[simp] theorem AV.sure_own : (AV.own r n).sure = true := rfl
@[simp] theorem AV.sure_ep : (AV.ep y off).sure = true := rfl
@[simp] theorem AV.sure_eo : (AV.eo r n k off).sure = true := rfl
@[simp] theorem AV.sure_fn : (AV.fn f l).sure = true := rfl
@[simp] theorem AV.sure_bm : (AV.bm f l).sure = true := rfl
@[simp] theorem AV.sure_es : AV.es.sure = true := rfl
@[simp] theorem AV.sure_sub {r a n c sz : Nat} : (AV.sub r a n c sz).sure = true := rfl
@[simp] theorem AV.sure_any : (AV.any).sure = false := rfl
@[simp] theorem AV.one_v : (AV.v x).one = x.oneCell' := rfl
@[simp] theorem AV.one_sl : (AV.sl l).one = true := rfl
@[simp] theorem AV.one_agg : (AV.agg l).one = false := rfl
@[simp] theorem AV.one_tup : (AV.tup l).one = false := rfl
@[simp] theorem AV.one_ptr : (AV.ptr r off).one = true := rfl
@[simp] theorem AV.one_own : (AV.own r n).one = true := rfl
@[simp] theorem AV.one_ep : (AV.ep y off).one = true := rfl
@[simp] theorem AV.one_eo : (AV.eo r n k off).one = true := rfl
@[simp] theorem AV.one_fn : (AV.fn f l).one = true := rfl
@[simp] theorem AV.one_bm : (AV.bm f l).one = true := rfl
@[simp] theorem AV.one_sub {r a n c sz : Nat} : (AV.sub r a n c sz).one = true := rfl
@[simp] theorem AV.one_any : (AV.any).one = true := rfl
@[simp] theorem AV.elem_v : (AV.v x).elem = x.oneCell' := rfl
@[simp] theorem AV.elem_sl : (AV.sl l).elem = true := rfl
@[simp] theorem AV.elem_agg : (AV.agg l).elem = true := rfl
@[simp] theorem AV.elem_tup : (AV.tup l).elem = false := rfl
@[simp] theorem AV.elem_ptr : (AV.ptr r off).elem = true := rfl
@[simp] theorem AV.elem_own : (AV.own r n).elem = true := rfl
@[simp] theorem AV.elem_ep : (AV.ep y off).elem = true := rfl
@[simp] theorem AV.elem_eo : (AV.eo r n k off).elem = true := rfl
@[simp] theorem AV.elem_fn : (AV.fn f l).elem = true := rfl
@[simp] theorem AV.elem_bm : (AV.bm f l).elem = true := rfl
@[simp] theorem AV.elem_any : (AV.any).elem = true := rfl
@[simp] theorem AV.width_v : (AV.v x).width = 1 := rfl
@[simp] theorem AV.width_sl : (AV.sl l).width = 1 := rfl
@[simp] theorem AV.width_agg : (AV.agg l).width = l.length := rfl
@[simp] theorem AV.width_tup : (AV.tup l).width = 1 := rfl
@[simp] theorem AV.width_ptr : (AV.ptr r off).width = 1 := rfl
@[simp] theorem AV.width_own : (AV.own r n).width = 1 := rfl
@[simp] theorem AV.width_ep : (AV.ep y off).width = 1 := rfl
@[simp] theorem AV.width_eo : (AV.eo r n k off).width = 1 := rfl
@[simp] theorem AV.width_fn : (AV.fn f l).width = 1 := rfl
@[simp] theorem AV.width_bm : (AV.bm f l).width = 1 := rfl
@[simp] theorem AV.width_any : (AV.any).width = 1 := rfl
@[simp] theorem AV.cells_v : (AV.v x).cells = [.v x] := rfl
@[simp] theorem AV.cells_sl : (AV.sl l).cells = [.sl l] := rfl
@[simp] theorem AV.cells_agg : (AV.agg l).cells = l := rfl
@[simp] theorem AV.cells_ptr : (AV.ptr r off).cells = [.ptr r off] := rfl
@[simp] theorem AV.cells_own : (AV.own r n).cells = [.own r n] := rfl
@[simp] theorem AV.cells_ep : (AV.ep y off).cells = [.ep y off] := rfl
@[simp] theorem AV.cells_eo : (AV.eo r n k off).cells = [.eo r n k off] := rfl
@[simp] theorem AV.cells_fn : (AV.fn f l).cells = [.fn f l] := rfl
@[simp] theorem AV.cells_bm : (AV.bm f l).cells = [.bm f l] := rfl
@[simp] theorem AV.nt_gs : (AV.gs r l).nt = true := rfl
@[simp] theorem AV.sure_gs : (AV.gs r l).sure = true := rfl
@[simp] theorem AV.one_gs : (AV.gs r l).one = true := rfl
@[simp] theorem AV.elem_gs : (AV.gs r l).elem = true := rfl
@[simp] theorem AV.width_gs : (AV.gs r l).width = 1 := rfl
@[simp] theorem AV.cells_gs : (AV.gs r l).cells = [.gs r l] := rfl
@[simp] theorem AV.list_sl : (AV.sl l).list = some l := rfl
@[simp] theorem AV.list_gs : (AV.gs r l).list = some l := rfl
@[simp] theorem qji1 {cs l : List AV} {o : Nat} : (AV.agg cs).keep o (.agg l) = .agg (keeps (cs.drop o) l) := rfl
@[simp] theorem qec1 {cs : List AV} : keeps cs [] = [] := by cases cs <;> rfl
@[simp] theorem qwd {y : AV} {l : List AV} : keeps [] (y :: l) = y.pub :: keeps [] l := rfl
@[simp] theorem qar1 {c y : AV} {cs l : List AV} : keeps (c :: cs) (y :: l) = keep1 c y :: keeps cs l := rfl
@[simp] theorem keep_v {cs : List AV} {o : Nat} {x : Value} : (AV.agg cs).keep o (.v x) = keep1 (cs.getD o .any) (.v x) := rfl
@[simp] theorem qtq1 {cs : List AV} {o r : Nat} {l : List AV} : (AV.agg cs).keep o (.gs r l) = keep1 (cs.getD o .any) (.gs r l) := rfl
@[simp] theorem qtr1 {x : Value} {o : Nat} {y : AV} : (AV.v x).keep o y = y.pub := rfl
@[simp] theorem qte1 {l : List AV} {o : Nat} {y : AV} : (AV.sl l).keep o y = y.pub := rfl
@[simp] theorem qtd1 {r : Nat} {l : List AV} {o : Nat} {y : AV} : (AV.gs r l).keep o y = y.pub := rfl
@[simp] theorem qrh1 {r n : Nat} {o : Nat} {y : AV} : (AV.own r n).keep o y = y.pub := rfl
@[simp] theorem qtc1 {r : Nat} {l : List AV} {o : Nat} {y : AV} : (AV.fn r l).keep o y = y.pub := rfl
@[simp] theorem qrg1 {o : Nat} {y : AV} : AV.any.keep o y = y.pub := rfl
@[simp] theorem qre1 : keep1 (.v (.slice none 0 0)) (.v (.slice none 0 0)) = .v (.slice none 0 0) := rfl
theorem qlx {c y : AV} (h1 : y ≠ .v (.slice none 0 0)) (h2 : ∀ r l, y ≠ .gs r l) : keep1 c y = y.pub := by
 unfold keep1; split
 .exact absurd rfl h1
 .exact absurd rfl (h2 _ _)
 .rfl
@[simp] theorem qrd1 {c : AV} {k : IntKind} {n : Int} : keep1 c (.v (.int k n)) = .v (.int k n) := qlx (by simp) (by simp)
@[simp] theorem qrf1 {c : AV} {b : ByteArray} : keep1 c (.v (.string b)) = .v (.string b) := qlx (by simp) (by simp)
@[simp] theorem qtb1 {c : AV} {l : List AV} : keep1 c (.sl l) = .sl l := by rw [qlx (by simp) (by simp), AV.pub]
@[simp] theorem qnh1 {l0 : List AV} : keep1 (.sl l0) (.v (.slice none 0 0)) = .sl [] := by rw [keep1] <;> first | rfl | simp
@[simp] theorem qta1 {r r' : Nat} {l l0 : List AV} : keep1 (.gs r l0) (.gs r' l) = if r' = r then .gs r' l else .sl l := rfl
@[simp] theorem AV.pub_v : (AV.v x).pub = pubV x := by rw [AV.pub]
@[simp] theorem AV.pub_sl : (AV.sl l).pub = .sl l := by rw [AV.pub]
@[simp] theorem AV.pub_gs : (AV.gs r l).pub = .sl l := by rw [AV.pub]
@[simp] theorem AV.pub_agg : (AV.agg l).pub = .agg (AV.pubs l) := by rw [AV.pub]
@[simp] theorem AV.pub_ptr : (AV.ptr r off).pub = .ptr r off := by rw [AV.pub]
@[simp] theorem AV.pub_own : (AV.own r n).pub = .own r n := by rw [AV.pub]
@[simp] theorem AV.pub_fn : (AV.fn f l).pub = .fn f l := by rw [AV.pub]
@[simp] theorem AV.pub_bm : (AV.bm f l).pub = .bm f l := by rw [AV.pub]
@[simp] theorem AV.pubs_nil : AV.pubs [] = [] := by rw [AV.pubs]
@[simp] theorem AV.pubs_cons : AV.pubs (y :: l) = y.pub :: AV.pubs l := by rw [AV.pubs]
@[simp] theorem AV.cl_gs : (AV.gs r l).cl m ↔ r < m /\ AV.cls m l := by rw [AV.cl]
@[simp] theorem AB.cl_tail : (AB.tail k off n).cl m := trivial
@[simp] theorem AV.at_ptr : (AV.ptr r off).at k = .ptr r (off + k) := rfl
@[simp] theorem AV.at_ep : (AV.ep y off).at k = .ep y (off + k) := rfl
@[simp] theorem AV.at_eo : (AV.eo r n i off).at k = .eo r n i (off + k) := rfl
@[simp] theorem qti1 : rdAt σ ag sz (.ptr r off) = (match σ r with | .cells cs _ => qdt ag sz cs off | _ => none) := rfl
@[simp] theorem qth1 : rdAt σ ag sz (.ep (.agg l) off) = qdt ag sz l off := rfl
@[simp] theorem rdAt_v : rdAt σ ag sz (.ep (.v x) off) = if x.oneCell' = true /\ off = 0 /\ ag = false then some (.v x) else none := rfl
@[simp] theorem qtt1 : rdAt σ ag sz (.ep (.sl l) off) = if true = true /\ off = 0 /\ ag = false then some (.sl l) else none := rfl
@[simp] theorem qts1 : rdAt σ ag sz (.eo r m k off) = (match σ r with
  | .vec l _ _ => if m = l.length then (match l[k]? with
   | some (.agg cs) => qdt ag sz cs off
   | some x => if x.one = true /\ off = 0 /\ ag = false then some x else none
   | none => none) else none
  | _ => none) := rfl
@[simp] theorem qpo1 : qib σ (.ptr r off) ↔ True := Iff.rfl
@[simp] theorem qqm1 : qib σ (.ep y off) ↔ True := Iff.rfl
@[simp] theorem qql1 : qib σ (.eo r n k off) ↔ ∃ l e s, σ r = .vec l e s /\ n = l.length := Iff.rfl
@[simp] theorem AV.cl_v : (AV.v x).cl m := by rw [AV.cl]; trivial
@[simp] theorem AV.cl_sl : (AV.sl l).cl m ↔ AV.cls m l := by rw [AV.cl]
@[simp] theorem AV.cl_agg : (AV.agg l).cl m ↔ AV.cls m l := by rw [AV.cl]
@[simp] theorem AV.cl_tup : (AV.tup l).cl m ↔ AV.cls m l := by rw [AV.cl]
@[simp] theorem AV.cl_ptr : (AV.ptr r off).cl m ↔ r < m := by rw [AV.cl]
@[simp] theorem AV.cl_own : (AV.own r n).cl m ↔ r < m := by rw [AV.cl]
@[simp] theorem AV.cl_fn : (AV.fn f l).cl m ↔ AV.cls m l := by rw [AV.cl]
@[simp] theorem AV.cl_bm : (AV.bm f l).cl m ↔ AV.cls m l := by rw [AV.cl]
@[simp] theorem AV.fits_v : (AV.v x).fits := by rw [AV.fits]; trivial
@[simp] theorem AV.fits_sl : (AV.sl l).fits ↔ l.length <= 9223372036854775807 /\ AV.fitss l := by rw [AV.fits]
@[simp] theorem AV.fits_agg : (AV.agg l).fits ↔ AV.fitss l := by rw [AV.fits]
@[simp] theorem AV.fits_fn : (AV.fn f l).fits ↔ AV.fitss l := by rw [AV.fits]
@[simp] theorem AV.fitss_nil : AV.fitss [] := by rw [AV.fitss]; trivial
@[simp] theorem AV.fitss_cons : AV.fitss (y :: l) ↔ y.fits /\ AV.fitss l := by rw [AV.fitss]
@[simp] theorem AV.cls_nil : AV.cls m [] := by rw [AV.cls]; trivial
@[simp] theorem AV.cls_cons : AV.cls m (y :: l) ↔ y.cl m /\ AV.cls m l := by rw [AV.cls]
@[simp] theorem AB.cl_cells : (AB.cells l k).cl m ↔ AV.cls m l := Iff.rfl
@[simp] theorem AB.cl_vec : (AB.vec l k n).cl m ↔ AV.cls m l := Iff.rfl
@[simp] theorem AB.cl_dead : AB.dead.cl m := trivial
@[simp] theorem AB.cl_susp {b : Nat} {o : Obj} {t : Nat -> AV} {a : Array Value} : (AB.susp b o t a).cl m ↔ ∀ d, (t d).cl m := Iff.rfl
end
theorem qhh1 {α : Type} (f : Nat -> α) (k : Nat) (x : α) (j : Nat) : upd f k x j = if j = k then x else f j := rfl
@[simp] theorem put_mk (n : Nat) (t : Nat -> AV) (σ : Nat -> AB) (n0 : Nat) (L : List AB) (d : Nat) (x : AV) : (AS.mk n t σ n0 L).put (some d) x = ⟨n, upd t d x, σ, n0, L⟩ := rfl
@[simp] theorem qtg1 (s : AS) (x : AV) : s.put none x = s := rfl
@[simp] theorem qpt1 (k n : Nat) : dstOk (some k) n ↔ k < n := by simp [dstOk]
@[simp] theorem qps1 (n : Nat) : dstOk none n ↔ True := by simp [dstOk]
@[simp] theorem qsz1 (s : AS) (d : Nat) : s.eval (.tmp d) = s.t d := rfl
@[simp] theorem qpu1 (s : AS) (v : Value) : s.eval (.const v) = .v v := rfl
@[simp] theorem qqt1 (s : AS) (f : Nat) : s.eval (.func f) = .fn f [] := rfl
@[simp] theorem qmp1 (s : AS) (g : Nat) : s.eval (.global g) = .v (.pointer (some ⟨g, 0, none⟩)) := rfl
@[simp] theorem st_mk (n : Nat) (t : Nat -> AV) (σ : Nat -> AB) (n0 : Nat) (L : List AB) : (AS.mk n t σ n0 L).st = loc σ n0 L := rfl
@[simp] theorem nx_mk (n : Nat) (t : Nat -> AV) (σ : Nat -> AB) (n0 : Nat) (L : List AB) : (AS.mk n t σ n0 L).nx = n0 + L.length := rfl
@[simp] theorem qee1 (σ : Nat -> AB) (n0 i : Nat) (L : List AB) : loc σ n0 L (n0 + i) = L.getD i .unborn := by
 unfold loc; rw [if_neg (by omega), Nat.add_sub_cancel_left]
@[simp] theorem qtf1 (σ : Nat -> AB) (n0 : Nat) (L : List AB) : loc σ n0 L n0 = L.getD 0 .unborn := qee1 σ n0 0 L
theorem qcf (σ : Nat -> AB) (n0 r : Nat) (L : List AB) (h : r < n0) : loc σ n0 L r = σ r := by unfold loc; rw [if_pos h]
@[simp] theorem qoy1 (n : Nat) (t : Nat -> AV) (σ : Nat -> AB) (n0 i : Nat) (L : List AB) (ab : AB) : (AS.mk n t σ n0 L).set (n0 + i) ab = ⟨n, t, σ, n0, L.set i ab⟩ := by
 unfold AS.set; dsimp only; rw [if_neg (by omega), Nat.add_sub_cancel_left]
@[simp] theorem qtj1 (n : Nat) (t : Nat -> AV) (σ : Nat -> AB) (n0 : Nat) (L : List AB) (ab : AB) : (AS.mk n t σ n0 L).set n0 ab = ⟨n, t, σ, n0, L.set 0 ab⟩ := qoy1 n t σ n0 0 L ab
theorem qc {n : Int} (h1 : -9223372036854775808 <= n) (h2 : n <= 9223372036854775807) : IntKind.i64.wrap n = n := IntWalk.i64_in _ ⟨h1, h2⟩
def ACond (P : Program) (x y : Code) (Q : Exit -> AS -> Prop) (s : AS) : AV -> Prop
 | .v (.bool t) => qbm t (awp P x Q s) (awp P y Q s)
 | _ => False
theorem qt {P : Program} {s : AS} {c : Operand} {x y : Code} {Q : Exit -> AS -> Prop} (h : ACond P x y Q s (s.eval c)) : awp P (.cond c x y) Q s := by
 unfold ACond at h
 split at h
 .exact qqp1 _ ‹_› h.1 h.2
 .exact h.elim
instance {P : Program} {s : AS} {c : Operand} {x y : Code} {Q : Exit -> AS -> Prop} : Stp (awp P (.cond c x y) Q s) (ACond P x y Q s (s.eval c)) := ⟨qt⟩
instance {P : Program} {s : AS} {id : Nat} {Q : Exit -> AS -> Prop} : Stp (awp P (.exit id) Q s) (Q (.exit id) s) := ⟨qba⟩
instance {P : Program} {s : AS} {Q : Exit -> AS -> Prop} : Stp (awp P .skip Q s) (Q .normal s) := ⟨qbb⟩
instance {P : Program} {s : AS} {Q : Exit -> AS -> Prop} : Stp (awp P .ret Q s) (Q .ret s) := ⟨qbl⟩
@[simp] theorem qpn1 (P : Program) (x y : Code) (Q : Exit -> AS -> Prop) (s : AS) (t : Bool) : ACond P x y Q s (.v (.bool t)) ↔ qbm t (awp P x Q s) (awp P y Q s) := Iff.rfl
mutual
theorem AV.cl_mono {m k : Nat} (h : m <= k) : ∀ x : AV, x.cl m -> x.cl k
 | .v _, _ => by rw [AV.cl]; trivial
 | .sl l, hx => by rw [AV.cl] at hx ⊢; exact AV.cls_mono h l hx
 | .agg l, hx => by rw [AV.cl] at hx ⊢; exact AV.cls_mono h l hx
 | .tup l, hx => by rw [AV.cl] at hx ⊢; exact AV.cls_mono h l hx
 | .ptr r _, hx => by rw [AV.cl] at hx ⊢; omega
 | .own r _, hx => by rw [AV.cl] at hx ⊢; omega
 | .gs r l, hx => by rw [AV.cl] at hx ⊢; exact ⟨by omega, AV.cls_mono h l hx.2⟩
 | .ep x _, hx => by rw [AV.cl] at hx ⊢; exact AV.cl_mono h x hx
 | .eo r _ _ _, hx => by rw [AV.cl] at hx ⊢; omega
 | .fn _ caps, hx => by rw [AV.cl] at hx ⊢; exact AV.cls_mono h caps hx
 | .bm _ caps, hx => by rw [AV.cl] at hx ⊢; exact AV.cls_mono h caps hx
 | .es, _ => by rw [AV.cl]; trivial
 | .sub r _ _ _ _, hx => by rw [AV.cl] at hx ⊢; omega
 | .any, _ => by rw [AV.cl]; trivial
theorem AV.cls_mono {m k : Nat} (h : m <= k) : ∀ l : List AV, AV.cls m l -> AV.cls k l
 | [], _ => by rw [AV.cls]; trivial
 | x :: l, hx => by rw [AV.cls] at hx ⊢; exact ⟨AV.cl_mono h x hx.1, AV.cls_mono h l hx.2⟩
end
theorem AB.cl_mono {m k : Nat} (h : m <= k) {b : AB} (hb : b.cl m) : b.cl k := by
 cases b with
 | cells cs t => exact AV.cls_mono h cs hb
 | vec l e s => exact AV.cls_mono h l hb
 | tail n e s => trivial
 | obj I => trivial
 | buf cs e => trivial
 | susp b o t a => exact fun d => AV.cl_mono h _ (hb d)
 | dead => trivial
 | unborn => trivial
def regs : List (Nat × AV) -> Nat -> AV
 | [] => fun _ => .any
 | (k, x) :: l => upd (regs l) k x
def tls (m : Nat) (t : Nat -> AV) : List (Nat × AV) -> Prop
 | [] => True
 | (k, x) :: l => t k = x /\ x.cl m /\ tls m t l
theorem qra {m : Nat} {t : Nat -> AV} : ∀ {l : List (Nat × AV)}, tls m t l -> ∀ d, regs l d = .any \/ (regs l d = t d /\ (t d).cl m)
 | [], _, _ => .inl rfl
 | (k, x) :: l, h, d => by
  obtain ⟨h1, h2, h3⟩ := h
  show (upd (regs l) k x d = .any) \/ (upd (regs l) k x d = t d /\ _)
  unfold upd
  by_cases hd : d = k
  .subst hd; rw [if_pos rfl]; exact .inr ⟨h1.symm, by rw [h1]; exact h2⟩
  .rw [if_neg hd]; exact qra h3 d
def cbs (m : Nat) : List AB -> Prop
 | [] => True
 | b :: l => b.cl m /\ cbs m l
theorem qpr {m : Nat} : ∀ {l : List AB}, cbs m l -> ∀ i, (l.getD i .unborn).cl m
 | [], _, i => by simp [AB.cl]
 | b :: l, h, i => by
  cases i with
  | zero => exact h.1
  | succ i => simpa using qpr h.2 i
def leC (n0 : Nat) (t : Nat -> AV) (L : List AB) (R : List (Nat × AV)) (L' : List AB) : Prop := L.take L'.length = L' /\ cbs (n0 + L'.length) L' /\ tls (n0 + L'.length) t R
theorem qli1 {n n0 : Nat} {σ : Nat -> AB} {t : Nat -> AV} {L L' : List AB} {R : List (Nat × AV)} (hσ : ∀ r, (σ r).cl n0) (h : leC n0 t L R L') : AS.le ⟨n, t, σ, n0, L⟩ ⟨n, regs R, σ, n0, L'⟩ := by
 obtain ⟨h1, h2, h3⟩ := h
 have hlen : L'.length <= L.length := by
  have := congrArg List.length h1
  simp at this; omega
 refine ⟨rfl, rfl, hlen, fun r hr => ?_, qra h3⟩
 have hr' : r < n0 + L'.length := hr
 show loc σ n0 L' r = loc σ n0 L r /\ (loc σ n0 L r).cl (n0 + L'.length)
 unfold loc
 split
 .exact ⟨rfl, AB.cl_mono (by omega) (hσ r)⟩
 .have : L.getD (r - n0) .unborn = L'.getD (r - n0) .unborn := by
   rw [<- h1, List.getD_eq_getElem?_getD, List.getD_eq_getElem?_getD, List.getElem?_take_of_lt (by omega)]
  rw [this]; exact ⟨rfl, qpr h2 _⟩
theorem qk {P : Program} {Q : Exit -> AS -> Prop} {n n0 : Nat} {t : Nat -> AV} {σ : Nat -> AB} {L : List AB} {β : Type} {c : Code} (hσ : ∀ r, (σ r).cl n0) (R : β -> List (Nat × AV)) (B : β -> List AB) (C : β -> Prop) (m : β -> Nat) (b0 : β)
  (h0 : C b0) (hs : leC n0 t L (R b0) (B b0))
  (round : ∀ b, C b -> awp P c (AThen (fun s' => s'.n = n /\ s'.n0 = n0 /\ s'.σ = σ /\ ∃ b', C b' /\ m b' < m b /\ leC n0 s'.t s'.L (R b') (B b')) Q) ⟨n, regs (R b), σ, n0, B b⟩) : awp P (.loop c) Q ⟨n, t, σ, n0, L⟩ := by
 refine qwy (fun b => ⟨n, regs (R b), σ, n0, B b⟩) C m b0 h0 (qli1 hσ hs) fun b hb => qfg (round b hb) fun e s' h => ?_
 cases e with
 | normal =>
  obtain ⟨rfl, rfl, rfl, b', h1, h2, h3⟩ := h
  exact ⟨b', h1, h2, qli1 hσ h3⟩
 | exit id => exact h
 | goto l => exact h
 | ret => exact h
 | panic c => exact h
 | outgrown => exact h
def leS (n0 : Nat) (σ : Nat -> AB) (t : Nat -> AV) (L : List AB) (σ' : Nat -> AB) (R : List (Nat × AV)) (L' : List AB) : Prop := (∀ r, r < n0 -> σ' r = σ r) /\ leC n0 t L R L'
theorem qlj1 {n n0 : Nat} {σ σ' : Nat -> AB} {t : Nat -> AV} {L L' : List AB} {R : List (Nat × AV)} (hσ : ∀ r, (σ r).cl n0) (h : leS n0 σ t L σ' R L') : AS.le ⟨n, t, σ, n0, L⟩ ⟨n, regs R, σ', n0, L'⟩ := by
 obtain ⟨h0, h1, h2, h3⟩ := h
 have hlen : L'.length <= L.length := by
  have := congrArg List.length h1
  simp at this; omega
 refine ⟨rfl, rfl, hlen, fun r hr => ?_, qra h3⟩
 have hr' : r < n0 + L'.length := hr
 show loc σ' n0 L' r = loc σ n0 L r /\ (loc σ n0 L r).cl (n0 + L'.length)
 unfold loc
 split
 .exact ⟨h0 r ‹_›, AB.cl_mono (by omega) (hσ r)⟩
 .have : L.getD (r - n0) .unborn = L'.getD (r - n0) .unborn := by
   rw [<- h1, List.getD_eq_getElem?_getD, List.getD_eq_getElem?_getD, List.getElem?_take_of_lt (by omega)]
  rw [this]; exact ⟨rfl, qpr h2 _⟩
theorem qbx {P : Program} {Q : Exit -> AS -> Prop} {n n0 : Nat} {t : Nat -> AV} {σ : Nat -> AB} {L : List AB} {β : Type} {c : Code} (S : β -> Nat -> AB) (R : β -> List (Nat × AV)) (B : β -> List AB) (C : β -> Prop) (m : β -> Nat) (b0 : β)
  (hσ : ∀ b, C b -> ∀ r, (S b r).cl n0) (h0 : C b0) (hs : leS n0 σ t L (S b0) (R b0) (B b0)) (hσ0 : ∀ r, (σ r).cl n0)
  (round : ∀ b, C b -> awp P c (AThen (fun s' => s'.n = n /\ s'.n0 = n0 /\ (∀ r, (s'.σ r).cl n0) /\ ∃ b', C b' /\ m b' < m b /\ leS n0 s'.σ s'.t s'.L (S b') (R b') (B b')) Q) ⟨n, regs (R b), S b, n0, B b⟩) : awp P (.loop c) Q ⟨n, t, σ, n0, L⟩ := by
 refine qwy (fun b => ⟨n, regs (R b), S b, n0, B b⟩) C m b0 h0 (qlj1 hσ0 hs) fun b hb => qfg (round b hb) fun e s' h => ?_
 cases e with
 | normal =>
  obtain ⟨rfl, rfl, h4, b', h1, h2, h3⟩ := h
  exact ⟨b', h1, h2, qlj1 h4 h3⟩
 | exit id => exact h
 | goto l => exact h
 | ret => exact h
 | panic c => exact h
 | outgrown => exact h
theorem qbz {σ : Nat -> AB} {n0 r : Nat} {ab : AB} (h : ∀ r, (σ r).cl n0) (hb : ab.cl n0) : ∀ k, (upd σ r ab k).cl n0 := fun k => by
 unfold upd; split
 .exact hb
 .exact h k
@[simp] theorem qsj1 (n : Nat) (t : Nat -> AV) (σ : Nat -> AB) (n0 r : Nat) (L : List AB) (ab : AB) (h : r < n0) : (AS.mk n t σ n0 L).set r ab = ⟨n, t, upd σ r ab, n0, L⟩ := by
 unfold AS.set; rw [if_pos h]
@[simp] theorem quh1 {α : Type} (f : Nat -> α) (k : Nat) (x y : α) : upd (upd f k x) k y = upd f k y := by
 funext j; unfold upd; split <;> rfl
attribute [simp] qdf qhh1 regs tls cbs leC
end Go.Proofs.YtkedbjjfmejbhaaGreatDoor
