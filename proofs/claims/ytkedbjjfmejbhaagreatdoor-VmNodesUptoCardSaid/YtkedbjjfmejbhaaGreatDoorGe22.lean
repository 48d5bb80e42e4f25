/- Calls that hand on growing slices, and give one back: a slice that the caller had begun is made longer. -/
import Derived.Laws.CopyRow
import Derived.Laws.Externs
import Derived.Test.YtkedbjjfmejbhaaGreatDoorGe1
import Derived.Test.YtkedbjjfmejbhaaGreatDoorGe2
import Derived.Test.YtkedbjjfmejbhaaGreatDoorGe14
import Derived.Test.YtkedbjjfmejbhaaGreatDoorGe17
import Derived.Test.YtkedbjjfmejbhaaGreatDoorGe18
import Derived.Test.YtkedbjjfmejbhaaGreatDoorGe20
import Derived.Test.YtkedbjjfmejbhaaGreatDoorGe21
set_option linter.unusedSimpArgs false
set_option linter.unusedVariables false
namespace Go.Proofs.YtkedbjjfmejbhaaGreatDoor
open Go.RowKit Go.Lib
section
variable {P : Program} {s : AS}
def aresR (s : AS) (rs : List ResultVar) (x : AV) : Prop := ∃ d, rs = [.tmp d] /\ s.t d = x /\ ∀ l, x ≠ .tup l
theorem qtw {X0 X : St} {a : Act} {w : World} (hc : Con X0 s a w X) {fn : Func} {rs : List ResultVar} (hr : fn.results = rs.toArray) {x : AV} (h : aresR s rs x) : ∃ v, (results fn a.tmps).run P X.w = .ok v X.w /\ RR X x v := by
 obtain ⟨d, rfl, rfl, -⟩ := h
 exact ⟨a.tmps.getD d undef, by simp [qdz, hr, resV], hc.regs d⟩
theorem qzj {f : FuncId} {fn : Func} {c : Code} {rs : List ResultVar} {args : List AV} {σ : Nat -> AB} {Q : AV -> (Nat -> AB) -> Prop} (hf : P.funcs[f]? = some fn) (hb : fn.body = some c) (hr : fn.results = rs.toArray) (hlen : rs.length <= 4) (ha : args.length <= fn.ntmps)
  (h : ∀ n0, Fin σ n0 -> (∀ r, (σ r).cl n0) -> AV.fitss args -> awp P c (fun e s' => (e = .normal \/ e = .ret) /\ s'.n0 = n0 /\ ∃ x, aresR s' rs x /\ x.cl n0 /\ (∀ r, r < n0 -> (s'.σ r).cl n0) /\ Q x (cut n0 s'.σ)) { n := fn.ntmps, t := qdf args 0, σ := σ, n0 := n0, L := [] }) : AC P f args σ Q := by
 intro X vals n0 hS hσ hfin hargs
 subst hσ
 have hl : vals.length = args.length := by
  have : ∀ (l : List AV) (vs : List Value), RRl X l vs -> vs.length = l.length := fun l => by
   induction l with
   | nil => intro vs h; have : vs = [] := h; subst this; rfl
   | cons x l ih => intro vs h; obtain ⟨v, vs', rfl, -, h2⟩ := h; simp [ih _ h2]
  exact this _ _ hargs
 refine calls_of_wp hf hb (wp_mono (CwpA.plain (h n0 hfin (fun r => (hS.block r).cl hfin) hargs.fits X { tmps := vals.toArray ++ Array.replicate (fn.ntmps - vals.toArray.size) undef, defers := [] } X.w ⟨X, rfl, ?_, hS, Fr.refl X, ?_, fun d => ?_, rfl, hfin⟩)) ?_)
 .funext r
  show X.σ r = loc X.σ n0 [] r
  unfold loc
  split
  .rfl
  .rw [hfin r (by omega)]; rfl
 .show (vals.toArray ++ Array.replicate _ undef).size = fn.ntmps
  rw [Array.size_append, Array.size_replicate, List.size_toArray]; omega
 .have := qgx args vals [] (fn.ntmps - vals.toArray.size) hargs d (by simp)
  simpa using this
 .rintro e a' w' ⟨s', ⟨he, hn0, x, hx, hcl, hcσ, hQ⟩, ⟨X', hc⟩, hdf⟩
  have hw := hc.w
  subst hw
  obtain ⟨v, hv, hR⟩ := qtw hc hr hx
  have hst : ∀ r, r < n0 -> X'.σ r = s'.σ r := fun r hr => by
   rw [hc.σ]
   show loc s'.σ s'.n0 s'.L r = _
   unfold loc
   rw [hn0, if_pos hr]
  have hres : ∃ Y v' x', Ending.returned v = .returned v' /\ Y.w = X'.w /\ Q x' Y.σ /\ SR Y /\ Fr X Y /\ RR Y x' v' := by
   refine ⟨X'.cut n0, v, x, rfl, rfl, ?_, hc.sr.cut fun r hr => by rw [hst r hr]; exact hcσ r hr, hc.fr.cut (fun r hr => hfin r hr), hR.cut hcl⟩
   have : (X'.cut n0).σ = Proofs.YtkedbjjfmejbhaaGreatDoor.cut n0 s'.σ := by
    funext r
    show Proofs.YtkedbjjfmejbhaaGreatDoor.cut n0 X'.σ r = _
    unfold Proofs.YtkedbjjfmejbhaaGreatDoor.cut
    split
    .exact hst r ‹_›
    .rfl
   rw [this]; exact hQ
  rcases he with rfl | rfl
  .exact ⟨hdf, v, hv, hres⟩
  .exact ⟨hdf, v, hv, hres⟩
theorem qzh {f : FuncId} {fn : Func} {c : Code} {rs : List ResultVar} {args : List AV} {x : AV} {N : Nat} {σ σ' : Nat -> AB} (hf : P.funcs[f]? = some fn) (hN : fn.ntmps = N) (hb : fn.body = some c) (hr : fn.results = rs.toArray) (hlen : rs.length <= 4) (ha : Nat.ble args.length N = true)
  (h : ∀ n0, Fin σ n0 -> (∀ r, (σ r).cl n0) -> AV.fitss args -> x.cl n0 /\ Fin σ' n0 /\ (∀ r, (σ' r).cl n0) /\ awp P c (fun e s' => (e = .normal \/ e = .ret) /\ s'.n0 = n0 /\ s'.σ = σ' /\ aresR s' rs x) { n := N, t := qdf args 0, σ := σ, n0 := n0, L := [] }) : AC P f args σ fun y τ => y = x /\ τ = σ' := by
 subst hN
 refine qzj hf hb hr hlen (Nat.le_of_ble_eq_true ha) fun n0 hfin hcl hft => ?_
 obtain ⟨hx, g1, g2, g3⟩ := h n0 hfin hcl hft
 refine qfg g3 fun e s' ⟨h1, h2, h3, h4⟩ => ⟨h1, h2, x, h4, hx, fun k _ => by rw [h3]; exact g2 k, rfl, ?_⟩
 funext k
 unfold Proofs.YtkedbjjfmejbhaaGreatDoor.cut
 rw [h3]
 split
 .rfl
 .exact (g1 k (by omega)).symm
def qos1 (P : Program) (ops : Array Oper) (s : AS) (o : Oper) (K : AS -> Prop) : Prop :=
 match o.op with
 | .call { callee := .value (.func f), args := ⟨args⟩, .. } => awant ops o s.t = some true /\ nts (args.map s.eval) = true /\ enters P f = true /\ ACall P f (args.map s.eval) s fun x s1 => dstOk o.dst s1.n /\ K (s1.put o.dst x)
 | _ => False
attribute [simp] qos1
end
theorem Sub.buf {σ τ : Nat -> AB} (h : Sub σ τ) {r : Nat} {cs : List Value} {e : TypeId} (hr : σ r = .buf cs e) (hu : τ r ≠ .unborn) : τ r = .buf cs e := by
 rcases h r (by rw [hr]; simp) with h | h
 .rw [h, hr]
 .exact absurd h hu
section
variable {P : Program} {ev : Operand -> AV} {σ : Nat -> AB}
end
def rawC : AV -> List Value
 | .v x => [x]
 | .agg l => l.flatMap fun | .v x => [x] | _ => []
 | _ => []
def rawOk : AV -> Bool
 | .v x => x.oneCell'
 | .agg l => l.all fun | .v x => x.oneCell' | _ => false
 | _ => false
def rawsL (l : List AV) : List Value := l.flatMap rawC
def OneC (l : List Value) : Prop := ∀ u ∈ l, u.oneCell' = true
section
variable {P : Program} {s : AS}
end
section
variable {P : Program} {s : AS}
end
def OvlF (P : Program) (f : FuncId) : Prop := ∃ fn tS tR e size, P.funcs[f]? = some fn /\ (fn.name == "runtime.NumGoroutine") = false /\ fn.body.isNone = true /\ Extern.findNext fn = none /\ Extern.find fn = some (Extern.SlicesOverlaps.overlaps #[tS, tS] #[tR]) /\ P.underlying tS = some (.slice e) /\ ∀ w, (Go.sizeOf e).run P w = .ok size w
section
variable {P : Program} {s : AS}
end

def SrcK (s : AS) (sz : Nat) (y : AV) (K : List Value -> Nat -> Prop) : Prop :=
 match y with
 | .sl l => l.all rawOk = true /\ AV.wid l sz /\ K (rawsL l) l.length
 | .own r n => match s.st r with
  | .vec l _ sz' => sz' = sz /\ n = l.length /\ l.all rawOk = true /\ AV.wid l sz /\ K (rawsL l) n
  | _ => False
 | .sub r a n c sz' => match s.st r with
  | .buf bs _ => sz' = sz /\ n <= c /\ (a + n) * sz <= bs.length /\ K ((bs.drop (a * sz)).take (n * sz)) n
  | _ => False
 | _ => False
def aevU (P : Program) (s : AS) (o : Op) (K : AV -> AS -> Prop) : Prop :=
 match o with
 | .slice t x lo hi none => match s.eval x with
  | .sub r a n c sz => match s.st r with
   | .buf _ _ => match einfo P t with
    | some e => match tinfo P e with
     | some (_, sz') => sz' = sz /\ (match bndv s.eval lo 0, bndv s.eval hi n with
      | some l, some h => l <= h /\ h <= c /\ K (.sub r (a + l) (h - l) (c - l) sz) s
      | _, _ => False)
     | none => False
    | none => False
   | _ => False
  | _ => aev P s (.slice t x lo hi none) K
 | .slice t x (some o1) (some o2) (some o3) => match s.eval x with
  | .sub r a n c sz => match s.st r with
   | .buf _ _ => match einfo P t with
    | some e => match tinfo P e with
     | some (_, sz') => sz' = sz /\ (match bndv s.eval (some o1) 0, bndv s.eval (some o2) n, bndv s.eval (some o3) 0 with
      | some l, some h, some m => l <= h /\ h <= m /\ m <= c /\ K (.sub r (a + l) (h - l) (m - l) sz) s
      | _, _, _ => False)
     | none => False
    | none => False
   | _ => False
  | _ => aev P s (.slice t x (some o1) (some o2) (some o3)) K
 | .call { callee := .builtin .len, args := ⟨[x]⟩, argTypes := ⟨[t]⟩ } => match s.eval x with
  | .sub r _ n _ _ => match s.st r with
   | .buf _ _ => match einfo P t with
    | some _ => K (.v (.int .i64 n)) s
    | none => False
   | _ => False
  | _ => aev P s (.call { callee := .builtin .len, args := ⟨[x]⟩, argTypes := ⟨[t]⟩ }) K
 | .call { callee := .builtin .cap, args := ⟨[x]⟩, argTypes := ⟨[t]⟩ } => match s.eval x with
  | .sub r _ _ c _ => match s.st r with
   | .buf _ _ => match einfo P t with
    | some _ => K (.v (.int .i64 c)) s
    | none => False
   | _ => False
  | _ => aev P s (.call { callee := .builtin .cap, args := ⟨[x]⟩, argTypes := ⟨[t]⟩ }) K
 | .call { callee := .builtin .append, args := ⟨[x, y]⟩, argTypes := ⟨[t, t']⟩ } => match s.eval x with
  | .sub r a n c sz => match s.st r with
   | .buf cs e => match s.eval y with
    | .v (.int .i64 m) => a = 0 /\ P.underlying t' = some (.int .i64) /\ 0 < m /\ (match vinfo P t with
     | some (e', sz', by_) => e' = e /\ sz' = sz /\ n <= c /\ cs.length = c * sz /\ 0 < c /\ (n + m.toNat) * by_ <= 140737488355328 /\ c < n + m.toNat /\
      ∀ c' (zs : List Value), n + m.toNat <= c' -> c' <= 9223372036854775807 -> zs.length = (c' - n) * sz -> K (.sub s.nx 0 (n + m.toNat) c' sz) (s.ext (some (.buf (cs.take (n * sz) ++ zs) e)))
     | none => False)
    | _ => t' = t /\ a = 0 /\ (match vinfo P t with
     | some (e', sz', by_) => e' = e /\ sz' = sz /\ SrcK s sz (s.eval y) fun news m => n <= c /\ cs.length = c * sz /\ 0 < c /\ (n + m) * by_ <= 140737488355328 /\ OneC news /\
      (n + m <= c -> K (.sub r 0 (n + m) c sz) (s.set r (.buf (cs.take (n * sz) ++ news ++ cs.drop ((n + m) * sz)) e))) /\
      (c < n + m -> ∀ c' (zs : List Value), n + m <= c' -> c' <= 9223372036854775807 -> zs.length = (c' - (n + m)) * sz -> K (.sub s.nx 0 (n + m) c' sz) (s.ext (some (.buf (cs.take (n * sz) ++ news ++ zs) e))))
     | none => False)
   | _ => False
  | _ => aev P s (.call { callee := .builtin .append, args := ⟨[x, y]⟩, argTypes := ⟨[t, t']⟩ }) K
 | .call { callee := .builtin .copy, args := ⟨[d, y]⟩, argTypes := ⟨[t, t']⟩ } => match s.eval d with
  | .sub r a n c sz => match s.st r with
   | .buf cs e => match vinfo P t with
    | some (e', sz', _) => e' = e /\ sz' = sz /\ SrcK s sz (s.eval y) fun news m => n <= c /\ (a + min m n) * sz <= cs.length /\ OneC (news.take (min m n * sz)) /\ K (.v (.int .i64 (min m n : Nat))) (s.set r (.buf (cs.take (a * sz) ++ news.take (min m n * sz) ++ cs.drop ((a + min m n) * sz)) e))
    | none => False
   | _ => False
  | _ => aev P s (.call { callee := .builtin .copy, args := ⟨[d, y]⟩, argTypes := ⟨[t, t']⟩ }) K
 | .call { callee := .builtin .clear, args := ⟨[x]⟩, argTypes := ⟨[t]⟩ } => match s.eval x with
  | .sub r a n c sz => match s.st r with
   | .buf cs e => match vinfo P t with
    | some (e', sz', _) => e' = e /\ sz' = sz /\ n <= c /\ (a + n) * sz <= cs.length /\ ∀ zs : List Value, zs.length = n * sz -> K (.tup []) (s.set r (.buf (cs.take (a * sz) ++ zs ++ cs.drop ((a + n) * sz)) e))
    | none => False
   | _ => False
  | _ => aev P s (.call { callee := .builtin .clear, args := ⟨[x]⟩, argTypes := ⟨[t]⟩ }) K
 | .call { callee := .value (.func f), args := ⟨[p, q]⟩, argTypes := tys } => match s.eval p, s.eval q with
  | .sub r _ n c _, .sl l => match s.st r with
   | .buf cs _ => OvlF P f /\ cs ≠ [] /\ (∀ z ∈ l, 0 < z.width) /\ n <= c /\ K (.v (.bool false)) s
   | _ => False
  | .sl l, .sub r _ n c _ => match s.st r with
   | .buf cs _ => OvlF P f /\ cs ≠ [] /\ (∀ z ∈ l, 0 < z.width) /\ n <= c /\ K (.v (.bool false)) s
   | _ => False
  | _, _ => aev P s (.call { callee := .value (.func f), args := ⟨[p, q]⟩, argTypes := tys }) K
 | o => aev P s o K
def aseqU (P : Program) (ops : Array Oper) (K : AS -> Prop) : List Oper -> AS -> Prop
 | [], s => K s
 | o :: l, s => match awant ops o s.t with
  | some b => qbm b (aevU P s o.op (fun x s1 => dstOk o.dst s1.n /\ aseqU P ops K l (s1.put o.dst x))) (dstOk o.dst s.n /\ aseqU P ops K l (s.put o.dst (.v undef)))
  | none => False
instance {P : Program} {ops : Array Oper} {K : AS -> Prop} {o : Oper} {l : List Oper} {s : AS} : Stp (aseqU P ops K (o :: l) s) (match awant ops o s.t with
  | some b => qbm b (aevU P s o.op (fun x s1 => dstOk o.dst s1.n /\ aseqU P ops K l (s1.put o.dst x))) (dstOk o.dst s.n /\ aseqU P ops K l (s.put o.dst (.v undef)))
  | none => False) := ⟨fun h => h⟩
instance {P : Program} {ops : Array Oper} {K : AS -> Prop} {s : AS} : Stp (aseqU P ops K [] s) (K s) := ⟨fun h => h⟩
instance {P : Program} {ops : Array Oper} {K : AS -> Prop} {l : List Oper} {s : AS} : Inhabited (Tag (aseqU P ops K l s)) := ⟨⟨⟩⟩
instance {β : Type} {p : β -> Prop} [∀ x, Inhabited (Tag (p x))] : Inhabited (Tag (∀ x, p x)) := ⟨⟨⟩⟩
instance {p q : Prop} [Inhabited (Tag q)] : Inhabited (Tag (p -> q)) := ⟨⟨⟩⟩
attribute [simp] aevU SrcK
def aevMU (P : Program) (s : AS) (o : Op) (K : AV -> Option AB -> Prop) : Prop :=
 match o with
 | .slice t x lo hi none => match s.eval x with
  | .sub r a n c sz => match s.st r with
   | .buf _ _ => match einfo P t with
    | some e => match tinfo P e with
     | some (_, sz') => sz' = sz /\ (match bndv s.eval lo 0, bndv s.eval hi n with
      | some l, some h => l <= h /\ h <= c /\ K (.sub r (a + l) (h - l) (c - l) sz) none
      | _, _ => False)
     | none => False
    | none => False
   | _ => False
  | _ => aevM P s (.slice t x lo hi none) K
 | .call { callee := .builtin .len, args := ⟨[x]⟩, argTypes := ⟨[t]⟩ } => match s.eval x with
  | .sub r _ n _ _ => match s.st r with
   | .buf _ _ => match einfo P t with
    | some _ => K (.v (.int .i64 n)) none
    | none => False
   | _ => False
  | _ => aevM P s (.call { callee := .builtin .len, args := ⟨[x]⟩, argTypes := ⟨[t]⟩ }) K
 | o => aevM P s o K
def aevWU (P : Program) (s : AS) (o : Op) (K : AV -> AS -> Prop) : Prop :=
 match o with
 | .call { callee := .builtin .append, args := ⟨[x, y]⟩, argTypes := ⟨[t, t']⟩ } => match s.eval x with
  | .sub r a n c sz => match s.st r with
   | .buf cs e => t' = t /\ a = 0 /\ (match vinfo P t with
    | some (e', sz', by_) => e' = e /\ sz' = sz /\ SrcK s sz (s.eval y) fun news m => n + m <= c /\ cs.length = c * sz /\ 0 < c /\ (n + m) * by_ <= 140737488355328 /\ OneC news /\
     K (.sub r 0 (n + m) c sz) (s.set r (.buf (cs.take (n * sz) ++ news ++ cs.drop ((n + m) * sz)) e))
    | none => False)
   | _ => False
  | _ => aevW P s (.call { callee := .builtin .append, args := ⟨[x, y]⟩, argTypes := ⟨[t, t']⟩ }) K
 | .call { callee := .builtin .copy, args := ⟨[d, y]⟩, argTypes := ⟨[t, t']⟩ } => match s.eval d with
  | .sub r a n c sz => match s.st r with
   | .buf cs e => match vinfo P t with
    | some (e', sz', _) => e' = e /\ sz' = sz /\ SrcK s sz (s.eval y) fun news m => n <= c /\ (a + min m n) * sz <= cs.length /\ OneC (news.take (min m n * sz)) /\ K (.v (.int .i64 (min m n : Nat))) (s.set r (.buf (cs.take (a * sz) ++ news.take (min m n * sz) ++ cs.drop ((a + min m n) * sz)) e))
    | none => False
   | _ => False
  | _ => aevW P s (.call { callee := .builtin .copy, args := ⟨[d, y]⟩, argTypes := ⟨[t, t']⟩ }) K
 | o => aevW P s o K
def anyD (P : Program) (ops : Array Oper) (K : AS -> Prop) : List Oper -> List RK -> AS -> Prop
 | [], _, s => K s
 | o :: l, ks, s => match awant ops o s.t with
  | some b => qbm b (match ks.headD .R with
   | .R => aevR P (s.blind []) o.op (fun x nb => nb = none /\ dstOk o.dst s.n /\ anyD P ops K l ks.tail (s.put o.dst x))
   | .M => aevMU P s o.op (fun x nb => nb = none /\ dstOk o.dst s.n /\ anyD P ops K l ks.tail (s.put o.dst x))
   | .W => aevWU P s o.op (fun x s1 => dstOk o.dst s.n /\ anyD P ops K l ks.tail (s1.put o.dst x))
   | _ => False) (dstOk o.dst s.n /\ anyD P ops K l ks.tail (s.put o.dst (.v undef)))
  | none => False
instance {P : Program} {ops : Array Oper} {K : AS -> Prop} {o : Oper} {l : List Oper} {ks : List RK} {s : AS} : Stp (anyD P ops K (o :: l) ks s) (match awant ops o s.t with
  | some b => qbm b (match ks.headD .R with
   | .R => aevR P (s.blind []) o.op (fun x nb => nb = none /\ dstOk o.dst s.n /\ anyD P ops K l ks.tail (s.put o.dst x))
   | .M => aevMU P s o.op (fun x nb => nb = none /\ dstOk o.dst s.n /\ anyD P ops K l ks.tail (s.put o.dst x))
   | .W => aevWU P s o.op (fun x s1 => dstOk o.dst s.n /\ anyD P ops K l ks.tail (s1.put o.dst x))
   | _ => False) (dstOk o.dst s.n /\ anyD P ops K l ks.tail (s.put o.dst (.v undef)))
  | none => False) := ⟨fun h => h⟩
instance {P : Program} {ops : Array Oper} {K : AS -> Prop} {ks : List RK} {s : AS} : Stp (anyD P ops K [] ks s) (K s) := ⟨fun h => h⟩
attribute [simp] aevMU aevWU
instance {P : Program} {ops : Array Oper} {K : AS -> Prop} {l : List Oper} {ks : List RK} {s : AS} : Inhabited (Tag (anyD P ops K l ks s)) := ⟨⟨⟩⟩
structure Hold (p : Prop) : Prop where
 out : p
theorem qbz1 {P : Program} {s : AS} {Q : Exit -> AS -> Prop} (h : Hold (awp P .ret Q s)) : awp P .ret Q s := h.out
theorem qic1 {P : Program} {s : AS} {id : Nat} {l : Array Oper} {d : Bool} {Q : Exit -> AS -> Prop} (h : Hold (awp P (.region id l d) Q s)) : awp P (.region id l d) Q s := h.out
end Go.Proofs.YtkedbjjfmejbhaaGreatDoor
namespace Go.Proofs.YtkedbjjfmejbhaaGreatDoor
open Go.RowKit Go.Lib Go.Sort
theorem isz_g (x : Delta) : Gives Tryz.prog 90 [x.av] (.bool (x.n == 0)) := by
 obtain ⟨t, r, n⟩ := x
 simp only
 refine qg Tryz.func90 Tryz.ntmps90 fun σ n0 hcl hft => ?_
 repeat' (first | (refine Stp.m ?_ <;> try simp (disch := first | omega | simp) [qc, -qe, -qi]) | refine qb fun K hK => ?_ | refine qa ?_ | (refine hK _ ?_; clear hK K))
theorem qds1 (d : Array Delta) (hn : d.size <= 1000000) (hz : ∀ k (h : k < d.size), d[k]!.n ≠ 0) {σ : Nat -> AB} {r : Nat} (hσ : σ r = vD d) :
  qbc Tryz.prog 143 [.own r d.size, .fn 90 []] σ (.int (-1)) := by
 refine qn Tryz.func143 Tryz.ntmps143 rfl rfl (by decide) rfl (by intro n; simp) fun n0 hfin hcl hft => ?_
 have hrn : r < n0 := qcu hfin hσ (by simp)
 have hl : ∀ (τ : Nat -> AB) (L : List AB), loc τ n0 L r = τ r := fun τ L => qcf τ n0 r L hrn
 obtain ⟨V, hV⟩ : ∃ V, V = d.toList.map Delta.av := ⟨_, rfl⟩
 have hvl : V.length = d.size := by rw [hV]; simp
 have hσ2 : σ r = .vec V 55 3 := by rw [hσ, hV]
 repeat' (first | (refine Stp.m ?_ <;> try simp (disch := first | omega | simp) [qc, -qe, -qi, hl, hrn, hσ2, hvl]) | refine qb fun K hK => ?_ | refine qa ?_ | refine qd ?_ | (refine hK _ ?_; clear hK K))
 refine qk hcl (fun k : Nat => [(0, .own r d.size), (1, .fn 90 []), (7, .int d.size), (8, .int k)]) (fun _ => [])
  (fun k => k <= d.size) (fun k => d.size - k) 0 (by omega) (by simp [hrn]) fun k hk => ?_
 by_cases hlt : k < d.size
 .obtain ⟨x, hx⟩ : ∃ x, x = d[k]! := ⟨_, rfl⟩
  have g1 := qeq d hlt hx
  have c1 := isz_g x
  have hz1 := hz k hlt
  rw [<- hx] at hz1
  have hzb : (x.n == 0) = false := by simpa using hz1
  rw [hzb] at c1
  have c1' : Gives Tryz.prog 90 [cD x] (.bool false) := c1
  clear c1
  simp only [<- hV, cD] at g1 c1'
  repeat' (first | ((first | refine Stp.m ?_ | refine qh ?_) <;> (try simp (disch := first | omega | simp) [qc, -qe, -qi, hl, hrn, hσ2, hvl, hlt, g1, -Delta.av_fold])) | refine qb fun K hK => ?_ | refine qa ?_ | refine qd ?_ | (refine hK _ ?_; clear hK K) | clear hK K)
  exact ⟨k + 1, by omega, by omega, by simp [hrn]⟩
 .obtain rfl : k = d.size := by omega
  repeat' (first | (refine Stp.m ?_ <;> try simp (disch := first | omega | simp) [qc, -qe, -qi, hlt]) | refine qb fun K hK => ?_ | refine qa ?_ | (refine hK _ ?_; clear hK K) | clear hK K)
theorem qcr1 (d : Array Delta) (hn : d.size <= 1000000) (hz : ∀ k (h : k < d.size), d[k]!.n ≠ 0) {σ : Nat -> AB} {r : Nat} (hσ : σ r = vD d) :
  AC Tryz.prog 89 [.own r d.size, .fn 90 []] σ fun y τ => y = .own r d.size /\ τ = σ := by
 refine qzh Tryz.func89 Tryz.ntmps89 rfl rfl (by decide) rfl fun n0 hfin hcl hft => ?_
 have hrn : r < n0 := qcu hfin hσ (by simp)
 refine ⟨by simpa using hrn, hfin, hcl, ?_⟩
 have hl : ∀ (τ : Nat -> AB) (L : List AB), loc τ n0 L r = τ r := fun τ L => qcf τ n0 r L hrn
 have c1 : ∀ τ : Nat -> AB, τ r = vD d -> qbc Tryz.prog 143 [.own r d.size, .fn 90 []] τ (.int (-1)) := fun τ hτ => qds1 d hn hz hτ
 repeat' (first | ((first | refine Stp.m ?_ | refine qbk (c1 _ (by simp [hl, hσ])) ?_) <;> (try simp (disch := first | omega | simp) [qc, -qe, -qi, hl, hrn])) | refine qb fun K hK => ?_ | refine qa ?_ | (refine hK _ ?_; clear hK K) | clear hK K)
 exact ⟨_, rfl, by simp, by simp⟩
theorem qhv1 (out : List Delta) (x : Delta) : (addD out x).length <= out.length + 1 := by
 rcases List.eq_nil_or_concat out with rfl | ⟨o, y, rfl⟩
 .simp [addD]
 .rw [List.concat_eq_append, qky]
  split <;> simp
theorem qlu : ∀ (l out : List Delta), (l.foldl addD out).length <= out.length + l.length
 | [], _ => by simp
 | x :: l, out => by
  have h1 := qlu l (addD out x)
  have h2 := qhv1 out x
  rw [List.foldl_cons, List.length_cons]; omega
theorem qgp1 (S : List Delta) {k : Nat} (h : k < S.length) : (S.take (k + 1)).foldl addD [] = addD ((S.take k).foldl addD []) S[k] := by
 rw [List.take_succ_eq_append_getElem h, List.foldl_append]; rfl
theorem qjn1 : ltC cmpD = ltD := rfl
set_option maxHeartbeats 4000000 in
theorem sum_g (l : List Delta) (h0 : 0 < l.length) (hL : l.length <= 1000000) (hz : ∀ x ∈ sumD l, x.n ≠ 0) (hr : ∀ x ∈ l, x.row.length <= 1000000) :
  Gives Tryz.prog 48 [.sl (l.map Delta.av)] (.sl ((sumD l).map Delta.av)) := by
 have c1 := cloD (l.map Delta.av) l.length (by simp) h0 hL (Delta.avs_wid l) (Delta.avs_elms l) fun m => Delta.avs_cl l m
 have c2 : ∀ (r : Nat) (τ : Nat -> AB), τ r = .vec (l.map Delta.av) 55 3 -> AC Tryz.prog 78 [.own r l.length, .fn 88 []] τ fun y τ' => y = .tup [] /\ τ' = upd τ r (.vec ((sortD l).map Delta.av) 55 3) := fun r τ hτ => by
  have := qpa1 (r := r) 88 cmpD qbe.swo (by kernel_rfl) qnq l.toArray (by simpa using hL) (σ := τ) (by rw [hτ])
  simpa [sortD, qjn1] using this
 obtain ⟨hp, -⟩ := qmw l
 obtain ⟨S, hS⟩ : ∃ S, S = sortD l := ⟨_, rfl⟩
 have hSl : S.length = l.length := by rw [hS]; exact hp.length_eq
 have hSr : ∀ x ∈ S, x.row.length <= 1000000 := fun x hx => hr x (hp.mem_iff.1 (by rw [<- hS]; exact hx))
 obtain ⟨R, hR⟩ : ∃ R, R = sumD l := ⟨_, rfl⟩
 have hRl : R.length <= l.length := by
  have := qlu S []
  rw [hR]; unfold sumD qdr1; rw [<- hS]; simp at this; omega
 have hR2 : R = (S.take S.length).foldl addD [] := by rw [List.take_length, hR, hS]; rfl
 have c6 : ∀ (r : Nat) (τ : Nat -> AB), τ r = .vec (R.map Delta.av) 55 3 -> qbc Tryz.prog 89 [.own r R.length, .fn 90 []] τ (.own r R.length) := fun r τ hτ => by
  have := qcr1 (r := r) R.toArray (by simp; omega) (fun k h => by
   have hk : k < R.length := by simpa using h
   rw [getElem!_pos R.toArray k h, List.getElem_toArray]
   exact hz _ (by rw [<- hR]; exact List.getElem_mem hk)) (σ := τ) (by rw [hτ])
  unfold qbc
  simpa using this
 rw [<- hS] at c2
 rw [<- hR]
 clear hp hS hR hz
 refine qg Tryz.func48 Tryz.ntmps48 fun σ n0 hcl hft => ?_
 repeat' (first | ((first | refine Stp.m ?_ | refine qqj1 c1 ?_ | refine qdu n0 _ (c2 _ _ (by simp)) (by simp) ?_) <;> (try simp (disch := first | omega | simp) [qc, -qe, -qi])) | refine sideA ?_ | refine qb fun K hK => ?_ | refine qa ?_ | refine qd ?_ | (refine hK _ ?_; clear hK K))
 refine qbn 3 55 3 (by simp) ?_
 refine qrt 3 1 (by simp) (by rfl) ?_
 refine qk hcl (fun k : Nat => [(3, .own (n0 + 2) ((S.take k).foldl addD []).length), (11, .own n0 l.length), (12, .int l.length), (13, .int k)]) (fun k => [.vec (S.map Delta.av) 55 3, .dead, .vec (((S.take k).foldl addD []).map Delta.av) 55 3])
  (fun k => k <= S.length) (fun k => S.length - k) 0 (by omega) (by simp) fun k hk => ?_
 by_cases hlt : k < S.length
 .rw [show l.length = S.length from hSl.symm]
  have hnext := qgp1 S hlt
  obtain ⟨x, hx⟩ : ∃ x, x = S[k] := ⟨_, rfl⟩
  rw [<- hx] at hnext
  obtain ⟨out, hout⟩ : ∃ out, out = (S.take k).foldl addD [] := ⟨_, rfl⟩
  have hol : out.length <= k := by have := qlu (S.take k) []; rw [hout]; simp at this; omega
  rw [<- hout] at hnext ⊢
  have c4 := cloR x.row (hSr x (by rw [hx]; exact List.getElem_mem hlt))
  have g1 : ∀ h : k < (S.map Delta.av).length, (S.map Delta.av)[k] = cD x := fun h => by rw [List.getElem_map, hx]; rfl
  have hVl : (S.map Delta.av).length = S.length := by simp
  have hkl : (k : Int) < (S.length : Int) := by omega
  obtain ⟨V, hV⟩ : ∃ V, V = S.map Delta.av := ⟨_, rfl⟩
  rw [<- hV] at hVl ⊢
  simp only [<- hV, cD] at g1
  have hfin : ∀ out' : List Delta, out' = addD out x -> (S.take (k + 1)).foldl addD [] = out' := fun out' h => by rw [h]; exact hnext
  rcases List.eq_nil_or_concat out with ho | ⟨o, y, ho⟩
  .subst ho
   have hadd : addD [] x = [x] := rfl
   have hf := hfin [x] hadd.symm
   repeat' (first | ((first | refine Stp.m ?_ | refine qlf (id := 11) 3 (by rfl) ?_ | refine qh ?_) <;> (try simp (disch := first | omega | simp) [qc, -qe, -qi, hVl, hkl, g1, List.take_succ_cons, List.drop_succ_cons, -Delta.av_fold])) | refine qb fun K hK => ?_ | refine qa ?_ | refine qf ?_ | refine qd ?_ | (refine hK _ ?_; clear hK K) | clear hK K)
   exact ⟨k + 1, by omega, by omega, by rw [hf]; rfl, by rw [hV]; exact Delta.avs_cl S _, by rw [hf]; rfl, by omega⟩
  .rw [List.concat_eq_append] at ho
   obtain ⟨m, hm⟩ : ∃ m, m = o.length := ⟨_, rfl⟩
   obtain ⟨W, hW⟩ : ∃ W, W = out.map Delta.av := ⟨_, rfl⟩
   have hol2 : out.length = m + 1 := by rw [ho, hm]; simp
   have hWl : W.length = m + 1 := by rw [hW]; simp [hol2]
   have g2 : ∀ h : m < W.length, W[m] = cD y := fun h => by
    have e : W = o.map Delta.av ++ [y.av] := by rw [hW, ho]; simp
    subst hm
    simp only [e]
    rw [List.getElem_append_right (by simp)]
    simp
   have c5 : Gives Tryz.prog 88 [cD y, cD x] (.int (cmpD y x)) := qnq y x
   have hadd := qky o y x
   rw [<- ho] at hadd
   rw [<- hW, hol2]
   simp only [cD] at g2 c5
   have p1 : (0 : Int) < (m : Int) + 1 := by omega
   have p2 : (m : Int) < (m : Int) + 1 := by omega
   by_cases he : cmpD y x = 0
   .rw [if_pos he] at hadd
    have hf := hfin _ hadd.symm
    rw [he] at c5
    repeat' (first | ((first | refine Stp.m ?_ | refine agH ?_) <;> (try simp (disch := first | omega | simp) [qc, -qe, -qi, hVl, hWl, hkl, g1, g2, p1, p2, List.take_succ_cons, List.drop_succ_cons, -Delta.av_fold])) | refine qb fun K hK => ?_ | refine qa ?_ | refine qf ?_ | refine qd ?_ | (refine hK _ ?_; clear hK K) | clear hK K)
    exact ⟨k + 1, by omega, by omega, by rw [hf, hW, ho, hm, List.map_append, List.map_append, List.set_append_right _ _ (by simp), show IntKind.i64.wrap (y.n + x.n) = wrap64 (y.n + x.n) by rw [IntKind.wrap_i64, wrap64]]; simp; rfl, by rw [hV]; exact Delta.avs_cl S _, by rw [hf, hm]; simp, by omega⟩
   .rw [if_neg he] at hadd
    have hf := hfin _ hadd.symm
    have heb : (cmpD y x == 0) = false := by rw [beq_eq_false_iff_ne]; exact he
    repeat' (first | ((first | refine Stp.m ?_ | refine qlf (id := 11) 3 (by rfl) ?_ | refine qh ?_ | refine agH ?_) <;> (try simp (disch := first | omega | simp) [qc, -qe, -qi, hVl, hWl, hkl, g1, g2, p1, p2, heb, List.take_succ_cons, List.drop_succ_cons, -Delta.av_fold])) | refine sideA ?_ | refine qb fun K hK => ?_ | refine qa ?_ | refine qf ?_ | refine qd ?_ | (refine hK _ ?_; clear hK K) | clear hK K)
    exact ⟨k + 1, by omega, by omega, by rw [hf, hW, List.map_append]; rfl, by rw [hV]; exact Delta.avs_cl S _, by rw [hf]; simp [hol2], by omega⟩
 .obtain rfl : k = S.length := by omega
  rw [<- hR2]
  have hlt2 : ¬ (S.length : Int) < (l.length : Int) := by omega
  repeat' (first | ((first | with_reducible refine qbz1 ?_ | refine Stp.m ?_ | refine qbk (c6 _ _ (by simp)) ?_) <;> (try simp (disch := first | omega | simp) [qc, -qe, -qi, hlt2])) | refine qb fun K hK => ?_ | refine qa ?_ | (refine hK _ ?_; clear hK K) | clear hK K)
  refine ⟨qdg 2 2 (k := R.length) (by simp) (by rfl) (by simp) ?_⟩
  repeat' (refine Stp.m ?_ <;> try simp (disch := first | omega | simp) [qc, -qe, -qi])
end Go.Proofs.YtkedbjjfmejbhaaGreatDoor
namespace Go.Proofs.YtkedbjjfmejbhaaGreatDoor
open Go.RowKit Go.Lib
def mapD (F : List Fn) (es : List Ex) (L : List Delta) : List Delta := L.map fun d => ⟨d.time, es.map fun e => evalP F d.time d.row e, d.n⟩
theorem qei1 (F : List Fn) (es : List Ex) (L : List Delta) {k : Nat} (h : k < L.length) : mapD F es (L.take (k + 1)) = mapD F es (L.take k) ++ [⟨L[k].time, es.map fun e => evalP F L[k].time L[k].row e, L[k].n⟩] := by
 unfold mapD
 rw [List.take_succ_eq_append_getElem h, List.map_append]; rfl
set_option maxHeartbeats 8000000 in
theorem qjp1 (F : List Fn) (es : List Ex) (L : List Delta) (hes : es.length <= 1000000) (hL : L.length <= 1000000) (hev : ∀ d ∈ L, ∀ e ∈ es, Gives Tryz.prog 38 [.sl (F.map Fn.av), e.av, .int d.time, .sl (d.row.map Val.av)] (evalP F d.time d.row e).av) :
  Gives Tryz.prog 40 [.sl (F.map Fn.av), .sl (es.map Ex.av), .sl (L.map Delta.av)] (.sl ((mapD F es L).map Delta.av)) := by
 obtain ⟨R, hR⟩ : ∃ R, R = mapD F es L := ⟨_, rfl⟩
 rw [<- hR]
 have hsz : 40 * es.length <= 281474976710656 := by omega
 refine qg Tryz.func40 Tryz.ntmps40 fun σ n0 hcl hft => ?_
 repeat' (first | (refine Stp.m ?_ <;> try simp (disch := first | omega | simp) [qc, -qe, -qi]) | refine qb fun K hK => ?_ | refine qa ?_ | refine qd ?_ | (refine hK _ ?_; clear hK K))
 refine qbn 7 55 3 (by simp) ?_
 refine qk hcl (fun k : Nat => [(0, .sl (F.map Fn.av)), (1, .sl (es.map Ex.av)), (7, .gs n0 ((mapD F es (L.take k)).map Delta.av)), (13, .sl (L.map Delta.av)), (14, .int L.length), (15, .int k)]) (fun k => [.tail k 55 3])
  (fun k => k <= L.length) (fun k => L.length - k) 0 (by omega) (by simp [mapD]) fun k hk => ?_
 by_cases hlt : k < L.length
 .have hnext := qei1 F es L hlt
  have hev' := hev L[k] (List.getElem_mem hlt)
  obtain ⟨d, hd⟩ : ∃ d, d = L[k] := ⟨_, rfl⟩
  rw [<- hd] at hnext hev'
  obtain ⟨M, hM⟩ : ∃ M, M = mapD F es (L.take k) := ⟨_, rfl⟩
  have hMl : M.length = k := by rw [hM]; simp [mapD]; omega
  rw [<- hM] at hnext ⊢
  obtain ⟨vs, hvs⟩ : ∃ vs, vs = es.map fun e => evalP F d.time d.row e := ⟨_, rfl⟩
  have hvl : vs.length = es.length := by rw [hvs]; simp
  have hvk : ∀ j (h : j < es.length) (h2 : j < vs.length), vs[j] = evalP F d.time d.row es[j] := fun j h h2 => by subst hvs; simp
  rw [<- hvs] at hnext
  clear hvs
  obtain ⟨Z, hZ⟩ : ∃ Z : Nat -> List AV, Z = fun k => (List.range es.length).map fun i => if i < k then (vs.getD i ⟨0, 0, ByteArray.empty⟩).av else AV.agg [.int 0, .int 0, .str ByteArray.empty] := ⟨_, rfl⟩
  have Zl : ∀ k, (Z k).length = es.length := fun k => by rw [hZ]; simp
  have Z0 : Z 0 = List.replicate es.length (AV.agg [.int 0, .int 0, .str ByteArray.empty]) := by
   rw [hZ]; apply List.ext_getElem (by simp); intro i h1 h2; simp
  have Zg : ∀ k (h : k < (Z k).length), (Z k)[k] = AV.agg [.int 0, .int 0, .str ByteArray.empty] := fun k h => by subst hZ; simp
  have Zs : ∀ k (h : k < vs.length), (Z k).set k vs[k].av = Z (k + 1) := fun k h => by
   subst hZ
   apply List.ext_getElem (by simp)
   intro i h1 h2
   simp only [List.length_map, List.length_range] at h2
   rw [List.getElem_set]
   by_cases hik : k = i
   .subst hik; simp [h]
   .rw [if_neg hik]
    by_cases hlt : i < k
    .simp [hlt, show i < k + 1 by omega]
    .simp [hlt, show ¬ i < k + 1 by omega]
  have Zn : Z es.length = vs.map Val.av := by
   subst hZ
   apply List.ext_getElem (by simp [hvl])
   intro i h1 h2
   simp at h1 h2
   simp [h1, h2]
  have Zc : ∀ k m, AV.cls m (Z k) := fun k m => by
   rw [hZ, AV.cls_iff]
   intro x hx
   obtain ⟨i, -, rfl⟩ := List.mem_map.1 hx
   split <;> simp
  clear hZ
  repeat' (first | (refine Stp.m ?_ <;> try simp (disch := first | omega | simp) [qc, -qe, -qi, hlt, hsz, <- hd]) | refine sideA ?_ | refine qb fun K hK => ?_ | refine qa ?_ | refine qd ?_ | (refine hK _ ?_; clear hK K))
  refine qk hcl (fun j : Nat => [(0, .sl (F.map Fn.av)), (1, .sl (es.map Ex.av)), (7, .gs n0 (M.map Delta.av)), (9, .ptr (n0 + 1) 0), (10, .own (n0 + 2) es.length), (13, .sl (L.map Delta.av)), (14, .int L.length), (15, .int k), (22, .sl (es.map Ex.av)), (23, .int es.length), (24, .int j)]) (fun j => [.tail k 55 3, .cells [.int d.time, .sl (d.row.map Val.av), .int d.n] 55, .vec (Z j) 63 3])
   (fun j => j <= es.length) (fun j => es.length - j) 0 (by omega) (by simp [Z0]) fun j hj => ?_
  by_cases hje : j < es.length
  .have c1 := hev' es[j] (List.getElem_mem hje)
   have hjv : j < vs.length := by omega
   rw [<- hvk j hje hjv] at c1
   have z1 := Zl j
   have z2 := Zg j
   have z3 := Zs j hjv
   obtain ⟨e, he⟩ : ∃ e, e = es[j] := ⟨_, rfl⟩
   obtain ⟨v, hv⟩ : ∃ v, v = vs[j] := ⟨_, rfl⟩
   rw [<- he, <- hv] at c1
   rw [<- hv] at z3
   repeat' (first | ((first | refine Stp.m ?_ | refine qh ?_) <;> (try simp (disch := first | omega | simp) [qc, -qe, -qi, hje, z1, z2, z3, <- he])) | refine qb fun K hK => ?_ | refine qa ?_ | refine qd ?_ | (refine hK _ ?_; clear hK K) | clear hK K)
   exact ⟨j + 1, by omega, by omega, by rw [<- z3]; rfl, Zc _ _, by omega⟩
  .obtain rfl : j = es.length := by omega
   rw [Zn]
   repeat' (first | (refine Stp.m ?_ <;> try simp (disch := first | omega | simp) [qc, -qe, -qi, hje]) | with_reducible refine qic1 (id := 11) ?_ | refine qb fun K hK => ?_ | refine qa ?_ | (refine hK _ ?_; clear hK K) | clear hK K)
   refine ⟨qdg 10 2 (k := es.length) (by simp) (by rfl) (by simp [hvl]) ?_⟩
   repeat' (first | (refine Stp.m ?_ <;> try simp (disch := first | omega | simp) [qc, -qe, -qi, hMl]) | refine sideA ?_ | refine qa ?_ | (refine hK _ ?_; clear hK K) | clear hK K)
   exact ⟨k + 1, by omega, by omega, rfl, by rw [hnext, List.map_append]; rfl, by omega⟩
 .obtain rfl : k = L.length := by omega
  rw [List.take_length, <- hR]
  repeat' (first | (refine Stp.m ?_ <;> try simp (disch := first | omega | simp) [qc, -qe, -qi, hlt]) | refine qb fun K hK => ?_ | refine qa ?_ | (refine hK _ ?_; clear hK K) | clear hK K)
theorem qog1 (F : List Fn) (n : Node) (L : List Delta) (ho : n.op = 2) (hes : n.exprs.length <= 1000000) (hL : L.length <= 1000000) (hev : ∀ d ∈ L, ∀ e ∈ n.exprs, Gives Tryz.prog 38 [.sl (F.map Fn.av), e.av, .int d.time, .sl (d.row.map Val.av)] (evalP F d.time d.row e).av)
  (hs : Gives Tryz.prog 48 [.sl ((mapD F n.exprs L).map Delta.av)] (.sl ((sumD (mapD F n.exprs L)).map Delta.av))) :
  Gives Tryz.prog 10 [.sl (F.map Fn.av), n.av, .sl [.sl (L.map Delta.av)]] (.sl ((sumD (mapD F n.exprs L)).map Delta.av)) := by
 have c1 := qjp1 F n.exprs L hes hL hev
 have o1 : (n.op == 1) = false := by rw [ho]; rfl
 have o2 : (n.op == 2) = true := by rw [ho]; rfl
 generalize sumD (mapD F n.exprs L) = R at *
 refine qg Tryz.func10 Tryz.ntmps10 fun σ n0 hcl hft => ?_
 repeat' (first | ((first | refine Stp.m ?_ | refine qh ?_ | refine agH ?_) <;> (try simp (disch := first | omega | simp) [qc, -qe, -qi, o1, o2])) | refine qb fun K hK => ?_ | refine qa ?_ | refine qf ?_ | refine qd ?_ | (refine hK _ ?_; clear hK K))
theorem qdd1 (p : Delta -> Bool) (l : List Delta) {k : Nat} (h : k < l.length) : (l.take (k + 1)).filter p = if p l[k] then (l.take k).filter p ++ [l[k]] else (l.take k).filter p := by
 rw [List.take_succ_eq_append_getElem h, List.filter_append]
 cases hp : p l[k] <;> simp [hp]
set_option maxHeartbeats 4000000 in
theorem qof1 (F : List Fn) (n : Node) (e : Ex) (L : List Delta) (p : Delta -> Bool) (ho : n.op = 1) (he : n.exprs = [e]) (hL : L.length <= 1000000) (hev : ∀ d ∈ L, Gives Tryz.prog 38 [.sl (F.map Fn.av), e.av, .int d.time, .sl (d.row.map Val.av)] (evalP F d.time d.row e).av)
  (hp : ∀ d ∈ L, Val.eqB (evalP F d.time d.row e) (boolV true) = p d)
  (hs : Gives Tryz.prog 48 [.sl ((L.filter p).map Delta.av)] (.sl ((sumD (L.filter p)).map Delta.av))) :
  Gives Tryz.prog 10 [.sl (F.map Fn.av), n.av, .sl [.sl (L.map Delta.av)]] (.sl ((sumD (L.filter p)).map Delta.av)) := by
 have o1 : (n.op == 1) = true := by rw [ho]; rfl
 have c2 := qnb true
 obtain ⟨R, hR⟩ : ∃ R, R = sumD (L.filter p) := ⟨_, rfl⟩
 rw [<- hR] at hs ⊢
 clear hR
 have hsz : ∀ k, ((L.take k).filter p).length <= k := fun k => by
  have := List.length_filter_le p (L.take k)
  rw [List.length_take] at this; omega
 refine qg Tryz.func10 Tryz.ntmps10 fun σ n0 hcl hft => ?_
 repeat' (first | (refine Stp.m ?_ <;> try simp (disch := first | omega | simp) [qc, -qe, -qi, o1]) | refine qb fun K hK => ?_ | refine qa ?_ | refine qd ?_ | (refine hK _ ?_; clear hK K))
 refine qbn 7 55 3 (by simp) ?_
 refine qk hcl (fun k : Nat => [(0, .sl (F.map Fn.av)), (4, .ptr n0 0), (7, .gs (n0 + 1) (((L.take k).filter p).map Delta.av)), (18, .sl (L.map Delta.av)), (19, .int L.length), (20, .int k)]) (fun k => [.cells n.av.cells 29, .tail ((L.take k).filter p).length 55 3])
  (fun k => k <= L.length) (fun k => L.length - k) 0 (by omega) (by simp) fun k hk => ?_
 by_cases hlt : k < L.length
 .have hnext := qdd1 p L hlt
  have c1 := hev L[k] (List.getElem_mem hlt)
  have hpk := hp L[k] (List.getElem_mem hlt)
  have hsk := hsz k
  obtain ⟨d, hd⟩ : ∃ d, d = L[k] := ⟨_, rfl⟩
  rw [<- hd] at hnext c1 hpk
  obtain ⟨v, hv⟩ : ∃ v, v = evalP F d.time d.row e := ⟨_, rfl⟩
  rw [<- hv] at c1 hpk
  obtain ⟨M, hM⟩ : ∃ M, M = (L.take k).filter p := ⟨_, rfl⟩
  rw [<- hM] at hnext hsk ⊢
  cases hpd : p d with
  | true =>
   rw [hpd] at hnext hpk
   rw [if_pos rfl] at hnext
   repeat' (first | ((first | refine Stp.m ?_ | refine agH ?_) <;> (try simp (disch := first | omega | simp) [qc, -qe, -qi, hlt, he, hpk, <- hd])) | refine sideA ?_ | refine qb fun K hK => ?_ | refine qa ?_ | refine qf ?_ | refine qd ?_ | (refine hK _ ?_; clear hK K) | clear hK K)
   exact ⟨k + 1, by omega, by omega, by rw [hnext]; simp, by rw [hnext]; simp, by omega⟩
  | false =>
   rw [hpd] at hnext hpk
   rw [if_neg (by simp)] at hnext
   repeat' (first | ((first | refine Stp.m ?_ | refine agH ?_) <;> (try simp (disch := first | omega | simp) [qc, -qe, -qi, hlt, he, hpk, <- hd])) | refine qb fun K hK => ?_ | refine qa ?_ | refine qf ?_ | refine qd ?_ | (refine hK _ ?_; clear hK K) | clear hK K)
   exact ⟨k + 1, by omega, by omega, by rw [hnext], by rw [hnext], by omega⟩
 .obtain rfl : k = L.length := by omega
  rw [List.take_length]
  repeat' (first | ((first | refine Stp.m ?_ | refine qh ?_) <;> (try simp (disch := first | omega | simp) [qc, -qe, -qi, hlt])) | refine qb fun K hK => ?_ | refine qa ?_ | (refine hK _ ?_; clear hK K) | clear hK K)
theorem qey : ∀ (N : Nat) (a b : List Delta), a.length + b.length <= N -> (qz a b).length <= a.length + b.length
 | N, [], [], _ => by rw [qz]; simp
 | 0, x :: a, _, h => by simp at h
 | 0, [], y :: b, h => by simp at h
 | N + 1, x :: a, [], h => by
  have := qey N a [] (by simp at h ⊢; omega)
  rw [qz]; simp at this ⊢; omega
 | N + 1, [], y :: b, h => by
  have := qey N [] b (by simp at h ⊢; omega)
  rw [qz]
  split <;> simp at this ⊢ <;> omega
 | N + 1, x :: a, y :: b, h => by
  have h1 := qey N a (y :: b) (by simp at h ⊢; omega)
  have h2 := qey N a b (by simp at h ⊢; omega)
  have h3 := qey N (x :: a) b (by simp at h ⊢; omega)
  rw [qz]
  split
  .simp at h1 ⊢; omega
  .split
   .split <;> simp at h2 ⊢ <;> omega
   .split <;> simp at h3 ⊢ <;> omega
theorem qfn : ∀ (F : Nat) (l : List Delta), (rsumF F l).length <= l.length
 | 0, _ => by simp [rsumF]
 | F + 1, l => by
  rw [rsumF]
  split
  .simp
  .split
   .exact Nat.le_refl _
   .have h1 := qfn F (l.take (l.length / 2))
    have h2 := qfn F (l.drop (l.length / 2))
    have h3 := qey _ _ _ (Nat.le_refl ((rsumF F (l.take (l.length / 2))).length + (rsumF F (l.drop (l.length / 2))).length))
    rw [List.length_take] at h1
    rw [List.length_drop] at h2
    omega
theorem qnp1 {A B : List Delta} {i k : Nat} (hi : i < A.length) (hk : ¬ k < B.length) : qz (A.drop i) (B.drop k) = A[i] :: qz (A.drop (i + 1)) (B.drop k) := by
 rw [List.drop_eq_getElem_cons hi, List.drop_of_length_le (by omega : B.length <= k), qz]
theorem qnq1 {A B : List Delta} {i k : Nat} (hi : ¬ i < A.length) (hk : k < B.length) : qz (A.drop i) (B.drop k) = if B[k].n ≠ 0 then B[k] :: qz (A.drop i) (B.drop (k + 1)) else qz (A.drop i) (B.drop (k + 1)) := by
 rw [List.drop_eq_getElem_cons hk, List.drop_of_length_le (by omega : A.length <= i), qz]
theorem qno1 {A B : List Delta} {i k : Nat} (hi : i < A.length) (hk : k < B.length) : qz (A.drop i) (B.drop k) =
  if cmpD A[i] B[k] < 0 then A[i] :: qz (A.drop (i + 1)) (B.drop k)
  else if cmpD A[i] B[k] = 0 then (if wrap64 (B[k].n + A[i].n) ≠ 0 then ⟨B[k].time, B[k].row, wrap64 (B[k].n + A[i].n)⟩ :: qz (A.drop (i + 1)) (B.drop (k + 1)) else qz (A.drop (i + 1)) (B.drop (k + 1)))
  else if B[k].n ≠ 0 then B[k] :: qz (A.drop i) (B.drop (k + 1)) else qz (A.drop i) (B.drop (k + 1)) := by
 have e1 := List.drop_eq_getElem_cons hi
 have e2 := List.drop_eq_getElem_cons hk
 rw [e1, e2, qz]
set_option maxRecDepth 4000 in
set_option maxHeartbeats 8000000 in
theorem qfs1 (l A B R : List Delta) (h : Nat) (hhl : h <= l.length) (hq : ((l.length : Int)).tdiv 2 = (h : Int)) (h0 : ¬ l.length = 0) (h1 : ¬ l.length = 1) (hL : l.length <= 1000000) (l1 : A.length <= 1000000) (l2 : B.length <= 1000000) (hl12 : A.length + B.length <= 1000000) (hR : R = qz A B)
  (c1 : Gives Tryz.prog 9 [.sl ((l.map Delta.av).take h)] (.sl (A.map Delta.av))) (c2 : Gives Tryz.prog 9 [.sl ((l.map Delta.av).drop h)] (.sl (B.map Delta.av))) :
  Gives Tryz.prog 9 [.sl (l.map Delta.av)] (.sl (R.map Delta.av)) := by
 have k0 : ((l.length : Int) == 0) = false := by rw [beq_eq_false_iff_ne]; omega
 have k1 : ((l.length : Int) == 1) = false := by rw [beq_eq_false_iff_ne]; omega
 have htl : List.take l.length (l.map Delta.av) = l.map Delta.av := List.take_of_length_le (by simp)
 refine qg Tryz.func9 Tryz.ntmps9 fun σ n0 hcl hft => ?_
 repeat' (first | ((first | refine Stp.m ?_ | refine qh ?_) <;> (try simp (disch := first | omega | simp) [qc, -qe, -qi, k0, k1, hq, hhl, htl])) | refine qb fun K hK => ?_ | refine qa ?_ | refine qd ?_ | (refine hK _ ?_; clear hK K))
 refine qbn 5 55 3 (by simp) ?_
 refine qk hcl (fun s : Nat × Nat × List Delta => [(3, .sl (A.map Delta.av)), (4, .sl (B.map Delta.av)), (5, .gs n0 (s.2.2.map Delta.av)), (6, .int s.1), (7, .int s.2.1)]) (fun s => [.tail s.2.2.length 55 3])
  (fun s => s.1 <= A.length /\ s.2.1 <= B.length /\ s.2.2.length <= s.1 + s.2.1 /\ R = s.2.2 ++ qz (A.drop s.1) (B.drop s.2.1)) (fun s => (A.length - s.1) + (B.length - s.2.1)) (0, 0, []) ⟨by simp, by simp, by simp, by simpa using hR⟩ (by simp) fun ⟨i, k, out⟩ ⟨hi, hk, ho, he⟩ => ?_
 dsimp only at hi hk ho he ⊢
 by_cases h2 : i < A.length
 .by_cases h3 : k < B.length
  .rw [qno1 h2 h3] at he
   have n1 : ¬ (A.length : Int) <= i := by omega
   have n2 : ¬ (B.length : Int) <= k := by omega
   have n3 : ¬ (B.length : Int) - 1 < (k : Int) := by omega
   obtain ⟨x, hx⟩ : ∃ x, x = A[i] := ⟨_, rfl⟩
   obtain ⟨y, hy⟩ : ∃ y, y = B[k] := ⟨_, rfl⟩
   have c3 := qtv x y
   rw [<- hx, <- hy] at he
   obtain ⟨C, hC⟩ : ∃ C, C = cmpD x y := ⟨_, rfl⟩
   rw [<- hC] at he c3
   by_cases hlt : C < 0
   .rw [if_pos hlt] at he
    repeat' (first | ((first | refine Stp.m ?_ | refine agH ?_) <;> (try simp (disch := first | omega | simp) [qc, -qe, -qi, h2, h3, n1, n2, hlt, <- hx, <- hy])) | refine sideA ?_ | refine qb fun K hK => ?_ | refine qa ?_ | refine qf ?_ | refine qd ?_ | (refine hK _ ?_; clear hK K) | clear hK K)
    exact ⟨i + 1, k, out ++ [x], ⟨by omega, by omega, by simp; omega, by rw [he]; simp⟩, by omega, by simp⟩
   .rw [if_neg hlt] at he
    by_cases hc0 : C = 0
    .rw [if_pos hc0] at he
     have hc0b : (C == 0) = true := by rw [hc0]; rfl
     obtain ⟨w, hw⟩ : ∃ w, w = wrap64 (y.n + x.n) := ⟨_, rfl⟩
     have hw2 : IntKind.i64.wrap (y.n + x.n) = w := by rw [IntKind.wrap_i64, hw, wrap64]
     rw [<- hw] at he
     by_cases hwz : w = 0
     .rw [if_neg (by simpa using hwz)] at he
      have hwb : (w != 0) = false := by rw [hwz]; rfl
      repeat' (first | ((first | refine Stp.m ?_ | refine agH ?_) <;> (try simp (disch := first | omega | simp) [qc, -qe, -qi, h2, h3, n1, n2, n3, hlt, hc0b, hw2, hwb, <- hx, <- hy])) | refine qb fun K hK => ?_ | refine qa ?_ | refine qf ?_ | refine qd ?_ | (refine hK _ ?_; clear hK K) | clear hK K)
      exact ⟨i + 1, k + 1, out, ⟨by omega, by omega, by omega, he⟩, by omega, by simp⟩
     .rw [if_pos hwz] at he
      have hwb : (w != 0) = true := by rw [bne_iff_ne]; exact hwz
      repeat' (first | ((first | refine Stp.m ?_ | refine agH ?_) <;> (try simp (disch := first | omega | simp) [qc, -qe, -qi, h2, h3, n1, n2, n3, hlt, hc0b, hw2, hwb, <- hx, <- hy])) | refine sideA ?_ | refine qb fun K hK => ?_ | refine qa ?_ | refine qf ?_ | refine qd ?_ | (refine hK _ ?_; clear hK K) | clear hK K)
      exact ⟨i + 1, k + 1, out ++ [⟨y.time, y.row, w⟩], ⟨by omega, by omega, by simp; omega, by rw [he]; simp⟩, by omega, by simp; rfl⟩
    .rw [if_neg hc0] at he
     have hc0b : (C == 0) = false := by rw [beq_eq_false_iff_ne]; exact hc0
     by_cases hwz : y.n = 0
     .rw [if_neg (by simpa using hwz)] at he
      have hwb : (y.n != 0) = false := by rw [hwz]; rfl
      repeat' (first | ((first | refine Stp.m ?_ | refine agH ?_) <;> (try simp (disch := first | omega | simp) [qc, -qe, -qi, h2, h3, n1, n2, n3, hlt, hc0b, hwb, <- hx, <- hy])) | refine qb fun K hK => ?_ | refine qa ?_ | refine qf ?_ | refine qd ?_ | (refine hK _ ?_; clear hK K) | clear hK K)
      exact ⟨i, k + 1, out, ⟨by omega, by omega, by omega, he⟩, by omega, by simp⟩
     .rw [if_pos hwz] at he
      have hwb : (y.n != 0) = true := by rw [bne_iff_ne]; exact hwz
      repeat' (first | ((first | refine Stp.m ?_ | refine agH ?_) <;> (try simp (disch := first | omega | simp) [qc, -qe, -qi, h2, h3, n1, n2, n3, hlt, hc0b, hwb, <- hx, <- hy])) | refine sideA ?_ | refine qb fun K hK => ?_ | refine qa ?_ | refine qf ?_ | refine qd ?_ | (refine hK _ ?_; clear hK K) | clear hK K)
      exact ⟨i, k + 1, out ++ [y], ⟨by omega, by omega, by simp; omega, by rw [he]; simp⟩, by omega, by simp⟩
  .rw [qnp1 h2 h3] at he
   have n1 : ¬ (A.length : Int) <= i := by omega
   have n2 : (B.length : Int) <= k := by omega
   obtain ⟨x, hx⟩ : ∃ x, x = A[i] := ⟨_, rfl⟩
   rw [<- hx] at he
   repeat' (first | (refine Stp.m ?_ <;> try simp (disch := first | omega | simp) [qc, -qe, -qi, h2, n1, n2, <- hx]) | refine sideA ?_ | refine qb fun K hK => ?_ | refine qa ?_ | refine qd ?_ | (refine hK _ ?_; clear hK K) | clear hK K)
   exact ⟨i + 1, k, out ++ [x], ⟨by omega, by omega, by simp; omega, by rw [he]; simp⟩, by omega, by simp⟩
 .by_cases h3 : k < B.length
  .rw [qnq1 h2 h3] at he
   have n1 : (A.length : Int) <= i := by omega
   have n3 : ¬ (B.length : Int) - 1 < (k : Int) := by omega
   obtain ⟨y, hy⟩ : ∃ y, y = B[k] := ⟨_, rfl⟩
   rw [<- hy] at he
   by_cases hwz : y.n = 0
   .rw [if_neg (by simpa using hwz)] at he
    have hwb : (y.n != 0) = false := by rw [hwz]; rfl
    repeat' (first | (refine Stp.m ?_ <;> try simp (disch := first | omega | simp) [qc, -qe, -qi, h2, h3, n1, n3, hwb, <- hy]) | refine qb fun K hK => ?_ | refine qa ?_ | refine qd ?_ | (refine hK _ ?_; clear hK K) | clear hK K)
    exact ⟨i, k + 1, out, ⟨by omega, by omega, by omega, he⟩, by omega, by simp⟩
   .rw [if_pos hwz] at he
    have hwb : (y.n != 0) = true := by rw [bne_iff_ne]; exact hwz
    repeat' (first | (refine Stp.m ?_ <;> try simp (disch := first | omega | simp) [qc, -qe, -qi, h2, h3, n1, n3, hwb, <- hy]) | refine sideA ?_ | refine qb fun K hK => ?_ | refine qa ?_ | refine qd ?_ | (refine hK _ ?_; clear hK K) | clear hK K)
    exact ⟨i, k + 1, out ++ [y], ⟨by omega, by omega, by simp; omega, by rw [he]; simp⟩, by omega, by simp⟩
  .rw [List.drop_of_length_le (by omega : A.length <= i), List.drop_of_length_le (by omega : B.length <= k), qz, List.append_nil] at he
   subst he
   repeat' (first | (refine Stp.m ?_ <;> try simp (disch := first | omega | simp) [qc, -qe, -qi, h2, h3]) | refine qb fun K hK => ?_ | refine qa ?_ | (refine hK _ ?_; clear hK K) | clear hK K)
set_option maxHeartbeats 8000000 in
theorem qtz : ∀ (F : Nat) (l : List Delta), l.length <= F -> l.length <= 1000000 -> (∀ x ∈ l, x.row.length <= 1000000) -> Gives Tryz.prog 9 [.sl (l.map Delta.av)] (.sl ((rsumF F l).map Delta.av))
 | 0, l, hF, hL, hr => by
  have : l = [] := List.eq_nil_of_length_eq_zero (by omega)
  subst this
  rw [rsumF]
  simp only [List.map_nil]
  refine qg Tryz.func9 Tryz.ntmps9 fun σ n0 hcl hft => ?_
  repeat' (first | (refine Stp.m ?_ <;> try simp (disch := first | omega | simp) [qc, -qe, -qi]) | refine qb fun K hK => ?_ | refine qa ?_ | (refine hK _ ?_; clear hK K))
 | F + 1, l, hF, hL, hr => by
  by_cases h0 : l.length = 0
  .have : l = [] := List.eq_nil_of_length_eq_zero h0
   subst this
   rw [rsumF, if_pos (by simp)]
   simp only [List.map_nil]
   refine qg Tryz.func9 Tryz.ntmps9 fun σ n0 hcl hft => ?_
   repeat' (first | (refine Stp.m ?_ <;> try simp (disch := first | omega | simp) [qc, -qe, -qi]) | refine qb fun K hK => ?_ | refine qa ?_ | (refine hK _ ?_; clear hK K))
  by_cases h1 : l.length = 1
  .obtain ⟨x, rfl⟩ := List.length_eq_one_iff.1 h1
   rw [rsumF]
   by_cases hx : x.n = 0
   .rw [if_pos (by simp [hx])]
    simp only [List.map_nil, List.map_cons]
    have hxb : (x.n == 0) = true := by rw [hx]; rfl
    refine qg Tryz.func9 Tryz.ntmps9 fun σ n0 hcl hft => ?_
    repeat' (first | (refine Stp.m ?_ <;> try simp (disch := first | omega | simp) [qc, -qe, -qi, hxb]) | refine qb fun K hK => ?_ | refine qa ?_ | (refine hK _ ?_; clear hK K))
   .rw [if_neg (by simp [hx]), if_pos (by simp)]
    simp only [List.map_nil, List.map_cons]
    have hxb : (x.n == 0) = false := by simpa using hx
    have hrx := hr x (by simp)
    refine qg Tryz.func9 Tryz.ntmps9 fun σ n0 hcl hft => ?_
    repeat' (first | (refine Stp.m ?_ <;> try simp (disch := first | omega | simp) [qc, -qe, -qi, hxb, hrx]) | with_reducible refine qid (id := 4) [] 0 [.R, .R, .R, .R, .R, .R, .R, .R, .R, .R, .R, .R, .R, .R, .R, .R, .R] (by kernel_rfl) (by kernel_rfl) (by simp) ?_ | refine sideA ?_ | refine qb fun K hK => ?_ | refine qa ?_ | (refine hK _ ?_; clear hK K))
  have hq : ((l.length : Int)).tdiv 2 = ((l.length / 2 : Nat) : Int) := by rw [Int.tdiv_eq_ediv_of_nonneg (by omega)]; omega
  rw [rsumF, if_neg (by rintro (h | h) <;> omega), if_neg h1]
  have c1 := qtz F (l.take (l.length / 2)) (by rw [List.length_take]; omega) (by rw [List.length_take]; omega) fun x hx => hr x (List.mem_of_mem_take hx)
  have c2 := qtz F (l.drop (l.length / 2)) (by rw [List.length_drop]; omega) (by rw [List.length_drop]; omega) fun x hx => hr x (List.mem_of_mem_drop hx)
  have l1 := qfn F (l.take (l.length / 2))
  have l2 := qfn F (l.drop (l.length / 2))
  rw [List.length_take] at l1
  rw [List.length_drop] at l2
  rw [List.map_take] at c1
  rw [List.map_drop] at c2
  exact qfs1 l _ _ _ (l.length / 2) (by omega) hq h0 h1 hL (by omega) (by omega) (by omega) rfl c1 c2
theorem qyv : ∀ (a b : List Delta), sameD a b -> a.length <= 1000000 -> Gives Tryz.prog 12 [.sl (a.map Delta.av), .sl (b.map Delta.av)] (.bool true) := by
 intro a b h hL
 have hlen : ∀ (a b : List Delta), sameD a b -> a.length = b.length /\ ∀ k (h1 : k < a.length) (h2 : k < b.length), cmpD a[k] b[k] = 0 /\ a[k].n = b[k].n := fun a => by
  induction a with
  | nil => intro b h; cases b with
   | nil => exact ⟨rfl, fun k h1 => by simp at h1⟩
   | cons y b => exact h.elim
  | cons x a ih => intro b h; cases b with
   | nil => exact h.elim
   | cons y b =>
    obtain ⟨h1, h2, h3⟩ := h
    obtain ⟨g1, g2⟩ := ih b h3
    refine ⟨by simp [g1], fun k k1 k2 => ?_⟩
    cases k with
    | zero => exact ⟨h1, h2⟩
    | succ k => exact g2 k (by simpa using k1) (by simpa using k2)
 obtain ⟨e1, e2⟩ := hlen a b h
 have hb : ((a.length : Int) != (b.length : Int)) = false := by rw [e1]; simp
 refine qg Tryz.func12 Tryz.ntmps12 fun σ n0 hcl hft => ?_
 repeat' (first | (refine Stp.m ?_ <;> try simp (disch := first | omega | simp) [qc, -qe, -qi, hb]) | refine qb fun K hK => ?_ | refine qa ?_ | refine qd ?_ | (refine hK _ ?_; clear hK K))
 refine qk hcl (fun k : Nat => [(0, .sl (a.map Delta.av)), (1, .sl (b.map Delta.av)), (5, .int k)]) (fun _ => [])
  (fun k => k <= a.length) (fun k => a.length - k) 0 (by omega) (by simp) fun k hk => ?_
 by_cases hlt : k < a.length
 .have hlb : k < b.length := by omega
  obtain ⟨g1, g2⟩ := e2 k hlt hlb
  have c1 := qtv a[k] b[k]
  obtain ⟨x, hx⟩ : ∃ x, x = a[k] := ⟨_, rfl⟩
  obtain ⟨y, hy⟩ : ∃ y, y = b[k] := ⟨_, rfl⟩
  rw [g1] at c1
  rw [<- hx, <- hy] at c1 g2
  have g3 : (x.n != y.n) = false := by rw [g2]; simp
  repeat' (first | ((first | refine Stp.m ?_ | refine agH ?_) <;> (try simp (disch := first | omega | simp) [qc, -qe, -qi, hlt, hlb, g3, <- hx, <- hy])) | refine qb fun K hK => ?_ | refine qa ?_ | refine qf ?_ | refine qd ?_ | (refine hK _ ?_; clear hK K) | clear hK K)
  all_goals exact ⟨k + 1, by omega, by omega, by simp⟩
 .repeat' (first | (refine Stp.m ?_ <;> try simp (disch := first | omega | simp) [qc, -qe, -qi, hlt]) | refine qb fun K hK => ?_ | refine qa ?_ | (refine hK _ ?_; clear hK K) | clear hK K)
end Go.Proofs.YtkedbjjfmejbhaaGreatDoor
