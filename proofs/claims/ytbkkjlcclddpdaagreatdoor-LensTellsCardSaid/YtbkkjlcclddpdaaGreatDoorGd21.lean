/- Regions in text order that work on known rows (AB.buf), computed. -/
import Derived.Test.YtbkkjlcclddpdaaGreatDoorGd10
import Derived.Test.YtbkkjlcclddpdaaGreatDoorGd11
import Derived.Test.YtbkkjlcclddpdaaGreatDoorGd13
import Derived.Test.YtbkkjlcclddpdaaGreatDoorGd18
import Derived.Test.YtbkkjlcclddpdaaGreatDoorGd19
import Derived.Test.YtbkkjlcclddpdaaGreatDoorGd20
set_option linter.unusedSimpArgs false
set_option linter.unusedVariables false
namespace Go.Proofs.YtbkkjlcclddpdaaGreatDoor
open Go.RowKit Go.Lib
def SrcK (s : AS) (sz : Nat) (y : AV) (K : List Value → Nat → Prop) : Prop :=
  match y with
  | .sl l => l.all rawOk = true ∧ AV.wid l sz ∧ K (rawsL l) l.length
  | .own r n => match s.st r with
    | .vec l _ sz' => sz' = sz ∧ n = l.length ∧ l.all rawOk = true ∧ AV.wid l sz ∧ K (rawsL l) n
    | _ => False
  | .sub r a n c sz' => match s.st r with
    | .buf bs _ => sz' = sz ∧ n ≤ c ∧ (a + n) * sz ≤ bs.length ∧ K ((bs.drop (a * sz)).take (n * sz)) n
    | _ => False
  | _ => False
theorem raw_one : ∀ {l : List AV}, l.all rawOk = true → ∀ u ∈ rawsL l, u.oneCell' = true := fun {l} h => (raws_rc (X := { w := default, μ := fun _ => undef, S := fun _ _ => False, σ := fun _ => .unborn }) h (raw_back h)).2
theorem srcK {s : AS} {sz : Nat} {y : AV} {K : List Value → Nat → Prop} (h : SrcK s sz y K) : ∃ cs m, Src s sz y cs m ∧ K cs m := by
  unfold SrcK at h
  split at h
  · exact ⟨_, _, ⟨qek h.1 h.2.1, h.1, h.2.1, rfl, rfl⟩, h.2.2⟩
  · split at h
    · rename_i hσ
      obtain ⟨rfl, rfl, h1, h2, h3⟩ := h
      exact ⟨_, _, ⟨qek h1 h2, _, _, hσ, rfl, h1, rfl, rfl⟩, h3⟩
    · exact h.elim
  · split at h
    · rename_i hσ
      obtain ⟨rfl, h1, h2, h4⟩ := h
      exact ⟨_, _, ⟨by
        rw [List.length_take, List.length_drop]
        rw [Nat.add_mul] at h2
        omega, rfl, _, _, hσ, rfl, rfl, h1⟩, h4⟩
    · exact h.elim
  · exact h.elim
def aevU (P : Program) (s : AS) (o : Op) (K : AV → AS → Prop) : Prop :=
  match o with
  | .slice t x lo hi none => match s.eval x with
    | .sub r a n c sz => match s.st r with
      | .buf _ _ => match einfo P t with
        | some e => match tinfo P e with
          | some (_, sz') => sz' = sz ∧ (match bndv s.eval lo 0, bndv s.eval hi n with
            | some l, some h => l ≤ h ∧ h ≤ c ∧ K (.sub r (a + l) (h - l) (c - l) sz) s
            | _, _ => False)
          | none => False
        | none => False
      | _ => False
    | _ => aev P s (.slice t x lo hi none) K
  | .slice t x (some o1) (some o2) (some o3) => match s.eval x with
    | .sub r a n c sz => match s.st r with
      | .buf _ _ => match einfo P t with
        | some e => match tinfo P e with
          | some (_, sz') => sz' = sz ∧ (match bndv s.eval (some o1) 0, bndv s.eval (some o2) n, bndv s.eval (some o3) 0 with
            | some l, some h, some m => l ≤ h ∧ h ≤ m ∧ m ≤ c ∧ K (.sub r (a + l) (h - l) (m - l) sz) s
            | _, _, _ => False)
          | none => False
        | none => False
      | _ => False
    | _ => aev P s (.slice t x (some o1) (some o2) (some o3)) K
  | .call { callee := .builtin .len, args := ⟨[x]⟩, argTypes := ⟨[t]⟩ } => match s.eval x with
    | .sub r _ n _ _ => match s.st r with
      | .buf _ _ => match einfo P t with
        | some _ => K (.v (.int .i64 n)) s
        | none => False
      | _ => False
    | _ => aev P s (.call { callee := .builtin .len, args := ⟨[x]⟩, argTypes := ⟨[t]⟩ }) K
  | .call { callee := .builtin .cap, args := ⟨[x]⟩, argTypes := ⟨[t]⟩ } => match s.eval x with
    | .sub r _ _ c _ => match s.st r with
      | .buf _ _ => match einfo P t with
        | some _ => K (.v (.int .i64 c)) s
        | none => False
      | _ => False
    | _ => aev P s (.call { callee := .builtin .cap, args := ⟨[x]⟩, argTypes := ⟨[t]⟩ }) K
  | .call { callee := .builtin .append, args := ⟨[x, y]⟩, argTypes := ⟨[t, t']⟩ } => match s.eval x with
    | .sub r a n c sz => match s.st r with
      | .buf cs e => match s.eval y with
        | .v (.int .i64 m) => a = 0 ∧ P.underlying t' = some (.int .i64) ∧ 0 < m ∧ (match vinfo P t with
          | some (e', sz', by_) => e' = e ∧ sz' = sz ∧ n ≤ c ∧ cs.length = c * sz ∧ 0 < c ∧ (n + m.toNat) * by_ ≤ 140737488355328 ∧ c < n + m.toNat ∧
            ∀ c' (zs : List Value), n + m.toNat ≤ c' → c' ≤ 9223372036854775807 → zs.length = (c' - n) * sz → K (.sub s.nx 0 (n + m.toNat) c' sz) (s.ext (some (.buf (cs.take (n * sz) ++ zs) e)))
          | none => False)
        | _ => t' = t ∧ a = 0 ∧ (match vinfo P t with
          | some (e', sz', by_) => e' = e ∧ sz' = sz ∧ SrcK s sz (s.eval y) fun news m => n ≤ c ∧ cs.length = c * sz ∧ 0 < c ∧ (n + m) * by_ ≤ 140737488355328 ∧ OneC news ∧
            (n + m ≤ c → K (.sub r 0 (n + m) c sz) (s.set r (.buf (cs.take (n * sz) ++ news ++ cs.drop ((n + m) * sz)) e))) ∧
            (c < n + m → ∀ c' (zs : List Value), n + m ≤ c' → c' ≤ 9223372036854775807 → zs.length = (c' - (n + m)) * sz → K (.sub s.nx 0 (n + m) c' sz) (s.ext (some (.buf (cs.take (n * sz) ++ news ++ zs) e))))
          | none => False)
      | _ => False
    | _ => aev P s (.call { callee := .builtin .append, args := ⟨[x, y]⟩, argTypes := ⟨[t, t']⟩ }) K
  | .call { callee := .builtin .copy, args := ⟨[d, y]⟩, argTypes := ⟨[t, t']⟩ } => match s.eval d with
    | .sub r a n c sz => match s.st r with
      | .buf cs e => match vinfo P t with
        | some (e', sz', _) => e' = e ∧ sz' = sz ∧ SrcK s sz (s.eval y) fun news m => n ≤ c ∧ (a + min m n) * sz ≤ cs.length ∧ OneC (news.take (min m n * sz)) ∧ K (.v (.int .i64 (min m n : Nat))) (s.set r (.buf (cs.take (a * sz) ++ news.take (min m n * sz) ++ cs.drop ((a + min m n) * sz)) e))
        | none => False
      | _ => False
    | _ => aev P s (.call { callee := .builtin .copy, args := ⟨[d, y]⟩, argTypes := ⟨[t, t']⟩ }) K
  | .call { callee := .builtin .clear, args := ⟨[x]⟩, argTypes := ⟨[t]⟩ } => match s.eval x with
    | .sub r a n c sz => match s.st r with
      | .buf cs e => match vinfo P t with
        | some (e', sz', _) => e' = e ∧ sz' = sz ∧ n ≤ c ∧ (a + n) * sz ≤ cs.length ∧ ∀ zs : List Value, zs.length = n * sz → K (.tup []) (s.set r (.buf (cs.take (a * sz) ++ zs ++ cs.drop ((a + n) * sz)) e))
        | none => False
      | _ => False
    | _ => aev P s (.call { callee := .builtin .clear, args := ⟨[x]⟩, argTypes := ⟨[t]⟩ }) K
  | .call { callee := .value (.func f), args := ⟨[p, q]⟩, argTypes := tys } => match s.eval p, s.eval q with
    | .sub r _ n c _, .sl l => match s.st r with
      | .buf cs _ => OvlF P f ∧ cs ≠ [] ∧ (∀ z ∈ l, 0 < z.width) ∧ n ≤ c ∧ K (.v (.bool false)) s
      | _ => False
    | .sl l, .sub r _ n c _ => match s.st r with
      | .buf cs _ => OvlF P f ∧ cs ≠ [] ∧ (∀ z ∈ l, 0 < z.width) ∧ n ≤ c ∧ K (.v (.bool false)) s
      | _ => False
    | _, _ => aev P s (.call { callee := .value (.func f), args := ⟨[p, q]⟩, argTypes := tys }) K
  | o => aev P s o K
theorem aevU_sound {P : Program} {s : AS} {o : Op} {K : AV → AS → Prop} (h : aevU P s o K) : EOp P s o K := by
  unfold aevU at h
  split at h
  · split at h
    · split at h
      · split at h
        · split at h
          · obtain ⟨rfl, h⟩ := h
            split at h
            · exact eop_fun (nb := none) (fop_sliceB ‹_› ‹_› ‹_› ‹_› (qcv ‹_›) (qcv ‹_›) h.1 h.2.1) h.2.2
            · exact h.elim
          · exact h.elim
        · exact h.elim
      · exact h.elim
    · exact qce h
  · split at h
    · split at h
      · split at h
        · split at h
          · obtain ⟨rfl, h⟩ := h
            split at h
            · obtain ⟨h1, h2, h3, h4⟩ := h
              refine eop_fun (nb := none) (fop_slice3B ‹_› ‹_› ‹_› ‹_› ?_ ?_ ?_ h1 h2 h3) h4 <;> exact qcv (by assumption)
            · exact h.elim
          · exact h.elim
        · exact h.elim
      · exact h.elim
    · exact qce h
  · split at h
    · split at h
      · split at h
        · exact eop_fun (nb := none) (fop_lenB ‹_› ‹_› ‹_›) h
        · exact h.elim
      · exact h.elim
    · exact qce h
  · split at h
    · split at h
      · split at h
        · exact eop_fun (nb := none) (fop_capB ‹_› ‹_› ‹_›) h
        · exact h.elim
      · exact h.elim
    · exact qce h
  · split at h
    · split at h
      · split at h
        · obtain ⟨rfl, hu, h0, h⟩ := h
          split at h
          · obtain ⟨rfl, rfl, h1, h2, h3, h4, h5, h6⟩ := h
            have hm := Int.toNat_of_nonneg (Int.le_of_lt h0)
            exact eop_appendZ ‹_› hu ‹_› ‹_› (by rw [hm]; assumption) h1 h2 h3 (by omega) h4 h5 h6
          · exact h.elim
        · obtain ⟨rfl, rfl, h⟩ := h
          split at h
          · obtain ⟨rfl, rfl, h⟩ := h
            obtain ⟨news, m, h1, h2, h3, h4, h5, h0, h6, h7⟩ := srcK h
            exact eop_appendB ‹_› ‹_› ‹_› h1 h2 h3 h4 h5 h0 h6 h7
          · exact h.elim
      · exact h.elim
    · exact qce h
  · split at h
    · split at h
      · split at h
        · obtain ⟨rfl, rfl, h⟩ := h
          obtain ⟨news, m, h1, h2, h3, h0, h4⟩ := srcK h
          exact eop_copyB ‹_› ‹_› ‹_› h1 h2 rfl h3 h0 h4
        · exact h.elim
      · exact h.elim
    · exact qce h
  · split at h
    · split at h
      · split at h
        · obtain ⟨rfl, rfl, h1, h2, h3⟩ := h
          exact eop_clearB ‹_› ‹_› ‹_› h1 h2 h3
        · exact h.elim
      · exact h.elim
    · exact qce h
  · split at h
    · split at h
      · exact eop_overlaps h.1 (.inl ⟨rfl, rfl⟩) ‹_› ‹_› h.2.1 ‹_› h.2.2.1 h.2.2.2.1 h.2.2.2.2
      · exact h.elim
    · split at h
      · exact eop_overlaps h.1 (.inr ⟨rfl, rfl⟩) ‹_› ‹_› h.2.1 ‹_› h.2.2.1 h.2.2.2.1 h.2.2.2.2
      · exact h.elim
    · exact qce h
  · exact qce h
def aseqU (P : Program) (ops : Array Oper) (K : AS → Prop) : List Oper → AS → Prop
  | [], s => K s
  | o :: l, s => match awant ops o s.t with
    | some b => qcb b (aevU P s o.op (fun x s1 => dstOk o.dst s1.n ∧ aseqU P ops K l (s1.put o.dst x))) (dstOk o.dst s.n ∧ aseqU P ops K l (s.put o.dst (.v undef)))
    | none => False
theorem aseqU_sound {P : Program} {ops : Array Oper} {K : AS → Prop} : ∀ {l : List Oper} {s : AS}, aseqU P ops K l s → aseq P ops K l s
  | [], _, h => h
  | o :: l, s, h => by
    rw [aseqU] at h
    rw [aseq]
    split at h
    · rename_i b hb
      cases b with
      | true => exact ⟨true, hb, (aevU_sound (h.1 rfl)).mono fun x s1 ⟨h1, h2⟩ => ⟨h1, aseqU_sound h2⟩⟩
      | false => exact ⟨false, hb, (h.2 rfl).1, aseqU_sound (h.2 rfl).2⟩
    · exact h.elim
theorem qj {P : Program} {s : AS} {id : Nat} {l : List Oper} {Q : Exit → AS → Prop} (h : aseqU P l.toArray (Q .normal) l s) : awp P (.region id l.toArray false) Q s := qea (aseqU_sound h)
instance {P : Program} {ops : Array Oper} {K : AS → Prop} {o : Oper} {l : List Oper} {s : AS} : Stp (aseqU P ops K (o :: l) s) (match awant ops o s.t with
    | some b => qcb b (aevU P s o.op (fun x s1 => dstOk o.dst s1.n ∧ aseqU P ops K l (s1.put o.dst x))) (dstOk o.dst s.n ∧ aseqU P ops K l (s.put o.dst (.v undef)))
    | none => False) := ⟨fun h => h⟩
instance {P : Program} {ops : Array Oper} {K : AS → Prop} {s : AS} : Stp (aseqU P ops K [] s) (K s) := ⟨fun h => h⟩
instance {P : Program} {ops : Array Oper} {K : AS → Prop} {l : List Oper} {s : AS} : Inhabited (Tag (aseqU P ops K l s)) := ⟨⟨⟩⟩
instance {β : Type} {p : β → Prop} [∀ x, Inhabited (Tag (p x))] : Inhabited (Tag (∀ x, p x)) := ⟨⟨⟩⟩
instance {p q : Prop} [Inhabited (Tag q)] : Inhabited (Tag (p → q)) := ⟨⟨⟩⟩
attribute [simp] aevU SrcK
end Go.Proofs.YtbkkjlcclddpdaaGreatDoor

/- Regions that draw their order and work on known rows (AB.buf): reads first, one write at the end. -/
namespace Go.Proofs.YtbkkjlcclddpdaaGreatDoor
open Go.RowKit Go.Lib
def aevMU (P : Program) (s : AS) (o : Op) (K : AV → Option AB → Prop) : Prop :=
  match o with
  | .slice t x lo hi none => match s.eval x with
    | .sub r a n c sz => match s.st r with
      | .buf _ _ => match einfo P t with
        | some e => match tinfo P e with
          | some (_, sz') => sz' = sz ∧ (match bndv s.eval lo 0, bndv s.eval hi n with
            | some l, some h => l ≤ h ∧ h ≤ c ∧ K (.sub r (a + l) (h - l) (c - l) sz) none
            | _, _ => False)
          | none => False
        | none => False
      | _ => False
    | _ => aevM P s (.slice t x lo hi none) K
  | .call { callee := .builtin .len, args := ⟨[x]⟩, argTypes := ⟨[t]⟩ } => match s.eval x with
    | .sub r _ n _ _ => match s.st r with
      | .buf _ _ => match einfo P t with
        | some _ => K (.v (.int .i64 n)) none
        | none => False
      | _ => False
    | _ => aevM P s (.call { callee := .builtin .len, args := ⟨[x]⟩, argTypes := ⟨[t]⟩ }) K
  | o => aevM P s o K
theorem aevMU_sound {P : Program} {s : AS} {o : Op} {K : AV → Option AB → Prop} (h : aevMU P s o K) : ∃ x nb, FOp2 P s.eval s.st o x (nb.map (s.nx, ·)) ∧ K x nb := by
  unfold aevMU at h
  split at h
  · split at h
    · split at h
      · split at h
        · split at h
          · obtain ⟨rfl, h⟩ := h
            split at h
            · exact ⟨_, none, (fop_sliceB ‹_› ‹_› ‹_› ‹_› (qcv ‹_›) (qcv ‹_›) h.1 h.2.1).two, h.2.2⟩
            · exact h.elim
          · exact h.elim
        · exact h.elim
      · exact h.elim
    · exact qet h
  · split at h
    · split at h
      · split at h
        · exact ⟨_, none, (fop_lenB ‹_› ‹_› ‹_›).two, h⟩
        · exact h.elim
      · exact h.elim
    · exact qet h
  · exact qet h
def aevWU (P : Program) (s : AS) (o : Op) (K : AV → AS → Prop) : Prop :=
  match o with
  | .call { callee := .builtin .append, args := ⟨[x, y]⟩, argTypes := ⟨[t, t']⟩ } => match s.eval x with
    | .sub r a n c sz => match s.st r with
      | .buf cs e => t' = t ∧ a = 0 ∧ (match vinfo P t with
        | some (e', sz', by_) => e' = e ∧ sz' = sz ∧ SrcK s sz (s.eval y) fun news m => n + m ≤ c ∧ cs.length = c * sz ∧ 0 < c ∧ (n + m) * by_ ≤ 140737488355328 ∧ OneC news ∧
          K (.sub r 0 (n + m) c sz) (s.set r (.buf (cs.take (n * sz) ++ news ++ cs.drop ((n + m) * sz)) e))
        | none => False)
      | _ => False
    | _ => aevW P s (.call { callee := .builtin .append, args := ⟨[x, y]⟩, argTypes := ⟨[t, t']⟩ }) K
  | .call { callee := .builtin .copy, args := ⟨[d, y]⟩, argTypes := ⟨[t, t']⟩ } => match s.eval d with
    | .sub r a n c sz => match s.st r with
      | .buf cs e => match vinfo P t with
        | some (e', sz', _) => e' = e ∧ sz' = sz ∧ SrcK s sz (s.eval y) fun news m => n ≤ c ∧ (a + min m n) * sz ≤ cs.length ∧ OneC (news.take (min m n * sz)) ∧ K (.v (.int .i64 (min m n : Nat))) (s.set r (.buf (cs.take (a * sz) ++ news.take (min m n * sz) ++ cs.drop ((a + min m n) * sz)) e))
        | none => False
      | _ => False
    | _ => aevW P s (.call { callee := .builtin .copy, args := ⟨[d, y]⟩, argTypes := ⟨[t, t']⟩ }) K
  | o => aevW P s o K
theorem src_st {s s' : AS} (h : s'.st = s.st) {sz : Nat} {y : AV} {cs : List Value} {m : Nat} (hs : Src s sz y cs m) : Src s' sz y cs m := by
  unfold Src at hs ⊢
  rw [h]; exact hs
theorem aevWU_sound {P : Program} {s : AS} {o : Op} {K : AV → AS → Prop} (h : aevWU P s o K) : ∃ x s1, WOp P s.eval s.st o x s1.st ∧ (s1.t = s.t ∧ s1.n = s.n ∧ s1.n0 = s.n0) ∧ K x s1 := by
  have hset : ∀ {r : Nat} {ab : AB} {cs : List Value} {e : TypeId}, s.st r = .buf cs e → ((s.set r ab).t = s.t ∧ (s.set r ab).n = s.n ∧ (s.set r ab).n0 = s.n0) := fun {r ab cs e} _ => ⟨(s.set_nx r ab).2.2, (s.set_nx r ab).1, (s.set_nx r ab).2.1⟩
  have hst : ∀ {r : Nat} {ab : AB} {cs : List Value} {e : TypeId} (s' : AS), s.st r = .buf cs e → s'.st = s.st → s'.nx = s.nx → (s'.set r ab).st = (s.set r ab).st := fun {r ab cs e} s' h1 h2 h3 => by
    have hlt : r < s.nx := set_lt h1 (by simp)
    rw [AS.set_st s' r ab (by rw [h3]; exact hlt), AS.set_st s r ab hlt, h2]
  unfold aevWU at h
  split at h
  · split at h
    · split at h
      · obtain ⟨rfl, rfl, h⟩ := h
        split at h
        · obtain ⟨rfl, rfl, h⟩ := h
          obtain ⟨news, m, h1, h2, h3, h4, h5, h0, h6⟩ := srcK h
          refine ⟨_, _, qdo fun s' he hs hn => ?_, hset ‹_›, h6⟩
          exact eop_appendB ‹_› (by rw [he _ (by simp [Op.operands, Call.operands])]; assumption) (by rw [hs]; assumption) (by rw [he _ (by simp [Op.operands, Call.operands])]; exact src_st hs h1) (by omega) h3 h4 h5 h0
            (fun _ => ⟨rfl, hst s' ‹_› hs hn⟩) (fun hg => by omega)
        · exact h.elim
      · exact h.elim
    · exact qdy h
  · split at h
    · split at h
      · split at h
        · obtain ⟨rfl, rfl, h⟩ := h
          obtain ⟨news, m, h1, h2, h3, h0, h4⟩ := srcK h
          refine ⟨_, _, qdo fun s' he hs hn => ?_, hset ‹_›, h4⟩
          exact eop_copyB ‹_› (by rw [he _ (by simp [Op.operands, Call.operands])]; assumption) (by rw [hs]; assumption) (by rw [he _ (by simp [Op.operands, Call.operands])]; exact src_st hs h1) h2 rfl h3 h0 ⟨rfl, hst s' ‹_› hs hn⟩
        · exact h.elim
      · exact h.elim
    · exact qdy h
  · exact qdy h
def anyD (P : Program) (ops : Array Oper) (K : AS → Prop) : List Oper → List RK → AS → Prop
  | [], _, s => K s
  | o :: l, ks, s => match awant ops o s.t with
    | some b => qcb b (match ks.headD .R with
      | .R => aevR P (s.blind []) o.op (fun x nb => nb = none ∧ dstOk o.dst s.n ∧ anyD P ops K l ks.tail (s.put o.dst x))
      | .M => aevMU P s o.op (fun x nb => nb = none ∧ dstOk o.dst s.n ∧ anyD P ops K l ks.tail (s.put o.dst x))
      | .W => aevWU P s o.op (fun x s1 => dstOk o.dst s.n ∧ anyD P ops K l ks.tail (s1.put o.dst x))
      | _ => False) (dstOk o.dst s.n ∧ anyD P ops K l ks.tail (s.put o.dst (.v undef)))
    | none => False
theorem anyD_steps {P : Program} {ops : Array Oper} {q : Nat} {n0 : Nat} {K : AS → Prop} : ∀ (l : List Oper) (ks : List RK) (s : AS), s.n0 = n0 → n0 ≤ q → anyD P ops K l ks s → ∃ st s1 xs bs nbs, AnyRaw P ops l ks st s1 xs bs nbs (loc (fun _ => .unborn) n0 []) q ∧ st 0 = s ∧ K (st l.length)
  | [], ks, s, hn0, hq0, h => by
    refine ⟨fun _ => s, fun _ => s, fun _ => .any, fun _ => true, fun _ => none, ⟨fun r hr j _ => absurd (by unfold loc; split <;> rfl) hr, fun _ _ hi => absurd hi (Nat.not_lt_zero _), ?_, ?_, ?_, ?_, ?_, ?_, ?_, ?_, ?_⟩, rfl, h⟩ <;> (intro i o ho; simp at ho)
  | o :: l, ks, s, hn0, hq0, h => by
    have key : ∀ (x : AV) (b : Bool) (s1 : AS), awant ops o s.t = some b → dstOk o.dst s.n → (s1.t = s.t ∧ s1.n = s.n ∧ s1.n0 = s.n0) → (b = false → x = .v undef ∧ s1 = s) →
        (b = true → ks.headD .R = .R → FOp2 P s.eval (loc (fun _ => .unborn) n0 []) o.op x none ∧ s1 = s) → (b = true → ks.headD .R ≠ .N) → (b = true → ks.headD .R = .M → FOp2 P s.eval s.st o.op x none ∧ s1 = s) →
        (b = true → (ks.headD .R).base = .W → WOp P s.eval s.st o.op x s1.st) → anyD P ops K l ks.tail (s1.put o.dst x) → ∃ st s1 xs bs nbs, AnyRaw P ops (o :: l) ks st s1 xs bs nbs (loc (fun _ => .unborn) n0 []) q ∧ st 0 = s ∧ K (st (o :: l).length) := by
      intro x b s1 hw hd hsame hskip hR hN hM hW hrest
      obtain ⟨st, s1', xs, bs, nbs, hs, h0, hK⟩ := anyD_steps (n0 := n0) l ks.tail _ (by rw [(qds s1 o.dst x).2.2.2, hsame.2.2]; exact hn0) hq0 hrest
      have hks : ∀ i, ks.getD (i + 1) .R = ks.tail.getD i .R := fun i => by cases ks <;> simp
      have hk0 : ks.getD 0 .R = ks.headD .R := by cases ks <;> simp
      refine ⟨fun i => match i with | 0 => s | i + 1 => st i, fun i => match i with | 0 => s1 | i + 1 => s1' i, fun i => match i with | 0 => x | i + 1 => xs i, fun i => match i with | 0 => b | i + 1 => bs i, fun i => match i with | 0 => none | i + 1 => nbs i, ⟨fun r hr j hj => absurd (by unfold loc; split <;> rfl) hr, fun hql => absurd hql (by show ¬ q < s.n0; omega), ?_, ?_, ?_, ?_, ?_, ?_, ?_, ?_, ?_⟩, rfl, hK⟩
      all_goals (intro i o' ho; cases i)
      · simp at ho; subst ho; exact hw
      · exact hs.want _ o' (by simpa using ho)
      · simp at ho; subst ho; exact hd
      · exact hs.dst _ o' (by simpa using ho)
      · simp at ho; subst ho; exact h0
      · exact hs.next _ o' (by simpa using ho)
      · simp at ho; subst ho; exact hsame
      · exact hs.same _ o' (by simpa using ho)
      · simp at ho; subst ho; exact fun hb => ⟨(hskip hb).1, (hskip hb).2, rfl⟩
      · exact hs.skip _ o' (by simpa using ho)
      · simp at ho; subst ho; rw [hk0]; exact fun hb hk => ⟨(hR hb hk).1, (hR hb hk).2, rfl⟩
      · rw [hks]; exact hs.opR _ o' (by simpa using ho)
      · simp at ho; subst ho; rw [hk0]; exact fun hb hk => absurd hk (hN hb)
      · rw [hks]; exact hs.opN _ o' (by simpa using ho)
      · simp at ho; subst ho; rw [hk0]; exact fun hb hk => ⟨(hM hb hk).1, (hM hb hk).2⟩
      · rw [hks]; exact hs.opM _ o' (by simpa using ho)
      · simp at ho; subst ho; rw [hk0]; exact fun hb hk => ⟨hW hb hk, rfl⟩
      · rw [hks]; exact hs.opW _ o' (by simpa using ho)
    rw [anyD] at h
    split at h
    · rename_i bb hw
      cases bb with
      | true =>
        replace h := h.1 rfl
        split at h
        · rename_i hk
          obtain ⟨x, nb, h1, rfl, h2, h3⟩ := aevR_sound h
          rw [blind_st, hn0] at h1
          exact key x true s hw h2 ⟨rfl, rfl, rfl⟩ (fun e => by cases e) (fun _ _ => ⟨h1.two, rfl⟩) (fun _ e => by rw [hk] at e; cases e) (fun _ e => by rw [hk] at e; cases e) (fun _ e => by rw [hk] at e; cases e) h3
        · rename_i hk
          obtain ⟨x, nb, h1, rfl, h2, h3⟩ := aevMU_sound h
          exact key x true s hw h2 ⟨rfl, rfl, rfl⟩ (fun e => by cases e) (fun _ e => by rw [hk] at e; cases e) (fun _ e => by rw [hk] at e; cases e) (fun _ _ => ⟨h1, rfl⟩) (fun _ e => by rw [hk] at e; cases e) h3
        · rename_i hk
          obtain ⟨x, s1, h1, h2, h3, h4⟩ := aevWU_sound h
          exact key x true s1 hw h3 h2 (fun e => by cases e) (fun _ e => by rw [hk] at e; cases e) (fun _ e => by rw [hk] at e; cases e) (fun _ e => by rw [hk] at e; cases e) (fun _ _ => h1) h4
        · exact h.elim
      | false =>
        replace h := h.2 rfl
        exact key (.v undef) false s hw h.1 ⟨rfl, rfl, rfl⟩ (fun _ => ⟨rfl, rfl⟩) (fun e => by cases e) (fun e => by cases e) (fun e => by cases e) (fun e => by cases e) h.2
    · exact h.elim
theorem qcf {P : Program} {s : AS} {id : Nat} {l : List Oper} {Q : Exit → AS → Prop} (ks : List RK) (hm : P.follows .mixedOrders = true) (hB : anyB l ks = true) (h : anyD P l.toArray (Q .normal) l ks s) : awp P (.region id l.toArray true) Q s := by
  obtain ⟨st, s1, xs, bs, nbs, hs, rfl, hK⟩ := anyD_steps (q := s.n0) l ks s rfl (Nat.le_refl _) h
  exact awp_any hm (anyB_ok hB) (raw_steps hB hs) hK
instance {P : Program} {ops : Array Oper} {K : AS → Prop} {o : Oper} {l : List Oper} {ks : List RK} {s : AS} : Stp (anyD P ops K (o :: l) ks s) (match awant ops o s.t with
    | some b => qcb b (match ks.headD .R with
      | .R => aevR P (s.blind []) o.op (fun x nb => nb = none ∧ dstOk o.dst s.n ∧ anyD P ops K l ks.tail (s.put o.dst x))
      | .M => aevMU P s o.op (fun x nb => nb = none ∧ dstOk o.dst s.n ∧ anyD P ops K l ks.tail (s.put o.dst x))
      | .W => aevWU P s o.op (fun x s1 => dstOk o.dst s.n ∧ anyD P ops K l ks.tail (s1.put o.dst x))
      | _ => False) (dstOk o.dst s.n ∧ anyD P ops K l ks.tail (s.put o.dst (.v undef)))
    | none => False) := ⟨fun h => h⟩
instance {P : Program} {ops : Array Oper} {K : AS → Prop} {ks : List RK} {s : AS} : Stp (anyD P ops K [] ks s) (K s) := ⟨fun h => h⟩
attribute [simp] aevMU aevWU
instance {P : Program} {ops : Array Oper} {K : AS → Prop} {l : List Oper} {ks : List RK} {s : AS} : Inhabited (Tag (anyD P ops K l ks s)) := ⟨⟨⟩⟩
structure Hold (p : Prop) : Prop where
  out : p
theorem qs {P : Program} {s : AS} {Q : Exit → AS → Prop} (h : Hold (awp P .ret Q s)) : awp P .ret Q s := h.out
theorem qbg {P : Program} {s : AS} {id : Nat} {l : Array Oper} {d : Bool} {Q : Exit → AS → Prop} (h : Hold (awp P (.region id l d) Q s)) : awp P (.region id l d) Q s := h.out
end Go.Proofs.YtbkkjlcclddpdaaGreatDoor

/- The library's Clone, Delete, Replace, Insert at structs. -/
namespace Go.Proofs.YtbkkjlcclddpdaaGreatDoor
open Go.RowKit Go.Lib
theorem rawsL_take {l : List AV} {sz : Nat} (hl : l.all rawOk = true) (hw : AV.wid l sz) {k : Nat} (hk : k ≤ l.length) : (rawsL l).take (k * sz) = rawsL (l.take k) := by
  conv => lhs; rw [← List.take_append_drop k l, qy]
  have h1 : (rawsL (l.take k)).length = k * sz := by
    rw [qek (by rw [List.all_eq_true] at hl ⊢; exact fun x hx => hl x (List.mem_of_mem_take hx)) (fun x hx => hw x (List.mem_of_mem_take hx)), List.length_take, Nat.min_eq_left hk]
  rw [← h1, List.take_left]
theorem rawsL_drop {l : List AV} {sz : Nat} (hl : l.all rawOk = true) (hw : AV.wid l sz) {k : Nat} (hk : k ≤ l.length) : (rawsL l).drop (k * sz) = rawsL (l.drop k) := by
  conv => lhs; rw [← List.take_append_drop k l, qy]
  have h1 : (rawsL (l.take k)).length = k * sz := by
    rw [qek (by rw [List.all_eq_true] at hl ⊢; exact fun x hx => hl x (List.mem_of_mem_take hx)) (fun x hx => hw x (List.mem_of_mem_take hx)), List.length_take, Nat.min_eq_left hk]
  rw [← h1, List.drop_left]
theorem raw_cols (L : List Col) : (L.map Col.av).all rawOk = true := by
  rw [List.all_eq_true]; intro x hx; obtain ⟨c, -, rfl⟩ := List.mem_map.1 hx; rfl
theorem qdh (L : List Val) : (L.map Val.av).all rawOk = true := by
  rw [List.all_eq_true]; intro x hx; obtain ⟨c, -, rfl⟩ := List.mem_map.1 hx; rfl
theorem wid_cols (L : List Col) : AV.wid (L.map Col.av) 3 := Col.avs_wid L
section
variable {bs : List Value} {l : List AV} {n sz : Nat} (hl : l.all rawOk = true) (hw : AV.wid l sz) (hn : l.length = n) (hbs : bs.take (n * sz) = rawsL l)
include hl hw hn hbs
theorem row_take {k : Nat} (hk : k ≤ n) : bs.take (k * sz) = rawsL (l.take k) := by
  rw [← rawsL_take hl hw (by omega), ← hbs, List.take_take, Nat.min_eq_left (Nat.mul_le_mul_right _ hk)]
theorem row_mid {a k : Nat} (hk : a + k ≤ n) : (bs.drop (a * sz)).take (k * sz) = rawsL ((l.drop a).take k) := by
  rw [List.take_drop, ← Nat.add_mul, row_take hl hw hn hbs hk, rawsL_drop (by rw [List.all_eq_true] at hl ⊢; exact fun x hx => hl x (List.mem_of_mem_take hx)) (fun x hx => hw x (List.mem_of_mem_take hx)) (by rw [List.length_take]; omega), List.drop_take]
  congr 2
  omega
end
theorem qde {l : List AV} {sz : Nat} (hl : l.all rawOk = true) (hw : AV.wid l sz) {k : Nat} (hk : l.length = k) : (rawsL l).length = k * sz := by rw [qek hl hw, hk]
theorem qgn {l m : List AV} (hl : l.all rawOk = true) (h : ∀ x ∈ m, x ∈ l) : m.all rawOk = true := by
  rw [List.all_eq_true] at hl ⊢; exact fun x hx => hl x (h x hx)
theorem del_row {bs T T2 : List Value} {l : List AV} {n i sz : Nat} (hl : l.all rawOk = true) (hw : AV.wid l sz) (hn : l.length = n) (hbs : bs.take (n * sz) = rawsL l) (hi : i < n) :
    ((bs.take (i * sz) ++ ((bs.drop ((i + 1) * sz)).take ((n - (i + 1)) * sz) ++ T)).take ((n - 1) * sz) ++ T2).take ((n - 1) * sz) = rawsL (l.eraseIdx i) := by
  have e1 := row_take hl hw hn hbs (k := i) (by omega)
  have e2 := row_mid hl hw hn hbs (a := i + 1) (k := n - (i + 1)) (by omega)
  have e3 : (l.drop (i + 1)).take (n - (i + 1)) = l.drop (i + 1) := List.take_of_length_le (by rw [List.length_drop]; omega)
  rw [e1, e2, e3, ← List.append_assoc, ← qy, ← List.eraseIdx_eq_take_drop_succ]
  have hs : ∀ x ∈ l.eraseIdx i, x ∈ l := fun x hx => List.mem_of_mem_eraseIdx hx
  have e4 := qde (qgn hl hs) (fun x hx => hw x (hs x hx)) (k := n - 1) (sz := sz) (by rw [List.length_eraseIdx_of_lt (by omega)]; omega)
  rw [← e4, List.take_left, List.take_left]
theorem qbr {α β : Type} (f : α → β) (l : List α) (i : Nat) : (l.eraseIdx i).map f = (l.map f).eraseIdx i := by
  rw [List.eraseIdx_eq_take_drop_succ, List.eraseIdx_eq_take_drop_succ, List.map_append, List.map_take, List.map_drop]
theorem one_mid {bs : List Value} {a k m : Nat} (h : OneC (bs.take m)) (hk : a + k ≤ m) : OneC ((bs.drop a).take k) := fun u hu => by
  refine h u ?_
  rw [List.take_drop] at hu
  have := List.mem_of_mem_drop hu
  exact (List.take_subset_take_left bs (by omega)) this
theorem drop_far {α : Type} {P B : List α} {a k : Nat} (hP : P.length = a) (hk : a ≤ k) : (P ++ B.drop a).drop k = B.drop k := by
  obtain ⟨d, rfl⟩ := Nat.exists_eq_add_of_le hk
  subst hP
  rw [← List.drop_drop, List.drop_left, List.drop_drop]
theorem drop_tk {α : Type} {P T : List α} {a : Nat} (hP : P.length = a) : (P ++ T).drop a = T := by subst hP; exact List.drop_left
theorem take_tk {α : Type} {P T : List α} {a : Nat} (hP : P.length = a) : (P ++ T).take a = P := by subst hP; exact List.take_left
theorem del_bC (l : List AV) (i n c : Nat) (bs : List Value) (hi : i < n) (hn : l.length = n) (hraw : l.all rawOk = true) (hw : AV.wid l 3) (hL : n ≤ 1000000) (hc : n ≤ c) (hcm : c ≤ 9223372036854775807) (hlen : bs.length = c * 3) (hbs : bs.take (n * 3) = rawsL l) (hcl' : ∀ m, AV.cls m (l.eraseIdx i)) {τ : Nat → AB} {r : Nat} (hτ : τ r = .buf bs 53) :
    AC Tryz.prog 48 [.sub r 0 n c 3, .int (i : Int), .int ((i : Int) + 1)] τ fun y τ' => y = .sl (l.eraseIdx i) ∧ τ' = upd τ r .dead := by
  refine qfo Tryz.func48 Tryz.ntmps48 rfl rfl (by decide) rfl (by intro n; first | (simp; done) | exact hcl' n | (simp; exact hcl' n)) (by intro n; simp) ?_ fun n0 hrn hcl hft => ?_
  · rw [hτ]; simp
  have h1 : ((i : Int)).toNat = i := by omega
  have h2 : ((i : Int) + 1).toNat = i + 1 := by omega
  have h4 : ((i : Int) = (i : Int) + 1) = False := eq_false (by omega)
  have h6 : (0 ≤ (i : Int) + 1) = True := eq_true (by omega)
  have h5 : i + (n - (i + 1)) = n - 1 := by omega
  have hone : OneC (bs.take (n * 3)) := by rw [hbs]; exact raw_one hraw
  have ho : OneC ((bs.drop ((i + 1) * 3)).take ((n - (i + 1)) * 3)) := one_mid hone (by omega)
  have hl : ∀ (σ : Nat → AB) (L : List AB), loc σ n0 L r = σ r := fun σ L => qct σ n0 r L hrn
  repeat' (first | ((first | ((with_reducible refine qf (fun hg => ?_) (fun hg => ?_)) <;> (try simp only [hg]) <;> (try simp only [gS] at hg) <;> (try (first | simp only [eq_false hg, gI] | simp only [eq_true hg, gI]))) | refine Stp.m ?_) <;> (try simp (disch := first | omega | simp) [qd, -qg, -ql, hlen, hτ, ho, hl, hrn, h1, h2, h4, h5, h6])) | with_reducible refine qj (id := 1) ?_ | with_reducible refine qj (id := 4) ?_ | with_reducible refine qj (id := 6) ?_ | with_reducible refine qcf (id := 5) [.R, .R, .M, .R, .R, .M, .W, .R] (by kernel_rfl) (by kernel_rfl) ?_ | refine sideA ?_ | refine qc fun K hK => ?_ | refine qa ?_ | refine qe ?_ | refine qb ?_ | (refine hK _ ?_; clear hK K) | clear hK K)
  · omega
  intro zs hzs
  repeat' (first | ((first | ((with_reducible refine qf (fun hg => ?_) (fun hg => ?_)) <;> (try simp only [hg]) <;> (try simp only [gS] at hg) <;> (try (first | simp only [eq_false hg, gI] | simp only [eq_true hg, gI]))) | refine Stp.m ?_) <;> (try simp (disch := first | omega | simp) [qd, -qg, -ql, hlen, hτ, ho, hl, hrn, h1, h2, h4, h5, h6, hzs])) | with_reducible refine qj (id := 6) ?_ | with_reducible refine qbg (id := 7) ?_ | refine sideA ?_ | refine qc fun K hK => ?_ | refine qa ?_ | refine qe ?_ | refine qb ?_ | (refine hK _ ?_; clear hK K) | clear hK K)
  refine ⟨qr (r := r) (n := n - 1) 0 (l.eraseIdx i) (by simp) (by simp [hl]; exact ⟨rfl, rfl⟩) (qgn hraw fun x hx => List.mem_of_mem_eraseIdx hx) (fun x hx => hw x (List.mem_of_mem_eraseIdx hx)) (by rw [List.length_eraseIdx_of_lt (by omega), hn]) (by omega) hcm (del_row hraw hw hn hbs (by omega)) ?_⟩
  repeat' (first | ((first | ((with_reducible refine qf (fun hg => ?_) (fun hg => ?_)) <;> (try simp only [hg]) <;> (try simp only [gS] at hg) <;> (try (first | simp only [eq_false hg, gI] | simp only [eq_true hg, gI]))) | refine Stp.m ?_) <;> (try simp (disch := first | omega | simp) [qd, -qg, -ql, hl, hrn])) | refine sideA ?_ | refine qc fun K hK => ?_ | refine qa ?_ | refine qe ?_ | refine qb ?_ | (refine hK _ ?_; clear hK K) | clear hK K)
theorem del_acC (l : List AV) (i n : Nat) (hi : i < n) (hn : l.length = n) (hraw : l.all rawOk = true) (hw : AV.wid l 3) (hL : n ≤ 1000000) (hcl' : ∀ m, AV.cls m (l.eraseIdx i)) {σ : Nat → AB} {r : Nat} (hσ : σ r = .vec l 53 3) :
    AC Tryz.prog 48 [.own r n, .int (i : Int), .int ((i : Int) + 1)] σ fun y τ => y = .sl (l.eraseIdx i) ∧ τ = upd σ r .dead := by
  refine ac_thaw hσ hn.symm (fun h => by rw [h] at hn; simp at hn; omega) (by decide) hraw hw hcl' fun r' c rest hr' hu hc hcm hrest => ?_
  have e1 := qde hraw hw hn
  exact del_bC l i n c (rawsL l ++ rest) hi hn hraw hw hL hc hcm (by rw [List.length_append, e1, hrest, ← Nat.add_mul]; congr 1; omega) (by rw [← e1, List.take_left]) hcl' (by simp)
theorem del_bV (l : List AV) (i n c : Nat) (bs : List Value) (hi : i < n) (hn : l.length = n) (hraw : l.all rawOk = true) (hw : AV.wid l 3) (hL : n ≤ 1000000) (hc : n ≤ c) (hcm : c ≤ 9223372036854775807) (hlen : bs.length = c * 3) (hbs : bs.take (n * 3) = rawsL l) (hcl' : ∀ m, AV.cls m (l.eraseIdx i)) {τ : Nat → AB} {r : Nat} (hτ : τ r = .buf bs 27) :
    AC Tryz.prog 105 [.sub r 0 n c 3, .int (i : Int), .int ((i : Int) + 1)] τ fun y τ' => y = .sl (l.eraseIdx i) ∧ τ' = upd τ r .dead := by
  refine qfo Tryz.func105 Tryz.ntmps105 rfl rfl (by decide) rfl (by intro n; first | (simp; done) | exact hcl' n | (simp; exact hcl' n)) (by intro n; simp) ?_ fun n0 hrn hcl hft => ?_
  · rw [hτ]; simp
  have h1 : ((i : Int)).toNat = i := by omega
  have h2 : ((i : Int) + 1).toNat = i + 1 := by omega
  have h4 : ((i : Int) = (i : Int) + 1) = False := eq_false (by omega)
  have h6 : (0 ≤ (i : Int) + 1) = True := eq_true (by omega)
  have h5 : i + (n - (i + 1)) = n - 1 := by omega
  have hone : OneC (bs.take (n * 3)) := by rw [hbs]; exact raw_one hraw
  have ho : OneC ((bs.drop ((i + 1) * 3)).take ((n - (i + 1)) * 3)) := one_mid hone (by omega)
  have hl : ∀ (σ : Nat → AB) (L : List AB), loc σ n0 L r = σ r := fun σ L => qct σ n0 r L hrn
  repeat' (first | ((first | ((with_reducible refine qf (fun hg => ?_) (fun hg => ?_)) <;> (try simp only [hg]) <;> (try simp only [gS] at hg) <;> (try (first | simp only [eq_false hg, gI] | simp only [eq_true hg, gI]))) | refine Stp.m ?_) <;> (try simp (disch := first | omega | simp) [qd, -qg, -ql, hlen, hτ, ho, hl, hrn, h1, h2, h4, h5, h6])) | with_reducible refine qj (id := 1) ?_ | with_reducible refine qj (id := 4) ?_ | with_reducible refine qj (id := 6) ?_ | with_reducible refine qcf (id := 5) [.R, .R, .M, .R, .R, .M, .W, .R] (by kernel_rfl) (by kernel_rfl) ?_ | refine sideA ?_ | refine qc fun K hK => ?_ | refine qa ?_ | refine qe ?_ | refine qb ?_ | (refine hK _ ?_; clear hK K) | clear hK K)
  · omega
  intro zs hzs
  repeat' (first | ((first | ((with_reducible refine qf (fun hg => ?_) (fun hg => ?_)) <;> (try simp only [hg]) <;> (try simp only [gS] at hg) <;> (try (first | simp only [eq_false hg, gI] | simp only [eq_true hg, gI]))) | refine Stp.m ?_) <;> (try simp (disch := first | omega | simp) [qd, -qg, -ql, hlen, hτ, ho, hl, hrn, h1, h2, h4, h5, h6, hzs])) | with_reducible refine qj (id := 6) ?_ | with_reducible refine qbg (id := 7) ?_ | refine sideA ?_ | refine qc fun K hK => ?_ | refine qa ?_ | refine qe ?_ | refine qb ?_ | (refine hK _ ?_; clear hK K) | clear hK K)
  refine ⟨qr (r := r) (n := n - 1) 0 (l.eraseIdx i) (by simp) (by simp [hl]; exact ⟨rfl, rfl⟩) (qgn hraw fun x hx => List.mem_of_mem_eraseIdx hx) (fun x hx => hw x (List.mem_of_mem_eraseIdx hx)) (by rw [List.length_eraseIdx_of_lt (by omega), hn]) (by omega) hcm (del_row hraw hw hn hbs (by omega)) ?_⟩
  repeat' (first | ((first | ((with_reducible refine qf (fun hg => ?_) (fun hg => ?_)) <;> (try simp only [hg]) <;> (try simp only [gS] at hg) <;> (try (first | simp only [eq_false hg, gI] | simp only [eq_true hg, gI]))) | refine Stp.m ?_) <;> (try simp (disch := first | omega | simp) [qd, -qg, -ql, hl, hrn])) | refine sideA ?_ | refine qc fun K hK => ?_ | refine qa ?_ | refine qe ?_ | refine qb ?_ | (refine hK _ ?_; clear hK K) | clear hK K)
theorem del_acV (l : List AV) (i n : Nat) (hi : i < n) (hn : l.length = n) (hraw : l.all rawOk = true) (hw : AV.wid l 3) (hL : n ≤ 1000000) (hcl' : ∀ m, AV.cls m (l.eraseIdx i)) {σ : Nat → AB} {r : Nat} (hσ : σ r = .vec l 27 3) :
    AC Tryz.prog 105 [.own r n, .int (i : Int), .int ((i : Int) + 1)] σ fun y τ => y = .sl (l.eraseIdx i) ∧ τ = upd σ r .dead := by
  refine ac_thaw hσ hn.symm (fun h => by rw [h] at hn; simp at hn; omega) (by decide) hraw hw hcl' fun r' c rest hr' hu hc hcm hrest => ?_
  have e1 := qde hraw hw hn
  exact del_bV l i n c (rawsL l ++ rest) hi hn hraw hw hL hc hcm (by rw [List.length_append, e1, hrest, ← Nat.add_mul]; congr 1; omega) (by rw [← e1, List.take_left]) hcl' (by simp)
theorem ovlC : OvlF Tryz.prog 100 := by
  refine ⟨_, 35, 4, 53, 3, Tryz.func100, ?_, ?_, ?_, ?_, ?_, fun w => (qca (ag := (tinfo Tryz.prog 53).get!.1) (by kernel_rfl) w).2⟩
  all_goals kernel_rfl
theorem ovlV : OvlF Tryz.prog 137 := by
  refine ⟨_, 36, 4, 27, 3, Tryz.func137, ?_, ?_, ?_, ?_, ?_, fun w => (qca (ag := (tinfo Tryz.prog 27).get!.1) (by kernel_rfl) w).2⟩
  all_goals kernel_rfl
end Go.Proofs.YtbkkjlcclddpdaaGreatDoor

/- Walks of lens: names, right steps. -/
namespace Go.Proofs.YtbkkjlcclddpdaaGreatDoor
open Go.RowKit Go.Lib
theorem isName_g (s : ByteArray) (hs : s.size ≤ 1000000) : Gives Tryz.prog 34 [.str s] (.bool (ownA s)) := by
  refine qh Tryz.func34 Tryz.ntmps34 fun σ n0 hcl hft => ?_
  repeat' (first | ((first | ((with_reducible refine qf (fun hg => ?_) (fun hg => ?_)) <;> (try simp only [hg]) <;> (try simp only [gS] at hg) <;> (try (first | simp only [eq_false hg, gI] | simp only [eq_true hg, gI]))) | refine Stp.m ?_ | refine acall (qdi s) ?_ | refine qo (qdi s) ?_ | refine acall (name_g s hs) ?_ | refine qo (name_g s hs) ?_) <;> (try simp (disch := first | omega | simp) [qd, -qg, -ql])) | refine sideA ?_ | refine qc fun K hK => ?_ | refine qa ?_ | refine qe ?_ | refine qb ?_ | (refine hK _ ?_; clear hK K) | clear hK K)
  all_goals (first | rfl | (simp_all [ownA, ownP]; done))
theorem qbs (s : ByteArray) : s.toList.isEmpty = strE s := by unfold strE; cases s.toList <;> simp
theorem usedName_g (s : ByteArray) (b : Bool) (hs : s.size ≤ 1000000) : Gives Tryz.prog 69 [.str s, .bool b] (.bool (if b then ownA s else strE s)) := by
  cases b <;>
  · refine qh Tryz.func69 Tryz.ntmps69 fun σ n0 hcl hft => ?_
    repeat' (first | ((first | ((with_reducible refine qf (fun hg => ?_) (fun hg => ?_)) <;> (try simp only [hg]) <;> (try simp only [gS] at hg) <;> (try (first | simp only [eq_false hg, gI] | simp only [eq_true hg, gI]))) | refine Stp.m ?_ | refine acall (isName_g s hs) ?_ | refine qo (isName_g s hs) ?_) <;> (try simp (disch := first | omega | simp) [qd, -qg, -ql])) | refine sideA ?_ | refine qc fun K hK => ?_ | refine qa ?_ | refine qe ?_ | refine qb ?_ | (refine hK _ ?_; clear hK K) | clear hK K)
    all_goals (first | rfl | (exact qbs s) | (simp_all [strE]; done))
structure qbq (x : Lens) : Prop where
  a : x.a.size ≤ 1000000
  b : x.b.size ≤ 1000000
  c : x.c.size ≤ 1000000
  sep : x.sep.size ≤ 1000000
def usedC : List (Bool × Bool × Bool × Bool × Bool) := [(true, false, false, false, true), (false, false, false, false, true), (true, false, false, false, false), (true, true, true, false, false), (false, false, false, true, true), (true, false, false, true, false), (false, false, false, true, false)]
set_option maxRecDepth 4000 in
set_option maxHeartbeats 4000000 in
theorem used_g (x : Lens) (hx : qbq x) (b c sep n v : Bool) (h : (b, c, sep, n, v) ∈ usedC) : Gives Tryz.prog 35 [x.av, .agg [.bool b, .bool c, .bool sep, .bool n, .bool v]] (.bool (usedB x b c sep n v)) := by
  have g1 := fun t => usedName_g x.b t hx.b
  have g2 := fun t => usedName_g x.c t hx.c
  have g3 := vright_g x.value
  have ta : aeq Tryz.prog .eql 27 x.value.av (AV.agg [.int 0, .int 0, .str ByteArray.empty]) = some (val0B x.value) := Val.aeq x.value val0
  simp only [usedC, List.mem_cons, Prod.mk.injEq, List.not_mem_nil, or_false] at h
  rcases h with ⟨rfl, rfl, rfl, rfl, rfl⟩ | ⟨rfl, rfl, rfl, rfl, rfl⟩ | ⟨rfl, rfl, rfl, rfl, rfl⟩ | ⟨rfl, rfl, rfl, rfl, rfl⟩ | ⟨rfl, rfl, rfl, rfl, rfl⟩ | ⟨rfl, rfl, rfl, rfl, rfl⟩ | ⟨rfl, rfl, rfl, rfl, rfl⟩
  · refine qh Tryz.func35 Tryz.ntmps35 fun σ n0 hcl hft => ?_
    repeat' (first | ((first | ((with_reducible refine qf (fun hg => ?_) (fun hg => ?_)) <;> (try simp only [hg]) <;> (try simp only [gS] at hg) <;> (try (first | simp only [eq_false hg, gI] | simp only [eq_true hg, gI]))) | refine Stp.m ?_ | refine acall (g1 _) ?_ | refine qo (g1 _) ?_ | refine acall (g2 _) ?_ | refine qo (g2 _) ?_ | refine qi ?_ | refine agH ?_) <;> (try simp (disch := first | omega | simp) [qd, -qg, -ql, ta])) | refine sideA ?_ | refine qc fun K hK => ?_ | refine qa ?_ | refine qe ?_ | refine qb ?_ | (refine hK _ ?_; clear hK K) | clear hK K)
    all_goals (clear g1 g2 g3 ta hcl hft; (try simp only [qbs] at *); first | (simp_all [usedB, sepB, val0B, val0]; done) | (simp_all [usedB, sepB, val0B, val0]; omega))
  · refine qh Tryz.func35 Tryz.ntmps35 fun σ n0 hcl hft => ?_
    repeat' (first | ((first | ((with_reducible refine qf (fun hg => ?_) (fun hg => ?_)) <;> (try simp only [hg]) <;> (try simp only [gS] at hg) <;> (try (first | simp only [eq_false hg, gI] | simp only [eq_true hg, gI]))) | refine Stp.m ?_ | refine acall (g1 _) ?_ | refine qo (g1 _) ?_ | refine acall (g2 _) ?_ | refine qo (g2 _) ?_ | refine qi ?_ | refine agH ?_) <;> (try simp (disch := first | omega | simp) [qd, -qg, -ql, ta])) | refine sideA ?_ | refine qc fun K hK => ?_ | refine qa ?_ | refine qe ?_ | refine qb ?_ | (refine hK _ ?_; clear hK K) | clear hK K)
    all_goals (clear g1 g2 g3 ta hcl hft; (try simp only [qbs] at *); first | (simp_all [usedB, sepB, val0B, val0]; done) | (simp_all [usedB, sepB, val0B, val0]; omega))
  · refine qh Tryz.func35 Tryz.ntmps35 fun σ n0 hcl hft => ?_
    repeat' (first | ((first | ((with_reducible refine qf (fun hg => ?_) (fun hg => ?_)) <;> (try simp only [hg]) <;> (try simp only [gS] at hg) <;> (try (first | simp only [eq_false hg, gI] | simp only [eq_true hg, gI]))) | refine Stp.m ?_ | refine acall (g1 _) ?_ | refine qo (g1 _) ?_ | refine acall (g2 _) ?_ | refine qo (g2 _) ?_ | refine qi ?_ | refine agH ?_) <;> (try simp (disch := first | omega | simp) [qd, -qg, -ql, ta])) | refine sideA ?_ | refine qc fun K hK => ?_ | refine qa ?_ | refine qe ?_ | refine qb ?_ | (refine hK _ ?_; clear hK K) | clear hK K)
    all_goals (clear g1 g2 g3 ta hcl hft; (try simp only [qbs] at *); first | (simp_all [usedB, sepB, val0B, val0]; done) | (simp_all [usedB, sepB, val0B, val0]; omega))
  · refine qh Tryz.func35 Tryz.ntmps35 fun σ n0 hcl hft => ?_
    repeat' (first | ((first | ((with_reducible refine qf (fun hg => ?_) (fun hg => ?_)) <;> (try simp only [hg]) <;> (try simp only [gS] at hg) <;> (try (first | simp only [eq_false hg, gI] | simp only [eq_true hg, gI]))) | refine Stp.m ?_ | refine acall (g1 _) ?_ | refine qo (g1 _) ?_ | refine acall (g2 _) ?_ | refine qo (g2 _) ?_ | refine qi ?_ | refine agH ?_) <;> (try simp (disch := first | omega | simp) [qd, -qg, -ql, ta])) | refine sideA ?_ | refine qc fun K hK => ?_ | refine qa ?_ | refine qe ?_ | refine qb ?_ | (refine hK _ ?_; clear hK K) | clear hK K)
    all_goals (clear g1 g2 g3 ta hcl hft; (try simp only [qbs] at *); first | (simp_all [usedB, sepB, val0B, val0]; done) | (simp_all [usedB, sepB, val0B, val0]; omega))
  · refine qh Tryz.func35 Tryz.ntmps35 fun σ n0 hcl hft => ?_
    repeat' (first | ((first | ((with_reducible refine qf (fun hg => ?_) (fun hg => ?_)) <;> (try simp only [hg]) <;> (try simp only [gS] at hg) <;> (try (first | simp only [eq_false hg, gI] | simp only [eq_true hg, gI]))) | refine Stp.m ?_ | refine acall (g1 _) ?_ | refine qo (g1 _) ?_ | refine acall (g2 _) ?_ | refine qo (g2 _) ?_ | refine qi ?_ | refine agH ?_) <;> (try simp (disch := first | omega | simp) [qd, -qg, -ql, ta])) | refine sideA ?_ | refine qc fun K hK => ?_ | refine qa ?_ | refine qe ?_ | refine qb ?_ | (refine hK _ ?_; clear hK K) | clear hK K)
    all_goals (clear g1 g2 g3 ta hcl hft; (try simp only [qbs] at *); first | (simp_all [usedB, sepB, val0B, val0]; done) | (simp_all [usedB, sepB, val0B, val0]; omega))
  · refine qh Tryz.func35 Tryz.ntmps35 fun σ n0 hcl hft => ?_
    repeat' (first | ((first | ((with_reducible refine qf (fun hg => ?_) (fun hg => ?_)) <;> (try simp only [hg]) <;> (try simp only [gS] at hg) <;> (try (first | simp only [eq_false hg, gI] | simp only [eq_true hg, gI]))) | refine Stp.m ?_ | refine acall (g1 _) ?_ | refine qo (g1 _) ?_ | refine acall (g2 _) ?_ | refine qo (g2 _) ?_ | refine qi ?_ | refine agH ?_) <;> (try simp (disch := first | omega | simp) [qd, -qg, -ql, ta])) | refine sideA ?_ | refine qc fun K hK => ?_ | refine qa ?_ | refine qe ?_ | refine qb ?_ | (refine hK _ ?_; clear hK K) | clear hK K)
    all_goals (clear g1 g2 g3 ta hcl hft; (try simp only [qbs] at *); first | (simp_all [usedB, sepB, val0B, val0]; done) | (simp_all [usedB, sepB, val0B, val0]; omega))
  · refine qh Tryz.func35 Tryz.ntmps35 fun σ n0 hcl hft => ?_
    repeat' (first | ((first | ((with_reducible refine qf (fun hg => ?_) (fun hg => ?_)) <;> (try simp only [hg]) <;> (try simp only [gS] at hg) <;> (try (first | simp only [eq_false hg, gI] | simp only [eq_true hg, gI]))) | refine Stp.m ?_ | refine acall (g1 _) ?_ | refine qo (g1 _) ?_ | refine acall (g2 _) ?_ | refine qo (g2 _) ?_ | refine qi ?_ | refine agH ?_) <;> (try simp (disch := first | omega | simp) [qd, -qg, -ql, ta])) | refine sideA ?_ | refine qc fun K hK => ?_ | refine qa ?_ | refine qe ?_ | refine qb ?_ | (refine hK _ ?_; clear hK K) | clear hK K)
    all_goals (clear g1 g2 g3 ta hcl hft; (try simp only [qbs] at *); first | (simp_all [usedB, sepB, val0B, val0]; done) | (simp_all [usedB, sepB, val0B, val0]; omega))
end Go.Proofs.YtbkkjlcclddpdaaGreatDoor

/- Walk of lens.Right. -/
namespace Go.Proofs.YtbkkjlcclddpdaaGreatDoor
open Go.RowKit Go.Lib
set_option maxRecDepth 4000 in
set_option maxHeartbeats 4000000 in
theorem qes (x : Lens) (hx : qbq x) : Gives Tryz.prog 11 [x.av] (.bool (qbz x)) := by
  have u0 := fun b => used_g x hx b false false false true (by cases b <;> simp [usedC])
  have u2 := used_g x hx true false false false false (by simp [usedC])
  have u3 := used_g x hx true true true false false (by simp [usedC])
  have u5 := used_g x hx false false false true true (by simp [usedC])
  have u6 := fun b => used_g x hx b false false true false (by cases b <;> simp [usedC])
  have n1 := isName_g x.a hx.a
  have ho : x.op = 0 ∨ x.op = 1 ∨ x.op = 2 ∨ x.op = 3 ∨ x.op = 4 ∨ x.op = 5 ∨ x.op = 6 ∨ (x.op ≠ 0 ∧ x.op ≠ 1 ∧ x.op ≠ 2 ∧ x.op ≠ 3 ∧ x.op ≠ 4 ∧ x.op ≠ 5 ∧ x.op ≠ 6) := by omega
  unfold qbz
  rcases ho with ho | ho | ho | ho | ho | ho | ho | ⟨o0, o1, o2, o3, o4, o5, o6⟩
  · have c0 : (x.op = 0) = True := eq_true ho
    have c1 : (x.op = 1) = False := eq_false (by omega)
    have c2 : (x.op = 2) = False := eq_false (by omega)
    have c3 : (x.op = 3) = False := eq_false (by omega)
    have c4 : (x.op = 4) = False := eq_false (by omega)
    have c5 : (x.op = 5) = False := eq_false (by omega)
    have c6 : (x.op = 6) = False := eq_false (by omega)
    refine qh Tryz.func11 Tryz.ntmps11 fun σ n0 hcl hft => ?_
    repeat' (first | ((first | ((with_reducible refine qf (fun hg => ?_) (fun hg => ?_)) <;> (try simp only [hg]) <;> (try simp only [gS] at hg) <;> (try (first | simp only [eq_false hg, gI] | simp only [eq_true hg, gI]))) | refine Stp.m ?_ | refine acall (u0 _) ?_ | refine qo (u0 _) ?_ | refine qi ?_ | refine agH ?_) <;> (try simp (disch := first | omega | simp) [qd, -qg, -ql, c0, c1, c2, c3, c4, c5, c6])) | refine sideA ?_ | refine qc fun K hK => ?_ | refine qa ?_ | refine qe ?_ | refine qb ?_ | (refine hK _ ?_; clear hK K) | clear hK K)
    all_goals (clear u0 u2 u3 u5 u6 n1 hcl hft; (try simp only [qbs] at *); first | (simp_all [strE]; done) | (rw [Bool.eq_iff_iff]; simp_all [strE]; done) | (simp_all [strE]; omega))
  · have c0 : (x.op = 0) = False := eq_false (by omega)
    have c1 : (x.op = 1) = True := eq_true ho
    have c2 : (x.op = 2) = False := eq_false (by omega)
    have c3 : (x.op = 3) = False := eq_false (by omega)
    have c4 : (x.op = 4) = False := eq_false (by omega)
    have c5 : (x.op = 5) = False := eq_false (by omega)
    have c6 : (x.op = 6) = False := eq_false (by omega)
    refine qh Tryz.func11 Tryz.ntmps11 fun σ n0 hcl hft => ?_
    repeat' (first | ((first | ((with_reducible refine qf (fun hg => ?_) (fun hg => ?_)) <;> (try simp only [hg]) <;> (try simp only [gS] at hg) <;> (try (first | simp only [eq_false hg, gI] | simp only [eq_true hg, gI]))) | refine Stp.m ?_ | refine acall (u0 _) ?_ | refine qo (u0 _) ?_ | refine qi ?_ | refine agH ?_) <;> (try simp (disch := first | omega | simp) [qd, -qg, -ql, c0, c1, c2, c3, c4, c5, c6])) | refine sideA ?_ | refine qc fun K hK => ?_ | refine qa ?_ | refine qe ?_ | refine qb ?_ | (refine hK _ ?_; clear hK K) | clear hK K)
    all_goals (clear u0 u2 u3 u5 u6 n1 hcl hft; (try simp only [qbs] at *); first | (simp_all [strE]; done) | (rw [Bool.eq_iff_iff]; simp_all [strE]; done) | (simp_all [strE]; omega))
  · have c0 : (x.op = 0) = False := eq_false (by omega)
    have c1 : (x.op = 1) = False := eq_false (by omega)
    have c2 : (x.op = 2) = True := eq_true ho
    have c3 : (x.op = 3) = False := eq_false (by omega)
    have c4 : (x.op = 4) = False := eq_false (by omega)
    have c5 : (x.op = 5) = False := eq_false (by omega)
    have c6 : (x.op = 6) = False := eq_false (by omega)
    refine qh Tryz.func11 Tryz.ntmps11 fun σ n0 hcl hft => ?_
    repeat' (first | ((first | ((with_reducible refine qf (fun hg => ?_) (fun hg => ?_)) <;> (try simp only [hg]) <;> (try simp only [gS] at hg) <;> (try (first | simp only [eq_false hg, gI] | simp only [eq_true hg, gI]))) | refine Stp.m ?_ | refine qi ?_ | refine agH ?_) <;> (try simp (disch := first | omega | simp) [qd, -qg, -ql, c0, c1, c2, c3, c4, c5, c6])) | refine sideA ?_ | refine qc fun K hK => ?_ | refine qa ?_ | refine qe ?_ | refine qb ?_ | (refine hK _ ?_; clear hK K) | clear hK K)
    all_goals (clear u0 u2 u3 u5 u6 n1 hcl hft; (try simp only [qbs] at *); first | (simp_all [strE]; done) | (rw [Bool.eq_iff_iff]; simp_all [strE]; done) | (simp_all [strE]; omega))
  · have c0 : (x.op = 0) = False := eq_false (by omega)
    have c1 : (x.op = 1) = False := eq_false (by omega)
    have c2 : (x.op = 2) = False := eq_false (by omega)
    have c3 : (x.op = 3) = True := eq_true ho
    have c4 : (x.op = 4) = False := eq_false (by omega)
    have c5 : (x.op = 5) = False := eq_false (by omega)
    have c6 : (x.op = 6) = False := eq_false (by omega)
    refine qh Tryz.func11 Tryz.ntmps11 fun σ n0 hcl hft => ?_
    repeat' (first | ((first | ((with_reducible refine qf (fun hg => ?_) (fun hg => ?_)) <;> (try simp only [hg]) <;> (try simp only [gS] at hg) <;> (try (first | simp only [eq_false hg, gI] | simp only [eq_true hg, gI]))) | refine Stp.m ?_ | refine qi ?_ | refine agH ?_) <;> (try simp (disch := first | omega | simp) [qd, -qg, -ql, c0, c1, c2, c3, c4, c5, c6])) | refine sideA ?_ | refine qc fun K hK => ?_ | refine qa ?_ | refine qe ?_ | refine qb ?_ | (refine hK _ ?_; clear hK K) | clear hK K)
    all_goals (clear u0 u2 u3 u5 u6 n1 hcl hft; (try simp only [qbs] at *); first | (simp_all [strE]; done) | (rw [Bool.eq_iff_iff]; simp_all [strE]; done) | (simp_all [strE]; omega))
  · have c0 : (x.op = 0) = False := eq_false (by omega)
    have c1 : (x.op = 1) = False := eq_false (by omega)
    have c2 : (x.op = 2) = False := eq_false (by omega)
    have c3 : (x.op = 3) = False := eq_false (by omega)
    have c4 : (x.op = 4) = True := eq_true ho
    have c5 : (x.op = 5) = False := eq_false (by omega)
    have c6 : (x.op = 6) = False := eq_false (by omega)
    refine qh Tryz.func11 Tryz.ntmps11 fun σ n0 hcl hft => ?_
    repeat' (first | ((first | ((with_reducible refine qf (fun hg => ?_) (fun hg => ?_)) <;> (try simp only [hg]) <;> (try simp only [gS] at hg) <;> (try (first | simp only [eq_false hg, gI] | simp only [eq_true hg, gI]))) | refine Stp.m ?_ | refine qi ?_ | refine agH ?_) <;> (try simp (disch := first | omega | simp) [qd, -qg, -ql, c0, c1, c2, c3, c4, c5, c6])) | refine sideA ?_ | refine qc fun K hK => ?_ | refine qa ?_ | refine qe ?_ | refine qb ?_ | (refine hK _ ?_; clear hK K) | clear hK K)
    all_goals (clear u0 u2 u3 u5 u6 n1 hcl hft; (try simp only [qbs] at *); first | (simp_all [strE]; done) | (rw [Bool.eq_iff_iff]; simp_all [strE]; done) | (simp_all [strE]; omega))
  · have c0 : (x.op = 0) = False := eq_false (by omega)
    have c1 : (x.op = 1) = False := eq_false (by omega)
    have c2 : (x.op = 2) = False := eq_false (by omega)
    have c3 : (x.op = 3) = False := eq_false (by omega)
    have c4 : (x.op = 4) = False := eq_false (by omega)
    have c5 : (x.op = 5) = True := eq_true ho
    have c6 : (x.op = 6) = False := eq_false (by omega)
    refine qh Tryz.func11 Tryz.ntmps11 fun σ n0 hcl hft => ?_
    repeat' (first | ((first | ((with_reducible refine qf (fun hg => ?_) (fun hg => ?_)) <;> (try simp only [hg]) <;> (try simp only [gS] at hg) <;> (try (first | simp only [eq_false hg, gI] | simp only [eq_true hg, gI]))) | refine Stp.m ?_ | refine qi ?_ | refine agH ?_) <;> (try simp (disch := first | omega | simp) [qd, -qg, -ql, c0, c1, c2, c3, c4, c5, c6])) | refine sideA ?_ | refine qc fun K hK => ?_ | refine qa ?_ | refine qe ?_ | refine qb ?_ | (refine hK _ ?_; clear hK K) | clear hK K)
    all_goals (clear u0 u2 u3 u5 u6 n1 hcl hft; (try simp only [qbs] at *); first | (simp_all [strE]; done) | (rw [Bool.eq_iff_iff]; simp_all [strE]; done) | (simp_all [strE]; omega))
  · have c0 : (x.op = 0) = False := eq_false (by omega)
    have c1 : (x.op = 1) = False := eq_false (by omega)
    have c2 : (x.op = 2) = False := eq_false (by omega)
    have c3 : (x.op = 3) = False := eq_false (by omega)
    have c4 : (x.op = 4) = False := eq_false (by omega)
    have c5 : (x.op = 5) = False := eq_false (by omega)
    have c6 : (x.op = 6) = True := eq_true ho
    refine qh Tryz.func11 Tryz.ntmps11 fun σ n0 hcl hft => ?_
    repeat' (first | ((first | ((with_reducible refine qf (fun hg => ?_) (fun hg => ?_)) <;> (try simp only [hg]) <;> (try simp only [gS] at hg) <;> (try (first | simp only [eq_false hg, gI] | simp only [eq_true hg, gI]))) | refine Stp.m ?_ | refine acall (u6 _) ?_ | refine qo (u6 _) ?_ | refine qi ?_ | refine agH ?_) <;> (try simp (disch := first | omega | simp) [qd, -qg, -ql, c0, c1, c2, c3, c4, c5, c6])) | refine sideA ?_ | refine qc fun K hK => ?_ | refine qa ?_ | refine qe ?_ | refine qb ?_ | (refine hK _ ?_; clear hK K) | clear hK K)
    all_goals (clear u0 u2 u3 u5 u6 n1 hcl hft; (try simp only [qbs] at *); first | (simp_all [strE]; done) | (rw [Bool.eq_iff_iff]; simp_all [strE]; done) | (simp_all [strE]; omega))
  · refine qh Tryz.func11 Tryz.ntmps11 fun σ n0 hcl hft => ?_
    repeat' (first | ((first | ((with_reducible refine qf (fun hg => ?_) (fun hg => ?_)) <;> (try simp only [hg]) <;> (try simp only [gS] at hg) <;> (try (first | simp only [eq_false hg, gI] | simp only [eq_true hg, gI]))) | refine Stp.m ?_ | refine qi ?_ | refine agH ?_) <;> (try simp (disch := first | omega | simp) [qd, -qg, -ql, o0, o1, o2, o3, o4, o5, o6])) | refine sideA ?_ | refine qc fun K hK => ?_ | refine qa ?_ | refine qe ?_ | refine qb ?_ | (refine hK _ ?_; clear hK K) | clear hK K)
    all_goals (clear u0 u2 u3 u5 u6 n1 hcl hft; (try simp only [qbs] at *); first | (simp_all [strE]; done) | (rw [Bool.eq_iff_iff]; simp_all [strE]; done) | (simp_all [strE]; omega))
end Go.Proofs.YtbkkjlcclddpdaaGreatDoor
