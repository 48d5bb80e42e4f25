/- Arrays: the address of an element. -/
import Derived.Test.YtkhmlicikbnmdaaDoorGa12
set_option linter.unusedSimpArgs false
set_option linter.unusedVariables false
namespace Go.Proofs.YtkhmlicikbnmdaaDoor
open Go.RowKit Go.Lib

section
variable {P : Program} {ev : Operand → AV} {σ : Nat → AB}
theorem fop_indexArr {t e : TypeId} {n : Nat} {p i : Operand} {r off : Nat} {ik : IntKind} {k : Int} {ag : Bool} {sz : Nat} (ht : P.underlying t = some (.array n e)) (hs : tinfo P e = some (ag, sz)) (hp : ev p = .ptr r off) (hi : ev i = .v (.int ik k)) (h0 : 0 ≤ k) (h1 : k < n) :
    FOp P ev σ (.indexAddr t p i) (.ptr r (off + k.toNat * sz)) none := FOp.of fun X a oper ho hS hsub hev => by
  have h := hev p (by simp [Op.operands])
  have h2 := hev i (by simp [Op.operands])
  rw [hp] at h; rw [hi, RR.v] at h2
  change RC X (.ptr r off) [a.eval p] at h
  rw [RC] at h
  obtain ⟨hc, b, hm, hv⟩ := h
  have hv' : a.eval p = .pointer (some ⟨b, off, none⟩) := by simpa using hv
  refine ⟨.pointer (some ⟨b, off + k.toNat * sz, none⟩), ?_, ?_⟩
  · have := (tinfo_run hs X.w).2
    simp [execOp, ho, hv', h2, Instr.indexAt, Instr.sureAddr, asIntOf, underlying, ht, h0, h1, this, addr_add]
  · show RC X (.ptr r _) [_]
    rw [RC]
    exact ⟨hc, b, hm, rfl⟩
end
def aevX (P : Program) (s : AS) (o : Op) (K : AV → AS → Prop) : Prop :=
  match o with
  | .indexAddr t p i => match P.underlying t with
    | some (.array n e) => match tinfo P e, s.eval p, s.eval i with
      | some (_, sz), .ptr r off, .v (.int _ k) => 0 ≤ k ∧ k < n ∧ K (.ptr r (off + k.toNat * sz)) s
      | _, _, _ => False
    | _ => aev P s (.indexAddr t p i) K
  | o => aev P s o K
theorem aevX_sound {P : Program} {s : AS} {o : Op} {K : AV → AS → Prop} (h : aevX P s o K) : EOp P s o K := by
  unfold aevX at h
  split at h
  · split at h
    · split at h
      · exact eop_fun (nb := none) (fop_indexArr ‹_› ‹_› ‹_› ‹_› h.1 h.2.1) h.2.2
      · exact h.elim
    · exact aev_sound h
  · exact aev_sound h
def aseqX (P : Program) (ops : Array Oper) (K : AS → Prop) : List Oper → AS → Prop
  | [], s => K s
  | o :: l, s => match awant ops o s.t with
    | some b => AGuard b (aevX P s o.op (fun x s1 => dstOk o.dst s1.n ∧ aseqX P ops K l (s1.put o.dst x))) (dstOk o.dst s.n ∧ aseqX P ops K l (s.put o.dst (.v undef)))
    | none => False
theorem aseqX_sound {P : Program} {ops : Array Oper} {K : AS → Prop} : ∀ {l : List Oper} {s : AS}, aseqX P ops K l s → aseq P ops K l s
  | [], _, h => h
  | o :: l, s, h => by
    rw [aseqX] at h
    rw [aseq]
    split at h
    · rename_i b hb
      cases b with
      | true => exact ⟨true, hb, (aevX_sound (h.1 rfl)).mono fun x s1 ⟨h1, h2⟩ => ⟨h1, aseqX_sound h2⟩⟩
      | false => exact ⟨false, hb, (h.2 rfl).1, aseqX_sound (h.2 rfl).2⟩
    · exact h.elim
/-- a region that looks into arrays -/
theorem awp_regionX {P : Program} {s : AS} {id : Nat} {l : List Oper} {Q : Exit → AS → Prop} (h : aseqX P l.toArray (Q .normal) l s) : awp P (.region id l.toArray false) Q s := awp_region (aseqX_sound h)
attribute [simp] aevX aseqX
end Go.Proofs.YtkhmlicikbnmdaaDoor
