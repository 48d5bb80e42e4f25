/- Scalars and lists of them as abstract values. -/
import Derived.Shelf.Strings.BuilderK
import Derived.Test.YtkhmlicikbnmdaaDoorGa10
import Derived.Test.YtkhmlicikbnmdaaDoorGa11
set_option linter.unusedSimpArgs false
set_option linter.unusedVariables false
namespace Go.Proofs.YtkhmlicikbnmdaaDoor
open Go.RowKit Go.Lib

abbrev AV.int (n : Int) : AV := .v (.int .i64 n)
abbrev AV.str (s : ByteArray) : AV := .v (.string s)
abbrev AV.bool (b : Bool) : AV := .v (.bool b)
@[simp] theorem AV.wid_ints (l : List Int) : AV.wid (l.map AV.int) 1 := AV.wid_map (f := AV.int) (fun _ => rfl) l
@[simp] theorem AV.wid_strs (l : List ByteArray) : AV.wid (l.map AV.str) 1 := AV.wid_map (f := AV.str) (fun _ => rfl) l
@[simp] theorem AV.wid_bools (l : List Bool) : AV.wid (l.map AV.bool) 1 := AV.wid_map (f := AV.bool) (fun _ => rfl) l
@[simp] theorem AV.wid_bytes (l : List UInt8) : AV.wid (l.map AV.byte) 1 := AV.wid_map (f := AV.byte) (fun _ => rfl) l
@[simp] theorem AV.elms_bytes (l : List UInt8) : AV.elms (l.map AV.byte) := AV.elms_map (f := AV.byte) (fun _ => rfl) l
@[simp] theorem AV.elms_ints (l : List Int) : AV.elms (l.map AV.int) := AV.elms_map (f := AV.int) (fun _ => rfl) l
@[simp] theorem AV.elms_strs (l : List ByteArray) : AV.elms (l.map AV.str) := AV.elms_map (f := AV.str) (fun _ => rfl) l
@[simp] theorem AV.elms_bools (l : List Bool) : AV.elms (l.map AV.bool) := AV.elms_map (f := AV.bool) (fun _ => rfl) l
@[simp] theorem AV.cls_append (m : Nat) (a b : List AV) : AV.cls m (a ++ b) ↔ AV.cls m a ∧ AV.cls m b := by
  rw [AV.cls_iff, AV.cls_iff, AV.cls_iff]
  exact ⟨fun h => ⟨fun y hy => h y (by simp [hy]), fun y hy => h y (by simp [hy])⟩, fun h y hy => (List.mem_append.1 hy).elim (h.1 y) (h.2 y)⟩
@[simp] theorem AV.cls_map {α : Type} {f : α → AV} {m : Nat} (h : ∀ a, (f a).cl m) (l : List α) : AV.cls m (l.map f) := by
  rw [AV.cls_iff]
  intro x hx
  obtain ⟨a, -, rfl⟩ := List.mem_map.1 hx
  exact h a
@[simp] theorem AV.cls_ints (l : List Int) (m : Nat) : AV.cls m (l.map AV.int) := AV.cls_map (fun _ => by simp) l
@[simp] theorem AV.cls_strs (l : List ByteArray) (m : Nat) : AV.cls m (l.map AV.str) := AV.cls_map (fun _ => by simp) l
@[simp] theorem AV.cls_bools (l : List Bool) (m : Nat) : AV.cls m (l.map AV.bool) := AV.cls_map (fun _ => by simp) l
@[simp] theorem AV.cls_bytes (l : List UInt8) (m : Nat) : AV.cls m (l.map AV.byte) := AV.cls_map (fun _ => by simp) l
end Go.Proofs.YtkhmlicikbnmdaaDoor

/- Appends of strings to growing slices of bytes; calls that change two blocks. -/
namespace Go.Proofs.YtkhmlicikbnmdaaDoor
open Go.RowKit Go.Lib

section
variable {P : Program} {s : AS}
/-- one operation of a region, by hand -/
theorem aseq_do {ops : Array Oper} {K : AS → Prop} {o : Oper} {l : List Oper} (hb : awant ops o s.t = some true) (h : aev P s o.op (fun x s1 => dstOk o.dst s1.n ∧ aseq P ops K l (s1.put o.dst x))) : aseq P ops K (o :: l) s := by
  rw [aseq]; exact ⟨true, hb, aev_sound h⟩
theorem aseq_eop {ops : Array Oper} {K : AS → Prop} {o : Oper} {l : List Oper} (hb : awant ops o s.t = some true) (h : EOp P s o.op (fun x s1 => dstOk o.dst s1.n ∧ aseq P ops K l (s1.put o.dst x))) : aseq P ops K (o :: l) s := by
  rw [aseq]; exact ⟨true, hb, h⟩
/-- a call that changes two blocks of the store -/
theorem acallS2 {f : FuncId} {args : List AV} {K : AV → AS → Prop} {x : AV} (r r' : Nat) (ab ab' : AB) (h : AC P f args s.st fun y τ => y = x ∧ τ = upd (upd s.st r ab) r' ab') (hr : s.st r ≠ .unborn) (hr' : s.st r' ≠ .unborn) (hK : K x ((s.set r ab).set r' ab')) : ACall P f args s K := by
  have h1 : r < s.nx := Nat.lt_of_not_le fun hle => hr (s.fin r hle)
  have h2 : r' < s.nx := Nat.lt_of_not_le fun hle => hr' (s.fin r' hle)
  have hn : (s.set r ab).nx = s.nx := by unfold AS.set AS.nx; split <;> simp
  obtain ⟨e1, e2, e3⟩ := s.set_nx r ab
  obtain ⟨g1, g2, g3⟩ := (s.set r ab).set_nx r' ab'
  exact ⟨x, (s.set r ab).set r' ab', by rw [AS.set_st _ _ _ (by rw [hn]; exact h2), AS.set_st _ _ _ h1]; exact h, ⟨g3.trans e3, g1.trans e1, g2.trans e2⟩, hK⟩
/-- a function that leaves the store in a given state -/
theorem acT_of_awp {f : FuncId} {fn : Func} {c : Code} {rs : List ResultVar} {args : List AV} {x : AV} {N : Nat} {σ τ : Nat → AB} (hf : P.funcs[f]? = some fn) (hN : fn.ntmps = N) (hb : fn.body = some c) (hr : fn.results = rs.toArray) (hlen : rs.length ≤ 4) (ha : Nat.ble args.length N = true) (hx : ∀ n, x.cl n) (hτ : ∀ n, Fin σ n → (∀ r, (σ r).cl n) → Fin τ n ∧ ∀ r, (τ r).cl n)
    (h : ∀ n0, Fin σ n0 → (∀ r, (σ r).cl n0) → AV.fitss args → awp P c (fun e s' => (e = .normal ∨ e = .ret) ∧ s'.n0 = n0 ∧ s'.σ = τ ∧ ares P s' rs x) { n := N, t := atEntry args 0, σ := σ, n0 := n0, L := [] }) : AC P f args σ fun y τ' => y = x ∧ τ' = τ := by
  subst hN
  refine ac_of_awp hf hb hr hlen (Nat.le_of_ble_eq_true ha) fun n0 hfin hcl hft => ?_
  obtain ⟨h5, h6⟩ := hτ n0 hfin hcl
  refine awp_mono (h n0 hfin hcl hft) fun e s' ⟨h1, h2, h3, h4⟩ => ⟨h1, h2, x, h4, hx n0, fun k _ => by rw [h3]; exact h6 k, rfl, ?_⟩
  funext k
  unfold Proofs.YtkhmlicikbnmdaaDoor.cut
  rw [h3]
  split
  · rfl
  · exact (h5 k (by omega)).symm
end
end Go.Proofs.YtkhmlicikbnmdaaDoor
