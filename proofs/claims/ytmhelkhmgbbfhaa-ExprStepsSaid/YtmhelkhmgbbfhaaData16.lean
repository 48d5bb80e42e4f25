/- Typed views of the data of layer 16. -/
import Derived.Test.YtmhelkhmgbbfhaaBase
namespace Go.Proofs.Ytmhelkhmgbbfhaa
open Go.RowKit Go.Lib

structure Val where
  k : Int
  n : Int
  s : ByteArray
  deriving DecidableEq
def Val.d (x : Val) : D := .st [.int x.k, .int x.n, .str x.s]
theorem Val.width (x : Val) : x.d.width = 3 := by
  simp [Val.d, D.width, D.widths]
theorem Val.widths (l : List Val) : ∀ d ∈ l.map Val.d, d.width = 3 := by
  intro d hd; obtain ⟨x, -, rfl⟩ := List.mem_map.1 hd; exact Val.width x
theorem Val.open {w : World} {S : Nat → Prop} {x : Val} {cs : List Value} (h : Rd w S x.d cs) : cs = [.int .i64 x.k, .int .i64 x.n, .string x.s] := by
  simp only [Val.d, Val.d, Rd, RdS, List.length_map] at h
  obtain ⟨_, _, rfl, rfl, ⟨_, _, rfl, rfl, ⟨_, _, rfl, rfl, rfl⟩⟩⟩ := h
  simp
theorem Val.at {w : World} {S : Nat → Prop} {l : List Val} {b off : Nat} (hm : RdM w S (l.map Val.d) b off) {k : Nat} (hk : k < l.length) : w.cell? ⟨b, off + k * 3, none⟩ = some (.int .i64 l[k].k) ∧ w.cell? ⟨b, off + k * 3 + 1, none⟩ = some (.int .i64 l[k].n) ∧ w.cell? ⟨b, off + k * 3 + 1 + 1, none⟩ = some (.string l[k].s) ∧ Rd w S l[k].d [.int .i64 l[k].k, .int .i64 l[k].n, .string l[k].s] := by
  obtain ⟨cs, hc, hr⟩ := RdM.get _ b off hm (Val.widths l) k (by simpa using hk)
  rw [List.getElem_map] at hr
  obtain rfl := Val.open hr
  simp only [CellsAt, and_true] at hc
  obtain ⟨c0, c1, c2⟩ := hc
  exact ⟨c0, c1, c2, hr⟩

inductive Ex where
  | mk (op : Int) (n : Int) (s : ByteArray) (args : List Ex)
def Ex.op : Ex → Int | .mk x _ _ _ => x
def Ex.n : Ex → Int | .mk _ x _ _ => x
def Ex.s : Ex → ByteArray | .mk _ _ x _ => x
def Ex.args : Ex → List Ex | .mk _ _ _ x => x
mutual
def Ex.d : Ex → D
  | .mk op n s args => .st [.int op, .int n, .str s, .sl (Ex.ds args)]
def Ex.ds : List Ex → List D
  | [] => []
  | e :: l => e.d :: Ex.ds l
end
theorem Ex.ds_map : ∀ l : List Ex, Ex.ds l = l.map Ex.d
  | [] => rfl
  | e :: l => by rw [Ex.ds, Ex.ds_map l, List.map_cons]
theorem Ex.ind {P : Ex → Prop} (h : ∀ (op : Int) (n : Int) (s : ByteArray) (args : List Ex), (∀ x ∈ args, P x) → P (.mk op n s args)) : ∀ e, P e
  | .mk op n s args => h op n s args fun x hx => Ex.ind h x
termination_by e => SizeOf.sizeOf e
decreasing_by
  have := List.sizeOf_lt_of_mem hx
  simp_wf; omega
theorem Ex.width (x : Ex) : x.d.width = 4 := by
  obtain ⟨⟩ := x; simp [Ex.d, D.width, D.widths]
theorem Ex.widths (l : List Ex) : ∀ d ∈ l.map Ex.d, d.width = 4 := by
  intro d hd; obtain ⟨x, -, rfl⟩ := List.mem_map.1 hd; exact Ex.width x
theorem Ex.open {w : World} {S : Nat → Prop} {x : Ex} {cs : List Value} (h : Rd w S x.d cs) : ∃ (A1 : Option Addr) (cap1 b1 off1 : Nat), cs = [.int .i64 x.op, .int .i64 x.n, .string x.s, .slice A1 x.args.length cap1] ∧ x.args.length ≤ cap1 ∧ cap1 ≤ 9223372036854775807 ∧ (0 < x.args.length → A1 = some ⟨b1, off1, none⟩ ∧ S b1) ∧ RdM w S (x.args.map Ex.d) b1 off1 := by
  obtain ⟨op, n, s, args⟩ := x
  simp only [Ex.d, Ex.op, Ex.n, Ex.s, Ex.args, Rd, RdS, List.length_map, Ex.ds_map] at h
  obtain ⟨_, _, rfl, rfl, ⟨_, _, rfl, rfl, ⟨_, _, rfl, rfl, ⟨_, _, rfl, ⟨A1, cap1, b1, off1, rfl, p1, q1, r1, s1⟩, rfl⟩⟩⟩⟩ := h
  exact ⟨A1, cap1, b1, off1, by simp [Ex.op, Ex.n, Ex.s, Ex.args], p1, q1, r1, s1⟩
theorem Ex.mk_rd {w : World} {S : Nat → Prop} {x : Ex} {A1 : Option Addr} {cap1 b1 off1 : Nat} (h1 : x.args.length ≤ cap1) (h2 : cap1 ≤ 9223372036854775807) (h3 : 0 < x.args.length → A1 = some ⟨b1, off1, none⟩ ∧ S b1) (h4 : RdM w S (x.args.map Ex.d) b1 off1) :
    Rd w S x.d [.int .i64 x.op, .int .i64 x.n, .string x.s, .slice A1 x.args.length cap1] := by
  obtain ⟨op, n, s, args⟩ := x
  simp only [Ex.d, Rd, RdS, List.length_map, Ex.ds_map, Ex.op, Ex.n, Ex.s, Ex.args] at *
  exact ⟨[_], _, rfl, rfl, [_], _, rfl, rfl, [_], _, rfl, rfl, [_], _, rfl, ⟨A1, cap1, b1, off1, rfl, h1, h2, h3, h4⟩, rfl⟩
theorem Ex.at {w : World} {S : Nat → Prop} {l : List Ex} {b off : Nat} (hm : RdM w S (l.map Ex.d) b off) {k : Nat} (hk : k < l.length) : ∃ (A1 : Option Addr) (cap1 b1 off1 : Nat), w.cell? ⟨b, off + k * 4, none⟩ = some (.int .i64 l[k].op) ∧ w.cell? ⟨b, off + k * 4 + 1, none⟩ = some (.int .i64 l[k].n) ∧ w.cell? ⟨b, off + k * 4 + 1 + 1, none⟩ = some (.string l[k].s) ∧ w.cell? ⟨b, off + k * 4 + 1 + 1 + 1, none⟩ = some (.slice A1 l[k].args.length cap1) ∧ Rd w S l[k].d [.int .i64 l[k].op, .int .i64 l[k].n, .string l[k].s, .slice A1 l[k].args.length cap1] ∧ l[k].args.length ≤ cap1 ∧ cap1 ≤ 9223372036854775807 ∧ (0 < l[k].args.length → A1 = some ⟨b1, off1, none⟩ ∧ S b1) ∧ RdM w S (l[k].args.map Ex.d) b1 off1 := by
  obtain ⟨cs, hc, hr⟩ := RdM.get _ b off hm (Ex.widths l) k (by simpa using hk)
  rw [List.getElem_map] at hr
  obtain ⟨A1, cap1, b1, off1, rfl, hf⟩ := Ex.open hr
  simp only [CellsAt, and_true] at hc
  obtain ⟨c0, c1, c2, c3⟩ := hc
  exact ⟨A1, cap1, b1, off1, c0, c1, c2, c3, hr, hf⟩

structure Fn where
  name : ByteArray
  params : List Int
  res : Int
  body : Ex
def Fn.d (x : Fn) : D := .st [.str x.name, .sl (x.params.map D.int), .int x.res, x.body.d]
theorem Fn.width (x : Fn) : x.d.width = 7 := by
  simp [Fn.d, D.width, D.widths, Ex.width]
theorem Fn.widths (l : List Fn) : ∀ d ∈ l.map Fn.d, d.width = 7 := by
  intro d hd; obtain ⟨x, -, rfl⟩ := List.mem_map.1 hd; exact Fn.width x
theorem Fn.open {w : World} {S : Nat → Prop} {x : Fn} {cs : List Value} (h : Rd w S x.d cs) : ∃ (A1 : Option Addr) (cap1 b1 off1 : Nat) (A2 : Option Addr) (cap2 b2 off2 : Nat), cs = [.string x.name, .slice A1 x.params.length cap1, .int .i64 x.res, .int .i64 x.body.op, .int .i64 x.body.n, .string x.body.s, .slice A2 x.body.args.length cap2] ∧ x.params.length ≤ cap1 ∧ cap1 ≤ 9223372036854775807 ∧ (0 < x.params.length → A1 = some ⟨b1, off1, none⟩ ∧ S b1) ∧ RdM w S (x.params.map D.int) b1 off1 ∧ x.body.args.length ≤ cap2 ∧ cap2 ≤ 9223372036854775807 ∧ (0 < x.body.args.length → A2 = some ⟨b2, off2, none⟩ ∧ S b2) ∧ RdM w S (x.body.args.map Ex.d) b2 off2 := by
  simp only [Fn.d, Fn.d, Rd, RdS, List.length_map] at h
  obtain ⟨_, _, rfl, rfl, ⟨_, _, rfl, ⟨A1, cap1, b1, off1, rfl, p1, q1, r1, s1⟩, ⟨_, _, rfl, rfl, ⟨_, _, rfl, g3, rfl⟩⟩⟩⟩ := h
  obtain ⟨B3_0, C3_0, D3_0, E3_0, rfl, P3_0, Q3_0, R3_0, S3_0⟩ := Ex.open g3
  exact ⟨A1, cap1, b1, off1, B3_0, C3_0, D3_0, E3_0, by simp, p1, q1, r1, s1, P3_0, Q3_0, R3_0, S3_0⟩
theorem Fn.at {w : World} {S : Nat → Prop} {l : List Fn} {b off : Nat} (hm : RdM w S (l.map Fn.d) b off) {k : Nat} (hk : k < l.length) : ∃ (A1 : Option Addr) (cap1 b1 off1 : Nat) (A2 : Option Addr) (cap2 b2 off2 : Nat), w.cell? ⟨b, off + k * 7, none⟩ = some (.string l[k].name) ∧ w.cell? ⟨b, off + k * 7 + 1, none⟩ = some (.slice A1 l[k].params.length cap1) ∧ w.cell? ⟨b, off + k * 7 + 1 + 1, none⟩ = some (.int .i64 l[k].res) ∧ w.cell? ⟨b, off + k * 7 + 1 + 1 + 1, none⟩ = some (.int .i64 l[k].body.op) ∧ w.cell? ⟨b, off + k * 7 + 1 + 1 + 1 + 1, none⟩ = some (.int .i64 l[k].body.n) ∧ w.cell? ⟨b, off + k * 7 + 1 + 1 + 1 + 1 + 1, none⟩ = some (.string l[k].body.s) ∧ w.cell? ⟨b, off + k * 7 + 1 + 1 + 1 + 1 + 1 + 1, none⟩ = some (.slice A2 l[k].body.args.length cap2) ∧ Rd w S l[k].d [.string l[k].name, .slice A1 l[k].params.length cap1, .int .i64 l[k].res, .int .i64 l[k].body.op, .int .i64 l[k].body.n, .string l[k].body.s, .slice A2 l[k].body.args.length cap2] ∧ l[k].params.length ≤ cap1 ∧ cap1 ≤ 9223372036854775807 ∧ (0 < l[k].params.length → A1 = some ⟨b1, off1, none⟩ ∧ S b1) ∧ RdM w S (l[k].params.map D.int) b1 off1 ∧ l[k].body.args.length ≤ cap2 ∧ cap2 ≤ 9223372036854775807 ∧ (0 < l[k].body.args.length → A2 = some ⟨b2, off2, none⟩ ∧ S b2) ∧ RdM w S (l[k].body.args.map Ex.d) b2 off2 := by
  obtain ⟨cs, hc, hr⟩ := RdM.get _ b off hm (Fn.widths l) k (by simpa using hk)
  rw [List.getElem_map] at hr
  obtain ⟨A1, cap1, b1, off1, A2, cap2, b2, off2, rfl, hf⟩ := Fn.open hr
  simp only [CellsAt, and_true] at hc
  obtain ⟨c0, c1, c2, c3, c4, c5, c6⟩ := hc
  exact ⟨A1, cap1, b1, off1, A2, cap2, b2, off2, c0, c1, c2, c3, c4, c5, c6, hr, hf⟩

end Go.Proofs.Ytmhelkhmgbbfhaa
