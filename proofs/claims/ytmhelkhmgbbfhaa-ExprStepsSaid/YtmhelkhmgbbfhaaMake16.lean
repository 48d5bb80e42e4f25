/- Readings of data that a text makes. -/
import Derived.Test.YtmhelkhmgbbfhaaLit
import Derived.Test.YtmhelkhmgbbfhaaData16
namespace Go.Proofs.Ytmhelkhmgbbfhaa
open Go.RowKit Go.Lib

theorem rdS_nil (w : World) (S : Nat → Prop) : RdS w S [] [] := by rw [RdS]
theorem rdS_cons {w : World} {S : Nat → Prop} {d : D} {l : List D} {c1 c2 cs : List Value} (hcs : cs = c1 ++ c2) (h : Rd w S d c1) (h2 : RdS w S l c2) : RdS w S (d :: l) cs := by
  rw [RdS]; exact ⟨c1, c2, hcs, h, h2⟩
theorem rd_node {w : World} {S : Nat → Prop} {o n : Int} {s : ByteArray} {l : List Ex} {v : Value} (h : Rd w S (.sl (l.map Ex.d)) [v]) : Rd w S (Ex.mk o n s l).d [.int .i64 o, .int .i64 n, .string s, v] := by
  rw [Ex.d, Ex.ds_map, Rd]
  refine rdS_cons (c1 := [.int .i64 o]) rfl (by rw [Rd]) (rdS_cons (c1 := [.int .i64 n]) rfl (by rw [Rd]) (rdS_cons (c1 := [.string s]) rfl (by rw [Rd]) (rdS_cons (c1 := [v]) (c2 := []) rfl h (rdS_nil _ _))))
theorem rd_leaf (w : World) (S : Nat → Prop) (o n : Int) (s : ByteArray) : Rd w S (Ex.mk o n s []).d [.int .i64 o, .int .i64 n, .string s, .slice none 0 0] :=
  rd_node (l := []) (Rd.nil none (by omega))
theorem rd_fn {w : World} {S : Nat → Prop} {name : ByteArray} {ps : List Int} {res : Int} {e : Ex} {v : Value} {cs : List Value} (h : Rd w S (.sl (ps.map D.int)) [v]) (h2 : Rd w S e.d cs) : Rd w S (Fn.d ⟨name, ps, res, e⟩) (.string name :: v :: .int .i64 res :: cs) := by
  rw [Fn.d, Rd]
  refine rdS_cons (c1 := [.string name]) rfl (by rw [Rd]) (rdS_cons (c1 := [v]) rfl h (rdS_cons (c1 := [.int .i64 res]) rfl (by rw [Rd]) (rdS_cons (c2 := []) (by simp) h2 (rdS_nil _ _))))
theorem rd_val (w : World) (S : Nat → Prop) (v : Val) : Rd w S v.d [.int .i64 v.k, .int .i64 v.n, .string v.s] := by
  rw [Val.d, Rd]
  exact rdS_cons (c1 := [.int .i64 v.k]) rfl (by rw [Rd]) (rdS_cons (c1 := [.int .i64 v.n]) rfl (by rw [Rd]) (rdS_cons (c1 := [.string v.s]) (c2 := []) rfl (by rw [Rd]) (rdS_nil _ _)))
end Go.Proofs.Ytmhelkhmgbbfhaa
