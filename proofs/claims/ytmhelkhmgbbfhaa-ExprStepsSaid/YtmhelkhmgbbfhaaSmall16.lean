/- Walks: the makers of expressions in the law's examples. -/
import Derived.Test.YtmhelkhmgbbfhaaEvalTop16
import Derived.Test.YtmhelkhmgbbfhaaRightP16
import Derived.Test.YtmhelkhmgbbfhaaLit
namespace Go.Proofs.Ytmhelkhmgbbfhaa
open Go.RowKit Go.Lib

set_option maxHeartbeats 400000 in
theorem col_any (n : Int) (w : World) : Calls Try.prog 37 #[.int .i64 n] w fun r w' => r = .returned (.agg #[.int .i64 3, .int .i64 n, .string ByteArray.empty, .slice none 0 0]) ∧ Ext w w' := by
  go_enter Try.func37, Try.ntmps37
  go_wp2_with fail
  exact bodyPost_ret (v := .agg #[.int .i64 3, .int .i64 n, .string ByteArray.empty, .slice none 0 0]) (by simp [results, Try.results37, go_sem]; rfl) rfl ⟨rfl, (by repeat' first | exact Ext.refl _ | assumption | apply Ext.alloc | apply Ext.drew | apply Ext.drewN | (refine Ext.trans ?_ (by assumption)))⟩

set_option maxHeartbeats 400000 in
theorem num_any (n : Int) (w : World) : Calls Try.prog 39 #[.int .i64 n] w fun r w' => r = .returned (.agg #[.int .i64 0, .int .i64 n, .string ByteArray.empty, .slice none 0 0]) ∧ Ext w w' := by
  go_enter Try.func39, Try.ntmps39
  go_wp2_with fail
  exact bodyPost_ret (v := .agg #[.int .i64 0, .int .i64 n, .string ByteArray.empty, .slice none 0 0]) (by simp [results, Try.results39, go_sem]; rfl) rfl ⟨rfl, (by repeat' first | exact Ext.refl _ | assumption | apply Ext.alloc | apply Ext.drew | apply Ext.drewN | (refine Ext.trans ?_ (by assumption)))⟩

set_option maxHeartbeats 400000 in
theorem op_any (o : Int) (A : Option Addr) (n cap : Nat) (w : World) : Calls Try.prog 38 #[.int .i64 o, .slice A n cap] w fun r w' => r = .returned (.agg #[.int .i64 o, .int .i64 0, .string ByteArray.empty, .slice A n cap]) ∧ Ext w w' := by
  go_enter Try.func38, Try.ntmps38
  go_wp2_with fail
  exact bodyPost_ret (v := .agg #[.int .i64 o, .int .i64 0, .string ByteArray.empty, .slice A n cap]) (by simp [results, Try.results38, go_sem]; rfl) rfl ⟨rfl, (by repeat' first | exact Ext.refl _ | assumption | apply Ext.alloc | apply Ext.drew | apply Ext.drewN | (refine Ext.trans ?_ (by assumption)))⟩
end Go.Proofs.Ytmhelkhmgbbfhaa
