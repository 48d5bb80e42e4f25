/- Walk: least: the function of the law's examples. -/
import Derived.Test.YtmhelkhmgbbfhaaSmall16
import Derived.Test.YtmhelkhmgbbfhaaMake16
import Derived.Deep.RegionHeld3
namespace Go.Proofs.Ytmhelkhmgbbfhaa
open Go.RowKit Go.Lib

def parE (n : Int) : Ex := .mk 4 n ByteArray.empty []
def leastF : Fn := ⟨⟨#[102]⟩, [0, 0], 0, .mk 21 0 ByteArray.empty [.mk 15 0 ByteArray.empty [parE 0, parE 1], parE 1, parE 0]⟩

set_option maxRecDepth 10000 in
set_option maxHeartbeats 4000000 in
theorem least_any (w : World) : Calls Try.prog 40 #[] w fun r w' => ∃ v, r = .returned v ∧ Rd w' Any (.sl ([leastF].map Fn.d)) [v] ∧ Ext w w' := by
  go_enter Try.func40, Try.ntmps40
  go_wp2_with fail
  generalize hWe : World.alloc (World.alloc w _) _ = W
  have a0 : W.cell? ⟨w.heap.size, 0, none⟩ = some (.int .i64 4) := by rw [← hWe]; clear hWe; go_simp
  have a1 : W.cell? ⟨w.heap.size, 1, none⟩ = some (.int .i64 0) := by rw [← hWe]; clear hWe; go_simp
  have a2 : W.cell? ⟨w.heap.size, 2, none⟩ = some (.string ByteArray.empty) := by rw [← hWe]; clear hWe; go_simp; rfl
  have a3 : W.cell? ⟨w.heap.size, 3, none⟩ = some (.slice none 0 0) := by rw [← hWe]; clear hWe; go_simp
  have b0 : W.cell? ⟨w.heap.size + 1, 0, none⟩ = some (.int .i64 4) := by rw [← hWe]; clear hWe; go_simp
  have b1 : W.cell? ⟨w.heap.size + 1, 1, none⟩ = some (.int .i64 1) := by rw [← hWe]; clear hWe; go_simp
  have b2 : W.cell? ⟨w.heap.size + 1, 2, none⟩ = some (.string ByteArray.empty) := by rw [← hWe]; clear hWe; go_simp; rfl
  have b3 : W.cell? ⟨w.heap.size + 1, 3, none⟩ = some (.slice none 0 0) := by rw [← hWe]; clear hWe; go_simp
  have hw : Ext w W := by rw [← hWe]; exact (by repeat' first | exact Ext.refl _ | assumption | apply Ext.alloc | apply Ext.drew | apply Ext.drewN | (refine Ext.trans ?_ (by assumption)))
  clear hWe
  go_region_held3 (fun w' => w'.cell? ⟨w.heap.size, 0, none⟩ = some (.int .i64 4) ∧ w'.cell? ⟨w.heap.size, 1, none⟩ = some (.int .i64 0) ∧ w'.cell? ⟨w.heap.size, 2, none⟩ = some (.string ByteArray.empty) ∧ w'.cell? ⟨w.heap.size, 3, none⟩ = some (.slice none 0 0) ∧ w'.cell? ⟨w.heap.size + 1, 0, none⟩ = some (.int .i64 4) ∧ w'.cell? ⟨w.heap.size + 1, 1, none⟩ = some (.int .i64 1) ∧ w'.cell? ⟨w.heap.size + 1, 2, none⟩ = some (.string ByteArray.empty) ∧ w'.cell? ⟨w.heap.size + 1, 3, none⟩ = some (.slice none 0 0))
    ((refine (fun (hx : Ext W _) => ⟨hx.at a0, hx.at a1, hx.at a2, hx.at a3, hx.at b0, hx.at b1, hx.at b2, hx.at b3⟩) ?_; repeat' first | exact Ext.refl _ | assumption | apply Ext.alloc | apply Ext.drew | apply Ext.drewN | (refine Ext.trans ?_ (by assumption))))
    ((first
      | (go_at_call 38; refine (op_any _ _ _ _ _).mono ?_; rintro r w4 ⟨rfl, he4⟩)))
  all_goals
    go_wp2_with fail
    go_ret
    refine ⟨_, rfl, ?_, ?_⟩
    · simp only [List.map_cons, List.map_nil]
      refine rd_new (by first | rfl | simp) rfl (rdS_cons (c1 := [_, _, _, _, _, _, _]) (c2 := []) rfl (rd_fn (ps := [0, 0]) ?_ (rd_node (l := [.mk 15 0 ByteArray.empty [parE 0, parE 1], parE 1, parE 0]) ?_)) (rdS_nil _ _)) trivial (by simp) (by omega)
      · repeat' first | exact rd_new_ints (l := [0, 0]) (by first | rfl | simp) rfl rfl (by simp) | refine Rd.ext ?_ ((Ext.refl _).alloc _) | refine Rd.ext ?_ (Ext.refl _).drew | refine Rd.ext ?_ (by assumption)
      · simp only [List.map_cons, List.map_nil]
        repeat' first
          | refine rd_new (by first | rfl | simp) rfl (rdS_cons (c1 := [_, _, _, _]) (c2 := [_, _, _, _, _, _, _, _]) rfl (rd_node (l := [parE 0, parE 1]) ?_) (rdS_cons (c1 := [_, _, _, _]) (c2 := [_, _, _, _]) rfl (rd_leaf _ _ _ _ _) (rdS_cons (c1 := [_, _, _, _]) (c2 := []) rfl (rd_leaf _ _ _ _ _) (rdS_nil _ _)))) trivial (by simp) (by omega)
          | refine rd_new (by first | rfl | simp) rfl (rdS_cons (c1 := [_, _, _, _]) (c2 := [_, _, _, _]) rfl (rd_leaf _ _ _ _ _) (rdS_cons (c1 := [_, _, _, _]) (c2 := []) rfl (rd_leaf _ _ _ _ _) (rdS_nil _ _))) trivial (by simp) (by omega)
          | refine Rd.ext ?_ ((Ext.refl _).alloc _) | refine Rd.ext ?_ (Ext.refl _).drew
          | refine Rd.ext ?_ (by assumption)
    · repeat' first | exact Ext.refl _ | assumption | apply Ext.alloc | apply Ext.drew | (refine Ext.trans ?_ (by assumption))
end Go.Proofs.Ytmhelkhmgbbfhaa
