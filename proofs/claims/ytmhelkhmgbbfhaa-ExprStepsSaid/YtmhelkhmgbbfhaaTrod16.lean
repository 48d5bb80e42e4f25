/- Readings of the statement's arguments of layer 16. -/
import Derived.Test.YtmhelkhmgbbfhaaData16
import Derived.Test.YtmhelkhmgbbfhaaTrod
import Derived.Test.YtmhelkhmgbbfhaaProg
import Derived.KernelRfl
namespace Go.Proofs.Ytmhelkhmgbbfhaa
open Go.RowKit Go.Lib

section
variable {H : Type} {enc : TypeId × Value → H} {w : World} {sp : Nat → Bool} {hd : Bool}
theorem trods_val (N : Nat) : Trods enc Try.prog w sp hd 34 Val.d N := by
  intro n cs x hn h
  obtain ⟨xs, m, rfl, -, hlen, hl2, hf⟩ := DataW.trod_struct Try.underlying34 h
  have hc3 : Try.prog.cellsOf 3 = 1 := by kernel_rfl
  have hc9 : Try.prog.cellsOf 9 = 1 := by kernel_rfl
  have hc : Try.prog.cellsOf 34 = 3 := by kernel_rfl
  rw [hc] at hlen
  obtain ⟨y0, h0⟩ := trod_field 0 3 0 1 hl2 hf ⟨_, rfl, rfl, rfl⟩ hc3
  obtain ⟨y1, h1⟩ := trod_field 1 3 1 1 hl2 hf ⟨_, rfl, rfl, rfl⟩ hc3
  obtain ⟨y2, h2⟩ := trod_field 2 9 2 1 hl2 hf ⟨_, rfl, rfl, rfl⟩ hc9
  obtain ⟨a0, r0⟩ := trods_int Try.underlying3 (m + 1) m _ _ (by omega) h0
  obtain ⟨a1, r1⟩ := trods_int Try.underlying3 (m + 1) m _ _ (by omega) h1
  obtain ⟨a2, r2⟩ := trods_str Try.underlying9 (m + 1) m _ _ (by omega) h2
  exact ⟨⟨a0, a1, a2⟩, rd_st (rdS_cut (k := 1) r0 (rdS_cut (k := 1) r1 (rdS_cut (k := 1) r2 (rdS_end (by omega)))))⟩

theorem trods_ex : ∀ N : Nat, Trods enc Try.prog w sp hd 25 Ex.d N := by
  intro N
  induction N with
  | zero => intro n cs x hn; omega
  | succ N ih =>
    intro n cs x hn h
    obtain ⟨xs, m, rfl, -, hlen, hl2, hf⟩ := DataW.trod_struct Try.underlying25 h
    have hc3 : Try.prog.cellsOf 3 = 1 := by kernel_rfl
    have hc9 : Try.prog.cellsOf 9 = 1 := by kernel_rfl
    have hcl : Try.prog.cellsOf 23 = 1 := by kernel_rfl
    have hc : Try.prog.cellsOf 25 = 4 := by kernel_rfl
    rw [hc] at hlen
    obtain ⟨y0, h0⟩ := trod_field 0 3 0 1 hl2 hf ⟨_, rfl, rfl, rfl⟩ hc3
    obtain ⟨y1, h1⟩ := trod_field 1 3 1 1 hl2 hf ⟨_, rfl, rfl, rfl⟩ hc3
    obtain ⟨y2, h2⟩ := trod_field 2 9 2 1 hl2 hf ⟨_, rfl, rfl, rfl⟩ hc9
    obtain ⟨y3, h3⟩ := trod_field 3 23 3 1 hl2 hf ⟨_, rfl, rfl, rfl⟩ hcl
    obtain ⟨a0, r0⟩ := trods_int Try.underlying3 (m + 1) m _ _ (by omega) h0
    obtain ⟨a1, r1⟩ := trods_int Try.underlying3 (m + 1) m _ _ (by omega) h1
    obtain ⟨a2, r2⟩ := trods_str Try.underlying9 (m + 1) m _ _ (by omega) h2
    obtain ⟨a3, r3⟩ := trods_sl Try.underlying23 hc (by omega) Ex.width ih m _ _ (by omega) h3
    refine ⟨.mk a0 a1 a2 a3, ?_⟩
    rw [Ex.d, Ex.ds_map]
    exact rd_st (rdS_cut (k := 1) r0 (rdS_cut (k := 1) r1 (rdS_cut (k := 1) r2 (rdS_cut (k := 1) r3 (rdS_end (by omega))))))

theorem trods_ints (N : Nat) : Trods enc Try.prog w sp hd 31 (fun l : List Int => D.sl (l.map D.int)) N := fun n cs x hn h =>
  trods_sl Try.underlying31 (sz := 1) (by kernel_rfl) (by omega) (fun _ => rfl) (trods_int Try.underlying3 N) n cs x (by omega) h
theorem trods_vals (N : Nat) : Trods enc Try.prog w sp hd 26 (fun l : List Val => D.sl (l.map Val.d)) N := fun n cs x hn h =>
  trods_sl Try.underlying26 (sz := 3) (by kernel_rfl) (by omega) Val.width (trods_val N) n cs x (by omega) h
theorem trods_exs (N : Nat) : Trods enc Try.prog w sp hd 23 (fun l : List Ex => D.sl (l.map Ex.d)) N := fun n cs x hn h =>
  trods_sl Try.underlying23 (sz := 4) (by kernel_rfl) (by omega) Ex.width (trods_ex N) n cs x (by omega) h

theorem trods_fn (N : Nat) : Trods enc Try.prog w sp hd 67 Fn.d N := by
  intro n cs x hn h
  obtain ⟨xs, m, rfl, -, hlen, hl2, hf⟩ := DataW.trod_struct Try.underlying67 h
  have hc3 : Try.prog.cellsOf 3 = 1 := by kernel_rfl
  have hc9 : Try.prog.cellsOf 9 = 1 := by kernel_rfl
  have hcl : Try.prog.cellsOf 31 = 1 := by kernel_rfl
  have hce : Try.prog.cellsOf 25 = 4 := by kernel_rfl
  have hc : Try.prog.cellsOf 67 = 7 := by kernel_rfl
  rw [hc] at hlen
  obtain ⟨y0, h0⟩ := trod_field 0 9 0 1 hl2 hf ⟨_, rfl, rfl, rfl⟩ hc9
  obtain ⟨y1, h1⟩ := trod_field 1 31 1 1 hl2 hf ⟨_, rfl, rfl, rfl⟩ hcl
  obtain ⟨y2, h2⟩ := trod_field 2 3 2 1 hl2 hf ⟨_, rfl, rfl, rfl⟩ hc3
  obtain ⟨y3, h3⟩ := trod_field 3 25 3 4 hl2 hf ⟨_, rfl, rfl, rfl⟩ hce
  obtain ⟨a0, r0⟩ := trods_str Try.underlying9 (m + 1) m _ _ (by omega) h0
  obtain ⟨a1, r1⟩ := trods_ints (m + 1) m _ _ (by omega) h1
  obtain ⟨a2, r2⟩ := trods_int Try.underlying3 (m + 1) m _ _ (by omega) h2
  obtain ⟨a3, r3⟩ := trods_ex (m + 1) m _ _ (by omega) h3
  exact ⟨⟨a0, a1, a2, a3⟩, rd_st (rdS_cut (k := 1) r0 (rdS_cut (k := 1) r1 (rdS_cut (k := 1) r2 (rdS_cut (k := 4) r3 (rdS_end (by omega))))))⟩
theorem trods_fns (N : Nat) : Trods enc Try.prog w sp hd 22 (fun l : List Fn => D.sl (l.map Fn.d)) N := fun n cs x hn h =>
  trods_sl Try.underlying22 (sz := 7) (by kernel_rfl) (by omega) Fn.width (trods_fn N) n cs x (by omega) h
end
end Go.Proofs.Ytmhelkhmgbbfhaa
