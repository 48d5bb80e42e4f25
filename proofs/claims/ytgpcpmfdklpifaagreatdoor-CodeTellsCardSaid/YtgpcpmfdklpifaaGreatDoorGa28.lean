/- Walk of layer 25: the text of a program without text instructions. -/
import Derived.Test.YtgpcpmfdklpifaaGreatDoorCards
import Derived.Test.YtgpcpmfdklpifaaGreatDoorTie
import Derived.SevenTiedAt
import Derived.Stop.Joined
import Derived.Lib.LaidU8
import Derived.HandedShaped
import Derived.Lay
import Derived.LaidMore
import Derived.OpenShut
import Derived.Test.YtgpcpmfdklpifaaGreatDoorGa3
import Derived.Test.YtgpcpmfdklpifaaGreatDoorGa11
import Derived.Test.YtgpcpmfdklpifaaGreatDoorGa13
import Derived.Test.YtgpcpmfdklpifaaGreatDoorGa16
import Derived.Test.YtgpcpmfdklpifaaGreatDoorGa18
import Derived.Test.YtgpcpmfdklpifaaGreatDoorGa23
import Derived.Test.YtgpcpmfdklpifaaGreatDoorGa27
set_option linter.unusedSimpArgs false
set_option linter.unusedVariables false
namespace Go.Proofs.YtgpcpmfdklpifaaGreatDoor
open Go.RowKit Go.Lib
def nameL (o : Int) : ByteArray := match qv.getD o.toNat undef with
  | .string s => s
  | _ => ByteArray.empty
def regL (n : Int) : List UInt8 := 114 :: itoa n
def numL (x : Ins) : List UInt8 := if x.op = 0 ∨ x.op = 2 ∨ x.op = 3 then 32 :: itoa x.n else []
def headL (x : Ins) : List UInt8 := 10 :: (regL x.tgt ++ ([32, 61, 32] ++ (nameL x.op).data.toList))
def argsL (l : List Int) : List UInt8 := l.flatMap fun r => 32 :: regL r
def insL (x : Ins) : List UInt8 := headL x ++ numL x ++ argsL (opsP x)
def tysL (l : List Int) : List UInt8 := l.flatMap fun t => 32 :: qct t
def printL (c : Cod) : List UInt8 := [116, 121, 112, 101, 115] ++ tysL c.types ++ c.ins.flatMap insL ++ ([10, 111, 117, 116, 32] ++ regL c.out ++ [10])
theorem register_g (n : Int) (h : i64 n) : Gives Tryz.prog 104 [.int n] (.str (qbc (regL n))) := by
  have h1 := itoa_length_le n h.1 h.2
  have h2 := qbp (itoa n)
  refine qn Tryz.func104 Tryz.ntmps104 rfl rfl (by decide) rfl (by intro n; simp) fun σ n0 hcl hft => ?_
  repeat' (first | ((first | ((with_reducible refine qo (fun hg => ?_) (fun hg => ?_)) <;> (try simp only [hg]) <;> (try simp only [gS] at hg) <;> (try (first | simp only [eq_false hg, gI] | simp only [eq_true hg, gI]))) | (with_reducible first | refine qc ?_ | refine qb ?_ | refine qi ?_ | refine qh ?_) | refine acall (decimal_g n h) ?_ | refine qp (decimal_g n h) ?_ | refine qe ?_ | refine qj ?_ | refine qk ?_ | refine qm ?_) <;> (try simp (disch := first | omega | simp) [qg, -qq, -qs, h2])) | ((with_reducible refine sideT ?_ ?_); first | omega | assumption | (simp; done)) | (refine qf fun K hK => ?_) | (refine qa ?_) | refine ql ?_ | ((first | refine hK _ ?_ | (clear hK K; refine hK _ ?_) | (clear hK K; clear hK K; refine hK _ ?_)); clear hK K) | refine qd ?_)
  rfl
theorem names_len : qv.length = 23 := rfl
theorem name_at {o : Int} (h0 : 0 ≤ o) (h1 : o < 23) : qv[o.toNat]?.getD (.tuple #[]) = .string (nameL o) := by
  have h2 : o = 0 ∨ o = 1 ∨ o = 2 ∨ o = 3 ∨ o = 4 ∨ o = 5 ∨ o = 6 ∨ o = 7 ∨ o = 8 ∨ o = 9 ∨ o = 10 ∨ o = 11 ∨ o = 12 ∨ o = 13 ∨ o = 14 ∨ o = 15 ∨ o = 16 ∨ o = 17 ∨ o = 18 ∨ o = 19 ∨ o = 20 ∨ o = 21 ∨ o = 22 := by omega
  rcases h2 with rfl | rfl | rfl | rfl | rfl | rfl | rfl | rfl | rfl | rfl | rfl | rfl | rfl | rfl | rfl | rfl | rfl | rfl | rfl | rfl | rfl | rfl | rfl <;> rfl
theorem name_size (o : Int) : (nameL o).size ≤ 6 := by
  have : ∀ v ∈ qv, ∀ s, v = .string s → s.size ≤ 6 := by
    intro v hv
    unfold qv at hv
    simp only [List.mem_cons, List.not_mem_nil, or_false] at hv
    rcases hv with rfl | rfl | rfl | rfl | rfl | rfl | rfl | rfl | rfl | rfl | rfl | rfl | rfl | rfl | rfl | rfl | rfl | rfl | rfl | rfl | rfl | rfl | rfl <;> (rintro s ⟨⟩; decide)
  unfold nameL
  split
  · rename_i s h
    by_cases hl : o.toNat < qv.length
    · rw [List.getD_eq_getElem?_getD, List.getElem?_eq_getElem hl] at h
      exact this _ (List.getElem_mem hl) s h
    · rw [List.getD_eq_getElem?_getD, List.getElem?_eq_none (by omega)] at h; cases h
  · decide
theorem regL_len {n : Int} (h : i64 n) : (regL n).length ≤ 22 := by
  have := itoa_length_le n h.1 h.2
  unfold regL; rw [List.length_cons]; omega
theorem tysL_at {l : List Int} {k : Nat} (h : k < l.length) : tysL (l.drop k) = 32 :: qct l[k] ++ tysL (l.drop (k + 1)) := by
  rw [List.drop_eq_getElem_cons h]; rfl
theorem argsL_at {l : List Int} {k : Nat} (h : k < l.length) : argsL (l.drop k) = 32 :: regL l[k] ++ argsL (l.drop (k + 1)) := by
  rw [List.drop_eq_getElem_cons h]; rfl
theorem insF_at {l : List Ins} {k : Nat} (h : k < l.length) : (l.drop k).flatMap insL = insL l[k] ++ (l.drop (k + 1)).flatMap insL := by
  rw [List.drop_eq_getElem_cons h]; rfl
structure InsI (x : Ins) : Prop where
  op1 : x.op ≠ 1
  op0 : 0 ≤ x.op
  op2 : x.op < 23
  too : i64 x.tgt
  n : i64 x.n
  r : ∀ r ∈ opsP x, i64 r
set_option maxHeartbeats 8000000 in
theorem print_g25 (c : Cod) (hi : c.ins.length ≤ 1000000) (ht : c.types.length ≤ 1000000) (ho : i64 c.out) (hx : ∀ x ∈ c.ins, InsI x) (hs : (printL c).length ≤ 1000000000) : Gives Tryz.prog 72 [c.av] (.str (qbc (printL c))) := by
  obtain ⟨R, hR⟩ : ∃ R, R = printL c := ⟨_, rfl⟩
  rw [← hR] at hs ⊢
  obtain ⟨ins, types, out⟩ := c
  unfold printL at hR
  simp only at *
  obtain ⟨Z, hZ⟩ : ∃ Z, Z = [10, 111, 117, 116, 32] ++ regL out ++ [10] := ⟨_, rfl⟩
  rw [← hZ] at hR
  refine qn Tryz.func72 Tryz.ntmps72 rfl rfl (by decide) rfl (by intro n; simp) fun σ n0 hcl hft => ?_
  repeat' (first | ((first | refine qw 1 1 5 1 (by rfl) (by rfl) ?_ | ((with_reducible refine qo (fun hg => ?_) (fun hg => ?_)) <;> (try simp only [hg]) <;> (try simp only [gS] at hg) <;> (try (first | simp only [eq_false hg, gI] | simp only [eq_true hg, gI]))) | (with_reducible first | refine qc ?_ | refine qb ?_ | refine qi ?_ | refine qh ?_) | (refine bld_byte (i := 1) (j := 2) _ (by rfl) (by rfl) (by first | rfl | (simp; done) | omega | (simp; omega)) (by first | (simp; done) | assumption) (by first | (simp; done) | assumption) (by first | omega | (simp; done) | (simp; omega)) ?_) | (refine qcz (i := 1) (j := 2) _ (by rfl) (by rfl) (by first | rfl | (simp; done) | omega | (simp; omega)) (by first | (simp; done) | assumption) (by first | (simp; done) | assumption) (by first | omega | (simp; done) | (simp; omega)) ?_) | refine qe ?_ | refine qj ?_ | refine qk ?_ | refine qm ?_) <;> (try simp (disch := first | omega | simp) [qg, -qq, -qs])) | ((with_reducible refine sideT ?_ ?_); first | omega | assumption | (simp; done)) | (refine qf fun K hK => ?_) | (refine qa ?_) | refine ql ?_ | ((first | refine hK _ ?_ | (clear hK K; refine hK _ ?_) | (clear hK K; clear hK K; refine hK _ ?_)); clear hK K) | refine qd ?_)
  refine qr hcl (fun x : Nat × List UInt8 => [(1, .ptr n0 0), (3, .ptr (n0 + 1) 0), (12, .sl (types.map AV.int)), (13, .int types.length), (14, .int x.1)])
    (fun x => [.cells [.sl (ins.map Ins.av), .sl (types.map AV.int), .int out] 25, .cells [.ptr (n0 + 1) 0, .gs (n0 + 2) (x.2.map AV.byte)] 134, .tail x.2.length 5 1])
    (fun x => x.1 ≤ types.length ∧ x.2 ++ (tysL (types.drop x.1) ++ (ins.flatMap insL ++ Z)) = R) (fun x => types.length - x.1) (0, [116, 121, 112, 101, 115]) ⟨by omega, by rw [hR]; simp [tysL]⟩ (by simp [AV.byte]) fun ⟨k, acc⟩ ⟨hk, hin⟩ => ?_
  dsimp only at hk hin ⊢
  have hal : acc.length ≤ 1000000000 := by have := congrArg List.length hin; rw [List.length_append] at this; omega
  by_cases hlt : k < types.length
  · have c1 := typeName_g types[k]
    rw [tysL_at hlt] at hin
    have hts := qbp (qct types[k])
    have hal2 := congrArg List.length hin
    simp only [List.length_append, List.length_cons] at hal2
    have hsz : (⟨#[32]⟩ ++ qbc (qct types[k]) : ByteArray).size = 1 + (qct types[k]).length := by rw [ByteArray.size_append, hts]; rfl
    generalize qct types[k] = tn at *
    repeat' (first | ((first | refine qw 1 1 5 1 (by rfl) (by rfl) ?_ | ((with_reducible refine qo (fun hg => ?_) (fun hg => ?_)) <;> (try simp only [hg]) <;> (try simp only [gS] at hg) <;> (try (first | simp only [eq_false hg, gI] | simp only [eq_true hg, gI]))) | (with_reducible first | refine qc ?_ | refine qb ?_ | refine qi ?_ | refine qh ?_) | refine acall (c1) ?_ | refine qp (c1) ?_ | (refine bld_byte (i := 1) (j := 2) _ (by rfl) (by rfl) (by first | rfl | (simp; done) | omega | (simp; omega)) (by first | (simp; done) | assumption) (by first | (simp; done) | assumption) (by first | omega | (simp; done) | (simp; omega)) ?_) | (refine qcz (i := 1) (j := 2) _ (by rfl) (by rfl) (by first | rfl | (simp; done) | omega | (simp; omega)) (by first | (simp; done) | assumption) (by first | (simp; done) | assumption) (by first | omega | (simp; done) | (simp; omega)) ?_) | refine qe ?_ | refine qj ?_ | refine qk ?_ | refine qm ?_) <;> (try simp (disch := first | omega | simp) [qg, -qq, -qs, hlt, hsz])) | ((with_reducible refine sideT ?_ ?_); first | omega | assumption | (simp; done)) | (refine qf fun K hK => ?_) | (refine qa ?_) | refine ql ?_ | ((first | refine hK _ ?_ | (clear hK K; refine hK _ ?_) | (clear hK K; clear hK K; refine hK _ ?_)); clear hK K) | refine qd ?_)
    exact ⟨k + 1, acc ++ (32 :: tn), ⟨by omega, by rw [← hin]; simp⟩, by omega, ⟨by simp, by simp; omega⟩, by omega⟩
  · obtain rfl : k = types.length := by omega
    rw [List.drop_length] at hin
    repeat' (first | ((first | ((with_reducible refine qo (fun hg => ?_) (fun hg => ?_)) <;> (try simp only [hg]) <;> (try simp only [gS] at hg) <;> (try (first | simp only [eq_false hg, gI] | simp only [eq_true hg, gI]))) | (with_reducible first | refine qc ?_ | refine qb ?_ | refine qi ?_ | refine qh ?_) | refine qe ?_ | refine qj ?_ | refine qk ?_ | refine qm ?_) <;> (try simp (disch := first | omega | simp) [qg, -qq, -qs, hlt])) | ((with_reducible refine sideT ?_ ?_); first | omega | assumption | (simp; done)) | (refine qf fun K hK => ?_) | (refine qa ?_) | refine ql ?_ | ((first | refine hK _ ?_ | (clear hK K; refine hK _ ?_) | (clear hK K; clear hK K; refine hK _ ?_)); clear hK K) | refine qd ?_)
    refine qr hcl (fun x : Nat × List UInt8 => [(1, .ptr n0 0), (3, .ptr (n0 + 1) 0), (24, .sl (ins.map Ins.av)), (25, .int ins.length), (26, .int x.1)])
      (fun x => [.cells [.sl (ins.map Ins.av), .sl (types.map AV.int), .int out] 25, .cells [.ptr (n0 + 1) 0, .gs (n0 + 2) (x.2.map AV.byte)] 134, .tail x.2.length 5 1])
      (fun x => x.1 ≤ ins.length ∧ x.2 ++ ((ins.drop x.1).flatMap insL ++ Z) = R) (fun x => ins.length - x.1) (0, acc) ⟨by omega, by rw [← hin]; simp [tysL]⟩ (by simp) fun ⟨k, acc⟩ ⟨hk, hin⟩ => ?_
    dsimp only at hk hin ⊢
    have hal : acc.length ≤ 1000000000 := by have := congrArg List.length hin; rw [List.length_append] at this; omega
    by_cases hlt : k < ins.length
    · have hxi := hx _ (List.getElem_mem hlt)
      rw [insF_at hlt] at hin
      have hal2 := congrArg List.length hin
      have hnm := name_at hxi.op0 hxi.op2
      have c2 := register_g _ hxi.too
      have c3 := decimal_g _ hxi.n
      have c4 := ops_g ins[k]
      have ho1 := hxi.op1
      have ho0 := hxi.op0
      have ho2 := hxi.op2
      have hr := hxi.r
      have hxe : insL ins[k] = headL ins[k] ++ numL ins[k] ++ argsL (opsP ins[k]) := rfl
      rw [hxe] at hin
      clear hal2
      have s1 := qbp (regL ins[k].tgt)
      have s2 := qbp (itoa ins[k].n)
      have s4 := itoa_length_le ins[k].n hxi.n.1 hxi.n.2
      have s5 : (nameL ins[k].op).size ≤ 6 := name_size ins[k].op
      have s6 := regL_len hxi.too
      have hol : (opsP ins[k]).length ≤ 3 := by unfold opsP; split <;> simp; omega
      generalize hY : (ins.drop (k + 1)).flatMap insL ++ Z = Y at *
      have hin : acc ++ (headL ins[k] ++ numL ins[k]) ++ (argsL (opsP ins[k]) ++ Y) = R := by rw [← hin, ← hY]; simp
      unfold headL numL at hin
      generalize regL ins[k].tgt = RT at *
      generalize itoa ins[k].n = DN at *
      generalize nameL ins[k].op = NM at *
      generalize opsP ins[k] = ops at *
      have hsN : NM.data.size = NM.size := rfl
      have hop : (ins[k].op = 0 ∨ ins[k].op = 2 ∨ ins[k].op = 3) ∨ ¬ (ins[k].op = 0 ∨ ins[k].op = 2 ∨ ins[k].op = 3) := Decidable.em _
      rcases hop with hop | hop
      · rw [if_pos hop] at hin
        obtain ⟨HH, hHH⟩ : ∃ HH, HH = acc ++ ((10 :: (RT ++ ([32, 61, 32] ++ NM.data.toList))) ++ (32 :: DN)) := ⟨_, rfl⟩
        rw [← hHH] at hin
        repeat' (first | ((first | refine qw 1 1 5 1 (by rfl) (by rfl) ?_ | ((with_reducible refine qo (fun hg => ?_) (fun hg => ?_)) <;> (try simp only [hg]) <;> (try simp only [gS] at hg) <;> (try (first | simp only [eq_false hg, gI] | simp only [eq_true hg, gI]))) | (with_reducible first | refine qc ?_ | refine qb ?_ | refine qi ?_ | refine qh ?_ | refine qdu ?_ | refine anyE_end ?_) | refine acall (c2) ?_ | refine qp (c2) ?_ | refine acall (c3) ?_ | refine qp (c3) ?_ | refine acall (c4) ?_ | refine qp (c4) ?_ | (refine bld_byte (i := 1) (j := 2) _ (by rfl) (by rfl) (by first | rfl | (simp; done) | omega | (simp; omega)) (by first | (simp; done) | assumption) (by first | (simp; done) | assumption) (by first | omega | (simp; done) | (simp; omega)) ?_) | (refine qcz (i := 1) (j := 2) _ (by rfl) (by rfl) (by first | rfl | (simp; done) | omega | (simp; omega)) (by first | (simp; done) | assumption) (by first | (simp; done) | assumption) (by first | omega | (simp; done) | (simp; omega)) ?_) | refine qe ?_ | refine qj ?_ | refine qk ?_ | refine qm ?_) <;> (try simp (disch := first | omega | simp) [qg, -qq, -qs, hlt, hnm, s1, s5, s2, ho0, ho2, names_len])) | (with_reducible refine awp_anyE (id := 11) [.unborn, .unborn, .unborn, .cells [.int ins[k].op, .int ins[k].tgt, .int ins[k].a, .int ins[k].b, .int ins[k].c, .int ins[k].n, .str ins[k].s] 32] [.R, .R, .M, .R, .R, .R, .R, .R, .R, .R, .W] (by kernel_rfl) (by kernel_rfl) (by simp) ?_) | ((with_reducible refine sideT ?_ ?_); first | omega | assumption | (simp; done)) | (refine qf fun K hK => ?_) | (refine qa ?_) | refine ql ?_ | ((first | refine hK _ ?_ | (clear hK K; refine hK _ ?_) | (clear hK K; clear hK K; refine hK _ ?_)); clear hK K) | refine qd ?_)
        all_goals first | (exfalso; omega) | skip
        all_goals
          refine qr hcl (fun x : Nat × List UInt8 => [(1, .ptr n0 0), (3, .ptr (n0 + 1) 0), (24, .sl (ins.map Ins.av)), (25, .int ins.length), (26, .int k), (60, .sl (ops.map AV.int)), (61, .int ops.length), (62, .int x.1)])
            (fun x => [.cells [.sl (ins.map Ins.av), .sl (types.map AV.int), .int out] 25, .cells [.ptr (n0 + 1) 0, .gs (n0 + 2) (x.2.map AV.byte)] 134, .tail x.2.length 5 1])
            (fun x => x.1 ≤ ops.length ∧ x.2 ++ (argsL (ops.drop x.1) ++ Y) = R) (fun x => ops.length - x.1) (0, HH) ⟨by omega, by simpa using hin⟩ (by first | (rw [hHH]; simp [List.map_append, hsN, s1, s2]; done) | (rw [hHH]; simp [hsN]; omega)) fun ⟨j, acc2⟩ ⟨hj, hin2⟩ => ?_
          dsimp only at hj hin2 ⊢
          have hal3 := congrArg List.length hin2
          simp only [List.length_append] at hal3
          by_cases hlt2 : j < ops.length
          · have c5 := register_g ops[j] (hr _ (List.getElem_mem hlt2))
            have q1 := qbp (regL ops[j])
            have q2 := regL_len (hr _ (List.getElem_mem hlt2))
            rw [argsL_at hlt2] at hin2
            generalize regL ops[j] = RJ at *
            repeat' (first | ((first | refine qw 1 1 5 1 (by rfl) (by rfl) ?_ | ((with_reducible refine qo (fun hg => ?_) (fun hg => ?_)) <;> (try simp only [hg]) <;> (try simp only [gS] at hg) <;> (try (first | simp only [eq_false hg, gI] | simp only [eq_true hg, gI]))) | (with_reducible first | refine qc ?_ | refine qb ?_ | refine qi ?_ | refine qh ?_) | refine acall (c5) ?_ | refine qp (c5) ?_ | (refine bld_byte (i := 1) (j := 2) _ (by rfl) (by rfl) (by first | rfl | (simp; done) | omega | (simp; omega)) (by first | (simp; done) | assumption) (by first | (simp; done) | assumption) (by first | omega | (simp; done) | (simp; omega)) ?_) | (refine qcz (i := 1) (j := 2) _ (by rfl) (by rfl) (by first | rfl | (simp; done) | omega | (simp; omega)) (by first | (simp; done) | assumption) (by first | (simp; done) | assumption) (by first | omega | (simp; done) | (simp; omega)) ?_) | refine qe ?_ | refine qj ?_ | refine qk ?_ | refine qm ?_) <;> (try simp (disch := first | omega | simp) [qg, -qq, -qs, hlt2, q1])) | ((with_reducible refine sideT ?_ ?_); first | omega | assumption | (simp; done)) | (refine qf fun K hK => ?_) | (refine qa ?_) | refine ql ?_ | ((first | refine hK _ ?_ | (clear hK K; refine hK _ ?_) | (clear hK K; clear hK K; refine hK _ ?_)); clear hK K) | refine qd ?_)
            exact ⟨j + 1, acc2 ++ (32 :: RJ), ⟨by omega, by rw [← hin2]; simp⟩, by omega, ⟨by simp, by simp; omega⟩, by omega⟩
          · obtain rfl : j = ops.length := by omega
            rw [List.drop_length] at hin2
            repeat' (first | ((first | ((with_reducible refine qo (fun hg => ?_) (fun hg => ?_)) <;> (try simp only [hg]) <;> (try simp only [gS] at hg) <;> (try (first | simp only [eq_false hg, gI] | simp only [eq_true hg, gI]))) | (with_reducible first | refine qc ?_ | refine qb ?_ | refine qi ?_ | refine qh ?_) | refine qe ?_ | refine qj ?_ | refine qk ?_ | refine qm ?_) <;> (try simp (disch := first | omega | simp) [qg, -qq, -qs, hlt2])) | ((with_reducible refine sideT ?_ ?_); first | omega | assumption | (simp; done)) | (refine qf fun K hK => ?_) | (refine qa ?_) | refine ql ?_ | ((first | refine hK _ ?_ | (clear hK K; refine hK _ ?_) | (clear hK K; clear hK K; refine hK _ ?_)); clear hK K) | refine qd ?_)
            exact ⟨k + 1, acc2, ⟨by omega, by rw [← hin2, ← hY]; simp [argsL]⟩, by omega, ⟨rfl, rfl⟩, by omega⟩
      · rw [if_neg hop, List.append_nil] at hin
        obtain ⟨HH, hHH⟩ : ∃ HH, HH = acc ++ (10 :: (RT ++ ([32, 61, 32] ++ NM.data.toList))) := ⟨_, rfl⟩
        rw [← hHH] at hin
        repeat' (first | ((first | refine qw 1 1 5 1 (by rfl) (by rfl) ?_ | ((with_reducible refine qo (fun hg => ?_) (fun hg => ?_)) <;> (try simp only [hg]) <;> (try simp only [gS] at hg) <;> (try (first | simp only [eq_false hg, gI] | simp only [eq_true hg, gI]))) | (with_reducible first | refine qc ?_ | refine qb ?_ | refine qi ?_ | refine qh ?_ | refine qdu ?_ | refine anyE_end ?_) | refine acall (c2) ?_ | refine qp (c2) ?_ | refine acall (c3) ?_ | refine qp (c3) ?_ | refine acall (c4) ?_ | refine qp (c4) ?_ | (refine bld_byte (i := 1) (j := 2) _ (by rfl) (by rfl) (by first | rfl | (simp; done) | omega | (simp; omega)) (by first | (simp; done) | assumption) (by first | (simp; done) | assumption) (by first | omega | (simp; done) | (simp; omega)) ?_) | (refine qcz (i := 1) (j := 2) _ (by rfl) (by rfl) (by first | rfl | (simp; done) | omega | (simp; omega)) (by first | (simp; done) | assumption) (by first | (simp; done) | assumption) (by first | omega | (simp; done) | (simp; omega)) ?_) | refine qe ?_ | refine qj ?_ | refine qk ?_ | refine qm ?_) <;> (try simp (disch := first | omega | simp) [qg, -qq, -qs, hlt, hnm, s1, s5, s2, ho0, ho2, names_len])) | (with_reducible refine awp_anyE (id := 11) [.unborn, .unborn, .unborn, .cells [.int ins[k].op, .int ins[k].tgt, .int ins[k].a, .int ins[k].b, .int ins[k].c, .int ins[k].n, .str ins[k].s] 32] [.R, .R, .M, .R, .R, .R, .R, .R, .R, .R, .W] (by kernel_rfl) (by kernel_rfl) (by simp) ?_) | ((with_reducible refine sideT ?_ ?_); first | omega | assumption | (simp; done)) | (refine qf fun K hK => ?_) | (refine qa ?_) | refine ql ?_ | ((first | refine hK _ ?_ | (clear hK K; refine hK _ ?_) | (clear hK K; clear hK K; refine hK _ ?_)); clear hK K) | refine qd ?_)
        all_goals first | (exfalso; omega) | skip
        all_goals
          refine qr hcl (fun x : Nat × List UInt8 => [(1, .ptr n0 0), (3, .ptr (n0 + 1) 0), (24, .sl (ins.map Ins.av)), (25, .int ins.length), (26, .int k), (60, .sl (ops.map AV.int)), (61, .int ops.length), (62, .int x.1)])
            (fun x => [.cells [.sl (ins.map Ins.av), .sl (types.map AV.int), .int out] 25, .cells [.ptr (n0 + 1) 0, .gs (n0 + 2) (x.2.map AV.byte)] 134, .tail x.2.length 5 1])
            (fun x => x.1 ≤ ops.length ∧ x.2 ++ (argsL (ops.drop x.1) ++ Y) = R) (fun x => ops.length - x.1) (0, HH) ⟨by omega, by simpa using hin⟩ (by first | (rw [hHH]; simp [List.map_append, hsN, s1, s2]; done) | (rw [hHH]; simp [hsN]; omega)) fun ⟨j, acc2⟩ ⟨hj, hin2⟩ => ?_
          dsimp only at hj hin2 ⊢
          have hal3 := congrArg List.length hin2
          simp only [List.length_append] at hal3
          by_cases hlt2 : j < ops.length
          · have c5 := register_g ops[j] (hr _ (List.getElem_mem hlt2))
            have q1 := qbp (regL ops[j])
            have q2 := regL_len (hr _ (List.getElem_mem hlt2))
            rw [argsL_at hlt2] at hin2
            generalize regL ops[j] = RJ at *
            repeat' (first | ((first | refine qw 1 1 5 1 (by rfl) (by rfl) ?_ | ((with_reducible refine qo (fun hg => ?_) (fun hg => ?_)) <;> (try simp only [hg]) <;> (try simp only [gS] at hg) <;> (try (first | simp only [eq_false hg, gI] | simp only [eq_true hg, gI]))) | (with_reducible first | refine qc ?_ | refine qb ?_ | refine qi ?_ | refine qh ?_) | refine acall (c5) ?_ | refine qp (c5) ?_ | (refine bld_byte (i := 1) (j := 2) _ (by rfl) (by rfl) (by first | rfl | (simp; done) | omega | (simp; omega)) (by first | (simp; done) | assumption) (by first | (simp; done) | assumption) (by first | omega | (simp; done) | (simp; omega)) ?_) | (refine qcz (i := 1) (j := 2) _ (by rfl) (by rfl) (by first | rfl | (simp; done) | omega | (simp; omega)) (by first | (simp; done) | assumption) (by first | (simp; done) | assumption) (by first | omega | (simp; done) | (simp; omega)) ?_) | refine qe ?_ | refine qj ?_ | refine qk ?_ | refine qm ?_) <;> (try simp (disch := first | omega | simp) [qg, -qq, -qs, hlt2, q1])) | ((with_reducible refine sideT ?_ ?_); first | omega | assumption | (simp; done)) | (refine qf fun K hK => ?_) | (refine qa ?_) | refine ql ?_ | ((first | refine hK _ ?_ | (clear hK K; refine hK _ ?_) | (clear hK K; clear hK K; refine hK _ ?_)); clear hK K) | refine qd ?_)
            exact ⟨j + 1, acc2 ++ (32 :: RJ), ⟨by omega, by rw [← hin2]; simp⟩, by omega, ⟨by simp, by simp; omega⟩, by omega⟩
          · obtain rfl : j = ops.length := by omega
            rw [List.drop_length] at hin2
            repeat' (first | ((first | ((with_reducible refine qo (fun hg => ?_) (fun hg => ?_)) <;> (try simp only [hg]) <;> (try simp only [gS] at hg) <;> (try (first | simp only [eq_false hg, gI] | simp only [eq_true hg, gI]))) | (with_reducible first | refine qc ?_ | refine qb ?_ | refine qi ?_ | refine qh ?_) | refine qe ?_ | refine qj ?_ | refine qk ?_ | refine qm ?_) <;> (try simp (disch := first | omega | simp) [qg, -qq, -qs, hlt2])) | ((with_reducible refine sideT ?_ ?_); first | omega | assumption | (simp; done)) | (refine qf fun K hK => ?_) | (refine qa ?_) | refine ql ?_ | ((first | refine hK _ ?_ | (clear hK K; refine hK _ ?_) | (clear hK K; clear hK K; refine hK _ ?_)); clear hK K) | refine qd ?_)
            exact ⟨k + 1, acc2, ⟨by omega, by rw [← hin2, ← hY]; simp [argsL]⟩, by omega, ⟨rfl, rfl⟩, by omega⟩
    · obtain rfl : k = ins.length := by omega
      rw [List.drop_length] at hin
      have c1 := register_g out ho
      have s3 := itoa_length_le out ho.1 ho.2
      have s1 := qbp (regL out)
      have s6 : (regL out).length ≤ 22 := by unfold regL; rw [List.length_cons]; omega
      generalize regL out = RO at *
      repeat' (first | ((first | ((with_reducible refine qo (fun hg => ?_) (fun hg => ?_)) <;> (try simp only [hg]) <;> (try simp only [gS] at hg) <;> (try (first | simp only [eq_false hg, gI] | simp only [eq_true hg, gI]))) | (with_reducible first | refine qc ?_ | refine qb ?_ | refine qi ?_ | refine qh ?_) | refine acall (c1) ?_ | refine qp (c1) ?_ | refine agivesS (bld_readS (i := 1) (j := 2) acc (by rfl) (by rfl) (by simp) (by simp)) ?_ | refine qe ?_ | refine qj ?_ | refine qk ?_ | refine qm ?_) <;> (try simp (disch := first | omega | simp) [qg, -qq, -qs, hlt, s1])) | ((with_reducible refine sideT ?_ ?_); first | omega | assumption | (simp; done)) | (refine qf fun K hK => ?_) | (refine qa ?_) | refine ql ?_ | ((first | refine hK _ ?_ | (clear hK K; refine hK _ ?_) | (clear hK K; clear hK K; refine hK _ ?_)); clear hK K) | refine qd ?_)
      refine ba_eq ?_
      rw [← hin, hZ]
      simp
end Go.Proofs.YtgpcpmfdklpifaaGreatDoor

/- Walk of layer 25: the examples: programs of three instructions, read. -/
namespace Go.Proofs.YtgpcpmfdklpifaaGreatDoor
open Go.RowKit Go.Lib
def lineT : List UInt8 := [116, 121, 112, 101, 115, 32, 105, 110, 116, 32, 105, 110, 116, 32, 98, 111, 111, 108]
def lineO : List UInt8 := [111, 117, 116, 32, 114, 50]
def wTypes : ByteArray := ⟨#[116, 121, 112, 101, 115]⟩
def wInt : ByteArray := ⟨#[105, 110, 116]⟩
def wBool : ByteArray := ⟨#[98, 111, 111, 108]⟩
theorem words_eq : qec ⟨#[32]⟩ (qbc lineT) = [wTypes, wInt, wInt, wBool] := by kernel_rfl
theorem tInt_eq : qcp wInt.toList = (0, true) := by kernel_rfl
theorem tBool_eq : qcp wBool.toList = (2, true) := by kernel_rfl
theorem lastO_eq : Lib.lastIndexByte (qbc lineO) 32 = 3 := by kernel_rfl
theorem numO_eq : regP ⟨#[114, 50]⟩ = (2, true) := by kernel_rfl
set_option maxHeartbeats 8000000 in
theorem parse25_g (s l1 l2 l3 : ByteArray) (x1 x2 x3 : Ins) (hs : s.size ≤ 1000000) (hL : linesP s.data.toList = [lineT, l1.data.toList, l2.data.toList, l3.data.toList, lineO])
    (i1 : Gives Tryz.prog 69 [.str l1] (.tup [x1.av, .bool true])) (i2 : Gives Tryz.prog 69 [.str l2] (.tup [x2.av, .bool true])) (i3 : Gives Tryz.prog 69 [.str l3] (.tup [x3.av, .bool true]))
    (hp : Gives Tryz.prog 72 [Cod.av ⟨[x1, x2, x3], [0, 0, 2], 2⟩] (.str s)) : Gives Tryz.prog 54 [.str s] (.tup [Cod.av ⟨[x1, x2, x3], [0, 0, 2], 2⟩, .bool true]) := by
  have c1 := lines_g s hs
  rw [hL] at c1
  have e0 : strs [lineT, l1.data.toList, l2.data.toList, l3.data.toList, lineO] = [.str (qbc lineT), .str l1, .str l2, .str l3, .str (qbc lineO)] := by
    unfold strs strA
    simp only [List.map_cons, List.map_nil, qdf]
  rw [e0] at c1
  have c2 := split_g (qbc lineT) ⟨#[32]⟩ (by decide) (by decide)
  rw [words_eq] at c2
  simp only [List.map_cons, List.map_nil] at c2
  have c3 := typeOf_g wInt
  have c4 := typeOf_g wBool
  rw [tInt_eq] at c3
  rw [tBool_eq] at c4
  have c5 := lastIndex_g (qbc lineO) (by decide)
  rw [lastO_eq] at c5
  have c6 := number_g ⟨#[114, 50]⟩ (by decide)
  rw [numO_eq] at c6
  have hz : (qbc lineO).size = 6 := rfl
  refine qn Tryz.func54 Tryz.ntmps54 rfl rfl (by decide) rfl (by intro n; simp) fun σ n0 hcl hft => ?_
  repeat' (first | ((first | ((with_reducible refine qo (fun hg => ?_) (fun hg => ?_)) <;> (try simp only [hg]) <;> (try simp only [gS] at hg) <;> (try (first | simp only [eq_false hg, gI] | simp only [eq_true hg, gI]))) | (with_reducible first | refine qc ?_ | refine qb ?_ | refine qi ?_ | refine qh ?_) | refine acall (c1) ?_ | refine qp (c1) ?_ | refine acall (c2) ?_ | refine qp (c2) ?_ | refine acall (c3) ?_ | refine qp (c3) ?_ | refine acall (c4) ?_ | refine qp (c4) ?_ | refine acall (c5) ?_ | refine qp (c5) ?_ | refine acall (c6) ?_ | refine qp (c6) ?_ | refine qe ?_ | refine qj ?_ | refine qk ?_ | refine qm ?_) <;> (try simp (disch := first | omega | simp) [qg, -qq, -qs, hz])) | ((with_reducible refine sideT ?_ ?_); first | omega | assumption | (simp; done)) | (refine qf fun K hK => ?_) | (refine qa ?_) | refine ql ?_ | ((first | refine hK _ ?_ | (clear hK K; refine hK _ ?_) | (clear hK K; clear hK K; refine hK _ ?_)); clear hK K) | refine qd ?_)
  generalize hWT : qbc lineT = WT at *
  generalize hWO : qbc lineO = WO at *
  refine qw 1 1 3 1 (by rfl) (by rfl) ?_
  refine qr hcl (fun k : Nat => [(0, .str s), (2, .ptr n0 0), (3, .bool false), (4, .sl [.str WT, .str l1, .str l2, .str l3, .str WO]), (5, .ptr (n0 + 1) 0), (27, .sl [.str wInt, .str wInt, .str wBool]), (28, .int 3), (29, .int k)])
    (fun k => [.cells [.v (.slice none 0 0), .v (.slice none 0 0), .int 0] 25, .cells [.v (.slice none 0 0), .gs (n0 + 2) (([0, 0, 2].take k).map AV.int), .int 0] 25, .tail k 3 1])
    (fun k => k ≤ 3) (fun k => 3 - k) 0 (by omega) (by simp) fun k hk => ?_
  have hk3 : k = 0 ∨ k = 1 ∨ k = 2 ∨ k = 3 := by omega
  rcases hk3 with rfl | rfl | rfl | rfl
  · repeat' (first | ((first | ((with_reducible refine qo (fun hg => ?_) (fun hg => ?_)) <;> (try simp only [hg]) <;> (try simp only [gS] at hg) <;> (try (first | simp only [eq_false hg, gI] | simp only [eq_true hg, gI]))) | (with_reducible first | refine qc ?_ | refine qb ?_ | refine qi ?_ | refine qh ?_) | refine acall (c3) ?_ | refine qp (c3) ?_ | refine acall (c4) ?_ | refine qp (c4) ?_ | refine qe ?_ | refine qj ?_ | refine qk ?_ | refine qm ?_) <;> (try simp (disch := first | omega | simp) [qg, -qq, -qs])) | ((with_reducible refine sideT ?_ ?_); first | omega | assumption | (simp; done)) | (refine qf fun K hK => ?_) | (refine qa ?_) | refine ql ?_ | ((first | refine hK _ ?_ | (clear hK K; refine hK _ ?_) | (clear hK K; clear hK K; refine hK _ ?_)); clear hK K) | refine qd ?_)
    exact ⟨1, by omega, by omega, by simp, by simp⟩
  · repeat' (first | ((first | ((with_reducible refine qo (fun hg => ?_) (fun hg => ?_)) <;> (try simp only [hg]) <;> (try simp only [gS] at hg) <;> (try (first | simp only [eq_false hg, gI] | simp only [eq_true hg, gI]))) | (with_reducible first | refine qc ?_ | refine qb ?_ | refine qi ?_ | refine qh ?_) | refine acall (c3) ?_ | refine qp (c3) ?_ | refine acall (c4) ?_ | refine qp (c4) ?_ | refine qe ?_ | refine qj ?_ | refine qk ?_ | refine qm ?_) <;> (try simp (disch := first | omega | simp) [qg, -qq, -qs])) | ((with_reducible refine sideT ?_ ?_); first | omega | assumption | (simp; done)) | (refine qf fun K hK => ?_) | (refine qa ?_) | refine ql ?_ | ((first | refine hK _ ?_ | (clear hK K; refine hK _ ?_) | (clear hK K; clear hK K; refine hK _ ?_)); clear hK K) | refine qd ?_)
    exact ⟨2, by omega, by omega, by simp, by simp⟩
  · repeat' (first | ((first | ((with_reducible refine qo (fun hg => ?_) (fun hg => ?_)) <;> (try simp only [hg]) <;> (try simp only [gS] at hg) <;> (try (first | simp only [eq_false hg, gI] | simp only [eq_true hg, gI]))) | (with_reducible first | refine qc ?_ | refine qb ?_ | refine qi ?_ | refine qh ?_) | refine acall (c3) ?_ | refine qp (c3) ?_ | refine acall (c4) ?_ | refine qp (c4) ?_ | refine qe ?_ | refine qj ?_ | refine qk ?_ | refine qm ?_) <;> (try simp (disch := first | omega | simp) [qg, -qq, -qs])) | ((with_reducible refine sideT ?_ ?_); first | omega | assumption | (simp; done)) | (refine qf fun K hK => ?_) | (refine qa ?_) | refine ql ?_ | ((first | refine hK _ ?_ | (clear hK K; refine hK _ ?_) | (clear hK K; clear hK K; refine hK _ ?_)); clear hK K) | refine qd ?_)
    exact ⟨3, by omega, by omega, by simp, by simp⟩
  · repeat' (first | ((first | ((with_reducible refine qo (fun hg => ?_) (fun hg => ?_)) <;> (try simp only [hg]) <;> (try simp only [gS] at hg) <;> (try (first | simp only [eq_false hg, gI] | simp only [eq_true hg, gI]))) | (with_reducible first | refine qc ?_ | refine qb ?_ | refine qi ?_ | refine qh ?_) | refine qe ?_ | refine qj ?_ | refine qk ?_ | refine qm ?_) <;> (try simp (disch := first | omega | simp) [qg, -qq, -qs])) | ((with_reducible refine sideT ?_ ?_); first | omega | assumption | (simp; done)) | (refine qf fun K hK => ?_) | (refine qa ?_) | refine ql ?_ | ((first | refine hK _ ?_ | (clear hK K; refine hK _ ?_) | (clear hK K; clear hK K; refine hK _ ?_)); clear hK K) | refine qd ?_)
    refine qw 1 0 32 7 (by rfl) (by rfl) ?_
    refine qr hcl (fun k : Nat => [(0, .str s), (2, .ptr n0 0), (3, .bool false), (4, .sl [.str WT, .str l1, .str l2, .str l3, .str WO]), (5, .ptr (n0 + 1) 0), (52, .sl [.str l1, .str l2, .str l3]), (53, .int 3), (54, .int k)])
      (fun k => [.cells [.v (.slice none 0 0), .v (.slice none 0 0), .int 0] 25, .cells [.gs (n0 + 3) (([x1, x2, x3].take k).map Ins.av), .gs (n0 + 2) [.int 0, .int 0, .int 2], .int 0] 25, .tail 3 3 1, .tail k 32 7])
      (fun k => k ≤ 3) (fun k => 3 - k) 0 (by omega) (by simp) fun k hk => ?_
    have hk3 : k = 0 ∨ k = 1 ∨ k = 2 ∨ k = 3 := by omega
    rcases hk3 with rfl | rfl | rfl | rfl
    · repeat' (first | ((first | ((with_reducible refine qo (fun hg => ?_) (fun hg => ?_)) <;> (try simp only [hg]) <;> (try simp only [gS] at hg) <;> (try (first | simp only [eq_false hg, gI] | simp only [eq_true hg, gI]))) | (with_reducible first | refine qc ?_ | refine qb ?_ | refine qi ?_ | refine qh ?_) | refine acall (i1) ?_ | refine qp (i1) ?_ | refine acall (i2) ?_ | refine qp (i2) ?_ | refine acall (i3) ?_ | refine qp (i3) ?_ | refine qe ?_ | refine qj ?_ | refine qk ?_ | refine qm ?_) <;> (try simp (disch := first | omega | simp) [qg, -qq, -qs])) | ((with_reducible refine sideT ?_ ?_); first | omega | assumption | (simp; done)) | (refine qf fun K hK => ?_) | (refine qa ?_) | refine ql ?_ | ((first | refine hK _ ?_ | (clear hK K; refine hK _ ?_) | (clear hK K; clear hK K; refine hK _ ?_)); clear hK K) | refine qd ?_)
      exact ⟨1, by omega, by omega, by simp, by simp⟩
    · repeat' (first | ((first | ((with_reducible refine qo (fun hg => ?_) (fun hg => ?_)) <;> (try simp only [hg]) <;> (try simp only [gS] at hg) <;> (try (first | simp only [eq_false hg, gI] | simp only [eq_true hg, gI]))) | (with_reducible first | refine qc ?_ | refine qb ?_ | refine qi ?_ | refine qh ?_) | refine acall (i1) ?_ | refine qp (i1) ?_ | refine acall (i2) ?_ | refine qp (i2) ?_ | refine acall (i3) ?_ | refine qp (i3) ?_ | refine qe ?_ | refine qj ?_ | refine qk ?_ | refine qm ?_) <;> (try simp (disch := first | omega | simp) [qg, -qq, -qs])) | ((with_reducible refine sideT ?_ ?_); first | omega | assumption | (simp; done)) | (refine qf fun K hK => ?_) | (refine qa ?_) | refine ql ?_ | ((first | refine hK _ ?_ | (clear hK K; refine hK _ ?_) | (clear hK K; clear hK K; refine hK _ ?_)); clear hK K) | refine qd ?_)
      exact ⟨2, by omega, by omega, by simp, by simp⟩
    · repeat' (first | ((first | ((with_reducible refine qo (fun hg => ?_) (fun hg => ?_)) <;> (try simp only [hg]) <;> (try simp only [gS] at hg) <;> (try (first | simp only [eq_false hg, gI] | simp only [eq_true hg, gI]))) | (with_reducible first | refine qc ?_ | refine qb ?_ | refine qi ?_ | refine qh ?_) | refine acall (i1) ?_ | refine qp (i1) ?_ | refine acall (i2) ?_ | refine qp (i2) ?_ | refine acall (i3) ?_ | refine qp (i3) ?_ | refine qe ?_ | refine qj ?_ | refine qk ?_ | refine qm ?_) <;> (try simp (disch := first | omega | simp) [qg, -qq, -qs])) | ((with_reducible refine sideT ?_ ?_); first | omega | assumption | (simp; done)) | (refine qf fun K hK => ?_) | (refine qa ?_) | refine ql ?_ | ((first | refine hK _ ?_ | (clear hK K; refine hK _ ?_) | (clear hK K; clear hK K; refine hK _ ?_)); clear hK K) | refine qd ?_)
      exact ⟨3, by omega, by omega, by simp, by simp⟩
    · have hcut : WO.extract 4 6 = ⟨#[114, 50]⟩ := by rw [← hWO]; rfl
      repeat' (first | ((first | ((with_reducible refine qo (fun hg => ?_) (fun hg => ?_)) <;> (try simp only [hg]) <;> (try simp only [gS] at hg) <;> (try (first | simp only [eq_false hg, gI] | simp only [eq_true hg, gI]))) | (with_reducible first | refine qc ?_ | refine qb ?_ | refine qi ?_ | refine qh ?_) | refine acall (c5) ?_ | refine qp (c5) ?_ | refine acall (c6) ?_ | refine qp (c6) ?_ | refine acall (hp) ?_ | refine qp (hp) ?_ | refine qe ?_ | refine qj ?_ | refine qk ?_ | refine qm ?_) <;> (try simp (disch := first | omega | simp) [qg, -qq, -qs, hz, hcut])) | ((with_reducible refine sideT ?_ ?_); first | omega | assumption | (simp; done)) | (refine qf fun K hK => ?_) | (refine qa ?_) | refine ql ?_ | ((first | refine hK _ ?_ | (clear hK K; refine hK _ ?_) | (clear hK K; clear hK K; refine hK _ ?_)); clear hK K) | refine qd ?_)
      all_goals rfl
end Go.Proofs.YtgpcpmfdklpifaaGreatDoor

/- Walk of layer 25: the examples of the documentation. -/
namespace Go.Proofs.YtgpcpmfdklpifaaGreatDoor
open Go.RowKit Go.Lib
def exL0 : ByteArray := ⟨#[114, 48, 32, 61, 32, 99, 111, 108, 32, 49]⟩
def exI0 : Ins := ⟨3, 0, 0, 0, 0, 1, ByteArray.empty⟩
theorem exI0_g : Gives Tryz.prog 69 [.str exL0] (.tup [exI0.av, .bool true]) := insA_g exL0 ⟨#[114, 48]⟩ ⟨#[99, 111, 108, 32, 49]⟩ ⟨#[99, 111, 108]⟩ ⟨#[49]⟩ 3 0 1 (by decide) (by decide) (by decide) (by decide) (by kernel_rfl) (by kernel_rfl) (by kernel_rfl) (by decide) (by kernel_rfl) (by kernel_rfl) (by decide)
theorem exI0_i : InsI exI0 := ⟨by decide, by decide, by decide, by unfold i64; decide, by unfold i64; decide, by unfold i64; decide⟩
def exL1 : ByteArray := ⟨#[114, 49, 32, 61, 32, 105, 110, 116, 32, 53]⟩
def exI1 : Ins := ⟨0, 1, 0, 0, 0, 5, ByteArray.empty⟩
theorem exI1_g : Gives Tryz.prog 69 [.str exL1] (.tup [exI1.av, .bool true]) := insA_g exL1 ⟨#[114, 49]⟩ ⟨#[105, 110, 116, 32, 53]⟩ ⟨#[105, 110, 116]⟩ ⟨#[53]⟩ 0 1 5 (by decide) (by decide) (by decide) (by decide) (by kernel_rfl) (by kernel_rfl) (by kernel_rfl) (by decide) (by kernel_rfl) (by kernel_rfl) (by decide)
theorem exI1_i : InsI exI1 := ⟨by decide, by decide, by decide, by unfold i64; decide, by unfold i64; decide, by unfold i64; decide⟩
def exL2 : ByteArray := ⟨#[114, 50, 32, 61, 32, 108, 116, 32, 114, 48, 32, 114, 49]⟩
def exI2 : Ins := ⟨15, 2, 0, 1, 0, 0, ByteArray.empty⟩
theorem exI2_g : Gives Tryz.prog 69 [.str exL2] (.tup [exI2.av, .bool true]) := insB_g exL2 ⟨#[114, 50]⟩ ⟨#[108, 116, 32, 114, 48, 32, 114, 49]⟩ ⟨#[108, 116]⟩ ⟨#[114, 48, 32, 114, 49]⟩ ⟨#[114, 48]⟩ ⟨#[114, 49]⟩ 15 2 0 1 (by decide) (by decide) (by decide) (by decide) (by decide) (by decide) (by kernel_rfl) (by kernel_rfl) (by kernel_rfl) (by decide) (by kernel_rfl) (by kernel_rfl) (by kernel_rfl) (by kernel_rfl)
theorem exI2_i : InsI exI2 := ⟨by decide, by decide, by decide, by unfold i64; decide, by unfold i64; decide, by unfold i64; decide⟩
def exS0 : ByteArray := ⟨#[116, 121, 112, 101, 115, 32, 105, 110, 116, 32, 105, 110, 116, 32, 98, 111, 111, 108, 10, 114, 48, 32, 61, 32, 99, 111, 108, 32, 49, 10, 114, 49, 32, 61, 32, 105, 110, 116, 32, 53, 10, 114, 50, 32, 61, 32, 108, 116, 32, 114, 48, 32, 114, 49, 10, 111, 117, 116, 32, 114, 50, 10]⟩
def exC0 : Cod := ⟨[exI0, exI1, exI2], [0, 0, 2], 2⟩
theorem exP0 : Gives Tryz.prog 54 [.str exS0] (.tup [exC0.av, .bool true]) := by
  have h1 := print_g25 exC0 (by decide) (by decide) (by unfold i64; decide) (by intro x hx; simp only [exC0, List.mem_cons, List.not_mem_nil, or_false] at hx; rcases hx with rfl | rfl | rfl; exact exI0_i; exact exI1_i; exact exI2_i) (by decide +kernel)
  have h2 : printL exC0 = exS0.data.toList := by kernel_rfl
  rw [h2, qdf] at h1
  exact parse25_g exS0 exL0 exL1 exL2 exI0 exI1 exI2 (by decide) (by kernel_rfl) exI0_g exI1_g exI2_g h1
def exL3 : ByteArray := ⟨#[114, 50, 32, 61, 32, 108, 116, 32, 114, 48, 32, 114, 50]⟩
def exI3 : Ins := ⟨15, 2, 0, 2, 0, 0, ByteArray.empty⟩
theorem exI3_g : Gives Tryz.prog 69 [.str exL3] (.tup [exI3.av, .bool true]) := insB_g exL3 ⟨#[114, 50]⟩ ⟨#[108, 116, 32, 114, 48, 32, 114, 50]⟩ ⟨#[108, 116]⟩ ⟨#[114, 48, 32, 114, 50]⟩ ⟨#[114, 48]⟩ ⟨#[114, 50]⟩ 15 2 0 2 (by decide) (by decide) (by decide) (by decide) (by decide) (by decide) (by kernel_rfl) (by kernel_rfl) (by kernel_rfl) (by decide) (by kernel_rfl) (by kernel_rfl) (by kernel_rfl) (by kernel_rfl)
theorem exI3_i : InsI exI3 := ⟨by decide, by decide, by decide, by unfold i64; decide, by unfold i64; decide, by unfold i64; decide⟩
def exS1 : ByteArray := ⟨#[116, 121, 112, 101, 115, 32, 105, 110, 116, 32, 105, 110, 116, 32, 98, 111, 111, 108, 10, 114, 48, 32, 61, 32, 99, 111, 108, 32, 49, 10, 114, 49, 32, 61, 32, 105, 110, 116, 32, 53, 10, 114, 50, 32, 61, 32, 108, 116, 32, 114, 48, 32, 114, 50, 10, 111, 117, 116, 32, 114, 50, 10]⟩
def exC1 : Cod := ⟨[exI0, exI1, exI3], [0, 0, 2], 2⟩
theorem exP1 : Gives Tryz.prog 54 [.str exS1] (.tup [exC1.av, .bool true]) := by
  have h1 := print_g25 exC1 (by decide) (by decide) (by unfold i64; decide) (by intro x hx; simp only [exC1, List.mem_cons, List.not_mem_nil, or_false] at hx; rcases hx with rfl | rfl | rfl; exact exI0_i; exact exI1_i; exact exI3_i) (by decide +kernel)
  have h2 : printL exC1 = exS1.data.toList := by kernel_rfl
  rw [h2, qdf] at h1
  exact parse25_g exS1 exL0 exL1 exL3 exI0 exI1 exI3 (by decide) (by kernel_rfl) exI0_g exI1_g exI3_g h1
def exL4 : ByteArray := ⟨#[114, 50, 32, 61, 32, 97, 100, 100, 32, 114, 48, 32, 114, 49]⟩
def exI4 : Ins := ⟨8, 2, 0, 1, 0, 0, ByteArray.empty⟩
theorem exI4_g : Gives Tryz.prog 69 [.str exL4] (.tup [exI4.av, .bool true]) := insB_g exL4 ⟨#[114, 50]⟩ ⟨#[97, 100, 100, 32, 114, 48, 32, 114, 49]⟩ ⟨#[97, 100, 100]⟩ ⟨#[114, 48, 32, 114, 49]⟩ ⟨#[114, 48]⟩ ⟨#[114, 49]⟩ 8 2 0 1 (by decide) (by decide) (by decide) (by decide) (by decide) (by decide) (by kernel_rfl) (by kernel_rfl) (by kernel_rfl) (by decide) (by kernel_rfl) (by kernel_rfl) (by kernel_rfl) (by kernel_rfl)
theorem exI4_i : InsI exI4 := ⟨by decide, by decide, by decide, by unfold i64; decide, by unfold i64; decide, by unfold i64; decide⟩
def exS2 : ByteArray := ⟨#[116, 121, 112, 101, 115, 32, 105, 110, 116, 32, 105, 110, 116, 32, 98, 111, 111, 108, 10, 114, 48, 32, 61, 32, 99, 111, 108, 32, 49, 10, 114, 49, 32, 61, 32, 105, 110, 116, 32, 53, 10, 114, 50, 32, 61, 32, 97, 100, 100, 32, 114, 48, 32, 114, 49, 10, 111, 117, 116, 32, 114, 50, 10]⟩
def exC2 : Cod := ⟨[exI0, exI1, exI4], [0, 0, 2], 2⟩
theorem exP2 : Gives Tryz.prog 54 [.str exS2] (.tup [exC2.av, .bool true]) := by
  have h1 := print_g25 exC2 (by decide) (by decide) (by unfold i64; decide) (by intro x hx; simp only [exC2, List.mem_cons, List.not_mem_nil, or_false] at hx; rcases hx with rfl | rfl | rfl; exact exI0_i; exact exI1_i; exact exI4_i) (by decide +kernel)
  have h2 : printL exC2 = exS2.data.toList := by kernel_rfl
  rw [h2, qdf] at h1
  exact parse25_g exS2 exL0 exL1 exL4 exI0 exI1 exI4 (by decide) (by kernel_rfl) exI0_g exI1_g exI4_g h1
def exL5 : ByteArray := ⟨#[114, 48, 32, 61, 32, 99, 111, 108, 32, 50]⟩
def exI5 : Ins := ⟨3, 0, 0, 0, 0, 2, ByteArray.empty⟩
theorem exI5_g : Gives Tryz.prog 69 [.str exL5] (.tup [exI5.av, .bool true]) := insA_g exL5 ⟨#[114, 48]⟩ ⟨#[99, 111, 108, 32, 50]⟩ ⟨#[99, 111, 108]⟩ ⟨#[50]⟩ 3 0 2 (by decide) (by decide) (by decide) (by decide) (by kernel_rfl) (by kernel_rfl) (by kernel_rfl) (by decide) (by kernel_rfl) (by kernel_rfl) (by decide)
theorem exI5_i : InsI exI5 := ⟨by decide, by decide, by decide, by unfold i64; decide, by unfold i64; decide, by unfold i64; decide⟩
def exS3 : ByteArray := ⟨#[116, 121, 112, 101, 115, 32, 105, 110, 116, 32, 105, 110, 116, 32, 98, 111, 111, 108, 10, 114, 48, 32, 61, 32, 99, 111, 108, 32, 50, 10, 114, 49, 32, 61, 32, 105, 110, 116, 32, 53, 10, 114, 50, 32, 61, 32, 108, 116, 32, 114, 48, 32, 114, 49, 10, 111, 117, 116, 32, 114, 50, 10]⟩
def exC3 : Cod := ⟨[exI5, exI1, exI2], [0, 0, 2], 2⟩
theorem exP3 : Gives Tryz.prog 54 [.str exS3] (.tup [exC3.av, .bool true]) := by
  have h1 := print_g25 exC3 (by decide) (by decide) (by unfold i64; decide) (by intro x hx; simp only [exC3, List.mem_cons, List.not_mem_nil, or_false] at hx; rcases hx with rfl | rfl | rfl; exact exI5_i; exact exI1_i; exact exI2_i) (by decide +kernel)
  have h2 : printL exC3 = exS3.data.toList := by kernel_rfl
  rw [h2, qdf] at h1
  exact parse25_g exS3 exL5 exL1 exL2 exI5 exI1 exI2 (by decide) (by kernel_rfl) exI5_g exI1_g exI2_g h1
theorem exV0 : verP exC0 [0, 0] = (-1, 0) := by kernel_rfl
theorem exD0 : Gives Tryz.prog 28 [.str exS0] (.tup [.int (-1), .int 0]) := by
  have h1 := exP0
  have h2 := qds exC0 [0, 0] (by decide)
  rw [exV0] at h2
  generalize exC0 = c at *
  obtain ⟨ins, types, out⟩ := c
  simp only [List.map_cons, List.map_nil] at h2
  refine qn Tryz.func28 Tryz.ntmps28 rfl rfl (by decide) rfl (by intro n; simp) fun σ n0 hcl hft => ?_
  repeat' (first | ((first | ((with_reducible refine qo (fun hg => ?_) (fun hg => ?_)) <;> (try simp only [hg]) <;> (try simp only [gS] at hg) <;> (try (first | simp only [eq_false hg, gI] | simp only [eq_true hg, gI]))) | (with_reducible first | refine qc ?_ | refine qb ?_ | refine qi ?_ | refine qh ?_) | refine acall (h1) ?_ | refine qp (h1) ?_ | refine acall (h2) ?_ | refine qp (h2) ?_ | refine qe ?_ | refine qj ?_ | refine qk ?_ | refine qm ?_) <;> (try simp (disch := first | omega | simp) [qg, -qq, -qs])) | ((with_reducible refine sideT ?_ ?_); first | omega | assumption | (simp; done)) | (refine qf fun K hK => ?_) | (refine qa ?_) | refine ql ?_ | ((first | refine hK _ ?_ | (clear hK K; refine hK _ ?_) | (clear hK K; clear hK K; refine hK _ ?_)); clear hK K) | refine qd ?_)
theorem exV1 : verP exC1 [0, 0] = (2, 25) := by kernel_rfl
theorem exD1 : Gives Tryz.prog 28 [.str exS1] (.tup [.int (2), .int 25]) := by
  have h1 := exP1
  have h2 := qds exC1 [0, 0] (by decide)
  rw [exV1] at h2
  generalize exC1 = c at *
  obtain ⟨ins, types, out⟩ := c
  simp only [List.map_cons, List.map_nil] at h2
  refine qn Tryz.func28 Tryz.ntmps28 rfl rfl (by decide) rfl (by intro n; simp) fun σ n0 hcl hft => ?_
  repeat' (first | ((first | ((with_reducible refine qo (fun hg => ?_) (fun hg => ?_)) <;> (try simp only [hg]) <;> (try simp only [gS] at hg) <;> (try (first | simp only [eq_false hg, gI] | simp only [eq_true hg, gI]))) | (with_reducible first | refine qc ?_ | refine qb ?_ | refine qi ?_ | refine qh ?_) | refine acall (h1) ?_ | refine qp (h1) ?_ | refine acall (h2) ?_ | refine qp (h2) ?_ | refine qe ?_ | refine qj ?_ | refine qk ?_ | refine qm ?_) <;> (try simp (disch := first | omega | simp) [qg, -qq, -qs])) | ((with_reducible refine sideT ?_ ?_); first | omega | assumption | (simp; done)) | (refine qf fun K hK => ?_) | (refine qa ?_) | refine ql ?_ | ((first | refine hK _ ?_ | (clear hK K; refine hK _ ?_) | (clear hK K; clear hK K; refine hK _ ?_)); clear hK K) | refine qd ?_)
theorem exV2 : verP exC2 [0, 0] = (2, 13) := by kernel_rfl
theorem exD2 : Gives Tryz.prog 28 [.str exS2] (.tup [.int (2), .int 13]) := by
  have h1 := exP2
  have h2 := qds exC2 [0, 0] (by decide)
  rw [exV2] at h2
  generalize exC2 = c at *
  obtain ⟨ins, types, out⟩ := c
  simp only [List.map_cons, List.map_nil] at h2
  refine qn Tryz.func28 Tryz.ntmps28 rfl rfl (by decide) rfl (by intro n; simp) fun σ n0 hcl hft => ?_
  repeat' (first | ((first | ((with_reducible refine qo (fun hg => ?_) (fun hg => ?_)) <;> (try simp only [hg]) <;> (try simp only [gS] at hg) <;> (try (first | simp only [eq_false hg, gI] | simp only [eq_true hg, gI]))) | (with_reducible first | refine qc ?_ | refine qb ?_ | refine qi ?_ | refine qh ?_) | refine acall (h1) ?_ | refine qp (h1) ?_ | refine acall (h2) ?_ | refine qp (h2) ?_ | refine qe ?_ | refine qj ?_ | refine qk ?_ | refine qm ?_) <;> (try simp (disch := first | omega | simp) [qg, -qq, -qs])) | ((with_reducible refine sideT ?_ ?_); first | omega | assumption | (simp; done)) | (refine qf fun K hK => ?_) | (refine qa ?_) | refine ql ?_ | ((first | refine hK _ ?_ | (clear hK K; refine hK _ ?_) | (clear hK K; clear hK K; refine hK _ ?_)); clear hK K) | refine qd ?_)
theorem exV3 : verP exC3 [0, 0] = (0, 3) := by kernel_rfl
theorem exD3 : Gives Tryz.prog 28 [.str exS3] (.tup [.int (0), .int 3]) := by
  have h1 := exP3
  have h2 := qds exC3 [0, 0] (by decide)
  rw [exV3] at h2
  generalize exC3 = c at *
  obtain ⟨ins, types, out⟩ := c
  simp only [List.map_cons, List.map_nil] at h2
  refine qn Tryz.func28 Tryz.ntmps28 rfl rfl (by decide) rfl (by intro n; simp) fun σ n0 hcl hft => ?_
  repeat' (first | ((first | ((with_reducible refine qo (fun hg => ?_) (fun hg => ?_)) <;> (try simp only [hg]) <;> (try simp only [gS] at hg) <;> (try (first | simp only [eq_false hg, gI] | simp only [eq_true hg, gI]))) | (with_reducible first | refine qc ?_ | refine qb ?_ | refine qi ?_ | refine qh ?_) | refine acall (h1) ?_ | refine qp (h1) ?_ | refine acall (h2) ?_ | refine qp (h2) ?_ | refine qe ?_ | refine qj ?_ | refine qk ?_ | refine qm ?_) <;> (try simp (disch := first | omega | simp) [qg, -qq, -qs])) | ((with_reducible refine sideT ?_ ?_); first | omega | assumption | (simp; done)) | (refine qf fun K hK => ?_) | (refine qa ?_) | refine ql ?_ | ((first | refine hK _ ?_ | (clear hK K; refine hK _ ?_) | (clear hK K; clear hK K; refine hK _ ?_)); clear hK K) | refine qd ?_)
theorem small25_g : Gives Tryz.prog 7 [] (.bool true) := by
  have h1 := exD0
  unfold exS0 at h1
  have h2 := exD1
  unfold exS1 at h2
  have h3 := exD2
  unfold exS2 at h3
  have h4 := exD3
  unfold exS3 at h4
  refine qn Tryz.func7 Tryz.ntmps7 rfl rfl (by decide) rfl (by intro n; simp) fun σ n0 hcl hft => ?_
  repeat' (first | ((first | ((with_reducible refine qo (fun hg => ?_) (fun hg => ?_)) <;> (try simp only [hg]) <;> (try simp only [gS] at hg) <;> (try (first | simp only [eq_false hg, gI] | simp only [eq_true hg, gI]))) | (with_reducible first | refine qc ?_ | refine qb ?_ | refine qi ?_ | refine qh ?_) | refine acall (h1) ?_ | refine qp (h1) ?_ | refine acall (h2) ?_ | refine qp (h2) ?_ | refine acall (h3) ?_ | refine qp (h3) ?_ | refine acall (h4) ?_ | refine qp (h4) ?_ | refine qe ?_ | refine qj ?_ | refine qk ?_ | refine qm ?_) <;> (try simp (disch := first | omega | simp) [qg, -qq, -qs])) | ((with_reducible refine sideT ?_ ?_); first | omega | assumption | (simp; done)) | (refine qf fun K hK => ?_) | (refine qa ?_) | refine ql ?_ | ((first | refine hK _ ?_ | (clear hK K; refine hK _ ?_) | (clear hK K; clear hK K; refine hK _ ?_)); clear hK K) | refine qd ?_)
end Go.Proofs.YtgpcpmfdklpifaaGreatDoor

/- Lifting a law: the arguments' readings, and what the listed variables hold. -/
namespace Go.Proofs.YtgpcpmfdklpifaaGreatDoor
open Go.ChangeShapes Go.WideShapes Go.ChangeAt Go.RowKit Go.Lib
section
variable {H : Type} {enc : TypeId × Value → H}
theorem qbk {a : Assume} {C : Checked} {os : Os} {f : FuncId} {fn : Func} {s : ChangeSpec} {conds : List PathCond} {apart fresh handsOn again : Bool} {X : World → Array Value → Prop}
    (own : ownKnob C.prog.godebug = none) (started : os.Started) (noInit : C.prog.inits.idxOf? f = none) (hfn : C.prog.funcs[f]? = some fn)
    (witness : ∃ (w : World) (tape : Tape) (i : Input), w.os = os ∧ (w.forCall tape i).Shaped C.prog ∧ i.vars = [] ∧ Input.okWide C.prog (w.forCall tape i) .any w.heap.size f i ∧
      ((s.pre enc C.prog fn conds apart (w.forCall tape i).memory i.args ∧ X (w.forCall tape i).memory i.args) ∧ sizedMet enc C.prog fn (OpenSpec.ofChange s) apart (w.forCall tape i).memory i.args) ∧ a.holds C.prog (lone (Frame.enter C.prog f i.args .normal) [] (w.forCall tape i)))
    (hXh : ∀ (w w' : World) (us : Array Value), w.heap = w'.heap → X w us → X w' us)
    (contract : ∀ (W : World) (base : Nat) (args : Array Value) (ds gs : List (DataW H)) (before : List MemPlace),
      (∀ (j : Nat) t v, fn.params[j]? = some t → args[j]? = some v → Value.okWide C.prog W .any base t v) →
      DataW.Whole enc C.prog fn.params.toList s.vars apart W args.toList ds gs before →
      conds.all (PathCond.test C.prog ⟨fn.params.toList, ds, s.plain.varTypes C.prog, gs⟩) = true →
      W.ShapedOpen C.prog → X W args →
      Calls C.prog f args W fun e W' => ∃ v, e = .returned v ∧ s.post enc C.prog fn apart fresh handsOn again W args v W') :
    ReturnsInHanded a C os f .any (fun w args => (s.pre enc C.prog fn conds apart w args ∧ X w args) ∧ sizedMet enc C.prog fn (OpenSpec.ofChange s) apart w args) (s.post enc C.prog fn apart fresh handsOn again) := by
  refine returnsInHanded_of_calls own started noInit witness ?_
  intro w tape i _ hsh _ hok hpre hholds
  obtain ⟨_, _, _, fn', hfn', _, _, _, _, hval⟩ := hok
  have e : fn' = fn := Option.some.inj (hfn'.symm.trans hfn)
  subst e
  obtain ⟨⟨⟨ds, gs, before, hw, hc⟩, hX⟩, -⟩ := hpre
  have hw' := DataW.Whole.of_heap (w' := w.forCall tape i) (by rfl) hw
  refine (contract (w.forCall tape i) w.heap.size i.args ds gs before hval hw' hc hsh (hXh _ _ _ (by rfl) hX)).mono fun e W' ⟨v, he, hp⟩ => ?_
  subst he
  exact ChangeSpec.post_blind hp
end
theorem flat_int02 {w : World} {n : Int} : RR1 (St.flat w) (.int n) (.int .i64 n) := by
  show RC _ _ _
  rw [RC]
section
variable {H : Type} {enc : TypeId × Value → H} {w w0 : World} {sp : Nat → Bool} {hd : Bool} {b0 : Nat} {t : TypeId} {v : Value}
theorem par_intR {P : Program} (ht : P.underlying t = some (.int .i64)) (hval : Value.okWide P w0 .any b0 t v) : ∃ n, v = .int .i64 n ∧ (-9223372036854775808 ≤ n ∧ n ≤ 9223372036854775807) := by
  obtain ⟨n, rfl⟩ := okWide_int ht hval
  refine ⟨n, rfl, ?_⟩
  unfold Value.okWide at hval
  rw [ht] at hval
  dsimp only at hval
  unfold Cell.okWide at hval
  rw [ht] at hval
  dsimp only at hval
  unfold Cell.ok at hval
  rw [ht] at hval
  exact ⟨hval.2.1, hval.2.2⟩
end
section
variable {H : Type} {enc : TypeId × Value → H} {P : Program} {w : World} {base : Nat} {spare : Nat → Bool} {held : Bool} {t0 t1 t2 t3 : TypeId} {args : Array Value} {ds : List (DataW H)} {ps : List MemPlace}
theorem trodAll_2_02 (h : DataW.TrodAll enc P w base spare held [t0, t1] args.toList ds ps) :
    ∃ v0 v1 d0 d1 p0 p1, args = #[v0, v1] ∧ ds = [d0, d1] ∧ ps = p0 ++ p1 ∧ DataW.Trod enc P w base spare held t0 v0 d0 p0 ∧ DataW.Trod enc P w base spare held t1 v1 d1 p1 := by
  obtain ⟨v0, vs0, d0, ds0, p0, q0, hargs, rfl, rfl, h0, r0⟩ := trodAll_cons h
  obtain ⟨v1, vs1, d1, ds1, p1, q1, rfl, rfl, rfl, h1, r1⟩ := trodAll_cons r0
  obtain ⟨rfl, rfl, rfl⟩ := trodAll_nil r1
  exact ⟨v0, v1, d0, d1, p0, p1, by cases args; simp_all, rfl, by simp, h0, h1⟩
theorem trodAll_4_02 (h : DataW.TrodAll enc P w base spare held [t0, t1, t2, t3] args.toList ds ps) :
    ∃ v0 v1 v2 v3 d0 d1 d2 d3 p0 p1 p2 p3, args = #[v0, v1, v2, v3] ∧ ds = [d0, d1, d2, d3] ∧ ps = p0 ++ p1 ++ p2 ++ p3 ∧ DataW.Trod enc P w base spare held t0 v0 d0 p0 ∧ DataW.Trod enc P w base spare held t1 v1 d1 p1 ∧ DataW.Trod enc P w base spare held t2 v2 d2 p2 ∧ DataW.Trod enc P w base spare held t3 v3 d3 p3 := by
  obtain ⟨v0, vs0, d0, ds0, p0, q0, hargs, rfl, rfl, h0, r0⟩ := trodAll_cons h
  obtain ⟨v1, vs1, d1, ds1, p1, q1, rfl, rfl, rfl, h1, r1⟩ := trodAll_cons r0
  obtain ⟨v2, vs2, d2, ds2, p2, q2, rfl, rfl, rfl, h2, r2⟩ := trodAll_cons r1
  obtain ⟨v3, vs3, d3, ds3, p3, q3, rfl, rfl, rfl, h3, r3⟩ := trodAll_cons r2
  obtain ⟨rfl, rfl, rfl⟩ := trodAll_nil r3
  exact ⟨v0, v1, v2, v3, d0, d1, d2, d3, p0, p1, p2, p3, by cases args; simp_all, rfl, by simp, h0, h1, h2, h3⟩
end
theorem iface_of_trod {H : Type} {enc : TypeId × Value → H} {P : Program} {w : World} {base : Nat} {sp : Nat → Bool} {held : Bool} {fuel : Nat} {t : TypeId} {cs : List Value} {d : DataW H} {p : List MemPlace} (hu : (match P.underlying t with | some (.interface _) => true | _ => false) = true)
    (h : DataW.trod enc P w base sp held fuel t cs = some (d, p)) : ∃ x, cs = [x] ∧ (x = .nilIface ∨ ∃ te pe, x = .iface te pe) := by
  cases fuel with
  | zero => simp [DataW.trod] at h
  | succ fuel =>
    cases hu' : P.underlying t with
    | none => rw [hu'] at hu; cases hu
    | some u =>
      rw [hu'] at hu
      cases u <;> first | (cases hu; done) | skip
      simp only [DataW.trod, hu'] at h
      match cs, h with
      | [], h => simp at h
      | [x], h => cases x <;> first | exact ⟨_, rfl, .inl rfl⟩ | exact ⟨_, rfl, .inr ⟨_, _, rfl⟩⟩ | (simp at h; done)
      | _ :: _ :: _, h => simp at h
theorem var_block {P : Program} {w : World} {n : String} {g : Nat} {cs : Array Value} (hg : P.globalNamed n = some g) (h : w.var? P n = some cs) : ∃ t fz, w.heap[g]? = some (.cells cs t fz) := by
  unfold World.var? at h
  rw [hg] at h
  dsimp only [Option.bind] at h
  split at h
  · rename_i cs' t fz he
    cases h
    exact ⟨t, fz, he⟩
  · cases h
theorem qdy {w : World} {b : Nat} {cs : List Value} (h : ∃ t fz, w.heap[b]? = some (.cells cs.toArray t fz)) (hne : cs ≠ []) : GlobS (St.flat w) b 0 cs := by
  obtain ⟨t, fz, hb⟩ := h
  refine ⟨qcs _ 0 fun j u hj => ⟨?_, ?_⟩, ⟨t, fz, hb⟩, (fun r hr => by cases hr), hne⟩
  · show World.cell? w _ = _
    simp [World.cell?, hb, hj]
  · exact (Array.getElem?_eq_some_iff.1 hb).1
def tabS {H : Type} (zs : List ByteArray) : DataW H := .agg (zs.map fun z => .lit (.string z.data.toList))
theorem cells_of_tabS {H : Type} {enc : TypeId × Value → H} {P : Program} {w : World} {base : Nat} {sp : Nat → Bool} {held : Bool} {fuel : Nat} {t e : TypeId} {n : Nat} {cs : List Value} {zs : List ByteArray} {p : List MemPlace}
    (ht : P.underlying t = some (.array n e)) (he : P.underlying e = some .string) (hce : P.cellsOf e = 1) (hct : P.cellsOf t = n)
    (h : DataW.trod enc P w base sp held fuel t cs = some (tabS zs, p)) : cs = zs.map fun z => Value.string z := by
  obtain ⟨xs, m, rfl, hx, hl, hxl, hf⟩ := DataW.trod_array ht h
  rw [hct] at hl
  have hxs : xs.map (·.1) = zs.map fun z => (DataW.lit (.string z.data.toList) : DataW H) := by
    have := congrArg Prod.fst hx
    simpa [tabS] using this.symm
  have hzl : zs.length = n := by
    have := congrArg List.length hxs
    simp at this
    omega
  apply List.ext_getElem?
  intro i
  by_cases hi : i < n
  · have hi2 := hf i hi
    rw [List.getElem?_eq_getElem (by omega)] at hi2
    obtain ⟨s, hc, hxi, -⟩ := DataW.trod_string he hi2
    rw [hce, Nat.mul_one] at hc
    have h1 : cs[i]? = some (.string s) := by
      have := congrArg (·[0]?) hc
      simpa [List.getElem?_take, List.getElem?_drop] using this
    have h2 : (xs.map (·.1))[i]? = some (DataW.lit (.string s.data.toList) : DataW H) := by
      rw [List.getElem?_map, List.getElem?_eq_getElem (by omega), hxi]; rfl
    rw [hxs] at h2
    simp only [List.getElem?_map, Option.map_eq_some_iff, DataW.lit.injEq, Lit.string.injEq] at h2
    obtain ⟨z', hz', hzz⟩ := h2
    have hz3 : z' = s := by
      cases z'; cases s; simp at hzz; rw [hzz]
    subst hz3
    simp [h1, hz']
  · rw [List.getElem?_eq_none (by omega), List.getElem?_eq_none (by simp; omega)]
end Go.Proofs.YtgpcpmfdklpifaaGreatDoor

/- Readings of lists of ints at a law's entry. -/
namespace Go.Proofs.YtgpcpmfdklpifaaGreatDoor
open Go.ChangeShapes Go.WideShapes Go.ChangeAt Go.RowKit Go.Lib
section
variable {H : Type} {enc : TypeId × Value → H} {w : World} {sp : Nat → Bool} {hd : Bool}
theorem qdr (N : Nat) : Trods enc Tryz.prog w sp hd 23 (fun l : List Int => D.sl (l.map D.int)) N := fun n cs x hn h =>
  trods_sl Tryz.underlying23 (sz := 1) (by kernel_rfl) (by omega) (fun _ => rfl) (qbx Tryz.underlying3 N) n cs x (by omega) h
end
theorem ints_av27 (l : List Int) : (D.sl (l.map D.int)).av = .sl (l.map AV.int) := by
  rw [D.av, D.avs_map, List.map_map]; rfl
theorem qei {w : World} {l : List Int} {v : Value} (h : Rd w Any (.sl (l.map D.int)) [v]) : RR1 (St.flat w) (.sl (l.map AV.int)) v := by
  have := qdg h
  rw [ints_av27] at this
  exact this
end Go.Proofs.YtgpcpmfdklpifaaGreatDoor
