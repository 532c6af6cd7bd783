/- Contracts of the tally: a step of small numbers (done). -/
import Derived.Test.YtnfdkgmikijbgaaTallyF
set_option linter.unusedSimpArgs false
set_option linter.unusedVariables false
namespace Go.Proofs.Ytnfdkgmikijbgaa
open Go.RowKit Go.ChangeShapes Go.WideShapes

/-- What one step did, by small numbers. -/
structure Mk where
  rt : Int
  cp : Int
  loc : Bool
  los : B4
  exp : B4
def Mk.cells (m : Mk) : Array Value := #[.int .u8 m.rt, .int .u8 m.cp, .bool m.loc, .int .u64 m.los.a, .int .u64 m.los.b, .int .u64 m.los.c, .int .u64 m.los.d, .int .u64 m.exp.a, .int .u64 m.exp.b, .int .u64 m.exp.c, .int .u64 m.exp.d]
def Mk.ok (m : Mk) : Prop := (0 ≤ m.rt ∧ m.rt ≤ 255) ∧ (0 ≤ m.cp ∧ m.cp ≤ 255) ∧ m.los.ok ∧ m.exp.ok
def Mk.dn (m : Mk) (sa : Option Addr) (sc : Nat) : Dn := ⟨m.loc, sa, (m.cp % 5).toNat, sc, m.los, m.exp⟩

structure DoS (W : World) (m : Mk) (V : World) : Prop where
  box : V.heap[W.heap.size]? = some (.cells m.cells 31 (0, 0))
  res : V.heap[W.heap.size + 1]? = some (.cells #[.bool false, .slice none 0 0, .int .u64 0, .int .u64 0, .int .u64 0, .int .u64 0, .int .u64 0, .int .u64 0, .int .u64 0, .int .u64 0] 34 (0, 0))
  bel : Below W.heap.size W V
theorem DoS.later {W V X : World} {m : Mk} (H : DoS W m V) (hb : Below V.heap.size V X) : DoS W m X :=
  ⟨(hb.block _ (Array.getElem?_eq_some_iff.1 H.box).1).trans H.box, (hb.block _ (Array.getElem?_eq_some_iff.1 H.res).1).trans H.res, H.bel.trans (hb.mono H.bel.size)⟩
def DoX (W : World) (m : Mk) (V : World) : Prop := V.heap[W.heap.size]? = some (.cells m.cells 31 (0, 0))
theorem DoX.cells {W V : World} {m : Mk} (H : DoX W m V) : V.cell? ⟨W.heap.size, 1, none⟩ = some (.int .u8 m.cp) ∧ V.cell? ⟨W.heap.size, 2, none⟩ = some (.bool m.loc) ∧ V.cell? ⟨W.heap.size, 3, none⟩ = some (.int .u64 m.los.a) ∧ V.cell? ⟨W.heap.size, 4, none⟩ = some (.int .u64 m.los.b) ∧ V.cell? ⟨W.heap.size, 5, none⟩ = some (.int .u64 m.los.c) ∧ V.cell? ⟨W.heap.size, 6, none⟩ = some (.int .u64 m.los.d) ∧ V.cell? ⟨W.heap.size, 7, none⟩ = some (.int .u64 m.exp.a) ∧ V.cell? ⟨W.heap.size, 8, none⟩ = some (.int .u64 m.exp.b) ∧ V.cell? ⟨W.heap.size, 9, none⟩ = some (.int .u64 m.exp.c) ∧ V.cell? ⟨W.heap.size, 10, none⟩ = some (.int .u64 m.exp.d) :=
  ⟨cell_of_row _ _ 1 _ _ _ H, cell_of_row _ _ 2 _ _ _ H, cell_of_row _ _ 3 _ _ _ H, cell_of_row _ _ 4 _ _ _ H, cell_of_row _ _ 5 _ _ _ H, cell_of_row _ _ 6 _ _ _ H, cell_of_row _ _ 7 _ _ _ H, cell_of_row _ _ 8 _ _ _ H, cell_of_row _ _ 9 _ _ _ H, cell_of_row _ _ 10 _ _ _ H⟩

theorem infoCp : (Try.prog.info? 94).map (fun i => (i.zero, i.size, i.bytes)) = some (some (.agg #[.int .i64 0, .int .i64 0, .int .i64 0, .int .u32 0, .int .i64 0, .int .i64 0, .int .i64 0, .int .u32 0, .int .u64 0, .int .u64 0, .int .u64 0, .int .u64 0]), 12, 96) := by kernel_rfl

set_option maxRecDepth 100000 in
set_option maxHeartbeats 1600000 in
theorem done_any (m : Mk) (W : World) (hm : m.ok) : Calls Try.prog 9 #[.agg m.cells] W fun e W' => ∃ sa sc, e = .returned (m.dn sa sc).ag ∧ Below W.heap.size W W' := by
  obtain ⟨_, ⟨hc0, hc1⟩, _, _⟩ := hm
  obtain ⟨n, hn⟩ : ∃ n : Nat, (n : Int) = m.cp % 5 := ⟨(m.cp % 5).toNat, by omega⟩
  have hn5 : n < 5 := by omega
  obtain ⟨W1, hW1⟩ : ∃ W1, W1 = (W.alloc (.cells m.cells 31)).alloc (.cells #[.bool false, .slice none 0 0, .int .u64 0, .int .u64 0, .int .u64 0, .int .u64 0, .int .u64 0, .int .u64 0, .int .u64 0, .int .u64 0] 34) := ⟨_, rfl⟩
  have hS0 : DoS W m W1 := by
    rw [hW1]
    refine ⟨heap_alloc2_old _ _ _, ?_, ((Below.refl _ _).alloc (Nat.le_refl _) _).alloc (by rw [World.size_alloc]; omega) _⟩
    have := heap_alloc_new (W.alloc (.cells m.cells 31)) (.cells #[.bool false, .slice none 0 0, .int .u64 0, .int .u64 0, .int .u64 0, .int .u64 0, .int .u64 0, .int .u64 0, .int .u64 0, .int .u64 0] 34)
    rw [World.size_alloc] at this
    exact this
  have HS1 := Lib.hid (hS0.later ⟨rfl, rfl, rfl, Nat.le_refl _, fun _ _ => rfl⟩ : DoS W m W1.drew)
  have HW1 := Lib.hid hW1
  have HNN := Lib.hid hn
  clear hS0 hW1 hn
  go_enter Try.func9, Try.ntmps9
  go_wp2_with fail
  rw [← HW1.out]
  refine wp_region_ord [(0, true), (1, true), (2, true), (3, true), (4, true), (6, true), (7, true), (8, true), (9, true), (5, false), (10, true), (11, false)] (DoX W m) (by kernel_rfl) (by kernel_rfl) (by decide) (by kernel_rfl) (fun d _ _ _ _ h => by cases d <;> exact h) HS1.out.box ?_
  iterate 9 ((apply wpOrd_take rfl rfl (by kernel_rfl); (intro V hV; obtain ⟨x1, x2, x3, x4, x5, x6, x7, x8, x9, x10⟩ := DoX.cells hV; go_simp; rfl)); (try simp only [List.setIfInBounds_toArray, List.set_cons_succ, List.set_cons_zero]))
  apply wpOrd_do rfl (by kernel_rfl)
  intro K hK
  obtain ⟨i0, hi, hz0, hz1, hz2⟩ := info_parts infoCp
  obtain ⟨w2, hrun, _, hg2⟩ := run_make_full (P := Try.prog) (w := W1.drew) W1.drew.heap.size 32 94 i0 _ 12 Try.underlying32 hi hz0 hz1 .u8 .u8 n (by rw [hz2]; omega) (by unfold maxLen; omega) (Nat.le_refl _)
  have htm : m.cp.tmod 5 = (n : Int) := by rw [Int.tmod_eq_emod_of_nonneg hc0]; exact HNN.out.symm
  have HS2 := Lib.hid (DoS.later HS1.out ⟨hg2.os, hg2.tape, hg2.output, hg2.size, fun k hk => hg2.block k hk (by simp)⟩ : DoS W m w2)
  rw [htm]
  go_simp
  clear hrun hg2
  refine hK _ _ HS2.out.box ?_
  clear hK K
  apply wpOrd_take rfl rfl (by kernel_rfl)
  · intro V _; go_simp; rfl
  (try simp only [List.setIfInBounds_toArray, List.set_cons_succ, List.set_cons_zero])
  apply wpOrd_do rfl (by kernel_rfl)
  intro K hK
  have r0 := cell_of_row _ _ 0 _ _ _ HS2.out.res
  have s0 := frozen_of_row _ _ 0 _ _ HS2.out.res
  have r1 := cell_of_row _ _ 1 _ _ _ HS2.out.res
  have s1 := frozen_of_row _ _ 1 _ _ HS2.out.res
  have r2 := cell_of_row _ _ 2 _ _ _ HS2.out.res
  have s2 := frozen_of_row _ _ 2 _ _ HS2.out.res
  have r3 := cell_of_row _ _ 3 _ _ _ HS2.out.res
  have s3 := frozen_of_row _ _ 3 _ _ HS2.out.res
  have r4 := cell_of_row _ _ 4 _ _ _ HS2.out.res
  have s4 := frozen_of_row _ _ 4 _ _ HS2.out.res
  have r5 := cell_of_row _ _ 5 _ _ _ HS2.out.res
  have s5 := frozen_of_row _ _ 5 _ _ HS2.out.res
  have r6 := cell_of_row _ _ 6 _ _ _ HS2.out.res
  have s6 := frozen_of_row _ _ 6 _ _ HS2.out.res
  have r7 := cell_of_row _ _ 7 _ _ _ HS2.out.res
  have s7 := frozen_of_row _ _ 7 _ _ HS2.out.res
  have r8 := cell_of_row _ _ 8 _ _ _ HS2.out.res
  have s8 := frozen_of_row _ _ 8 _ _ HS2.out.res
  have r9 := cell_of_row _ _ 9 _ _ _ HS2.out.res
  have s9 := frozen_of_row _ _ 9 _ _ HS2.out.res
  simp only [List.getElem?_toArray, List.getElem?_cons_zero, List.getElem?_cons_succ] at r0 r1 r2 r3 r4 r5 r6 r7 r8 r9
  have HBX := Lib.hid (Below.setCell (Below.setCell (Below.setCell (Below.setCell (Below.setCell (Below.setCell (Below.setCell (Below.setCell (Below.setCell (Below.setCell (Below.refl (W.heap.size + 1) w2) (p := ⟨W.heap.size + 1, 0, none⟩) (Nat.le_refl _) (.bool m.loc)) (p := ⟨W.heap.size + 1, 1, none⟩) (Nat.le_refl _) (.slice (some ⟨W1.heap.size, 0, none⟩) n n)) (p := ⟨W.heap.size + 1, 2, none⟩) (Nat.le_refl _) (.int .u64 m.los.a)) (p := ⟨W.heap.size + 1, 3, none⟩) (Nat.le_refl _) (.int .u64 m.los.b)) (p := ⟨W.heap.size + 1, 4, none⟩) (Nat.le_refl _) (.int .u64 m.los.c)) (p := ⟨W.heap.size + 1, 5, none⟩) (Nat.le_refl _) (.int .u64 m.los.d)) (p := ⟨W.heap.size + 1, 6, none⟩) (Nat.le_refl _) (.int .u64 m.exp.a)) (p := ⟨W.heap.size + 1, 7, none⟩) (Nat.le_refl _) (.int .u64 m.exp.b)) (p := ⟨W.heap.size + 1, 8, none⟩) (Nat.le_refl _) (.int .u64 m.exp.c)) (p := ⟨W.heap.size + 1, 9, none⟩) (Nat.le_refl _) (.int .u64 m.exp.d))
  have HBE := Lib.hid (Below.setCell (Below.setCell (Below.setCell (Below.setCell (Below.setCell (Below.setCell (Below.setCell (Below.setCell (Below.setCell (Below.setCell HS2.out.bel (p := ⟨W.heap.size + 1, 0, none⟩) (by simp only; omega) (.bool m.loc)) (p := ⟨W.heap.size + 1, 1, none⟩) (by simp only; omega) (.slice (some ⟨W1.heap.size, 0, none⟩) n n)) (p := ⟨W.heap.size + 1, 2, none⟩) (by simp only; omega) (.int .u64 m.los.a)) (p := ⟨W.heap.size + 1, 3, none⟩) (by simp only; omega) (.int .u64 m.los.b)) (p := ⟨W.heap.size + 1, 4, none⟩) (by simp only; omega) (.int .u64 m.los.c)) (p := ⟨W.heap.size + 1, 5, none⟩) (by simp only; omega) (.int .u64 m.los.d)) (p := ⟨W.heap.size + 1, 6, none⟩) (by simp only; omega) (.int .u64 m.exp.a)) (p := ⟨W.heap.size + 1, 7, none⟩) (by simp only; omega) (.int .u64 m.exp.b)) (p := ⟨W.heap.size + 1, 8, none⟩) (by simp only; omega) (.int .u64 m.exp.c)) (p := ⟨W.heap.size + 1, 9, none⟩) (by simp only; omega) (.int .u64 m.exp.d))
  go_simp
  refine hK _ _ ?_ ?_
  · exact (HBX.out.block W.heap.size (Nat.lt_succ_self _)).trans HS2.out.box
  clear hK K
  refine wpOrd_nil ?_
  go_wp2_with fail
  (try simp only [Exit.inBlock, Exit.then])
  refine bodyPost_ret (v := (m.dn (some ⟨W1.heap.size, 0, none⟩) n).ag) ?_ rfl ⟨_, _, rfl, HBE.out⟩
  simp only [results, Try.results9]
  go_simp
  rw [Dn.ag, Dn.cells, Mk.dn, ← HNN.out]
  rfl

end Go.Proofs.Ytnfdkgmikijbgaa
