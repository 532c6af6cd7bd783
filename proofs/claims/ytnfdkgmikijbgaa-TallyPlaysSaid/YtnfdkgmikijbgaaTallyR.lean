/- Contracts of the reference's tally: sums of counts. -/
import Derived.Test.YtnfdkgmikijbgaaBitR
import Derived.Test.YtnfdkgmikijbgaaTallyJ
import Derived.Test.YtnfdkgmikijbgaaRegion3
set_option linter.unusedSimpArgs false
set_option linter.unusedVariables false
namespace Go.Proofs.Ytnfdkgmikijbgaa
open Go.RowKit Go.ChangeShapes Go.WideShapes

theorem sum15_any (a n : Int) (W : World) (ha : U64 a) (hn : U64 n) : Calls Try.prog 33 #[.int .u64 a, .int .u64 n] W fun e W' => e = .returned (.int .u64 (sat a n)) ∧ W = W' := by
  obtain ⟨ha1, ha2⟩ := ha
  obtain ⟨hn1, hn2⟩ := hn
  by_cases h : a + n ≤ 18446744073709551615
  · have hs : sat a n = a + n := by unfold sat; rw [if_pos h]
    rw [hs]
    have hw : IntKind.u64.wrap (a + n) = a + n := IntWalk.u64_in _ (by omega)
    have hl : decide (a + n < a) = false := decide_eq_false (by omega)
    go_enter Try.func33, Try.ntmps33
    go_wp2_with fail
    go_returns
    exact ⟨rfl, rfl⟩
  · have hs : sat a n = 18446744073709551615 := by unfold sat; rw [if_neg h]
    rw [hs]
    have hw : IntKind.u64.wrap (a + n) = a + n - 18446744073709551616 := by simp [IntKind.wrap, IntKind.bits, IntKind.signed]; omega
    have hl : decide (a + n - 18446744073709551616 < a) = true := decide_eq_true (by omega)
    go_enter Try.func33, Try.ntmps33
    go_wp2_with fail
    go_returns
    exact ⟨rfl, rfl⟩

structure AdS (W : World) (a c : Cn) (V : World) : Prop where
  b0 : BoxC W.heap.size a V
  b1 : BoxC (W.heap.size + 1) c V
  bel : Below W.heap.size W V

set_option maxRecDepth 100000 in
set_option maxHeartbeats 1600000 in
theorem added_any (a c : Cn) (W : World) (ha : a.ok) (hc : c.ok) :
    Calls Try.prog 29 #[a.ag, c.ag] W fun e W' => e = .returned (a.add c).ag ∧ Below W.heap.size W W' := by
  obtain ⟨a0, a1, a2, a3, a4, a5⟩ := ha
  obtain ⟨c0, c1, c2, c3, c4, c5⟩ := hc
  obtain ⟨W1, hW1⟩ : ∃ W1, W1 = ((W.alloc (.cells #[.int .u64 a.got, .int .u64 a.loc, .int .u64 a.cop, .int .u64 a.los, .int .u64 a.exp, .int .u64 a.bad] 37)).alloc (.cells #[.int .u64 c.got, .int .u64 c.loc, .int .u64 c.cop, .int .u64 c.los, .int .u64 c.exp, .int .u64 c.bad] 37)).alloc (.cells #[.int .u64 0, .int .u64 0, .int .u64 0, .int .u64 0, .int .u64 0, .int .u64 0] 37) := ⟨_, rfl⟩
  obtain ⟨X, hX⟩ : ∃ X, X = (W.alloc (.cells #[.int .u64 a.got, .int .u64 a.loc, .int .u64 a.cop, .int .u64 a.los, .int .u64 a.exp, .int .u64 a.bad] 37)).alloc (.cells #[.int .u64 c.got, .int .u64 c.loc, .int .u64 c.cop, .int .u64 c.los, .int .u64 c.exp, .int .u64 c.bad] 37) := ⟨_, rfl⟩
  have hXs : X.heap.size = W.heap.size + 2 := by rw [hX, World.size_alloc, World.size_alloc]
  rw [← hX] at hW1
  have hbX : Below W.heap.size W X := by rw [hX]; exact ((Below.refl _ _).alloc (Nat.le_refl _) _).alloc (by rw [World.size_alloc]; omega) _
  have hbx1 : Below X.heap.size X W1 := by rw [hW1]; exact (Below.refl _ _).alloc (Nat.le_refl _) _
  have hS : AdS W a c W1 := ⟨BoxC.later (show BoxC W.heap.size a X by rw [hX]; exact heap_alloc2_old _ _ _) hbx1, BoxC.later (show BoxC (W.heap.size + 1) c X by rw [hX]; exact heap_alloc2_new _ _ _) hbx1, hbX.trans (hbx1.mono hbX.size)⟩
  have hz : BoxC (W.heap.size + 2) Cn.zero W1.drew := by rw [hW1, ← hXs]; exact heap_alloc_new _ _
  have HS := Lib.hid (show AdS W a c W1.drew from ⟨hS.b0, hS.b1, hS.bel.trans ⟨rfl, rfl, rfl, Nat.le_refl _, fun _ _ => rfl⟩⟩)
  obtain ⟨z0, z1, z2, z3, z4, z5⟩ := BoxC.cells hz
  have f0 := frozen_of_row _ _ 0 _ _ hz
  have f1 := frozen_of_row _ _ 1 _ _ hz
  have f2 := frozen_of_row _ _ 2 _ _ hz
  have f3 := frozen_of_row _ _ 3 _ _ hz
  have f4 := frozen_of_row _ _ 4 _ _ hz
  have f5 := frozen_of_row _ _ 5 _ _ hz
  simp only [Cn.zero] at z0 z1 z2 z3 z4 z5
  have HZ := Lib.hid hz
  have HX := Lib.hid hX
  have HW1 := Lib.hid hW1
  have A0 := Lib.hid (And.intro a0 c0)
  have A1 := Lib.hid (And.intro a1 c1)
  have A2 := Lib.hid (And.intro a2 c2)
  have A3 := Lib.hid (And.intro a3 c3)
  have A4 := Lib.hid (And.intro a4 c4)
  have A5 := Lib.hid (And.intro a5 c5)
  clear hX hXs hbX hbx1 hS hz hW1 a0 a1 a2 a3 a4 a5 c0 c1 c2 c3 c4 c5
  go_enter Try.func29, Try.ntmps29
  unfold Cn.ag
  go_wp2_with fail
  rw [← HX.out, ← HW1.out]
  obtain ⟨U, hU⟩ : ∃ U, U = W1.drew := ⟨_, rfl⟩
  rw [← hU] at HS HZ z0 z1 z2 z3 z4 z5 f0 f1 f2 f3 f4 f5
  refine wp_region_ord [(0, true), (1, true), (2, true), (3, true), (5, true), (6, true), (7, true), (8, true), (10, true), (11, true), (12, true), (13, true), (15, true), (16, true), (17, true), (18, true), (20, true), (21, true), (22, true), (23, true), (25, true), (26, true), (27, true), (28, true), (4, false), (9, false), (14, false), (19, false), (24, false), (29, false), (30, true), (31, false)] (AdS W a c) (by kernel_rfl) (by kernel_rfl) (by decide) (by kernel_rfl) (fun d _ _ _ _ h => by cases d <;> exact h) (by rw [← hU]; exact HS.out) ?_
  rw [← hU]
  clear hU
  iterate 24 ((apply wpOrd_take rfl rfl (by kernel_rfl); (intro V hV; obtain ⟨x0, x1, x2, x3, x4, x5⟩ := BoxC.cells hV.b0; obtain ⟨y0, y1, y2, y3, y4, y5⟩ := BoxC.cells hV.b1; go_simp; rfl)); (try simp only [List.setIfInBounds_toArray, List.set_cons_succ, List.set_cons_zero]))
  apply wpOrd_do rfl (by kernel_rfl)
  intro K hK
  go_simp
  refine (sum15_any _ _ U A0.out.1 A0.out.2).mono ?_
  rintro e w ⟨rfl, rfl⟩
  refine hK _ _ HS.out ?_
  clear hK K
  apply wpOrd_do rfl (by kernel_rfl)
  intro K hK
  go_simp
  refine (sum15_any _ _ U A1.out.1 A1.out.2).mono ?_
  rintro e w ⟨rfl, rfl⟩
  refine hK _ _ HS.out ?_
  clear hK K
  apply wpOrd_do rfl (by kernel_rfl)
  intro K hK
  go_simp
  refine (sum15_any _ _ U A2.out.1 A2.out.2).mono ?_
  rintro e w ⟨rfl, rfl⟩
  refine hK _ _ HS.out ?_
  clear hK K
  apply wpOrd_do rfl (by kernel_rfl)
  intro K hK
  go_simp
  refine (sum15_any _ _ U A3.out.1 A3.out.2).mono ?_
  rintro e w ⟨rfl, rfl⟩
  refine hK _ _ HS.out ?_
  clear hK K
  apply wpOrd_do rfl (by kernel_rfl)
  intro K hK
  go_simp
  refine (sum15_any _ _ U A4.out.1 A4.out.2).mono ?_
  rintro e w ⟨rfl, rfl⟩
  refine hK _ _ HS.out ?_
  clear hK K
  apply wpOrd_do rfl (by kernel_rfl)
  intro K hK
  go_simp
  refine (sum15_any _ _ U A5.out.1 A5.out.2).mono ?_
  rintro e w ⟨rfl, rfl⟩
  refine hK _ _ HS.out ?_
  clear hK K
  apply wpOrd_take rfl rfl (by kernel_rfl)
  · intro V _; go_simp; rfl
  (try simp only [List.setIfInBounds_toArray, List.set_cons_succ, List.set_cons_zero])
  apply wpOrd_do rfl (by kernel_rfl)
  intro K hK
  go_simp
  have w6 := ((((((show Wr U U (W.heap.size + 1 + 1) 37 Cn.zero.cs.toArray from ⟨rfl, rfl, rfl, Nat.le_refl _, fun _ _ _ => rfl, HZ.out⟩).set 0 (.int .u64 (sat a.got c.got))).set 1 (.int .u64 (sat a.loc c.loc))).set 2 (.int .u64 (sat a.cop c.cop))).set 3 (.int .u64 (sat a.los c.los))).set 4 (.int .u64 (sat a.exp c.exp))).set 5 (.int .u64 (sat a.bad c.bad))
  have l0 := (Array.getElem?_eq_some_iff.1 HS.out.b0).1
  have l1 := (Array.getElem?_eq_some_iff.1 HS.out.b1).1
  have hs6 : AdS W a c _ := ⟨(w6.block _ l0 (by omega)).trans HS.out.b0, (w6.block _ l1 (by omega)).trans HS.out.b1, HS.out.bel.trans ⟨w6.os, w6.tape, w6.output, w6.size, fun q hq => w6.block q (by omega) (by omega)⟩⟩
  have HS6 := Lib.hid hs6
  clear w6 hs6
  refine hK _ _ HS6.out ?_
  clear hK K
  refine wpOrd_nil ?_
  go_wp2_with fail
  (try simp only [Exit.inBlock, Exit.then])
  refine bodyPost_ret (v := (a.add c).ag) ?_ rfl ⟨rfl, HS6.out.bel⟩
  simp only [results, Try.results29]
  go_simp
  rfl

end Go.Proofs.Ytnfdkgmikijbgaa
