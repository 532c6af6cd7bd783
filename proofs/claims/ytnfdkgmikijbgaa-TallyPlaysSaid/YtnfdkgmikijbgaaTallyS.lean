/- Contracts of the reference's tally: a step's counts. -/
import Derived.Test.YtnfdkgmikijbgaaTallyE
import Derived.Test.YtnfdkgmikijbgaaBitR
set_option linter.unusedSimpArgs false
set_option linter.unusedVariables false
namespace Go.Proofs.Ytnfdkgmikijbgaa
open Go.RowKit Go.ChangeShapes Go.WideShapes

set_option maxRecDepth 100000 in
set_option maxHeartbeats 1600000 in
theorem of15_any (d : Dn) (W : World) (hd : d.ok) : Calls Try.prog 17 #[d.ag] W fun e W' => e = .returned d.of.ag ∧ Below W.heap.size W W' := by
  obtain ⟨hn, hl, he⟩ := hd
  have HC1 := Lib.hid (fun V => count1_any d.los V hl)
  have HC2 := Lib.hid (fun V => count1_any d.exp V he)
  obtain ⟨W1, hW1⟩ : ∃ W1, W1 = (W.alloc (.cells d.cells 34)).alloc (.cells #[.int .u64 0, .int .u64 0, .int .u64 0, .int .u64 0, .int .u64 0, .int .u64 0] 37) := ⟨_, rfl⟩
  have hS0 : OfS W d W1 := by
    rw [hW1]
    refine ⟨heap_alloc2_old _ _ _, ?_, ((Below.refl _ _).alloc (Nat.le_refl _) _).alloc (by rw [World.size_alloc]; omega) _⟩
    have := heap_alloc_new (W.alloc (.cells d.cells 34)) (.cells #[.int .u64 0, .int .u64 0, .int .u64 0, .int .u64 0, .int .u64 0, .int .u64 0] 37)
    rw [World.size_alloc] at this
    exact this
  have hwn : IntKind.u64.wrap (d.sn : Int) = (d.sn : Int) := IntWalk.u64_in _ (by omega)
  have hw1 : IntKind.u64.wrap (d.los.cnt : Int) = (d.los.cnt : Int) := IntWalk.u64_in _ (by have := popc_lt d.los.a; have := popc_lt d.los.b; have := popc_lt d.los.c; have := popc_lt d.los.d; unfold B4.cnt; omega)
  have hw2 : IntKind.u64.wrap (d.exp.cnt : Int) = (d.exp.cnt : Int) := IntWalk.u64_in _ (by have := popc_lt d.exp.a; have := popc_lt d.exp.b; have := popc_lt d.exp.c; have := popc_lt d.exp.d; unfold B4.cnt; omega)
  have HS0 := Lib.hid hS0
  have HS1 := Lib.hid hS0.drew
  have HD := Lib.hid (show ∀ V, OfS W d V → V.cell? ⟨W.heap.size, 0, none⟩ = some (.bool d.loc) ∧ V.cell? ⟨W.heap.size, 1, none⟩ = some (.slice d.sa d.sn d.sc) ∧ V.cell? ⟨W.heap.size, 2, none⟩ = some (.int .u64 d.los.a) ∧ V.cell? ⟨W.heap.size, 3, none⟩ = some (.int .u64 d.los.b) ∧ V.cell? ⟨W.heap.size, 4, none⟩ = some (.int .u64 d.los.c) ∧ V.cell? ⟨W.heap.size, 5, none⟩ = some (.int .u64 d.los.d) ∧ V.cell? ⟨W.heap.size, 6, none⟩ = some (.int .u64 d.exp.a) ∧ V.cell? ⟨W.heap.size, 7, none⟩ = some (.int .u64 d.exp.b) ∧ V.cell? ⟨W.heap.size, 8, none⟩ = some (.int .u64 d.exp.c) ∧ V.cell? ⟨W.heap.size, 9, none⟩ = some (.int .u64 d.exp.d) from fun V h =>
    ⟨cell_of_row _ _ 0 _ _ _ h.box, cell_of_row _ _ 1 _ _ _ h.box, cell_of_row _ _ 2 _ _ _ h.box, cell_of_row _ _ 3 _ _ _ h.box, cell_of_row _ _ 4 _ _ _ h.box, cell_of_row _ _ 5 _ _ _ h.box, cell_of_row _ _ 6 _ _ _ h.box, cell_of_row _ _ 7 _ _ _ h.box, cell_of_row _ _ 8 _ _ _ h.box, cell_of_row _ _ 9 _ _ _ h.box⟩)
  have HW1 := Lib.hid hW1
  clear hS0 hW1 hl he
  go_enter Try.func17, Try.ntmps17
  unfold Dn.ag
  go_wp2_with fail
  rw [← HW1.out]
  refine wp_region_tree (.look 0 (.look 1 (.look 2 (.look 3 (.look 4 (.look 5 (.look 8 (.look 9 (.two 6 (.look 7 (.two 10 (.look 11 (.look 12 (.one 13 (.one 14 .nil)))) 13 (.one 10 (.look 11 (.look 12 (.one 14 .nil)))))) 13 (.one 6 (.look 7 (.one 10 (.look 11 (.look 12 (.one 14 .nil))))))))))))))) (OfS W d) (by kernel_rfl) (by kernel_rfl) (by decide) (by kernel_rfl) (fun d _ _ _ _ h => by cases d <;> exact h) HS1.out ?_
  obtain ⟨U, hU⟩ : ∃ U, U = W1.drew := ⟨_, rfl⟩
  rw [← hU] at HS1 ⊢
  clear hU
  iterate 8 ((apply wpOT_take rfl rfl (by kernel_rfl); (intro V hV; obtain ⟨x0, x1, x2, x3, x4, x5, x6, x7, x8, x9⟩ := HD.out V hV; go_simp; rfl)); (try simp only [List.setIfInBounds_toArray, List.set_cons_succ, List.set_cons_zero]))
  apply wpOT_two
  · apply wpOT_do rfl (by kernel_rfl)
    intro K hK
    go_simp
    refine (HC1.out _).mono ?_
    rintro e V1 ⟨rfl, hb⟩
    have HV1 := Lib.hid (OfS.later HS1.out hb)
    refine hK _ _ HV1.out ?_
    clear hK K hb
    iterate 1 ((apply wpOT_take rfl rfl (by kernel_rfl); (intro V _; go_simp; rfl)); (try simp only [List.setIfInBounds_toArray, List.set_cons_succ, List.set_cons_zero]))
    apply wpOT_two
    · apply wpOT_do rfl (by kernel_rfl)
      intro K hK
      go_simp
      refine (HC2.out _).mono ?_
      rintro e V2 ⟨rfl, hb⟩
      have HV2 := Lib.hid (OfS.later HV1.out hb)
      refine hK _ _ HV2.out ?_
      clear hK K hb
      iterate 2 ((apply wpOT_take rfl rfl (by kernel_rfl); (intro V hV; obtain ⟨x0, x1, x2, x3, x4, x5, x6, x7, x8, x9⟩ := HD.out V hV; go_simp; rfl)); (try simp only [List.setIfInBounds_toArray, List.set_cons_succ, List.set_cons_zero]))
      apply wpOT_do rfl (by kernel_rfl)
      intro K hK
      go_simp
      obtain ⟨b3, hb3⟩ : ∃ b3, b3 = (V2).heap.size := ⟨_, rfl⟩
      obtain ⟨V3, hV3⟩ : ∃ V3, V3 = (V2).alloc (.cells #[.int .u64 0, .int .u64 0, .int .u64 0, .int .u64 0, .int .u64 0, .int .u64 0] 37) := ⟨_, rfl⟩
      have HV3 := Lib.hid (show OfS W d V3 by rw [hV3]; exact OfS.later HV2.out ((Below.refl _ _).alloc (Nat.le_refl _) _))
      have HMV3 := Lib.hid (show MkB W b3 V3 by rw [hV3, hb3]; exact MkB.new HV2.out)
      rw [← hV3, ← hb3]
      refine hK _ _ HV3.out ?_
      clear hK K hV3 hb3
      apply wpOT_do rfl (by kernel_rfl)
      intro K hK
      obtain ⟨e0, e1, e2, e3, e4, e5⟩ := HMV3.out.cells
      obtain ⟨f0, f1, f2, f3, f4, f5⟩ := HMV3.out.frees
      go_simp
      obtain ⟨Z, hZ⟩ : ∃ Z, Z = ((((((V3.setCell ⟨b3, 0, none⟩ (.int .u64 1)).setCell ⟨b3, 1, none⟩ (.int .u64 0)).setCell ⟨b3, 2, none⟩ (.int .u64 (d.sn : Int))).setCell ⟨b3, 3, none⟩ (.int .u64 (d.los.cnt : Int))).setCell ⟨b3, 4, none⟩ (.int .u64 (d.exp.cnt : Int))).setCell ⟨b3, 5, none⟩ (.int .u64 0)) := ⟨_, rfl⟩
      have hmz := HMV3.out.stored (d := d) HV3.out
      rw [← hZ] at hmz ⊢
      obtain ⟨HZS, HZR⟩ := hmz
      refine hK _ _ HZS ?_
      clear hK K hZ e0 e1 e2 e3 e4 e5 f0 f1 f2 f3 f4 f5
      refine wpOT_nil ?_
      obtain ⟨x0, x1, x2, x3, x4, x5, x6, x7, x8, x9⟩ := HD.out Z HZS
      obtain ⟨r0, r1, r2, r3, r4, r5, s0, s1, s2, s3, s4, s5⟩ := HZS.resc
      obtain ⟨z0, z1, z2, z3, z4, z5, t0, t1, t2, t3, t4, t5, hne1, hne2⟩ := HZR.facts
      have HZ1 := Lib.hid HZS
      have HZ2 := Lib.hid HZR
      clear HZS HZR x1 x2 x3 x4 x5 x6 x7 x8 x9
      obtain ⟨lo, hlo⟩ : ∃ lo, lo = d.loc := ⟨_, rfl⟩
      rw [← hlo] at x0
      cases lo
      all_goals
        have HLO := Lib.hid hlo
        clear hlo
        go_wp2_with fail
        (try simp only [Exit.inBlock, Exit.then])
        refine bodyPost_ret (v := d.of.ag) ?_ rfl ⟨rfl, ?_⟩
        · simp only [results, Try.results17]
          go_simp
          rw [Cn.ag, Dn.of, ← HLO.out]
          rfl
        · have hlo := HZ2.out.lo
          repeat (with_reducible refine Below.setCell ?_ (by simp only; omega) _)
          exact HZ1.out.bel
    · apply wpOT_do rfl (by kernel_rfl)
      intro K hK
      go_simp
      obtain ⟨b3, hb3⟩ : ∃ b3, b3 = (V1).heap.size := ⟨_, rfl⟩
      obtain ⟨V2, hV2⟩ : ∃ V2, V2 = (V1).alloc (.cells #[.int .u64 0, .int .u64 0, .int .u64 0, .int .u64 0, .int .u64 0, .int .u64 0] 37) := ⟨_, rfl⟩
      have HV2 := Lib.hid (show OfS W d V2 by rw [hV2]; exact OfS.later HV1.out ((Below.refl _ _).alloc (Nat.le_refl _) _))
      have HMV2 := Lib.hid (show MkB W b3 V2 by rw [hV2, hb3]; exact MkB.new HV1.out)
      rw [← hV2, ← hb3]
      refine hK _ _ HV2.out ?_
      clear hK K hV2 hb3
      apply wpOT_do rfl (by kernel_rfl)
      intro K hK
      go_simp
      refine (HC2.out _).mono ?_
      rintro e V3 ⟨rfl, hb⟩
      have HV3 := Lib.hid (OfS.later HV2.out hb)
      have HMV3 := Lib.hid (MkB.later HMV2.out hb)
      refine hK _ _ HV3.out ?_
      clear hK K hb
      iterate 2 ((apply wpOT_take rfl rfl (by kernel_rfl); (intro V hV; obtain ⟨x0, x1, x2, x3, x4, x5, x6, x7, x8, x9⟩ := HD.out V hV; go_simp; rfl)); (try simp only [List.setIfInBounds_toArray, List.set_cons_succ, List.set_cons_zero]))
      apply wpOT_do rfl (by kernel_rfl)
      intro K hK
      obtain ⟨e0, e1, e2, e3, e4, e5⟩ := HMV3.out.cells
      obtain ⟨f0, f1, f2, f3, f4, f5⟩ := HMV3.out.frees
      go_simp
      obtain ⟨Z, hZ⟩ : ∃ Z, Z = ((((((V3.setCell ⟨b3, 0, none⟩ (.int .u64 1)).setCell ⟨b3, 1, none⟩ (.int .u64 0)).setCell ⟨b3, 2, none⟩ (.int .u64 (d.sn : Int))).setCell ⟨b3, 3, none⟩ (.int .u64 (d.los.cnt : Int))).setCell ⟨b3, 4, none⟩ (.int .u64 (d.exp.cnt : Int))).setCell ⟨b3, 5, none⟩ (.int .u64 0)) := ⟨_, rfl⟩
      have hmz := HMV3.out.stored (d := d) HV3.out
      rw [← hZ] at hmz ⊢
      obtain ⟨HZS, HZR⟩ := hmz
      refine hK _ _ HZS ?_
      clear hK K hZ e0 e1 e2 e3 e4 e5 f0 f1 f2 f3 f4 f5
      refine wpOT_nil ?_
      obtain ⟨x0, x1, x2, x3, x4, x5, x6, x7, x8, x9⟩ := HD.out Z HZS
      obtain ⟨r0, r1, r2, r3, r4, r5, s0, s1, s2, s3, s4, s5⟩ := HZS.resc
      obtain ⟨z0, z1, z2, z3, z4, z5, t0, t1, t2, t3, t4, t5, hne1, hne2⟩ := HZR.facts
      have HZ1 := Lib.hid HZS
      have HZ2 := Lib.hid HZR
      clear HZS HZR x1 x2 x3 x4 x5 x6 x7 x8 x9
      obtain ⟨lo, hlo⟩ : ∃ lo, lo = d.loc := ⟨_, rfl⟩
      rw [← hlo] at x0
      cases lo
      all_goals
        have HLO := Lib.hid hlo
        clear hlo
        go_wp2_with fail
        (try simp only [Exit.inBlock, Exit.then])
        refine bodyPost_ret (v := d.of.ag) ?_ rfl ⟨rfl, ?_⟩
        · simp only [results, Try.results17]
          go_simp
          rw [Cn.ag, Dn.of, ← HLO.out]
          rfl
        · have hlo := HZ2.out.lo
          repeat (with_reducible refine Below.setCell ?_ (by simp only; omega) _)
          exact HZ1.out.bel
  · apply wpOT_do rfl (by kernel_rfl)
    intro K hK
    go_simp
    obtain ⟨b3, hb3⟩ : ∃ b3, b3 = (U).heap.size := ⟨_, rfl⟩
    obtain ⟨V1, hV1⟩ : ∃ V1, V1 = (U).alloc (.cells #[.int .u64 0, .int .u64 0, .int .u64 0, .int .u64 0, .int .u64 0, .int .u64 0] 37) := ⟨_, rfl⟩
    have HV1 := Lib.hid (show OfS W d V1 by rw [hV1]; exact OfS.later HS1.out ((Below.refl _ _).alloc (Nat.le_refl _) _))
    have HMV1 := Lib.hid (show MkB W b3 V1 by rw [hV1, hb3]; exact MkB.new HS1.out)
    rw [← hV1, ← hb3]
    refine hK _ _ HV1.out ?_
    clear hK K hV1 hb3
    apply wpOT_do rfl (by kernel_rfl)
    intro K hK
    go_simp
    refine (HC1.out _).mono ?_
    rintro e V2 ⟨rfl, hb⟩
    have HV2 := Lib.hid (OfS.later HV1.out hb)
    have HMV2 := Lib.hid (MkB.later HMV1.out hb)
    refine hK _ _ HV2.out ?_
    clear hK K hb
    iterate 1 ((apply wpOT_take rfl rfl (by kernel_rfl); (intro V _; go_simp; rfl)); (try simp only [List.setIfInBounds_toArray, List.set_cons_succ, List.set_cons_zero]))
    apply wpOT_do rfl (by kernel_rfl)
    intro K hK
    go_simp
    refine (HC2.out _).mono ?_
    rintro e V3 ⟨rfl, hb⟩
    have HV3 := Lib.hid (OfS.later HV2.out hb)
    have HMV3 := Lib.hid (MkB.later HMV2.out hb)
    refine hK _ _ HV3.out ?_
    clear hK K hb
    iterate 2 ((apply wpOT_take rfl rfl (by kernel_rfl); (intro V hV; obtain ⟨x0, x1, x2, x3, x4, x5, x6, x7, x8, x9⟩ := HD.out V hV; go_simp; rfl)); (try simp only [List.setIfInBounds_toArray, List.set_cons_succ, List.set_cons_zero]))
    apply wpOT_do rfl (by kernel_rfl)
    intro K hK
    obtain ⟨e0, e1, e2, e3, e4, e5⟩ := HMV3.out.cells
    obtain ⟨f0, f1, f2, f3, f4, f5⟩ := HMV3.out.frees
    go_simp
    obtain ⟨Z, hZ⟩ : ∃ Z, Z = ((((((V3.setCell ⟨b3, 0, none⟩ (.int .u64 1)).setCell ⟨b3, 1, none⟩ (.int .u64 0)).setCell ⟨b3, 2, none⟩ (.int .u64 (d.sn : Int))).setCell ⟨b3, 3, none⟩ (.int .u64 (d.los.cnt : Int))).setCell ⟨b3, 4, none⟩ (.int .u64 (d.exp.cnt : Int))).setCell ⟨b3, 5, none⟩ (.int .u64 0)) := ⟨_, rfl⟩
    have hmz := HMV3.out.stored (d := d) HV3.out
    rw [← hZ] at hmz ⊢
    obtain ⟨HZS, HZR⟩ := hmz
    refine hK _ _ HZS ?_
    clear hK K hZ e0 e1 e2 e3 e4 e5 f0 f1 f2 f3 f4 f5
    refine wpOT_nil ?_
    obtain ⟨x0, x1, x2, x3, x4, x5, x6, x7, x8, x9⟩ := HD.out Z HZS
    obtain ⟨r0, r1, r2, r3, r4, r5, s0, s1, s2, s3, s4, s5⟩ := HZS.resc
    obtain ⟨z0, z1, z2, z3, z4, z5, t0, t1, t2, t3, t4, t5, hne1, hne2⟩ := HZR.facts
    have HZ1 := Lib.hid HZS
    have HZ2 := Lib.hid HZR
    clear HZS HZR x1 x2 x3 x4 x5 x6 x7 x8 x9
    obtain ⟨lo, hlo⟩ : ∃ lo, lo = d.loc := ⟨_, rfl⟩
    rw [← hlo] at x0
    cases lo
    all_goals
      have HLO := Lib.hid hlo
      clear hlo
      go_wp2_with fail
      (try simp only [Exit.inBlock, Exit.then])
      refine bodyPost_ret (v := d.of.ag) ?_ rfl ⟨rfl, ?_⟩
      · simp only [results, Try.results17]
        go_simp
        rw [Cn.ag, Dn.of, ← HLO.out]
        rfl
      · have hlo := HZ2.out.lo
        repeat (with_reducible refine Below.setCell ?_ (by simp only; omega) _)
        exact HZ1.out.bel

end Go.Proofs.Ytnfdkgmikijbgaa
