/- The walk of the law HeapKnown. -/
import Derived.Test.YtbigglcolfbglaaHeapKnownA
set_option linter.unusedSimpArgs false
set_option linter.unusedVariables false
namespace Go.Proofs.Ytbigglcolfbglaa
open Go.RowKit Go.ChangeShapes Go.WideShapes

set_option maxRecDepth 100000 in
set_option maxHeartbeats 4000000 in
theorem heapKnown_walk (W : World) :
    Calls Try.prog 7 #[] W fun e W' => e = .returned (.bool true) ∧ Below W.heap.size W W' := by
  obtain ⟨W1, hW1⟩ : ∃ W1, W1 = W.alloc (.cells #[.nilFunc, .slice none 0 0, .int .u64 0] 59) := ⟨_, rfl⟩
  have hb1 : Below W.heap.size W W1 := by rw [hW1]; exact (Below.refl _ _).alloc (Nat.le_refl _) _
  have k1 : W1.cell? ⟨W.heap.size, 0, none⟩ = some .nilFunc := by rw [hW1]; exact kn_cell W
  obtain ⟨W2, hW2⟩ : ∃ W2, W2 = W1.alloc (.cells #[.nilFunc, .slice none 0 0, .int .u64 0] 59) := ⟨_, rfl⟩
  have hb2 : Below W.heap.size W W2 := by rw [hW2]; exact hb1.alloc hb1.size _
  have k2 : W2.cell? ⟨W1.heap.size, 0, none⟩ = some .nilFunc := by rw [hW2]; exact kn_cell W1
  obtain ⟨W3, hW3⟩ : ∃ W3, W3 = W2.alloc (.cells #[.int .i64 1] 3) := ⟨_, rfl⟩
  have hb3 : Below W.heap.size W W3 := by rw [hW3]; exact hb2.alloc hb2.size _
  obtain ⟨W4, hW4⟩ : ∃ W4, W4 = W3.alloc (.cells #[.int .i64 42, .int .i64 30, .int .i64 41, .int .i64 12] 3) := ⟨_, rfl⟩
  have hb4 : Below W.heap.size W W4 := by rw [hW4]; exact hb3.alloc hb3.size _
  have hr4 : IRow W4 W.heap.size (.slice (some ⟨W3.heap.size, 0, none⟩) 4 4) [42, 30, 41, 12] :=
    ⟨rfl, .inr ⟨_, 4, _, 0, 0, rfl, hb3.size, by rw [hW4]; exact heap_alloc_new _ _, .inl (Nat.le_refl _), Nat.le_refl _, by simp [maxLen], rfl, rfl⟩⟩
  have hso := isort_any (iOrder W.heap.size) [42, 30, 41, 12] _ W4 hb4.size hr4 trivial (by decide) (by simp)
  rw [kn_sel] at hso
  have HS := Lib.hid hso
  have HW3 := Lib.hid hW3
  have HW4 := Lib.hid hW4
  have HB4 := Lib.hid hb4
  clear hW3 hW4 hb3 hb4 hr4 hso
  have HW1 := Lib.hid hW1
  have HW2 := Lib.hid hW2
  have HB2 := Lib.hid hb2
  have K1 := Lib.hid k1
  have K2 := Lib.hid k2
  clear hW1 hW2 hb1 hb2 k1 k2
  go_enter Try.func7, Try.ntmps7
  go_wp2_with fail
  refine (inew_nil W).mono ?_
  rintro e w ⟨rfl, rfl⟩
  go_wp2_with fail
  refine (ipop_nil W).mono ?_
  rintro e w ⟨rfl, rfl⟩
  go_wp2_with fail
  rw [← HW1.out]
  refine (ipeek_empty _ W1 K1.out).mono ?_
  rintro e w ⟨rfl, rfl⟩
  go_wp2_with fail
  refine (ipush_nil _ W1).mono ?_
  rintro e w ⟨rfl, rfl⟩
  go_wp2_with fail
  rw [← HW2.out]
  refine (ipush_empty _ _ W2 K2.out).mono ?_
  rintro e w ⟨rfl, rfl⟩
  go_wp2_with fail
  refine (ilen_nil W2).mono ?_
  rintro e w ⟨rfl, rfl⟩
  go_wp2_with fail
  rw [← HW3.out]
  refine (isort_nil _ W3).mono ?_
  rintro e w ⟨rfl, rfl⟩
  go_wp2_with fail
  rw [← HW4.out]
  refine HS.out.mono ?_
  rintro e w5 hp
  obtain ⟨v5, rfl, hr5, hb5⟩ := hp
  obtain ⟨g, cap, hv, f1, f2, f3, f4, hc, f5⟩ := Row.form hr5 (by simp)
  subst hv
  have c0 : w5.cell? ⟨g, 0, none⟩ = some (.int .i64 12) := hc 0 (by simp)
  have c1 : w5.cell? ⟨g, 1, none⟩ = some (.int .i64 30) := hc 1 (by simp)
  have c2 : w5.cell? ⟨g, 2, none⟩ = some (.int .i64 42) := hc 2 (by simp)
  have c3 : w5.cell? ⟨g, 3, none⟩ = some (.int .i64 41) := hc 3 (by simp)
  have HB5 := Lib.hid (HB4.out.trans (hb5.mono HB4.out.size))
  clear f1 f2 f5 hc hr5 hb5
  go_wp2_with fail
  refine (inew_any _ _ w5).mono ?_
  rintro e w6 ⟨rfl, hw6⟩
  have hat := inew_at 27 #[] w5 (Nat.le_refl w5.heap.size)
  rw [hw6] at hat
  have HB6 := Lib.hid (show Below W.heap.size W w6 by rw [← hw6]; exact HB5.out.alloc HB5.out.size _)
  have HPO := Lib.hid (ipop_no w6 hat)
  clear hw6 hat
  go_wp2_with fail
  refine HPO.out.mono ?_
  rintro e w7 ⟨rfl, hb7⟩
  have HB7 := Lib.hid (HB6.out.trans (hb7.mono HB6.out.size))
  clear hb7
  go_wp2_with fail
  refine (works_any _).mono ?_
  rintro e w8 ⟨rfl, hb8⟩
  go_wp2_with fail
  go_ret
  exact ⟨rfl, HB7.out.trans (hb8.mono HB7.out.size)⟩

end Go.Proofs.Ytbigglcolfbglaa
