/- Contract of the reference's Check: may a header be. -/
import Derived.Test.YtbcgfojdlehnpaaHdRC
set_option linter.unusedSimpArgs false
set_option linter.unusedVariables false
namespace Go.Proofs.Ytbcgfojdlehnpaa
open Go.RowKit Go.ChangeShapes Go.WideShapes

set_option maxRecDepth 100000 in
set_option maxHeartbeats 6400000 in
theorem rhcheck_any (h : Hd) (W : World) (hk : h.ok) : Calls Try.prog 16 #[h.ag] W fun e W' => e = .returned (.int .i64 h.err) ∧ Below W.heap.size W W' := by
  obtain ⟨W1, hW1⟩ : ∃ W1, W1 = W.alloc (.cells h.cs 27) := ⟨_, rfl⟩
  have hb1 : Below W.heap.size W W1 := by rw [hW1]; exact (Below.refl _ _).alloc (Nat.le_refl _) _
  have hbx : BoxH W.heap.size h W1 := by rw [hW1]; exact heap_alloc_new _ _
  have HBX := Lib.hid hbx
  have HW1 := Lib.hid hW1
  have HB1 := Lib.hid hb1
  have HCS := Lib.hid h.chk_cases
  have HK := Lib.hid hk
  have HWD := Lib.hid (fun V => hrwide_any h.wid V)
  have HBL := Lib.hid (fun V => rbelow_any h.bits h.wid V hk.2.2.2.2.2.2.2 hk.1)
  clear hW1 hb1 hk
  rcases HCS.out with ⟨c0, he⟩ | ⟨c0, c1, he⟩ | ⟨c0, c1, c2, he⟩ | ⟨c0, c1, c2, c3, he⟩ | ⟨c0, c1, c2, c3, c4, he⟩ | ⟨c0, c1, c2, c3, c4, c5, he⟩ | ⟨c0, c1, c2, c3, c4, c5, c6, he⟩ | ⟨c0, c1, c2, c3, c4, c5, c6, c7, he⟩ | ⟨c0, c1, c2, c3, c4, c5, c6, c7, c8, he⟩ | ⟨c0, c1, c2, c3, c4, c5, c6, c7, c8, he⟩
  · have HE := Lib.hid he
    have H0 := Lib.hid c0
    clear c0 he
    obtain ⟨x0, x1, x2, x3, x4, x5, x6, x7, x8, x9, x10⟩ := hbx.cells
    clear hbx
    go_enter Try.func16, Try.ntmps16
    unfold Hd.ag Hd.cs at *
    go_wp2_with fail
    rw [← HW1.out]
    refine (HWD.out _).mono ?_
    rintro e V ⟨rfl, rfl⟩
    rw [H0.out]
    go_wp2_with fail
    go_returns
    exact ⟨by rw [HE.out]; rfl, HB1.out⟩
  · have HE := Lib.hid he
    have H0 := Lib.hid c0
    have d1 : decide (h.set < 0) = true := decide_eq_true (by omega)
    clear c0 he c1
    obtain ⟨x0, x1, x2, x3, x4, x5, x6, x7, x8, x9, x10⟩ := hbx.cells
    clear hbx
    go_enter Try.func16, Try.ntmps16
    unfold Hd.ag Hd.cs at *
    go_wp2_with fail
    rw [← HW1.out]
    refine (HWD.out _).mono ?_
    rintro e V ⟨rfl, rfl⟩
    rw [H0.out]
    go_wp2_with fail
    go_returns
    exact ⟨by rw [HE.out]; rfl, HB1.out⟩
  · have HE := Lib.hid he
    have H0 := Lib.hid c0
    have d1 : decide (h.set < 0) = false := decide_eq_false (by omega)
    have d2 : decide (128 ≤ h.set) = true := decide_eq_true (by omega)
    clear c0 he c1 c2
    obtain ⟨x0, x1, x2, x3, x4, x5, x6, x7, x8, x9, x10⟩ := hbx.cells
    clear hbx
    go_enter Try.func16, Try.ntmps16
    unfold Hd.ag Hd.cs at *
    go_wp2_with fail
    rw [← HW1.out]
    refine (HWD.out _).mono ?_
    rintro e V ⟨rfl, rfl⟩
    rw [H0.out]
    go_wp2_with fail
    go_returns
    exact ⟨by rw [HE.out]; rfl, HB1.out⟩
  · have HE := Lib.hid he
    have H0 := Lib.hid c0
    have d1 : decide (h.set < 0) = false := decide_eq_false (by omega)
    have d2 : decide (128 ≤ h.set) = false := decide_eq_false (by omega)
    have d3 : decide (h.hops < 0) = true := decide_eq_true (by omega)
    clear c0 he c1 c2 c3
    obtain ⟨x0, x1, x2, x3, x4, x5, x6, x7, x8, x9, x10⟩ := hbx.cells
    clear hbx
    go_enter Try.func16, Try.ntmps16
    unfold Hd.ag Hd.cs at *
    go_wp2_with fail
    rw [← HW1.out]
    refine (HWD.out _).mono ?_
    rintro e V ⟨rfl, rfl⟩
    rw [H0.out]
    go_wp2_with fail
    go_returns
    exact ⟨by rw [HE.out]; rfl, HB1.out⟩
  · have HE := Lib.hid he
    have H0 := Lib.hid c0
    have d1 : decide (h.set < 0) = false := decide_eq_false (by omega)
    have d2 : decide (128 ≤ h.set) = false := decide_eq_false (by omega)
    have d3 : decide (h.hops < 0) = false := decide_eq_false (by omega)
    have d4 : decide (15 < h.hops) = true := decide_eq_true (by omega)
    clear c0 he c1 c2 c3 c4
    obtain ⟨x0, x1, x2, x3, x4, x5, x6, x7, x8, x9, x10⟩ := hbx.cells
    clear hbx
    go_enter Try.func16, Try.ntmps16
    unfold Hd.ag Hd.cs at *
    go_wp2_with fail
    rw [← HW1.out]
    refine (HWD.out _).mono ?_
    rintro e V ⟨rfl, rfl⟩
    rw [H0.out]
    go_wp2_with fail
    go_returns
    exact ⟨by rw [HE.out]; rfl, HB1.out⟩
  · have HE := Lib.hid he
    have H0 := Lib.hid c0
    have d1 : decide (h.set < 0) = false := decide_eq_false (by omega)
    have d2 : decide (128 ≤ h.set) = false := decide_eq_false (by omega)
    have d3 : decide (h.hops < 0) = false := decide_eq_false (by omega)
    have d4 : decide (15 < h.hops) = false := decide_eq_false (by omega)
    have d5 : decide (h.src < 1) = true := decide_eq_true (by omega)
    clear c0 he c1 c2 c3 c4 c5
    obtain ⟨x0, x1, x2, x3, x4, x5, x6, x7, x8, x9, x10⟩ := hbx.cells
    clear hbx
    go_enter Try.func16, Try.ntmps16
    unfold Hd.ag Hd.cs at *
    go_wp2_with fail
    rw [← HW1.out]
    refine (HWD.out _).mono ?_
    rintro e V ⟨rfl, rfl⟩
    rw [H0.out]
    go_wp2_with fail
    go_returns
    exact ⟨by rw [HE.out]; rfl, HB1.out⟩
  · have HE := Lib.hid he
    have H0 := Lib.hid c0
    have d1 : decide (h.set < 0) = false := decide_eq_false (by omega)
    have d2 : decide (128 ≤ h.set) = false := decide_eq_false (by omega)
    have d3 : decide (h.hops < 0) = false := decide_eq_false (by omega)
    have d4 : decide (15 < h.hops) = false := decide_eq_false (by omega)
    have d5 : decide (h.src < 1) = false := decide_eq_false (by omega)
    have d6 : decide (24 < h.src) = true := decide_eq_true (by omega)
    clear c0 he c1 c2 c3 c4 c5 c6
    obtain ⟨x0, x1, x2, x3, x4, x5, x6, x7, x8, x9, x10⟩ := hbx.cells
    clear hbx
    go_enter Try.func16, Try.ntmps16
    unfold Hd.ag Hd.cs at *
    go_wp2_with fail
    rw [← HW1.out]
    refine (HWD.out _).mono ?_
    rintro e V ⟨rfl, rfl⟩
    rw [H0.out]
    go_wp2_with fail
    go_returns
    exact ⟨by rw [HE.out]; rfl, HB1.out⟩
  · have HE := Lib.hid he
    have H0 := Lib.hid c0
    have d1 : decide (h.set < 0) = false := decide_eq_false (by omega)
    have d2 : decide (128 ≤ h.set) = false := decide_eq_false (by omega)
    have d3 : decide (h.hops < 0) = false := decide_eq_false (by omega)
    have d4 : decide (15 < h.hops) = false := decide_eq_false (by omega)
    have d5 : decide (h.src < 1) = false := decide_eq_false (by omega)
    have d6 : decide (24 < h.src) = false := decide_eq_false (by omega)
    have d7 : decide (h.grp < 0) = true := decide_eq_true (by omega)
    clear c0 he c1 c2 c3 c4 c5 c6 c7
    obtain ⟨x0, x1, x2, x3, x4, x5, x6, x7, x8, x9, x10⟩ := hbx.cells
    clear hbx
    go_enter Try.func16, Try.ntmps16
    unfold Hd.ag Hd.cs at *
    go_wp2_with fail
    rw [← HW1.out]
    refine (HWD.out _).mono ?_
    rintro e V ⟨rfl, rfl⟩
    rw [H0.out]
    go_wp2_with fail
    go_returns
    exact ⟨by rw [HE.out]; rfl, HB1.out⟩
  · have HE := Lib.hid he
    have H0 := Lib.hid c0
    have d1 : decide (h.set < 0) = false := decide_eq_false (by omega)
    have d2 : decide (128 ≤ h.set) = false := decide_eq_false (by omega)
    have d3 : decide (h.hops < 0) = false := decide_eq_false (by omega)
    have d4 : decide (15 < h.hops) = false := decide_eq_false (by omega)
    have d5 : decide (h.src < 1) = false := decide_eq_false (by omega)
    have d6 : decide (24 < h.src) = false := decide_eq_false (by omega)
    have d7 : decide (h.grp < 0) = false := decide_eq_false (by omega)
    have d8 : decide (8 ≤ h.grp) = true := decide_eq_true (by omega)
    clear c0 he c1 c2 c3 c4 c5 c6 c7 c8
    obtain ⟨x0, x1, x2, x3, x4, x5, x6, x7, x8, x9, x10⟩ := hbx.cells
    clear hbx
    go_enter Try.func16, Try.ntmps16
    unfold Hd.ag Hd.cs at *
    go_wp2_with fail
    rw [← HW1.out]
    refine (HWD.out _).mono ?_
    rintro e V ⟨rfl, rfl⟩
    rw [H0.out]
    go_wp2_with fail
    go_returns
    exact ⟨by rw [HE.out]; rfl, HB1.out⟩
  · have HE := Lib.hid he
    have H0 := Lib.hid c0
    have d1 : decide (h.set < 0) = false := decide_eq_false (by omega)
    have d2 : decide (128 ≤ h.set) = false := decide_eq_false (by omega)
    have d3 : decide (h.hops < 0) = false := decide_eq_false (by omega)
    have d4 : decide (15 < h.hops) = false := decide_eq_false (by omega)
    have d5 : decide (h.src < 1) = false := decide_eq_false (by omega)
    have d6 : decide (24 < h.src) = false := decide_eq_false (by omega)
    have d7 : decide (h.grp < 0) = false := decide_eq_false (by omega)
    have d8 : decide (8 ≤ h.grp) = false := decide_eq_false (by omega)
    clear c0 he c1 c2 c3 c4 c5 c6 c7 c8
    obtain ⟨x0, x1, x2, x3, x4, x5, x6, x7, x8, x9, x10⟩ := hbx.cells
    clear hbx
    go_enter Try.func16, Try.ntmps16
    unfold Hd.ag Hd.cs at *
    go_wp2_with fail
    rw [← HW1.out]
    refine (HWD.out _).mono ?_
    rintro e V ⟨rfl, rfl⟩
    rw [H0.out]
    go_wp2_with fail
    refine (HBL.out _).mono ?_
    rintro e V ⟨rfl, hb⟩
    have HB := Lib.hid (HB1.out.trans (hb.mono HB1.out.size))
    clear hb
    by_cases hbl : below h.bits h.wid = true
    · have HN := Lib.hid hbl
      clear hbl
      rw [HN.out]
      go_wp2_with fail
      go_returns
      exact ⟨by rw [HE.out, HN.out]; rfl, HB.out⟩
    · have HN := Lib.hid (show below h.bits h.wid = false by simpa using hbl)
      clear hbl
      rw [HN.out]
      go_wp2_with fail
      go_returns
      exact ⟨by rw [HE.out, HN.out]; rfl, HB.out⟩

end Go.Proofs.Ytbcgfojdlehnpaa
