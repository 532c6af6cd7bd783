/- Contract of header.Check: may a header be. -/
import Derived.Test.YtickjmkkgcfkhaaGreatHdC
set_option linter.unusedSimpArgs false
set_option linter.unusedVariables false
set_option maxRecDepth 100000
namespace Go.Proofs.YtickjmkkgcfkhaaGreat
open Go.RowKit Go.ChangeShapes Go.WideShapes

theorem Hd.chk_cases (h : Hd) : (wide h.wid = false ∧ h.err = 2) ∨
    (wide h.wid = true ∧ ¬ 0 ≤ h.set ∧ h.err = 2) ∨
    (wide h.wid = true ∧ 0 ≤ h.set ∧ ¬ h.set < 128 ∧ h.err = 2) ∨
    (wide h.wid = true ∧ 0 ≤ h.set ∧ h.set < 128 ∧ ¬ 0 ≤ h.hops ∧ h.err = 2) ∨
    (wide h.wid = true ∧ 0 ≤ h.set ∧ h.set < 128 ∧ 0 ≤ h.hops ∧ ¬ h.hops ≤ 15 ∧ h.err = 2) ∨
    (wide h.wid = true ∧ 0 ≤ h.set ∧ h.set < 128 ∧ 0 ≤ h.hops ∧ h.hops ≤ 15 ∧ ¬ 1 ≤ h.src ∧ h.err = 2) ∨
    (wide h.wid = true ∧ 0 ≤ h.set ∧ h.set < 128 ∧ 0 ≤ h.hops ∧ h.hops ≤ 15 ∧ 1 ≤ h.src ∧ ¬ h.src ≤ 24 ∧ h.err = 2) ∨
    (wide h.wid = true ∧ 0 ≤ h.set ∧ h.set < 128 ∧ 0 ≤ h.hops ∧ h.hops ≤ 15 ∧ 1 ≤ h.src ∧ h.src ≤ 24 ∧ ¬ 0 ≤ h.grp ∧ h.err = 2) ∨
    (wide h.wid = true ∧ 0 ≤ h.set ∧ h.set < 128 ∧ 0 ≤ h.hops ∧ h.hops ≤ 15 ∧ 1 ≤ h.src ∧ h.src ≤ 24 ∧ 0 ≤ h.grp ∧ ¬ h.grp < 8 ∧ h.err = 2) ∨
    (wide h.wid = true ∧ 0 ≤ h.set ∧ h.set < 128 ∧ 0 ≤ h.hops ∧ h.hops ≤ 15 ∧ 1 ≤ h.src ∧ h.src ≤ 24 ∧ 0 ≤ h.grp ∧ h.grp < 8 ∧ h.err = (if below h.bits h.wid then 0 else 2)) := by
  by_cases c0 : wide h.wid = true
  case neg =>
    have c0' : wide h.wid = false := by simpa using c0
    exact Or.inl ⟨c0', by rw [Hd.err, Hd.chk, c0']; rfl⟩
  by_cases c1 : 0 ≤ h.set
  case neg => exact Or.inr (Or.inl ⟨c0, c1, if_neg (fun hc => c1 (by have := Hd.chk_is hc; omega))⟩)
  by_cases c2 : h.set < 128
  case neg => exact Or.inr (Or.inr (Or.inl ⟨c0, c1, c2, if_neg (fun hc => c2 (by have := Hd.chk_is hc; omega))⟩))
  by_cases c3 : 0 ≤ h.hops
  case neg => exact Or.inr (Or.inr (Or.inr (Or.inl ⟨c0, c1, c2, c3, if_neg (fun hc => c3 (by have := Hd.chk_is hc; omega))⟩)))
  by_cases c4 : h.hops ≤ 15
  case neg => exact Or.inr (Or.inr (Or.inr (Or.inr (Or.inl ⟨c0, c1, c2, c3, c4, if_neg (fun hc => c4 (by have := Hd.chk_is hc; omega))⟩))))
  by_cases c5 : 1 ≤ h.src
  case neg => exact Or.inr (Or.inr (Or.inr (Or.inr (Or.inr (Or.inl ⟨c0, c1, c2, c3, c4, c5, if_neg (fun hc => c5 (by have := Hd.chk_is hc; omega))⟩)))))
  by_cases c6 : h.src ≤ 24
  case neg => exact Or.inr (Or.inr (Or.inr (Or.inr (Or.inr (Or.inr (Or.inl ⟨c0, c1, c2, c3, c4, c5, c6, if_neg (fun hc => c6 (by have := Hd.chk_is hc; omega))⟩))))))
  by_cases c7 : 0 ≤ h.grp
  case neg => exact Or.inr (Or.inr (Or.inr (Or.inr (Or.inr (Or.inr (Or.inr (Or.inl ⟨c0, c1, c2, c3, c4, c5, c6, c7, if_neg (fun hc => c7 (by have := Hd.chk_is hc; omega))⟩)))))))
  by_cases c8 : h.grp < 8
  case neg => exact Or.inr (Or.inr (Or.inr (Or.inr (Or.inr (Or.inr (Or.inr (Or.inr (Or.inl ⟨c0, c1, c2, c3, c4, c5, c6, c7, c8, if_neg (fun hc => c8 (by have := Hd.chk_is hc; omega))⟩))))))))
  refine Or.inr (Or.inr (Or.inr (Or.inr (Or.inr (Or.inr (Or.inr (Or.inr (Or.inr (⟨c0, c1, c2, c3, c4, c5, c6, c7, c8, ?_⟩)))))))))
  by_cases c9 : below h.bits h.wid = true
  · rw [if_pos c9, Hd.err, if_pos (Hd.chk_of c0 ⟨c1, c2⟩ ⟨c3, c4⟩ ⟨c5, c6⟩ ⟨c7, c8⟩ c9)]
  · rw [if_neg c9, Hd.err, if_neg (fun hc => c9 (Hd.chk_is hc).2.2.2.2.2)]

set_option maxRecDepth 100000 in
set_option maxHeartbeats 6400000 in
theorem hcheck_any (h : Hd) (W : World) (hk : h.ok) : Calls Tryz.prog 54 #[h.ag] W fun e W' => e = .returned (.int .i64 h.err) ∧ Below W.heap.size W W' := by
  obtain ⟨W1, hW1⟩ : ∃ W1, W1 = W.alloc (.cells h.cs 32) := ⟨_, rfl⟩
  have hb1 : Below W.heap.size W W1 := by rw [hW1]; exact (Below.refl _ _).alloc (Nat.le_refl _) _
  have hbx : BoxH W.heap.size h W1 := by rw [hW1]; exact heap_alloc_new _ _
  have HBX := Lib.hid hbx
  have HW1 := Lib.hid hW1
  have HB1 := Lib.hid hb1
  have HCS := Lib.hid h.chk_cases
  have HK := Lib.hid hk
  have HWD := Lib.hid (fun V => wide_any h.wid V hk.1)
  have HBL := Lib.hid (fun V => below_any h.bits h.wid V hk.2.2.2.2.2.2.2 hk.1)
  by_cases hz : h = Hd.zero
  · have HE := Lib.hid (show h.err = 2 by rw [hz]; rfl)
    have heq := eq_hd0 h true hk (decide_eq_true hz)
    obtain ⟨x0, x1, x2, x3, x4, x5, x6, x7, x8, x9, x10⟩ := hbx.cells
    clear hW1 hb1 hbx hk hz
    go_enter Tryz.func54, Tryz.ntmps54
    unfold Hd.ag Hd.cs at *
    go_wp2_with fail
    go_returns
    rw [← HW1.out]
    exact ⟨by rw [HE.out]; rfl, HB1.out⟩
  have heq := eq_hd0 h false hk (decide_eq_false hz)
  clear hW1 hb1 hk hz
  rcases HCS.out with ⟨c0, he⟩ | ⟨c0, c1, he⟩ | ⟨c0, c1, c2, he⟩ | ⟨c0, c1, c2, c3, he⟩ | ⟨c0, c1, c2, c3, c4, he⟩ | ⟨c0, c1, c2, c3, c4, c5, he⟩ | ⟨c0, c1, c2, c3, c4, c5, c6, he⟩ | ⟨c0, c1, c2, c3, c4, c5, c6, c7, he⟩ | ⟨c0, c1, c2, c3, c4, c5, c6, c7, c8, he⟩ | ⟨c0, c1, c2, c3, c4, c5, c6, c7, c8, he⟩
  · have HE := Lib.hid he
    have H0 := Lib.hid c0
    clear c0 he
    obtain ⟨x0, x1, x2, x3, x4, x5, x6, x7, x8, x9, x10⟩ := hbx.cells
    clear hbx
    go_enter Tryz.func54, Tryz.ntmps54
    unfold Hd.ag Hd.cs at *
    go_wp2_with fail
    rw [← HW1.out]
    refine (HWD.out _).mono ?_
    rintro e V ⟨rfl, rfl⟩
    rw [H0.out]
    go_wp2_with fail
    go_returns
    exact ⟨by rw [HE.out]; rfl, HB1.out⟩
  · have HE := Lib.hid he
    have H0 := Lib.hid c0
    have d1 : decide (0 ≤ h.set) = false := decide_eq_false c1
    clear c0 he c1
    obtain ⟨x0, x1, x2, x3, x4, x5, x6, x7, x8, x9, x10⟩ := hbx.cells
    clear hbx
    go_enter Tryz.func54, Tryz.ntmps54
    unfold Hd.ag Hd.cs at *
    go_wp2_with fail
    rw [← HW1.out]
    refine (HWD.out _).mono ?_
    rintro e V ⟨rfl, rfl⟩
    rw [H0.out]
    go_wp2_with fail
    go_returns
    exact ⟨by rw [HE.out]; rfl, HB1.out⟩
  · have HE := Lib.hid he
    have H0 := Lib.hid c0
    have d1 : decide (0 ≤ h.set) = true := decide_eq_true c1
    have d2 : decide (h.set < 128) = false := decide_eq_false c2
    clear c0 he c1 c2
    obtain ⟨x0, x1, x2, x3, x4, x5, x6, x7, x8, x9, x10⟩ := hbx.cells
    clear hbx
    go_enter Tryz.func54, Tryz.ntmps54
    unfold Hd.ag Hd.cs at *
    go_wp2_with fail
    rw [← HW1.out]
    refine (HWD.out _).mono ?_
    rintro e V ⟨rfl, rfl⟩
    rw [H0.out]
    go_wp2_with fail
    go_returns
    exact ⟨by rw [HE.out]; rfl, HB1.out⟩
  · have HE := Lib.hid he
    have H0 := Lib.hid c0
    have d1 : decide (0 ≤ h.set) = true := decide_eq_true c1
    have d2 : decide (h.set < 128) = true := decide_eq_true c2
    have d3 : decide (0 ≤ h.hops) = false := decide_eq_false c3
    clear c0 he c1 c2 c3
    obtain ⟨x0, x1, x2, x3, x4, x5, x6, x7, x8, x9, x10⟩ := hbx.cells
    clear hbx
    go_enter Tryz.func54, Tryz.ntmps54
    unfold Hd.ag Hd.cs at *
    go_wp2_with fail
    rw [← HW1.out]
    refine (HWD.out _).mono ?_
    rintro e V ⟨rfl, rfl⟩
    rw [H0.out]
    go_wp2_with fail
    go_returns
    exact ⟨by rw [HE.out]; rfl, HB1.out⟩
  · have HE := Lib.hid he
    have H0 := Lib.hid c0
    have d1 : decide (0 ≤ h.set) = true := decide_eq_true c1
    have d2 : decide (h.set < 128) = true := decide_eq_true c2
    have d3 : decide (0 ≤ h.hops) = true := decide_eq_true c3
    have d4 : decide (h.hops ≤ 15) = false := decide_eq_false c4
    clear c0 he c1 c2 c3 c4
    obtain ⟨x0, x1, x2, x3, x4, x5, x6, x7, x8, x9, x10⟩ := hbx.cells
    clear hbx
    go_enter Tryz.func54, Tryz.ntmps54
    unfold Hd.ag Hd.cs at *
    go_wp2_with fail
    rw [← HW1.out]
    refine (HWD.out _).mono ?_
    rintro e V ⟨rfl, rfl⟩
    rw [H0.out]
    go_wp2_with fail
    go_returns
    exact ⟨by rw [HE.out]; rfl, HB1.out⟩
  · have HE := Lib.hid he
    have H0 := Lib.hid c0
    have d1 : decide (0 ≤ h.set) = true := decide_eq_true c1
    have d2 : decide (h.set < 128) = true := decide_eq_true c2
    have d3 : decide (0 ≤ h.hops) = true := decide_eq_true c3
    have d4 : decide (h.hops ≤ 15) = true := decide_eq_true c4
    have d5 : decide (1 ≤ h.src) = false := decide_eq_false c5
    clear c0 he c1 c2 c3 c4 c5
    obtain ⟨x0, x1, x2, x3, x4, x5, x6, x7, x8, x9, x10⟩ := hbx.cells
    clear hbx
    go_enter Tryz.func54, Tryz.ntmps54
    unfold Hd.ag Hd.cs at *
    go_wp2_with fail
    rw [← HW1.out]
    refine (HWD.out _).mono ?_
    rintro e V ⟨rfl, rfl⟩
    rw [H0.out]
    go_wp2_with fail
    go_returns
    exact ⟨by rw [HE.out]; rfl, HB1.out⟩
  · have HE := Lib.hid he
    have H0 := Lib.hid c0
    have d1 : decide (0 ≤ h.set) = true := decide_eq_true c1
    have d2 : decide (h.set < 128) = true := decide_eq_true c2
    have d3 : decide (0 ≤ h.hops) = true := decide_eq_true c3
    have d4 : decide (h.hops ≤ 15) = true := decide_eq_true c4
    have d5 : decide (1 ≤ h.src) = true := decide_eq_true c5
    have d6 : decide (h.src ≤ 24) = false := decide_eq_false c6
    clear c0 he c1 c2 c3 c4 c5 c6
    obtain ⟨x0, x1, x2, x3, x4, x5, x6, x7, x8, x9, x10⟩ := hbx.cells
    clear hbx
    go_enter Tryz.func54, Tryz.ntmps54
    unfold Hd.ag Hd.cs at *
    go_wp2_with fail
    rw [← HW1.out]
    refine (HWD.out _).mono ?_
    rintro e V ⟨rfl, rfl⟩
    rw [H0.out]
    go_wp2_with fail
    go_returns
    exact ⟨by rw [HE.out]; rfl, HB1.out⟩
  · have HE := Lib.hid he
    have H0 := Lib.hid c0
    have d1 : decide (0 ≤ h.set) = true := decide_eq_true c1
    have d2 : decide (h.set < 128) = true := decide_eq_true c2
    have d3 : decide (0 ≤ h.hops) = true := decide_eq_true c3
    have d4 : decide (h.hops ≤ 15) = true := decide_eq_true c4
    have d5 : decide (1 ≤ h.src) = true := decide_eq_true c5
    have d6 : decide (h.src ≤ 24) = true := decide_eq_true c6
    have d7 : decide (0 ≤ h.grp) = false := decide_eq_false c7
    clear c0 he c1 c2 c3 c4 c5 c6 c7
    obtain ⟨x0, x1, x2, x3, x4, x5, x6, x7, x8, x9, x10⟩ := hbx.cells
    clear hbx
    go_enter Tryz.func54, Tryz.ntmps54
    unfold Hd.ag Hd.cs at *
    go_wp2_with fail
    rw [← HW1.out]
    refine (HWD.out _).mono ?_
    rintro e V ⟨rfl, rfl⟩
    rw [H0.out]
    go_wp2_with fail
    go_returns
    exact ⟨by rw [HE.out]; rfl, HB1.out⟩
  · have HE := Lib.hid he
    have H0 := Lib.hid c0
    have d1 : decide (0 ≤ h.set) = true := decide_eq_true c1
    have d2 : decide (h.set < 128) = true := decide_eq_true c2
    have d3 : decide (0 ≤ h.hops) = true := decide_eq_true c3
    have d4 : decide (h.hops ≤ 15) = true := decide_eq_true c4
    have d5 : decide (1 ≤ h.src) = true := decide_eq_true c5
    have d6 : decide (h.src ≤ 24) = true := decide_eq_true c6
    have d7 : decide (0 ≤ h.grp) = true := decide_eq_true c7
    have d8 : decide (h.grp < 8) = false := decide_eq_false c8
    clear c0 he c1 c2 c3 c4 c5 c6 c7 c8
    obtain ⟨x0, x1, x2, x3, x4, x5, x6, x7, x8, x9, x10⟩ := hbx.cells
    clear hbx
    go_enter Tryz.func54, Tryz.ntmps54
    unfold Hd.ag Hd.cs at *
    go_wp2_with fail
    rw [← HW1.out]
    refine (HWD.out _).mono ?_
    rintro e V ⟨rfl, rfl⟩
    rw [H0.out]
    go_wp2_with fail
    go_returns
    exact ⟨by rw [HE.out]; rfl, HB1.out⟩
  · have HE := Lib.hid he
    have H0 := Lib.hid c0
    have d1 : decide (0 ≤ h.set) = true := decide_eq_true c1
    have d2 : decide (h.set < 128) = true := decide_eq_true c2
    have d3 : decide (0 ≤ h.hops) = true := decide_eq_true c3
    have d4 : decide (h.hops ≤ 15) = true := decide_eq_true c4
    have d5 : decide (1 ≤ h.src) = true := decide_eq_true c5
    have d6 : decide (h.src ≤ 24) = true := decide_eq_true c6
    have d7 : decide (0 ≤ h.grp) = true := decide_eq_true c7
    have d8 : decide (h.grp < 8) = true := decide_eq_true c8
    clear c0 he c1 c2 c3 c4 c5 c6 c7 c8
    obtain ⟨x0, x1, x2, x3, x4, x5, x6, x7, x8, x9, x10⟩ := hbx.cells
    clear hbx
    go_enter Tryz.func54, Tryz.ntmps54
    unfold Hd.ag Hd.cs at *
    go_wp2_with fail
    rw [← HW1.out]
    refine (HWD.out _).mono ?_
    rintro e V ⟨rfl, rfl⟩
    rw [H0.out]
    go_wp2_with fail
    refine (HBL.out _).mono ?_
    rintro e V ⟨rfl, hb⟩
    have HB := Lib.hid (HB1.out.trans (hb.mono HB1.out.size))
    clear hb
    by_cases hbl : below h.bits h.wid = true
    · have HN := Lib.hid hbl
      clear hbl
      rw [HN.out]
      go_wp2_with fail
      go_returns
      exact ⟨by rw [HE.out, HN.out]; rfl, HB.out⟩
    · have HN := Lib.hid (show below h.bits h.wid = false by simpa using hbl)
      clear hbl
      rw [HN.out]
      go_wp2_with fail
      go_returns
      exact ⟨by rw [HE.out, HN.out]; rfl, HB.out⟩

end Go.Proofs.YtickjmkkgcfkhaaGreat
