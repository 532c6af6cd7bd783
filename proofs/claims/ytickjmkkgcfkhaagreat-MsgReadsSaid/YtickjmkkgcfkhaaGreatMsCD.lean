import Derived.Test.YtickjmkkgcfkhaaGreatMsB
import Derived.Test.YtickjmkkgcfkhaaGreatRecH
import Derived.Test.YtickjmkkgcfkhaaGreatHdI
/- Contracts of the message: may one of a kind be, and its bytes: the rows' functions for records, stamps, headers. (Printed by mkmsc.py.) -/
set_option linter.unusedSimpArgs false
set_option linter.unusedVariables false
set_option maxRecDepth 100000
set_option maxRecDepth 100000
namespace Go.Proofs.YtickjmkkgcfkhaaGreat
open Go.RowKit Go.ChangeShapes Go.WideShapes

set_option maxHeartbeats 1600000 in
theorem may1_any (m : Ms) (sa : Option Addr) (sc : Nat) (W : World) (hA : AdjsIn W sa m.rc.adjs) (hl : m.rc.adjs.length ≤ maxLen) : Calls Tryz.prog 42 #[m.ag sa sc] W fun e W' => e = .returned (.bool m.rc.chk) ∧ Below W.heap.size W W' := by
  obtain ⟨W1, hW1⟩ : ∃ W1, W1 = W.alloc (.cells (m.cs sa sc) 38) := ⟨_, rfl⟩
  have hb1 : Below W.heap.size W W1 := by rw [hW1]; exact (Below.refl _ _).alloc (Nat.le_refl _) _
  have hbx : BoxM W.heap.size m sa sc W1 := by rw [hW1]; exact heap_alloc_new _ _
  have x1 := hbx.cell (i := 1) rfl
  have x2 := hbx.cell (i := 2) rfl
  have x3 := hbx.cell (i := 3) rfl
  have x4 := hbx.cell (i := 4) rfl
  have x5 := hbx.cell (i := 5) rfl
  have x6 := hbx.cell (i := 6) rfl
  have HW1 := Lib.hid hW1
  have HB1 := Lib.hid hb1
  have HC := Lib.hid (check_any m.rc sa sc W1 (hA.later hb1) hl)
  have HE := Lib.hid (show (m.rc.err == 0) = m.rc.chk from by unfold Rc.err; cases m.rc.chk <;> rfl)
  clear hW1 hb1 hbx hA hl
  go_enter Tryz.func42, Tryz.ntmps42
  unfold Ms.ag Ms.cs Rc.ag Rc.cs at *
  go_wp2_with fail
  rw [← HW1.out]
  refine HC.out.mono ?_
  rintro e w ⟨rfl, hb⟩
  have HB := Lib.hid (HB1.out.trans (hb.mono HB1.out.size))
  clear hb HC
  go_wp2_with fail
  go_returns
  exact ⟨by rw [← HE.out]; rfl, HB.out⟩
set_option maxHeartbeats 1600000 in
theorem may2_any (m : Ms) (sa : Option Addr) (sc : Nat) (W : World) (hm : m.ok) : Calls Tryz.prog 48 #[m.ag sa sc] W fun e W' => e = .returned (.bool m.st.may) ∧ Below W.heap.size W W' := by
  obtain ⟨W1, hW1⟩ : ∃ W1, W1 = W.alloc (.cells (m.cs sa sc) 38) := ⟨_, rfl⟩
  have hb1 : Below W.heap.size W W1 := by rw [hW1]; exact (Below.refl _ _).alloc (Nat.le_refl _) _
  have hbx : BoxM W.heap.size m sa sc W1 := by rw [hW1]; exact heap_alloc_new _ _
  have x7 := hbx.cell (i := 7) rfl
  have x8 := hbx.cell (i := 8) rfl
  have x9 := hbx.cell (i := 9) rfl
  have HW1 := Lib.hid hW1
  have HB1 := Lib.hid hb1
  have HC := Lib.hid (encst_any m.st W1 hm.2.2.1)
  have HE := Lib.hid (show (m.st.encE == 0) = m.st.may from by unfold St.encE; cases m.st.may <;> rfl)
  clear hW1 hb1 hbx hm
  go_enter Tryz.func48, Tryz.ntmps48
  unfold Ms.ag Ms.cs St.ag St.cs at *
  go_wp2_with fail
  rw [← HW1.out]
  refine HC.out.mono ?_
  rintro e w ⟨rfl, hb⟩
  have HB := Lib.hid (HB1.out.trans (hb.mono HB1.out.size))
  clear hb HC
  go_wp2_with fail
  go_returns
  exact ⟨by rw [← HE.out]; rfl, HB.out⟩
set_option maxHeartbeats 1600000 in
theorem may3_any (m : Ms) (sa : Option Addr) (sc : Nat) (W : World) (hm : m.ok) : Calls Tryz.prog 53 #[m.ag sa sc] W fun e W' => e = .returned (.bool m.hd.chk) ∧ Below W.heap.size W W' := by
  obtain ⟨W1, hW1⟩ : ∃ W1, W1 = W.alloc (.cells (m.cs sa sc) 38) := ⟨_, rfl⟩
  have hb1 : Below W.heap.size W W1 := by rw [hW1]; exact (Below.refl _ _).alloc (Nat.le_refl _) _
  have hbx : BoxM W.heap.size m sa sc W1 := by rw [hW1]; exact heap_alloc_new _ _
  have x10 := hbx.cell (i := 10) rfl
  have x11 := hbx.cell (i := 11) rfl
  have x12 := hbx.cell (i := 12) rfl
  have x13 := hbx.cell (i := 13) rfl
  have x14 := hbx.cell (i := 14) rfl
  have x15 := hbx.cell (i := 15) rfl
  have x16 := hbx.cell (i := 16) rfl
  have x17 := hbx.cell (i := 17) rfl
  have x18 := hbx.cell (i := 18) rfl
  have x19 := hbx.cell (i := 19) rfl
  have x20 := hbx.cell (i := 20) rfl
  have HW1 := Lib.hid hW1
  have HB1 := Lib.hid hb1
  have HC := Lib.hid (hcheck_any m.hd W1 hm.2.2.2.1)
  have HE := Lib.hid (show (m.hd.err == 0) = m.hd.chk from by unfold Hd.err; cases m.hd.chk <;> rfl)
  clear hW1 hb1 hbx hm
  go_enter Tryz.func53, Tryz.ntmps53
  unfold Ms.ag Ms.cs Hd.ag Hd.cs at *
  go_wp2_with fail
  rw [← HW1.out]
  refine HC.out.mono ?_
  rintro e w ⟨rfl, hb⟩
  have HB := Lib.hid (HB1.out.trans (hb.mono HB1.out.size))
  clear hb HC
  go_wp2_with fail
  go_returns
  exact ⟨by rw [← HE.out]; rfl, HB.out⟩
set_option maxHeartbeats 1600000 in
theorem lay1_any (m : Ms) (sa : Option Addr) (sc : Nat) (W : World) (hA : AdjsIn W sa m.rc.adjs) (hl : m.rc.adjs.length ≤ maxLen) (hm : m.ok) : Calls Tryz.prog 44 #[m.ag sa sc] W fun e W' => e = .returned (.string m.rc.encS) ∧ Below W.heap.size W W' := by
  obtain ⟨W1, hW1⟩ : ∃ W1, W1 = W.alloc (.cells (m.cs sa sc) 38) := ⟨_, rfl⟩
  have hb1 : Below W.heap.size W W1 := by rw [hW1]; exact (Below.refl _ _).alloc (Nat.le_refl _) _
  have hbx : BoxM W.heap.size m sa sc W1 := by rw [hW1]; exact heap_alloc_new _ _
  have x1 := hbx.cell (i := 1) rfl
  have x2 := hbx.cell (i := 2) rfl
  have x3 := hbx.cell (i := 3) rfl
  have x4 := hbx.cell (i := 4) rfl
  have x5 := hbx.cell (i := 5) rfl
  have x6 := hbx.cell (i := 6) rfl
  have HW1 := Lib.hid hW1
  have HB1 := Lib.hid hb1
  have HC := Lib.hid (encode_any m.rc sa sc W1 (hA.later hb1) hl hm.2.1)
  have HE := Lib.hid (show True from trivial)
  clear hW1 hb1 hbx hm
  go_enter Tryz.func44, Tryz.ntmps44
  unfold Ms.ag Ms.cs Rc.ag Rc.cs at *
  go_wp2_with fail
  rw [← HW1.out]
  refine HC.out.mono ?_
  rintro e w ⟨rfl, hb⟩
  have HB := Lib.hid (HB1.out.trans (hb.mono HB1.out.size))
  clear hb HC
  go_wp2_with fail
  go_returns
  exact ⟨rfl, HB.out⟩
set_option maxHeartbeats 1600000 in
theorem lay2_any (m : Ms) (sa : Option Addr) (sc : Nat) (W : World) (hm : m.ok) : Calls Tryz.prog 50 #[m.ag sa sc] W fun e W' => e = .returned (.string m.st.encS) ∧ Below W.heap.size W W' := by
  obtain ⟨W1, hW1⟩ : ∃ W1, W1 = W.alloc (.cells (m.cs sa sc) 38) := ⟨_, rfl⟩
  have hb1 : Below W.heap.size W W1 := by rw [hW1]; exact (Below.refl _ _).alloc (Nat.le_refl _) _
  have hbx : BoxM W.heap.size m sa sc W1 := by rw [hW1]; exact heap_alloc_new _ _
  have x7 := hbx.cell (i := 7) rfl
  have x8 := hbx.cell (i := 8) rfl
  have x9 := hbx.cell (i := 9) rfl
  have HW1 := Lib.hid hW1
  have HB1 := Lib.hid hb1
  have HC := Lib.hid (encst_any m.st W1 hm.2.2.1)
  have HE := Lib.hid (show True from trivial)
  clear hW1 hb1 hbx hm
  go_enter Tryz.func50, Tryz.ntmps50
  unfold Ms.ag Ms.cs St.ag St.cs at *
  go_wp2_with fail
  rw [← HW1.out]
  refine HC.out.mono ?_
  rintro e w ⟨rfl, hb⟩
  have HB := Lib.hid (HB1.out.trans (hb.mono HB1.out.size))
  clear hb HC
  go_wp2_with fail
  go_returns
  exact ⟨rfl, HB.out⟩
set_option maxHeartbeats 1600000 in
theorem lay3_any (m : Ms) (sa : Option Addr) (sc : Nat) (W : World) (hm : m.ok) : Calls Tryz.prog 55 #[m.ag sa sc] W fun e W' => e = .returned (.string m.hd.encS) ∧ Below W.heap.size W W' := by
  obtain ⟨W1, hW1⟩ : ∃ W1, W1 = W.alloc (.cells (m.cs sa sc) 38) := ⟨_, rfl⟩
  have hb1 : Below W.heap.size W W1 := by rw [hW1]; exact (Below.refl _ _).alloc (Nat.le_refl _) _
  have hbx : BoxM W.heap.size m sa sc W1 := by rw [hW1]; exact heap_alloc_new _ _
  have x10 := hbx.cell (i := 10) rfl
  have x11 := hbx.cell (i := 11) rfl
  have x12 := hbx.cell (i := 12) rfl
  have x13 := hbx.cell (i := 13) rfl
  have x14 := hbx.cell (i := 14) rfl
  have x15 := hbx.cell (i := 15) rfl
  have x16 := hbx.cell (i := 16) rfl
  have x17 := hbx.cell (i := 17) rfl
  have x18 := hbx.cell (i := 18) rfl
  have x19 := hbx.cell (i := 19) rfl
  have x20 := hbx.cell (i := 20) rfl
  have HW1 := Lib.hid hW1
  have HB1 := Lib.hid hb1
  have HC := Lib.hid (hencode_any m.hd W1 hm.2.2.2.1)
  have HE := Lib.hid (show True from trivial)
  clear hW1 hb1 hbx hm
  go_enter Tryz.func55, Tryz.ntmps55
  unfold Ms.ag Ms.cs Hd.ag Hd.cs at *
  go_wp2_with fail
  rw [← HW1.out]
  refine HC.out.mono ?_
  rintro e w ⟨rfl, hb⟩
  have HB := Lib.hid (HB1.out.trans (hb.mono HB1.out.size))
  clear hb HC
  go_wp2_with fail
  go_returns
  exact ⟨rfl, HB.out⟩

end Go.Proofs.YtickjmkkgcfkhaaGreat

/- Contracts of the message: may a wish, an ack be. (Printed by mkmsd.py.) -/
set_option linter.unusedSimpArgs false
set_option linter.unusedVariables false
set_option maxRecDepth 100000
set_option maxRecDepth 100000
namespace Go.Proofs.YtickjmkkgcfkhaaGreat
open Go.RowKit Go.ChangeShapes Go.WideShapes

theorem info_msg (m : Ms) (sa : Option Addr) (sc : Nat) : (Tryz.prog.info? 38).map (·.size) = some (m.cs sa sc).toList.length := by
  show _ = some 32
  kernel_rfl
theorem may4_cases (m : Ms) : (m.way = false ∧ (m.way && m.wi.may) = false) ∨ (m.way = true ∧ rtr m.wi.frm = false ∧ (m.way && m.wi.may) = false) ∨ (m.way = true ∧ rtr m.wi.frm = true ∧ ¬ 0 < m.wi.ep ∧ (m.way && m.wi.may) = false) ∨ (m.way = true ∧ rtr m.wi.frm = true ∧ 0 < m.wi.ep ∧ ¬ 0 < m.wi.ver ∧ (m.way && m.wi.may) = false) ∨ (m.way = true ∧ rtr m.wi.frm = true ∧ 0 < m.wi.ep ∧ 0 < m.wi.ver ∧ (m.way && m.wi.may) = true) := by
  unfold Wi.may
  cases m.way
  · simp
  · cases rtr m.wi.frm
    · simp
    · by_cases h1 : 0 < m.wi.ep
      · by_cases h2 : 0 < m.wi.ver
        · simp [h1, h2]
        · simp [h1, h2]
      · simp [h1]
theorem may5_cases (m : Ms) : (m.way = false ∧ (m.way && m.ak.may) = false) ∨ (m.way = true ∧ rtr m.ak.frm = false ∧ (m.way && m.ak.may) = false) ∨ (m.way = true ∧ rtr m.ak.frm = true ∧ rtr m.ak.dst = false ∧ (m.way && m.ak.may) = false) ∨ (m.way = true ∧ rtr m.ak.frm = true ∧ rtr m.ak.dst = true ∧ ¬ 0 < m.ak.ep ∧ (m.way && m.ak.may) = false) ∨ (m.way = true ∧ rtr m.ak.frm = true ∧ rtr m.ak.dst = true ∧ 0 < m.ak.ep ∧ ¬ 0 < m.ak.lif ∧ (m.way && m.ak.may) = false) ∨
    (m.way = true ∧ rtr m.ak.frm = true ∧ rtr m.ak.dst = true ∧ 0 < m.ak.ep ∧ 0 < m.ak.lif ∧ ¬ 0 < m.ak.ver ∧ (m.way && m.ak.may) = false) ∨ (m.way = true ∧ rtr m.ak.frm = true ∧ rtr m.ak.dst = true ∧ 0 < m.ak.ep ∧ 0 < m.ak.lif ∧ 0 < m.ak.ver ∧ (m.way && m.ak.may) = true) := by
  unfold Ak.may
  cases m.way
  · simp
  · cases rtr m.ak.frm
    · simp
    · cases rtr m.ak.dst
      · simp
      · by_cases h1 : 0 < m.ak.ep
        · by_cases h2 : 0 < m.ak.lif
          · by_cases h3 : 0 < m.ak.ver
            · simp [h1, h2, h3]
            · simp [h1, h2, h3]
          · simp [h1, h2]
        · simp [h1]

set_option maxHeartbeats 3200000 in
theorem may4_any (m : Ms) (sa : Option Addr) (sc : Nat) (W : World) : Calls Tryz.prog 59 #[m.ag sa sc] W fun e W' => e = .returned (.bool (m.way && m.wi.may)) ∧ Below W.heap.size W W' := by
  obtain ⟨W1, hW1⟩ : ∃ W1, W1 = W.alloc (.cells (m.cs sa sc) 38) := ⟨_, rfl⟩
  have hb1 : Below W.heap.size W W1 := by rw [hW1]; exact (Below.refl _ _).alloc (Nat.le_refl _) _
  have hbx : BoxM W.heap.size m sa sc W1 := by rw [hW1]; exact heap_alloc_new _ _
  have x23 : W1.cell? ⟨W.heap.size, 23, none⟩ = some (.int .i64 m.wi.frm) := hbx.cell rfl
  have x24 : W1.cell? ⟨W.heap.size, 24, none⟩ = some (.int .u32 m.wi.ep) := hbx.cell rfl
  have x25 : W1.cell? ⟨W.heap.size, 25, none⟩ = some (.int .u32 m.wi.ver) := hbx.cell rfl
  have x26 : W1.cell? ⟨W.heap.size, 26, none⟩ = some (.int .u8 m.wi.grp) := hbx.cell rfl
  have HW1 := Lib.hid hW1
  have HB1 := Lib.hid hb1
  have HWY := Lib.hid (way_any m sa sc W1)
  have HCC := Lib.hid (block_cells hbx)
  have HSZ := Lib.hid (info_msg m sa sc)
  have HLT := Lib.hid (show W.heap.size < W1.heap.size by rw [hW1, World.size_alloc]; exact Nat.lt_succ_self _)
  have hc := may4_cases m
  clear hW1 hb1 hbx
  rcases hc with ⟨h1, he⟩ | ⟨h1, h2, he⟩ | ⟨h1, h2, h3, he⟩ | ⟨h1, h2, h3, h4, he⟩ | ⟨h1, h2, h3, h4, he⟩
  · have H0 := Lib.hid h1
    have HE := Lib.hid he
    clear h1 he
    go_enter Tryz.func59, Tryz.ntmps59
    unfold Ms.ag at *
    go_upto_region 1 with fail
    rw [← HW1.out]
    go_wp2_with ((with_reducible refine wpList_load_cs rfl 38 (.tmp 1) rfl ⟨W.heap.size, 0, none⟩ rfl (m.cs sa sc).toList _ HCC.out Tryz.underlying38 rfl HSZ.out ?_); rw [Array.toArray_toList])
    refine (HWY.out).mono ?_
    rintro e w ⟨rfl, hb⟩
    have HB := Lib.hid (HB1.out.trans (hb.mono HB1.out.size))
    have x23w := (hb.cell (by simp only; exact HLT.out)).trans x23
    have x24w := (hb.cell (by simp only; exact HLT.out)).trans x24
    have x25w := (hb.cell (by simp only; exact HLT.out)).trans x25
    have x26w := (hb.cell (by simp only; exact HLT.out)).trans x26
    clear hb x23 x24 x25 x26
    rw [H0.out]
    go_wp2_with fail
    go_returns
    exact ⟨by rw [HE.out]; rfl, HB.out⟩
  · have H0 := Lib.hid h1
    have H1 := Lib.hid h2
    have HE := Lib.hid he
    clear h1 h2 he
    go_enter Tryz.func59, Tryz.ntmps59
    unfold Ms.ag at *
    go_upto_region 1 with fail
    rw [← HW1.out]
    go_wp2_with ((with_reducible refine wpList_load_cs rfl 38 (.tmp 1) rfl ⟨W.heap.size, 0, none⟩ rfl (m.cs sa sc).toList _ HCC.out Tryz.underlying38 rfl HSZ.out ?_); rw [Array.toArray_toList])
    refine (HWY.out).mono ?_
    rintro e w ⟨rfl, hb⟩
    have HB := Lib.hid (HB1.out.trans (hb.mono HB1.out.size))
    have x23w := (hb.cell (by simp only; exact HLT.out)).trans x23
    have x24w := (hb.cell (by simp only; exact HLT.out)).trans x24
    have x25w := (hb.cell (by simp only; exact HLT.out)).trans x25
    have x26w := (hb.cell (by simp only; exact HLT.out)).trans x26
    clear hb x23 x24 x25 x26
    rw [H0.out]
    go_wp2_with fail
    refine (mrtr_any _ _).mono ?_
    rintro e w ⟨rfl, rfl⟩
    rw [H1.out]
    go_wp2_with fail
    go_returns
    exact ⟨by rw [HE.out]; rfl, HB.out⟩
  · have H0 := Lib.hid h1
    have H1 := Lib.hid h2
    have d3 : decide (0 < m.wi.ep) = false := decide_eq_false h3
    have HE := Lib.hid he
    clear h1 h2 he
    go_enter Tryz.func59, Tryz.ntmps59
    unfold Ms.ag at *
    go_upto_region 1 with fail
    rw [← HW1.out]
    go_wp2_with ((with_reducible refine wpList_load_cs rfl 38 (.tmp 1) rfl ⟨W.heap.size, 0, none⟩ rfl (m.cs sa sc).toList _ HCC.out Tryz.underlying38 rfl HSZ.out ?_); rw [Array.toArray_toList])
    refine (HWY.out).mono ?_
    rintro e w ⟨rfl, hb⟩
    have HB := Lib.hid (HB1.out.trans (hb.mono HB1.out.size))
    have x23w := (hb.cell (by simp only; exact HLT.out)).trans x23
    have x24w := (hb.cell (by simp only; exact HLT.out)).trans x24
    have x25w := (hb.cell (by simp only; exact HLT.out)).trans x25
    have x26w := (hb.cell (by simp only; exact HLT.out)).trans x26
    clear hb x23 x24 x25 x26
    rw [H0.out]
    go_wp2_with fail
    refine (mrtr_any _ _).mono ?_
    rintro e w ⟨rfl, rfl⟩
    rw [H1.out]
    go_wp2_with fail
    go_returns
    exact ⟨by rw [HE.out]; rfl, HB.out⟩
  · have H0 := Lib.hid h1
    have H1 := Lib.hid h2
    have d3 : decide (0 < m.wi.ep) = true := decide_eq_true h3
    have d4 : decide (0 < m.wi.ver) = false := decide_eq_false h4
    have HE := Lib.hid he
    clear h1 h2 he
    go_enter Tryz.func59, Tryz.ntmps59
    unfold Ms.ag at *
    go_upto_region 1 with fail
    rw [← HW1.out]
    go_wp2_with ((with_reducible refine wpList_load_cs rfl 38 (.tmp 1) rfl ⟨W.heap.size, 0, none⟩ rfl (m.cs sa sc).toList _ HCC.out Tryz.underlying38 rfl HSZ.out ?_); rw [Array.toArray_toList])
    refine (HWY.out).mono ?_
    rintro e w ⟨rfl, hb⟩
    have HB := Lib.hid (HB1.out.trans (hb.mono HB1.out.size))
    have x23w := (hb.cell (by simp only; exact HLT.out)).trans x23
    have x24w := (hb.cell (by simp only; exact HLT.out)).trans x24
    have x25w := (hb.cell (by simp only; exact HLT.out)).trans x25
    have x26w := (hb.cell (by simp only; exact HLT.out)).trans x26
    clear hb x23 x24 x25 x26
    rw [H0.out]
    go_wp2_with fail
    refine (mrtr_any _ _).mono ?_
    rintro e w ⟨rfl, rfl⟩
    rw [H1.out]
    go_wp2_with fail
    go_returns
    exact ⟨by rw [HE.out]; rfl, HB.out⟩
  · have H0 := Lib.hid h1
    have H1 := Lib.hid h2
    have d3 : decide (0 < m.wi.ep) = true := decide_eq_true h3
    have d4 : decide (0 < m.wi.ver) = true := decide_eq_true h4
    have HE := Lib.hid he
    clear h1 h2 he
    go_enter Tryz.func59, Tryz.ntmps59
    unfold Ms.ag at *
    go_upto_region 1 with fail
    rw [← HW1.out]
    go_wp2_with ((with_reducible refine wpList_load_cs rfl 38 (.tmp 1) rfl ⟨W.heap.size, 0, none⟩ rfl (m.cs sa sc).toList _ HCC.out Tryz.underlying38 rfl HSZ.out ?_); rw [Array.toArray_toList])
    refine (HWY.out).mono ?_
    rintro e w ⟨rfl, hb⟩
    have HB := Lib.hid (HB1.out.trans (hb.mono HB1.out.size))
    have x23w := (hb.cell (by simp only; exact HLT.out)).trans x23
    have x24w := (hb.cell (by simp only; exact HLT.out)).trans x24
    have x25w := (hb.cell (by simp only; exact HLT.out)).trans x25
    have x26w := (hb.cell (by simp only; exact HLT.out)).trans x26
    clear hb x23 x24 x25 x26
    rw [H0.out]
    go_wp2_with fail
    refine (mrtr_any _ _).mono ?_
    rintro e w ⟨rfl, rfl⟩
    rw [H1.out]
    go_wp2_with fail
    go_returns
    exact ⟨by rw [HE.out]; rfl, HB.out⟩

def Ak.cs (a : Ak) : Array Value := #[.int .i64 a.frm, .int .u32 a.ep, .int .i64 a.dst, .int .u32 a.lif, .int .u32 a.ver]
set_option maxHeartbeats 3200000 in
theorem may5_any (m : Ms) (sa : Option Addr) (sc : Nat) (W : World) : Calls Tryz.prog 66 #[m.ag sa sc] W fun e W' => e = .returned (.bool (m.way && m.ak.may)) ∧ Below W.heap.size W W' := by
  obtain ⟨W1, hW1⟩ : ∃ W1, W1 = W.alloc (.cells (m.cs sa sc) 38) := ⟨_, rfl⟩
  obtain ⟨W2, hW2⟩ : ∃ W2, W2 = W1.alloc (.cells (m.ak.cs) 36) := ⟨_, rfl⟩
  have hb1 : Below W.heap.size W W1 := by rw [hW1]; exact (Below.refl _ _).alloc (Nat.le_refl _) _
  have hb2 : Below W.heap.size W W2 := by rw [hW2]; exact hb1.alloc hb1.size _
  have hbx1 : BoxM W.heap.size m sa sc W1 := by rw [hW1]; exact heap_alloc_new _ _
  have hbx : BoxM W.heap.size m sa sc W2 := hbx1.later (by rw [hW2]; exact (Below.refl _ _).alloc (Nat.le_refl _) _)
  have hs1 : W1.heap.size = W.heap.size + 1 := by rw [hW1, World.size_alloc]
  have hby : W2.heap[W1.heap.size]? = some (.cells m.ak.cs 36 (0, 0)) := by rw [hW2]; exact heap_alloc_new _ _
  have x27 : W1.cell? ⟨W.heap.size, 27, none⟩ = some (.int .i64 m.ak.frm) := hbx1.cell rfl
  have x28 : W1.cell? ⟨W.heap.size, 28, none⟩ = some (.int .u32 m.ak.ep) := hbx1.cell rfl
  have x29 : W1.cell? ⟨W.heap.size, 29, none⟩ = some (.int .i64 m.ak.dst) := hbx1.cell rfl
  have x30 : W1.cell? ⟨W.heap.size, 30, none⟩ = some (.int .u32 m.ak.lif) := hbx1.cell rfl
  have x31 : W1.cell? ⟨W.heap.size, 31, none⟩ = some (.int .u32 m.ak.ver) := hbx1.cell rfl
  have y0 : W2.cell? ⟨W1.heap.size, 0, none⟩ = some (.int .i64 m.ak.frm) := cell_of_row _ _ 0 _ _ _ hby
  have y1 : W2.cell? ⟨W1.heap.size, 1, none⟩ = some (.int .u32 m.ak.ep) := cell_of_row _ _ 1 _ _ _ hby
  have y2 : W2.cell? ⟨W1.heap.size, 2, none⟩ = some (.int .i64 m.ak.dst) := cell_of_row _ _ 2 _ _ _ hby
  have y3 : W2.cell? ⟨W1.heap.size, 3, none⟩ = some (.int .u32 m.ak.lif) := cell_of_row _ _ 3 _ _ _ hby
  have y4 : W2.cell? ⟨W1.heap.size, 4, none⟩ = some (.int .u32 m.ak.ver) := cell_of_row _ _ 4 _ _ _ hby
  have HW1 := Lib.hid hW1
  have HW2 := Lib.hid hW2
  have HB2 := Lib.hid hb2
  have HWY := Lib.hid (way_any m sa sc W2)
  have HCC := Lib.hid (block_cells hbx)
  have HSZ := Lib.hid (info_msg m sa sc)
  have HLT := Lib.hid (show W1.heap.size < W2.heap.size by rw [hW2, World.size_alloc]; exact Nat.lt_succ_self _)
  have hc := may5_cases m
  clear hW1 hW2 hb1 hb2 hbx hbx1 hby hs1
  rcases hc with ⟨h1, he⟩ | ⟨h1, h2, he⟩ | ⟨h1, h2, h3, he⟩ | ⟨h1, h2, h3, h4, he⟩ | ⟨h1, h2, h3, h4, h5, he⟩ | ⟨h1, h2, h3, h4, h5, h6, he⟩ | ⟨h1, h2, h3, h4, h5, h6, he⟩
  · have H0 := Lib.hid h1
    have HE := Lib.hid he
    clear h1 he
    go_enter Tryz.func66, Tryz.ntmps66
    unfold Ms.ag at *
    go_upto_region 1 with fail
    rw [← HW1.out]
    unfold Ak.cs at *
    go_upto_region 2 with fail
    rw [← HW2.out]
    clear x27 x28 x29 x30 x31
    go_wp2_with ((with_reducible refine wpList_load_cs rfl 38 (.tmp 1) rfl ⟨W.heap.size, 0, none⟩ rfl (m.cs sa sc).toList _ HCC.out Tryz.underlying38 rfl HSZ.out ?_); rw [Array.toArray_toList])
    refine (HWY.out).mono ?_
    rintro e w ⟨rfl, hb⟩
    have HB := Lib.hid (HB2.out.trans (hb.mono HB2.out.size))
    have y0w := (hb.cell (by simp only; exact HLT.out)).trans y0
    have y1w := (hb.cell (by simp only; exact HLT.out)).trans y1
    have y2w := (hb.cell (by simp only; exact HLT.out)).trans y2
    have y3w := (hb.cell (by simp only; exact HLT.out)).trans y3
    have y4w := (hb.cell (by simp only; exact HLT.out)).trans y4
    clear hb y0 y1 y2 y3 y4
    rw [H0.out]
    go_wp2_with fail
    go_returns
    exact ⟨by rw [HE.out]; rfl, HB.out⟩
  · have H0 := Lib.hid h1
    have H1 := Lib.hid h2
    have HE := Lib.hid he
    clear h1 h2 he
    go_enter Tryz.func66, Tryz.ntmps66
    unfold Ms.ag at *
    go_upto_region 1 with fail
    rw [← HW1.out]
    unfold Ak.cs at *
    go_upto_region 2 with fail
    rw [← HW2.out]
    clear x27 x28 x29 x30 x31
    go_wp2_with ((with_reducible refine wpList_load_cs rfl 38 (.tmp 1) rfl ⟨W.heap.size, 0, none⟩ rfl (m.cs sa sc).toList _ HCC.out Tryz.underlying38 rfl HSZ.out ?_); rw [Array.toArray_toList])
    refine (HWY.out).mono ?_
    rintro e w ⟨rfl, hb⟩
    have HB := Lib.hid (HB2.out.trans (hb.mono HB2.out.size))
    have y0w := (hb.cell (by simp only; exact HLT.out)).trans y0
    have y1w := (hb.cell (by simp only; exact HLT.out)).trans y1
    have y2w := (hb.cell (by simp only; exact HLT.out)).trans y2
    have y3w := (hb.cell (by simp only; exact HLT.out)).trans y3
    have y4w := (hb.cell (by simp only; exact HLT.out)).trans y4
    clear hb y0 y1 y2 y3 y4
    rw [H0.out]
    go_wp2_with fail
    refine (mrtr_any _ _).mono ?_
    rintro e w ⟨rfl, rfl⟩
    rw [H1.out]
    go_wp2_with fail
    go_returns
    exact ⟨by rw [HE.out]; rfl, HB.out⟩
  · have H0 := Lib.hid h1
    have H1 := Lib.hid h2
    have H2 := Lib.hid h3
    have HE := Lib.hid he
    clear h1 h2 h3 he
    go_enter Tryz.func66, Tryz.ntmps66
    unfold Ms.ag at *
    go_upto_region 1 with fail
    rw [← HW1.out]
    unfold Ak.cs at *
    go_upto_region 2 with fail
    rw [← HW2.out]
    clear x27 x28 x29 x30 x31
    go_wp2_with ((with_reducible refine wpList_load_cs rfl 38 (.tmp 1) rfl ⟨W.heap.size, 0, none⟩ rfl (m.cs sa sc).toList _ HCC.out Tryz.underlying38 rfl HSZ.out ?_); rw [Array.toArray_toList])
    refine (HWY.out).mono ?_
    rintro e w ⟨rfl, hb⟩
    have HB := Lib.hid (HB2.out.trans (hb.mono HB2.out.size))
    have y0w := (hb.cell (by simp only; exact HLT.out)).trans y0
    have y1w := (hb.cell (by simp only; exact HLT.out)).trans y1
    have y2w := (hb.cell (by simp only; exact HLT.out)).trans y2
    have y3w := (hb.cell (by simp only; exact HLT.out)).trans y3
    have y4w := (hb.cell (by simp only; exact HLT.out)).trans y4
    clear hb y0 y1 y2 y3 y4
    rw [H0.out]
    go_wp2_with fail
    refine (mrtr_any _ _).mono ?_
    rintro e w ⟨rfl, rfl⟩
    rw [H1.out]
    go_wp2_with fail
    refine (mrtr_any _ _).mono ?_
    rintro e w ⟨rfl, rfl⟩
    rw [H2.out]
    go_wp2_with fail
    go_returns
    exact ⟨by rw [HE.out]; rfl, HB.out⟩
  · have H0 := Lib.hid h1
    have H1 := Lib.hid h2
    have H2 := Lib.hid h3
    have d4 : decide (0 < m.ak.ep) = false := decide_eq_false h4
    have HE := Lib.hid he
    clear h1 h2 h3 he
    go_enter Tryz.func66, Tryz.ntmps66
    unfold Ms.ag at *
    go_upto_region 1 with fail
    rw [← HW1.out]
    unfold Ak.cs at *
    go_upto_region 2 with fail
    rw [← HW2.out]
    clear x27 x28 x29 x30 x31
    go_wp2_with ((with_reducible refine wpList_load_cs rfl 38 (.tmp 1) rfl ⟨W.heap.size, 0, none⟩ rfl (m.cs sa sc).toList _ HCC.out Tryz.underlying38 rfl HSZ.out ?_); rw [Array.toArray_toList])
    refine (HWY.out).mono ?_
    rintro e w ⟨rfl, hb⟩
    have HB := Lib.hid (HB2.out.trans (hb.mono HB2.out.size))
    have y0w := (hb.cell (by simp only; exact HLT.out)).trans y0
    have y1w := (hb.cell (by simp only; exact HLT.out)).trans y1
    have y2w := (hb.cell (by simp only; exact HLT.out)).trans y2
    have y3w := (hb.cell (by simp only; exact HLT.out)).trans y3
    have y4w := (hb.cell (by simp only; exact HLT.out)).trans y4
    clear hb y0 y1 y2 y3 y4
    rw [H0.out]
    go_wp2_with fail
    refine (mrtr_any _ _).mono ?_
    rintro e w ⟨rfl, rfl⟩
    rw [H1.out]
    go_wp2_with fail
    refine (mrtr_any _ _).mono ?_
    rintro e w ⟨rfl, rfl⟩
    rw [H2.out]
    go_wp2_with fail
    go_returns
    exact ⟨by rw [HE.out]; rfl, HB.out⟩
  · have H0 := Lib.hid h1
    have H1 := Lib.hid h2
    have H2 := Lib.hid h3
    have d4 : decide (0 < m.ak.ep) = true := decide_eq_true h4
    have d5 : decide (0 < m.ak.lif) = false := decide_eq_false h5
    have HE := Lib.hid he
    clear h1 h2 h3 he
    go_enter Tryz.func66, Tryz.ntmps66
    unfold Ms.ag at *
    go_upto_region 1 with fail
    rw [← HW1.out]
    unfold Ak.cs at *
    go_upto_region 2 with fail
    rw [← HW2.out]
    clear x27 x28 x29 x30 x31
    go_wp2_with ((with_reducible refine wpList_load_cs rfl 38 (.tmp 1) rfl ⟨W.heap.size, 0, none⟩ rfl (m.cs sa sc).toList _ HCC.out Tryz.underlying38 rfl HSZ.out ?_); rw [Array.toArray_toList])
    refine (HWY.out).mono ?_
    rintro e w ⟨rfl, hb⟩
    have HB := Lib.hid (HB2.out.trans (hb.mono HB2.out.size))
    have y0w := (hb.cell (by simp only; exact HLT.out)).trans y0
    have y1w := (hb.cell (by simp only; exact HLT.out)).trans y1
    have y2w := (hb.cell (by simp only; exact HLT.out)).trans y2
    have y3w := (hb.cell (by simp only; exact HLT.out)).trans y3
    have y4w := (hb.cell (by simp only; exact HLT.out)).trans y4
    clear hb y0 y1 y2 y3 y4
    rw [H0.out]
    go_wp2_with fail
    refine (mrtr_any _ _).mono ?_
    rintro e w ⟨rfl, rfl⟩
    rw [H1.out]
    go_wp2_with fail
    refine (mrtr_any _ _).mono ?_
    rintro e w ⟨rfl, rfl⟩
    rw [H2.out]
    go_wp2_with fail
    go_returns
    exact ⟨by rw [HE.out]; rfl, HB.out⟩
  · have H0 := Lib.hid h1
    have H1 := Lib.hid h2
    have H2 := Lib.hid h3
    have d4 : decide (0 < m.ak.ep) = true := decide_eq_true h4
    have d5 : decide (0 < m.ak.lif) = true := decide_eq_true h5
    have d6 : decide (0 < m.ak.ver) = false := decide_eq_false h6
    have HE := Lib.hid he
    clear h1 h2 h3 he
    go_enter Tryz.func66, Tryz.ntmps66
    unfold Ms.ag at *
    go_upto_region 1 with fail
    rw [← HW1.out]
    unfold Ak.cs at *
    go_upto_region 2 with fail
    rw [← HW2.out]
    clear x27 x28 x29 x30 x31
    go_wp2_with ((with_reducible refine wpList_load_cs rfl 38 (.tmp 1) rfl ⟨W.heap.size, 0, none⟩ rfl (m.cs sa sc).toList _ HCC.out Tryz.underlying38 rfl HSZ.out ?_); rw [Array.toArray_toList])
    refine (HWY.out).mono ?_
    rintro e w ⟨rfl, hb⟩
    have HB := Lib.hid (HB2.out.trans (hb.mono HB2.out.size))
    have y0w := (hb.cell (by simp only; exact HLT.out)).trans y0
    have y1w := (hb.cell (by simp only; exact HLT.out)).trans y1
    have y2w := (hb.cell (by simp only; exact HLT.out)).trans y2
    have y3w := (hb.cell (by simp only; exact HLT.out)).trans y3
    have y4w := (hb.cell (by simp only; exact HLT.out)).trans y4
    clear hb y0 y1 y2 y3 y4
    rw [H0.out]
    go_wp2_with fail
    refine (mrtr_any _ _).mono ?_
    rintro e w ⟨rfl, rfl⟩
    rw [H1.out]
    go_wp2_with fail
    refine (mrtr_any _ _).mono ?_
    rintro e w ⟨rfl, rfl⟩
    rw [H2.out]
    go_wp2_with fail
    go_returns
    exact ⟨by rw [HE.out]; rfl, HB.out⟩
  · have H0 := Lib.hid h1
    have H1 := Lib.hid h2
    have H2 := Lib.hid h3
    have d4 : decide (0 < m.ak.ep) = true := decide_eq_true h4
    have d5 : decide (0 < m.ak.lif) = true := decide_eq_true h5
    have d6 : decide (0 < m.ak.ver) = true := decide_eq_true h6
    have HE := Lib.hid he
    clear h1 h2 h3 he
    go_enter Tryz.func66, Tryz.ntmps66
    unfold Ms.ag at *
    go_upto_region 1 with fail
    rw [← HW1.out]
    unfold Ak.cs at *
    go_upto_region 2 with fail
    rw [← HW2.out]
    clear x27 x28 x29 x30 x31
    go_wp2_with ((with_reducible refine wpList_load_cs rfl 38 (.tmp 1) rfl ⟨W.heap.size, 0, none⟩ rfl (m.cs sa sc).toList _ HCC.out Tryz.underlying38 rfl HSZ.out ?_); rw [Array.toArray_toList])
    refine (HWY.out).mono ?_
    rintro e w ⟨rfl, hb⟩
    have HB := Lib.hid (HB2.out.trans (hb.mono HB2.out.size))
    have y0w := (hb.cell (by simp only; exact HLT.out)).trans y0
    have y1w := (hb.cell (by simp only; exact HLT.out)).trans y1
    have y2w := (hb.cell (by simp only; exact HLT.out)).trans y2
    have y3w := (hb.cell (by simp only; exact HLT.out)).trans y3
    have y4w := (hb.cell (by simp only; exact HLT.out)).trans y4
    clear hb y0 y1 y2 y3 y4
    rw [H0.out]
    go_wp2_with fail
    refine (mrtr_any _ _).mono ?_
    rintro e w ⟨rfl, rfl⟩
    rw [H1.out]
    go_wp2_with fail
    refine (mrtr_any _ _).mono ?_
    rintro e w ⟨rfl, rfl⟩
    rw [H2.out]
    go_wp2_with fail
    go_returns
    exact ⟨by rw [HE.out]; rfl, HB.out⟩

end Go.Proofs.YtickjmkkgcfkhaaGreat
