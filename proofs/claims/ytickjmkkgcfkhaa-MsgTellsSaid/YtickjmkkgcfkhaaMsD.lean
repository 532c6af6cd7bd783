/- Contracts of the message: may a wish, an ack be. (Printed by mkmsd.py.) -/
import Derived.Test.YtickjmkkgcfkhaaMsB
set_option linter.unusedSimpArgs false
set_option linter.unusedVariables false
set_option maxRecDepth 100000
set_option maxRecDepth 100000
namespace Go.Proofs.Ytickjmkkgcfkhaa
open Go.RowKit Go.ChangeShapes Go.WideShapes

theorem info_msg (m : Ms) (sa : Option Addr) (sc : Nat) : (Try.prog.info? 38).map (·.size) = some (m.cs sa sc).toList.length := by
  show _ = some 32
  kernel_rfl
theorem may4_cases (m : Ms) : (m.way = false ∧ (m.way && m.wi.may) = false) ∨ (m.way = true ∧ rtr m.wi.frm = false ∧ (m.way && m.wi.may) = false) ∨ (m.way = true ∧ rtr m.wi.frm = true ∧ ¬ 0 < m.wi.ep ∧ (m.way && m.wi.may) = false) ∨ (m.way = true ∧ rtr m.wi.frm = true ∧ 0 < m.wi.ep ∧ ¬ 0 < m.wi.ver ∧ (m.way && m.wi.may) = false) ∨ (m.way = true ∧ rtr m.wi.frm = true ∧ 0 < m.wi.ep ∧ 0 < m.wi.ver ∧ (m.way && m.wi.may) = true) := by
  unfold Wi.may
  cases m.way
  · simp
  · cases rtr m.wi.frm
    · simp
    · by_cases h1 : 0 < m.wi.ep
      · by_cases h2 : 0 < m.wi.ver
        · simp [h1, h2]
        · simp [h1, h2]
      · simp [h1]
theorem may5_cases (m : Ms) : (m.way = false ∧ (m.way && m.ak.may) = false) ∨ (m.way = true ∧ rtr m.ak.frm = false ∧ (m.way && m.ak.may) = false) ∨ (m.way = true ∧ rtr m.ak.frm = true ∧ rtr m.ak.dst = false ∧ (m.way && m.ak.may) = false) ∨ (m.way = true ∧ rtr m.ak.frm = true ∧ rtr m.ak.dst = true ∧ ¬ 0 < m.ak.ep ∧ (m.way && m.ak.may) = false) ∨ (m.way = true ∧ rtr m.ak.frm = true ∧ rtr m.ak.dst = true ∧ 0 < m.ak.ep ∧ ¬ 0 < m.ak.lif ∧ (m.way && m.ak.may) = false) ∨
    (m.way = true ∧ rtr m.ak.frm = true ∧ rtr m.ak.dst = true ∧ 0 < m.ak.ep ∧ 0 < m.ak.lif ∧ ¬ 0 < m.ak.ver ∧ (m.way && m.ak.may) = false) ∨ (m.way = true ∧ rtr m.ak.frm = true ∧ rtr m.ak.dst = true ∧ 0 < m.ak.ep ∧ 0 < m.ak.lif ∧ 0 < m.ak.ver ∧ (m.way && m.ak.may) = true) := by
  unfold Ak.may
  cases m.way
  · simp
  · cases rtr m.ak.frm
    · simp
    · cases rtr m.ak.dst
      · simp
      · by_cases h1 : 0 < m.ak.ep
        · by_cases h2 : 0 < m.ak.lif
          · by_cases h3 : 0 < m.ak.ver
            · simp [h1, h2, h3]
            · simp [h1, h2, h3]
          · simp [h1, h2]
        · simp [h1]

set_option maxHeartbeats 3200000 in
theorem may4_any (m : Ms) (sa : Option Addr) (sc : Nat) (W : World) : Calls Try.prog 70 #[m.ag sa sc] W fun e W' => e = .returned (.bool (m.way && m.wi.may)) ∧ Below W.heap.size W W' := by
  obtain ⟨W1, hW1⟩ : ∃ W1, W1 = W.alloc (.cells (m.cs sa sc) 38) := ⟨_, rfl⟩
  have hb1 : Below W.heap.size W W1 := by rw [hW1]; exact (Below.refl _ _).alloc (Nat.le_refl _) _
  have hbx : BoxM W.heap.size m sa sc W1 := by rw [hW1]; exact heap_alloc_new _ _
  have x23 : W1.cell? ⟨W.heap.size, 23, none⟩ = some (.int .i64 m.wi.frm) := hbx.cell rfl
  have x24 : W1.cell? ⟨W.heap.size, 24, none⟩ = some (.int .u32 m.wi.ep) := hbx.cell rfl
  have x25 : W1.cell? ⟨W.heap.size, 25, none⟩ = some (.int .u32 m.wi.ver) := hbx.cell rfl
  have x26 : W1.cell? ⟨W.heap.size, 26, none⟩ = some (.int .u8 m.wi.grp) := hbx.cell rfl
  have HW1 := Lib.hid hW1
  have HB1 := Lib.hid hb1
  have HWY := Lib.hid (way_any m sa sc W1)
  have HCC := Lib.hid (block_cells hbx)
  have HSZ := Lib.hid (info_msg m sa sc)
  have HLT := Lib.hid (show W.heap.size < W1.heap.size by rw [hW1, World.size_alloc]; exact Nat.lt_succ_self _)
  have hc := may4_cases m
  clear hW1 hb1 hbx
  rcases hc with ⟨h1, he⟩ | ⟨h1, h2, he⟩ | ⟨h1, h2, h3, he⟩ | ⟨h1, h2, h3, h4, he⟩ | ⟨h1, h2, h3, h4, he⟩
  · have H0 := Lib.hid h1
    have HE := Lib.hid he
    clear h1 he
    go_enter Try.func70, Try.ntmps70
    unfold Ms.ag at *
    go_upto_region 1 with fail
    rw [← HW1.out]
    go_wp2_with ((with_reducible refine wpList_load_cs rfl 38 (.tmp 1) rfl ⟨W.heap.size, 0, none⟩ rfl (m.cs sa sc).toList _ HCC.out Try.underlying38 rfl HSZ.out ?_); rw [Array.toArray_toList])
    refine (HWY.out).mono ?_
    rintro e w ⟨rfl, hb⟩
    have HB := Lib.hid (HB1.out.trans (hb.mono HB1.out.size))
    have x23w := (hb.cell (by simp only; exact HLT.out)).trans x23
    have x24w := (hb.cell (by simp only; exact HLT.out)).trans x24
    have x25w := (hb.cell (by simp only; exact HLT.out)).trans x25
    have x26w := (hb.cell (by simp only; exact HLT.out)).trans x26
    clear hb x23 x24 x25 x26
    rw [H0.out]
    go_wp2_with fail
    go_returns
    exact ⟨by rw [HE.out]; rfl, HB.out⟩
  · have H0 := Lib.hid h1
    have H1 := Lib.hid h2
    have HE := Lib.hid he
    clear h1 h2 he
    go_enter Try.func70, Try.ntmps70
    unfold Ms.ag at *
    go_upto_region 1 with fail
    rw [← HW1.out]
    go_wp2_with ((with_reducible refine wpList_load_cs rfl 38 (.tmp 1) rfl ⟨W.heap.size, 0, none⟩ rfl (m.cs sa sc).toList _ HCC.out Try.underlying38 rfl HSZ.out ?_); rw [Array.toArray_toList])
    refine (HWY.out).mono ?_
    rintro e w ⟨rfl, hb⟩
    have HB := Lib.hid (HB1.out.trans (hb.mono HB1.out.size))
    have x23w := (hb.cell (by simp only; exact HLT.out)).trans x23
    have x24w := (hb.cell (by simp only; exact HLT.out)).trans x24
    have x25w := (hb.cell (by simp only; exact HLT.out)).trans x25
    have x26w := (hb.cell (by simp only; exact HLT.out)).trans x26
    clear hb x23 x24 x25 x26
    rw [H0.out]
    go_wp2_with fail
    refine (mrtr_any _ _).mono ?_
    rintro e w ⟨rfl, rfl⟩
    rw [H1.out]
    go_wp2_with fail
    go_returns
    exact ⟨by rw [HE.out]; rfl, HB.out⟩
  · have H0 := Lib.hid h1
    have H1 := Lib.hid h2
    have d3 : decide (0 < m.wi.ep) = false := decide_eq_false h3
    have HE := Lib.hid he
    clear h1 h2 he
    go_enter Try.func70, Try.ntmps70
    unfold Ms.ag at *
    go_upto_region 1 with fail
    rw [← HW1.out]
    go_wp2_with ((with_reducible refine wpList_load_cs rfl 38 (.tmp 1) rfl ⟨W.heap.size, 0, none⟩ rfl (m.cs sa sc).toList _ HCC.out Try.underlying38 rfl HSZ.out ?_); rw [Array.toArray_toList])
    refine (HWY.out).mono ?_
    rintro e w ⟨rfl, hb⟩
    have HB := Lib.hid (HB1.out.trans (hb.mono HB1.out.size))
    have x23w := (hb.cell (by simp only; exact HLT.out)).trans x23
    have x24w := (hb.cell (by simp only; exact HLT.out)).trans x24
    have x25w := (hb.cell (by simp only; exact HLT.out)).trans x25
    have x26w := (hb.cell (by simp only; exact HLT.out)).trans x26
    clear hb x23 x24 x25 x26
    rw [H0.out]
    go_wp2_with fail
    refine (mrtr_any _ _).mono ?_
    rintro e w ⟨rfl, rfl⟩
    rw [H1.out]
    go_wp2_with fail
    go_returns
    exact ⟨by rw [HE.out]; rfl, HB.out⟩
  · have H0 := Lib.hid h1
    have H1 := Lib.hid h2
    have d3 : decide (0 < m.wi.ep) = true := decide_eq_true h3
    have d4 : decide (0 < m.wi.ver) = false := decide_eq_false h4
    have HE := Lib.hid he
    clear h1 h2 he
    go_enter Try.func70, Try.ntmps70
    unfold Ms.ag at *
    go_upto_region 1 with fail
    rw [← HW1.out]
    go_wp2_with ((with_reducible refine wpList_load_cs rfl 38 (.tmp 1) rfl ⟨W.heap.size, 0, none⟩ rfl (m.cs sa sc).toList _ HCC.out Try.underlying38 rfl HSZ.out ?_); rw [Array.toArray_toList])
    refine (HWY.out).mono ?_
    rintro e w ⟨rfl, hb⟩
    have HB := Lib.hid (HB1.out.trans (hb.mono HB1.out.size))
    have x23w := (hb.cell (by simp only; exact HLT.out)).trans x23
    have x24w := (hb.cell (by simp only; exact HLT.out)).trans x24
    have x25w := (hb.cell (by simp only; exact HLT.out)).trans x25
    have x26w := (hb.cell (by simp only; exact HLT.out)).trans x26
    clear hb x23 x24 x25 x26
    rw [H0.out]
    go_wp2_with fail
    refine (mrtr_any _ _).mono ?_
    rintro e w ⟨rfl, rfl⟩
    rw [H1.out]
    go_wp2_with fail
    go_returns
    exact ⟨by rw [HE.out]; rfl, HB.out⟩
  · have H0 := Lib.hid h1
    have H1 := Lib.hid h2
    have d3 : decide (0 < m.wi.ep) = true := decide_eq_true h3
    have d4 : decide (0 < m.wi.ver) = true := decide_eq_true h4
    have HE := Lib.hid he
    clear h1 h2 he
    go_enter Try.func70, Try.ntmps70
    unfold Ms.ag at *
    go_upto_region 1 with fail
    rw [← HW1.out]
    go_wp2_with ((with_reducible refine wpList_load_cs rfl 38 (.tmp 1) rfl ⟨W.heap.size, 0, none⟩ rfl (m.cs sa sc).toList _ HCC.out Try.underlying38 rfl HSZ.out ?_); rw [Array.toArray_toList])
    refine (HWY.out).mono ?_
    rintro e w ⟨rfl, hb⟩
    have HB := Lib.hid (HB1.out.trans (hb.mono HB1.out.size))
    have x23w := (hb.cell (by simp only; exact HLT.out)).trans x23
    have x24w := (hb.cell (by simp only; exact HLT.out)).trans x24
    have x25w := (hb.cell (by simp only; exact HLT.out)).trans x25
    have x26w := (hb.cell (by simp only; exact HLT.out)).trans x26
    clear hb x23 x24 x25 x26
    rw [H0.out]
    go_wp2_with fail
    refine (mrtr_any _ _).mono ?_
    rintro e w ⟨rfl, rfl⟩
    rw [H1.out]
    go_wp2_with fail
    go_returns
    exact ⟨by rw [HE.out]; rfl, HB.out⟩

def Ak.cs (a : Ak) : Array Value := #[.int .i64 a.frm, .int .u32 a.ep, .int .i64 a.dst, .int .u32 a.lif, .int .u32 a.ver]
set_option maxHeartbeats 3200000 in
theorem may5_any (m : Ms) (sa : Option Addr) (sc : Nat) (W : World) : Calls Try.prog 77 #[m.ag sa sc] W fun e W' => e = .returned (.bool (m.way && m.ak.may)) ∧ Below W.heap.size W W' := by
  obtain ⟨W1, hW1⟩ : ∃ W1, W1 = W.alloc (.cells (m.cs sa sc) 38) := ⟨_, rfl⟩
  obtain ⟨W2, hW2⟩ : ∃ W2, W2 = W1.alloc (.cells (m.ak.cs) 36) := ⟨_, rfl⟩
  have hb1 : Below W.heap.size W W1 := by rw [hW1]; exact (Below.refl _ _).alloc (Nat.le_refl _) _
  have hb2 : Below W.heap.size W W2 := by rw [hW2]; exact hb1.alloc hb1.size _
  have hbx1 : BoxM W.heap.size m sa sc W1 := by rw [hW1]; exact heap_alloc_new _ _
  have hbx : BoxM W.heap.size m sa sc W2 := hbx1.later (by rw [hW2]; exact (Below.refl _ _).alloc (Nat.le_refl _) _)
  have hs1 : W1.heap.size = W.heap.size + 1 := by rw [hW1, World.size_alloc]
  have hby : W2.heap[W1.heap.size]? = some (.cells m.ak.cs 36 (0, 0)) := by rw [hW2]; exact heap_alloc_new _ _
  have x27 : W1.cell? ⟨W.heap.size, 27, none⟩ = some (.int .i64 m.ak.frm) := hbx1.cell rfl
  have x28 : W1.cell? ⟨W.heap.size, 28, none⟩ = some (.int .u32 m.ak.ep) := hbx1.cell rfl
  have x29 : W1.cell? ⟨W.heap.size, 29, none⟩ = some (.int .i64 m.ak.dst) := hbx1.cell rfl
  have x30 : W1.cell? ⟨W.heap.size, 30, none⟩ = some (.int .u32 m.ak.lif) := hbx1.cell rfl
  have x31 : W1.cell? ⟨W.heap.size, 31, none⟩ = some (.int .u32 m.ak.ver) := hbx1.cell rfl
  have y0 : W2.cell? ⟨W1.heap.size, 0, none⟩ = some (.int .i64 m.ak.frm) := cell_of_row _ _ 0 _ _ _ hby
  have y1 : W2.cell? ⟨W1.heap.size, 1, none⟩ = some (.int .u32 m.ak.ep) := cell_of_row _ _ 1 _ _ _ hby
  have y2 : W2.cell? ⟨W1.heap.size, 2, none⟩ = some (.int .i64 m.ak.dst) := cell_of_row _ _ 2 _ _ _ hby
  have y3 : W2.cell? ⟨W1.heap.size, 3, none⟩ = some (.int .u32 m.ak.lif) := cell_of_row _ _ 3 _ _ _ hby
  have y4 : W2.cell? ⟨W1.heap.size, 4, none⟩ = some (.int .u32 m.ak.ver) := cell_of_row _ _ 4 _ _ _ hby
  have HW1 := Lib.hid hW1
  have HW2 := Lib.hid hW2
  have HB2 := Lib.hid hb2
  have HWY := Lib.hid (way_any m sa sc W2)
  have HCC := Lib.hid (block_cells hbx)
  have HSZ := Lib.hid (info_msg m sa sc)
  have HLT := Lib.hid (show W1.heap.size < W2.heap.size by rw [hW2, World.size_alloc]; exact Nat.lt_succ_self _)
  have hc := may5_cases m
  clear hW1 hW2 hb1 hb2 hbx hbx1 hby hs1
  rcases hc with ⟨h1, he⟩ | ⟨h1, h2, he⟩ | ⟨h1, h2, h3, he⟩ | ⟨h1, h2, h3, h4, he⟩ | ⟨h1, h2, h3, h4, h5, he⟩ | ⟨h1, h2, h3, h4, h5, h6, he⟩ | ⟨h1, h2, h3, h4, h5, h6, he⟩
  · have H0 := Lib.hid h1
    have HE := Lib.hid he
    clear h1 he
    go_enter Try.func77, Try.ntmps77
    unfold Ms.ag at *
    go_upto_region 1 with fail
    rw [← HW1.out]
    unfold Ak.cs at *
    go_upto_region 2 with fail
    rw [← HW2.out]
    clear x27 x28 x29 x30 x31
    go_wp2_with ((with_reducible refine wpList_load_cs rfl 38 (.tmp 1) rfl ⟨W.heap.size, 0, none⟩ rfl (m.cs sa sc).toList _ HCC.out Try.underlying38 rfl HSZ.out ?_); rw [Array.toArray_toList])
    refine (HWY.out).mono ?_
    rintro e w ⟨rfl, hb⟩
    have HB := Lib.hid (HB2.out.trans (hb.mono HB2.out.size))
    have y0w := (hb.cell (by simp only; exact HLT.out)).trans y0
    have y1w := (hb.cell (by simp only; exact HLT.out)).trans y1
    have y2w := (hb.cell (by simp only; exact HLT.out)).trans y2
    have y3w := (hb.cell (by simp only; exact HLT.out)).trans y3
    have y4w := (hb.cell (by simp only; exact HLT.out)).trans y4
    clear hb y0 y1 y2 y3 y4
    rw [H0.out]
    go_wp2_with fail
    go_returns
    exact ⟨by rw [HE.out]; rfl, HB.out⟩
  · have H0 := Lib.hid h1
    have H1 := Lib.hid h2
    have HE := Lib.hid he
    clear h1 h2 he
    go_enter Try.func77, Try.ntmps77
    unfold Ms.ag at *
    go_upto_region 1 with fail
    rw [← HW1.out]
    unfold Ak.cs at *
    go_upto_region 2 with fail
    rw [← HW2.out]
    clear x27 x28 x29 x30 x31
    go_wp2_with ((with_reducible refine wpList_load_cs rfl 38 (.tmp 1) rfl ⟨W.heap.size, 0, none⟩ rfl (m.cs sa sc).toList _ HCC.out Try.underlying38 rfl HSZ.out ?_); rw [Array.toArray_toList])
    refine (HWY.out).mono ?_
    rintro e w ⟨rfl, hb⟩
    have HB := Lib.hid (HB2.out.trans (hb.mono HB2.out.size))
    have y0w := (hb.cell (by simp only; exact HLT.out)).trans y0
    have y1w := (hb.cell (by simp only; exact HLT.out)).trans y1
    have y2w := (hb.cell (by simp only; exact HLT.out)).trans y2
    have y3w := (hb.cell (by simp only; exact HLT.out)).trans y3
    have y4w := (hb.cell (by simp only; exact HLT.out)).trans y4
    clear hb y0 y1 y2 y3 y4
    rw [H0.out]
    go_wp2_with fail
    refine (mrtr_any _ _).mono ?_
    rintro e w ⟨rfl, rfl⟩
    rw [H1.out]
    go_wp2_with fail
    go_returns
    exact ⟨by rw [HE.out]; rfl, HB.out⟩
  · have H0 := Lib.hid h1
    have H1 := Lib.hid h2
    have H2 := Lib.hid h3
    have HE := Lib.hid he
    clear h1 h2 h3 he
    go_enter Try.func77, Try.ntmps77
    unfold Ms.ag at *
    go_upto_region 1 with fail
    rw [← HW1.out]
    unfold Ak.cs at *
    go_upto_region 2 with fail
    rw [← HW2.out]
    clear x27 x28 x29 x30 x31
    go_wp2_with ((with_reducible refine wpList_load_cs rfl 38 (.tmp 1) rfl ⟨W.heap.size, 0, none⟩ rfl (m.cs sa sc).toList _ HCC.out Try.underlying38 rfl HSZ.out ?_); rw [Array.toArray_toList])
    refine (HWY.out).mono ?_
    rintro e w ⟨rfl, hb⟩
    have HB := Lib.hid (HB2.out.trans (hb.mono HB2.out.size))
    have y0w := (hb.cell (by simp only; exact HLT.out)).trans y0
    have y1w := (hb.cell (by simp only; exact HLT.out)).trans y1
    have y2w := (hb.cell (by simp only; exact HLT.out)).trans y2
    have y3w := (hb.cell (by simp only; exact HLT.out)).trans y3
    have y4w := (hb.cell (by simp only; exact HLT.out)).trans y4
    clear hb y0 y1 y2 y3 y4
    rw [H0.out]
    go_wp2_with fail
    refine (mrtr_any _ _).mono ?_
    rintro e w ⟨rfl, rfl⟩
    rw [H1.out]
    go_wp2_with fail
    refine (mrtr_any _ _).mono ?_
    rintro e w ⟨rfl, rfl⟩
    rw [H2.out]
    go_wp2_with fail
    go_returns
    exact ⟨by rw [HE.out]; rfl, HB.out⟩
  · have H0 := Lib.hid h1
    have H1 := Lib.hid h2
    have H2 := Lib.hid h3
    have d4 : decide (0 < m.ak.ep) = false := decide_eq_false h4
    have HE := Lib.hid he
    clear h1 h2 h3 he
    go_enter Try.func77, Try.ntmps77
    unfold Ms.ag at *
    go_upto_region 1 with fail
    rw [← HW1.out]
    unfold Ak.cs at *
    go_upto_region 2 with fail
    rw [← HW2.out]
    clear x27 x28 x29 x30 x31
    go_wp2_with ((with_reducible refine wpList_load_cs rfl 38 (.tmp 1) rfl ⟨W.heap.size, 0, none⟩ rfl (m.cs sa sc).toList _ HCC.out Try.underlying38 rfl HSZ.out ?_); rw [Array.toArray_toList])
    refine (HWY.out).mono ?_
    rintro e w ⟨rfl, hb⟩
    have HB := Lib.hid (HB2.out.trans (hb.mono HB2.out.size))
    have y0w := (hb.cell (by simp only; exact HLT.out)).trans y0
    have y1w := (hb.cell (by simp only; exact HLT.out)).trans y1
    have y2w := (hb.cell (by simp only; exact HLT.out)).trans y2
    have y3w := (hb.cell (by simp only; exact HLT.out)).trans y3
    have y4w := (hb.cell (by simp only; exact HLT.out)).trans y4
    clear hb y0 y1 y2 y3 y4
    rw [H0.out]
    go_wp2_with fail
    refine (mrtr_any _ _).mono ?_
    rintro e w ⟨rfl, rfl⟩
    rw [H1.out]
    go_wp2_with fail
    refine (mrtr_any _ _).mono ?_
    rintro e w ⟨rfl, rfl⟩
    rw [H2.out]
    go_wp2_with fail
    go_returns
    exact ⟨by rw [HE.out]; rfl, HB.out⟩
  · have H0 := Lib.hid h1
    have H1 := Lib.hid h2
    have H2 := Lib.hid h3
    have d4 : decide (0 < m.ak.ep) = true := decide_eq_true h4
    have d5 : decide (0 < m.ak.lif) = false := decide_eq_false h5
    have HE := Lib.hid he
    clear h1 h2 h3 he
    go_enter Try.func77, Try.ntmps77
    unfold Ms.ag at *
    go_upto_region 1 with fail
    rw [← HW1.out]
    unfold Ak.cs at *
    go_upto_region 2 with fail
    rw [← HW2.out]
    clear x27 x28 x29 x30 x31
    go_wp2_with ((with_reducible refine wpList_load_cs rfl 38 (.tmp 1) rfl ⟨W.heap.size, 0, none⟩ rfl (m.cs sa sc).toList _ HCC.out Try.underlying38 rfl HSZ.out ?_); rw [Array.toArray_toList])
    refine (HWY.out).mono ?_
    rintro e w ⟨rfl, hb⟩
    have HB := Lib.hid (HB2.out.trans (hb.mono HB2.out.size))
    have y0w := (hb.cell (by simp only; exact HLT.out)).trans y0
    have y1w := (hb.cell (by simp only; exact HLT.out)).trans y1
    have y2w := (hb.cell (by simp only; exact HLT.out)).trans y2
    have y3w := (hb.cell (by simp only; exact HLT.out)).trans y3
    have y4w := (hb.cell (by simp only; exact HLT.out)).trans y4
    clear hb y0 y1 y2 y3 y4
    rw [H0.out]
    go_wp2_with fail
    refine (mrtr_any _ _).mono ?_
    rintro e w ⟨rfl, rfl⟩
    rw [H1.out]
    go_wp2_with fail
    refine (mrtr_any _ _).mono ?_
    rintro e w ⟨rfl, rfl⟩
    rw [H2.out]
    go_wp2_with fail
    go_returns
    exact ⟨by rw [HE.out]; rfl, HB.out⟩
  · have H0 := Lib.hid h1
    have H1 := Lib.hid h2
    have H2 := Lib.hid h3
    have d4 : decide (0 < m.ak.ep) = true := decide_eq_true h4
    have d5 : decide (0 < m.ak.lif) = true := decide_eq_true h5
    have d6 : decide (0 < m.ak.ver) = false := decide_eq_false h6
    have HE := Lib.hid he
    clear h1 h2 h3 he
    go_enter Try.func77, Try.ntmps77
    unfold Ms.ag at *
    go_upto_region 1 with fail
    rw [← HW1.out]
    unfold Ak.cs at *
    go_upto_region 2 with fail
    rw [← HW2.out]
    clear x27 x28 x29 x30 x31
    go_wp2_with ((with_reducible refine wpList_load_cs rfl 38 (.tmp 1) rfl ⟨W.heap.size, 0, none⟩ rfl (m.cs sa sc).toList _ HCC.out Try.underlying38 rfl HSZ.out ?_); rw [Array.toArray_toList])
    refine (HWY.out).mono ?_
    rintro e w ⟨rfl, hb⟩
    have HB := Lib.hid (HB2.out.trans (hb.mono HB2.out.size))
    have y0w := (hb.cell (by simp only; exact HLT.out)).trans y0
    have y1w := (hb.cell (by simp only; exact HLT.out)).trans y1
    have y2w := (hb.cell (by simp only; exact HLT.out)).trans y2
    have y3w := (hb.cell (by simp only; exact HLT.out)).trans y3
    have y4w := (hb.cell (by simp only; exact HLT.out)).trans y4
    clear hb y0 y1 y2 y3 y4
    rw [H0.out]
    go_wp2_with fail
    refine (mrtr_any _ _).mono ?_
    rintro e w ⟨rfl, rfl⟩
    rw [H1.out]
    go_wp2_with fail
    refine (mrtr_any _ _).mono ?_
    rintro e w ⟨rfl, rfl⟩
    rw [H2.out]
    go_wp2_with fail
    go_returns
    exact ⟨by rw [HE.out]; rfl, HB.out⟩
  · have H0 := Lib.hid h1
    have H1 := Lib.hid h2
    have H2 := Lib.hid h3
    have d4 : decide (0 < m.ak.ep) = true := decide_eq_true h4
    have d5 : decide (0 < m.ak.lif) = true := decide_eq_true h5
    have d6 : decide (0 < m.ak.ver) = true := decide_eq_true h6
    have HE := Lib.hid he
    clear h1 h2 h3 he
    go_enter Try.func77, Try.ntmps77
    unfold Ms.ag at *
    go_upto_region 1 with fail
    rw [← HW1.out]
    unfold Ak.cs at *
    go_upto_region 2 with fail
    rw [← HW2.out]
    clear x27 x28 x29 x30 x31
    go_wp2_with ((with_reducible refine wpList_load_cs rfl 38 (.tmp 1) rfl ⟨W.heap.size, 0, none⟩ rfl (m.cs sa sc).toList _ HCC.out Try.underlying38 rfl HSZ.out ?_); rw [Array.toArray_toList])
    refine (HWY.out).mono ?_
    rintro e w ⟨rfl, hb⟩
    have HB := Lib.hid (HB2.out.trans (hb.mono HB2.out.size))
    have y0w := (hb.cell (by simp only; exact HLT.out)).trans y0
    have y1w := (hb.cell (by simp only; exact HLT.out)).trans y1
    have y2w := (hb.cell (by simp only; exact HLT.out)).trans y2
    have y3w := (hb.cell (by simp only; exact HLT.out)).trans y3
    have y4w := (hb.cell (by simp only; exact HLT.out)).trans y4
    clear hb y0 y1 y2 y3 y4
    rw [H0.out]
    go_wp2_with fail
    refine (mrtr_any _ _).mono ?_
    rintro e w ⟨rfl, rfl⟩
    rw [H1.out]
    go_wp2_with fail
    refine (mrtr_any _ _).mono ?_
    rintro e w ⟨rfl, rfl⟩
    rw [H2.out]
    go_wp2_with fail
    go_returns
    exact ⟨by rw [HE.out]; rfl, HB.out⟩

end Go.Proofs.Ytickjmkkgcfkhaa
