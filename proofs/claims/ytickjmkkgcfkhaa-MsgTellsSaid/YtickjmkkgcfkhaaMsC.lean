/- Contracts of the message: may one of a kind be, and its bytes: the rows' functions for records, stamps, headers. (Printed by mkmsc.py.) -/
import Derived.Test.YtickjmkkgcfkhaaMsB
import Derived.Test.YtickjmkkgcfkhaaRecH
import Derived.Test.YtickjmkkgcfkhaaHdI
set_option linter.unusedSimpArgs false
set_option linter.unusedVariables false
set_option maxRecDepth 100000
set_option maxRecDepth 100000
namespace Go.Proofs.Ytickjmkkgcfkhaa
open Go.RowKit Go.ChangeShapes Go.WideShapes

set_option maxHeartbeats 1600000 in
theorem may1_any (m : Ms) (sa : Option Addr) (sc : Nat) (W : World) (hA : AdjsIn W sa m.rc.adjs) (hl : m.rc.adjs.length ≤ maxLen) : Calls Try.prog 53 #[m.ag sa sc] W fun e W' => e = .returned (.bool m.rc.chk) ∧ Below W.heap.size W W' := by
  obtain ⟨W1, hW1⟩ : ∃ W1, W1 = W.alloc (.cells (m.cs sa sc) 38) := ⟨_, rfl⟩
  have hb1 : Below W.heap.size W W1 := by rw [hW1]; exact (Below.refl _ _).alloc (Nat.le_refl _) _
  have hbx : BoxM W.heap.size m sa sc W1 := by rw [hW1]; exact heap_alloc_new _ _
  have x1 := hbx.cell (i := 1) rfl
  have x2 := hbx.cell (i := 2) rfl
  have x3 := hbx.cell (i := 3) rfl
  have x4 := hbx.cell (i := 4) rfl
  have x5 := hbx.cell (i := 5) rfl
  have x6 := hbx.cell (i := 6) rfl
  have HW1 := Lib.hid hW1
  have HB1 := Lib.hid hb1
  have HC := Lib.hid (check_any m.rc sa sc W1 (hA.later hb1) hl)
  have HE := Lib.hid (show (m.rc.err == 0) = m.rc.chk from by unfold Rc.err; cases m.rc.chk <;> rfl)
  clear hW1 hb1 hbx hA hl
  go_enter Try.func53, Try.ntmps53
  unfold Ms.ag Ms.cs Rc.ag Rc.cs at *
  go_wp2_with fail
  rw [← HW1.out]
  refine HC.out.mono ?_
  rintro e w ⟨rfl, hb⟩
  have HB := Lib.hid (HB1.out.trans (hb.mono HB1.out.size))
  clear hb HC
  go_wp2_with fail
  go_returns
  exact ⟨by rw [← HE.out]; rfl, HB.out⟩
set_option maxHeartbeats 1600000 in
theorem may2_any (m : Ms) (sa : Option Addr) (sc : Nat) (W : World) (hm : m.ok) : Calls Try.prog 59 #[m.ag sa sc] W fun e W' => e = .returned (.bool m.st.may) ∧ Below W.heap.size W W' := by
  obtain ⟨W1, hW1⟩ : ∃ W1, W1 = W.alloc (.cells (m.cs sa sc) 38) := ⟨_, rfl⟩
  have hb1 : Below W.heap.size W W1 := by rw [hW1]; exact (Below.refl _ _).alloc (Nat.le_refl _) _
  have hbx : BoxM W.heap.size m sa sc W1 := by rw [hW1]; exact heap_alloc_new _ _
  have x7 := hbx.cell (i := 7) rfl
  have x8 := hbx.cell (i := 8) rfl
  have x9 := hbx.cell (i := 9) rfl
  have HW1 := Lib.hid hW1
  have HB1 := Lib.hid hb1
  have HC := Lib.hid (encst_any m.st W1 hm.2.2.1)
  have HE := Lib.hid (show (m.st.encE == 0) = m.st.may from by unfold St.encE; cases m.st.may <;> rfl)
  clear hW1 hb1 hbx hm
  go_enter Try.func59, Try.ntmps59
  unfold Ms.ag Ms.cs St.ag St.cs at *
  go_wp2_with fail
  rw [← HW1.out]
  refine HC.out.mono ?_
  rintro e w ⟨rfl, hb⟩
  have HB := Lib.hid (HB1.out.trans (hb.mono HB1.out.size))
  clear hb HC
  go_wp2_with fail
  go_returns
  exact ⟨by rw [← HE.out]; rfl, HB.out⟩
set_option maxHeartbeats 1600000 in
theorem may3_any (m : Ms) (sa : Option Addr) (sc : Nat) (W : World) (hm : m.ok) : Calls Try.prog 64 #[m.ag sa sc] W fun e W' => e = .returned (.bool m.hd.chk) ∧ Below W.heap.size W W' := by
  obtain ⟨W1, hW1⟩ : ∃ W1, W1 = W.alloc (.cells (m.cs sa sc) 38) := ⟨_, rfl⟩
  have hb1 : Below W.heap.size W W1 := by rw [hW1]; exact (Below.refl _ _).alloc (Nat.le_refl _) _
  have hbx : BoxM W.heap.size m sa sc W1 := by rw [hW1]; exact heap_alloc_new _ _
  have x10 := hbx.cell (i := 10) rfl
  have x11 := hbx.cell (i := 11) rfl
  have x12 := hbx.cell (i := 12) rfl
  have x13 := hbx.cell (i := 13) rfl
  have x14 := hbx.cell (i := 14) rfl
  have x15 := hbx.cell (i := 15) rfl
  have x16 := hbx.cell (i := 16) rfl
  have x17 := hbx.cell (i := 17) rfl
  have x18 := hbx.cell (i := 18) rfl
  have x19 := hbx.cell (i := 19) rfl
  have x20 := hbx.cell (i := 20) rfl
  have HW1 := Lib.hid hW1
  have HB1 := Lib.hid hb1
  have HC := Lib.hid (hcheck_any m.hd W1 hm.2.2.2.1)
  have HE := Lib.hid (show (m.hd.err == 0) = m.hd.chk from by unfold Hd.err; cases m.hd.chk <;> rfl)
  clear hW1 hb1 hbx hm
  go_enter Try.func64, Try.ntmps64
  unfold Ms.ag Ms.cs Hd.ag Hd.cs at *
  go_wp2_with fail
  rw [← HW1.out]
  refine HC.out.mono ?_
  rintro e w ⟨rfl, hb⟩
  have HB := Lib.hid (HB1.out.trans (hb.mono HB1.out.size))
  clear hb HC
  go_wp2_with fail
  go_returns
  exact ⟨by rw [← HE.out]; rfl, HB.out⟩
set_option maxHeartbeats 1600000 in
theorem lay1_any (m : Ms) (sa : Option Addr) (sc : Nat) (W : World) (hA : AdjsIn W sa m.rc.adjs) (hl : m.rc.adjs.length ≤ maxLen) (hm : m.ok) : Calls Try.prog 55 #[m.ag sa sc] W fun e W' => e = .returned (.string m.rc.encS) ∧ Below W.heap.size W W' := by
  obtain ⟨W1, hW1⟩ : ∃ W1, W1 = W.alloc (.cells (m.cs sa sc) 38) := ⟨_, rfl⟩
  have hb1 : Below W.heap.size W W1 := by rw [hW1]; exact (Below.refl _ _).alloc (Nat.le_refl _) _
  have hbx : BoxM W.heap.size m sa sc W1 := by rw [hW1]; exact heap_alloc_new _ _
  have x1 := hbx.cell (i := 1) rfl
  have x2 := hbx.cell (i := 2) rfl
  have x3 := hbx.cell (i := 3) rfl
  have x4 := hbx.cell (i := 4) rfl
  have x5 := hbx.cell (i := 5) rfl
  have x6 := hbx.cell (i := 6) rfl
  have HW1 := Lib.hid hW1
  have HB1 := Lib.hid hb1
  have HC := Lib.hid (encode_any m.rc sa sc W1 (hA.later hb1) hl hm.2.1)
  have HE := Lib.hid (show True from trivial)
  clear hW1 hb1 hbx hm
  go_enter Try.func55, Try.ntmps55
  unfold Ms.ag Ms.cs Rc.ag Rc.cs at *
  go_wp2_with fail
  rw [← HW1.out]
  refine HC.out.mono ?_
  rintro e w ⟨rfl, hb⟩
  have HB := Lib.hid (HB1.out.trans (hb.mono HB1.out.size))
  clear hb HC
  go_wp2_with fail
  go_returns
  exact ⟨rfl, HB.out⟩
set_option maxHeartbeats 1600000 in
theorem lay2_any (m : Ms) (sa : Option Addr) (sc : Nat) (W : World) (hm : m.ok) : Calls Try.prog 61 #[m.ag sa sc] W fun e W' => e = .returned (.string m.st.encS) ∧ Below W.heap.size W W' := by
  obtain ⟨W1, hW1⟩ : ∃ W1, W1 = W.alloc (.cells (m.cs sa sc) 38) := ⟨_, rfl⟩
  have hb1 : Below W.heap.size W W1 := by rw [hW1]; exact (Below.refl _ _).alloc (Nat.le_refl _) _
  have hbx : BoxM W.heap.size m sa sc W1 := by rw [hW1]; exact heap_alloc_new _ _
  have x7 := hbx.cell (i := 7) rfl
  have x8 := hbx.cell (i := 8) rfl
  have x9 := hbx.cell (i := 9) rfl
  have HW1 := Lib.hid hW1
  have HB1 := Lib.hid hb1
  have HC := Lib.hid (encst_any m.st W1 hm.2.2.1)
  have HE := Lib.hid (show True from trivial)
  clear hW1 hb1 hbx hm
  go_enter Try.func61, Try.ntmps61
  unfold Ms.ag Ms.cs St.ag St.cs at *
  go_wp2_with fail
  rw [← HW1.out]
  refine HC.out.mono ?_
  rintro e w ⟨rfl, hb⟩
  have HB := Lib.hid (HB1.out.trans (hb.mono HB1.out.size))
  clear hb HC
  go_wp2_with fail
  go_returns
  exact ⟨rfl, HB.out⟩
set_option maxHeartbeats 1600000 in
theorem lay3_any (m : Ms) (sa : Option Addr) (sc : Nat) (W : World) (hm : m.ok) : Calls Try.prog 66 #[m.ag sa sc] W fun e W' => e = .returned (.string m.hd.encS) ∧ Below W.heap.size W W' := by
  obtain ⟨W1, hW1⟩ : ∃ W1, W1 = W.alloc (.cells (m.cs sa sc) 38) := ⟨_, rfl⟩
  have hb1 : Below W.heap.size W W1 := by rw [hW1]; exact (Below.refl _ _).alloc (Nat.le_refl _) _
  have hbx : BoxM W.heap.size m sa sc W1 := by rw [hW1]; exact heap_alloc_new _ _
  have x10 := hbx.cell (i := 10) rfl
  have x11 := hbx.cell (i := 11) rfl
  have x12 := hbx.cell (i := 12) rfl
  have x13 := hbx.cell (i := 13) rfl
  have x14 := hbx.cell (i := 14) rfl
  have x15 := hbx.cell (i := 15) rfl
  have x16 := hbx.cell (i := 16) rfl
  have x17 := hbx.cell (i := 17) rfl
  have x18 := hbx.cell (i := 18) rfl
  have x19 := hbx.cell (i := 19) rfl
  have x20 := hbx.cell (i := 20) rfl
  have HW1 := Lib.hid hW1
  have HB1 := Lib.hid hb1
  have HC := Lib.hid (hencode_any m.hd W1 hm.2.2.2.1)
  have HE := Lib.hid (show True from trivial)
  clear hW1 hb1 hbx hm
  go_enter Try.func66, Try.ntmps66
  unfold Ms.ag Ms.cs Hd.ag Hd.cs at *
  go_wp2_with fail
  rw [← HW1.out]
  refine HC.out.mono ?_
  rintro e w ⟨rfl, hb⟩
  have HB := Lib.hid (HB1.out.trans (hb.mono HB1.out.size))
  clear hb HC
  go_wp2_with fail
  go_returns
  exact ⟨rfl, HB.out⟩

end Go.Proofs.Ytickjmkkgcfkhaa
