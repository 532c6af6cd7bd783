/- Contract of the reference's Same, of one message twice. (Printed by mkmsrd.py.) -/
import Derived.Test.YtickjmkkgcfkhaaGreatMsG
import Derived.Test.YtickjmkkgcfkhaaGreatRecD
import Derived.Test.YtickjmkkgcfkhaaGreatHdRG1
set_option linter.unusedSimpArgs false
set_option linter.unusedVariables false
set_option maxRecDepth 100000
set_option maxRecDepth 100000
namespace Go.Proofs.YtickjmkkgcfkhaaGreat
open Go.RowKit Go.ChangeShapes Go.WideShapes

set_option maxHeartbeats 6400000 in
theorem rmsame_any (m : Ms) (sa : Option Addr) (sc : Nat) (ta : Option Addr) (tc : Nat) (W : World) (hm : m.ok) (hA : AdjsIn W sa m.rc.adjs) (hB : AdjsIn W ta m.rc.adjs) (hl : m.rc.adjs.length ≤ maxLen) :
    Calls Tryz.prog 6 #[m.ag sa sc, m.ag ta tc] W fun e W' => e = .returned (.bool true) ∧ Below W.heap.size W W' := by
  obtain ⟨W1, hW1⟩ : ∃ W1, W1 = (W.alloc (.cells (m.cs sa sc) 38)).alloc (.cells (m.cs ta tc) 38) := ⟨_, rfl⟩
  have hb1 : Below W.heap.size W W1 := by rw [hW1]; exact ((Below.refl _ _).alloc (Nat.le_refl _) _).alloc (by rw [World.size_alloc]; omega) _
  have hx1 : BoxM W.heap.size m sa sc W1 := by rw [hW1]; exact heap_alloc2_old _ _ _
  have hx2 : BoxM (W.heap.size + 1) m ta tc W1 := by rw [hW1]; exact heap_alloc2_new _ _ _
  have HX1 := Lib.hid hx1
  have HX2 := Lib.hid hx2
  have x0 : W1.cell? ⟨W.heap.size, 0, none⟩ = some (.int .i64 m.kd) := hx1.cell rfl
  have y0 : W1.cell? ⟨W.heap.size + 1, 0, none⟩ = some (.int .i64 m.kd) := hx2.cell rfl
  have x1 : W1.cell? ⟨W.heap.size, 1, none⟩ = some (.int .i64 m.rc.org) := hx1.cell rfl
  have y1 : W1.cell? ⟨W.heap.size + 1, 1, none⟩ = some (.int .i64 m.rc.org) := hx2.cell rfl
  have x2 : W1.cell? ⟨W.heap.size, 2, none⟩ = some (.int .u32 m.rc.ep) := hx1.cell rfl
  have y2 : W1.cell? ⟨W.heap.size + 1, 2, none⟩ = some (.int .u32 m.rc.ep) := hx2.cell rfl
  have x3 : W1.cell? ⟨W.heap.size, 3, none⟩ = some (.int .u32 m.rc.sq) := hx1.cell rfl
  have y3 : W1.cell? ⟨W.heap.size + 1, 3, none⟩ = some (.int .u32 m.rc.sq) := hx2.cell rfl
  have x4 : W1.cell? ⟨W.heap.size, 4, none⟩ = some (.int .i64 m.rc.clm) := hx1.cell rfl
  have y4 : W1.cell? ⟨W.heap.size + 1, 4, none⟩ = some (.int .i64 m.rc.clm) := hx2.cell rfl
  have x5 : W1.cell? ⟨W.heap.size, 5, none⟩ = some (.bool m.rc.ing) := hx1.cell rfl
  have y5 : W1.cell? ⟨W.heap.size + 1, 5, none⟩ = some (.bool m.rc.ing) := hx2.cell rfl
  have x6 : W1.cell? ⟨W.heap.size, 6, none⟩ = some (.slice sa m.rc.adjs.length sc) := hx1.cell rfl
  have y6 : W1.cell? ⟨W.heap.size + 1, 6, none⟩ = some (.slice ta m.rc.adjs.length tc) := hx2.cell rfl
  have HS := Lib.hid (show Calls Tryz.prog 19 #[.agg (m.rc.cs sa sc), .agg (m.rc.cs ta tc)] W1 fun e W' => e = .returned (.bool true) ∧ Below W1.heap.size W1 W' from by
    have h := rsame_any m.rc m.rc sa sc ta tc W1 (hA.later hb1) (hB.later hb1) hl hl
    rw [show m.rc.sm m.rc = true from decide_eq_true rfl] at h
    exact h)
  have HQ := Lib.hid (fun w => show (Op.equalIn 10000 32 (.agg m.hd.cs) (.agg m.hd.cs)).run Tryz.prog w = .ok true w from by
    have h := eq_hd m.hd m.hd hm.2.2.2.1 hm.2.2.2.1 w
    rw [decide_eq_true rfl] at h
    exact h)
  have HW1 := Lib.hid hW1
  have HB1 := Lib.hid hb1
  clear hW1 hb1 hx1 hx2 hm hA hB hl
  go_enter Tryz.func6, Tryz.ntmps6
  unfold Ms.ag at *
  unfold Rc.cs at *
  go_upto_region 1 with fail
  rw [← HW1.out]
  go_wp2_with fail
  refine HS.out.mono ?_
  rintro e V ⟨rfl, hb⟩
  have HB := Lib.hid (HB1.out.trans (hb.mono HB1.out.size))
  have HY1 := Lib.hid (HX1.out.later hb)
  have HY2 := Lib.hid (HX2.out.later hb)
  have heq := HQ.out
  unfold Hd.cs at heq
  clear hb x0 y0 x1 y1 x2 y2 x3 y3 x4 y4 x5 y5 x6 y6
  have vx7 : V.cell? ⟨W.heap.size, 7, none⟩ = some (.int .i64 m.st.org) := HY1.out.cell rfl
  have vy7 : V.cell? ⟨W.heap.size + 1, 7, none⟩ = some (.int .i64 m.st.org) := HY2.out.cell rfl
  have vx8 : V.cell? ⟨W.heap.size, 8, none⟩ = some (.int .u32 m.st.ep) := HY1.out.cell rfl
  have vy8 : V.cell? ⟨W.heap.size + 1, 8, none⟩ = some (.int .u32 m.st.ep) := HY2.out.cell rfl
  have vx9 : V.cell? ⟨W.heap.size, 9, none⟩ = some (.int .u32 m.st.sq) := HY1.out.cell rfl
  have vy9 : V.cell? ⟨W.heap.size + 1, 9, none⟩ = some (.int .u32 m.st.sq) := HY2.out.cell rfl
  have vx10 : V.cell? ⟨W.heap.size, 10, none⟩ = some (.int .i64 m.hd.wid) := HY1.out.cell rfl
  have vy10 : V.cell? ⟨W.heap.size + 1, 10, none⟩ = some (.int .i64 m.hd.wid) := HY2.out.cell rfl
  have vx11 : V.cell? ⟨W.heap.size, 11, none⟩ = some (.int .i64 m.hd.set) := HY1.out.cell rfl
  have vy11 : V.cell? ⟨W.heap.size + 1, 11, none⟩ = some (.int .i64 m.hd.set) := HY2.out.cell rfl
  have vx12 : V.cell? ⟨W.heap.size, 12, none⟩ = some (.int .u32 m.hd.ent) := HY1.out.cell rfl
  have vy12 : V.cell? ⟨W.heap.size + 1, 12, none⟩ = some (.int .u32 m.hd.ent) := HY2.out.cell rfl
  have vx13 : V.cell? ⟨W.heap.size, 13, none⟩ = some (.int .i64 m.hd.hops) := HY1.out.cell rfl
  have vy13 : V.cell? ⟨W.heap.size + 1, 13, none⟩ = some (.int .i64 m.hd.hops) := HY2.out.cell rfl
  have vx14 : V.cell? ⟨W.heap.size, 14, none⟩ = some (.int .i64 m.hd.src) := HY1.out.cell rfl
  have vy14 : V.cell? ⟨W.heap.size + 1, 14, none⟩ = some (.int .i64 m.hd.src) := HY2.out.cell rfl
  have vx15 : V.cell? ⟨W.heap.size, 15, none⟩ = some (.int .i64 m.hd.grp) := HY1.out.cell rfl
  have vy15 : V.cell? ⟨W.heap.size + 1, 15, none⟩ = some (.int .i64 m.hd.grp) := HY2.out.cell rfl
  have vx16 : V.cell? ⟨W.heap.size, 16, none⟩ = some (.int .u32 m.hd.id) := HY1.out.cell rfl
  have vy16 : V.cell? ⟨W.heap.size + 1, 16, none⟩ = some (.int .u32 m.hd.id) := HY2.out.cell rfl
  have vx17 : V.cell? ⟨W.heap.size, 17, none⟩ = some (.int .u64 m.hd.bits.a) := HY1.out.cell rfl
  have vy17 : V.cell? ⟨W.heap.size + 1, 17, none⟩ = some (.int .u64 m.hd.bits.a) := HY2.out.cell rfl
  have vx18 : V.cell? ⟨W.heap.size, 18, none⟩ = some (.int .u64 m.hd.bits.b) := HY1.out.cell rfl
  have vy18 : V.cell? ⟨W.heap.size + 1, 18, none⟩ = some (.int .u64 m.hd.bits.b) := HY2.out.cell rfl
  have vx19 : V.cell? ⟨W.heap.size, 19, none⟩ = some (.int .u64 m.hd.bits.c) := HY1.out.cell rfl
  have vy19 : V.cell? ⟨W.heap.size + 1, 19, none⟩ = some (.int .u64 m.hd.bits.c) := HY2.out.cell rfl
  have vx20 : V.cell? ⟨W.heap.size, 20, none⟩ = some (.int .u64 m.hd.bits.d) := HY1.out.cell rfl
  have vy20 : V.cell? ⟨W.heap.size + 1, 20, none⟩ = some (.int .u64 m.hd.bits.d) := HY2.out.cell rfl
  have vx21 : V.cell? ⟨W.heap.size, 21, none⟩ = some (.int .i64 m.dst) := HY1.out.cell rfl
  have vy21 : V.cell? ⟨W.heap.size + 1, 21, none⟩ = some (.int .i64 m.dst) := HY2.out.cell rfl
  have vx22 : V.cell? ⟨W.heap.size, 22, none⟩ = some (.int .i64 m.hops) := HY1.out.cell rfl
  have vy22 : V.cell? ⟨W.heap.size + 1, 22, none⟩ = some (.int .i64 m.hops) := HY2.out.cell rfl
  have vx23 : V.cell? ⟨W.heap.size, 23, none⟩ = some (.int .i64 m.wi.frm) := HY1.out.cell rfl
  have vy23 : V.cell? ⟨W.heap.size + 1, 23, none⟩ = some (.int .i64 m.wi.frm) := HY2.out.cell rfl
  have vx24 : V.cell? ⟨W.heap.size, 24, none⟩ = some (.int .u32 m.wi.ep) := HY1.out.cell rfl
  have vy24 : V.cell? ⟨W.heap.size + 1, 24, none⟩ = some (.int .u32 m.wi.ep) := HY2.out.cell rfl
  have vx25 : V.cell? ⟨W.heap.size, 25, none⟩ = some (.int .u32 m.wi.ver) := HY1.out.cell rfl
  have vy25 : V.cell? ⟨W.heap.size + 1, 25, none⟩ = some (.int .u32 m.wi.ver) := HY2.out.cell rfl
  have vx26 : V.cell? ⟨W.heap.size, 26, none⟩ = some (.int .u8 m.wi.grp) := HY1.out.cell rfl
  have vy26 : V.cell? ⟨W.heap.size + 1, 26, none⟩ = some (.int .u8 m.wi.grp) := HY2.out.cell rfl
  have vx27 : V.cell? ⟨W.heap.size, 27, none⟩ = some (.int .i64 m.ak.frm) := HY1.out.cell rfl
  have vy27 : V.cell? ⟨W.heap.size + 1, 27, none⟩ = some (.int .i64 m.ak.frm) := HY2.out.cell rfl
  have vx28 : V.cell? ⟨W.heap.size, 28, none⟩ = some (.int .u32 m.ak.ep) := HY1.out.cell rfl
  have vy28 : V.cell? ⟨W.heap.size + 1, 28, none⟩ = some (.int .u32 m.ak.ep) := HY2.out.cell rfl
  have vx29 : V.cell? ⟨W.heap.size, 29, none⟩ = some (.int .i64 m.ak.dst) := HY1.out.cell rfl
  have vy29 : V.cell? ⟨W.heap.size + 1, 29, none⟩ = some (.int .i64 m.ak.dst) := HY2.out.cell rfl
  have vx30 : V.cell? ⟨W.heap.size, 30, none⟩ = some (.int .u32 m.ak.lif) := HY1.out.cell rfl
  have vy30 : V.cell? ⟨W.heap.size + 1, 30, none⟩ = some (.int .u32 m.ak.lif) := HY2.out.cell rfl
  have vx31 : V.cell? ⟨W.heap.size, 31, none⟩ = some (.int .u32 m.ak.ver) := HY1.out.cell rfl
  have vy31 : V.cell? ⟨W.heap.size + 1, 31, none⟩ = some (.int .u32 m.ak.ver) := HY2.out.cell rfl
  go_wp2_with fail
  go_returns
  exact ⟨rfl, HB.out⟩

end Go.Proofs.YtickjmkkgcfkhaaGreat
