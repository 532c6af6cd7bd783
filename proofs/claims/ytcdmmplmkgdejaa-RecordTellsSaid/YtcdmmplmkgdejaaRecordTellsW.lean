/- The walk of the law RecordTells. -/
import Derived.Test.YtcdmmplmkgdejaaRecordSameV
import Derived.Test.YtcdmmplmkgdejaaRecN
set_option linter.unusedSimpArgs false
set_option linter.unusedVariables false
namespace Go.Proofs.Ytcdmmplmkgdejaa
open Go.RowKit Go.ChangeShapes Go.WideShapes

structure TeA (W : World) (r : Rc) (sa : Option Addr) (sc : Nat) (V : World) : Prop where
  b0 : BoxR W.heap.size r sa sc V
  a0 : AdjsIn V sa r.adjs
  bel : Below W.heap.size W V
theorem TeA.later {W V X : World} {r : Rc} {sa : Option Addr} {sc : Nat} (h : TeA W r sa sc V) (hb : Below V.heap.size V X) : TeA W r sa sc X := ⟨h.b0.later hb, h.a0.later hb, h.bel.trans (hb.mono h.bel.size)⟩
structure TeS (W : World) (r : Rc) (sa : Option Addr) (sc : Nat) (p g c : Nat) (V : World) : Prop where
  t : TeA W r sa sc V
  b1 : BoxR p r (some ⟨g, 0, none⟩) c V
  a1 : AdjsIn V (some ⟨g, 0, none⟩) r.adjs
  m : V.cell? ⟨g, r.adjs.length * 2 + 1, none⟩ = some (.int .i64 77)
theorem TeS.later {W V X : World} {r : Rc} {sa : Option Addr} {sc p g c : Nat} (h : TeS W r sa sc p g c V) (hb : Below V.heap.size V X) : TeS W r sa sc p g c X := ⟨h.t.later hb, h.b1.later hb, h.a1.later hb, (hb.cell (block_lt_of_cell h.m)).trans h.m⟩

def CkC (F : FuncId) (r : Rc) : Prop := ∀ sa sc W, AdjsIn W sa r.adjs → Calls Try.prog F #[.agg #[.int .i64 r.org, .int .u32 r.ep, .int .u32 r.sq, .int .i64 r.clm, .bool r.ing, .slice sa r.adjs.length sc]] W fun e W' => e = .returned (.int .i64 r.err) ∧ Below W.heap.size W W'
def EnC (F : FuncId) (r : Rc) : Prop := ∀ sa sc W, AdjsIn W sa r.adjs → Calls Try.prog F #[.agg #[.int .i64 r.org, .int .u32 r.ep, .int .u32 r.sq, .int .i64 r.clm, .bool r.ing, .slice sa r.adjs.length sc]] W fun e W' => e = .returned (.tuple #[.string r.encS, .int .i64 r.err]) ∧ Below W.heap.size W W'
def StC (F : FuncId) (r : Rc) : Prop := ∀ sa sc W, Calls Try.prog F #[.agg #[.int .i64 r.org, .int .u32 r.ep, .int .u32 r.sq, .int .i64 r.clm, .bool r.ing, .slice sa r.adjs.length sc]] W fun e W' => e = .returned (.agg #[.int .i64 r.org, .int .u32 r.ep, .int .u32 r.sq]) ∧ Below W.heap.size W W'

set_option maxRecDepth 100000 in
set_option maxHeartbeats 6400000 in
theorem tells_walk (r : Rc) (sa : Option Addr) (sc : Nat) (w : World) (hA : AdjsIn w sa r.adjs)
    (hE : EnC 16 r) (hRE : EnC 17 r) (hC : CkC 18 r) (hRC : CkC 19 r)
    (hT : StC 20 r) (hRT : StC 21 r) (hRS : SmC 13 r r true)
    (hown : ∀ W, AdjsIn W sa r.adjs → Calls Try.prog 15 #[.agg #[.int .i64 r.org, .int .u32 r.ep, .int .u32 r.sq, .int .i64 r.clm, .bool r.ing, .slice sa r.adjs.length sc]] W (OwnPost W r)) :
    Calls Try.prog 4 #[r.ag sa sc] w fun e w' => e = .returned (.bool true) ∧ Below w.heap.size w w' := by
  obtain ⟨W1, hW1⟩ : ∃ W1, W1 = w.alloc (.cells (r.cs sa sc) 25) := ⟨_, rfl⟩
  have hb1 : Below w.heap.size w W1 := by rw [hW1]; exact (Below.refl _ _).alloc (Nat.le_refl _) _
  have HS1 := Lib.hid (show TeA w r sa sc W1 from ⟨by rw [hW1]; exact heap_alloc_new _ _, hA.later hb1, hb1⟩)
  have HW1 := Lib.hid hW1
  have HE := Lib.hid hE
  have HRE := Lib.hid hRE
  have HC := Lib.hid hC
  have HRC := Lib.hid hRC
  have HT := Lib.hid hT
  have HRT := Lib.hid hRT
  have HRS := Lib.hid hRS
  have HOWN := Lib.hid hown
  clear hW1 hb1 hA hE hRE hC hRC hT hRT hRS hown
  go_enter Try.func4, Try.ntmps4
  unfold Rc.ag Rc.cs at *
  obtain ⟨x0, x1, x2, x3, x4, x5⟩ := BoxR.cells HS1.out.b0
  rw [HW1.out] at x0 x1 x2 x3 x4 x5
  go_wp2_with fail
  rw [← HW1.out]
  clear x0 x1 x2 x3 x4 x5
  refine (HOWN.out _ HS1.out.a0).mono ?_
  rintro e V1 ⟨g, c, rfl, hag, hc1, hc2, _, hm, hb⟩
  have HS2 := Lib.hid (HS1.out.later hb)
  obtain ⟨X1, hX1⟩ : ∃ X, X = V1.alloc (.cells #[.int .i64 r.org, .int .u32 r.ep, .int .u32 r.sq, .int .i64 r.clm, .bool r.ing, .slice (some ⟨g, 0, none⟩) r.adjs.length c] 25) := ⟨_, rfl⟩
  obtain ⟨p, hp⟩ : ∃ p, p = V1.heap.size := ⟨_, rfl⟩
  have hbX : Below V1.heap.size V1 X1 := by rw [hX1]; exact (Below.refl _ _).alloc (Nat.le_refl _) _
  have HS3 := Lib.hid (show TeS w r sa sc p g c X1 from ⟨HS2.out.later hbX, by rw [hX1, hp]; exact heap_alloc_new _ _, hag.later hbX, (hbX.cell (block_lt_of_cell hm)).trans hm⟩)
  have HX1 := Lib.hid hX1
  have HP := Lib.hid hp
  have HC1 := Lib.hid hc1
  have HC2 := Lib.hid hc2
  obtain ⟨y0, y1, y2, y3, y4, y5⟩ := BoxR.cells HS3.out.b1
  rw [hX1, hp] at y0 y1 y2 y3 y4 y5
  clear hb hbX hX1 hp hag hm hc1 hc2
  go_wp2_with fail
  rw [← HX1.out, ← HP.out]
  clear y0 y1 y2 y3 y4 y5
  refine (HE.out _ _ _ HS3.out.a1).mono ?_
  rintro e V2 ⟨rfl, hb⟩
  have HS4 := Lib.hid (HS3.out.later hb)
  obtain ⟨x0, x1, x2, x3, x4, x5⟩ := BoxR.cells HS4.out.t.b0
  clear hb
  go_wp2_with fail
  clear x0 x1 x2 x3 x4 x5
  refine (HRE.out _ _ _ HS4.out.t.a0).mono ?_
  rintro e V3 ⟨rfl, hb⟩
  obtain ⟨U, hU⟩ : ∃ U, U = V3.drew := ⟨_, rfl⟩
  have HS5 := Lib.hid (show TeS w r sa sc p g c U by
    rw [hU]; exact (HS4.out.later hb).later ⟨rfl, rfl, rfl, Nat.le_refl _, fun _ _ => rfl⟩)
  have HU := Lib.hid hU
  clear hb hU
  go_wp2_with fail
  have hnc1 : ((r.adjs.length : Int) + 1) ≤ (c : Int) := by have := HC1.out; omega
  have hnc2 : r.adjs.length + 1 ≤ c := HC1.out
  have hnlt : (r.adjs.length : Int) < (r.adjs.length : Int) + 1 := by omega
  have hwr : IntKind.i64.wrap ((r.adjs.length : Int) + 1) = (r.adjs.length : Int) + 1 := IntWalk.i64_in _ (by have := HC1.out; have := HC2.out; unfold maxLen at this; omega)
  refine wp_region_ord [(0, true), (1, true), (2, true), (3, true), (4, true), (5, true), (6, true), (7, true), (8, true), (9, true), (11, true), (10, false), (12, false), (13, true), (14, true), (15, true), (16, true), (18, true), (17, false), (19, false), (20, true), (21, true), (22, true), (23, true), (24, true), (25, false), (26, true), (27, true), (28, true), (29, true), (30, true), (31, true), (32, true), (33, true), (34, true), (35, true), (36, true), (37, true), (38, true), (39, true), (40, true), (41, true), (42, true), (43, true), (44, false), (45, true), (46, true)] (TeS w r sa sc p g c) (by kernel_rfl) (by kernel_rfl) (by decide) (by kernel_rfl) (fun d _ _ _ _ h => by cases d <;> exact h) (by rw [← HU.out]; exact HS5.out) ?_
  rw [← HU.out]
  iterate 11 ((apply wpOrd_take rfl rfl (by kernel_rfl); (intro V hV; obtain ⟨x0, x1, x2, x3, x4, x5⟩ := BoxR.cells hV.t.b0; obtain ⟨y0, y1, y2, y3, y4, y5⟩ := BoxR.cells hV.b1; go_simp; rfl)); (try simp only [List.setIfInBounds_toArray, List.set_cons_succ, List.set_cons_zero]))
  apply wpOrd_do rfl (by kernel_rfl)
  intro K hK
  go_simp
  refine (HC.out _ _ _ HS5.out.a1).mono ?_
  rintro e1 X5 ⟨rfl, hb1⟩
  have HS6 := Lib.hid (HS5.out.later hb1)
  refine hK _ _ HS6.out ?_
  clear hK K hb1
  apply wpOrd_do rfl (by kernel_rfl)
  intro K hK
  go_simp
  refine (HRC.out _ _ _ HS6.out.t.a0).mono ?_
  rintro e1 X6 ⟨rfl, hb1⟩
  have HS7 := Lib.hid (HS6.out.later hb1)
  refine hK _ _ HS7.out ?_
  clear hK K hb1
  iterate 5 ((apply wpOrd_take rfl rfl (by kernel_rfl); (intro V hV; obtain ⟨x0, x1, x2, x3, x4, x5⟩ := BoxR.cells hV.t.b0; obtain ⟨y0, y1, y2, y3, y4, y5⟩ := BoxR.cells hV.b1; go_simp; rfl)); (try simp only [List.setIfInBounds_toArray, List.set_cons_succ, List.set_cons_zero]))
  apply wpOrd_do rfl (by kernel_rfl)
  intro K hK
  go_simp
  refine (HT.out _ _ _).mono ?_
  rintro e1 X7 ⟨rfl, hb1⟩
  have HS8 := Lib.hid (HS7.out.later hb1)
  refine hK _ _ HS8.out ?_
  clear hK K hb1
  apply wpOrd_do rfl (by kernel_rfl)
  intro K hK
  go_simp
  refine (HRT.out _ _ _).mono ?_
  rintro e1 X8 ⟨rfl, hb1⟩
  have HS9 := Lib.hid (HS8.out.later hb1)
  refine hK _ _ HS9.out ?_
  clear hK K hb1
  iterate 5 ((apply wpOrd_take rfl rfl (by kernel_rfl); (intro V hV; obtain ⟨x0, x1, x2, x3, x4, x5⟩ := BoxR.cells hV.t.b0; obtain ⟨y0, y1, y2, y3, y4, y5⟩ := BoxR.cells hV.b1; go_simp; rfl)); (try simp only [List.setIfInBounds_toArray, List.set_cons_succ, List.set_cons_zero]))
  apply wpOrd_do rfl (by kernel_rfl)
  intro K hK
  go_simp
  refine (HRS.out _ _ _ _ _ HS9.out.a1 HS9.out.t.a0).mono ?_
  rintro e1 X9 ⟨rfl, hb1⟩
  have HS10 := Lib.hid (HS9.out.later hb1)
  refine hK _ _ HS10.out ?_
  clear hK K hb1
  iterate 18 ((apply wpOrd_take rfl rfl (by kernel_rfl); (intro V hV; obtain ⟨x0, x1, x2, x3, x4, x5⟩ := BoxR.cells hV.t.b0; obtain ⟨y0, y1, y2, y3, y4, y5⟩ := BoxR.cells hV.b1; have hm := hV.m; go_simp; rfl)); (try simp only [List.setIfInBounds_toArray, List.set_cons_succ, List.set_cons_zero]))
  apply wpOrd_do rfl (by kernel_rfl)
  intro K hK
  go_simp
  refine (works_any _).mono ?_
  rintro e1 X10 ⟨rfl, hb1⟩
  have HS11 := Lib.hid (HS10.out.later hb1)
  refine hK _ _ HS11.out ?_
  clear hK K hb1
  iterate 2 ((apply wpOrd_take rfl rfl (by kernel_rfl); (intro V hV; go_simp; rfl)); (try simp only [List.setIfInBounds_toArray, List.set_cons_succ, List.set_cons_zero]))
  refine wpOrd_nil ?_
  go_wp2_with fail
  go_returns
  exact ⟨rfl, HS11.out.t.bel⟩

theorem recordTells_walk (x : Rc × Option Addr × Nat) (w : World) (hx : ROpen w x) :
    Calls Try.prog 4 #[x.1.ag x.2.1 x.2.2] w fun e w' => e = .returned (.bool true) ∧ Below w.heap.size w w' := by
  refine tells_walk x.1 x.2.1 x.2.2 w hx.2.1 (fun sa sc W h => encode_any _ sa sc W h hx.2.2.1 hx.1) (fun sa sc W h => rencode_any _ sa sc W h hx.2.2.1 hx.1) (fun sa sc W h => check_any _ sa sc W h hx.2.2.1) (fun sa sc W h => rcheck_any _ sa sc W h hx.2.2.1) (fun sa sc W => stamp_any _ sa sc W) (fun sa sc W => rstamp_any _ sa sc W) (fun sa sc sb sd W h1 h2 => ?_) (fun W h => own_any x w W hx h)
  have h := rsame_any x.1 x.1 sa sc sb sd W h1 h2 hx.2.2.1 hx.2.2.1
  rw [show x.1.sm x.1 = true from decide_eq_true rfl] at h
  exact h

end Go.Proofs.Ytcdmmplmkgdejaa
