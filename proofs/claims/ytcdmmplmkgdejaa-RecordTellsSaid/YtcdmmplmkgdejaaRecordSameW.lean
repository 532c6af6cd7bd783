/- The walk of the law RecordSame. -/
import Derived.Test.YtcdmmplmkgdejaaRecOwnB
import Derived.Test.YtcdmmplmkgdejaaRecD
set_option linter.unusedSimpArgs false
set_option linter.unusedVariables false
namespace Go.Proofs.Ytcdmmplmkgdejaa
open Go.RowKit Go.ChangeShapes Go.WideShapes

structure SaS (W : World) (r : Rc) (sa : Option Addr) (sc : Nat) (q : Rc) (sb : Option Addr) (sd : Nat) (V : World) : Prop where
  b0 : BoxR W.heap.size r sa sc V
  b1 : BoxR (W.heap.size + 1) q sb sd V
  a0 : AdjsIn V sa r.adjs
  a1 : AdjsIn V sb q.adjs
  bel : Below W.heap.size W V
theorem SaS.later {W V X : World} {r q : Rc} {sa sb : Option Addr} {sc sd : Nat} (h : SaS W r sa sc q sb sd V) (hb : Below V.heap.size V X) : SaS W r sa sc q sb sd X := ⟨h.b0.later hb, h.b1.later hb, h.a0.later hb, h.a1.later hb, h.bel.trans (hb.mono h.bel.size)⟩
def SmC (F : FuncId) (r q : Rc) (b : Bool) : Prop := ∀ sa sc sb sd W, AdjsIn W sa r.adjs → AdjsIn W sb q.adjs → Calls Try.prog F #[.agg #[.int .i64 r.org, .int .u32 r.ep, .int .u32 r.sq, .int .i64 r.clm, .bool r.ing, .slice sa r.adjs.length sc], .agg #[.int .i64 q.org, .int .u32 q.ep, .int .u32 q.sq, .int .i64 q.clm, .bool q.ing, .slice sb q.adjs.length sd]] W fun e W' => e = .returned (.bool b) ∧ Below W.heap.size W W'

set_option maxRecDepth 100000 in
set_option maxHeartbeats 3200000 in
theorem same_walk (r q : Rc) (sa : Option Addr) (sc : Nat) (sb : Option Addr) (sd : Nat) (b : Bool) (w : World) (hA : AdjsIn w sa r.adjs) (hB : AdjsIn w sb q.adjs)
    (hS : SmC 22 r q b) (hR : SmC 13 r q b) (hO : SmC 22 r r true) (hown : ∀ W, AdjsIn W sa r.adjs → Calls Try.prog 15 #[.agg #[.int .i64 r.org, .int .u32 r.ep, .int .u32 r.sq, .int .i64 r.clm, .bool r.ing, .slice sa r.adjs.length sc]] W (OwnPost W r)) :
    Calls Try.prog 5 #[r.ag sa sc, q.ag sb sd] w fun e w' => e = .returned (.bool true) ∧ Below w.heap.size w w' := by
  obtain ⟨W1, hW1⟩ : ∃ W1, W1 = (w.alloc (.cells (r.cs sa sc) 25)).alloc (.cells (q.cs sb sd) 25) := ⟨_, rfl⟩
  have hb1 : Below w.heap.size w W1 := by rw [hW1]; exact ((Below.refl _ _).alloc (Nat.le_refl _) _).alloc (by rw [World.size_alloc]; omega) _
  obtain ⟨U, hU⟩ : ∃ U, U = W1.drew := ⟨_, rfl⟩
  have HS1 := Lib.hid (show SaS w r sa sc q sb sd U by
    rw [hU]
    have h : SaS w r sa sc q sb sd W1 := ⟨by rw [hW1]; exact heap_alloc2_old _ _ _, by rw [hW1]; exact heap_alloc2_new _ _ _, hA.later hb1, hB.later hb1, hb1⟩
    exact h.later ⟨rfl, rfl, rfl, Nat.le_refl _, fun _ _ => rfl⟩)
  have HW1 := Lib.hid hW1
  have HU := Lib.hid hU
  have HS := Lib.hid hS
  have HR := Lib.hid hR
  have HO := Lib.hid hO
  have HOWN := Lib.hid hown
  clear hW1 hU hS hR hO hown hb1 hA hB
  go_enter Try.func5, Try.ntmps5
  unfold Rc.ag Rc.cs at *
  go_wp2_with fail
  rw [← HW1.out]
  refine wp_region_ord [(0, true), (1, true), (3, true), (4, true), (2, false), (5, false), (6, true), (7, true), (8, true), (9, true), (10, false), (11, false), (12, true), (13, true), (14, false), (15, true), (16, true)] (SaS w r sa sc q sb sd) (by kernel_rfl) (by kernel_rfl) (by decide) (by kernel_rfl) (fun d _ _ _ _ h => by cases d <;> exact h) (by rw [← HU.out]; exact HS1.out) ?_
  rw [← HU.out]
  iterate 4 ((apply wpOrd_take rfl rfl (by kernel_rfl); (intro V hV; obtain ⟨x0, x1, x2, x3, x4, x5⟩ := BoxR.cells hV.b0; obtain ⟨y0, y1, y2, y3, y4, y5⟩ := BoxR.cells hV.b1; go_simp; rfl)); (try simp only [List.setIfInBounds_toArray, List.set_cons_succ, List.set_cons_zero]))
  apply wpOrd_do rfl (by kernel_rfl)
  intro K hK
  go_simp
  refine (HS.out _ _ _ _ _ HS1.out.a0 HS1.out.a1).mono ?_
  rintro e1 X1 ⟨rfl, hb1⟩
  have HS2 := Lib.hid (HS1.out.later hb1)
  refine hK _ _ HS2.out ?_
  clear hK K hb1
  apply wpOrd_do rfl (by kernel_rfl)
  intro K hK
  go_simp
  refine (HR.out _ _ _ _ _ HS2.out.a0 HS2.out.a1).mono ?_
  rintro e1 X2 ⟨rfl, hb1⟩
  have HS3 := Lib.hid (HS2.out.later hb1)
  refine hK _ _ HS3.out ?_
  clear hK K hb1
  iterate 4 ((apply wpOrd_take rfl rfl (by kernel_rfl); (intro V hV; obtain ⟨x0, x1, x2, x3, x4, x5⟩ := BoxR.cells hV.b0; obtain ⟨y0, y1, y2, y3, y4, y5⟩ := BoxR.cells hV.b1; go_simp; rfl)); (try simp only [List.setIfInBounds_toArray, List.set_cons_succ, List.set_cons_zero]))
  apply wpOrd_do rfl (by kernel_rfl)
  intro K hK
  go_simp
  refine (HOWN.out _ HS3.out.a0).mono ?_
  rintro e1 X3 ⟨g, c, rfl, hag, _, _, _, _, hb1⟩
  have HS4 := Lib.hid (HS3.out.later hb1)
  have HAG := Lib.hid hag
  refine hK _ _ HS4.out ?_
  clear hK K hb1 hag
  apply wpOrd_do rfl (by kernel_rfl)
  intro K hK
  go_simp
  refine (HO.out _ _ _ _ _ HS4.out.a0 HAG.out).mono ?_
  rintro e1 X4 ⟨rfl, hb1⟩
  have HS5 := Lib.hid (HS4.out.later hb1)
  refine hK _ _ HS5.out ?_
  clear hK K hb1
  iterate 2 ((apply wpOrd_take rfl rfl (by kernel_rfl); (intro V hV; obtain ⟨x0, x1, x2, x3, x4, x5⟩ := BoxR.cells hV.b0; obtain ⟨y0, y1, y2, y3, y4, y5⟩ := BoxR.cells hV.b1; go_simp; rfl)); (try simp only [List.setIfInBounds_toArray, List.set_cons_succ, List.set_cons_zero]))
  apply wpOrd_do rfl (by kernel_rfl)
  intro K hK
  go_simp
  refine (works_any _).mono ?_
  rintro e1 X5 ⟨rfl, hb1⟩
  have HS6 := Lib.hid (HS5.out.later hb1)
  refine hK _ _ HS6.out ?_
  clear hK K hb1
  iterate 2 ((apply wpOrd_take rfl rfl (by kernel_rfl); (intro V hV; obtain ⟨x0, x1, x2, x3, x4, x5⟩ := BoxR.cells hV.b0; obtain ⟨y0, y1, y2, y3, y4, y5⟩ := BoxR.cells hV.b1; go_simp; rfl)); (try simp only [List.setIfInBounds_toArray, List.set_cons_succ, List.set_cons_zero]))
  refine wpOrd_nil ?_
  go_wp2_with fail
  go_returns
  exact ⟨rfl, HS6.out.bel⟩

end Go.Proofs.Ytcdmmplmkgdejaa
