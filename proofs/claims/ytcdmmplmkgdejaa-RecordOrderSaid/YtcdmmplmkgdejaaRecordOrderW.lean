/- The walk of the law RecordOrder. -/
import Derived.Test.YtcdmmplmkgdejaaRecX
set_option linter.unusedSimpArgs false
set_option linter.unusedVariables false
namespace Go.Proofs.Ytcdmmplmkgdejaa
open Go.RowKit Go.ChangeShapes Go.WideShapes

structure OrS (W : World) (a b c : St) (V : World) : Prop where
  b0 : BoxS W.heap.size a V
  b1 : BoxS (W.heap.size + 1) b V
  b2 : BoxS (W.heap.size + 1 + 1) c V
  bel : Below W.heap.size W V
theorem OrS.later {W V X : World} {a b c : St} (h : OrS W a b c V) (hb : Below V.heap.size V X) : OrS W a b c X := ⟨h.b0.later hb, h.b1.later hb, h.b2.later hb, h.bel.trans (hb.mono h.bel.size)⟩
theorem OrS.drew {W V : World} {a b c : St} (h : OrS W a b c V) : OrS W a b c V.drew := h.later ⟨rfl, rfl, rfl, Nat.le_refl _, fun _ _ => rfl⟩

theorem nw_three (a b : St) : (nw a b = -1 ∧ nw b a = 1 ∧ (a.ep < b.ep ∨ (a.ep = b.ep ∧ a.sq < b.sq))) ∨ (nw a b = 0 ∧ nw b a = 0 ∧ a.ep = b.ep ∧ a.sq = b.sq) ∨ (nw a b = 1 ∧ nw b a = -1 ∧ (b.ep < a.ep ∨ (a.ep = b.ep ∧ b.sq < a.sq))) := by
  unfold nw orI cmpN
  by_cases h1 : a.ep < b.ep
  · simp [h1, show ¬ b.ep < a.ep by omega]
  · by_cases h2 : b.ep < a.ep
    · simp [h1, h2]
    · have h3 : a.ep = b.ep := by omega
      by_cases h4 : a.sq < b.sq
      · simp [h3, h4, show ¬ b.sq < a.sq by omega]
      · by_cases h5 : b.sq < a.sq
        · simp [h3, h4, h5]
        · have h6 : a.sq = b.sq := by omega
          simp [h3, h6]

/-- What the three answers may be, and the first two stamps' numbers. -/
def OrOk (x y z : Int) (e s : Bool) : Prop := (x = 1 ∨ x = 0 ∨ x = -1) ∧ (y = 1 ∨ y = 0 ∨ y = -1) ∧ (z = 1 ∨ z = 0 ∨ z = -1) ∧ (x = y → z = x) ∧ (x = 0 → z = y) ∧ (y = 0 → z = x) ∧ (x = 0 ↔ (e = true ∧ s = true))
theorem orOk_of (a b c : St) : OrOk (nw a b) (nw b c) (nw a c) (decide (a.ep = b.ep)) (decide (a.sq = b.sq)) := by
  unfold OrOk
  simp only [decide_eq_true_eq]
  rcases nw_three a b with ⟨h1, _, h2⟩ | ⟨h1, _, h2⟩ | ⟨h1, _, h2⟩ <;> rcases nw_three b c with ⟨h3, _, h4⟩ | ⟨h3, _, h4⟩ | ⟨h3, _, h4⟩ <;> rcases nw_three a c with ⟨h5, _, h6⟩ | ⟨h5, _, h6⟩ | ⟨h5, _, h6⟩ <;> rw [h1, h3, h5] <;> omega

def NwC (a b : St) (x : Int) : Prop := ∀ W, Calls Try.prog 25 #[.agg #[.int .i64 a.org, .int .u32 a.ep, .int .u32 a.sq], .agg #[.int .i64 b.org, .int .u32 b.ep, .int .u32 b.sq]] W fun e W' => e = .returned (.int .i64 x) ∧ Below W.heap.size W W'
theorem nwC_of (a b : St) (x : Int) (h : nw a b = x) : NwC a b x := fun W => by
  subst h
  exact newer_any a b W
theorem OrS.cells {W V : World} {a b c : St} (h : OrS W a b c V) : (V.cell? ⟨W.heap.size, 0, none⟩ = some (.int .i64 a.org) ∧ V.cell? ⟨W.heap.size, 1, none⟩ = some (.int .u32 a.ep) ∧ V.cell? ⟨W.heap.size, 2, none⟩ = some (.int .u32 a.sq)) ∧
    (V.cell? ⟨W.heap.size + 1, 0, none⟩ = some (.int .i64 b.org) ∧ V.cell? ⟨W.heap.size + 1, 1, none⟩ = some (.int .u32 b.ep) ∧ V.cell? ⟨W.heap.size + 1, 2, none⟩ = some (.int .u32 b.sq)) ∧
    (V.cell? ⟨W.heap.size + 1 + 1, 0, none⟩ = some (.int .i64 c.org) ∧ V.cell? ⟨W.heap.size + 1 + 1, 1, none⟩ = some (.int .u32 c.ep) ∧ V.cell? ⟨W.heap.size + 1 + 1, 2, none⟩ = some (.int .u32 c.sq)) := ⟨BoxS.cells h.b0, BoxS.cells h.b1, BoxS.cells h.b2⟩

set_option maxRecDepth 100000 in
set_option maxHeartbeats 6400000 in
theorem order_walk (a b c : St) (x y z u : Int) (e s : Bool) (w : World) (hx : NwC a b x) (hy : NwC b c y) (hz : NwC a c z) (hu : NwC b a u) (hself : NwC a a 0) (hxu : u = -x)
    (he : ((a.ep : Int) == (b.ep : Int)) = e) (hs : ((a.sq : Int) == (b.sq : Int)) = s) (he2 : (a.ep == b.ep) = e) (hs2 : (a.sq == b.sq) = s) (hok : OrOk x y z e s) :
    Calls Try.prog 8 #[a.ag, b.ag, c.ag] w fun e w' => e = .returned (.bool true) ∧ Below w.heap.size w w' := by
  obtain ⟨W1, hW1⟩ : ∃ W1, W1 = ((w.alloc (.cells a.cs 39)).alloc (.cells b.cs 39)).alloc (.cells c.cs 39) := ⟨_, rfl⟩
  have hbA : Below w.heap.size w (w.alloc (.cells a.cs 39)) := (Below.refl _ _).alloc (Nat.le_refl _) _
  have HS1 := Lib.hid (show OrS w a b c W1 by
    rw [hW1]
    refine ⟨?_, ?_, ?_, ?_⟩
    · have h0 : BoxS w.heap.size a (w.alloc (.cells a.cs 39)) := heap_alloc_new _ _
      exact (h0.later ((Below.refl _ _).alloc (Nat.le_refl _) _)).later ((Below.refl _ _).alloc (Nat.le_refl _) _)
    · have h0 : BoxS (w.heap.size + 1) b ((w.alloc (.cells a.cs 39)).alloc (.cells b.cs 39)) := by
        have := heap_alloc_new (w.alloc (.cells a.cs 39)) (.cells b.cs 39)
        rw [World.size_alloc] at this; exact this
      exact h0.later ((Below.refl _ _).alloc (Nat.le_refl _) _)
    · have := heap_alloc_new ((w.alloc (.cells a.cs 39)).alloc (.cells b.cs 39)) (.cells c.cs 39)
      rw [World.size_alloc, World.size_alloc] at this; exact this
    · exact ((hbA.alloc (by rw [World.size_alloc]; omega) _).alloc (by rw [World.size_alloc, World.size_alloc]; omega) _))
  have HW1 := Lib.hid hW1
  have HX := Lib.hid hx
  have HY := Lib.hid hy
  have HZ := Lib.hid hz
  have HU := Lib.hid hu
  have HSF := Lib.hid hself
  have HE := Lib.hid he
  have HSS := Lib.hid hs
  have HE2 := Lib.hid he2
  have HS2 := Lib.hid hs2
  have HOK := Lib.hid hok
  have HXU := Lib.hid hxu
  clear hW1 hx hy hz hu hself he hs hok hxu he2 hs2 hbA
  go_enter Try.func8, Try.ntmps8
  unfold St.ag St.cs at *
  go_wp2_with fail
  rw [← HW1.out]
  refine (works_any _).mono ?_
  rintro e0 V ⟨rfl, hbV⟩
  obtain ⟨U, hU⟩ : ∃ U, U = V.drew := ⟨_, rfl⟩
  have HSV := Lib.hid (show OrS w a b c U by rw [hU]; exact (HS1.out.later hbV).drew)
  have HUQ := Lib.hid hU
  clear hbV hU
  go_wp2_with fail
  refine wp_region_ord [(0, true), (1, true), (3, true), (4, true), (6, true), (7, true), (2, false), (5, false), (8, false), (9, true), (10, true), (11, true)] (OrS w a b c) (by kernel_rfl) (by kernel_rfl) (by decide) (by kernel_rfl) (fun d _ _ _ _ h => by cases d <;> exact h) (by rw [← HUQ.out]; exact HSV.out) ?_
  rw [← HUQ.out]
  iterate 6 ((apply wpOrd_take rfl rfl (by kernel_rfl); (intro V hV; obtain ⟨⟨x0, x1, x2⟩, ⟨y0, y1, y2⟩, ⟨z0, z1, z2⟩⟩ := hV.cells; go_simp; rfl)); (try simp only [List.setIfInBounds_toArray, List.set_cons_succ, List.set_cons_zero]))
  apply wpOrd_do rfl (by kernel_rfl)
  intro K hK
  go_simp
  refine (HX.out _).mono ?_
  rintro e1 X1 ⟨rfl, hb1⟩
  have HS1' := Lib.hid (HSV.out.later hb1)
  refine hK _ _ HS1'.out ?_
  clear hK K hb1
  apply wpOrd_do rfl (by kernel_rfl)
  intro K hK
  go_simp
  refine (HY.out _).mono ?_
  rintro e1 X2 ⟨rfl, hb1⟩
  have HS2' := Lib.hid (HS1'.out.later hb1)
  refine hK _ _ HS2'.out ?_
  clear hK K hb1
  apply wpOrd_do rfl (by kernel_rfl)
  intro K hK
  go_simp
  refine (HZ.out _).mono ?_
  rintro e1 X3 ⟨rfl, hb1⟩
  have HS3' := Lib.hid (HS2'.out.later hb1)
  refine hK _ _ HS3'.out ?_
  clear hK K hb1
  iterate 3 ((apply wpOrd_take rfl rfl (by kernel_rfl); (intro V hV; go_simp; rfl)); (try simp only [List.setIfInBounds_toArray, List.set_cons_succ, List.set_cons_zero]))
  refine wpOrd_nil ?_
  have hok := HOK.out
  obtain rfl := HXU.out
  obtain ⟨⟨x0, x1, x2⟩, ⟨y0, y1, y2⟩, _⟩ := HS3'.out.cells
  obtain ⟨ox, oy, oz, o1, o2, o3, o4⟩ := hok
  have he := HE.out
  have hs := HSS.out
  have he2 := HE2.out
  have hs2 := HS2.out
  rcases ox with rfl | rfl | rfl <;> rcases oy with rfl | rfl | rfl <;> rcases oz with rfl | rfl | rfl <;> (first | (exfalso; omega) | skip) <;> cases e <;> cases s <;> (first | (exfalso; simp at o4; done) | skip)
  all_goals clear o1 o2 o3 o4
  all_goals
    go_wp2_with fail
    refine (HU.out _).mono ?_
    rintro e1 X4 ⟨rfl, hb1⟩
    have HS4' := Lib.hid (HS3'.out.later hb1)
    obtain ⟨⟨p0, p1, p2⟩, _, _⟩ := HS4'.out.cells
    clear hb1
    go_wp2_with fail
    refine (HSF.out _).mono ?_
    rintro e1 X5 ⟨rfl, hb1⟩
    have HS5' := Lib.hid (HS4'.out.later hb1)
    clear hb1
    go_wp2_with fail
    go_returns
    exact ⟨rfl, HS5'.out.bel⟩

theorem recordOrder_walk (a b c : St) (w : World) (ha : a.ok) (hb : b.ok) (hc : c.ok) :
    Calls Try.prog 8 #[a.ag, b.ag, c.ag] w fun e w' => e = .returned (.bool true) ∧ Below w.heap.size w w' := by
  refine order_walk a b c _ _ _ _ _ _ w (nwC_of _ _ _ rfl) (nwC_of _ _ _ rfl) (nwC_of _ _ _ rfl) (nwC_of _ _ _ rfl) (nwC_of _ _ _ ?_) ?_ ?_ ?_ ?_ ?_ (orOk_of a b c)
  · rcases nw_three a a with h | h | h <;> omega
  · rcases nw_three a b with h | h | h <;> omega
  · by_cases h : a.ep = b.ep
    · simp [h]
    · rw [decide_eq_false h, beq_eq_false_iff_ne]; omega
  · by_cases h : a.sq = b.sq
    · simp [h]
    · rw [decide_eq_false h, beq_eq_false_iff_ne]; omega
  · by_cases h : a.ep = b.ep <;> simp [h]
  · by_cases h : a.sq = b.sq <;> simp [h]

end Go.Proofs.Ytcdmmplmkgdejaa
