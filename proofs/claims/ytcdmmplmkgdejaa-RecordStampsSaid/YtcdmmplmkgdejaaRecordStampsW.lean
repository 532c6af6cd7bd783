/- The walk of the law RecordStamps. -/
import Derived.Test.YtcdmmplmkgdejaaRecOpen
import Derived.Test.YtcdmmplmkgdejaaRecN
set_option linter.unusedSimpArgs false
set_option linter.unusedVariables false
namespace Go.Proofs.Ytcdmmplmkgdejaa
open Go.RowKit Go.ChangeShapes Go.WideShapes

structure StS (W : World) (a b y : St) (p q : Nat) (V : World) : Prop where
  b0 : BoxS W.heap.size a V
  b1 : BoxS (W.heap.size + 1) b V
  b2 : BoxS p y V
  b3 : BoxS q y V
  bel : Below W.heap.size W V
theorem StS.later {W V X : World} {a b y : St} {p q : Nat} (h : StS W a b y p q V) (hb : Below V.heap.size V X) : StS W a b y p q X := ⟨h.b0.later hb, h.b1.later hb, h.b2.later hb, h.b3.later hb, h.bel.trans (hb.mono h.bel.size)⟩
theorem StS.drew {W V : World} {a b y : St} {p q : Nat} (h : StS W a b y p q V) : StS W a b y p q V.drew := h.later ⟨rfl, rfl, rfl, Nat.le_refl _, fun _ _ => rfl⟩
structure StT (W : World) (a b : St) (V : World) : Prop where
  b0 : BoxS W.heap.size a V
  b1 : BoxS (W.heap.size + 1) b V
  bel : Below W.heap.size W V
theorem StT.later {W V X : World} {a b : St} (h : StT W a b V) (hb : Below V.heap.size V X) : StT W a b X := ⟨h.b0.later hb, h.b1.later hb, h.bel.trans (hb.mono h.bel.size)⟩

set_option maxRecDepth 100000 in
set_option maxHeartbeats 6400000 in
theorem stamps_walk (a b y : St) (s t : ByteArray) (ee g : Int) (n : Int) (w : World)
    (hE : ∀ W, Calls Try.prog 24 #[.agg #[.int .i64 a.org, .int .u32 a.ep, .int .u32 a.sq]] W fun e W' => e = .returned (.tuple #[.string t, .int .i64 ee]) ∧ Below W.heap.size W W')
    (hRE : ∀ W, Calls Try.prog 26 #[.agg #[.int .i64 a.org, .int .u32 a.ep, .int .u32 a.sq]] W fun e W' => e = .returned (.tuple #[.string t, .int .i64 ee]) ∧ Below W.heap.size W W')
    (hD : ∀ W, Calls Try.prog 23 #[.string s] W fun e W' => e = .returned (.tuple #[.agg #[.int .i64 y.org, .int .u32 y.ep, .int .u32 y.sq], .int .i64 g]) ∧ Below W.heap.size W W')
    (hRD : ∀ W, Calls Try.prog 27 #[.string s] W fun e W' => e = .returned (.tuple #[.agg #[.int .i64 y.org, .int .u32 y.ep, .int .u32 y.sq], .int .i64 g]) ∧ Below W.heap.size W W')
    (hN : ∀ W, Calls Try.prog 25 #[.agg #[.int .i64 a.org, .int .u32 a.ep, .int .u32 a.sq], .agg #[.int .i64 b.org, .int .u32 b.ep, .int .u32 b.sq]] W fun e W' => e = .returned (.int .i64 n) ∧ Below W.heap.size W W')
    (hRN : ∀ W, Calls Try.prog 28 #[.agg #[.int .i64 a.org, .int .u32 a.ep, .int .u32 a.sq], .agg #[.int .i64 b.org, .int .u32 b.ep, .int .u32 b.sq]] W fun e W' => e = .returned (.int .i64 n) ∧ Below W.heap.size W W') :
    Calls Try.prog 9 #[a.ag, b.ag, .string s] w fun e w' => e = .returned (.bool true) ∧ Below w.heap.size w w' := by
  obtain ⟨W1, hW1⟩ : ∃ W1, W1 = (w.alloc (.cells a.cs 39)).alloc (.cells b.cs 39) := ⟨_, rfl⟩
  have hb1 : Below w.heap.size w W1 := by rw [hW1]; exact ((Below.refl _ _).alloc (Nat.le_refl _) _).alloc (by rw [World.size_alloc]; omega) _
  have HS1 := Lib.hid (show StT w a b W1 from ⟨by rw [hW1]; exact heap_alloc2_old _ _ _, by rw [hW1]; exact heap_alloc2_new _ _ _, hb1⟩)
  have HW1 := Lib.hid hW1
  have HE := Lib.hid hE
  have HRE := Lib.hid hRE
  have HD := Lib.hid hD
  have HRD := Lib.hid hRD
  have HN := Lib.hid hN
  have HRN := Lib.hid hRN
  clear hW1 hb1 hE hRE hD hRD hN hRN
  go_enter Try.func9, Try.ntmps9
  unfold St.ag St.cs at *
  obtain ⟨⟨x0, x1, x2⟩, _⟩ := And.intro (BoxS.cells HS1.out.b0) trivial
  rw [HW1.out] at x0 x1 x2
  go_wp2_with fail
  rw [← HW1.out]
  clear x0 x1 x2
  refine (HE.out _).mono ?_
  rintro e V1 ⟨rfl, hb⟩
  have HS2 := Lib.hid (HS1.out.later hb)
  obtain ⟨x0, x1, x2⟩ := BoxS.cells HS2.out.b0
  clear hb
  go_wp2_with fail
  clear x0 x1 x2
  refine (HRE.out _).mono ?_
  rintro e V2 ⟨rfl, hb⟩
  have HS3 := Lib.hid (HS2.out.later hb)
  clear hb
  go_wp2_with fail
  refine (HD.out _).mono ?_
  rintro e V3 ⟨rfl, hb⟩
  obtain ⟨X3, hX3⟩ : ∃ X, X = V3.alloc (.cells #[.int .i64 y.org, .int .u32 y.ep, .int .u32 y.sq] 39) := ⟨_, rfl⟩
  obtain ⟨p, hp⟩ : ∃ p, p = V3.heap.size := ⟨_, rfl⟩
  have hbX : Below V3.heap.size V3 X3 := by rw [hX3]; exact (Below.refl _ _).alloc (Nat.le_refl _) _
  have HY3 := Lib.hid (show BoxS p y X3 by rw [hX3, hp]; exact heap_alloc_new _ _)
  have HS4 := Lib.hid ((HS3.out.later hb).later hbX)
  have HX3 := Lib.hid hX3
  have HP := Lib.hid hp
  clear hb hbX hX3 hp
  go_wp2_with fail
  rw [← HX3.out, ← HP.out]
  refine (HRD.out _).mono ?_
  rintro e V4 ⟨rfl, hb⟩
  obtain ⟨X4, hX4⟩ : ∃ X, X = V4.alloc (.cells #[.int .i64 y.org, .int .u32 y.ep, .int .u32 y.sq] 39) := ⟨_, rfl⟩
  obtain ⟨q, hq⟩ : ∃ q, q = V4.heap.size := ⟨_, rfl⟩
  have hbX : Below V4.heap.size V4 X4 := by rw [hX4]; exact (Below.refl _ _).alloc (Nat.le_refl _) _
  obtain ⟨U, hU⟩ : ∃ U, U = X4.drew := ⟨_, rfl⟩
  have hS5 : StT w a b X4 := (HS4.out.later hb).later hbX
  have HS5 := Lib.hid (show StS w a b y p q U by
    rw [hU]
    exact StS.drew ⟨hS5.b0, hS5.b1, (HY3.out.later hb).later hbX, by rw [hX4, hq]; exact heap_alloc_new _ _, hS5.bel⟩)
  have HX4 := Lib.hid hX4
  have HQ := Lib.hid hq
  have HUU := Lib.hid hU
  clear hb hbX hX4 hq hU hS5
  go_wp2_with fail
  rw [← HX4.out, ← HQ.out]
  refine wp_region_ord [(0, true), (1, true), (2, true), (3, true), (4, true), (5, true), (6, true), (7, true), (8, true), (9, true), (10, true), (11, true), (12, true), (13, true), (14, true), (15, true), (16, true), (17, true), (18, true), (19, true), (20, true), (22, true), (23, true), (21, false), (24, false), (25, true), (26, true), (27, true), (28, false), (29, true), (30, true)] (StS w a b y p q) (by kernel_rfl) (by kernel_rfl) (by decide) (by kernel_rfl) (fun d _ _ _ _ h => by cases d <;> exact h) (by rw [← HUU.out]; exact HS5.out) ?_
  rw [← HUU.out]
  iterate 23 ((apply wpOrd_take rfl rfl (by kernel_rfl); (intro V hV; obtain ⟨x0, x1, x2⟩ := BoxS.cells hV.b0; obtain ⟨y0, y1, y2⟩ := BoxS.cells hV.b1; obtain ⟨z0, z1, z2⟩ := BoxS.cells hV.b2; obtain ⟨u0, u1, u2⟩ := BoxS.cells hV.b3; go_simp; rfl)); (try simp only [List.setIfInBounds_toArray, List.set_cons_succ, List.set_cons_zero]))
  apply wpOrd_do rfl (by kernel_rfl)
  intro K hK
  go_simp
  refine (HN.out _).mono ?_
  rintro e1 X5 ⟨rfl, hb1⟩
  have HS6 := Lib.hid (HS5.out.later hb1)
  refine hK _ _ HS6.out ?_
  clear hK K hb1
  apply wpOrd_do rfl (by kernel_rfl)
  intro K hK
  go_simp
  refine (HRN.out _).mono ?_
  rintro e1 X6 ⟨rfl, hb1⟩
  have HS7 := Lib.hid (HS6.out.later hb1)
  refine hK _ _ HS7.out ?_
  clear hK K hb1
  iterate 3 ((apply wpOrd_take rfl rfl (by kernel_rfl); (intro V hV; go_simp; rfl)); (try simp only [List.setIfInBounds_toArray, List.set_cons_succ, List.set_cons_zero]))
  apply wpOrd_do rfl (by kernel_rfl)
  intro K hK
  go_simp
  refine (works_any _).mono ?_
  rintro e1 X7 ⟨rfl, hb1⟩
  have HS8 := Lib.hid (HS7.out.later hb1)
  refine hK _ _ HS8.out ?_
  clear hK K hb1
  iterate 2 ((apply wpOrd_take rfl rfl (by kernel_rfl); (intro V hV; go_simp; rfl)); (try simp only [List.setIfInBounds_toArray, List.set_cons_succ, List.set_cons_zero]))
  refine wpOrd_nil ?_
  go_wp2_with fail
  go_returns
  exact ⟨rfl, HS8.out.bel⟩

theorem recordStamps_walk (a b : St) (s : ByteArray) (w : World) (ha : a.ok) (hb : b.ok) (hs : s.size ≤ 140737488351232) :
    Calls Try.prog 9 #[a.ag, b.ag, .string s] w fun e w' => e = .returned (.bool true) ∧ Below w.heap.size w w' :=
  stamps_walk a b (decS s.data.toList) s a.encS a.encE (decSE s.data.toList) (nw a b) w (fun W => encst_any a W ha) (fun W => rencst_any a W ha) (fun W => decst_any s W (by omega)) (fun W => rdecst_any s W (by omega)) (fun W => newer_any a b W) (fun W => rnewer_any a b W ha hb)

end Go.Proofs.Ytcdmmplmkgdejaa
