/- The walk of the law HeaderTells. -/
import Derived.Test.YtbcgfojdlehnpaaHeaderKeepsW
import Derived.Test.YtbcgfojdlehnpaaHdRI
set_option linter.unusedSimpArgs false
set_option linter.unusedVariables false
namespace Go.Proofs.Ytbcgfojdlehnpaa
open Go.RowKit Go.ChangeShapes Go.WideShapes

theorem hopV_ok {h : Hd} (hk : h.ok) : (hopV h).ok := by
  unfold hopV
  split
  · rename_i hc
    have h3 := (Hd.chk_is hc.1).2.2.1
    have h0 := hc.2
    exact (hops_ok hk hc.1 (z := h.hops - 1) ⟨by omega, by omega⟩).1
  · exact hdz_ok
theorem withV_ok {h : Hd} {b : Bt} (hk : h.ok) (hb : b.ok) : (withV h b).ok := by
  unfold withV
  split
  · obtain ⟨k1, k2, k3, k4, k5, k6, k7, k8⟩ := hk
    exact ⟨k1, k2, k3, k4, k5, k6, k7, hb⟩
  · exact hdz_ok
structure TlS (W : World) (h : Hd) (b : Bt) (V : World) : Prop where
  h : BoxV W.heap.size h.wid h.set h.ent h.hops h.src h.grp h.id h.bits.a h.bits.b h.bits.c h.bits.d V
  b : BoxBt (W.heap.size + 1) b V
  bel : Below W.heap.size W V
theorem TlS.later {W V X : World} {h : Hd} {b : Bt} (x : TlS W h b V) (hb : Below V.heap.size V X) : TlS W h b X := ⟨x.h.later hb, x.b.later hb, x.bel.trans (hb.mono x.bel.size)⟩
theorem TlS.set {W V : World} {h : Hd} {b : Bt} (x : TlS W h b V) {q j : Nat} (v : Value) (hq : W.heap.size + 1 < q) : TlS W h b (V.setCell ⟨q, j, none⟩ v) :=
  ⟨x.h.other _ _ _ (by omega), (heap_setCell_other _ _ _ _ (by simp only; omega)).trans x.b, x.bel.setCell (by simp only; omega) _⟩

set_option maxRecDepth 100000 in
set_option maxHeartbeats 12800000 in
theorem headerTells_walk (h : Hd) (b : Bt) (n : Int) (W : World) (hk : h.ok) (hbo : b.ok) (hn : -9223372036854775808 ≤ n ∧ n ≤ 9223372036854775807) :
    Calls Try.prog 6 #[h.ag, b.ag, .int .i64 n] W fun e W' => e = .returned (.bool true) ∧ Below W.heap.size W W' := by
  obtain ⟨W1, hW1⟩ : ∃ W1, W1 = (W.alloc (.cells h.cs 27)).alloc (.cells b.cs 25) := ⟨_, rfl⟩
  have hb1 : Below W.heap.size W W1 := by rw [hW1]; exact ((Below.refl _ _).alloc (Nat.le_refl _) _).alloc (by rw [World.size_alloc]; omega) _
  have hsz1 : W1.heap.size = W.heap.size + 2 := by rw [hW1, World.size_alloc, World.size_alloc]
  have hS1 : TlS W h b W1 := ⟨by rw [hW1]; exact heap_alloc2_old _ _ _, by rw [hW1]; exact heap_alloc2_new _ _ _, hb1⟩
  obtain ⟨U, hU⟩ : ∃ U, U = W1.drew := ⟨_, rfl⟩
  have HS0 := Lib.hid (show TlS W h b U by rw [hU]; exact hS1.later ⟨rfl, rfl, rfl, Nat.le_refl _, fun _ _ => rfl⟩)
  have HSZ := Lib.hid (show W.heap.size + 2 ≤ U.heap.size by rw [hU]; show _ ≤ W1.heap.size; omega)
  obtain ⟨er, her⟩ : ∃ er, er = h.err := ⟨_, rfl⟩
  have HC1 := Lib.hid (show GC 15 #[.agg #[.int .i64 h.wid, .int .i64 h.set, .int .u32 h.ent, .int .i64 h.hops, .int .i64 h.src, .int .i64 h.grp, .int .u32 h.id, .int .u64 h.bits.a, .int .u64 h.bits.b, .int .u64 h.bits.c, .int .u64 h.bits.d]] (.int .i64 er) from fun V => by rw [her]; exact hcheck_any h V hk)
  have HC2 := Lib.hid (show GC 16 #[.agg #[.int .i64 h.wid, .int .i64 h.set, .int .u32 h.ent, .int .i64 h.hops, .int .i64 h.src, .int .i64 h.grp, .int .u32 h.id, .int .u64 h.bits.a, .int .u64 h.bits.b, .int .u64 h.bits.c, .int .u64 h.bits.d]] (.int .i64 er) from fun V => by rw [her]; exact rhcheck_any h V hk)
  have HW2 := Lib.hid (fun V => wide_any n V hn)
  have HW3 := Lib.hid (fun V => hrwide_any n V)
  obtain ⟨wd, hwd⟩ : ∃ wd, wd = wide n := ⟨_, rfl⟩
  rw [← hwd] at HW2 HW3
  have HZ1 := Lib.hid (fun V => size_any n V hn)
  have HZ2 := Lib.hid (fun V => hrsize_any n V)
  obtain ⟨sv, hsv⟩ : ∃ sv, sv = sizeV n := ⟨_, rfl⟩
  obtain ⟨se, hse⟩ : ∃ se, se = sizeE n := ⟨_, rfl⟩
  rw [← hsv, ← hse] at HZ1 HZ2
  obtain ⟨E, hE⟩ : ∃ E, E = h.encS := ⟨_, rfl⟩
  have HE1 := Lib.hid (show GC 13 #[.agg #[.int .i64 h.wid, .int .i64 h.set, .int .u32 h.ent, .int .i64 h.hops, .int .i64 h.src, .int .i64 h.grp, .int .u32 h.id, .int .u64 h.bits.a, .int .u64 h.bits.b, .int .u64 h.bits.c, .int .u64 h.bits.d]] (.tuple #[.string E, .int .i64 er]) from fun V => by rw [her, hE]; exact hencode_any h V hk)
  have HE2 := Lib.hid (show GC 20 #[.agg #[.int .i64 h.wid, .int .i64 h.set, .int .u32 h.ent, .int .i64 h.hops, .int .i64 h.src, .int .i64 h.grp, .int .u32 h.id, .int .u64 h.bits.a, .int .u64 h.bits.b, .int .u64 h.bits.c, .int .u64 h.bits.d]] (.tuple #[.string E, .int .i64 er]) from fun V => by rw [her, hE]; exact rhencode_any h V hk)
  obtain ⟨X, hX⟩ : ∃ X, X = hopV h := ⟨_, rfl⟩
  obtain ⟨xe, hxe⟩ : ∃ xe, xe = hopE h := ⟨_, rfl⟩
  have hXo : X.ok := hX ▸ hopV_ok hk
  have HH1 := Lib.hid (show GC 21 #[.agg #[.int .i64 h.wid, .int .i64 h.set, .int .u32 h.ent, .int .i64 h.hops, .int .i64 h.src, .int .i64 h.grp, .int .u32 h.id, .int .u64 h.bits.a, .int .u64 h.bits.b, .int .u64 h.bits.c, .int .u64 h.bits.d]] (.tuple #[.agg #[.int .i64 X.wid, .int .i64 X.set, .int .u32 X.ent, .int .i64 X.hops, .int .i64 X.src, .int .i64 X.grp, .int .u32 X.id, .int .u64 X.bits.a, .int .u64 X.bits.b, .int .u64 X.bits.c, .int .u64 X.bits.d], .int .i64 xe]) from fun V => by
    have h1 := hop_any h V hk
    rw [← hX, ← hxe] at h1
    exact h1)
  have HH2 := Lib.hid (show GC 22 #[.agg #[.int .i64 h.wid, .int .i64 h.set, .int .u32 h.ent, .int .i64 h.hops, .int .i64 h.src, .int .i64 h.grp, .int .u32 h.id, .int .u64 h.bits.a, .int .u64 h.bits.b, .int .u64 h.bits.c, .int .u64 h.bits.d]] (.tuple #[.agg #[.int .i64 X.wid, .int .i64 X.set, .int .u32 X.ent, .int .i64 X.hops, .int .i64 X.src, .int .i64 X.grp, .int .u32 X.id, .int .u64 X.bits.a, .int .u64 X.bits.b, .int .u64 X.bits.c, .int .u64 X.bits.d], .int .i64 xe]) from fun V => by
    have h1 := rhop_any h V hk
    rw [← hX, ← hxe] at h1
    exact h1)
  obtain ⟨Z, hZ⟩ : ∃ Z, Z = withV h b := ⟨_, rfl⟩
  obtain ⟨ze, hze⟩ : ∃ ze, ze = withE h b := ⟨_, rfl⟩
  have hZo : Z.ok := hZ ▸ withV_ok hk hbo
  have HI1 := Lib.hid (show GC 23 #[.agg #[.int .i64 h.wid, .int .i64 h.set, .int .u32 h.ent, .int .i64 h.hops, .int .i64 h.src, .int .i64 h.grp, .int .u32 h.id, .int .u64 h.bits.a, .int .u64 h.bits.b, .int .u64 h.bits.c, .int .u64 h.bits.d], .agg #[.int .u64 b.a, .int .u64 b.b, .int .u64 b.c, .int .u64 b.d]] (.tuple #[.agg #[.int .i64 Z.wid, .int .i64 Z.set, .int .u32 Z.ent, .int .i64 Z.hops, .int .i64 Z.src, .int .i64 Z.grp, .int .u32 Z.id, .int .u64 Z.bits.a, .int .u64 Z.bits.b, .int .u64 Z.bits.c, .int .u64 Z.bits.d], .int .i64 ze]) from fun V => by
    have h1 := with_any h b V hk hbo
    rw [← hZ, ← hze] at h1
    exact h1)
  have HI2 := Lib.hid (show GC 24 #[.agg #[.int .i64 h.wid, .int .i64 h.set, .int .u32 h.ent, .int .i64 h.hops, .int .i64 h.src, .int .i64 h.grp, .int .u32 h.id, .int .u64 h.bits.a, .int .u64 h.bits.b, .int .u64 h.bits.c, .int .u64 h.bits.d], .agg #[.int .u64 b.a, .int .u64 b.b, .int .u64 b.c, .int .u64 b.d]] (.tuple #[.agg #[.int .i64 Z.wid, .int .i64 Z.set, .int .u32 Z.ent, .int .i64 Z.hops, .int .i64 Z.src, .int .i64 Z.grp, .int .u32 Z.id, .int .u64 Z.bits.a, .int .u64 Z.bits.b, .int .u64 Z.bits.c, .int .u64 Z.bits.d], .int .i64 ze]) from fun V => by
    have h1 := rwith_any h b V hk hbo
    rw [← hZ, ← hze] at h1
    exact h1)
  have HEX := Lib.hid (fun V => show (Op.equalIn 10000 27 (.agg #[.int .i64 X.wid, .int .i64 X.set, .int .u32 X.ent, .int .i64 X.hops, .int .i64 X.src, .int .i64 X.grp, .int .u32 X.id, .int .u64 X.bits.a, .int .u64 X.bits.b, .int .u64 X.bits.c, .int .u64 X.bits.d]) (.agg #[.int .i64 X.wid, .int .i64 X.set, .int .u32 X.ent, .int .i64 X.hops, .int .i64 X.src, .int .i64 X.grp, .int .u32 X.id, .int .u64 X.bits.a, .int .u64 X.bits.b, .int .u64 X.bits.c, .int .u64 X.bits.d])).run Try.prog V = .ok true V from by
    have h1 := eq_hd X X hXo hXo V
    rw [decide_eq_true rfl] at h1
    exact h1)
  have HEZ := Lib.hid (fun V => show (Op.equalIn 10000 27 (.agg #[.int .i64 Z.wid, .int .i64 Z.set, .int .u32 Z.ent, .int .i64 Z.hops, .int .i64 Z.src, .int .i64 Z.grp, .int .u32 Z.id, .int .u64 Z.bits.a, .int .u64 Z.bits.b, .int .u64 Z.bits.c, .int .u64 Z.bits.d]) (.agg #[.int .i64 Z.wid, .int .i64 Z.set, .int .u32 Z.ent, .int .i64 Z.hops, .int .i64 Z.src, .int .i64 Z.grp, .int .u32 Z.id, .int .u64 Z.bits.a, .int .u64 Z.bits.b, .int .u64 Z.bits.c, .int .u64 Z.bits.d])).run Try.prog V = .ok true V from by
    have h1 := eq_hd Z Z hZo hZo V
    rw [decide_eq_true rfl] at h1
    exact h1)
  unfold Hd.cs Bt.cs at hW1
  have HW1 := Lib.hid hW1
  have HUU := Lib.hid hU
  clear hW1 hb1 hsz1 hS1 hU her hwd hsv hse hE hX hxe hZ hze hXo hZo hk hbo hn
  go_enter Try.func6, Try.ntmps6
  unfold Hd.ag Hd.cs Bt.ag Bt.cs at *
  go_wp2_with fail
  rw [← HW1.out]
  refine wp_region_ord [(0, true), (2, true), (1, false), (3, false), (4, true), (5, true), (6, true), (8, true), (7, false), (9, false), (10, true), (11, true)] (TlS W h b) (by kernel_rfl) (by kernel_rfl) (by decide) (by kernel_rfl) (fun d _ _ _ _ h => by cases d <;> exact h) (by rw [← HUU.out]; exact HS0.out) ?_
  rw [← HUU.out]
  iterate 2 ((apply wpOrd_take rfl rfl (by kernel_rfl); (intro V hV; obtain ⟨y0, y1, y2, y3, y4, y5, y6, y7, y8, y9, y10⟩ := hV.h.cells; go_simp; rfl)); (try simp only [List.setIfInBounds_toArray, List.set_cons_succ, List.set_cons_zero]))
  apply wpOrd_do rfl (by kernel_rfl)
  intro K hK
  go_simp
  refine (HC1.out _).mono ?_
  rintro e1 X1 ⟨rfl, hb1⟩
  have HS1 := Lib.hid (HS0.out.later hb1)
  have HT1 := Lib.hid (show W.heap.size + 2 ≤ X1.heap.size by have := HSZ.out; have := hb1.size; omega)
  refine hK _ _ HS1.out ?_
  clear hK K hb1
  apply wpOrd_do rfl (by kernel_rfl)
  intro K hK
  go_simp
  refine (HC2.out _).mono ?_
  rintro e1 X2 ⟨rfl, hb1⟩
  have HS2 := Lib.hid (HS1.out.later hb1)
  have HT2 := Lib.hid (show W.heap.size + 2 ≤ X2.heap.size by have := HT1.out; have := hb1.size; omega)
  refine hK _ _ HS2.out ?_
  clear hK K hb1
  iterate 4 ((apply wpOrd_take rfl rfl (by kernel_rfl); (intro V hV; obtain ⟨y0, y1, y2, y3, y4, y5, y6, y7, y8, y9, y10⟩ := hV.h.cells; go_simp; rfl)); (try simp only [List.setIfInBounds_toArray, List.set_cons_succ, List.set_cons_zero]))
  apply wpOrd_do rfl (by kernel_rfl)
  intro K hK
  go_simp
  refine (HW2.out _).mono ?_
  rintro e1 V ⟨rfl, rfl⟩
  refine hK _ _ HS2.out ?_
  clear hK K
  apply wpOrd_do rfl (by kernel_rfl)
  intro K hK
  go_simp
  refine (HW3.out _).mono ?_
  rintro e1 V ⟨rfl, rfl⟩
  refine hK _ _ HS2.out ?_
  clear hK K
  iterate 2 ((apply wpOrd_take rfl rfl (by kernel_rfl); (intro V hV; obtain ⟨y0, y1, y2, y3, y4, y5, y6, y7, y8, y9, y10⟩ := hV.h.cells; go_simp; rfl)); (try simp only [List.setIfInBounds_toArray, List.set_cons_succ, List.set_cons_zero]))
  refine wpOrd_nil ?_
  go_wp2_with fail
  refine (HZ1.out _).mono ?_
  rintro e1 V ⟨rfl, rfl⟩
  go_wp2_with fail
  refine (HZ2.out _).mono ?_
  rintro e1 V ⟨rfl, rfl⟩
  obtain ⟨y0, y1, y2, y3, y4, y5, y6, y7, y8, y9, y10⟩ := HS2.out.h.cells
  go_wp2_with fail
  refine (HE1.out _).mono ?_
  rintro e1 X3 ⟨rfl, hb1⟩
  have HS3 := Lib.hid (HS2.out.later hb1)
  have HT3 := Lib.hid (show W.heap.size + 2 ≤ X3.heap.size by have := HT2.out; have := hb1.size; omega)
  clear hb1 y0 y1 y2 y3 y4 y5 y6 y7 y8 y9 y10
  obtain ⟨y0, y1, y2, y3, y4, y5, y6, y7, y8, y9, y10⟩ := HS3.out.h.cells
  go_wp2_with fail
  refine (HE2.out _).mono ?_
  rintro e1 X4 ⟨rfl, hb1⟩
  have HS4 := Lib.hid (HS3.out.later hb1)
  have HT4 := Lib.hid (show W.heap.size + 2 ≤ X4.heap.size by have := HT3.out; have := hb1.size; omega)
  clear hb1 y0 y1 y2 y3 y4 y5 y6 y7 y8 y9 y10
  obtain ⟨y0, y1, y2, y3, y4, y5, y6, y7, y8, y9, y10⟩ := HS4.out.h.cells
  go_wp2_with fail
  refine (HH1.out _).mono ?_
  rintro e1 X5 ⟨rfl, hb1⟩
  have HS5 := Lib.hid (HS4.out.later hb1)
  have HT5 := Lib.hid (show W.heap.size + 2 ≤ X5.heap.size by have := HT4.out; have := hb1.size; omega)
  clear hb1 y0 y1 y2 y3 y4 y5 y6 y7 y8 y9 y10
  obtain ⟨p, hp⟩ : ∃ p, p = X5.heap.size := ⟨_, rfl⟩
  obtain ⟨V5, hV5⟩ : ∃ V, V = X5.alloc (.cells #[.int .i64 X.wid, .int .i64 X.set, .int .u32 X.ent, .int .i64 X.hops, .int .i64 X.src, .int .i64 X.grp, .int .u32 X.id, .int .u64 X.bits.a, .int .u64 X.bits.b, .int .u64 X.bits.c, .int .u64 X.bits.d] 27) := ⟨_, rfl⟩
  have hbV : Below X5.heap.size X5 V5 := by rw [hV5]; exact (Below.refl _ _).alloc (Nat.le_refl _) _
  have HS6 := Lib.hid (HS5.out.later hbV)
  have HP6 := Lib.hid (show BoxV p X.wid X.set X.ent X.hops X.src X.grp X.id X.bits.a X.bits.b X.bits.c X.bits.d V5 by rw [hV5, hp]; exact heap_alloc_new _ _)
  have HPP := Lib.hid (show W.heap.size + 2 ≤ p by have := HT5.out; omega)
  obtain ⟨y0, y1, y2, y3, y4, y5, y6, y7, y8, y9, y10⟩ := HS6.out.h.cells
  rw [hV5] at y0 y1 y2 y3 y4 y5 y6 y7 y8 y9 y10
  have HV5 := Lib.hid hV5
  have HP := Lib.hid hp
  clear hbV hV5 hp
  go_wp2_with fail
  rw [← HV5.out, ← HP.out]
  clear y0 y1 y2 y3 y4 y5 y6 y7 y8 y9 y10
  refine (HH2.out _).mono ?_
  rintro e1 X6 ⟨rfl, hb1⟩
  have HS7 := Lib.hid (HS6.out.later hb1)
  have HP7 := Lib.hid (HP6.out.later hb1)
  clear hb1
  obtain ⟨q, hq⟩ : ∃ q, q = X6.heap.size := ⟨_, rfl⟩
  obtain ⟨V6, hV6⟩ : ∃ V, V = X6.alloc (.cells #[.int .i64 X.wid, .int .i64 X.set, .int .u32 X.ent, .int .i64 X.hops, .int .i64 X.src, .int .i64 X.grp, .int .u32 X.id, .int .u64 X.bits.a, .int .u64 X.bits.b, .int .u64 X.bits.c, .int .u64 X.bits.d] 27) := ⟨_, rfl⟩
  have hbV : Below X6.heap.size X6 V6 := by rw [hV6]; exact (Below.refl _ _).alloc (Nat.le_refl _) _
  have HS8 := Lib.hid (HS7.out.later hbV)
  have HP8 := Lib.hid (HP7.out.later hbV)
  have HQ8 := Lib.hid (show BoxV q X.wid X.set X.ent X.hops X.src X.grp X.id X.bits.a X.bits.b X.bits.c X.bits.d V6 by rw [hV6, hq]; exact heap_alloc_new _ _)
  have HQP := Lib.hid (show p < q by
    have h1 := HP7.out
    rw [hq]; exact (Array.getElem?_eq_some_iff.1 h1).1)
  obtain ⟨y0, y1, y2, y3, y4, y5, y6, y7, y8, y9, y10⟩ := HS8.out.h.cells
  obtain ⟨z0, z1, z2, z3, z4, z5, z6, z7, z8, z9, z10⟩ := HP8.out.cells
  obtain ⟨g0, g1, g2, g3, g4, g5, g6, g7, g8, g9, g10⟩ := HQ8.out.cells
  obtain ⟨b0, b1, b2, b3⟩ := BoxBt.cells HS8.out.b
  rw [hV6] at y0 y1 y2 y3 y4 y5 y6 y7 y8 y9 y10 z0 z1 z2 z3 z4 z5 z6 z7 z8 z9 z10 g0 g1 g2 g3 g4 g5 g6 g7 g8 g9 g10 b0 b1 b2 b3
  have HV6 := Lib.hid hV6
  have HQ := Lib.hid hq
  have heq := HEX.out
  clear hbV hV6
  rw [hq] at g0 g1 g2 g3 g4 g5 g6 g7 g8 g9 g10
  clear hq
  go_wp2_with fail
  rw [← HV6.out, ← HQ.out]
  clear y0 y1 y2 y3 y4 y5 y6 y7 y8 y9 y10 z0 z1 z2 z3 z4 z5 z6 z7 z8 z9 z10 g0 g1 g2 g3 g4 g5 g6 g7 g8 g9 g10 b0 b1 b2 b3 heq
  refine (HI1.out _).mono ?_
  rintro e1 X7 ⟨rfl, hb1⟩
  have HS9 := Lib.hid (HS8.out.later hb1)
  have hp9 := HP8.out.later hb1
  have HQ9 := Lib.hid (HQ8.out.later hb1)
  clear hb1
  obtain ⟨V7, hV7⟩ : ∃ V, V = (((((((((((X7.setCell ⟨p, 0, none⟩ (.int .i64 Z.wid)).setCell ⟨p, 1, none⟩ (.int .i64 Z.set)).setCell ⟨p, 2, none⟩ (.int .u32 (Z.ent : Int))).setCell ⟨p, 3, none⟩ (.int .i64 Z.hops)).setCell ⟨p, 4, none⟩ (.int .i64 Z.src)).setCell ⟨p, 5, none⟩ (.int .i64 Z.grp)).setCell ⟨p, 6, none⟩ (.int .u32 (Z.id : Int))).setCell ⟨p, 7, none⟩ (.int .u64 (Z.bits.a : Int))).setCell ⟨p, 8, none⟩ (.int .u64 (Z.bits.b : Int))).setCell ⟨p, 9, none⟩ (.int .u64 (Z.bits.c : Int))).setCell ⟨p, 10, none⟩ (.int .u64 (Z.bits.d : Int))) := ⟨_, rfl⟩
  have hpb := HPP.out
  have hqp := HQP.out
  have HS10 := Lib.hid (show TlS W h b V7 by
    rw [hV7]
    exact (((((((((((HS9.out.set _ (by omega)).set _ (by omega)).set _ (by omega)).set _ (by omega)).set _ (by omega)).set _ (by omega)).set _ (by omega)).set _ (by omega)).set _ (by omega)).set _ (by omega)).set _ (by omega)))
  have HP10 := Lib.hid (show BoxV p Z.wid Z.set Z.ent Z.hops Z.src Z.grp Z.id Z.bits.a Z.bits.b Z.bits.c Z.bits.d V7 by rw [hV7]; exact (((((((((((hp9.set0 _).set1 _).set2 _).set3 _).set4 _).set5 _).set6 _).set7 _).set8 _).set9 _).set10 _))
  have HQ10 := Lib.hid (show BoxV q X.wid X.set X.ent X.hops X.src X.grp X.id X.bits.a X.bits.b X.bits.c X.bits.d V7 by
    rw [hV7]
    exact (((((((((((HQ9.out.other _ _ _ (by omega)).other _ _ _ (by omega)).other _ _ _ (by omega)).other _ _ _ (by omega)).other _ _ _ (by omega)).other _ _ _ (by omega)).other _ _ _ (by omega)).other _ _ _ (by omega)).other _ _ _ (by omega)).other _ _ _ (by omega)).other _ _ _ (by omega)))
  obtain ⟨f0, f1, f2, f3, f4, f5, f6, f7, f8, f9, f10⟩ := hp9.cells
  obtain ⟨k0, k1, k2, k3, k4, k5, k6, k7, k8, k9, k10⟩ := hp9.frozen
  obtain ⟨y0, y1, y2, y3, y4, y5, y6, y7, y8, y9, y10⟩ := HS10.out.h.cells
  obtain ⟨b0, b1, b2, b3⟩ := BoxBt.cells HS10.out.b
  rw [hV7] at y0 y1 y2 y3 y4 y5 y6 y7 y8 y9 y10 b0 b1 b2 b3
  have HV7 := Lib.hid hV7
  clear hV7 hp9
  go_wp2_with fail
  rw [← HV7.out]
  clear y0 y1 y2 y3 y4 y5 y6 y7 y8 y9 y10 b0 b1 b2 b3 f0 f1 f2 f3 f4 f5 f6 f7 f8 f9 f10 k0 k1 k2 k3 k4 k5 k6 k7 k8 k9 k10
  refine (HI2.out _).mono ?_
  rintro e1 X8 ⟨rfl, hb1⟩
  have HS11 := Lib.hid (HS10.out.later hb1)
  have hp11 := HP10.out.later hb1
  have hq11 := HQ10.out.later hb1
  clear hb1
  obtain ⟨V8, hV8⟩ : ∃ V, V = (((((((((((X8.setCell ⟨q, 0, none⟩ (.int .i64 Z.wid)).setCell ⟨q, 1, none⟩ (.int .i64 Z.set)).setCell ⟨q, 2, none⟩ (.int .u32 (Z.ent : Int))).setCell ⟨q, 3, none⟩ (.int .i64 Z.hops)).setCell ⟨q, 4, none⟩ (.int .i64 Z.src)).setCell ⟨q, 5, none⟩ (.int .i64 Z.grp)).setCell ⟨q, 6, none⟩ (.int .u32 (Z.id : Int))).setCell ⟨q, 7, none⟩ (.int .u64 (Z.bits.a : Int))).setCell ⟨q, 8, none⟩ (.int .u64 (Z.bits.b : Int))).setCell ⟨q, 9, none⟩ (.int .u64 (Z.bits.c : Int))).setCell ⟨q, 10, none⟩ (.int .u64 (Z.bits.d : Int))) := ⟨_, rfl⟩
  have HS12 := Lib.hid (show TlS W h b V8 by
    rw [hV8]
    exact (((((((((((HS11.out.set _ (by omega)).set _ (by omega)).set _ (by omega)).set _ (by omega)).set _ (by omega)).set _ (by omega)).set _ (by omega)).set _ (by omega)).set _ (by omega)).set _ (by omega)).set _ (by omega)))
  have HP12 := Lib.hid (show BoxV p Z.wid Z.set Z.ent Z.hops Z.src Z.grp Z.id Z.bits.a Z.bits.b Z.bits.c Z.bits.d V8 by
    rw [hV8]
    exact (((((((((((hp11.other _ _ _ (by omega)).other _ _ _ (by omega)).other _ _ _ (by omega)).other _ _ _ (by omega)).other _ _ _ (by omega)).other _ _ _ (by omega)).other _ _ _ (by omega)).other _ _ _ (by omega)).other _ _ _ (by omega)).other _ _ _ (by omega)).other _ _ _ (by omega)))
  have HQ12 := Lib.hid (show BoxV q Z.wid Z.set Z.ent Z.hops Z.src Z.grp Z.id Z.bits.a Z.bits.b Z.bits.c Z.bits.d V8 by rw [hV8]; exact (((((((((((hq11.set0 _).set1 _).set2 _).set3 _).set4 _).set5 _).set6 _).set7 _).set8 _).set9 _).set10 _))
  obtain ⟨f0, f1, f2, f3, f4, f5, f6, f7, f8, f9, f10⟩ := hq11.cells
  obtain ⟨k0, k1, k2, k3, k4, k5, k6, k7, k8, k9, k10⟩ := hq11.frozen
  obtain ⟨z0, z1, z2, z3, z4, z5, z6, z7, z8, z9, z10⟩ := HP12.out.cells
  obtain ⟨g0, g1, g2, g3, g4, g5, g6, g7, g8, g9, g10⟩ := HQ12.out.cells
  rw [hV8] at z0 z1 z2 z3 z4 z5 z6 z7 z8 z9 z10 g0 g1 g2 g3 g4 g5 g6 g7 g8 g9 g10
  have HV8 := Lib.hid hV8
  have heq := HEZ.out
  clear hV8 hp11 hq11
  go_wp2_with fail
  rw [← HV8.out]
  clear z0 z1 z2 z3 z4 z5 z6 z7 z8 z9 z10 g0 g1 g2 g3 g4 g5 g6 g7 g8 g9 g10 f0 f1 f2 f3 f4 f5 f6 f7 f8 f9 f10 k0 k1 k2 k3 k4 k5 k6 k7 k8 k9 k10 heq
  refine (works_any _).mono ?_
  rintro e1 X9 ⟨rfl, hb1⟩
  have HS13 := Lib.hid (HS12.out.later hb1)
  clear hb1
  go_wp2_with fail
  go_returns
  exact ⟨rfl, HS13.out.bel⟩

end Go.Proofs.Ytbcgfojdlehnpaa
