/- The walk of the law MsgReads. (Printed by mkmsgreads.py.) -/
import Derived.Test.YtickjmkkgcfkhaaGreatMsRF
import Derived.Test.YtickjmkkgcfkhaaGreatMsRD
set_option linter.unusedSimpArgs false
set_option linter.unusedVariables false
set_option maxRecDepth 100000
set_option maxRecDepth 100000
namespace Go.Proofs.YtickjmkkgcfkhaaGreat
open Go.RowKit Go.ChangeShapes Go.WideShapes

def RowAny (V : World) (g n : Nat) : Prop := ∃ (cur : Array Value) (t : TypeId) (lo hi : Nat), V.heap[g]? = some (.cells cur t (lo, hi)) ∧ (hi ≤ lo ∨ cur.size ≤ lo) ∧ n * 2 ≤ cur.size
theorem RowAny.later {V X : World} {g n : Nat} (h : RowAny V g n) (hb : Below V.heap.size V X) : RowAny X g n := by
  obtain ⟨cur, t, lo, hi, h1, h2, h3⟩ := h
  exact ⟨cur, t, lo, hi, (hb.block g (Array.getElem?_eq_some_iff.1 h1).1).trans h1, h2, h3⟩
theorem RowAny.set {V : World} {g n : Nat} (h : RowAny V g n) (j : Nat) (u : Value) : RowAny (V.setCell ⟨g, j, none⟩ u) g n := by
  obtain ⟨cur, t, lo, hi, h1, h2, h3⟩ := h
  refine ⟨cur.setIfInBounds j u, t, lo, hi, ?_, by simpa using h2, by simpa using h3⟩
  rw [setCell_eq_setRow V g j cur t (lo, hi) u h1]
  exact setRow_heap V g cur _ t _ h1
theorem RowAny.cell {V : World} {g n : Nat} (h : RowAny V g n) {j : Nat} (hj : j < n * 2) : (∃ u, V.cell? ⟨g, j, none⟩ = some u) ∧ V.frozen? ⟨g, j, none⟩ = false := by
  obtain ⟨cur, t, lo, hi, h1, h2, h3⟩ := h
  exact ⟨⟨cur[j]'(by omega), by rw [cell_of_row V g j cur t _ h1, Array.getElem?_eq_getElem (by omega)]⟩, frozen_mark V g j cur t lo hi h1 h2 (by omega)⟩
theorem ARow.any {V : World} {B : Nat} {sa : Option Addr} {sc : Nat} {xs : List (Int × Int)} (h : ARow V B sa sc xs) (hn : 0 < xs.length) : ∃ g, sa = some ⟨g, 0, none⟩ ∧ B ≤ g ∧ g < V.heap.size ∧ RowAny V g xs.length := by
  rcases h.2 with ⟨_, h0⟩ | ⟨g, cap, cur, lo, hi, hv, hb, hg, hm, hnc, hcm, hcs, htake⟩
  · omega
  · simp only [Value.slice.injEq] at hv
    exact ⟨g, hv.1, hb, (Array.getElem?_eq_some_iff.1 hg).1, cur, _, lo, hi, hg, hm, by omega⟩

/-- In the loop: both messages in their boxes, the wanted one's row untouched, the other's row of cells there. -/
structure MrS (W : World) (r : Ms) (sa : Option Addr) (sc : Nat) (sb : Option Addr) (sd p q : Nat) (V : World) : Prop where
  b0 : BoxM p r sa sc V
  b1 : BoxM q r sb sd V
  adj : AdjsIn V sb r.rc.adjs
  row : 0 < r.rc.adjs.length → ∃ g h, sa = some ⟨g, 0, none⟩ ∧ sb = some ⟨h, 0, none⟩ ∧ W.heap.size ≤ g ∧ g < p ∧ p < h ∧ h < q ∧ RowAny V g r.rc.adjs.length
  bel : Below W.heap.size W V
theorem MrS.later {W V X : World} {r : Ms} {sa : Option Addr} {sc : Nat} {sb : Option Addr} {sd p q : Nat} (h : MrS W r sa sc sb sd p q V) (hb : Below V.heap.size V X) : MrS W r sa sc sb sd p q X := by
  refine ⟨h.b0.later hb, h.b1.later hb, h.adj.later hb, fun hi => ?_, h.bel.trans (hb.mono h.bel.size)⟩
  obtain ⟨g, k, e1, e2, a1, a2, a3, a4, a5⟩ := h.row hi
  exact ⟨g, k, e1, e2, a1, a2, a3, a4, a5.later hb⟩
theorem MrS.set {W V : World} {r : Ms} {sc : Nat} {sd p q g h : Nat} (hs : MrS W r (some ⟨g, 0, none⟩) sc (some ⟨h, 0, none⟩) sd p q V) (a1 : W.heap.size ≤ g) (a2 : g < p) (a3 : p < h) (a4 : h < q) (j : Nat) (u : Value) :
    MrS W r (some ⟨g, 0, none⟩) sc (some ⟨h, 0, none⟩) sd p q (V.setCell ⟨g, j, none⟩ u) := by
  refine ⟨?_, ?_, ?_, ?_, ?_⟩
  · exact (heap_setCell_other _ _ _ _ (by simp only; omega)).trans hs.b0
  · exact (heap_setCell_other _ _ _ _ (by simp only; omega)).trans hs.b1
  · intro i hi
    obtain ⟨ad, e, c0, c1⟩ := hs.adj i hi
    refine ⟨ad, e, ?_, ?_⟩
    · simp only [Option.some.injEq] at e
      subst e
      rw [Addr.add_mid] at c0 ⊢
      rw [World.cell?_setCell_other _ _ _ _ (by simp only [ne_eq, Addr.mk.injEq]; omega)]; exact c0
    · simp only [Option.some.injEq] at e
      subst e
      rw [Addr.add_mid] at c1 ⊢
      rw [World.cell?_setCell_other _ _ _ _ (by simp only [ne_eq, Addr.mk.injEq]; omega)]; exact c1
  · intro hi
    obtain ⟨g', h', e1, e2, _, _, _, _, a5⟩ := hs.row hi
    simp only [Option.some.injEq, Addr.mk.injEq, and_true] at e1 e2
    subst e1; subst e2
    exact ⟨_, _, rfl, rfl, a1, a2, a3, a4, a5.set j u⟩
  · exact hs.bel.setCell (by simp only; omega) _
def MrRel (W : World) (r : Ms) (sa : Option Addr) (sc : Nat) (sb : Option Addr) (sd p q : Nat) (i : Value) (V : World) : Prop := ∃ k : Nat, i = .int .i64 k ∧ k ≤ r.rc.adjs.length ∧ MrS W r sa sc sb sd p q V


set_option maxHeartbeats 12800000 in
theorem mreads_walk (r : Ms) (d kd : Int) (s : ByteArray) (w : World) (hl : r.rc.adjs.length ≤ 255)
    (hD : ∀ W, Calls Tryz.prog 4 #[.string s] W fun e W' => ∃ sa sc, e = .returned (.tuple #[.agg (r.cs sa sc), .int .i64 d]) ∧ ARow W' W.heap.size sa sc r.rc.adjs ∧ Below W.heap.size W W')
    (hR : ∀ W, Calls Tryz.prog 5 #[.string s] W fun e W' => ∃ sa sc, e = .returned (.tuple #[.agg (r.cs sa sc), .int .i64 d]) ∧ ARow W' W.heap.size sa sc r.rc.adjs ∧ Below W.heap.size W W')
    (hM : ∀ sa sc sb sd W, AdjsIn W sa r.rc.adjs → AdjsIn W sb r.rc.adjs → Calls Tryz.prog 6 #[.agg (r.cs sa sc), .agg (r.cs sb sd)] W fun e W' => e = .returned (.bool true) ∧ Below W.heap.size W W')
    (hK : ∀ W, Calls Tryz.prog 7 #[.string s] W fun e W' => e = .returned (.int .i64 kd) ∧ Below W.heap.size W W')
    (hRK : ∀ W, Calls Tryz.prog 8 #[.string s] W fun e W' => e = .returned (.int .i64 kd) ∧ Below W.heap.size W W') :
    Calls Tryz.prog 3 #[.string s] w fun e w' => e = .returned (.bool true) ∧ Below w.heap.size w w' := by
  have HD := Lib.hid hD
  have HR := Lib.hid hR
  have HM := Lib.hid hM
  have HK := Lib.hid hK
  have HRK := Lib.hid hRK
  have HL := Lib.hid hl
  clear hD hR hM hK hRK hl
  go_enter Tryz.func3, Tryz.ntmps3
  go_wp2_with fail
  refine (HD.out _).mono ?_
  rintro e V1 ⟨sa, sc, rfl, hro1, hb1⟩
  have HAL1 := Lib.hid (show (V1.alloc (.cells #[.int .i64 0, .int .i64 0, .int .u32 0, .int .u32 0, .int .i64 0, .bool false, .slice none 0 0, .int .i64 0, .int .u32 0, .int .u32 0, .int .i64 0, .int .i64 0, .int .u32 0, .int .i64 0, .int .i64 0, .int .i64 0, .int .u32 0, .int .u64 0, .int .u64 0, .int .u64 0, .int .u64 0, .int .i64 0, .int .i64 0, .int .i64 0, .int .u32 0, .int .u32 0, .int .u8 0, .int .i64 0, .int .u32 0, .int .i64 0, .int .u32 0, .int .u32 0] 38)).heap[V1.heap.size]? = some (.cells #[.int .i64 0, .int .i64 0, .int .u32 0, .int .u32 0, .int .i64 0, .bool false, .slice none 0 0, .int .i64 0, .int .u32 0, .int .u32 0, .int .i64 0, .int .i64 0, .int .u32 0, .int .i64 0, .int .i64 0, .int .i64 0, .int .u32 0, .int .u64 0, .int .u64 0, .int .u64 0, .int .u64 0, .int .i64 0, .int .i64 0, .int .i64 0, .int .u32 0, .int .u32 0, .int .u8 0, .int .i64 0, .int .u32 0, .int .i64 0, .int .u32 0, .int .u32 0] 38 (0, 0)) from heap_alloc_new _ _)
  have HI1 := Lib.hid (info_msg' r sa sc)
  have HS1 := Lib.hid (show (#[.int .i64 0, .int .i64 0, .int .u32 0, .int .u32 0, .int .i64 0, .bool false, .slice none 0 0, .int .i64 0, .int .u32 0, .int .u32 0, .int .i64 0, .int .i64 0, .int .u32 0, .int .i64 0, .int .i64 0, .int .i64 0, .int .u32 0, .int .u64 0, .int .u64 0, .int .u64 0, .int .u64 0, .int .i64 0, .int .i64 0, .int .i64 0, .int .u32 0, .int .u32 0, .int .u8 0, .int .i64 0, .int .u32 0, .int .i64 0, .int .u32 0, .int .u32 0] : Array Value).size = (r.cs sa sc).size from rfl)
  have HO1 := Lib.hid (cs_one r sa sc)
  go_upto_region 2 with ((with_reducible refine wpList_store_row rfl 38 (.tmp 3) (.tmp 12) rfl rfl V1.heap.size rfl 38 #[.int .i64 0, .int .i64 0, .int .u32 0, .int .u32 0, .int .i64 0, .bool false, .slice none 0 0, .int .i64 0, .int .u32 0, .int .u32 0, .int .i64 0, .int .i64 0, .int .u32 0, .int .i64 0, .int .i64 0, .int .i64 0, .int .u32 0, .int .u64 0, .int .u64 0, .int .u64 0, .int .u64 0, .int .i64 0, .int .i64 0, .int .i64 0, .int .u32 0, .int .u32 0, .int .u8 0, .int .i64 0, .int .u32 0, .int .i64 0, .int .u32 0, .int .u32 0] (r.cs sa sc) rfl HAL1.out HI1.out HS1.out HO1.out ?_))
  obtain ⟨X1, hX1⟩ : ∃ X, X = (V1.alloc (.cells #[.int .i64 0, .int .i64 0, .int .u32 0, .int .u32 0, .int .i64 0, .bool false, .slice none 0 0, .int .i64 0, .int .u32 0, .int .u32 0, .int .i64 0, .int .i64 0, .int .u32 0, .int .i64 0, .int .i64 0, .int .i64 0, .int .u32 0, .int .u64 0, .int .u64 0, .int .u64 0, .int .u64 0, .int .i64 0, .int .i64 0, .int .i64 0, .int .u32 0, .int .u32 0, .int .u8 0, .int .i64 0, .int .u32 0, .int .i64 0, .int .u32 0, .int .u32 0] 38)).setRow V1.heap.size (r.cs sa sc) := ⟨_, rfl⟩
  obtain ⟨p, hp⟩ : ∃ p, p = V1.heap.size := ⟨_, rfl⟩
  have hx1 : Below V1.heap.size V1 X1 := by rw [hX1]; exact below_setRow ((Below.refl _ _).alloc (Nat.le_refl _) _) (Nat.le_refl _)
  have hpb : BoxM p r sa sc X1 := by rw [hX1, hp]; exact setRow_heap _ _ _ _ _ _ HAL1.out
  rw [← hX1, ← hp]
  have HPB := Lib.hid hpb
  have HP := Lib.hid hp
  have HB1 := Lib.hid hb1
  have HRO1 := Lib.hid hro1
  have HXB1 := Lib.hid hx1
  have HS1' := Lib.hid (show V1.heap.size + 1 = X1.heap.size by rw [hX1]; simp [World.size_alloc])
  clear hX1 hp hb1 hro1 hx1 hpb HAL1 HI1 HS1 HO1
  go_wp2_with fail
  refine (HR.out _).mono ?_
  rintro e V2 ⟨sb, sd, rfl, hro2, hb2⟩
  have HAL2 := Lib.hid (show (V2.alloc (.cells #[.int .i64 0, .int .i64 0, .int .u32 0, .int .u32 0, .int .i64 0, .bool false, .slice none 0 0, .int .i64 0, .int .u32 0, .int .u32 0, .int .i64 0, .int .i64 0, .int .u32 0, .int .i64 0, .int .i64 0, .int .i64 0, .int .u32 0, .int .u64 0, .int .u64 0, .int .u64 0, .int .u64 0, .int .i64 0, .int .i64 0, .int .i64 0, .int .u32 0, .int .u32 0, .int .u8 0, .int .i64 0, .int .u32 0, .int .i64 0, .int .u32 0, .int .u32 0] 38)).heap[V2.heap.size]? = some (.cells #[.int .i64 0, .int .i64 0, .int .u32 0, .int .u32 0, .int .i64 0, .bool false, .slice none 0 0, .int .i64 0, .int .u32 0, .int .u32 0, .int .i64 0, .int .i64 0, .int .u32 0, .int .i64 0, .int .i64 0, .int .i64 0, .int .u32 0, .int .u64 0, .int .u64 0, .int .u64 0, .int .u64 0, .int .i64 0, .int .i64 0, .int .i64 0, .int .u32 0, .int .u32 0, .int .u8 0, .int .i64 0, .int .u32 0, .int .i64 0, .int .u32 0, .int .u32 0] 38 (0, 0)) from heap_alloc_new _ _)
  have HI2 := Lib.hid (info_msg' r sb sd)
  have HS2 := Lib.hid (show (#[.int .i64 0, .int .i64 0, .int .u32 0, .int .u32 0, .int .i64 0, .bool false, .slice none 0 0, .int .i64 0, .int .u32 0, .int .u32 0, .int .i64 0, .int .i64 0, .int .u32 0, .int .i64 0, .int .i64 0, .int .i64 0, .int .u32 0, .int .u64 0, .int .u64 0, .int .u64 0, .int .u64 0, .int .i64 0, .int .i64 0, .int .i64 0, .int .u32 0, .int .u32 0, .int .u8 0, .int .i64 0, .int .u32 0, .int .i64 0, .int .u32 0, .int .u32 0] : Array Value).size = (r.cs sb sd).size from rfl)
  have HO2 := Lib.hid (cs_one r sb sd)
  go_upto_region 3 with ((with_reducible refine wpList_store_row rfl 38 (.tmp 5) (.tmp 17) rfl rfl V2.heap.size rfl 38 #[.int .i64 0, .int .i64 0, .int .u32 0, .int .u32 0, .int .i64 0, .bool false, .slice none 0 0, .int .i64 0, .int .u32 0, .int .u32 0, .int .i64 0, .int .i64 0, .int .u32 0, .int .i64 0, .int .i64 0, .int .i64 0, .int .u32 0, .int .u64 0, .int .u64 0, .int .u64 0, .int .u64 0, .int .i64 0, .int .i64 0, .int .i64 0, .int .u32 0, .int .u32 0, .int .u8 0, .int .i64 0, .int .u32 0, .int .i64 0, .int .u32 0, .int .u32 0] (r.cs sb sd) rfl HAL2.out HI2.out HS2.out HO2.out ?_))
  obtain ⟨X2, hX2⟩ : ∃ X, X = (V2.alloc (.cells #[.int .i64 0, .int .i64 0, .int .u32 0, .int .u32 0, .int .i64 0, .bool false, .slice none 0 0, .int .i64 0, .int .u32 0, .int .u32 0, .int .i64 0, .int .i64 0, .int .u32 0, .int .i64 0, .int .i64 0, .int .i64 0, .int .u32 0, .int .u64 0, .int .u64 0, .int .u64 0, .int .u64 0, .int .i64 0, .int .i64 0, .int .i64 0, .int .u32 0, .int .u32 0, .int .u8 0, .int .i64 0, .int .u32 0, .int .i64 0, .int .u32 0, .int .u32 0] 38)).setRow V2.heap.size (r.cs sb sd) := ⟨_, rfl⟩
  obtain ⟨q, hq⟩ : ∃ q, q = V2.heap.size := ⟨_, rfl⟩
  have hx2 : Below V2.heap.size V2 X2 := by rw [hX2]; exact below_setRow ((Below.refl _ _).alloc (Nat.le_refl _) _) (Nat.le_refl _)
  have hqb : BoxM q r sb sd X2 := by rw [hX2, hq]; exact setRow_heap _ _ _ _ _ _ HAL2.out
  have HA := Lib.hid (((HRO1.out.adjs.later HXB1.out).later hb2).later hx2)
  have HS := Lib.hid (show MrS w r sa sc sb sd p q X2 from by
    have hs1 := HS1'.out
    have hp := HP.out
    refine ⟨(HPB.out.later hb2).later hx2, hqb, hro2.adjs.later hx2, ?_, ?_⟩
    · intro hi
      obtain ⟨g, e1, g1, g2, ra⟩ := ARow.any HRO1.out hi
      obtain ⟨h, e2, h1, h2, _⟩ := ARow.any hro2 hi
      exact ⟨g, h, e1, e2, g1, by rw [hp]; exact g2, by omega, by rw [hq]; exact h2, ((ra.later HXB1.out).later hb2).later hx2⟩
    · have t1 := HB1.out.trans (HXB1.out.mono HB1.out.size)
      have t2 := t1.trans (hb2.mono t1.size)
      exact t2.trans (hx2.mono t2.size))
  rw [← hX2, ← hq]
  have HC1 := Lib.hid (block_cells HS.out.b0)
  have HC2 := Lib.hid (block_cells HS.out.b1)
  clear hX2 hq hb2 hro2 hx2 hqb HAL2 HI2 HS2 HO2 HPB
  go_wp2_with (first | ((with_reducible refine wpList_load_cs rfl 38 (.tmp 3) rfl ⟨p, 0, none⟩ rfl (r.cs sa sc).toList _ HC1.out Tryz.underlying38 rfl (info_msg r sa sc) ?_); rw [Array.toArray_toList]) | ((with_reducible refine wpList_load_cs rfl 38 (.tmp 5) rfl ⟨q, 0, none⟩ rfl (r.cs sb sd).toList _ HC2.out Tryz.underlying38 rfl (info_msg r sb sd) ?_); rw [Array.toArray_toList]))
  refine (HM.out _ _ _ _ _ HA.out HS.out.adj).mono ?_
  rintro e V3 ⟨rfl, hb3⟩
  have HS3 := Lib.hid (HS.out.later hb3)
  clear hb3
  go_wp2_with fail
  refine (HK.out _).mono ?_
  rintro e V3b ⟨rfl, hb3⟩
  have HS3b := Lib.hid (HS3.out.later hb3)
  clear hb3
  go_wp2_with fail
  refine (HRK.out _).mono ?_
  rintro e V3c ⟨rfl, hb3⟩
  have HS3c := Lib.hid (HS3b.out.later hb3)
  clear hb3
  go_wp2_with fail
  go_loopw [7] (fun i wr => MrRel w r sa sc sb sd p q i wr) (fun i _ => r.rc.adjs.length - (intOf i).toNat)
  case atStart => exact ⟨0, rfl, Nat.zero_le _, HS3c.out⟩
  case round =>
    obtain ⟨k, rfl, hk, hS⟩ := hrel
    have x6 : wr.cell? ⟨p, 6, none⟩ = some (.slice sa r.rc.adjs.length sc) := hS.b0.cell rfl
    by_cases hlt : k < r.rc.adjs.length
    · have hlti : (k : Int) < (r.rc.adjs.length : Int) := by omega
      have hl16 := HL.out
      obtain ⟨g, h, rfl, rfl, a1, a2, a3, a4, hany⟩ := hS.row (by omega)
      obtain ⟨⟨u, hu⟩, f0⟩ := hany.cell (j := k * 2) (by omega)
      have HSK := Lib.hid (show MrRel w r (some ⟨g, 0, none⟩) sc (some ⟨h, 0, none⟩) sd p q (.int .i64 ((k : Int) + 1)) (wr.setCell ⟨g, k * 2, none⟩ (.int .i64 99)) from ⟨k + 1, by go_num, hlt, hS.set a1 a2 a3 a4 _ _⟩)
      clear hS hany
      go_wp2_with fail
      case roundEnd => exact ⟨HSK.out, by simp [intOf]; omega⟩
    · obtain rfl : k = r.rc.adjs.length := by omega
      have HSK := Lib.hid hS
      clear hS
      go_wp2_with fail
      clear x6
      refine (HD.out _).mono ?_
      rintro e V4 ⟨sa4, sc4, rfl, hro4, hb4⟩
      have HAL4 := Lib.hid (show (V4.alloc (.cells #[.int .i64 0, .int .i64 0, .int .u32 0, .int .u32 0, .int .i64 0, .bool false, .slice none 0 0, .int .i64 0, .int .u32 0, .int .u32 0, .int .i64 0, .int .i64 0, .int .u32 0, .int .i64 0, .int .i64 0, .int .i64 0, .int .u32 0, .int .u64 0, .int .u64 0, .int .u64 0, .int .u64 0, .int .i64 0, .int .i64 0, .int .i64 0, .int .u32 0, .int .u32 0, .int .u8 0, .int .i64 0, .int .u32 0, .int .i64 0, .int .u32 0, .int .u32 0] 38)).heap[V4.heap.size]? = some (.cells #[.int .i64 0, .int .i64 0, .int .u32 0, .int .u32 0, .int .i64 0, .bool false, .slice none 0 0, .int .i64 0, .int .u32 0, .int .u32 0, .int .i64 0, .int .i64 0, .int .u32 0, .int .i64 0, .int .i64 0, .int .i64 0, .int .u32 0, .int .u64 0, .int .u64 0, .int .u64 0, .int .u64 0, .int .i64 0, .int .i64 0, .int .i64 0, .int .u32 0, .int .u32 0, .int .u8 0, .int .i64 0, .int .u32 0, .int .i64 0, .int .u32 0, .int .u32 0] 38 (0, 0)) from heap_alloc_new _ _)
      have HI4 := Lib.hid (info_msg' r sa4 sc4)
      have HS4 := Lib.hid (show (#[.int .i64 0, .int .i64 0, .int .u32 0, .int .u32 0, .int .i64 0, .bool false, .slice none 0 0, .int .i64 0, .int .u32 0, .int .u32 0, .int .i64 0, .int .i64 0, .int .u32 0, .int .i64 0, .int .i64 0, .int .i64 0, .int .u32 0, .int .u64 0, .int .u64 0, .int .u64 0, .int .u64 0, .int .i64 0, .int .i64 0, .int .i64 0, .int .u32 0, .int .u32 0, .int .u8 0, .int .i64 0, .int .u32 0, .int .i64 0, .int .u32 0, .int .u32 0] : Array Value).size = (r.cs sa4 sc4).size from rfl)
      have HO4 := Lib.hid (cs_one r sa4 sc4)
      go_upto_region 10 with ((with_reducible refine wpList_store_row rfl 38 (.tmp 8) (.tmp 52) rfl rfl V4.heap.size rfl 38 #[.int .i64 0, .int .i64 0, .int .u32 0, .int .u32 0, .int .i64 0, .bool false, .slice none 0 0, .int .i64 0, .int .u32 0, .int .u32 0, .int .i64 0, .int .i64 0, .int .u32 0, .int .i64 0, .int .i64 0, .int .i64 0, .int .u32 0, .int .u64 0, .int .u64 0, .int .u64 0, .int .u64 0, .int .i64 0, .int .i64 0, .int .i64 0, .int .u32 0, .int .u32 0, .int .u8 0, .int .i64 0, .int .u32 0, .int .i64 0, .int .u32 0, .int .u32 0] (r.cs sa4 sc4) rfl HAL4.out HI4.out HS4.out HO4.out ?_))
      obtain ⟨X4, hX4⟩ : ∃ X, X = (V4.alloc (.cells #[.int .i64 0, .int .i64 0, .int .u32 0, .int .u32 0, .int .i64 0, .bool false, .slice none 0 0, .int .i64 0, .int .u32 0, .int .u32 0, .int .i64 0, .int .i64 0, .int .u32 0, .int .i64 0, .int .i64 0, .int .i64 0, .int .u32 0, .int .u64 0, .int .u64 0, .int .u64 0, .int .u64 0, .int .i64 0, .int .i64 0, .int .i64 0, .int .u32 0, .int .u32 0, .int .u8 0, .int .i64 0, .int .u32 0, .int .i64 0, .int .u32 0, .int .u32 0] 38)).setRow V4.heap.size (r.cs sa4 sc4) := ⟨_, rfl⟩
      obtain ⟨p4, hp4⟩ : ∃ p, p = V4.heap.size := ⟨_, rfl⟩
      have hx4 : Below V4.heap.size V4 X4 := by rw [hX4]; exact below_setRow ((Below.refl _ _).alloc (Nat.le_refl _) _) (Nat.le_refl _)
      have HPB4 := Lib.hid (show BoxM p4 r sa4 sc4 X4 by rw [hX4, hp4]; exact setRow_heap _ _ _ _ _ _ HAL4.out)
      have HS4' := Lib.hid ((HSK.out.later hb4).later hx4)
      have HA4 := Lib.hid (hro4.adjs.later hx4)
      rw [← hX4, ← hp4]
      have HC4 := Lib.hid (block_cells HPB4.out)
      have HC5 := Lib.hid (block_cells HS4'.out.b1)
      clear hX4 hp4 hx4 hb4 hro4 HAL4 HI4 HS4 HO4
      go_wp2_with (first | ((with_reducible refine wpList_load_cs rfl 38 (.tmp 8) rfl ⟨p4, 0, none⟩ rfl (r.cs sa4 sc4).toList _ HC4.out Tryz.underlying38 rfl (info_msg r sa4 sc4) ?_); rw [Array.toArray_toList]) | ((with_reducible refine wpList_load_cs rfl 38 (.tmp 5) rfl ⟨q, 0, none⟩ rfl (r.cs sb sd).toList _ HC5.out Tryz.underlying38 rfl (info_msg r sb sd) ?_); rw [Array.toArray_toList]))
      refine (HM.out _ _ _ _ _ HA4.out HS4'.out.adj).mono ?_
      rintro e V5 ⟨rfl, hb5⟩
      have HS5 := Lib.hid (HS4'.out.later hb5)
      clear hb5
      go_wp2_with fail
      refine (works_any _).mono ?_
      rintro e V6 ⟨rfl, hb6⟩
      have HS6 := Lib.hid (HS5.out.later hb6)
      clear hb6
      go_wp2_with fail
      go_returns
      exact ⟨rfl, HS6.out.bel⟩

theorem decM_ok (s : ByteArray) : (decM s).ok ∧ (decM s).rc.adjs.length ≤ 255 := by
  unfold decM
  split
  · exact ⟨got_ok _ _ (by have := ((openS s).data.toList.headD 0).toNat_lt; unfold kindOf I64; omega), got_adjs _ _⟩
  · exact ⟨Ms.zero_ok, Nat.zero_le _⟩
theorem msgReads_walk (s : ByteArray) (w : World) (hs : s.size ≤ 140737488351232) :
    Calls Tryz.prog 3 #[.string s] w fun e w' => e = .returned (.bool true) ∧ Below w.heap.size w w' := by
  obtain ⟨hok, hl⟩ := decM_ok s
  refine mreads_walk (decM s) (decME s) (knd s) s w hl (fun W => mdecode_any s W (by omega)) (fun W => rmdecode_any s W (by omega)) (fun sa sc sb sd W h1 h2 => rmsame_any (decM s) sa sc sb sd W hok h1 h2 (by unfold maxLen; omega)) (fun W => mkind_any s W (by omega)) (fun W => rmkind_any s W (by omega))

end Go.Proofs.YtickjmkkgcfkhaaGreat
