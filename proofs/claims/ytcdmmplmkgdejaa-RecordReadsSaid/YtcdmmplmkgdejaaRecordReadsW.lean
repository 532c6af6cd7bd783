/- The walk of the law RecordReads. -/
import Derived.Test.YtcdmmplmkgdejaaRecOpen
import Derived.Test.YtcdmmplmkgdejaaRecN
import Derived.Test.YtcdmmplmkgdejaaRecD
set_option linter.unusedSimpArgs false
set_option linter.unusedVariables false
namespace Go.Proofs.Ytcdmmplmkgdejaa
open Go.RowKit Go.ChangeShapes Go.WideShapes

def RowAny (V : World) (g n : Nat) : Prop := ∃ (cur : Array Value) (t : TypeId) (lo hi : Nat), V.heap[g]? = some (.cells cur t (lo, hi)) ∧ (hi ≤ lo ∨ cur.size ≤ lo) ∧ n * 2 ≤ cur.size
theorem RowAny.later {V X : World} {g n : Nat} (h : RowAny V g n) (hb : Below V.heap.size V X) : RowAny X g n := by
  obtain ⟨cur, t, lo, hi, h1, h2, h3⟩ := h
  exact ⟨cur, t, lo, hi, (hb.block g (Array.getElem?_eq_some_iff.1 h1).1).trans h1, h2, h3⟩
theorem RowAny.set {V : World} {g n : Nat} (h : RowAny V g n) (j : Nat) (u : Value) : RowAny (V.setCell ⟨g, j, none⟩ u) g n := by
  obtain ⟨cur, t, lo, hi, h1, h2, h3⟩ := h
  refine ⟨cur.setIfInBounds j u, t, lo, hi, ?_, by simpa using h2, by simpa using h3⟩
  rw [setCell_eq_setRow V g j cur t (lo, hi) u h1]
  exact setRow_heap V g cur _ t _ h1
theorem RowAny.cell {V : World} {g n : Nat} (h : RowAny V g n) {j : Nat} (hj : j < n * 2) : (∃ u, V.cell? ⟨g, j, none⟩ = some u) ∧ V.frozen? ⟨g, j, none⟩ = false := by
  obtain ⟨cur, t, lo, hi, h1, h2, h3⟩ := h
  exact ⟨⟨cur[j]'(by omega), by rw [cell_of_row V g j cur t _ h1, Array.getElem?_eq_getElem (by omega)]⟩, frozen_mark V g j cur t lo hi h1 h2 (by omega)⟩
theorem ARow.any {V : World} {B : Nat} {sa : Option Addr} {sc : Nat} {xs : List (Int × Int)} (h : ARow V B sa sc xs) (hn : 0 < xs.length) : ∃ g, sa = some ⟨g, 0, none⟩ ∧ B ≤ g ∧ g < V.heap.size ∧ RowAny V g xs.length := by
  rcases h.2 with ⟨_, h0⟩ | ⟨g, cap, cur, lo, hi, hv, hb, hg, hm, hnc, hcm, hcs, htake⟩
  · omega
  · simp only [Value.slice.injEq] at hv
    exact ⟨g, hv.1, hb, (Array.getElem?_eq_some_iff.1 hg).1, cur, _, lo, hi, hg, hm, by omega⟩

/-- In the loop: both records in their boxes, the wanted one's row untouched, the other's row of cells there. -/
structure ReS (W : World) (r : Rc) (sa : Option Addr) (sc : Nat) (sb : Option Addr) (sd p q : Nat) (V : World) : Prop where
  b0 : BoxR p r sa sc V
  b1 : BoxR q r sb sd V
  adj : AdjsIn V sb r.adjs
  row : 0 < r.adjs.length → ∃ g h, sa = some ⟨g, 0, none⟩ ∧ sb = some ⟨h, 0, none⟩ ∧ W.heap.size ≤ g ∧ g < p ∧ p < h ∧ h < q ∧ RowAny V g r.adjs.length
  bel : Below W.heap.size W V
theorem ReS.later {W V X : World} {r : Rc} {sa : Option Addr} {sc : Nat} {sb : Option Addr} {sd p q : Nat} (h : ReS W r sa sc sb sd p q V) (hb : Below V.heap.size V X) : ReS W r sa sc sb sd p q X := by
  refine ⟨h.b0.later hb, h.b1.later hb, h.adj.later hb, fun hi => ?_, h.bel.trans (hb.mono h.bel.size)⟩
  obtain ⟨g, k, e1, e2, a1, a2, a3, a4, a5⟩ := h.row hi
  exact ⟨g, k, e1, e2, a1, a2, a3, a4, a5.later hb⟩
theorem ReS.set {W V : World} {r : Rc} {sc : Nat} {sd p q g h : Nat} (hs : ReS W r (some ⟨g, 0, none⟩) sc (some ⟨h, 0, none⟩) sd p q V) (a1 : W.heap.size ≤ g) (a2 : g < p) (a3 : p < h) (a4 : h < q) (j : Nat) (u : Value) :
    ReS W r (some ⟨g, 0, none⟩) sc (some ⟨h, 0, none⟩) sd p q (V.setCell ⟨g, j, none⟩ u) := by
  refine ⟨?_, ?_, ?_, ?_, ?_⟩
  · exact (heap_setCell_other _ _ _ _ (by simp only; omega)).trans hs.b0
  · exact (heap_setCell_other _ _ _ _ (by simp only; omega)).trans hs.b1
  · intro i hi
    obtain ⟨ad, e, c0, c1⟩ := hs.adj i hi
    refine ⟨ad, e, ?_, ?_⟩
    · simp only [Option.some.injEq] at e
      subst e
      rw [Addr.add_mid] at c0 ⊢
      rw [World.cell?_setCell_other _ _ _ _ (by simp only [ne_eq, Addr.mk.injEq]; omega)]; exact c0
    · simp only [Option.some.injEq] at e
      subst e
      rw [Addr.add_mid] at c1 ⊢
      rw [World.cell?_setCell_other _ _ _ _ (by simp only [ne_eq, Addr.mk.injEq]; omega)]; exact c1
  · intro hi
    obtain ⟨g', h', e1, e2, _, _, _, _, a5⟩ := hs.row hi
    simp only [Option.some.injEq, Addr.mk.injEq, and_true] at e1 e2
    subst e1; subst e2
    exact ⟨_, _, rfl, rfl, a1, a2, a3, a4, a5.set j u⟩
  · exact hs.bel.setCell (by simp only; omega) _
def ReRel (W : World) (r : Rc) (sa : Option Addr) (sc : Nat) (sb : Option Addr) (sd p q : Nat) (i : Value) (V : World) : Prop := ∃ k : Nat, i = .int .i64 k ∧ k ≤ r.adjs.length ∧ ReS W r sa sc sb sd p q V

set_option maxRecDepth 100000 in
set_option maxHeartbeats 3200000 in
theorem reads_walk (r : Rc) (d : Int) (s : ByteArray) (w : World) (hl : r.adjs.length ≤ 16)
    (hD : ∀ W, Calls Try.prog 11 #[.string s] W fun e W' => ∃ sa sc, e = .returned (.tuple #[.agg #[.int .i64 r.org, .int .u32 r.ep, .int .u32 r.sq, .int .i64 r.clm, .bool r.ing, .slice sa r.adjs.length sc], .int .i64 d]) ∧ ARow W' W.heap.size sa sc r.adjs ∧ Below W.heap.size W W')
    (hR : ∀ W, Calls Try.prog 12 #[.string s] W fun e W' => ∃ sa sc, e = .returned (.tuple #[.agg #[.int .i64 r.org, .int .u32 r.ep, .int .u32 r.sq, .int .i64 r.clm, .bool r.ing, .slice sa r.adjs.length sc], .int .i64 d]) ∧ ARow W' W.heap.size sa sc r.adjs ∧ Below W.heap.size W W')
    (hM : ∀ sa sc sb sd W, AdjsIn W sa r.adjs → AdjsIn W sb r.adjs → Calls Try.prog 13 #[.agg #[.int .i64 r.org, .int .u32 r.ep, .int .u32 r.sq, .int .i64 r.clm, .bool r.ing, .slice sa r.adjs.length sc], .agg #[.int .i64 r.org, .int .u32 r.ep, .int .u32 r.sq, .int .i64 r.clm, .bool r.ing, .slice sb r.adjs.length sd]] W fun e W' => e = .returned (.bool true) ∧ Below W.heap.size W W') :
    Calls Try.prog 3 #[.string s] w fun e w' => e = .returned (.bool true) ∧ Below w.heap.size w w' := by
  have HD := Lib.hid hD
  have HR := Lib.hid hR
  have HM := Lib.hid hM
  have HL := Lib.hid hl
  clear hD hR hM hl
  go_enter Try.func3, Try.ntmps3
  go_wp2_with fail
  refine (HD.out _).mono ?_
  rintro e V1 ⟨sa, sc, rfl, hro1, hb1⟩
  obtain ⟨X1, hX1⟩ : ∃ X, X = V1.alloc (.cells #[.int .i64 r.org, .int .u32 r.ep, .int .u32 r.sq, .int .i64 r.clm, .bool r.ing, .slice sa r.adjs.length sc] 25) := ⟨_, rfl⟩
  obtain ⟨p, hp⟩ : ∃ p, p = V1.heap.size := ⟨_, rfl⟩
  have hx1 : Below V1.heap.size V1 X1 := by rw [hX1]; exact (Below.refl _ _).alloc (Nat.le_refl _) _
  have HX1 := Lib.hid hX1
  have HP := Lib.hid hp
  have HB1 := Lib.hid hb1
  have HRO1 := Lib.hid hro1
  have HXB1 := Lib.hid hx1
  clear hX1 hp hb1 hro1 hx1
  go_wp2_with fail
  rw [← HX1.out, ← HP.out]
  refine (HR.out _).mono ?_
  rintro e V2 ⟨sb, sd, rfl, hro2, hb2⟩
  obtain ⟨X2, hX2⟩ : ∃ X, X = V2.alloc (.cells #[.int .i64 r.org, .int .u32 r.ep, .int .u32 r.sq, .int .i64 r.clm, .bool r.ing, .slice sb r.adjs.length sd] 25) := ⟨_, rfl⟩
  obtain ⟨q, hq⟩ : ∃ q, q = V2.heap.size := ⟨_, rfl⟩
  have hx2 : Below V2.heap.size V2 X2 := by rw [hX2]; exact (Below.refl _ _).alloc (Nat.le_refl _) _
  have hpb : BoxR p r sa sc X1 := by rw [HX1.out, HP.out]; exact heap_alloc_new _ _
  have HA := Lib.hid (((HRO1.out.adjs.later HXB1.out).later hb2).later hx2)
  have HS := Lib.hid (show ReS w r sa sc sb sd p q X2 from by
    have hs1 : V1.heap.size + 1 = X1.heap.size := by rw [HX1.out, World.size_alloc]
    have hp := HP.out
    refine ⟨(hpb.later hb2).later hx2, by rw [hX2, hq]; exact heap_alloc_new _ _, hro2.adjs.later hx2, ?_, ?_⟩
    · intro hi
      obtain ⟨g, e1, g1, g2, ra⟩ := ARow.any HRO1.out hi
      obtain ⟨h, e2, h1, h2, _⟩ := ARow.any hro2 hi
      exact ⟨g, h, e1, e2, g1, by rw [hp]; exact g2, by omega, by rw [hq]; exact h2, ((ra.later HXB1.out).later hb2).later hx2⟩
    · have t1 := HB1.out.trans (HXB1.out.mono HB1.out.size)
      have t2 := t1.trans (hb2.mono t1.size)
      exact t2.trans (hx2.mono t2.size))
  have HX2 := Lib.hid hX2
  have HQ := Lib.hid hq
  obtain ⟨x0, x1, x2, x3, x4, x5⟩ := BoxR.cells HS.out.b0
  obtain ⟨y0, y1, y2, y3, y4, y5⟩ := BoxR.cells HS.out.b1
  rw [HX2.out] at x0 x1 x2 x3 x4 x5 y0 y1 y2 y3 y4 y5
  clear hX2 hq hb2 hro2 hx2 hpb
  go_wp2_with fail
  rw [← HX2.out, ← HQ.out]
  clear x0 x1 x2 x3 x4 x5 y0 y1 y2 y3 y4 y5
  refine (HM.out _ _ _ _ _ HA.out HS.out.adj).mono ?_
  rintro e V3 ⟨rfl, hb3⟩
  have HS3 := Lib.hid (HS.out.later hb3)
  clear hb3
  go_wp2_with fail
  go_loopw [7] (fun i wr => ReRel w r sa sc sb sd p q i wr) (fun i _ => r.adjs.length - (intOf i).toNat)
  case atStart => exact ⟨0, rfl, Nat.zero_le _, HS3.out⟩
  case round =>
    obtain ⟨k, rfl, hk, hS⟩ := hrel
    obtain ⟨x0, x1, x2, x3, x4, x5⟩ := BoxR.cells hS.b0
    by_cases hlt : k < r.adjs.length
    · have hlti : (k : Int) < (r.adjs.length : Int) := by omega
      have hl16 := HL.out
      obtain ⟨g, h, rfl, rfl, a1, a2, a3, a4, hany⟩ := hS.row (by omega)
      obtain ⟨⟨u, hu⟩, f0⟩ := hany.cell (j := k * 2) (by omega)
      obtain ⟨⟨v, hv⟩, f1⟩ := hany.cell (j := k * 2 + 1) (by omega)
      have HSK := Lib.hid (show ReRel w r (some ⟨g, 0, none⟩) sc (some ⟨h, 0, none⟩) sd p q (.int .i64 ((k : Int) + 1)) ((wr.setCell ⟨g, k * 2, none⟩ (.int .i64 0)).setCell ⟨g, k * 2 + 1, none⟩ (.int .i64 0)) from ⟨k + 1, by go_num, hlt, (hS.set a1 a2 a3 a4 _ _).set a1 a2 a3 a4 _ _⟩)
      clear hS hany
      go_wp2_with fail
      case roundEnd => exact ⟨HSK.out, by simp [intOf]; omega⟩
    · obtain rfl : k = r.adjs.length := by omega
      have HSK := Lib.hid hS
      clear hS
      go_wp2_with fail
      clear x0 x1 x2 x3 x4 x5
      refine (HD.out _).mono ?_
      rintro e V4 ⟨sa4, sc4, rfl, hro4, hb4⟩
      obtain ⟨X4, hX4⟩ : ∃ X, X = V4.alloc (.cells #[.int .i64 r.org, .int .u32 r.ep, .int .u32 r.sq, .int .i64 r.clm, .bool r.ing, .slice sa4 r.adjs.length sc4] 25) := ⟨_, rfl⟩
      obtain ⟨p4, hp4⟩ : ∃ p, p = V4.heap.size := ⟨_, rfl⟩
      have hx4 : Below V4.heap.size V4 X4 := by rw [hX4]; exact (Below.refl _ _).alloc (Nat.le_refl _) _
      have HS4 := Lib.hid ((HSK.out.later hb4).later hx4)
      have HA4 := Lib.hid (hro4.adjs.later hx4)
      obtain ⟨x0, x1, x2, x3, x4, x5⟩ := BoxR.cells (show BoxR p4 r sa4 sc4 X4 by rw [hX4, hp4]; exact heap_alloc_new _ _)
      obtain ⟨y0, y1, y2, y3, y4, y5⟩ := BoxR.cells HS4.out.b1
      have HX4 := Lib.hid hX4
      have HP4 := Lib.hid hp4
      rw [HX4.out, HP4.out] at x0 x1 x2 x3 x4 x5
      rw [HX4.out] at y0 y1 y2 y3 y4 y5
      clear hX4 hp4 hx4 hb4 hro4
      go_wp2_with fail
      rw [← HX4.out]
      refine (HM.out _ _ _ _ _ HA4.out HS4.out.adj).mono ?_
      rintro e V5 ⟨rfl, hb5⟩
      have HS5 := Lib.hid (HS4.out.later hb5)
      clear hb5
      go_wp2_with fail
      refine (works_any _).mono ?_
      rintro e V6 ⟨rfl, hb6⟩
      have HS6 := Lib.hid (HS5.out.later hb6)
      clear hb6
      go_wp2_with fail
      go_returns
      exact ⟨rfl, HS6.out.bel⟩

theorem decR_len (l : List UInt8) : (decR l).adjs.length ≤ 16 := by
  unfold decR
  split
  · next h => exact chk_len (decOk_chk h)
  · exact Nat.zero_le _
theorem recordReads_walk (s : ByteArray) (w : World) (hs : s.size ≤ 140737488351232) :
    Calls Try.prog 3 #[.string s] w fun e w' => e = .returned (.bool true) ∧ Below w.heap.size w w' := by
  have hl := decR_len s.data.toList
  refine reads_walk (decR s.data.toList) (decE s.data.toList) s w hl (fun W => decode_any s W (by omega)) (fun W => rdecode_any s W (by omega)) (fun sa sc sb sd W h1 h2 => ?_)
  have h := rsame_any (decR s.data.toList) (decR s.data.toList) sa sc sb sd W h1 h2 (by unfold maxLen; omega) (by unfold maxLen; omega)
  rw [show (decR s.data.toList).sm (decR s.data.toList) = true from decide_eq_true rfl] at h
  exact h

end Go.Proofs.Ytcdmmplmkgdejaa
