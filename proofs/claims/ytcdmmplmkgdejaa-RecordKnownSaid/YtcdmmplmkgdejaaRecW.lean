/- Contracts of the record's laws: works. -/
import Derived.Test.YtcdmmplmkgdejaaRecL
set_option linter.unusedSimpArgs false
set_option linter.unusedVariables false
namespace Go.Proofs.Ytcdmmplmkgdejaa
open Go.RowKit Go.ChangeShapes Go.WideShapes

def wkL : List UInt8 := [1, 0, 0, 0, 1, 0, 0, 0, 2, 1, 2, 1, 1, 2, 0, 5]
def wkR : Rc := ⟨1, 1, 2, 258, true, [(2, 5)]⟩
theorem wk_dec : decR wkL = wkR := by decide +kernel
theorem wk_decE : decE wkL = 0 := by decide +kernel
theorem wk_chk : wkR.chk = true := by decide +kernel
theorem wk_enc : wkR.enc = wkL := by decide +kernel
theorem wk_ok : wkR.ok := by unfold Rc.ok wkR; simp
theorem adjs_lit (W : World) (xs : List (Int × Int)) : AdjsIn (W.alloc (.cells (adjV xs).toArray 31)) (some ⟨W.heap.size, 0, none⟩) xs := fun i hi => by
  obtain ⟨h1, h2⟩ := adjV_get xs i hi
  refine ⟨_, rfl, ?_, ?_⟩
  · rw [Addr.add_mid, Nat.zero_add, cell_of_row _ _ _ _ _ _ (heap_alloc_new _ _), List.getElem?_toArray]; exact h1
  · rw [Addr.add_mid, Nat.zero_add]
    exact (cell_of_row _ _ _ _ _ _ (heap_alloc_new _ _)).trans (by rw [List.getElem?_toArray]; exact h2)

theorem wk_call (W : World) : Calls Try.prog 11 #[.string ⟨#[1, 0, 0, 0, 1, 0, 0, 0, 2, 1, 2, 1, 1, 2, 0, 5]⟩] W fun e V => DecPost W wkR 0 e V := by
  have h := decode_any (bs wkL) W (by rw [bs_size]; decide)
  rw [bs_toList, wk_dec, wk_decE] at h
  exact h.mono fun e V h => h

set_option maxRecDepth 100000 in
set_option maxHeartbeats 3200000 in
theorem works_any (W : World) : Calls Try.prog 14 #[] W fun e W' => e = .returned (.bool true) ∧ Below W.heap.size W W' := by
  have HDEC := Lib.hid (wk_call W)
  go_enter Try.func14, Try.ntmps14
  go_wp2_with fail
  refine HDEC.out.mono ?_
  rintro e V ⟨sa, sc, rfl, hro, hb⟩
  obtain ⟨g, cap, hv, _, hgs, _, _, hcell, _⟩ := Row.form hro (by decide)
  simp only [wkR, List.length_cons, List.length_nil, Value.slice.injEq] at hv
  obtain ⟨rfl, _, rfl⟩ := hv
  have a0 : V.cell? ⟨g, 0, none⟩ = some (.int .i64 2) := (hcell 0 (by decide)).trans rfl
  have a1 : V.cell? ⟨g, 1, none⟩ = some (.int .i64 5) := (hcell 1 (by decide)).trans rfl
  have HB := Lib.hid hb
  have hag : wkR.ag (some ⟨g, 0, none⟩) sc = .agg #[.int .i64 1, .int .u32 1, .int .u32 2, .int .i64 258, .bool true, .slice (some ⟨g, 0, none⟩) 1 sc] := rfl
  rw [hag]
  obtain ⟨X, hX⟩ : ∃ X, X = V.alloc (.cells #[.int .i64 1, .int .u32 1, .int .u32 2, .int .i64 258, .bool true, .slice (some ⟨g, 0, none⟩) 1 sc] 25) := ⟨_, rfl⟩
  obtain ⟨Y, hY⟩ : ∃ Y, Y = X.alloc (.cells #[.int .i64 2, .int .i64 5] 31) := ⟨_, rfl⟩
  have hbX : Below V.heap.size V X := by rw [hX]; exact (Below.refl _ _).alloc (Nat.le_refl _) _
  have hbY : Below X.heap.size X Y := by rw [hY]; exact (Below.refl _ _).alloc (Nat.le_refl _) _
  have henc := encode_any wkR (some ⟨X.heap.size, 0, none⟩) 1 Y (by rw [hY]; exact adjs_lit X [(2, 5)]) (by simp [wkR, maxLen]) wk_ok
  unfold Rc.encS Rc.err at henc
  rw [wk_chk, if_pos rfl, if_pos rfl, wk_enc] at henc
  have hXs : X.heap.size = V.heap.size + 1 := by rw [hX, World.size_alloc]
  have hag2 : wkR.ag (some ⟨V.heap.size + 1, 0, none⟩) 1 = .agg #[.int .i64 1, .int .u32 1, .int .u32 2, .int .i64 258, .bool true, .slice (some ⟨V.heap.size + 1, 0, none⟩) 1 1] := rfl
  rw [hXs, hag2] at henc
  have hbxr : BoxR V.heap.size wkR (some ⟨g, 0, none⟩) sc Y := BoxR.later (by rw [hX]; exact heap_alloc_new _ _) hbY
  have HBXR := Lib.hid hbxr
  have HBY := Lib.hid (hb.trans ((hbX.trans (hbY.mono hbX.size)).mono hb.size))
  have HA := Lib.hid (show ∀ Z, Below Y.heap.size Y Z → Z.cell? ⟨g, 0, none⟩ = some (.int .i64 2) ∧ Z.cell? ⟨g, 1, none⟩ = some (.int .i64 5) from fun Z hZ => by
    have hb3 := hbX.trans ((hbY.trans (hZ.mono hbY.size)).mono hbX.size)
    exact ⟨(hb3.cell (p := ⟨g, 0, none⟩) hgs).trans a0, (hb3.cell (p := ⟨g, 1, none⟩) hgs).trans a1⟩)
  have HX := Lib.hid hX
  have HY := Lib.hid hY
  obtain ⟨q, hq⟩ : ∃ q, q = V.heap.size := ⟨_, rfl⟩
  rw [← hq] at HBXR henc
  have HENC : Hid (Calls Try.prog 16 #[.agg #[.int .i64 1, .int .u32 1, .int .u32 2, .int .i64 258, .bool true, .slice (some ⟨q + 1, 0, none⟩) 1 1]] Y fun e Z => e = .returned (.tuple #[.string ⟨#[1, 0, 0, 0, 1, 0, 0, 0, 2, 1, 2, 1, 1, 2, 0, 5]⟩, .int .i64 0]) ∧ Below Y.heap.size Y Z) := Lib.hid (henc.mono fun e Z h => h)
  have HQ := Lib.hid hq
  clear hro hb hag hX hY hbX hbY henc hbxr hcell hq a0 a1
  go_wp2_with fail
  rw [← HX.out, ← HY.out, ← HQ.out]
  refine HENC.out.mono ?_
  rintro e Z ⟨rfl, hb⟩
  have HBZ := Lib.hid (HBY.out.trans (hb.mono HBY.out.size))
  obtain ⟨a0, a1⟩ := HA.out Z hb
  obtain ⟨x0, x1, x2, x3, x4, x5⟩ := (HBXR.out.later hb).cells
  replace x3 : Z.cell? ⟨q, 3, none⟩ = some (.int .i64 258) := x3
  replace x4 : Z.cell? ⟨q, 4, none⟩ = some (.bool true) := x4
  replace x5 : Z.cell? ⟨q, 5, none⟩ = some (.slice (some ⟨g, 0, none⟩) 1 sc) := x5
  clear hb x0 x1 x2
  go_wp2_with fail
  go_returns
  exact ⟨rfl, HBZ.out⟩

end Go.Proofs.Ytcdmmplmkgdejaa
