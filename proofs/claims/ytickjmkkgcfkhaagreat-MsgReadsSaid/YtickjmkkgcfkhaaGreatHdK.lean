/- Contract of header.Decode: the header of bytes. -/
import Derived.Test.YtickjmkkgcfkhaaGreatHdJ
set_option linter.unusedSimpArgs false
set_option linter.unusedVariables false
set_option maxRecDepth 100000
namespace Go.Proofs.YtickjmkkgcfkhaaGreat
open Go.RowKit Go.ChangeShapes Go.WideShapes

/-- A header's cells, as numbers. -/
def BoxV (b : Nat) (w st en hp sr gp id a0 a1 a2 a3 : Int) (V : World) : Prop := V.heap[b]? = some (.cells #[.int .i64 w, .int .i64 st, .int .u32 en, .int .i64 hp, .int .i64 sr, .int .i64 gp, .int .u32 id, .int .u64 a0, .int .u64 a1, .int .u64 a2, .int .u64 a3] 32 (0, 0))
section
variable {b : Nat} {w st en hp sr gp id a0 a1 a2 a3 : Int} {V X : World}
theorem BoxV.later (h : BoxV b w st en hp sr gp id a0 a1 a2 a3 V) (hb : Below V.heap.size V X) : BoxV b w st en hp sr gp id a0 a1 a2 a3 X := (hb.block b (Array.getElem?_eq_some_iff.1 h).1).trans h
theorem BoxV.cells (x : BoxV b w st en hp sr gp id a0 a1 a2 a3 V) : V.cell? ⟨b, 0, none⟩ = some (.int .i64 w) ∧ V.cell? ⟨b, 1, none⟩ = some (.int .i64 st) ∧ V.cell? ⟨b, 2, none⟩ = some (.int .u32 en) ∧ V.cell? ⟨b, 3, none⟩ = some (.int .i64 hp) ∧
    V.cell? ⟨b, 4, none⟩ = some (.int .i64 sr) ∧ V.cell? ⟨b, 5, none⟩ = some (.int .i64 gp) ∧ V.cell? ⟨b, 6, none⟩ = some (.int .u32 id) ∧ V.cell? ⟨b, 7, none⟩ = some (.int .u64 a0) ∧ V.cell? ⟨b, 8, none⟩ = some (.int .u64 a1) ∧ V.cell? ⟨b, 9, none⟩ = some (.int .u64 a2) ∧ V.cell? ⟨b, 10, none⟩ = some (.int .u64 a3) :=
  ⟨cell_of_row _ _ 0 _ _ _ x, cell_of_row _ _ 1 _ _ _ x, cell_of_row _ _ 2 _ _ _ x, cell_of_row _ _ 3 _ _ _ x, cell_of_row _ _ 4 _ _ _ x, cell_of_row _ _ 5 _ _ _ x, cell_of_row _ _ 6 _ _ _ x, cell_of_row _ _ 7 _ _ _ x, cell_of_row _ _ 8 _ _ _ x, cell_of_row _ _ 9 _ _ _ x, cell_of_row _ _ 10 _ _ _ x⟩
theorem BoxV.frozen (x : BoxV b w st en hp sr gp id a0 a1 a2 a3 V) : V.frozen? ⟨b, 0, none⟩ = false ∧ V.frozen? ⟨b, 1, none⟩ = false ∧ V.frozen? ⟨b, 2, none⟩ = false ∧ V.frozen? ⟨b, 3, none⟩ = false ∧ V.frozen? ⟨b, 4, none⟩ = false ∧ V.frozen? ⟨b, 5, none⟩ = false ∧ V.frozen? ⟨b, 6, none⟩ = false ∧ V.frozen? ⟨b, 7, none⟩ = false ∧ V.frozen? ⟨b, 8, none⟩ = false ∧ V.frozen? ⟨b, 9, none⟩ = false ∧ V.frozen? ⟨b, 10, none⟩ = false :=
  ⟨frozen_of_row _ _ _ _ _ x, frozen_of_row _ _ _ _ _ x, frozen_of_row _ _ _ _ _ x, frozen_of_row _ _ _ _ _ x, frozen_of_row _ _ _ _ _ x, frozen_of_row _ _ _ _ _ x, frozen_of_row _ _ _ _ _ x, frozen_of_row _ _ _ _ _ x, frozen_of_row _ _ _ _ _ x, frozen_of_row _ _ _ _ _ x, frozen_of_row _ _ _ _ _ x⟩
theorem BoxV.other (h : BoxV b w st en hp sr gp id a0 a1 a2 a3 V) (c j : Nat) (v : Value) (hn : b ≠ c) : BoxV b w st en hp sr gp id a0 a1 a2 a3 (V.setCell ⟨c, j, none⟩ v) := (heap_setCell_other _ _ _ _ hn).trans h
theorem BoxV.set0 (h : BoxV b w st en hp sr gp id a0 a1 a2 a3 V) (x : Int) : BoxV b x st en hp sr gp id a0 a1 a2 a3 (V.setCell ⟨b, 0, none⟩ (.int .i64 x)) := heap_setCell_same V b 0 _ _ _ h
theorem BoxV.set1 (h : BoxV b w st en hp sr gp id a0 a1 a2 a3 V) (x : Int) : BoxV b w x en hp sr gp id a0 a1 a2 a3 (V.setCell ⟨b, 1, none⟩ (.int .i64 x)) := heap_setCell_same V b 1 _ _ _ h
theorem BoxV.set2 (h : BoxV b w st en hp sr gp id a0 a1 a2 a3 V) (x : Int) : BoxV b w st x hp sr gp id a0 a1 a2 a3 (V.setCell ⟨b, 2, none⟩ (.int .u32 x)) := heap_setCell_same V b 2 _ _ _ h
theorem BoxV.set3 (h : BoxV b w st en hp sr gp id a0 a1 a2 a3 V) (x : Int) : BoxV b w st en x sr gp id a0 a1 a2 a3 (V.setCell ⟨b, 3, none⟩ (.int .i64 x)) := heap_setCell_same V b 3 _ _ _ h
theorem BoxV.set4 (h : BoxV b w st en hp sr gp id a0 a1 a2 a3 V) (x : Int) : BoxV b w st en hp x gp id a0 a1 a2 a3 (V.setCell ⟨b, 4, none⟩ (.int .i64 x)) := heap_setCell_same V b 4 _ _ _ h
theorem BoxV.set5 (h : BoxV b w st en hp sr gp id a0 a1 a2 a3 V) (x : Int) : BoxV b w st en hp sr x id a0 a1 a2 a3 (V.setCell ⟨b, 5, none⟩ (.int .i64 x)) := heap_setCell_same V b 5 _ _ _ h
theorem BoxV.set6 (h : BoxV b w st en hp sr gp id a0 a1 a2 a3 V) (x : Int) : BoxV b w st en hp sr gp x a0 a1 a2 a3 (V.setCell ⟨b, 6, none⟩ (.int .u32 x)) := heap_setCell_same V b 6 _ _ _ h
theorem BoxV.set7 (h : BoxV b w st en hp sr gp id a0 a1 a2 a3 V) (x : Int) : BoxV b w st en hp sr gp id x a1 a2 a3 (V.setCell ⟨b, 7, none⟩ (.int .u64 x)) := heap_setCell_same V b 7 _ _ _ h
theorem BoxV.set8 (h : BoxV b w st en hp sr gp id a0 a1 a2 a3 V) (x : Int) : BoxV b w st en hp sr gp id a0 x a2 a3 (V.setCell ⟨b, 8, none⟩ (.int .u64 x)) := heap_setCell_same V b 8 _ _ _ h
theorem BoxV.set9 (h : BoxV b w st en hp sr gp id a0 a1 a2 a3 V) (x : Int) : BoxV b w st en hp sr gp id a0 a1 x a3 (V.setCell ⟨b, 9, none⟩ (.int .u64 x)) := heap_setCell_same V b 9 _ _ _ h
theorem BoxV.set10 (h : BoxV b w st en hp sr gp id a0 a1 a2 a3 V) (x : Int) : BoxV b w st en hp sr gp id a0 a1 a2 x (V.setCell ⟨b, 10, none⟩ (.int .u64 x)) := heap_setCell_same V b 10 _ _ _ h
end
theorem i64_nat {n : Nat} (h : n < 1000) : I64 (n : Int) := ⟨by omega, by omega⟩
/-- What is there while a header is read. -/
structure DhS (W : World) (g : Nat) (s : ByteArray) (w st en hp sr gp id a0 a1 a2 a3 : Int) (V : World) : Prop where
  z : BoxV W.heap.size 0 0 0 0 0 0 0 0 0 0 0 V
  h : BoxV (W.heap.size + 1) w st en hp sr gp id a0 a1 a2 a3 V
  t : V.heap[g]? = some (.cells #[.string s] 9 (0, 0))
  bel : Below W.heap.size W V
  hi : W.heap.size + 1 < g
theorem DhS.later {W V X : World} {g : Nat} {s : ByteArray} {w st en hp sr gp id a0 a1 a2 a3 : Int} (x : DhS W g s w st en hp sr gp id a0 a1 a2 a3 V) (hb : Below V.heap.size V X) : DhS W g s w st en hp sr gp id a0 a1 a2 a3 X :=
  ⟨x.z.later hb, x.h.later hb, (hb.block _ (Array.getElem?_eq_some_iff.1 x.t).1).trans x.t, x.bel.trans (hb.mono x.bel.size), x.hi⟩
theorem DhS.set0 {W V : World} {g : Nat} {s : ByteArray} {w st en hp sr gp id a0 a1 a2 a3 : Int} (q : DhS W g s w st en hp sr gp id a0 a1 a2 a3 V) (x : Int) : DhS W g s x st en hp sr gp id a0 a1 a2 a3 (V.setCell ⟨W.heap.size + 1, 0, none⟩ (.int .i64 x)) := ⟨q.z.other _ _ _ (by omega), q.h.set0 x, (heap_setCell_other _ _ _ _ (by have := q.hi; simp only; omega)).trans q.t, q.bel.setCell (by simp only; omega) _, q.hi⟩
theorem DhS.set1 {W V : World} {g : Nat} {s : ByteArray} {w st en hp sr gp id a0 a1 a2 a3 : Int} (q : DhS W g s w st en hp sr gp id a0 a1 a2 a3 V) (x : Int) : DhS W g s w x en hp sr gp id a0 a1 a2 a3 (V.setCell ⟨W.heap.size + 1, 1, none⟩ (.int .i64 x)) := ⟨q.z.other _ _ _ (by omega), q.h.set1 x, (heap_setCell_other _ _ _ _ (by have := q.hi; simp only; omega)).trans q.t, q.bel.setCell (by simp only; omega) _, q.hi⟩
theorem DhS.set2 {W V : World} {g : Nat} {s : ByteArray} {w st en hp sr gp id a0 a1 a2 a3 : Int} (q : DhS W g s w st en hp sr gp id a0 a1 a2 a3 V) (x : Int) : DhS W g s w st x hp sr gp id a0 a1 a2 a3 (V.setCell ⟨W.heap.size + 1, 2, none⟩ (.int .u32 x)) := ⟨q.z.other _ _ _ (by omega), q.h.set2 x, (heap_setCell_other _ _ _ _ (by have := q.hi; simp only; omega)).trans q.t, q.bel.setCell (by simp only; omega) _, q.hi⟩
theorem DhS.set3 {W V : World} {g : Nat} {s : ByteArray} {w st en hp sr gp id a0 a1 a2 a3 : Int} (q : DhS W g s w st en hp sr gp id a0 a1 a2 a3 V) (x : Int) : DhS W g s w st en x sr gp id a0 a1 a2 a3 (V.setCell ⟨W.heap.size + 1, 3, none⟩ (.int .i64 x)) := ⟨q.z.other _ _ _ (by omega), q.h.set3 x, (heap_setCell_other _ _ _ _ (by have := q.hi; simp only; omega)).trans q.t, q.bel.setCell (by simp only; omega) _, q.hi⟩
theorem DhS.set4 {W V : World} {g : Nat} {s : ByteArray} {w st en hp sr gp id a0 a1 a2 a3 : Int} (q : DhS W g s w st en hp sr gp id a0 a1 a2 a3 V) (x : Int) : DhS W g s w st en hp x gp id a0 a1 a2 a3 (V.setCell ⟨W.heap.size + 1, 4, none⟩ (.int .i64 x)) := ⟨q.z.other _ _ _ (by omega), q.h.set4 x, (heap_setCell_other _ _ _ _ (by have := q.hi; simp only; omega)).trans q.t, q.bel.setCell (by simp only; omega) _, q.hi⟩
theorem DhS.set5 {W V : World} {g : Nat} {s : ByteArray} {w st en hp sr gp id a0 a1 a2 a3 : Int} (q : DhS W g s w st en hp sr gp id a0 a1 a2 a3 V) (x : Int) : DhS W g s w st en hp sr x id a0 a1 a2 a3 (V.setCell ⟨W.heap.size + 1, 5, none⟩ (.int .i64 x)) := ⟨q.z.other _ _ _ (by omega), q.h.set5 x, (heap_setCell_other _ _ _ _ (by have := q.hi; simp only; omega)).trans q.t, q.bel.setCell (by simp only; omega) _, q.hi⟩
theorem DhS.set6 {W V : World} {g : Nat} {s : ByteArray} {w st en hp sr gp id a0 a1 a2 a3 : Int} (q : DhS W g s w st en hp sr gp id a0 a1 a2 a3 V) (x : Int) : DhS W g s w st en hp sr gp x a0 a1 a2 a3 (V.setCell ⟨W.heap.size + 1, 6, none⟩ (.int .u32 x)) := ⟨q.z.other _ _ _ (by omega), q.h.set6 x, (heap_setCell_other _ _ _ _ (by have := q.hi; simp only; omega)).trans q.t, q.bel.setCell (by simp only; omega) _, q.hi⟩
theorem DhS.set7 {W V : World} {g : Nat} {s : ByteArray} {w st en hp sr gp id a0 a1 a2 a3 : Int} (q : DhS W g s w st en hp sr gp id a0 a1 a2 a3 V) (x : Int) : DhS W g s w st en hp sr gp id x a1 a2 a3 (V.setCell ⟨W.heap.size + 1, 7, none⟩ (.int .u64 x)) := ⟨q.z.other _ _ _ (by omega), q.h.set7 x, (heap_setCell_other _ _ _ _ (by have := q.hi; simp only; omega)).trans q.t, q.bel.setCell (by simp only; omega) _, q.hi⟩
theorem DhS.set8 {W V : World} {g : Nat} {s : ByteArray} {w st en hp sr gp id a0 a1 a2 a3 : Int} (q : DhS W g s w st en hp sr gp id a0 a1 a2 a3 V) (x : Int) : DhS W g s w st en hp sr gp id a0 x a2 a3 (V.setCell ⟨W.heap.size + 1, 8, none⟩ (.int .u64 x)) := ⟨q.z.other _ _ _ (by omega), q.h.set8 x, (heap_setCell_other _ _ _ _ (by have := q.hi; simp only; omega)).trans q.t, q.bel.setCell (by simp only; omega) _, q.hi⟩
theorem DhS.set9 {W V : World} {g : Nat} {s : ByteArray} {w st en hp sr gp id a0 a1 a2 a3 : Int} (q : DhS W g s w st en hp sr gp id a0 a1 a2 a3 V) (x : Int) : DhS W g s w st en hp sr gp id a0 a1 x a3 (V.setCell ⟨W.heap.size + 1, 9, none⟩ (.int .u64 x)) := ⟨q.z.other _ _ _ (by omega), q.h.set9 x, (heap_setCell_other _ _ _ _ (by have := q.hi; simp only; omega)).trans q.t, q.bel.setCell (by simp only; omega) _, q.hi⟩
theorem DhS.set10 {W V : World} {g : Nat} {s : ByteArray} {w st en hp sr gp id a0 a1 a2 a3 : Int} (q : DhS W g s w st en hp sr gp id a0 a1 a2 a3 V) (x : Int) : DhS W g s w st en hp sr gp id a0 a1 a2 x (V.setCell ⟨W.heap.size + 1, 10, none⟩ (.int .u64 x)) := ⟨q.z.other _ _ _ (by omega), q.h.set10 x, (heap_setCell_other _ _ _ _ (by have := q.hi; simp only; omega)).trans q.t, q.bel.setCell (by simp only; omega) _, q.hi⟩

set_option maxRecDepth 100000 in
set_option maxHeartbeats 12800000 in
theorem hdecode_form (s : ByteArray) (c : Nat) (W : World) (h0 : 0 < s.size) (hc : seg s.data.toList 0 1 = 16 + c) (hc5 : c ≤ 5) (hs : s.size ≤ 140737488355328) :
    Calls Tryz.prog 58 #[.string s] W fun e W' => e = .returned (.tuple #[(decH s).ag, .int .i64 (decHE s)]) ∧ Below W.heap.size W W' := by
  obtain ⟨W1, hW1⟩ : ∃ W1, W1 = W.alloc (.cells #[.int .i64 0, .int .i64 0, .int .u32 0, .int .i64 0, .int .i64 0, .int .i64 0, .int .u32 0, .int .u64 0, .int .u64 0, .int .u64 0, .int .u64 0] 32) := ⟨_, rfl⟩
  obtain ⟨w, hw⟩ : ∃ w, w = 8 * 2 ^ c := ⟨_, rfl⟩
  obtain ⟨W2, hW2⟩ : ∃ W2, W2 = W1.alloc (.cells #[.int .i64 (w : Int), .int .i64 0, .int .u32 0, .int .i64 0, .int .i64 0, .int .i64 0, .int .u32 0, .int .u64 0, .int .u64 0, .int .u64 0, .int .u64 0] 32) := ⟨_, rfl⟩
  have hp1 : 1 ≤ 2 ^ c := Nat.pow_pos (by decide)
  have hp2 : 2 ^ c ≤ 32 := Nat.le_trans (Nat.pow_le_pow_right (by decide) hc5) (by decide)
  have hz1 : W1.heap.size = W.heap.size + 1 := by rw [hW1, World.size_alloc]
  have hb1 : Below W.heap.size W W1 := by rw [hW1]; exact (Below.refl _ _).alloc (Nat.le_refl _) _
  have hb2 : Below W1.heap.size W1 W2 := by rw [hW2]; exact (Below.refl _ _).alloc (Nat.le_refl _) _
  have hbz : BoxV W.heap.size 0 0 0 0 0 0 0 0 0 0 0 W1 := by rw [hW1]; exact heap_alloc_new _ _
  have hbh : BoxV (W.heap.size + 1) (w : Int) 0 0 0 0 0 0 0 0 0 0 W2 := by rw [hW2, ← hz1]; exact heap_alloc_new _ _
  have HZ2 := Lib.hid (hbz.later hb2)
  have HH2 := Lib.hid hbh
  have HB2 := Lib.hid (hb1.trans (hb2.mono hb1.size))
  obtain ⟨y0, y1, y2, y3, y4, y5, y6, y7, y8, y9, y10⟩ := hbh.cells
  rw [hW2, hW1] at y0 y1 y2 y3 y4 y5 y6 y7 y8 y9 y10
  have hwd : wide ((w : Nat) : Int) = true := by rw [hw]; exact (wide_code hc5).1
  have HSZ := Lib.hid (fun V => size_any (w : Int) V ⟨by omega, by omega⟩)
  obtain ⟨n, hn⟩ : ∃ n, n = 15 + 2 ^ c := ⟨_, rfl⟩
  have hsv : sizeV (w : Int) = (n : Int) := by rw [sizeV, if_pos hwd, hw, hn]; omega
  have hem : s.toList.isEmpty = false := by
    rw [ByteArray.toList_eq]
    have := size_eq s
    cases h : s.data.toList with
    | nil => rw [h] at this; simp at this; omega
    | cons x l => rfl
  have HC := Lib.hid hc
  rw [seg_head h0] at hc
  have h0i : (0 : Int) < (s.size : Int) := by omega
  have d1 : decide ((16 : Int) + (c : Int) < 16) = false := decide_eq_false (by omega)
  have d2 : decide ((22 : Int) ≤ 16 + (c : Int)) = false := decide_eq_false (by omega)
  have d3 : IntKind.i64.wrap (8 * 2 ^ c) = (w : Int) := by rw [show (8 * 2 ^ c : Int) = ((8 * 2 ^ c : Nat) : Int) from by simp, ← hw]; exact IntWalk.i64_in _ (by omega)
  have d4 : wrap64 (8 * 2 ^ c) = (w : Int) := by unfold wrap64; rw [show (8 * 2 ^ c : Int) = ((8 * 2 ^ c : Nat) : Int) from by simp, ← hw]; omega
  have HFM := Lib.hid (show formH s.data.toList = decide (s.size = n) by
    unfold formH
    rw [HC.out, size_eq, show 16 + c - 16 = c from by omega, ← hn, decide_eq_true (show 16 ≤ 16 + c by omega), decide_eq_true (show 16 + c ≤ 21 by omega), decide_eq_true h0]
    rfl)
  have HSV := Lib.hid hsv
  have HW1 := Lib.hid hW1
  have HW2 := Lib.hid hW2
  have HWD := Lib.hid hwd
  have HWW := Lib.hid hw
  have HN := Lib.hid hn
  have HOP := Lib.hid (fun V => open_any s V (by omega))
  have hen : ∀ args w, (callFunc 88 args).run Tryz.prog w = .ok (.enter 88 args) w := fun _ _ => by kernel_rfl
  clear hW1 hW2 hb1 hb2 hbz hbh hsv hwd hw hz1 hn
  go_enter Tryz.func58, Tryz.ntmps58
  go_wp2_with fail
  rw [← HW1.out, ← HW2.out]
  refine (HSZ.out _).mono ?_
  rintro e V ⟨rfl, rfl⟩
  rw [HSV.out]
  clear y0 y1 y2 y3 y4 y5 y6 y7 y8 y9 y10
  by_cases hl : s.size = n
  case neg =>
    have ht : ((s.size : Int) != (n : Int)) = true := by rw [bne_iff_ne]; omega
    have HR := Lib.hid (show decH s = Hd.zero ∧ decHE s = 4 by
      have hf : formH s.data.toList = false := by rw [HFM.out]; exact decide_eq_false hl
      exact ⟨by rw [decH, if_neg (fun h => by rw [hf] at h; exact absurd h.1 (by decide))], by rw [decHE, hf]; rfl⟩)
    obtain ⟨y0, y1, y2, y3, y4, y5, y6, y7, y8, y9, y10⟩ := HZ2.out.cells
    obtain ⟨f0, f1, f2, f3, f4, f5, f6, f7, f8, f9, f10⟩ := HZ2.out.frozen
    clear hl
    go_wp2_with fail
    refine bodyPost_ret (v := .tuple #[.agg #[.int .i64 0, .int .i64 0, .int .u32 0, .int .i64 0, .int .i64 0, .int .i64 0, .int .u32 0, .int .u64 0, .int .u64 0, .int .u64 0, .int .u64 0], .int .i64 (4)]) ?_ rfl ⟨?_, ?_⟩
    · simp only [results, Tryz.results58]
      go_simp
    · rw [HR.out.1, HR.out.2]; rfl
    · repeat (with_reducible refine Below.setCell ?_ (by simp only; omega) _)
      exact HB2.out

  have hl2 := hl
  have ht : ((s.size : Int) != (n : Int)) = false := by rw [bne_eq_false_iff_eq]; omega
  have HF2 := Lib.hid (show formH s.data.toList = true by rw [HFM.out]; exact decide_eq_true hl)
  clear hl
  go_wp2_with fail
  refine (HOP.out _).mono ?_
  rintro e V ⟨rfl, hb⟩
  have HZ3 := Lib.hid (HZ2.out.later hb)
  have HH3 := Lib.hid (HH2.out.later hb)
  have HB3 := Lib.hid (HB2.out.trans (hb.mono HB2.out.size))
  clear hb
  by_cases ho : openE s = 0
  case neg =>
    have ht2 : (openE s != 0) = true := by rw [bne_iff_ne]; exact ho
    have HR := Lib.hid (show decH s = Hd.zero ∧ decHE s = openE s by
      exact ⟨by rw [decH, if_neg (fun h => ho h.2.1)], by rw [decHE, if_pos HF2.out, if_neg ho]⟩)
    obtain ⟨V3, hV3⟩ : ∃ V3, V3 = V.alloc (.cells #[.string (openS s)] 9) := ⟨_, rfl⟩
    have hbV : Below V.heap.size V V3 := by rw [hV3]; exact (Below.refl _ _).alloc (Nat.le_refl _) _
    have HB4 := Lib.hid (HB3.out.trans (hbV.mono HB3.out.size))
    obtain ⟨y0, y1, y2, y3, y4, y5, y6, y7, y8, y9, y10⟩ := (HZ3.out.later hbV).cells
    obtain ⟨f0, f1, f2, f3, f4, f5, f6, f7, f8, f9, f10⟩ := (HZ3.out.later hbV).frozen
    rw [hV3] at y0 y1 y2 y3 y4 y5 y6 y7 y8 y9 y10 f0 f1 f2 f3 f4 f5 f6 f7 f8 f9 f10
    have HV3 := Lib.hid hV3
    clear hV3 hbV
    go_wp2_with fail
    refine bodyPost_ret (v := .tuple #[.agg #[.int .i64 0, .int .i64 0, .int .u32 0, .int .i64 0, .int .i64 0, .int .i64 0, .int .u32 0, .int .u64 0, .int .u64 0, .int .u64 0, .int .u64 0], .int .i64 (openE s)]) ?_ rfl ⟨?_, ?_⟩
    · simp only [results, Tryz.results58]
      go_simp
    · rw [HR.out.1, HR.out.2]; rfl
    · rw [← HV3.out]; repeat (with_reducible refine Below.setCell ?_ (by simp only; omega) _)
      exact HB4.out

  obtain ⟨hop1, hop2⟩ := open_sealB ho
  have hol := open_list ho
  have HSG := Lib.hid (show seg (openS s).data.toList 0 1 = 16 + c by
    rw [← HC.out, hol]
    exact (seg_append (by rw [size_eq]; have := HN.out; omega)).symm)
  have HFF := Lib.hid (show decH s = (if (candH (openS s).data.toList).chk = true then candH (openS s).data.toList else Hd.zero) ∧ decHE s = (if (candH (openS s).data.toList).chk = true then 0 else 4) by
    constructor
    · rw [decH]
      by_cases hk : (candH (openS s).data.toList).chk = true
      · rw [if_pos ⟨HF2.out, ho, hk⟩, if_pos hk]
      · rw [if_neg (fun h => hk h.2.2), if_neg hk]
    · rw [decHE, if_pos HF2.out, if_pos ho])
  rw [ho]
  obtain ⟨t, htt⟩ : ∃ t, t = openS s := ⟨_, rfl⟩
  rw [← htt] at HSG HFF hop2 ⊢
  have hts : t.size = 13 + 2 ^ c := by have := HN.out; omega
  clear hop1 hop2 hol ho htt ht HF2
  obtain ⟨V3, hV3⟩ : ∃ V3, V3 = V.alloc (.cells #[.string t] 9) := ⟨_, rfl⟩
  obtain ⟨g, hg⟩ : ∃ g, g = V.heap.size := ⟨_, rfl⟩
  have hbV : Below V.heap.size V V3 := by rw [hV3]; exact (Below.refl _ _).alloc (Nat.le_refl _) _
  have HS0 := Lib.hid (show DhS W g t (w : Int) 0 0 0 0 0 0 0 0 0 0 V3 from ⟨HZ3.out.later hbV, HH3.out.later hbV, by rw [hV3, hg]; exact heap_alloc_new _ _, HB3.out.trans (hbV.mono HB3.out.size), by
    rw [hg]
    have h1 := HH3.out
    exact (Array.getElem?_eq_some_iff.1 h1).1⟩)
  obtain ⟨y0, y1, y2, y3, y4, y5, y6, y7, y8, y9, y10⟩ := HS0.out.h.cells
  obtain ⟨f0, f1, f2, f3, f4, f5, f6, f7, f8, f9, f10⟩ := HS0.out.h.frozen
  rw [hV3] at y0 y1 y2 y3 y4 y5 y6 y7 y8 y9 y10 f0 f1 f2 f3 f4 f5 f6 f7 f8 f9 f10
  have HV3 := Lib.hid hV3
  have HG := Lib.hid hg
  clear hV3 hg hbV
  go_wp2_with fail
  rw [← HV3.out, ← HG.out]
  obtain ⟨st, hst⟩ : ∃ x, x = seg t.data.toList 1 1 := ⟨_, rfl⟩
  have bst : st < 256 := by have := seg_lt t.data.toList 1 1; rw [← hst] at this; simpa using this
  have wst : IntKind.i64.wrap (st : Int) = (st : Int) := IntWalk.i64_in _ (by omega)
  refine (htake_any g t 1 1 _ _ st _ (cell_of_row _ _ 0 _ _ _ HS0.out.t) rfl rfl (by omega) (by omega) (by omega) hst).mono ?_
  rintro e X0 ⟨rfl, rfl⟩
  have HT0 := Lib.hid hst
  clear hst
  clear y0 y1 y2 y3 y4 y5 y6 y7 y8 y9 y10 f0 f1 f2 f3 f4 f5 f6 f7 f8 f9 f10
  obtain ⟨y0, y1, y2, y3, y4, y5, y6, y7, y8, y9, y10⟩ := HS0.out.h.cells
  obtain ⟨f0, f1, f2, f3, f4, f5, f6, f7, f8, f9, f10⟩ := HS0.out.h.frozen
  have HS1 := Lib.hid (HS0.out.set1 (st : Int))
  obtain ⟨U1, hU1⟩ : ∃ U, U = V3.setCell ⟨W.heap.size + 1, 1, none⟩ (.int .i64 (st : Int)) := ⟨_, rfl⟩
  rw [← hU1] at HS1
  have HU1 := Lib.hid hU1
  clear hU1
  have hct := cell_of_row _ _ 0 _ _ _ HS1.out.t
  rw [HU1.out] at hct
  have hts13 : 13 ≤ t.size := by omega
  go_wp2_with fail
  rw [← HU1.out]
  clear y0 y1 y2 y3 y4 y5 y6 y7 y8 y9 y10 f0 f1 f2 f3 f4 f5 f6 f7 f8 f9 f10 hct
  obtain ⟨en, hen⟩ : ∃ x, x = seg t.data.toList 2 4 := ⟨_, rfl⟩
  have ben : en < 4294967296 := by have := seg_lt t.data.toList 2 4; rw [← hen] at this; simpa using this
  have wen : IntKind.u32.wrap (en : Int) = (en : Int) := IntWalk.u32_in _ (by omega)
  refine (htake_any g t 2 4 _ _ en _ (cell_of_row _ _ 0 _ _ _ HS1.out.t) rfl rfl (by omega) (by omega) (by omega) hen).mono ?_
  rintro e X1 ⟨rfl, rfl⟩
  have HT1 := Lib.hid hen
  clear hen
  obtain ⟨y0, y1, y2, y3, y4, y5, y6, y7, y8, y9, y10⟩ := HS1.out.h.cells
  obtain ⟨f0, f1, f2, f3, f4, f5, f6, f7, f8, f9, f10⟩ := HS1.out.h.frozen
  have HS2 := Lib.hid (HS1.out.set2 (en : Int))
  obtain ⟨U2, hU2⟩ : ∃ U, U = U1.setCell ⟨W.heap.size + 1, 2, none⟩ (.int .u32 (en : Int)) := ⟨_, rfl⟩
  rw [← hU2] at HS2
  have HU2 := Lib.hid hU2
  clear hU2
  have hct := cell_of_row _ _ 0 _ _ _ HS2.out.t
  rw [HU2.out] at hct
  have hts13 : 13 ≤ t.size := by omega
  go_wp2_with fail
  rw [← HU2.out]
  clear y0 y1 y2 y3 y4 y5 y6 y7 y8 y9 y10 f0 f1 f2 f3 f4 f5 f6 f7 f8 f9 f10 hct
  obtain ⟨hp, hhp⟩ : ∃ x, x = seg t.data.toList 6 1 := ⟨_, rfl⟩
  have bhp : hp < 256 := by have := seg_lt t.data.toList 6 1; rw [← hhp] at this; simpa using this
  have whp : IntKind.i64.wrap (hp : Int) = (hp : Int) := IntWalk.i64_in _ (by omega)
  refine (htake_any g t 6 1 _ _ hp _ (cell_of_row _ _ 0 _ _ _ HS2.out.t) rfl rfl (by omega) (by omega) (by omega) hhp).mono ?_
  rintro e X2 ⟨rfl, rfl⟩
  have HT2 := Lib.hid hhp
  clear hhp
  obtain ⟨y0, y1, y2, y3, y4, y5, y6, y7, y8, y9, y10⟩ := HS2.out.h.cells
  obtain ⟨f0, f1, f2, f3, f4, f5, f6, f7, f8, f9, f10⟩ := HS2.out.h.frozen
  have HS3 := Lib.hid (HS2.out.set3 (hp : Int))
  obtain ⟨U3, hU3⟩ : ∃ U, U = U2.setCell ⟨W.heap.size + 1, 3, none⟩ (.int .i64 (hp : Int)) := ⟨_, rfl⟩
  rw [← hU3] at HS3
  have HU3 := Lib.hid hU3
  clear hU3
  have hct := cell_of_row _ _ 0 _ _ _ HS3.out.t
  rw [HU3.out] at hct
  have hts13 : 13 ≤ t.size := by omega
  go_wp2_with fail
  rw [← HU3.out]
  clear y0 y1 y2 y3 y4 y5 y6 y7 y8 y9 y10 f0 f1 f2 f3 f4 f5 f6 f7 f8 f9 f10 hct
  obtain ⟨sr, hsr⟩ : ∃ x, x = seg t.data.toList 7 1 := ⟨_, rfl⟩
  have bsr : sr < 256 := by have := seg_lt t.data.toList 7 1; rw [← hsr] at this; simpa using this
  have wsr : IntKind.i64.wrap (sr : Int) = (sr : Int) := IntWalk.i64_in _ (by omega)
  refine (htake_any g t 7 1 _ _ sr _ (cell_of_row _ _ 0 _ _ _ HS3.out.t) rfl rfl (by omega) (by omega) (by omega) hsr).mono ?_
  rintro e X3 ⟨rfl, rfl⟩
  have HT3 := Lib.hid hsr
  clear hsr
  obtain ⟨y0, y1, y2, y3, y4, y5, y6, y7, y8, y9, y10⟩ := HS3.out.h.cells
  obtain ⟨f0, f1, f2, f3, f4, f5, f6, f7, f8, f9, f10⟩ := HS3.out.h.frozen
  have HS4 := Lib.hid (HS3.out.set4 (sr : Int))
  obtain ⟨U4, hU4⟩ : ∃ U, U = U3.setCell ⟨W.heap.size + 1, 4, none⟩ (.int .i64 (sr : Int)) := ⟨_, rfl⟩
  rw [← hU4] at HS4
  have HU4 := Lib.hid hU4
  clear hU4
  have hct := cell_of_row _ _ 0 _ _ _ HS4.out.t
  rw [HU4.out] at hct
  have hts13 : 13 ≤ t.size := by omega
  go_wp2_with fail
  rw [← HU4.out]
  clear y0 y1 y2 y3 y4 y5 y6 y7 y8 y9 y10 f0 f1 f2 f3 f4 f5 f6 f7 f8 f9 f10 hct
  obtain ⟨gp, hgp⟩ : ∃ x, x = seg t.data.toList 8 1 := ⟨_, rfl⟩
  have bgp : gp < 256 := by have := seg_lt t.data.toList 8 1; rw [← hgp] at this; simpa using this
  have wgp : IntKind.i64.wrap (gp : Int) = (gp : Int) := IntWalk.i64_in _ (by omega)
  refine (htake_any g t 8 1 _ _ gp _ (cell_of_row _ _ 0 _ _ _ HS4.out.t) rfl rfl (by omega) (by omega) (by omega) hgp).mono ?_
  rintro e X4 ⟨rfl, rfl⟩
  have HT4 := Lib.hid hgp
  clear hgp
  obtain ⟨y0, y1, y2, y3, y4, y5, y6, y7, y8, y9, y10⟩ := HS4.out.h.cells
  obtain ⟨f0, f1, f2, f3, f4, f5, f6, f7, f8, f9, f10⟩ := HS4.out.h.frozen
  have HS5 := Lib.hid (HS4.out.set5 (gp : Int))
  obtain ⟨U5, hU5⟩ : ∃ U, U = U4.setCell ⟨W.heap.size + 1, 5, none⟩ (.int .i64 (gp : Int)) := ⟨_, rfl⟩
  rw [← hU5] at HS5
  have HU5 := Lib.hid hU5
  clear hU5
  have hct := cell_of_row _ _ 0 _ _ _ HS5.out.t
  rw [HU5.out] at hct
  have hts13 : 13 ≤ t.size := by omega
  go_wp2_with fail
  rw [← HU5.out]
  clear y0 y1 y2 y3 y4 y5 y6 y7 y8 y9 y10 f0 f1 f2 f3 f4 f5 f6 f7 f8 f9 f10 hct
  obtain ⟨id, hid⟩ : ∃ x, x = seg t.data.toList 9 4 := ⟨_, rfl⟩
  have bid : id < 4294967296 := by have := seg_lt t.data.toList 9 4; rw [← hid] at this; simpa using this
  have wid : IntKind.u32.wrap (id : Int) = (id : Int) := IntWalk.u32_in _ (by omega)
  refine (htake_any g t 9 4 _ _ id _ (cell_of_row _ _ 0 _ _ _ HS5.out.t) rfl rfl (by omega) (by omega) (by omega) hid).mono ?_
  rintro e X5 ⟨rfl, rfl⟩
  have HT5 := Lib.hid hid
  clear hid
  obtain ⟨y0, y1, y2, y3, y4, y5, y6, y7, y8, y9, y10⟩ := HS5.out.h.cells
  obtain ⟨f0, f1, f2, f3, f4, f5, f6, f7, f8, f9, f10⟩ := HS5.out.h.frozen
  have HS6 := Lib.hid (HS5.out.set6 (id : Int))
  obtain ⟨U6, hU6⟩ : ∃ U, U = U5.setCell ⟨W.heap.size + 1, 6, none⟩ (.int .u32 (id : Int)) := ⟨_, rfl⟩
  rw [← hU6] at HS6
  have HU6 := Lib.hid hU6
  clear hU6
  have hct := cell_of_row _ _ 0 _ _ _ HS6.out.t
  rw [HU6.out] at hct
  have hts13 : 13 ≤ t.size := by omega
  go_wp2_with fail
  rw [← HU6.out]
  clear y0 y1 y2 y3 y4 y5 y6 y7 y8 y9 y10 f0 f1 f2 f3 f4 f5 f6 f7 f8 f9 f10 hct
  obtain ⟨q, hq⟩ : ∃ q, q = t.extract 13 (13 + 2 ^ c) := ⟨_, rfl⟩
  have hqs : q.size = 2 ^ c := by rw [hq, ByteArray.size_extract]; omega
  have hql : q.data.toList = t.data.toList.drop 13 := by
    have hlt : t.data.toList.length = 13 + 2 ^ c := by rw [size_eq]; exact hts
    rw [hq, ByteArray.data_extract, Array.toList_extract, List.extract, show 13 + 2 ^ c - 13 = 2 ^ c from by omega]
    exact List.take_of_length_le (by rw [List.length_drop, hlt]; omega)
  rw [← hq]
  obtain ⟨x, hx⟩ : ∃ x, x = Bt.of (leVal (t.data.toList.drop 13)) := ⟨_, rfl⟩
  have hxo : x.ok := hx ▸ Bt.of_ok _
  have hrd := bread_any q U6 (by omega) (by omega)
  rw [hql, ← hx] at hrd
  unfold Bt.ag Bt.cs at hrd
  have HCD := Lib.hid (show candH t.data.toList = ⟨(w : Int), (st : Int), en, (hp : Int), (sr : Int), (gp : Int), id, x⟩ by
    unfold candH
    rw [HSG.out, show 16 + c - 16 = c from by omega, ← HWW.out, ← HT0.out, ← HT1.out, ← HT2.out, ← HT3.out, ← HT4.out, ← HT5.out, ← hx])
  have hwb : w < 1000 := by have := HWW.out; omega
  have HQ := Lib.hid (show (⟨(w : Int), (st : Int), en, (hp : Int), (sr : Int), (gp : Int), id, x⟩ : Hd).ok from
    ⟨i64_nat hwb, i64_nat (by omega), ben, i64_nat (by omega), i64_nat (by omega), i64_nat (by omega), bid, hxo⟩)
  clear hq hqs hql hx hxo
  refine hrd.mono ?_
  rintro e V7 ⟨rfl, hb⟩
  have HS7 := Lib.hid (HS6.out.later hb)
  clear hb hrd
  obtain ⟨y0, y1, y2, y3, y4, y5, y6, y7, y8, y9, y10⟩ := HS7.out.h.cells
  obtain ⟨f0, f1, f2, f3, f4, f5, f6, f7, f8, f9, f10⟩ := HS7.out.h.frozen
  have HS8 := Lib.hid ((((HS7.out.set7 (x.a : Int)).set8 (x.b : Int)).set9 (x.c : Int)).set10 (x.d : Int))
  obtain ⟨U7, hU7⟩ : ∃ U, U = (((V7.setCell ⟨W.heap.size + 1, 7, none⟩ (.int .u64 (x.a : Int))).setCell ⟨W.heap.size + 1, 8, none⟩ (.int .u64 (x.b : Int))).setCell ⟨W.heap.size + 1, 9, none⟩ (.int .u64 (x.c : Int))).setCell ⟨W.heap.size + 1, 10, none⟩ (.int .u64 (x.d : Int)) := ⟨_, rfl⟩
  rw [← hU7] at HS8
  have HU7 := Lib.hid hU7
  clear hU7
  obtain ⟨z0, z1, z2, z3, z4, z5, z6, z7, z8, z9, z10⟩ := HS8.out.h.cells
  rw [HU7.out] at z0 z1 z2 z3 z4 z5 z6 z7 z8 z9 z10
  go_wp2_with fail
  rw [← HU7.out]
  clear y0 y1 y2 y3 y4 y5 y6 y7 y8 y9 y10 f0 f1 f2 f3 f4 f5 f6 f7 f8 f9 f10 z0 z1 z2 z3 z4 z5 z6 z7 z8 z9 z10
  have HCK := Lib.hid (hcheck_any ⟨(w : Int), (st : Int), en, (hp : Int), (sr : Int), (gp : Int), id, x⟩ U7 HQ.out)
  unfold Hd.ag Hd.cs at HCK
  refine HCK.out.mono ?_
  rintro e V8 ⟨rfl, hb⟩
  have HS9 := Lib.hid (HS8.out.later hb)
  clear hb
  obtain ⟨y0, y1, y2, y3, y4, y5, y6, y7, y8, y9, y10⟩ := HS9.out.h.cells
  obtain ⟨z0, z1, z2, z3, z4, z5, z6, z7, z8, z9, z10⟩ := HS9.out.z.cells
  obtain ⟨f0, f1, f2, f3, f4, f5, f6, f7, f8, f9, f10⟩ := HS9.out.z.frozen
  by_cases hk : Hd.chk ⟨(w : Int), (st : Int), en, (hp : Int), (sr : Int), (gp : Int), id, x⟩ = true
  · have HR := Lib.hid (show decH s = ⟨(w : Int), (st : Int), en, (hp : Int), (sr : Int), (gp : Int), id, x⟩ ∧ decHE s = 0 by
      have h1 := HFF.out
      rw [HCD.out, if_pos hk, if_pos hk] at h1
      exact h1)
    have HER := Lib.hid (show Hd.err ⟨(w : Int), (st : Int), en, (hp : Int), (sr : Int), (gp : Int), id, x⟩ = 0 by rw [Hd.err, if_pos hk])
    clear hk
    rw [HER.out]
    go_wp2_with fail
    refine bodyPost_ret (v := .tuple #[.agg #[.int .i64 w, .int .i64 st, .int .u32 en, .int .i64 hp, .int .i64 sr, .int .i64 gp, .int .u32 id, .int .u64 x.a, .int .u64 x.b, .int .u64 x.c, .int .u64 x.d], .int .i64 0]) ?_ rfl ⟨?_, ?_⟩
    · simp only [results, Tryz.results58]
      go_simp
    · rw [HR.out.1, HR.out.2]; rfl
    · repeat (with_reducible refine Below.setCell ?_ (by simp only; omega) _)
      exact HS9.out.bel
  · have HR := Lib.hid (show decH s = Hd.zero ∧ decHE s = 4 by
      have h1 := HFF.out
      rw [HCD.out, if_neg hk, if_neg hk] at h1
      exact h1)
    have HER := Lib.hid (show Hd.err ⟨(w : Int), (st : Int), en, (hp : Int), (sr : Int), (gp : Int), id, x⟩ = 2 by rw [Hd.err, if_neg hk])
    clear hk
    rw [HER.out]
    go_wp2_with fail
    refine bodyPost_ret (v := .tuple #[.agg #[.int .i64 0, .int .i64 0, .int .u32 0, .int .i64 0, .int .i64 0, .int .i64 0, .int .u32 0, .int .u64 0, .int .u64 0, .int .u64 0, .int .u64 0], .int .i64 (4)]) ?_ rfl ⟨?_, ?_⟩
    · simp only [results, Tryz.results58]
      go_simp
    · rw [HR.out.1, HR.out.2]; rfl
    · repeat (with_reducible refine Below.setCell ?_ (by simp only; omega) _)
      exact HS9.out.bel

theorem hdecode_any (s : ByteArray) (W : World) (hs : s.size ≤ 140737488355328) :
    Calls Tryz.prog 58 #[.string s] W fun e W' => e = .returned (.tuple #[(decH s).ag, .int .i64 (decHE s)]) ∧ Below W.heap.size W W' := by
  by_cases h0 : 0 < s.size
  · by_cases h1 : seg s.data.toList 0 1 < 16 ∨ 21 < seg s.data.toList 0 1
    · have hf : formH s.data.toList = false := by
        rw [← Bool.not_eq_true]
        intro h
        simp only [formH, Bool.and_eq_true, decide_eq_true_eq] at h
        omega
      have h := hdecode_first s W (.inr ⟨h0, h1⟩)
      rw [show decH s = Hd.zero from by rw [decH, if_neg (fun h => by rw [hf] at h; exact absurd h.1 (by decide))], show decHE s = 4 from by rw [decHE, hf]; rfl]
      exact h
    · exact hdecode_form s (seg s.data.toList 0 1 - 16) W h0 (by omega) (by omega) hs
  · have hf : formH s.data.toList = false := by
      rw [← Bool.not_eq_true]
      intro h
      simp only [formH, Bool.and_eq_true, decide_eq_true_eq, size_eq] at h
      omega
    have h := hdecode_first s W (.inl (by omega))
    rw [show decH s = Hd.zero from by rw [decH, if_neg (fun h => by rw [hf] at h; exact absurd h.1 (by decide))], show decHE s = 4 from by rw [decHE, hf]; rfl]
    exact h

end Go.Proofs.YtickjmkkgcfkhaaGreat
