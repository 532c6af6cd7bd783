/- Two bit strings, two headers: are they the same, as the program asks. -/
import Derived.Test.YtickjmkkgcfkhaaGreatHdB
import Derived.DeepKeys
set_option linter.unusedSimpArgs false
set_option linter.unusedVariables false
set_option maxRecDepth 100000
namespace Go.Proofs.YtickjmkkgcfkhaaGreat
open Go.RowKit Go.ChangeShapes Go.WideShapes

theorem lit_u64 (d v : Nat) (h : v < 18446744073709551616) : Tryz.prog.keyLits (d + 1) 28 [.int .u64 v] = some [.int .u64 v] := by
  unfold Program.keyLits
  rw [Tryz.underlying28]
  exact if_pos ⟨rfl, by show (decide ((0 : Int) ≤ v) && decide ((v : Int) ≤ 18446744073709551615)) = true; rw [decide_eq_true (by omega), decide_eq_true (by omega)]; rfl⟩
theorem lit_u32 (d v : Nat) (h : v < 4294967296) : Tryz.prog.keyLits (d + 1) 22 [.int .u32 v] = some [.int .u32 v] := by
  unfold Program.keyLits
  rw [Tryz.underlying22]
  exact if_pos ⟨rfl, by show (decide ((0 : Int) ≤ v) && decide ((v : Int) ≤ 4294967295)) = true; rw [decide_eq_true (by omega), decide_eq_true (by omega)]; rfl⟩
theorem lit_i64 (d : Nat) (v : Int) (h : I64 v) : Tryz.prog.keyLits (d + 1) 3 [.int .i64 v] = some [.int .i64 v] := by
  unfold Program.keyLits
  rw [Tryz.underlying3]
  obtain ⟨h1, h2⟩ := h
  exact if_pos ⟨rfl, by show (decide ((-9223372036854775808 : Int) ≤ v) && decide ((v : Int) ≤ 9223372036854775807)) = true; rw [decide_eq_true (by omega), decide_eq_true (by omega)]; rfl⟩
theorem cells_bits : Tryz.prog.cellsOf 30 = 4 := by kernel_rfl
theorem cells_u64 : Tryz.prog.cellsOf 28 = 1 := by kernel_rfl
theorem lit_bits (d : Nat) (x : Bt) (h : x.ok) : Tryz.prog.keyLits (d + 2) 30 [.int .u64 x.a, .int .u64 x.b, .int .u64 x.c, .int .u64 x.d] = some [.int .u64 x.a, .int .u64 x.b, .int .u64 x.c, .int .u64 x.d] := by
  obtain ⟨h1, h2, h3, h4⟩ := h
  unfold Program.keyLits
  rw [Tryz.underlying30]
  simp only [cells_bits, cells_u64]
  refine (if_pos rfl).trans ?_
  simp [List.range_succ, lit_u64, h1, h2, h3, h4]
theorem eq_bits (x y : Bt) (hx : x.ok) (hy : y.ok) (w : World) : (Op.equalIn 10000 30 (.agg #[.int .u64 x.a, .int .u64 x.b, .int .u64 x.c, .int .u64 x.d]) (.agg #[.int .u64 y.a, .int .u64 y.b, .int .u64 y.c, .int .u64 y.d])).run Tryz.prog w = .ok (decide (x = y)) w := by
  obtain ⟨r, hr, hi⟩ := run_equalIn_deep (P := Tryz.prog) 9998 2 30 (by kernel_rfl) w 2 2 (.agg #[.int .u64 x.a, .int .u64 x.b, .int .u64 x.c, .int .u64 x.d]) (.agg #[.int .u64 y.a, .int .u64 y.b, .int .u64 y.c, .int .u64 y.d]) _ _ (by kernel_rfl) (by kernel_rfl) (lit_bits 0 x hx) (lit_bits 0 y hy)
  rw [hr]
  congr 1
  have : r = true ↔ x = y := by
    rw [hi]
    constructor
    · intro e
      simp only [List.cons.injEq, Lit.int.injEq, true_and, and_true] at e
      obtain ⟨xa, xb, xc, xd⟩ := x
      obtain ⟨ya, yb, yc, yd⟩ := y
      simp only [Bt.mk.injEq]
      simp only at e
      omega
    · rintro rfl; rfl
  rw [Bool.eq_iff_iff, this, decide_eq_true_eq]

def Hd.cs (h : Hd) : Array Value := #[.int .i64 h.wid, .int .i64 h.set, .int .u32 h.ent, .int .i64 h.hops, .int .i64 h.src, .int .i64 h.grp, .int .u32 h.id, .int .u64 h.bits.a, .int .u64 h.bits.b, .int .u64 h.bits.c, .int .u64 h.bits.d]
def Hd.ag (h : Hd) : Value := .agg h.cs
theorem cells_hd : Tryz.prog.cellsOf 32 = 11 := by kernel_rfl
theorem cells_i64 : Tryz.prog.cellsOf 3 = 1 := by kernel_rfl
theorem cells_u32 : Tryz.prog.cellsOf 22 = 1 := by kernel_rfl
def Hd.lits (h : Hd) : List Lit := [.int .i64 h.wid, .int .i64 h.set, .int .u32 h.ent, .int .i64 h.hops, .int .i64 h.src, .int .i64 h.grp, .int .u32 h.id, .int .u64 h.bits.a, .int .u64 h.bits.b, .int .u64 h.bits.c, .int .u64 h.bits.d]
theorem lit_hd (d : Nat) (h : Hd) (hk : h.ok) : Tryz.prog.keyLits (d + 3) 32 h.cs.toList = some h.lits := by
  obtain ⟨h1, h2, h3, h4, h5, h6, h7, h8⟩ := hk
  have hb := lit_bits d h.bits h8
  unfold Program.keyLits
  rw [Tryz.underlying32]
  refine (if_pos ⟨cells_hd.symm, by kernel_rfl⟩).trans ?_
  simp [cells_bits, cells_i64, cells_u32, lit_i64, lit_u32, h1, h2, h3, h4, h5, h6, h7, hb, Hd.cs, Hd.lits]
theorem eq_hd (x y : Hd) (hx : x.ok) (hy : y.ok) (w : World) : (Op.equalIn 10000 32 (.agg x.cs) (.agg y.cs)).run Tryz.prog w = .ok (decide (x = y)) w := by
  obtain ⟨r, hr, hi⟩ := run_equalIn_deep (P := Tryz.prog) 9997 3 32 (by kernel_rfl) w 3 3 (.agg x.cs) (.agg y.cs) _ _ (by kernel_rfl) (by kernel_rfl) (lit_hd 0 x hx) (lit_hd 0 y hy)
  rw [hr]
  congr 1
  have : r = true ↔ x = y := by
    rw [hi]
    constructor
    · intro e
      simp only [Hd.lits, List.cons.injEq, Lit.int.injEq, true_and, and_true] at e
      obtain ⟨x1, x2, x3, x4, x5, x6, x7, ⟨xa, xb, xc, xd⟩⟩ := x
      obtain ⟨y1, y2, y3, y4, y5, y6, y7, ⟨ya, yb, yc, yd⟩⟩ := y
      simp only [Hd.mk.injEq, Bt.mk.injEq]
      simp only at e
      obtain ⟨e1, e2, e3, e4, e5, e6, e7, e8, e9, e10, e11⟩ := e
      exact ⟨e1, e2, by omega, e4, e5, e6, by omega, by omega, by omega, by omega, by omega⟩
    · rintro rfl; rfl
  rw [Bool.eq_iff_iff, this, decide_eq_true_eq]
def BoxH (g : Nat) (h : Hd) (V : World) : Prop := V.heap[g]? = some (.cells h.cs 32 (0, 0))
theorem BoxH.later {b : Nat} {x : Hd} {V X : World} (h : BoxH b x V) (hb : Below V.heap.size V X) : BoxH b x X := (hb.block b (Array.getElem?_eq_some_iff.1 h).1).trans h
theorem BoxH.cells {b : Nat} {h : Hd} {V : World} (x : BoxH b h V) : V.cell? ⟨b, 0, none⟩ = some (.int .i64 h.wid) ∧ V.cell? ⟨b, 1, none⟩ = some (.int .i64 h.set) ∧ V.cell? ⟨b, 2, none⟩ = some (.int .u32 h.ent) ∧ V.cell? ⟨b, 3, none⟩ = some (.int .i64 h.hops) ∧
    V.cell? ⟨b, 4, none⟩ = some (.int .i64 h.src) ∧ V.cell? ⟨b, 5, none⟩ = some (.int .i64 h.grp) ∧ V.cell? ⟨b, 6, none⟩ = some (.int .u32 h.id) ∧ V.cell? ⟨b, 7, none⟩ = some (.int .u64 h.bits.a) ∧ V.cell? ⟨b, 8, none⟩ = some (.int .u64 h.bits.b) ∧ V.cell? ⟨b, 9, none⟩ = some (.int .u64 h.bits.c) ∧ V.cell? ⟨b, 10, none⟩ = some (.int .u64 h.bits.d) :=
  ⟨cell_of_row _ _ 0 _ _ _ x, cell_of_row _ _ 1 _ _ _ x, cell_of_row _ _ 2 _ _ _ x, cell_of_row _ _ 3 _ _ _ x, cell_of_row _ _ 4 _ _ _ x, cell_of_row _ _ 5 _ _ _ x, cell_of_row _ _ 6 _ _ _ x, cell_of_row _ _ 7 _ _ _ x, cell_of_row _ _ 8 _ _ _ x, cell_of_row _ _ 9 _ _ _ x, cell_of_row _ _ 10 _ _ _ x⟩

end Go.Proofs.YtickjmkkgcfkhaaGreat
