/- Contract of a heap's Pop where there is nothing; what came in: lists of acts, of things. -/
import Derived.Test.YtbigglcolfbglaaHeapS
import Derived.Test.YtbigglcolfbglaaLeaves
set_option linter.unusedSimpArgs false
set_option linter.unusedVariables false
namespace Go.Proofs.Ytbigglcolfbglaa
open Go.RowKit Go.ChangeShapes Go.WideShapes

theorem ipop_no {B h G n : Nat} {caps : Array Value} {sv : Value} (W : World) (H : iAt W B h G caps [] n sv) :
    Calls Try.prog 25 #[.pointer (some ⟨h, 0, none⟩)] W fun e W' => e = .returned (.tuple #[.int .i64 0, .bool false]) ∧ Below W.heap.size W W' := by
  obtain ⟨W1, hW1⟩ : ∃ W1, W1 = W := ⟨_, rfl⟩
  have hb1 : Below W.heap.size W W1 := by rw [hW1]; exact Below.refl _ _
  have H1 : iAt W1 B h G caps [] n _ := HeapAt.later H hb1
  have HW1 := Lib.hid hW1
  clear hW1
  go_enter Try.func25, Try.ntmps25
  go_wp2_with fail
  rw [← HW1.out]
  refine (ipeek_no W1 H1).mono ?_
  rintro e W2 ⟨rfl, hb2⟩
  have hbt := hb1.trans (hb2.mono hb1.size)
  have HB := Lib.hid hbt
  clear hbt hb1 hb2 H1
  go_wp2_with fail
  go_ret2
  exact ⟨rfl, HB.out⟩


theorem tpop_no {B h G n : Nat} {caps : Array Value} {sv : Value} (W : World) (H : tAt W B h G caps [] n sv) :
    Calls Try.prog 12 #[.pointer (some ⟨h, 0, none⟩)] W fun e W' => e = .returned (.tuple #[.agg #[.int .i64 0, .int .i64 0], .bool false]) ∧ Below W.heap.size W W' := by
  obtain ⟨W1, hW1⟩ : ∃ W1, W1 = W.alloc (.cells #[.int .i64 0, .int .i64 0] 26) := ⟨_, rfl⟩
  have hb1 : Below W.heap.size W W1 := by rw [hW1]; exact (Below.refl _ _).alloc (Nat.le_refl _) _
  have hbl : W.heap.size < W1.heap.size := by rw [hW1, World.size_alloc]; omega
  have hbx : W1.heap[W.heap.size]? = some (.cells #[.int .i64 0, .int .i64 0] 26 (0, 0)) := by rw [hW1]; exact heap_alloc_new _ _
  have H1 : tAt W1 B h G caps [] n _ := HeapAt.later H hb1
  have HW1 := Lib.hid hW1
  clear hW1
  go_enter Try.func12, Try.ntmps12
  go_wp2_with fail
  rw [← HW1.out]
  refine (tpeek_no W1 H1).mono ?_
  rintro e W2 ⟨rfl, hb2⟩
  have hbt := hb1.trans (hb2.mono hb1.size)
  have hbr : W2.heap[W.heap.size]? = some (.cells #[.int .i64 0, .int .i64 0] 26 (0, 0)) := by rw [hb2.block _ hbl]; exact hbx
  obtain ⟨W3, hW3⟩ : ∃ W3, W3 = W2.alloc (.cells #[.int .i64 0, .int .i64 0] 26) := ⟨_, rfl⟩
  have hr3 : W3.heap[W.heap.size]? = some (.cells #[.int .i64 0, .int .i64 0] 26 (0, 0)) := by rw [hW3, Below.heap_alloc _ _ _ (Nat.lt_of_lt_of_le hbl hb2.size)]; exact hbr
  have hz3 : W3.heap.size = W2.heap.size + 1 := by rw [hW3, World.size_alloc]
  have r0 : (W2.alloc (.cells #[.int .i64 0, .int .i64 0] 26)).cell? ⟨W.heap.size, 0, none⟩ = some (.int .i64 0) := by rw [← hW3]; exact cell_of_row _ _ 0 _ _ _ hr3
  have r1 : (W2.alloc (.cells #[.int .i64 0, .int .i64 0] 26)).cell? ⟨W.heap.size, 1, none⟩ = some (.int .i64 0) := by rw [← hW3]; exact cell_of_row _ _ 1 _ _ _ hr3
  have r2 : (W2.alloc (.cells #[.int .i64 0, .int .i64 0] 26)).frozen? ⟨W.heap.size, 0, none⟩ = false := by rw [← hW3]; exact frozen_of_row _ _ 0 _ _ hr3
  have r3 : (W2.alloc (.cells #[.int .i64 0, .int .i64 0] 26)).frozen? ⟨W.heap.size, 1, none⟩ = false := by rw [← hW3]; exact frozen_of_row _ _ 1 _ _ hr3
  have HR3 := Lib.hid hr3
  have HW3 := Lib.hid hW3
  have hbt3 := hbt.alloc hbt.size (.cells #[.int .i64 0, .int .i64 0] 26)
  have HB := Lib.hid hbt
  have HB3 := Lib.hid hbt3
  clear hr3 hW3 hbr hbx hbt3 hz3
  clear hbt hb1 hb2 H1
  go_wp2_with fail
  have eb := heap_setCell_same _ _ 1 _ _ (.int .i64 0) (heap_setCell_same W3 _ 0 _ _ (.int .i64 0) HR3.out)
  rw [HW3.out] at eb
  have e0 := cell_of_row _ _ 0 _ _ _ eb
  have e1 := cell_of_row _ _ 1 _ _ _ eb
  simp only [List.getElem?_toArray, List.setIfInBounds_toArray, List.set_cons_zero, List.set_cons_succ, List.getElem?_cons_zero, List.getElem?_cons_succ] at e0 e1
  exact bodyPost_ret (v := .tuple #[.agg #[.int .i64 0, .int .i64 0], .bool false]) (by simp [results, Try.results12, go_sem, e0, e1]) rfl ⟨rfl, (HB3.out.setCell (Nat.le_refl _) _).setCell (Nat.le_refl _) _⟩

/-! ### what came in -/
/-- The cells of a list of acts. -/
def ActsAt (W : World) (a0 : Option Addr) (xs : List (Int × Int × Int)) : Prop :=
  ∀ i, i < xs.length → ∃ ad, a0 = some ad ∧ W.cell? (ad.add (i * 3)) = some (.int .i64 (xs.getD i default).1) ∧ W.cell? (ad.add (i * 3 + 1)) = some (.int .i64 (xs.getD i default).2.1) ∧ W.cell? (ad.add (i * 3 + 2)) = some (.int .i64 (xs.getD i default).2.2)
theorem acts_open {H : Type} {enc : TypeId × Value → H} {r : Reach} {base : Nat} {W : World} {v : Value} {d : DataW H} {p : List MemPlace} (hv : Value.okWide Try.prog W r base 22 v) (h : DataW.Trod enc Try.prog W 0 (fun _ => true) true 22 v d p) (_ : ∀ n ∈ d.weights Try.prog 22, n ≤ reachBytes) :
    ∃ x : Option Addr × Nat × List (Int × Int × Int), v = .slice x.1 x.2.2.length x.2.1 ∧ ActsAt W x.1 x.2.2 := by
  obtain ⟨a0, len, cap, rfl⟩ := okWide_slice Try.underlying22 hv
  obtain ⟨rows, hl, hf, hc, _⟩ := slice_rows (n := 5) (ts := [3, 3, 3]) Try.underlying22 (by kernel_rfl) (by kernel_rfl) h
  obtain ⟨xs, rfl, _⟩ := all_form (f := fun x : Int × Int × Int => [Value.int .i64 x.1, .int .i64 x.2.1, .int .i64 x.2.2]) (Q := fun _ => True) rows (by
    intro i row hr
    obtain ⟨X, hX, _⟩ := hf i row hr
    obtain ⟨n0, e0, _⟩ := hX.int (j := 0) rfl Try.underlying3
    obtain ⟨n1, e1, _⟩ := hX.int (j := 1) rfl Try.underlying3
    obtain ⟨n2, e2, _⟩ := hX.int (j := 2) rfl Try.underlying3
    refine ⟨(n0, n1, n2), trivial, ?_⟩
    have hl := hX.1
    match row, hl with
    | [x, y, z], _ => simp at e0 e1 e2; rw [e0, e1, e2])
  rw [List.length_map] at hl
  refine ⟨(a0, cap, xs), by rw [← hl], fun i hi => ?_⟩
  have hrow : (xs.map (fun x : Int × Int × Int => [Value.int .i64 x.1, .int .i64 x.2.1, .int .i64 x.2.2]))[i]? = some [Value.int .i64 (xs.getD i default).1, .int .i64 (xs.getD i default).2.1, .int .i64 (xs.getD i default).2.2] := by
    simp [List.getD_eq_getElem?_getD, hi]
  obtain ⟨ad, h1, h2⟩ := hc i 0 _ _ hrow rfl
  obtain ⟨ad', h1', h3⟩ := hc i 1 _ _ hrow rfl
  obtain ⟨ad'', h1'', h4⟩ := hc i 2 _ _ hrow rfl
  rw [h1] at h1' h1''
  simp only [Option.some.injEq] at h1' h1''
  subst h1'; subst h1''
  exact ⟨ad, h1, h2, h3, h4⟩

/-- The cells of a list of things. -/
def ThsAt (W : World) (a0 : Option Addr) (xs : List (Int × Int)) : Prop :=
  ∀ i, i < xs.length → ∃ ad, a0 = some ad ∧ W.cell? (ad.add (i * 2)) = some (.int .i64 (xs.getD i default).1) ∧ W.cell? (ad.add (i * 2 + 1)) = some (.int .i64 (xs.getD i default).2)
theorem ths_open {H : Type} {enc : TypeId × Value → H} {r : Reach} {base : Nat} {W : World} {v : Value} {d : DataW H} {p : List MemPlace} (hv : Value.okWide Try.prog W r base 28 v) (h : DataW.Trod enc Try.prog W 0 (fun _ => true) true 28 v d p) (_ : ∀ n ∈ d.weights Try.prog 28, n ≤ reachBytes) :
    ∃ x : Option Addr × Nat × List (Int × Int), v = .slice x.1 x.2.2.length x.2.1 ∧ ThsAt W x.1 x.2.2 ∧ x.2.2.length ≤ x.2.1 ∧ x.2.1 ≤ maxLen ∧ (x.1 = none → x.2.1 = 0) := by
  obtain ⟨a0, len, cap, rfl⟩ := okWide_slice Try.underlying28 hv
  obtain ⟨rows, hl, hf, hc, _, hlc, hcm, hn⟩ := slice_rows (n := 5) (ts := [3, 3]) Try.underlying28 (by kernel_rfl) (by kernel_rfl) h
  obtain ⟨xs, rfl, _⟩ := all_form (f := fun x : Int × Int => [Value.int .i64 x.1, .int .i64 x.2]) (Q := fun _ => True) rows (by
    intro i row hr
    obtain ⟨X, hX, _⟩ := hf i row hr
    obtain ⟨n0, e0, _⟩ := hX.int (j := 0) rfl Try.underlying3
    obtain ⟨n1, e1, _⟩ := hX.int (j := 1) rfl Try.underlying3
    refine ⟨(n0, n1), trivial, ?_⟩
    have hl := hX.1
    match row, hl with
    | [x, y], _ => simp at e0 e1; rw [e0, e1])
  rw [List.length_map] at hl
  refine ⟨(a0, cap, xs), by rw [← hl], fun i hi => ?_, by rw [hl]; exact hlc, hcm, hn⟩
  have hrow : (xs.map (fun x : Int × Int => [Value.int .i64 x.1, .int .i64 x.2]))[i]? = some [Value.int .i64 (xs.getD i default).1, .int .i64 (xs.getD i default).2] := by
    simp [List.getD_eq_getElem?_getD, hi]
  obtain ⟨ad, h1, h2⟩ := hc i 0 _ _ hrow rfl
  obtain ⟨ad', h1', h3⟩ := hc i 1 _ _ hrow rfl
  rw [h1] at h1'
  simp only [Option.some.injEq] at h1'
  subst h1'
  exact ⟨ad, h1, h2, h3⟩

theorem ths_cells {W : World} {ad : Addr} {xs : List (Int × Int)} (h : ThsAt W (some ad) xs) : ∀ j u, (tS xs)[j]? = some u → W.cell? (ad.add j) = some u := by
  intro j u hu
  have hj : j < xs.length * 2 := by have := (List.getElem?_eq_some_iff.1 hu).1; rw [tS_length] at this; exact this
  obtain ⟨i, hi⟩ : ∃ i, j = i * 2 ∨ j = i * 2 + 1 := ⟨j / 2, by omega⟩
  have hil : i < xs.length := by omega
  obtain ⟨ad', h1, h2, h3⟩ := h i hil
  simp only [Option.some.injEq] at h1
  subst h1
  have hg := tS_get (l := xs) (i := i) hil
  rcases hi with rfl | rfl
  · rw [hg.1] at hu; rw [h2]; exact hu
  · rw [hg.2] at hu; rw [h3]; exact hu

end Go.Proofs.Ytbigglcolfbglaa
