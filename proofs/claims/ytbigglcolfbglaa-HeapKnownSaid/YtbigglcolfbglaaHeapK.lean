/- Contracts of a heap's Peek. -/
import Derived.Test.YtbigglcolfbglaaHeapU
set_option linter.unusedSimpArgs false
set_option linter.unusedVariables false
namespace Go.Proofs.Ytbigglcolfbglaa
open Go.RowKit

theorem ipeek_yes {B h G n : Nat} {caps : Array Value} {L : List ((Int) × Nat)} {sv : Value} (W : World) (H : iAt W B h G caps L n sv) (h0 : 0 < L.length) :
    Calls Try.prog 26 #[.pointer (some ⟨h, 0, none⟩)] W fun e W' => e = .returned (.tuple #[.int .i64 (g L 0).1, .bool true]) ∧ Below W.heap.size W W' := by
  obtain ⟨gb, cap, rfl, hgB, hgl, hgc, hgm, hcells, hfroz⟩ := H.row.form h0
  have gz := iCs_get (L := L) (i := 0) h0
  have k0 : W.cell? ⟨gb, 0, none⟩ = some (.int .i64 (g L 0).1) := (hcells 0 (by omega)).trans gz.1
  obtain ⟨W1, hW1⟩ : ∃ W1, W1 = W := ⟨_, rfl⟩
  have hb1 : Below W.heap.size W W1 := by rw [hW1]; exact Below.refl _ _
  have H1 : iAt W1 B h G caps L n _ := HeapAt.later H hb1
  have k0' : W1.cell? ⟨gb, 0, none⟩ = some (.int .i64 (g L 0).1) := (hb1.cell (p := ⟨gb, 0, none⟩) hgl).trans k0
  have c1 : W1.cell? ⟨h, 1, none⟩ = some (.slice (some ⟨gb, 0, none⟩) L.length cap) := H1.cell 1
  have hne : (((L.length : Nat) : Int) == 0) = false := by rw [beq_eq_false_iff_ne]; omega
  have HW1 := Lib.hid hW1
  have HB := Lib.hid hb1
  clear hW1 hb1 k0 hcells hfroz H
  go_enter Try.func26, Try.ntmps26
  go_wp2_with fail
  rw [← HW1.out]
  refine (ilen_any W1 H1).mono ?_
  rintro e w' ⟨rfl, rfl⟩
  go_wp2_with fail
  go_ret2
  exact ⟨rfl, HB.out⟩
theorem ipeek_no {B h G n : Nat} {caps : Array Value} {sv : Value} (W : World) (H : iAt W B h G caps [] n sv) :
    Calls Try.prog 26 #[.pointer (some ⟨h, 0, none⟩)] W fun e W' => e = .returned (.tuple #[.int .i64 0, .bool false]) ∧ Below W.heap.size W W' := by
  go_enter Try.func26, Try.ntmps26
  go_wp2_with fail
  have H1 := H
  refine (ilen_any _ H1).mono ?_
  rintro e w' ⟨rfl, rfl⟩
  go_wp2_with fail
  go_ret2
  exact ⟨rfl, Below.refl _ _⟩

theorem tpeek_yes {B h G n : Nat} {caps : Array Value} {L : List ((Int × Int) × Nat)} {sv : Value} (W : World) (H : tAt W B h G caps L n sv) (h0 : 0 < L.length) :
    Calls Try.prog 14 #[.pointer (some ⟨h, 0, none⟩)] W fun e W' => e = .returned (.tuple #[.agg #[.int .i64 (g L 0).1.1, .int .i64 (g L 0).1.2], .bool true]) ∧ Below W.heap.size W W' := by
  obtain ⟨gb, cap, rfl, hgB, hgl, hgc, hgm, hcells, hfroz⟩ := H.row.form h0
  have gz := tCs_get (L := L) (i := 0) h0
  have k0 : W.cell? ⟨gb, 0, none⟩ = some (.int .i64 (g L 0).1.1) := (hcells 0 (by omega)).trans gz.1
  have k1 : W.cell? ⟨gb, 1, none⟩ = some (.int .i64 (g L 0).1.2) := (hcells 1 (by omega)).trans gz.2.1
  obtain ⟨W1, hW1⟩ : ∃ W1, W1 = W.alloc (.cells #[.int .i64 0, .int .i64 0] 26) := ⟨_, rfl⟩
  have hb1 : Below W.heap.size W W1 := by rw [hW1]; exact (Below.refl _ _).alloc (Nat.le_refl _) _
  have hbl : W.heap.size < W1.heap.size := by rw [hW1, World.size_alloc]; omega
  have hbx : W1.heap[W.heap.size]? = some (.cells #[.int .i64 0, .int .i64 0] 26 (0, 0)) := by rw [hW1]; exact heap_alloc_new _ _
  have r0 : W1.cell? ⟨W.heap.size, 0, none⟩ = some (.int .i64 0) := cell_of_row _ _ 0 _ _ _ hbx
  have r1 : W1.cell? ⟨W.heap.size, 1, none⟩ = some (.int .i64 0) := cell_of_row _ _ 1 _ _ _ hbx
  have r2 : W1.frozen? ⟨W.heap.size, 0, none⟩ = false := frozen_of_row _ _ 0 _ _ hbx
  have r3 : W1.frozen? ⟨W.heap.size, 1, none⟩ = false := frozen_of_row _ _ 1 _ _ hbx
  have H1 : tAt W1 B h G caps L n _ := HeapAt.later H hb1
  have k0' : W1.cell? ⟨gb, 0, none⟩ = some (.int .i64 (g L 0).1.1) := (hb1.cell (p := ⟨gb, 0, none⟩) hgl).trans k0
  have k1' : W1.cell? ⟨gb, 1, none⟩ = some (.int .i64 (g L 0).1.2) := (hb1.cell (p := ⟨gb, 1, none⟩) hgl).trans k1
  have c1 : W1.cell? ⟨h, 1, none⟩ = some (.slice (some ⟨gb, 0, none⟩) L.length cap) := H1.cell 1
  have hne : (((L.length : Nat) : Int) == 0) = false := by rw [beq_eq_false_iff_ne]; omega
  have HW1 := Lib.hid hW1
  have HB := Lib.hid hb1
  have HX := Lib.hid hbx
  clear hW1 hb1 k0 hcells hfroz H
  clear k1 hbx
  go_enter Try.func14, Try.ntmps14
  go_wp2_with fail
  rw [← HW1.out]
  refine (tlen_any W1 H1).mono ?_
  rintro e w' ⟨rfl, rfl⟩
  go_wp2_with fail
  have eb := heap_setCell_same _ _ 1 _ _ (.int .i64 (g L 0).1.2) (heap_setCell_same W1 _ 0 _ _ (.int .i64 (g L 0).1.1) HX.out)
  have e0 := cell_of_row _ _ 0 _ _ _ eb
  have e1 := cell_of_row _ _ 1 _ _ _ eb
  simp only [List.getElem?_toArray, List.setIfInBounds_toArray, List.set_cons_zero, List.set_cons_succ, List.getElem?_cons_zero, List.getElem?_cons_succ] at e0 e1
  exact bodyPost_ret (v := .tuple #[.agg #[.int .i64 (g L 0).1.1, .int .i64 (g L 0).1.2], .bool true]) (by simp [results, Try.results14, go_sem, e0, e1]) rfl ⟨rfl, (HB.out.setCell (Nat.le_refl _) _).setCell (Nat.le_refl _) _⟩
theorem tpeek_no {B h G n : Nat} {caps : Array Value} {sv : Value} (W : World) (H : tAt W B h G caps [] n sv) :
    Calls Try.prog 14 #[.pointer (some ⟨h, 0, none⟩)] W fun e W' => e = .returned (.tuple #[.agg #[.int .i64 0, .int .i64 0], .bool false]) ∧ Below W.heap.size W W' := by
  go_enter Try.func14, Try.ntmps14
  go_wp2_with fail
  have H1 := HeapAt.later H ((Below.refl W.heap.size W).alloc (Nat.le_refl _) (.cells #[.int .i64 0, .int .i64 0] 26))
  refine (tlen_any _ H1).mono ?_
  rintro e w' ⟨rfl, rfl⟩
  go_wp2_with fail
  exact bodyPost_ret (v := .tuple #[.agg #[.int .i64 0, .int .i64 0], .bool false]) (by simp [results, Try.results14, go_sem]) rfl ⟨rfl, ((Below.refl _ _).alloc (Nat.le_refl _) _).alloc (by rw [World.size_alloc]; omega) _⟩
end Go.Proofs.Ytbigglcolfbglaa
