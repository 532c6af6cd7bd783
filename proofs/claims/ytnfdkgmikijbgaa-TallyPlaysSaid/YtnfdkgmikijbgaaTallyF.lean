/- Contracts of the tally: a step noted. -/
import Derived.Test.YtnfdkgmikijbgaaTallyE
set_option linter.unusedSimpArgs false
set_option linter.unusedVariables false
namespace Go.Proofs.Ytnfdkgmikijbgaa
open Go.RowKit Go.ChangeShapes Go.WideShapes

theorem Dn.of_ok {d : Dn} (hd : d.ok) : d.of.ok := by
  obtain ⟨hn, _, _⟩ := hd
  have := popc_lt d.los.a; have := popc_lt d.los.b; have := popc_lt d.los.c; have := popc_lt d.los.d
  have := popc_lt d.exp.a; have := popc_lt d.exp.b; have := popc_lt d.exp.c; have := popc_lt d.exp.d
  unfold Cn.ok U64 Dn.of B4.cnt
  simp only
  refine ⟨by omega, ?_, by omega, by omega, by omega, by omega⟩
  split <;> omega
theorem boxd_cells {V : World} {b : Nat} {d : Dn} (h : V.heap[b]? = some (.cells d.cells 34 (0, 0))) : V.cell? ⟨b, 0, none⟩ = some (.bool d.loc) ∧ V.cell? ⟨b, 1, none⟩ = some (.slice d.sa d.sn d.sc) ∧ V.cell? ⟨b, 2, none⟩ = some (.int .u64 d.los.a) ∧ V.cell? ⟨b, 3, none⟩ = some (.int .u64 d.los.b) ∧ V.cell? ⟨b, 4, none⟩ = some (.int .u64 d.los.c) ∧ V.cell? ⟨b, 5, none⟩ = some (.int .u64 d.los.d) ∧ V.cell? ⟨b, 6, none⟩ = some (.int .u64 d.exp.a) ∧ V.cell? ⟨b, 7, none⟩ = some (.int .u64 d.exp.b) ∧ V.cell? ⟨b, 8, none⟩ = some (.int .u64 d.exp.c) ∧ V.cell? ⟨b, 9, none⟩ = some (.int .u64 d.exp.d) :=
  ⟨cell_of_row _ _ 0 _ _ _ h, cell_of_row _ _ 1 _ _ _ h, cell_of_row _ _ 2 _ _ _ h, cell_of_row _ _ 3 _ _ _ h, cell_of_row _ _ 4 _ _ _ h, cell_of_row _ _ 5 _ _ _ h, cell_of_row _ _ 6 _ _ _ h, cell_of_row _ _ 7 _ _ _ h, cell_of_row _ _ 8 _ _ _ h, cell_of_row _ _ 9 _ _ _ h⟩

set_option maxHeartbeats 1600000 in
theorem note_any (t r : Nat) (B : Nat) (L : List Cn) (d : Dn) (W : World) (H : TAt W B t L) (hd : d.ok) (h1 : 1 ≤ r) (h2 : r ≤ 24) :
    Calls Try.prog 8 #[.pointer (some ⟨t, 0, none⟩), .int .i64 r, d.ag] W fun e W' => e = .returned (.int .i64 0) ∧ TAt W' B t (L.set r ((L.getD r default).add d.of)) ∧ W.grownBy W' (some t) := by
  have hrl : r < L.length := by rw [H.len]; omega
  have hok : (L.getD r default).ok := H.ok _ (by rw [List.getD_eq_getElem?_getD, List.getElem?_eq_getElem hrl]; exact List.getElem_mem hrl)
  obtain ⟨W1, hW1⟩ : ∃ W1, W1 = W.alloc (.cells d.cells 34) := ⟨_, rfl⟩
  have hb1 : Below W.heap.size W W1 := by rw [hW1]; exact (Below.refl _ _).alloc (Nat.le_refl _) _
  have hx := boxd_cells (d := d) (V := W1) (b := W.heap.size) (by rw [hW1]; exact heap_alloc_new _ _)
  have H1 := H.later hb1
  have HN := Lib.hid (at_any t r W1 H1.c0 h1 h2)
  have HO := Lib.hid (of_any d W1 hd)
  have HA := Lib.hid (show ∀ V, Below W1.heap.size W1 V → Calls Try.prog 25 #[.pointer (some ⟨t, r * 6 + 1, none⟩), d.of.ag] V fun e W' => e = .returned (.tuple #[]) ∧ TAt W' B t (L.set r ((L.getD r default).add d.of)) ∧ W.grownBy W' (some t) from fun V hV =>
    (add_any t (r * 6 + 1) 61 _ _ d.of V (H1.later hV).row (tlC_six hrl) hok (Dn.of_ok hd)).mono fun e W' h => ⟨h.1, (TAt.put (H1.later hV) h2 (Cn.add_ok hok (Dn.of_ok hd)) h.2).1, grown_behind (hb1.trans (hV.mono hb1.size)) (TAt.put (H1.later hV) h2 (Cn.add_ok hok (Dn.of_ok hd)) h.2).2⟩)
  obtain ⟨x0, x1, x2, x3, x4, x5, x6, x7, x8, x9⟩ := hx
  have HW1 := Lib.hid hW1
  clear hW1 hok hrl H H1 hb1 hd
  go_enter Try.func8, Try.ntmps8
  unfold Dn.ag at *
  go_wp2_with fail
  rw [← HW1.out]
  refine HN.out.mono ?_
  rintro e w ⟨rfl, rfl⟩
  go_wp2_with fail
  refine HO.out.mono ?_
  rintro e V ⟨rfl, hb⟩
  have HAV := Lib.hid (HA.out V hb)
  clear hb x0 x1 x2 x3 x4 x5 x6 x7 x8 x9
  go_wp2_with fail
  refine HAV.out.mono ?_
  rintro e X ⟨rfl, hq⟩
  have HQ := Lib.hid hq
  clear hq
  go_wp2_with fail
  go_returns
  exact ⟨rfl, HQ.out⟩

end Go.Proofs.Ytnfdkgmikijbgaa
