/- A list of numbers that came in, laid open. -/
import Derived.Test.YtmjaompepchieaaPkKn
import Derived.Test.YtmjaompepchieaaLeaves
import Derived.DataReads
set_option linter.unusedSimpArgs false
set_option linter.unusedVariables false
namespace Go.Proofs.Ytmjaompepchieaa
open Go.ChangeShapes Go.WideShapes Go.ChangeAt Go.RowKit

def ArgL (W : World) (x : Option Addr × Nat × List Int) : Prop :=
  (x.1 = none ∧ x.2.1 = 0 ∧ x.2.2 = []) ∨ ∃ g off, x.1 = some ⟨g, off, none⟩ ∧ x.2.2.length ≤ x.2.1 ∧ x.2.1 ≤ maxLen ∧ g < W.heap.size ∧ ∀ j, j < x.2.2.length → W.cell? ⟨g, off + j, none⟩ = some (.int .i64 (x.2.2.getD j 0)) ∧ W.frozen? ⟨g, off + j, none⟩ = false
theorem ArgL.cut {W : World} {x : Option Addr × Nat × List Int} (h : ArgL W x) {k : Nat} (hk : k ≤ x.2.2.length) (hk2 : k ≤ 1000) : Lst W (.slice x.1 k x.2.1) (x.2.2.take k) := by
  have hl : (x.2.2.take k).length = k := by rw [List.length_take]; omega
  rcases h with ⟨h1, h2, h3⟩ | ⟨g, off, h1, h2, h3, h4, h5⟩
  · rw [h3] at hk
    obtain rfl : k = 0 := by simpa using hk
    rw [h1, h2, h3]
    exact Lst.nil_ W
  · refine .inr ⟨g, off, x.2.1, by rw [h1, hl], by omega, by omega, h3, h4, fun j hj => ?_⟩
    rw [hl] at hj
    have := h5 j (by omega)
    rw [List.getD_eq_getElem?_getD, List.getElem?_take, if_pos hj, ← List.getD_eq_getElem?_getD]
    exact this
theorem ArgL.shape {W : World} {x : Option Addr × Nat × List Int} (h : ArgL W x) : x.2.2.length ≤ x.2.1 ∧ x.2.1 ≤ maxLen := by
  rcases h with ⟨h1, h2, h3⟩ | ⟨g, off, h1, h2, h3, h4, h5⟩
  · rw [h2, h3]; exact ⟨Nat.le_refl _, by simp [maxLen]⟩
  · exact ⟨h2, h3⟩
theorem lt_of_shape {W : World} {b : Nat} {s} (h : W.shape? b = some s) : b < W.heap.size := by
  by_cases hb : b < W.heap.size
  · exact hb
  · have hn : W.heap[b]? = none := Array.getElem?_eq_none (by omega)
    simp [World.shape?, hn] at h
theorem ilist_open {H : Type} {enc : TypeId × Value → H} {r : Reach} {base : Nat} {W : World} {v : Value} {d : DataW H} {p : List MemPlace} (hv : Value.okWide Try.prog W r base 23 v) (h : DataW.Trod enc Try.prog W 0 (fun _ => true) true 23 v d p) (_ : ∀ n ∈ d.weights Try.prog 23, n ≤ reachBytes) (hfz : W.noneFrozen p) :
    ∃ x : Option Addr × Nat × List Int, v = .slice x.1 x.2.2.length x.2.1 ∧ ArgL W x := by
  obtain ⟨a0, len, cap, rfl⟩ := okWide_slice Try.underlying23 hv
  obtain ⟨fuel, hf⟩ := h
  rcases open_ints Try.underlying23 Try.underlying3 (by kernel_rfl) hf with ⟨hcs, hx⟩ | ⟨a, len', cap', zs, hcs, _, hle, hmx, hall, hx, hcell, hwf⟩
  · simp [Value.cells] at hcs
    obtain ⟨rfl, rfl, rfl⟩ := hcs
    exact ⟨(none, 0, []), rfl, .inl ⟨rfl, rfl, rfl⟩⟩
  · simp [Value.cells] at hcs
    obtain ⟨rfl, rfl, rfl⟩ := hcs
    simp only [if_true] at hall
    simp only [Prod.mk.injEq] at hx
    obtain ⟨_, rfl⟩ := hx
    have hsp : a.spot = none ∧ a.block < W.heap.size := by
      simp only [Value.okWide, Try.underlying23, Cell.okWide, Cell.ok, World.has] at hv
      obtain ⟨_, _, _, h2, row, cells, h3, _⟩ := hv
      exact ⟨h2, lt_of_shape h3⟩
    obtain ⟨g, off, spot⟩ := a
    obtain ⟨h1, h2⟩ := hsp
    simp only at h1 h2
    subst h1
    have hlt : (zs.take len).length = len := by rw [List.length_take]; omega
    refine ⟨(some ⟨g, off, none⟩, cap, zs.take len), by simp only [hlt], .inr ⟨g, off, rfl, by simp only [hlt]; exact hle, hmx, h2, fun j hj => ?_⟩⟩
    simp only [hlt] at hj
    have hc := hcell j (by omega)
    rw [add_plain] at hc
    refine ⟨?_, ?_⟩
    · simp only
      rw [List.getD_eq_getElem?_getD, List.getElem?_take, if_pos hj, ← List.getD_eq_getElem?_getD]
      exact hc
    · exact hfz g (off + j) (MemPlace.mem_row.2 ⟨j, by omega, rfl⟩)

end Go.Proofs.Ytmjaompepchieaa
