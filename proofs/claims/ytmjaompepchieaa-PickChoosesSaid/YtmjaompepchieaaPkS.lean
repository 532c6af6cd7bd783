/- How often each is chosen: plain counts, and the contract of the program's Spread. -/
import Derived.Test.YtmjaompepchieaaPkW
set_option linter.unusedSimpArgs false
set_option linter.unusedVariables false
namespace Go.Proofs.Ytmjaompepchieaa
open Go.RowKit Go.ChangeShapes Go.WideShapes Go.Sort

/-- How often a number is the best, of k entropies. -/
def cnt (l : List Int) (k : Nat) (x : Int) : Nat := (List.range k).countP (fun e => decide (bst e l = x))
def spl (l : List Int) (k : Nat) : List Int := l.map fun x => ((cnt l k x : Nat) : Int)
theorem cnt_succ (l : List Int) (k : Nat) (x : Int) : cnt l (k + 1) x = cnt l k x + if bst k l = x then 1 else 0 := by
  unfold cnt
  rw [List.range_succ, List.countP_append]
  simp [List.countP_cons]
theorem cnt_le (l : List Int) (k : Nat) (x : Int) : cnt l k x ≤ k := by
  unfold cnt
  have := List.countP_le_length (p := fun e => decide (bst e l = x)) (l := List.range k)
  rwa [List.length_range] at this
theorem spl_len (l : List Int) (k : Nat) : (spl l k).length = l.length := List.length_map _
theorem spl_zero (l : List Int) : spl l 0 = List.replicate l.length 0 := by
  unfold spl cnt
  simp [List.map_const']
theorem spl_at (l : List Int) (k j : Nat) (hj : j < l.length) : (spl l k).getD j 0 = ((cnt l k (l.getD j 0) : Nat) : Int) := by
  unfold spl
  rw [List.getD_eq_getElem?_getD, List.getElem?_map, List.getD_eq_getElem?_getD, List.getElem?_eq_getElem hj]
  rfl
theorem bst_in (e : Nat) {l : List Int} (h0 : 0 < l.length) : ∃ j, j < l.length ∧ l.getD j 0 = bst e l := by
  obtain ⟨j, hj, h⟩ := pk_at e l (l.length - 1)
  exact ⟨j, by omega, h.symm⟩
theorem rise_inj {l : List Int} (h : Rise l) {i j : Nat} (hi : i < l.length) (hj : j < l.length) (he : l.getD i 0 = l.getD j 0) : i = j := by
  by_cases h1 : i < j
  · have := rise_at h h1 hj; omega
  · by_cases h2 : j < i
    · have := rise_at h h2 hi; omega
    · omega
theorem getD_set (l : List Int) (j k : Nat) (z : Int) (hk : k < l.length) : (l.set j z).getD k 0 = if j = k then z else l.getD k 0 := by
  rw [List.getD_eq_getElem?_getD, List.getElem?_set, List.getD_eq_getElem?_getD]
  by_cases h : j = k
  · rw [if_pos h, if_pos h, if_pos (by omega)]; rfl
  · rw [if_neg h, if_neg h]
theorem spl_step {l : List Int} (h : Rise l) {k j : Nat} (hj : j < l.length) (hb : l.getD j 0 = bst k l) : spl l (k + 1) = (spl l k).set j (((cnt l k (bst k l) : Nat) : Int) + 1) := by
  apply getD_ext
  · rw [List.length_set, spl_len, spl_len]
  · intro i hi
    rw [spl_len] at hi
    rw [spl_at _ _ _ hi, getD_set _ _ _ _ (by rw [spl_len]; exact hi), cnt_succ]
    by_cases hij : j = i
    · subst hij
      rw [if_pos hb.symm, if_pos rfl, hb]; omega
    · rw [if_neg hij, if_neg (fun he => hij (rise_inj h hj hi (hb.trans he))), spl_at _ _ _ hi]; rfl

/-- The counts, and the error. -/
def spz (l : List Int) (n : Int) : List Int × Int := if nbs 0 l = true ∧ 0 ≤ n then (if n ≤ 4096 then (spl l n.toNat, 0) else ([], 3)) else ([], 2)

def SpRel (W : World) (l : List Int) (g : Nat) (cap : Nat) (i : Value) (N : Nat) (wr : World) : Prop :=
  ∃ k : Nat, i = .int .i64 k ∧ k ≤ N ∧ Row wr W.heap.size 3 1 (.slice (some ⟨g, 0, none⟩) l.length cap) l.length (ints (spl l k)) ∧ Below W.heap.size W wr

end Go.Proofs.Ytmjaompepchieaa
