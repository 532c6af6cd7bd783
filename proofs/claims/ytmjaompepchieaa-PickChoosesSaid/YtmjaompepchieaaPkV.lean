/- Plain sums of the counts. -/
import Derived.Test.YtmjaompepchieaaPkT
set_option linter.unusedSimpArgs false
set_option linter.unusedVariables false
namespace Go.Proofs.Ytmjaompepchieaa
open Go.RowKit Go.ChangeShapes Go.WideShapes Go.Sort

theorem sum_set : ∀ (l : List Int) (j : Nat) (z : Int), j < l.length → (l.set j z).sum = l.sum - l.getD j 0 + z
  | [], j, z, h => by simp at h
  | a :: t, 0, z, _ => by simp; omega
  | a :: t, j + 1, z, h => by
    have := sum_set t j z (by simpa using h)
    simp only [List.set_cons_succ, List.sum_cons, List.getD_cons_succ]
    omega
theorem spl_sum {l : List Int} (h : Rise l) (h0 : 0 < l.length) : ∀ k : Nat, (spl l k).sum = (k : Int)
  | 0 => by
    rw [spl_zero]
    generalize l.length = m
    induction m with
    | zero => rfl
    | succ m ih => rw [List.replicate_succ, List.sum_cons, ih]; rfl
  | k + 1 => by
    obtain ⟨j, hj, hb⟩ := bst_in k h0
    rw [spl_step h hj hb, sum_set _ _ _ (by rw [spl_len]; exact hj), spl_sum h h0 k, spl_at _ _ _ hj, hb]
    omega
theorem cnt_mono (l : List Int) (n : Nat) (x : Int) : ∀ m : Nat, cnt l n x ≤ cnt l (n + m) x
  | 0 => Nat.le_refl _
  | m + 1 => by
    have := cnt_mono l n x m
    rw [← Nat.add_assoc, cnt_succ]
    omega
theorem take_sum (l : List Int) (k : Nat) (hk : k < l.length) : (l.take (k + 1)).sum = (l.take k).sum + l.getD k 0 := by
  rw [List.take_add_one, List.sum_append, List.getElem?_eq_getElem hk, List.getD_eq_getElem?_getD, List.getElem?_eq_getElem hk]
  simp

end Go.Proofs.Ytmjaompepchieaa
