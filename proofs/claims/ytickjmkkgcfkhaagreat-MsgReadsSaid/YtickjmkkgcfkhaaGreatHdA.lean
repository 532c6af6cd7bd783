/- Contracts of the header's leaves: a width, the highest bit, none above a width, may it be, its size. -/
import Derived.Test.YtickjmkkgcfkhaaGreatHdP
import Derived.Test.YtickjmkkgcfkhaaGreatWireG1
import Derived.Test.YtickjmkkgcfkhaaGreatAgg
import Derived.Test.YtickjmkkgcfkhaaGreatRegG
import Derived.Test.YtickjmkkgcfkhaaGreatRows
import Derived.Handy
import Derived.Outline
import Derived.IntWalk
import Derived.Laws.EntriesVeiled
set_option linter.unusedSimpArgs false
set_option linter.unusedVariables false
set_option maxRecDepth 100000
namespace Go.Proofs.YtickjmkkgcfkhaaGreat
open Go.RowKit Go.ChangeShapes Go.WideShapes

theorem and_tab : ∀ k : Fin 249, (bits .and .i64 ((k.val : Int) + 8) ((k.val : Int) + 7) == 0) = wide ((k.val : Int) + 8) := by decide +kernel
theorem and_wide {n : Int} (h0 : 8 ≤ n) (h1 : n ≤ 256) : (bits .and .i64 n (n - 1) == 0) = wide n := by
  obtain ⟨k, rfl⟩ : ∃ k : Nat, n = (k : Int) + 8 := ⟨(n - 8).toNat, by omega⟩
  have := and_tab ⟨k, by omega⟩
  rw [show (k : Int) + 8 - 1 = (k : Int) + 7 from by omega]
  exact this
theorem wide_any (n : Int) (W : World) (hn : I64 n) : Calls Tryz.prog 81 #[.int .i64 n] W fun e W' => e = .returned (.bool (wide n)) ∧ W = W' := by
  obtain ⟨hn1, hn2⟩ := hn
  by_cases h1 : 8 ≤ n
  · by_cases h2 : n ≤ 256
    · have hd1 : decide (8 ≤ n) = true := decide_eq_true h1
      have hd2 : decide (n ≤ 256) = true := decide_eq_true h2
      have hw : IntKind.i64.wrap (n - 1) = n - 1 := IntWalk.i64_in _ (by omega)
      have HE := Lib.hid (and_wide h1 h2)
      go_enter Tryz.func81, Tryz.ntmps81
      go_wp2_with fail
      go_returns
      exact ⟨by rw [← HE.out]; rfl, rfl⟩
    · have hd1 : decide (8 ≤ n) = true := decide_eq_true h1
      have hd2 : decide (n ≤ 256) = false := decide_eq_false h2
      have HE := Lib.hid (show wide n = false from decide_eq_false (by omega))
      go_enter Tryz.func81, Tryz.ntmps81
      go_wp2_with fail
      go_returns
      exact ⟨by rw [HE.out]; rfl, rfl⟩
  · have hd1 : decide (8 ≤ n) = false := decide_eq_false h1
    have HE := Lib.hid (show wide n = false from decide_eq_false (by omega))
    go_enter Tryz.func81, Tryz.ntmps81
    go_wp2_with fail
    go_returns
    exact ⟨by rw [HE.out]; rfl, rfl⟩

theorem size_any (n : Int) (W : World) (hn : I64 n) : Calls Tryz.prog 87 #[.int .i64 n] W fun e W' => e = .returned (.tuple #[.int .i64 (sizeV n), .int .i64 (sizeE n)]) ∧ W = W' := by
  by_cases hw : wide n = true
  · have HE := Lib.hid (show sizeV n = 13 + n / 8 + 2 by rw [sizeV, if_pos hw]; omega)
    have HF := Lib.hid (show sizeE n = 0 by rw [sizeE, if_pos hw])
    have HW := Lib.hid (wide_any n W hn)
    have hc := wide_cases hw
    have hq0 : 8 ≤ n := by omega
    have hq1 : n ≤ 256 := by omega
    have HB := Lib.hid hw
    clear hw hn hc
    go_enter Tryz.func87, Tryz.ntmps87
    go_wp2_with fail
    refine HW.out.mono ?_
    rintro e V ⟨rfl, rfl⟩
    rw [HB.out]
    have hd : n.tdiv 8 = n / 8 := Int.tdiv_eq_ediv_of_nonneg (by omega)
    go_wp2_with fail
    go_ret2
    refine ⟨?_, rfl⟩
    rw [HE.out, HF.out]
    rfl
  · have HE := Lib.hid (show sizeV n = 0 by rw [sizeV, if_neg hw])
    have HF := Lib.hid (show sizeE n = 2 by rw [sizeE, if_neg hw])
    have HW := Lib.hid (wide_any n W hn)
    have HB := Lib.hid (show wide n = false by simpa using hw)
    clear hw hn
    go_enter Tryz.func87, Tryz.ntmps87
    go_wp2_with fail
    refine HW.out.mono ?_
    rintro e V ⟨rfl, rfl⟩
    rw [HB.out]
    go_wp2_with fail
    go_ret2
    refine ⟨?_, rfl⟩
    rw [HE.out, HF.out]
    rfl

end Go.Proofs.YtickjmkkgcfkhaaGreat
