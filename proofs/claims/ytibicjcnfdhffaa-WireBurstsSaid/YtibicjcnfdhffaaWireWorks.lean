/- The function works() of the chapter's statements answers true. -/
import Derived.Test.YtibicjcnfdhffaaWirePut
import Derived.Test.YtibicjcnfdhffaaWireTake
import Derived.Test.YtibicjcnfdhffaaWireSum
import Derived.Test.YtibicjcnfdhffaaWirePutVar
set_option linter.unusedSimpArgs false
set_option linter.unusedVariables false
namespace Go.Proofs.Ytibicjcnfdhffaa
open Go.RowKit

theorem works_put (w : World) : Calls Try.prog 12 #[.string ⟨#[97]⟩, .int .u64 258, .int .i64 2] w fun e w' => e = .returned (.tuple #[.string ⟨#[97, 1, 2]⟩, .int .i64 0]) ∧ Below w.heap.size w w' :=
  put_yes ⟨#[97]⟩ 258 2 w (by omega) (by decide) (by decide)
theorem works_take (w : World) : Calls Try.prog 23 #[.string ⟨#[97, 1, 2]⟩, .int .i64 1, .int .i64 2] w fun e w' => e = .returned (.tuple #[.int .u64 258, .int .i64 0]) ∧ w = w' :=
  take_yes ⟨#[97, 1, 2]⟩ 1 2 w (by omega) (by decide) (by decide)
theorem works_sum (w : World) (W : World) (hW : W = w.alloc (.cells #[.string ⟨#[49, 50, 51, 52, 53, 54, 55, 56, 57]⟩] 9)) :
    Calls Try.prog 17 #[.slice (some ⟨w.heap.size, 0, none⟩) 1 1] W fun e w' => e = .returned (.int .u16 10673) ∧ W = w' := by
  have h := sum_any (some ⟨w.heap.size, 0, none⟩) 1 [⟨#[49, 50, 51, 52, 53, 54, 55, 56, 57]⟩] W (by decide) (by
    intro k hk
    obtain rfl : k = 0 := by simpa using hk
    exact ⟨_, rfl, by subst hW; simp [Addr.add]⟩) (by intro s hs; simp at hs; subst hs; decide)
  have e : sumL [⟨#[49, 50, 51, 52, 53, 54, 55, 56, 57]⟩] = 10673 := by decide +kernel
  rw [e] at h
  exact h
theorem works_putvar (w : World) : Calls Try.prog 15 #[.string ⟨#[]⟩, .int .u64 300] w fun e w' => e = .returned (.string ⟨#[172, 2]⟩) ∧ Below w.heap.size w w' := by
  have h := putvar_any ⟨#[]⟩ 300 w (by decide) (by decide)
  have e : uvarL 300 = [172, 2] := by rw [uvarL_more (by decide), uvarL_last (by decide)]; rfl
  rw [e] at h
  exact h

set_option maxHeartbeats 400000 in
theorem works_any (w : World) : Calls Try.prog 14 #[] w fun e w' => e = .returned (.bool true) ∧ Below w.heap.size w w' := by
  go_enter Try.func14, Try.ntmps14
  go_wp2_with fail
  refine (works_put _).mono ?_
  rintro e w1 ⟨rfl, hb1⟩
  go_wp2_with fail
  refine (works_take _).mono ?_
  rintro e w' ⟨rfl, rfl⟩
  go_wp2_with fail
  refine (works_sum w1 _ rfl).mono ?_
  rintro e w' ⟨rfl, rfl⟩
  go_wp2_with fail
  refine (works_putvar _).mono ?_
  rintro e w2 ⟨rfl, hb2⟩
  go_wp2_with fail
  go_ret
  exact ⟨rfl, (hb1.alloc hb1.size _).trans (hb2.mono (Nat.le_trans hb1.size (by rw [World.size_alloc]; exact Nat.le_succ _)))⟩

end Go.Proofs.Ytibicjcnfdhffaa
