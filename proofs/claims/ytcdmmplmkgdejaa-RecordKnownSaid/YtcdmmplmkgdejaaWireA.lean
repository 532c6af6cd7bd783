/- Contracts of package wire's small functions: width; math/bits.Len64 off the shelf. -/
import Derived.Test.YtcdmmplmkgdejaaRows
import Derived.Test.YtcdmmplmkgdejaaBase
import Derived.Shelf.Strconv.Itoa0
set_option linter.unusedSimpArgs false
set_option linter.unusedVariables false
namespace Go.Proofs.Ytcdmmplmkgdejaa
open Go.RowKit

def widthI (n : Int) : Int := if n = 1 ∨ n = 2 ∨ n = 4 ∨ n = 8 then 8 * n else 0
theorem ret_i64 {a b : Int} (h : a = b) : Ending.returned (.int .i64 a) = .returned (.int .i64 b) := by rw [h]
theorem widthI_yes {n : Int} (h : n = 1 ∨ n = 2 ∨ n = 4 ∨ n = 8) : widthI n = 8 * n := by unfold widthI; rw [if_pos h]
theorem widthI_no {n : Int} (h : ¬ (n = 1 ∨ n = 2 ∨ n = 4 ∨ n = 8)) : widthI n = 0 := by unfold widthI; rw [if_neg h]

set_option maxHeartbeats 400000 in
theorem width_any (n : Int) (w : World) (hn : -9223372036854775808 ≤ n ∧ n ≤ 9223372036854775807) :
    Calls Try.prog 49 #[.int .i64 n] w fun e w' => e = .returned (.int .i64 (widthI n)) ∧ w = w' := by
  obtain ⟨hn1, hn2⟩ := hn
  go_enter Try.func49, Try.ntmps49
  by_cases h1 : n = 1
  · subst h1; go_wp2; go_ret; exact ⟨ret_i64 (by decide), rfl⟩
  by_cases h2 : n = 2
  · subst h2; go_wp2; go_ret; exact ⟨ret_i64 (by decide), rfl⟩
  by_cases h4 : n = 4
  · subst h4; go_wp2; go_ret; exact ⟨ret_i64 (by decide), rfl⟩
  by_cases h8 : n = 8
  · subst h8; go_wp2; go_ret; exact ⟨ret_i64 (by decide), rfl⟩
  go_wp2
  go_ret
  exact ⟨ret_i64 (widthI_no (by omega)).symm, rfl⟩

end Go.Proofs.Ytcdmmplmkgdejaa
