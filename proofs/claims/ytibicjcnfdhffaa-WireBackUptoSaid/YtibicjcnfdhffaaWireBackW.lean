/- The walk of the law WireBack. -/
import Derived.Test.YtibicjcnfdhffaaWireBack1
import Derived.Test.YtibicjcnfdhffaaWireBack2
import Derived.Test.YtibicjcnfdhffaaWireBack4
import Derived.Test.YtibicjcnfdhffaaWireBack8
set_option linter.unusedSimpArgs false
set_option linter.unusedVariables false
namespace Go.Proofs.Ytibicjcnfdhffaa
open Go.RowKit

theorem wireBack_walk (b : ByteArray) (v k : Int) (w : World) (hb : b.size ≤ 1048576) (hv : 0 ≤ v ∧ v ≤ 18446744073709551615) (hk : -9223372036854775808 ≤ k ∧ k ≤ 9223372036854775807) :
    Calls Try.prog 10 #[.string b, .int .u64 v, .int .i64 k] w fun e w' => e = .returned (.bool true) ∧ Below w.heap.size w w' := by
  obtain ⟨u, rfl⟩ := Int.eq_ofNat_of_zero_le hv.1
  have hu : u < 18446744073709551616 := by omega
  have h1 := Int.tmod_lt_of_pos k (show (0 : Int) < 4 by decide)
  have h2 := Int.tmod_lt_of_pos (-k) (show (0 : Int) < 4 by decide)
  rw [Int.neg_tmod] at h2
  by_cases a0 : Int.tmod k 4 = 0
  · exact back_1 b u k w hb hu hk a0
  by_cases a1 : Int.tmod k 4 = 1 ∨ Int.tmod k 4 = 1 - 4
  · exact back_2 b u k w hb hu hk a1
  by_cases a2 : Int.tmod k 4 = 2 ∨ Int.tmod k 4 = 2 - 4
  · exact back_4 b u k w hb hu hk a2
  exact back_8 b u k w hb hu hk (by omega)

end Go.Proofs.Ytibicjcnfdhffaa
