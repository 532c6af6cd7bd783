/- The walk of the law WirePuts. -/
import Derived.Test.YtibicjcnfdhffaaWireWorks
import Derived.Test.YtibicjcnfdhffaaWireRPut
set_option linter.unusedSimpArgs false
set_option linter.unusedVariables false
namespace Go.Proofs.Ytibicjcnfdhffaa
open Go.RowKit

set_option maxHeartbeats 400000 in
theorem wirePuts_walk (b : ByteArray) (v n : Int) (w : World) (hb : b.size ≤ 140737488351232) (hv : 0 ≤ v ∧ v ≤ 18446744073709551615) (hn : -9223372036854775808 ≤ n ∧ n ≤ 9223372036854775807) :
    Calls Try.prog 3 #[.string b, .int .u64 v, .int .i64 n] w fun e w' => e = .returned (.bool true) ∧ Below w.heap.size w w' := by
  go_enter Try.func3, Try.ntmps3
  go_wp2_with fail
  have hc : (b.extract 0 (min (b.size : Int) 1000).toNat).size ≤ 140737488355000 := by rw [ByteArray.size_extract]; omega
  generalize b.extract 0 (min (b.size : Int) 1000).toNat = c at *
  refine (put_any c v n _ hv hn hc).mono ?_
  rintro e w1 ⟨rfl, hb1⟩
  go_wp2_with fail
  refine (rput_any c v n _ hv hc).mono ?_
  rintro e w2 ⟨rfl, hb2⟩
  go_wp2_with fail
  refine (works_any _).mono ?_
  rintro e w3 ⟨rfl, hb3⟩
  go_wp2_with fail
  go_ret
  exact ⟨rfl, hb1.trans ((hb2.mono hb1.size).trans (hb3.mono (Nat.le_trans hb1.size hb2.size)))⟩

end Go.Proofs.Ytibicjcnfdhffaa
