/- The walk of the law WireHex. -/
import Derived.Test.YtibicjcnfdhffaaWireUnhex
import Derived.Test.YtibicjcnfdhffaaWireRHex
import Derived.Test.YtibicjcnfdhffaaWireWorks
set_option linter.unusedSimpArgs false
set_option linter.unusedVariables false
namespace Go.Proofs.Ytibicjcnfdhffaa
open Go.RowKit

set_option maxHeartbeats 400000 in
theorem wireHex_walk (s : ByteArray) (w : World) (hb : s.size ≤ 1048576) :
    Calls Try.prog 9 #[.string s] w fun e w' => e = .returned (.bool true) ∧ Below w.heap.size w w' := by
  go_enter Try.func9, Try.ntmps9
  go_wp2_with fail
  refine (unhex_any s _ (by omega)).mono ?_
  rintro e w1 ⟨rfl, hb1⟩
  go_wp2_with fail
  refine (runhex_any s _ (by omega)).mono ?_
  rintro e w2 ⟨rfl, hb2⟩
  go_wp2_with fail
  refine (hex_any s _ (by omega)).mono ?_
  rintro e w3 ⟨rfl, hb3⟩
  go_wp2_with fail
  refine (rhex_any s _ (by omega)).mono ?_
  rintro e w4 ⟨rfl, hb4⟩
  go_wp2_with fail
  refine (works_any _).mono ?_
  rintro e w5 ⟨rfl, hb5⟩
  go_wp2_with fail
  go_ret
  have e1 := hb1.size
  have e2 := hb2.size
  have e3 := hb3.size
  have e4 := hb4.size
  exact ⟨rfl, hb1.trans ((hb2.mono e1).trans ((hb3.mono (by omega)).trans ((hb4.mono (by omega)).trans (hb5.mono (by omega)))))⟩

end Go.Proofs.Ytibicjcnfdhffaa
