/- Contracts for the law WireBack: what is laid comes back. -/
import Derived.Test.YtibicjcnfdhffaaWireBk
import Derived.Test.YtibicjcnfdhffaaWireUnhex
import Derived.Test.YtibicjcnfdhffaaWireOpen
import Derived.Test.YtibicjcnfdhffaaWireWorks
set_option linter.unusedSimpArgs false
set_option linter.unusedVariables false
namespace Go.Proofs.Ytibicjcnfdhffaa
open Go.RowKit

theorem back_put (b : ByteArray) (u m : Nat) (w : World) (hm : m = 1 ∨ m = 2 ∨ m = 4 ∨ m = 8) (hu : u < 2 ^ (8 * m)) (hb : b.size ≤ 1048576) :
    Calls Try.prog 12 #[.string b, .int .u64 u, .int .i64 m] w fun e w' => e = .returned (.tuple #[.string (backS b u m), .int .i64 0]) ∧ Below w.heap.size w w' :=
  put_yes b u m w hm hu (by omega)
theorem back_take (b : ByteArray) (u m : Nat) (w : World) (hm : m = 1 ∨ m = 2 ∨ m = 4 ∨ m = 8) (hu : u < 2 ^ (8 * m)) (hb : b.size ≤ 1048576) :
    Calls Try.prog 23 #[.string (backS b u m), .int .i64 (b.size : Int), .int .i64 m] w fun e w' => e = .returned (.tuple #[.int .u64 u, .int .i64 0]) ∧ w = w' := by
  have h := take_any (backS b u m) b.size m w (by omega) (by rw [backS_size]; omega)
  rw [(backS_take hm hu).1, (backS_take hm hu).2] at h
  exact h
theorem back_putvar (b : ByteArray) (v : Nat) (w : World) (hv : v < 18446744073709551616) (hb : b.size ≤ 1048576) :
    Calls Try.prog 15 #[.string b, .int .u64 v] w fun e w' => e = .returned (.string (backT b v)) ∧ Below w.heap.size w w' := putvar_any b v w hv (by omega)
theorem back_takevar (b : ByteArray) (v : Nat) (w : World) (hv : v < 18446744073709551616) (hb : b.size ≤ 1048576) :
    Calls Try.prog 25 #[.string (backT b v ++ ⟨#[255]⟩), .int .i64 (b.size : Int)] w fun e w' => e = .returned (.tuple #[.int .u64 v, .int .i64 ((backT b v).size : Int), .int .i64 0]) ∧ w = w' := by
  have h := takevar_any (backT b v ++ ⟨#[255]⟩) b.size w (by rw [ByteArray.size_append, backT_size]; have := uvarL_len64 hv; show _ + _ + 1 ≤ _; omega)
  rw [(backT_take hv hb).1, (backT_take hv hb).2.1, (backT_take hv hb).2.2] at h
  exact h
theorem back_open (b : ByteArray) (w : World) (hb : b.size ≤ 1048576) :
    Calls Try.prog 19 #[.string (sealB b)] w fun e w' => e = .returned (.tuple #[.string b, .int .i64 0]) ∧ Below w.heap.size w w' := by
  have h := open_any (sealB b) w (by rw [sealB_size]; omega)
  rw [(open_seal b).1, (open_seal b).2] at h
  exact h
theorem back_unhex (b : ByteArray) (w : World) (hb : b.size ≤ 1048576) :
    Calls Try.prog 27 #[.string (bs (hexG b.data.toList))] w fun e w' => e = .returned (.tuple #[.string b, .int .i64 0]) ∧ Below w.heap.size w w' := by
  have h := unhex_any (bs (hexG b.data.toList)) w (by rw [bs_size, hexG_len]; have : b.data.toList.length = b.size := by simp
                                                      omega)
  rw [(unhex_hex b).1, (unhex_hex b).2] at h
  exact h

end Go.Proofs.Ytibicjcnfdhffaa
