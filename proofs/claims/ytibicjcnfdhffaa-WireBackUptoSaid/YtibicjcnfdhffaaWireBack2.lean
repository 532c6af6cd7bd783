/- The walk of the law WireBack at a size of 2. -/
import Derived.Test.YtibicjcnfdhffaaWireBackC
set_option linter.unusedSimpArgs false
set_option linter.unusedVariables false
namespace Go.Proofs.Ytibicjcnfdhffaa
open Go.RowKit

set_option maxHeartbeats 1600000 in
set_option maxRecDepth 100000 in
theorem back_2 (b : ByteArray) (v : Nat) (k : Int) (w : World) (hb : b.size ≤ 1048576) (hv : v < 18446744073709551616) (hk : -9223372036854775808 ≤ k ∧ k ≤ 9223372036854775807) (hs : Int.tmod k 4 = 1 ∨ Int.tmod k 4 = -3) :
    Calls Try.prog 10 #[.string b, .int .u64 (v : Int), .int .i64 k] w fun e w' => e = .returned (.bool true) ∧ Below w.heap.size w w' := by
  obtain ⟨u, hu, hlt⟩ : ∃ u : Nat, (v : Int) % 65536 = (u : Int) ∧ u < 2 ^ (8 * 2) := ⟨v % 65536, by simp, Nat.mod_lt _ (by decide)⟩
  rcases hs with hs | hs
  all_goals
    go_enter Try.func10, Try.ntmps10
    go_wp2_with fail
    refine (works_any _).mono ?_
    rintro e w1 ⟨rfl, b1⟩
    have hB := b1
    clear b1
    go_wp2_with fail
    refine (back_put b u 2 _ (by decide) hlt hb).mono ?_
    rintro e w2 ⟨rfl, b2⟩
    replace hB := hB.trans (b2.mono hB.size)
    clear b2
    go_wp2_with fail
    refine (back_take b u 2 _ (by decide) hlt hb).mono ?_
    rintro e w' ⟨rfl, rfl⟩
    go_wp2_with fail
    have hTs : (backT b v).size ≤ 1048600 := by rw [backT_size]; have := uvarL_len64 hv; omega
    refine (back_putvar b v _ hv hb).mono ?_
    rintro e w3 ⟨rfl, b3⟩
    replace hB := hB.trans (b3.mono hB.size)
    clear b3
    go_wp2_with fail
    refine (back_takevar b v _ hv hb).mono ?_
    rintro e w' ⟨rfl, rfl⟩
    go_wp2_with fail
    refine (seal_any b _ (by omega)).mono ?_
    rintro e w4 ⟨rfl, b4⟩
    replace hB := hB.trans (b4.mono hB.size)
    clear b4
    go_wp2_with fail
    refine (back_open b _ hb).mono ?_
    rintro e w5 ⟨rfl, b5⟩
    replace hB := hB.trans (b5.mono hB.size)
    clear b5
    go_wp2_with fail
    refine (hex_any b _ (by omega)).mono ?_
    rintro e w6 ⟨rfl, b6⟩
    replace hB := hB.trans (b6.mono hB.size)
    clear b6
    go_wp2_with fail
    refine (back_unhex b _ hb).mono ?_
    rintro e w7 ⟨rfl, b7⟩
    replace hB := hB.trans (b7.mono hB.size)
    clear b7
    have hS := backS_size b u 2
    have hSx := backS_front b u 2
    have hT := backT_size b v
    have hTx := backT_front b v
    have hL := uvarL_pos v
    have hL2 := uvarL_len64 hv
    generalize (uvarL v).length = L at *
    generalize backS b u 2 = S at *
    generalize backT b v = T at *
    have hmin : min (T.size : Int) (b.size : Int) = (b.size : Int) := by omega
    have hmin2 : min T.size b.size = b.size := by omega
    have hS0 : b.size ≤ S.size := by omega
    have hT0 : b.size ≤ T.size := by omega
    have hS1 : (S.size : Int) = (b.size : Int) + 2 := by omega
    clear hT hS hL hL2 hTs hlt
    go_wp2_with fail
    go_ret
    exact ⟨rfl, hB⟩

end Go.Proofs.Ytibicjcnfdhffaa
