/- Contracts of Seal and Open, the program's and the reference's. -/
import Derived.Test.YtbcgfojdlehnpaaWireSum
import Derived.Test.YtbcgfojdlehnpaaWireS
import Derived.Test.YtbcgfojdlehnpaaWireRPut
import Derived.Deep.RegionWith
set_option linter.unusedSimpArgs false
set_option linter.unusedVariables false
namespace Go.Proofs.Ytbcgfojdlehnpaa
open Go.RowKit

theorem small_one {b : ByteArray} (h : b.size ≤ 1125899906842624) : Small [b] := by intro s hs; simp at hs; subst hs; exact h

set_option maxHeartbeats 400000 in
theorem seal_any (b : ByteArray) (w : World) (hb : b.size ≤ 1125899906842624) :
    Calls Try.prog 39 #[.string b] w fun e w' => e = .returned (.string (sealB b)) ∧ Below w.heap.size w w' := by
  have hS := small_one hb
  have hlt := sumB_lt b
  go_enter Try.func39, Try.ntmps39
  go_wp2_with fail
  have h1 := sum_lit w _ _ [b] _ rfl rfl rfl (by show 1 ≤ _; omega) hS
  rw [sumL_one] at h1
  refine h1.mono ?_
  rintro e w' ⟨rfl, rfl⟩
  clear h1
  have hst := two_eq b
  generalize hs : sumB b = s at *
  have HS := Lib.hid hs
  have HT := Lib.hid hst
  have hl1 := hi_byte s hlt
  have hcv := run_string_twoAt (P := Try.prog) (w.alloc (.cells #[.string b] 9)) (w.heap.size + 1) (World.size_alloc _ _).symm (toU8 (s / 256)) (toU8 s) 40 9 5 Try.underlying40 Try.underlying5 Try.underlying9 _ _ (hi_byte s hlt) (byteV_low s)
  have hsz := bs_size
  clear hs hst hl1
  go_wp2_with fail
  go_ret
  refine ⟨?_, ((Below.refl _ _).alloc (Nat.le_refl _) _).alloc (by rw [World.size_alloc]; exact Nat.le_succ _) _⟩
  rw [HT.out]
  rfl

set_option maxHeartbeats 400000 in
theorem rseal_any (b : ByteArray) (w : World) (hb : b.size ≤ 140737488355000) :
    Calls Try.prog 44 #[.string b] w fun e w' => e = .returned (.string (sealB b)) ∧ Below w.heap.size w w' := by
  have hS := small_one (b := b) (by omega)
  have hlt := sumB_lt b
  go_enter Try.func44, Try.ntmps44
  go_wp2_with fail
  have h1 := rsum_lit w _ _ [b] _ rfl rfl rfl (by show 1 ≤ _; omega) hS
  rw [sumL_one] at h1
  refine h1.mono ?_
  rintro e w' ⟨rfl, rfl⟩
  clear h1
  go_wp2_with fail
  refine (rput_yes b (sumB b) 2 _ (by omega) (by omega) hb).mono ?_
  rintro e w2 ⟨rfl, hb2⟩
  go_wp2_with fail
  go_ret
  exact ⟨rfl, ((Below.refl _ _).alloc (Nat.le_refl _) _).trans (hb2.mono (by rw [World.size_alloc]; exact Nat.le_succ _))⟩

end Go.Proofs.Ytbcgfojdlehnpaa
