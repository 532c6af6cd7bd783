/- Contracts of Take, the program's and the reference's. -/
import Derived.Test.YtcdmmplmkgdejaaWireA
import Derived.Test.YtcdmmplmkgdejaaWireRPut
import Derived.Test.YtcdmmplmkgdejaaWireT
set_option linter.unusedSimpArgs false
set_option linter.unusedVariables false
namespace Go.Proofs.Ytcdmmplmkgdejaa
open Go.RowKit

set_option maxHeartbeats 400000 in
theorem take_yes (b : ByteArray) (a m : Nat) (w : World) (hm : m = 1 ∨ m = 2 ∨ m = 4 ∨ m = 8) (ha : a + m ≤ b.size) (hb : b.size ≤ 140737488355328) :
    Calls Try.prog 41 #[.string b, .int .i64 a, .int .i64 m] w fun e w' => e = .returned (.tuple #[.int .u64 (segV b a m : Nat), .int .i64 0]) ∧ w = w' := by
  have hm1 : (1 : Int) ≤ m ∧ (m : Int) ≤ 8 := by omega
  obtain ⟨hm2, hm3⟩ := hm1
  have hW := Lib.hid (widthI_yes (n := (m : Int)) (by omega))
  clear hm
  go_enter Try.func41, Try.ntmps41
  go_wp2_with (go_at_call 49; refine (width_any _ _ (by omega)).mono ?_; rintro e w' ⟨rfl, rfl⟩; rw [hW.out])
  go_loop [8, 26] (fun x i => ∃ (k t : Nat), k ≤ m ∧ i = .int .i64 k ∧ x = .int .u64 t ∧ Hid (t = segV b a k)) (fun _ i => m - (intOf i).toNat)
  case atStart => exact ⟨0, 0, Nat.zero_le _, rfl, rfl, (segV_zero b a).symm⟩
  case round =>
    obtain ⟨k, t, hk, rfl, rfl, ht⟩ := hrel
    by_cases hlt : k < m
    · have h8 : Hid (t < 72057594037927936) := by show t < _; rw [ht.out]; exact segV_lt8 b a (by omega)
      have hs : a + k < b.size := by omega
      go_wp2_with fail
      go_round
      case rel => exact ⟨k + 1, _, by omega, by go_num, by rw [take_go _ _ h8.out], by show _ = _; rw [ht.out, segV_succ hs]⟩
      case measure => simp [intOf]; omega
    · obtain rfl : k = m := by omega
      go_wp2_with fail
      go_ret2
      exact ⟨by rw [← ht.out]; rfl, rfl⟩

set_option maxHeartbeats 400000 in
theorem take_arg (b : ByteArray) (a n : Int) (w : World) (hn : -9223372036854775808 ≤ n ∧ n ≤ 9223372036854775807) (hm : ¬ (n = 1 ∨ n = 2 ∨ n = 4 ∨ n = 8)) :
    Calls Try.prog 41 #[.string b, .int .i64 a, .int .i64 n] w fun e w' => e = .returned (.tuple #[.int .u64 0, .int .i64 2]) ∧ w = w' := by
  have hW := Lib.hid (widthI_no hm)
  clear hm
  go_enter Try.func41, Try.ntmps41
  go_wp2_with (go_at_call 49; refine (width_any _ _ hn).mono ?_; rintro e w' ⟨rfl, rfl⟩; rw [hW.out])
  go_ret2
  exact ⟨rfl, rfl⟩

set_option maxHeartbeats 400000 in
theorem take_form (b : ByteArray) (a : Int) (m : Nat) (w : World) (hm : m = 1 ∨ m = 2 ∨ m = 4 ∨ m = 8) (ha : ¬ (0 ≤ a ∧ a + m ≤ b.size)) (hb : b.size ≤ 140737488355328) :
    Calls Try.prog 41 #[.string b, .int .i64 a, .int .i64 m] w fun e w' => e = .returned (.tuple #[.int .u64 0, .int .i64 4]) ∧ w = w' := by
  have hm1 : (1 : Int) ≤ m ∧ (m : Int) ≤ 8 := by omega
  obtain ⟨hm2, hm3⟩ := hm1
  have hW := Lib.hid (widthI_yes (n := (m : Int)) (by omega))
  clear hm
  by_cases h0 : a < 0
  · clear ha
    go_enter Try.func41, Try.ntmps41
    go_wp2_with (go_at_call 49; refine (width_any _ _ (by omega)).mono ?_; rintro e w' ⟨rfl, rfl⟩; rw [hW.out])
    go_ret2
    exact ⟨rfl, rfl⟩
  · have hgt : (b.size : Int) - m < a := by omega
    clear ha
    go_enter Try.func41, Try.ntmps41
    go_wp2_with (go_at_call 49; refine (width_any _ _ (by omega)).mono ?_; rintro e w' ⟨rfl, rfl⟩; rw [hW.out])
    go_ret2
    exact ⟨rfl, rfl⟩

theorem take_any (b : ByteArray) (a n : Int) (w : World) (hn : -9223372036854775808 ≤ n ∧ n ≤ 9223372036854775807) (hb : b.size ≤ 140737488355328) :
    Calls Try.prog 41 #[.string b, .int .i64 a, .int .i64 n] w fun e w' => e = .returned (.tuple #[.int .u64 (takeV b a n : Nat), .int .i64 (takeE b a n)]) ∧ w = w' := by
  by_cases hm : n = 1 ∨ n = 2 ∨ n = 4 ∨ n = 8
  · obtain ⟨m, rfl⟩ := Int.eq_ofNat_of_zero_le (a := n) (by omega)
    by_cases hl : 0 ≤ a ∧ a + m ≤ b.size
    · obtain ⟨a, rfl⟩ := Int.eq_ofNat_of_zero_le hl.1
      refine (take_yes b a m w (by omega) (by omega) hb).mono fun e w' ⟨h1, h2⟩ => ⟨?_, h2⟩
      rw [h1, takeV, takeE, if_pos ⟨hm, hl⟩, if_pos hm, if_pos hl]; rfl
    · refine (take_form b a m w (by omega) hl hb).mono fun e w' ⟨h1, h2⟩ => ⟨?_, h2⟩
      rw [h1, takeV, takeE, if_neg (fun h => hl h.2), if_pos hm, if_neg hl]; rfl
  · refine (take_arg b a n w hn hm).mono fun e w' ⟨h1, h2⟩ => ⟨?_, h2⟩
    rw [h1, takeV, takeE, if_neg (fun h => hm h.1), if_neg hm]; rfl

end Go.Proofs.Ytcdmmplmkgdejaa
