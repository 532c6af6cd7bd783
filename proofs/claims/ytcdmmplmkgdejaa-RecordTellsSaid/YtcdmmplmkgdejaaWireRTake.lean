/- Contract of the reference's Take. -/
import Derived.Test.YtcdmmplmkgdejaaWireTake
set_option linter.unusedSimpArgs false
set_option linter.unusedVariables false
namespace Go.Proofs.Ytcdmmplmkgdejaa
open Go.RowKit

theorem take_ref (v : Nat) (x : UInt8) (hv : v < 72057594037927936) : IntKind.u64.wrap (IntKind.u64.wrap ((v : Int) * 256) + IntKind.u64.wrap (x.toNat : Int)) = ((v * 256 + x.toNat : Nat) : Int) := by
  have hx := x.toNat_lt
  rw [IntWalk.u64_in ((v : Int) * 256) (by omega), IntWalk.u64_in (x.toNat : Int) (by omega), IntWalk.u64_in _ (by omega)]
  simp

set_option maxHeartbeats 400000 in
theorem rtake_arg (b : ByteArray) (a n : Int) (w : World) (hm : ¬ (n = 1 ∨ n = 2 ∨ n = 4 ∨ n = 8)) :
    Calls Try.prog 43 #[.string b, .int .i64 a, .int .i64 n] w fun e w' => e = .returned (.tuple #[.int .u64 0, .int .i64 2]) ∧ w = w' := by
  have hS : Hid (sizeB n = false) := by show sizeB n = false; simpa [sizeB] using hm
  clear hm
  go_enter Try.func43, Try.ntmps43
  go_wp2_with (go_at_call 50; refine (rsize_any _ _).mono ?_; rintro e w' ⟨rfl, rfl⟩; rw [hS.out])
  go_ret2
  exact ⟨rfl, rfl⟩

set_option maxHeartbeats 400000 in
theorem rtake_form (b : ByteArray) (a : Int) (m : Nat) (w : World) (hm : m = 1 ∨ m = 2 ∨ m = 4 ∨ m = 8) (ha : ¬ (0 ≤ a ∧ a + m ≤ b.size)) (ha2 : -9223372036854775808 ≤ a ∧ a ≤ 9223372036854775807) (hb : b.size ≤ 140737488355328) :
    Calls Try.prog 43 #[.string b, .int .i64 a, .int .i64 m] w fun e w' => e = .returned (.tuple #[.int .u64 0, .int .i64 4]) ∧ w = w' := by
  have hS : Hid (sizeB m = true) := by show sizeB m = true; simp [sizeB]; omega
  have hm1 : (1 : Int) ≤ m ∧ (m : Int) ≤ 8 := by omega
  obtain ⟨hm2, hm3⟩ := hm1
  obtain ⟨ha3, ha4⟩ := ha2
  clear hm
  by_cases h0 : a < 0
  · clear ha
    go_enter Try.func43, Try.ntmps43
    go_wp2_with (go_at_call 50; refine (rsize_any _ _).mono ?_; rintro e w' ⟨rfl, rfl⟩; rw [hS.out])
    go_ret2
    exact ⟨rfl, rfl⟩
  · by_cases h1 : (b.size : Int) < a
    · clear ha
      go_enter Try.func43, Try.ntmps43
      go_wp2_with (go_at_call 50; refine (rsize_any _ _).mono ?_; rintro e w' ⟨rfl, rfl⟩; rw [hS.out])
      go_ret2
      exact ⟨rfl, rfl⟩
    · have hgt : (b.size : Int) - a < m := by omega
      clear ha
      go_enter Try.func43, Try.ntmps43
      go_wp2_with (go_at_call 50; refine (rsize_any _ _).mono ?_; rintro e w' ⟨rfl, rfl⟩; rw [hS.out])
      go_ret2
      exact ⟨rfl, rfl⟩

set_option maxHeartbeats 400000 in
theorem rtake_yes (b : ByteArray) (a m : Nat) (w : World) (hm : m = 1 ∨ m = 2 ∨ m = 4 ∨ m = 8) (ha : a + m ≤ b.size) (hb : b.size ≤ 140737488355328) :
    Calls Try.prog 43 #[.string b, .int .i64 a, .int .i64 m] w fun e w' => e = .returned (.tuple #[.int .u64 (segV b a m : Nat), .int .i64 0]) ∧ w = w' := by
  have hS : Hid (sizeB m = true) := by show sizeB m = true; simp [sizeB]; omega
  have hm1 : (1 : Int) ≤ m ∧ (m : Int) ≤ 8 := by omega
  obtain ⟨hm2, hm3⟩ := hm1
  clear hm
  have hd0 : decide ((a : Int) < 0) = false := decide_eq_false (by omega)
  have hd1 : decide (b.size < a) = false := decide_eq_false (by omega)
  have hd2 : decide ((b.size : Int) - (a : Int) < (m : Int)) = false := decide_eq_false (by omega)
  go_enter Try.func43, Try.ntmps43
  go_wp2_with (go_at_call 50; refine (rsize_any _ _).mono ?_; rintro e w' ⟨rfl, rfl⟩; rw [hS.out])
  go_loop [8, 9] (fun x i => ∃ (k t : Nat), k ≤ m ∧ i = .int .i64 k ∧ x = .int .u64 t ∧ Hid (t = segV b a k)) (fun _ i => m - (intOf i).toNat)
  case atStart => exact ⟨0, 0, Nat.zero_le _, rfl, rfl, (segV_zero b a).symm⟩
  case round =>
    obtain ⟨k, t, hk, rfl, rfl, ht⟩ := hrel
    by_cases hlt : k < m
    · have h8 : Hid (t < 72057594037927936) := by show t < _; rw [ht.out]; exact segV_lt8 b a (by omega)
      have hs : a + k < b.size := by omega
      go_wp2_with fail
      go_round
      case rel => exact ⟨k + 1, _, by omega, by go_num, by rw [take_ref _ _ h8.out], by show _ = _; rw [ht.out, segV_succ hs]⟩
      case measure => simp [intOf]; omega
    · obtain rfl : k = m := by omega
      go_wp2_with fail
      go_ret2
      exact ⟨by rw [← ht.out]; rfl, rfl⟩

theorem rtake_any (b : ByteArray) (a n : Int) (w : World) (ha2 : -9223372036854775808 ≤ a ∧ a ≤ 9223372036854775807) (hb : b.size ≤ 140737488355328) :
    Calls Try.prog 43 #[.string b, .int .i64 a, .int .i64 n] w fun e w' => e = .returned (.tuple #[.int .u64 (takeV b a n : Nat), .int .i64 (takeE b a n)]) ∧ w = w' := by
  by_cases hm : n = 1 ∨ n = 2 ∨ n = 4 ∨ n = 8
  · obtain ⟨m, rfl⟩ := Int.eq_ofNat_of_zero_le (a := n) (by omega)
    by_cases hl : 0 ≤ a ∧ a + m ≤ b.size
    · obtain ⟨a, rfl⟩ := Int.eq_ofNat_of_zero_le hl.1
      refine (rtake_yes b a m w (by omega) (by omega) hb).mono fun e w' ⟨h1, h2⟩ => ⟨?_, h2⟩
      rw [h1, takeV, takeE, if_pos ⟨hm, hl⟩, if_pos hm, if_pos hl]; rfl
    · refine (rtake_form b a m w (by omega) hl ha2 hb).mono fun e w' ⟨h1, h2⟩ => ⟨?_, h2⟩
      rw [h1, takeV, takeE, if_neg (fun h => hl h.2), if_pos hm, if_neg hl]; rfl
  · refine (rtake_arg b a n w hm).mono fun e w' ⟨h1, h2⟩ => ⟨?_, h2⟩
    rw [h1, takeV, takeE, if_neg (fun h => hm h.1), if_neg hm]; rfl

end Go.Proofs.Ytcdmmplmkgdejaa
