/- Contract of wire.more: a sum goes on over bytes. -/
import Derived.Test.YtbcgfojdlehnpaaRows
import Derived.Test.YtbcgfojdlehnpaaCrc
set_option linter.unusedSimpArgs false
set_option linter.unusedVariables false
namespace Go.Proofs.Ytbcgfojdlehnpaa
open Go.RowKit

set_option maxHeartbeats 800000 in
theorem more_any (s : Nat) (b : ByteArray) (w : World) (hs : s < 65536) (hb : b.size ≤ 1125899906842624) :
    Calls Try.prog 56 #[.int .u16 s, .string b] w fun e w' => e = .returned (.int .u16 (crcN s b.data.toList : Nat)) ∧ w = w' := by
  have hS := Lib.hid hs
  clear hs
  go_enter Try.func56, Try.ntmps56
  go_wp2_with fail
  go_loop [0, 9] (fun x i => ∃ (k t : Nat), k ≤ b.size ∧ i = .int .i64 k ∧ x = .int .u16 t ∧ Hid (t = crcN s (b.data.toList.take k))) (fun _ i => b.size - (intOf i).toNat)
  case atStart => exact ⟨0, s, Nat.zero_le _, rfl, rfl, rfl⟩
  case round =>
    obtain ⟨k, t, hk, rfl, rfl, ht⟩ := hrel
    have ht16 : t < 65536 := by rw [ht.out]; exact crcN_lt _ hS.out
    by_cases hlt : k < b.size
    · go_wp2_with fail
      have h0 := start_lt ht16 b[k]
      go_loop [0, 19] (fun x j => ∃ (i t' : Nat), i ≤ 8 ∧ j = .int .i64 i ∧ x = .int .u16 t' ∧ Hid (t' = zK i (t ^^^ (b[k].toNat * 256)))) (fun _ j => 8 - (intOf j).toNat)
      case atStart => exact ⟨0, _, Nat.zero_le _, rfl, by rw [start_go _ _ ht16]; rfl, rfl⟩
      case round =>
        obtain ⟨i, t', hi, rfl, rfl, ht'⟩ := hrel
        have ht16' : t' < 65536 := by rw [ht'.out]; exact zK_lt h0 i
        by_cases hi8 : i < 8
        · go_wp2_with fail
          go_round
          case rel => exact ⟨i + 1, zN t', by omega, by go_num, by rw [step_go _ ht16'], by rw [ht'.out]; rfl⟩
          case measure => simp [intOf]; omega
        · obtain rfl : i = 8 := by omega
          go_wp2_with fail
          go_round
          case rel => exact ⟨k + 1, t', by omega, by go_num, rfl, by show t' = _; rw [ht'.out, crcN_take hlt, ← ht.out]; rfl⟩
          case measure => simp [intOf]; omega
    · obtain rfl : k = b.size := by omega
      have e : Hid (t = crcN s b.data.toList) := by show t = _; rw [ht.out, List.take_of_length_le (Nat.le_of_eq (by simp))]
      go_wp2_with fail
      go_ret
      exact ⟨by rw [← e.out]; rfl, rfl⟩

end Go.Proofs.Ytbcgfojdlehnpaa
