/- Contract of the reference's Put. -/
import Derived.Test.YtcdmmplmkgdejaaRows
import Derived.Test.YtcdmmplmkgdejaaWireP
set_option linter.unusedSimpArgs false
set_option linter.unusedVariables false
namespace Go.Proofs.Ytcdmmplmkgdejaa
open Go.RowKit

def sizeB (n : Int) : Bool := decide (n = 1 ∨ n = 2 ∨ n = 4 ∨ n = 8)
theorem ret_bool {a b : Bool} (h : a = b) : Ending.returned (.bool a) = .returned (.bool b) := by rw [h]

set_option maxHeartbeats 400000 in
theorem rsize_any (n : Int) (w : World) :
    Calls Try.prog 50 #[.int .i64 n] w fun e w' => e = .returned (.bool (sizeB n)) ∧ w = w' := by
  go_enter Try.func50, Try.ntmps50
  by_cases h1 : n = 1
  · subst h1; go_wp2; go_ret; exact ⟨ret_bool (by decide), rfl⟩
  by_cases h2 : n = 2
  · subst h2; go_wp2; go_ret; exact ⟨ret_bool (by decide), rfl⟩
  by_cases h4 : n = 4
  · subst h4; go_wp2; go_ret; exact ⟨ret_bool (by decide), rfl⟩
  by_cases h8 : n = 8
  · subst h8; go_wp2; go_ret; exact ⟨ret_bool (by decide), rfl⟩
  go_wp2
  go_ret
  exact ⟨ret_bool (by unfold sizeB; rw [Bool.eq_iff_iff]; simp only [Bool.or_eq_true, beq_iff_eq, decide_eq_true_eq]; omega), rfl⟩

set_option maxHeartbeats 400000 in
theorem rput_arg (b : ByteArray) (v : Nat) (n : Int) (w : World) (hm : ¬ (n = 1 ∨ n = 2 ∨ n = 4 ∨ n = 8)) :
    Calls Try.prog 47 #[.string b, .int .u64 v, .int .i64 n] w fun e w' => e = .returned (.tuple #[.string (bs []), .int .i64 2]) ∧ w = w' := by
  have hS : Hid (sizeB n = false) := by show sizeB n = false; simpa [sizeB] using hm
  clear hm
  go_enter Try.func47, Try.ntmps47
  go_wp2_with (go_at_call 50; refine (rsize_any _ _).mono ?_; rintro e w' ⟨rfl, rfl⟩; rw [hS.out])
  go_ret2
  exact ⟨rfl, rfl⟩

set_option maxHeartbeats 400000 in
theorem rput_yes (b : ByteArray) (v : Nat) (m : Nat) (w : World) (hm : m = 1 ∨ m = 2 ∨ m = 4 ∨ m = 8) (hv : v < 2 ^ (8 * m)) (hb : b.size ≤ 140737488355000) :
    Calls Try.prog 47 #[.string b, .int .u64 v, .int .i64 m] w fun e w' => e = .returned (.tuple #[.string (bs (b.data.toList ++ beL v m m)), .int .i64 0]) ∧ Below w.heap.size w w' := by
  have hS : Hid (sizeB m = true) := by show sizeB m = true; simp [sizeB]; omega
  have hm1 : (1 : Int) ≤ m ∧ (m : Int) ≤ 8 := by omega
  obtain ⟨hm2, hm3⟩ := hm1
  have hq := shr_none hv
  clear hm hv
  by_cases h8 : (m : Int) < 8
  all_goals
    go_enter Try.func47, Try.ntmps47
    go_wp2_with (go_at_call 50; refine (rsize_any _ _).mono ?_; rintro e w' ⟨rfl, rfl⟩; rw [hS.out])
    clear hq
    go_loopw [0, 8] (fun o i wr => ∃ k : Nat, k ≤ m ∧ i = .int .i64 ((m : Int) - 1 - (k : Int)) ∧ o = .string (bs (b.data.toList ++ beL v m k)) ∧ Below w.heap.size w wr) (fun _ i _ => (intOf i + 1).toNat)
    case atStart => exact ⟨0, Nat.zero_le _, by go_num, by rw [beL_zero, List.append_nil, bs_of], Below.refl _ _⟩
    case round =>
      obtain ⟨k, hk, rfl, rfl, hb⟩ := hrel
      by_cases hlt : k < m
      · have hbs := hb.size
        have hcv := run_string_one (P := Try.prog) wr (toU8 (v / 2 ^ (8 * (m - 1 - k)))) 74 9 5 Try.underlying74 Try.underlying5 Try.underlying9 _ (byteV_shr _ _)
        have hsz := bs_size
        have hbl : (beL v m k).length ≤ 8 := by rw [beL_len]; omega
        go_wp2_with fail
        clear hcv hsz
        go_roundw
        case rel => exact ⟨k + 1, by omega, by go_num, by rw [beL_succ, ← List.append_assoc, bs_append], hb.alloc hbs _⟩
        case measure => simp [intOf]; omega
      · obtain rfl : k = m := by omega
        go_wp2_with fail
        go_ret2
        exact ⟨rfl, hb⟩

set_option maxHeartbeats 400000 in
theorem rput_long (b : ByteArray) (v : Nat) (m : Nat) (w : World) (hm : m = 1 ∨ m = 2 ∨ m = 4 ∨ m = 8) (hv : ¬ v < 2 ^ (8 * m)) (hv64 : v < 18446744073709551616) :
    Calls Try.prog 47 #[.string b, .int .u64 v, .int .i64 m] w fun e w' => e = .returned (.tuple #[.string (bs []), .int .i64 3]) ∧ w = w' := by
  have hS : Hid (sizeB m = true) := by show sizeB m = true; simp [sizeB]; omega
  have hm1 : (1 : Int) ≤ m ∧ (m : Int) < 8 := by rcases hm with rfl | rfl | rfl | rfl <;> simp at hv ⊢; omega
  obtain ⟨hm2, hm3⟩ := hm1
  have hq := shr_some hv
  clear hm hv hv64
  go_enter Try.func47, Try.ntmps47
  go_wp2_with (go_at_call 50; refine (rsize_any _ _).mono ?_; rintro e w' ⟨rfl, rfl⟩; rw [hS.out])
  go_ret2
  exact ⟨rfl, rfl⟩

/-- The contract of the reference's 'Put' at all arguments: the same answers as the program's. -/
theorem rput_any (b : ByteArray) (v n : Int) (w : World) (hv : 0 ≤ v ∧ v ≤ 18446744073709551615) (hb : b.size ≤ 140737488355000) :
    Calls Try.prog 47 #[.string b, .int .u64 v, .int .i64 n] w fun e w' => e = .returned (.tuple #[.string (putS b v n), .int .i64 (putE v n)]) ∧ Below w.heap.size w w' := by
  obtain ⟨u, rfl⟩ := Int.eq_ofNat_of_zero_le hv.1
  by_cases hm : n = 1 ∨ n = 2 ∨ n = 4 ∨ n = 8
  · obtain ⟨m, rfl⟩ := Int.eq_ofNat_of_zero_le (a := n) (by omega)
    by_cases hl : u < 2 ^ (8 * m)
    · refine (rput_yes b u m w (by omega) hl hb).mono fun e w' ⟨h1, h2⟩ => ⟨?_, h2⟩
      rw [h1]; simp [putS, putE, hm, hl]
    · refine (rput_long b u m w (by omega) hl (by omega)).mono fun e w' ⟨h1, h2⟩ => ⟨?_, h2 ▸ Below.refl _ _⟩
      rw [h1]; simp [putS, putE, hm, hl]
  · refine (rput_arg b u n w hm).mono fun e w' ⟨h1, h2⟩ => ⟨?_, h2 ▸ Below.refl _ _⟩
    rw [h1]; simp [putS, putE, hm]

end Go.Proofs.Ytcdmmplmkgdejaa
