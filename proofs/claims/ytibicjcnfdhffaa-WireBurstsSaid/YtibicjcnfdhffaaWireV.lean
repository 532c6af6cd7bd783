/- Plain mathematics of numbers in groups of seven bits. No program is in sight. -/
import Derived.Test.YtibicjcnfdhffaaBase
set_option linter.unusedSimpArgs false
set_option linter.unusedVariables false
namespace Go.Proofs.Ytibicjcnfdhffaa
open Go.RowKit

/-- A number in groups of seven bits, the lowest first: each but the last with 128 added. -/
def uvarL (n : Nat) : List UInt8 := if h : n < 128 then [toU8 n] else toU8 (n % 128 + 128) :: uvarL (n / 128)
  termination_by n
  decreasing_by omega
theorem uvarL_last {n : Nat} (h : n < 128) : uvarL n = [toU8 n] := by rw [uvarL, dif_pos h]
theorem uvarL_more {n : Nat} (h : ¬ n < 128) : uvarL n = toU8 (n % 128 + 128) :: uvarL (n / 128) := by rw [uvarL, dif_neg h]
theorem uvarL_len : ∀ (k n : Nat), n < 128 ^ (k + 1) → (uvarL n).length ≤ k + 1 := by
  intro k
  induction k with
  | zero => intro n h; rw [uvarL_last (by simpa using h)]; simp
  | succ k ih =>
    intro n h
    by_cases h0 : n < 128
    · rw [uvarL_last h0]; simp
    · rw [uvarL_more h0, List.length_cons]
      have := ih (n / 128) (by rw [Nat.pow_succ] at h; omega)
      omega
theorem uvarL_len64 {n : Nat} (h : n < 18446744073709551616) : (uvarL n).length ≤ 10 := uvarL_len 9 n (by simp; omega)
theorem uvarL_pos (n : Nat) : 0 < (uvarL n).length := by
  by_cases h : n < 128
  · rw [uvarL_last h]; simp
  · rw [uvarL_more h]; simp

/-- One round: what was laid, and what is left to lay. -/
theorem uvar_round {pre : List UInt8} {v v' : Nat} (h : pre ++ uvarL v' = uvarL v) (hv : ¬ v' < 128) : (pre ++ [toU8 (v' % 128 + 128)]) ++ uvarL (v' / 128) = uvarL v := by
  rw [← h, uvarL_more hv]; simp
theorem uvar_end {pre : List UInt8} {v v' : Nat} (h : pre ++ uvarL v' = uvarL v) (hv : v' < 128) : pre ++ [toU8 v'] = uvarL v := by rw [← h, uvarL_last hv]
theorem uvar_room {pre : List UInt8} {v v' : Nat} (h : pre ++ uvarL v' = uvarL v) (hv : v < 18446744073709551616) : pre.length ≤ 9 := by
  have h1 := congrArg List.length h
  rw [List.length_append] at h1
  have h2 := uvarL_len64 hv
  have h3 := uvarL_pos v'
  omega

theorem or128 : ∀ x : Fin 256, x.val ||| 128 = x.val % 128 + 128 := by decide +kernel
theorem byteV_or128 (v : Nat) : byteV (toU8 (v % 128 + 128)) = .int .u8 (bits .or .u8 ((v : Int) % 256) 128) := by
  have h1 : ((v : Int) % 256) = ((v % 256 : Nat) : Int) := by omega
  have h2 := or128 ⟨v % 256, by omega⟩
  simp only at h2
  rw [h1, show (128 : Int) = ((128 : Nat) : Int) from rfl, u8_or_nat _ _ (by omega) (by omega), h2]
  rw [byteV_small (by omega)]
  congr 1
  omega
theorem byteV_add128 (v : Nat) : byteV (toU8 (v % 128 + 128)) = .int .u8 ((v : Int) % 128 + 128) := by
  rw [byteV_small (by omega)]
  congr 1

end Go.Proofs.Ytibicjcnfdhffaa
