/- Contract of the reference's Bytes: a bit string's bytes at a width. -/
import Derived.Test.YtbcgfojdlehnpaaHdRC
import Derived.Test.YtbcgfojdlehnpaaHdG
set_option linter.unusedSimpArgs false
set_option linter.unusedVariables false
namespace Go.Proofs.Ytbcgfojdlehnpaa
open Go.RowKit Go.ChangeShapes Go.WideShapes

/-- The number of bits, each once. -/
def numU : List Nat → Nat
  | [] => 0
  | m :: l => 2 ^ (m - 1) + numU l
theorem numU_append (a b : List Nat) : numU (a ++ b) = numU a + numU b := by
  induction a with
  | nil => simp [numU]
  | cons m a ih => rw [List.cons_append, numU, numU, ih, Nat.add_assoc]
theorem numU_upto {x : Bt} (hx : x.ok) : ∀ k, k ≤ 256 → numU (x.upto k) = x.num % 2 ^ k
  | 0, _ => by simp [Bt.upto, numU]; omega
  | k + 1, h => by
    have ih := numU_upto hx k (by omega)
    have hb := bit_test hx (m := k + 1) (by omega) h
    rw [Nat.add_sub_cancel, Nat.testBit_eq_decide_div_mod_eq, decide_eq_true_eq] at hb
    have hs : x.num % 2 ^ (k + 1) = x.num % 2 ^ k + 2 ^ k * (x.num / 2 ^ k % 2) := by rw [Nat.pow_succ, Nat.mod_mul]
    rw [Bt.upto, hs]
    have h2 : x.num / 2 ^ k % 2 < 2 := Nat.mod_lt _ (by decide)
    split
    · rename_i he
      rw [numU_append, ih, hb.1 he, Nat.mul_one, numU, numU, Nat.add_sub_cancel, Nat.add_zero]
    · rename_i he
      rw [show x.num / 2 ^ k % 2 = 0 from by
        have : ¬ x.num / 2 ^ k % 2 = 1 := fun h => he (hb.2 h)
        omega, Nat.mul_zero, Nat.add_zero, ih]
/-- Bytes of a number of which the bits below 2^b are there. -/
theorem toU8_congr {a b : Nat} (h : a % 256 = b % 256) : toU8 a = toU8 b := by
  apply UInt8.toNat_inj.1
  rw [toU8_toNat, toU8_toNat, h]
theorem pow_split (b i : Nat) (h : i ≤ b / 8) : 2 ^ b = 256 ^ i * 2 ^ (b - 8 * i) := by
  rw [pow256, ← Nat.pow_add]
  congr 1
  omega
theorem leB_or {N b m : Nat} (hN : N < 2 ^ b) (hb : b / 8 < m) :
    (leB N m)[b / 8]? = some (toU8 (N / 256 ^ (b / 8))) ∧ N / 256 ^ (b / 8) < 2 ^ (b % 8) ∧ (leB N m).set (b / 8) (toU8 (N / 256 ^ (b / 8) ||| 2 ^ (b % 8))) = leB (N + 2 ^ b) m := by
  have hj := pow_split b (b / 8) (Nat.le_refl _)
  have hr : b - 8 * (b / 8) = b % 8 := by omega
  rw [hr] at hj
  have hlt : N / 256 ^ (b / 8) < 2 ^ (b % 8) := Nat.div_lt_of_lt_mul (by rw [← hj]; exact hN)
  refine ⟨leB_get m N _ hb, hlt, ?_⟩
  apply List.ext_getElem?
  intro i
  by_cases him : i < m
  · rw [leB_get m (N + 2 ^ b) i him]
    by_cases hij : i = b / 8
    · subst hij
      rw [List.getElem?_set_self (by rw [leB_len]; exact hb)]
      congr 2
      have hd : (N + 2 ^ b) / 256 ^ (b / 8) = N / 256 ^ (b / 8) + 2 ^ (b % 8) := by
        rw [hj, Nat.add_mul_div_left _ _ (Nat.pow_pos (by decide))]
      rw [hd, Nat.or_comm, show 2 ^ (b % 8) ||| N / 256 ^ (b / 8) = 2 ^ (b % 8) + N / 256 ^ (b / 8) from by
        have := Nat.shiftLeft_add_eq_or_of_lt hlt 1
        rw [Nat.shiftLeft_eq, Nat.one_mul] at this
        exact this.symm, Nat.add_comm]
    · rw [List.getElem?_set_ne (fun h => hij h.symm), leB_get m N i him]
      congr 1
      apply toU8_congr
      by_cases hlo : i < b / 8
      · have hi := pow_split b i (by omega)
        rw [hi, Nat.add_mul_div_left _ _ (Nat.pow_pos (by decide)), show b - 8 * i = 8 + (b - 8 * i - 8) from by omega, Nat.pow_add, show (2 : Nat) ^ 8 = 256 from rfl, Nat.add_mul_mod_self_left]
      · have hbig : 2 ^ (b + 1) ≤ 256 ^ i := by
          rw [pow256]
          exact Nat.pow_le_pow_right (by decide) (by omega)
        rw [Nat.pow_succ] at hbig
        rw [Nat.div_eq_of_lt (show N < 256 ^ i by omega), Nat.div_eq_of_lt (show N + 2 ^ b < 256 ^ i by omega)]
  · rw [List.getElem?_eq_none (by rw [List.length_set, leB_len]; omega), List.getElem?_eq_none (by rw [leB_len]; omega)]

end Go.Proofs.Ytbcgfojdlehnpaa
