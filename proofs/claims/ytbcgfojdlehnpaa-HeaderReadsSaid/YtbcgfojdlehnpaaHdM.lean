/- Bits of a bit string, plain: one is taken off. No program is in sight. -/
import Derived.Test.YtbcgfojdlehnpaaHdF
set_option linter.unusedSimpArgs false
set_option linter.unusedVariables false
namespace Go.Proofs.Ytbcgfojdlehnpaa
open Go.RowKit

/-- A bit of the number is one of a word. -/
theorem num_bit {x : Bt} (h : x.ok) {i : Nat} (hi : i < 256) : x.num.testBit i = (x.w (i / 64)).testBit (i % 64) := by
  obtain ⟨h1, h2, h3, h4⟩ := h
  rw [Nat.testBit_eq_decide_div_mod_eq, Nat.testBit_eq_decide_div_mod_eq]
  have hj : i % 64 < 64 := Nat.mod_lt _ (by decide)
  have hk : i / 64 < 4 := by omega
  have key : ∀ (a b j : Nat), j < 64 → (a + 18446744073709551616 * b) / 2 ^ j % 2 = a / 2 ^ j % 2 := by
    intro a b j hj
    have e : (18446744073709551616 : Nat) = 2 ^ j * (2 * 2 ^ (63 - j)) := by
      rw [← pow64, show (2 : Nat) * 2 ^ (63 - j) = 2 ^ (63 - j + 1) from by rw [Nat.pow_succ, Nat.mul_comm], ← Nat.pow_add]
      congr 1
      omega
    rw [e, Nat.mul_assoc, Nat.add_mul_div_left _ _ (Nat.pow_pos (by decide)), Nat.mul_assoc, Nat.add_mul_mod_self_left]
  have hs : 2 ^ i = 18446744073709551616 ^ (i / 64) * 2 ^ (i % 64) := by
    rw [← pow64, ← Nat.pow_mul, ← Nat.pow_add]
    congr 1
    omega
  rw [hs, ← Nat.div_div_eq_div_mul]
  generalize i % 64 = j at *
  congr 2
  obtain hk | hk | hk | hk : i / 64 = 0 ∨ i / 64 = 1 ∨ i / 64 = 2 ∨ i / 64 = 3 := by omega
  · rw [hk, Nat.pow_zero, Nat.div_one, Bt.num, key _ _ _ hj]
    rfl
  · rw [hk, Nat.pow_one, Bt.num, show (x.a + 18446744073709551616 * (x.b + 18446744073709551616 * (x.c + 18446744073709551616 * x.d))) / 18446744073709551616 = x.b + 18446744073709551616 * (x.c + 18446744073709551616 * x.d) from by omega, key _ _ _ hj]
    rfl
  · rw [hk, show (18446744073709551616 : Nat) ^ 2 = 340282366920938463463374607431768211456 from by decide, Bt.num, show (x.a + 18446744073709551616 * (x.b + 18446744073709551616 * (x.c + 18446744073709551616 * x.d))) / 340282366920938463463374607431768211456 = x.c + 18446744073709551616 * x.d from by omega, key _ _ _ hj]
    rfl
  · rw [hk, show (18446744073709551616 : Nat) ^ 3 = 6277101735386680763835789423207666416102355444464034512896 from by decide, Bt.num, show (x.a + 18446744073709551616 * (x.b + 18446744073709551616 * (x.c + 18446744073709551616 * x.d))) / 6277101735386680763835789423207666416102355444464034512896 = x.d from by omega]
    rfl
/-- A word without a bit. -/
def clr (w j : Nat) : Nat := (BitVec.ofNat 64 w &&& ~~~ BitVec.ofNat 64 (2 ^ j)).toNat
theorem clr_lt (w j : Nat) : clr w j < 18446744073709551616 := by
  have := (BitVec.ofNat 64 w &&& ~~~ BitVec.ofNat 64 (2 ^ j)).isLt
  rw [pow64] at this
  exact this
theorem clr_bit {w j i : Nat} (hi : i < 64) : (clr w j).testBit i = (w.testBit i && decide (i ≠ j)) := by
  unfold clr
  rw [BitVec.testBit_toNat, BitVec.getLsbD_and, BitVec.getLsbD_not, BitVec.getLsbD_ofNat, BitVec.getLsbD_ofNat, Nat.testBit_two_pow, decide_eq_true hi]
  simp [eq_comm]
theorem andNot_go {w j : Nat} (hw : w < 18446744073709551616) (hj : j < 64) : bits .andNot .u64 (w : Int) ((2 ^ j : Nat) : Int) = ((clr w j : Nat) : Int) := by
  have hp : 2 ^ j < 18446744073709551616 := by rw [← pow64]; exact Nat.pow_lt_pow_right (by decide) hj
  have hc := clr_lt w j
  show IntKind.u64.wrap ((BitVec.ofInt 64 (w : Int) &&& ~~~ BitVec.ofInt 64 ((2 ^ j : Nat) : Int)).toNat : Int) = _
  rw [show BitVec.ofInt 64 (w : Int) = BitVec.ofNat 64 w from BitVec.ofInt_natCast 64 w, show BitVec.ofInt 64 ((2 ^ j : Nat) : Int) = BitVec.ofNat 64 (2 ^ j) from BitVec.ofInt_natCast 64 _]
  exact IntWalk.u64_in _ (by unfold clr at hc; omega)
/-- A bit string without a bit, k its place from 0 on. -/
def clrB (x : Bt) (k : Nat) : Bt := if k / 64 = 0 then { x with a := clr x.a (k % 64) } else if k / 64 = 1 then { x with b := clr x.b (k % 64) } else if k / 64 = 2 then { x with c := clr x.c (k % 64) } else { x with d := clr x.d (k % 64) }
theorem clrB_ok {x : Bt} (h : x.ok) (k : Nat) : (clrB x k).ok := by
  obtain ⟨h1, h2, h3, h4⟩ := h
  unfold clrB
  split
  · exact ⟨clr_lt _ _, h2, h3, h4⟩
  · split
    · exact ⟨h1, clr_lt _ _, h3, h4⟩
    · split
      · exact ⟨h1, h2, clr_lt _ _, h4⟩
      · exact ⟨h1, h2, h3, clr_lt _ _⟩
theorem clrB_w {x : Bt} {k i : Nat} (hk : k < 256) (hi : i < 4) : (clrB x k).w i = if i = k / 64 then clr (x.w i) (k % 64) else x.w i := by
  unfold clrB
  have hk4 : k / 64 < 4 := by omega
  generalize k / 64 = q at *
  obtain rfl | rfl | rfl | rfl : q = 0 ∨ q = 1 ∨ q = 2 ∨ q = 3 := by omega
  all_goals (obtain rfl | rfl | rfl | rfl : i = 0 ∨ i = 1 ∨ i = 2 ∨ i = 3 := by omega) <;> rfl
theorem clrB_bit {x : Bt} (h : x.ok) {k i : Nat} (hk : k < 256) (hi : i < 256) : (clrB x k).num.testBit i = (x.num.testBit i && decide (i ≠ k)) := by
  rw [num_bit (clrB_ok h k) hi, num_bit h hi, clrB_w hk (by omega)]
  by_cases hq : i / 64 = k / 64
  · rw [if_pos hq, clr_bit (Nat.mod_lt _ (by decide))]
    congr 1
    by_cases hik : i = k
    · rw [hik]; simp
    · rw [decide_eq_true hik, decide_eq_true]
      omega
  · rw [if_neg hq, decide_eq_true (show i ≠ k from fun e => hq (by rw [e])), Bool.and_true]
/-- No bit is above: below. -/
theorem num_lt_of_bits {x : Bt} (h : x.ok) {w : Nat} (hb : ∀ i, w ≤ i → i < 256 → x.num.testBit i = false) : x.num < 2 ^ w := by
  apply Nat.lt_pow_two_of_testBit
  intro i hi
  by_cases h2 : i < 256
  · exact hb i hi h2
  · exact Nat.testBit_lt_two_pow (Nat.lt_of_lt_of_le (Bt.num_lt h) (Nat.pow_le_pow_right (by decide) (by omega)))

end Go.Proofs.Ytbcgfojdlehnpaa
