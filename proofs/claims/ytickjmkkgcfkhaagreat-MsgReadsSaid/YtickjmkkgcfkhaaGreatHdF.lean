/- Contracts: a bit string's bytes; the bit string of bytes. -/
import Derived.Test.YtickjmkkgcfkhaaGreatHdD
import Derived.Laws.Rows
set_option linter.unusedSimpArgs false
set_option linter.unusedVariables false
set_option maxRecDepth 100000
namespace Go.Proofs.YtickjmkkgcfkhaaGreat
open Go.RowKit Go.ChangeShapes Go.WideShapes

/-- The words. -/
def Bt.w (x : Bt) (i : Nat) : Nat := if i = 0 then x.a else if i = 1 then x.b else if i = 2 then x.c else x.d
theorem Bt.w_lt {x : Bt} (h : x.ok) (i : Nat) : x.w i < 18446744073709551616 := by
  obtain ⟨h1, h2, h3, h4⟩ := h
  unfold Bt.w
  split
  · exact h1
  · split
    · exact h2
    · split
      · exact h3
      · exact h4
theorem pow64 : (2 : Nat) ^ 64 = 18446744073709551616 := by decide
theorem split256 (i : Nat) : (256 : Nat) ^ i = 18446744073709551616 ^ (i / 8) * 2 ^ (8 * (i % 8)) := by
  rw [← pow64, ← Nat.pow_mul, ← Nat.pow_add, pow256]
  congr 1
  omega
/-- A byte of the words is one of the number. -/
theorem byte_of_words {x : Bt} (h : x.ok) {i : Nat} (hi : i < 32) : x.w (i / 8) / 2 ^ (8 * (i % 8)) % 256 = x.num / 256 ^ i % 256 := by
  obtain ⟨h1, h2, h3, h4⟩ := h
  rw [split256, ← Nat.div_div_eq_div_mul]
  have hj : i % 8 < 8 := Nat.mod_lt _ (by decide)
  have hk : i / 8 < 4 := by omega
  have key : ∀ (a b j : Nat), j < 8 → (a + 18446744073709551616 * b) / 2 ^ (8 * j) % 256 = a / 2 ^ (8 * j) % 256 := by
    intro a b j hj
    have e : (18446744073709551616 : Nat) = 2 ^ (8 * j) * (256 * 2 ^ (56 - 8 * j)) := by
      rw [← pow64, show (256 : Nat) = 2 ^ 8 from rfl, ← Nat.pow_add, ← Nat.pow_add]
      congr 1
      omega
    rw [e, Nat.mul_assoc, Nat.add_mul_div_left _ _ (Nat.pow_pos (by decide)), Nat.mul_assoc, Nat.add_mul_mod_self_left]
  generalize i % 8 = j at *
  obtain hk | hk | hk | hk : i / 8 = 0 ∨ i / 8 = 1 ∨ i / 8 = 2 ∨ i / 8 = 3 := by omega
  · rw [hk, Nat.pow_zero, Nat.div_one, Bt.num, key _ _ _ hj]
    rfl
  · rw [hk, Nat.pow_one, Bt.num, show (x.a + 18446744073709551616 * (x.b + 18446744073709551616 * (x.c + 18446744073709551616 * x.d))) / 18446744073709551616 = x.b + 18446744073709551616 * (x.c + 18446744073709551616 * x.d) from by omega, key _ _ _ hj]
    rfl
  · rw [hk, show (18446744073709551616 : Nat) ^ 2 = 340282366920938463463374607431768211456 from by decide, Bt.num, show (x.a + 18446744073709551616 * (x.b + 18446744073709551616 * (x.c + 18446744073709551616 * x.d))) / 340282366920938463463374607431768211456 = x.c + 18446744073709551616 * x.d from by omega, key _ _ _ hj]
    rfl
  · rw [hk, show (18446744073709551616 : Nat) ^ 3 = 6277101735386680763835789423207666416102355444464034512896 from by decide, Bt.num, show (x.a + 18446744073709551616 * (x.b + 18446744073709551616 * (x.c + 18446744073709551616 * x.d))) / 6277101735386680763835789423207666416102355444464034512896 = x.d from by omega]
    rfl
/-- A word takes a byte more. -/
theorem word_more {n v i : Nat} (hi : i < 32) (hn : n < 256 ^ i) (hv : v < 256) :
    Bt.of (n + v * 256 ^ i) = (if i / 8 = 0 then { Bt.of n with a := (Bt.of n).a ||| v * 2 ^ (8 * (i % 8)) } else if i / 8 = 1 then { Bt.of n with b := (Bt.of n).b ||| v * 2 ^ (8 * (i % 8)) } else if i / 8 = 2 then { Bt.of n with c := (Bt.of n).c ||| v * 2 ^ (8 * (i % 8)) } else { Bt.of n with d := (Bt.of n).d ||| v * 2 ^ (8 * (i % 8)) }) := by
  have hor : ∀ (m j : Nat), m < 2 ^ (8 * j) → m ||| v * 2 ^ (8 * j) = m + v * 2 ^ (8 * j) := by
    intro m j hm
    rw [Nat.or_comm, ← Nat.shiftLeft_eq, ← Nat.shiftLeft_add_eq_or_of_lt hm, Nat.add_comm]
  have hj : i % 8 < 8 := Nat.mod_lt _ (by decide)
  have hs := split256 i
  have hq : 2 ^ (8 * (i % 8)) ≤ 72057594037927936 := Nat.le_trans (Nat.pow_le_pow_right (by decide) (show 8 * (i % 8) ≤ 56 by omega)) (by decide)
  rw [hs] at hn ⊢
  obtain hk | hk | hk | hk : i / 8 = 0 ∨ i / 8 = 1 ∨ i / 8 = 2 ∨ i / 8 = 3 := by omega
  · rw [hk, Nat.pow_zero, Nat.one_mul] at hn ⊢
    rw [if_pos rfl, show (Bt.of n).a = n from by show n % _ = n; omega, hor n _ hn]
    generalize 2 ^ (8 * (i % 8)) = q at *
    have : v * q ≤ 255 * q := Nat.mul_le_mul_right _ (by omega)
    generalize v * q = r at *
    simp only [Bt.of, Bt.mk.injEq]
    refine ⟨?_, ?_, ?_, ?_⟩ <;> omega
  · rw [hk, Nat.pow_one] at hn ⊢
    rw [if_neg (by decide), if_pos rfl, show (Bt.of n).b = n / 18446744073709551616 from by show n / _ % _ = _; generalize 2 ^ (8 * (i % 8)) = q at *; omega, hor _ _ (Nat.div_lt_of_lt_mul hn)]
    rw [show v * (18446744073709551616 * 2 ^ (8 * (i % 8))) = 18446744073709551616 * (v * 2 ^ (8 * (i % 8))) from by rw [Nat.mul_left_comm]]
    generalize 2 ^ (8 * (i % 8)) = q at *
    have : v * q ≤ 255 * q := Nat.mul_le_mul_right _ (by omega)
    generalize v * q = r at *
    simp only [Bt.of, Bt.mk.injEq]
    refine ⟨?_, ?_, ?_, ?_⟩ <;> omega
  · rw [hk, show (18446744073709551616 : Nat) ^ 2 = 340282366920938463463374607431768211456 from by decide] at hn ⊢
    rw [if_neg (by decide), if_neg (by decide), if_pos rfl, show (Bt.of n).c = n / 340282366920938463463374607431768211456 from by show n / _ % _ = _; generalize 2 ^ (8 * (i % 8)) = q at *; omega, hor _ _ (Nat.div_lt_of_lt_mul hn)]
    rw [show v * (340282366920938463463374607431768211456 * 2 ^ (8 * (i % 8))) = 340282366920938463463374607431768211456 * (v * 2 ^ (8 * (i % 8))) from by rw [Nat.mul_left_comm]]
    generalize 2 ^ (8 * (i % 8)) = q at *
    have : v * q ≤ 255 * q := Nat.mul_le_mul_right _ (by omega)
    generalize v * q = r at *
    simp only [Bt.of, Bt.mk.injEq]
    refine ⟨?_, ?_, ?_, ?_⟩ <;> omega
  · rw [hk, show (18446744073709551616 : Nat) ^ 3 = 6277101735386680763835789423207666416102355444464034512896 from by decide] at hn ⊢
    rw [if_neg (by decide), if_neg (by decide), if_neg (by decide), show (Bt.of n).d = n / 6277101735386680763835789423207666416102355444464034512896 from by show n / _ % _ = _; generalize 2 ^ (8 * (i % 8)) = q at *; omega, hor _ _ (Nat.div_lt_of_lt_mul hn)]
    rw [show v * (6277101735386680763835789423207666416102355444464034512896 * 2 ^ (8 * (i % 8))) = 6277101735386680763835789423207666416102355444464034512896 * (v * 2 ^ (8 * (i % 8))) from by rw [Nat.mul_left_comm]]
    generalize 2 ^ (8 * (i % 8)) = q at *
    have : v * q ≤ 255 * q := Nat.mul_le_mul_right _ (by omega)
    generalize v * q = r at *
    simp only [Bt.of, Bt.mk.injEq]
    refine ⟨?_, ?_, ?_, ?_⟩ <;> omega

end Go.Proofs.YtickjmkkgcfkhaaGreat
