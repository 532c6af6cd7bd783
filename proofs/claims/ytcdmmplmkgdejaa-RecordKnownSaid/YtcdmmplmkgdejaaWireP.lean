/- Plain mathematics of package wire, first part: numbers as bytes, the highest first. No program is in sight. -/
import Derived.Test.YtcdmmplmkgdejaaBase
import Derived.Lib.BitFns
set_option linter.unusedSimpArgs false
set_option linter.unusedVariables false
namespace Go.Proofs.Ytcdmmplmkgdejaa
open Go.RowKit

theorem bitLenAux_le : ∀ (f x k : Nat), x < 2 ^ f → (Lib.bitLenAux f x ≤ k ↔ x < 2 ^ k) := by
  intro f
  induction f with
  | zero => intro x k h; have : x = 0 := by simpa using h
            subst this; simp [Lib.bitLenAux, Nat.two_pow_pos]
  | succ f ih =>
    intro x k h
    unfold Lib.bitLenAux
    by_cases h0 : x = 0
    · subst h0; simp [Nat.two_pow_pos]
    · rw [if_neg h0]
      cases k with
      | zero => simp; omega
      | succ k =>
        have := ih (x / 2) k (by rw [Nat.pow_succ] at h; omega)
        rw [Nat.pow_succ]
        omega
theorem bitLen_le (x k : Nat) (h : x < 18446744073709551616) : Lib.bitLen x ≤ k ↔ x < 2 ^ k := bitLenAux_le 64 x k (by simpa using h)

/-- The k highest ones of the m bytes of a number. -/
def beL (v : Nat) (m k : Nat) : List UInt8 := (List.range k).map fun j => toU8 (v / 2 ^ (8 * (m - 1 - j)))
theorem beL_zero (v m : Nat) : beL v m 0 = [] := rfl
theorem beL_succ (v m k : Nat) : beL v m (k + 1) = beL v m k ++ [toU8 (v / 2 ^ (8 * (m - 1 - k)))] := by simp [beL, List.range_succ]
theorem beL_len (v m k : Nat) : (beL v m k).length = k := by simp [beL]

theorem byte_of_shr (v : Nat) (j : Nat) : (toU8 (v / 2 ^ j)).toNat = v / 2 ^ j % 256 := toU8_toNat _

theorem byteV_shr (v j : Nat) : byteV (toU8 (v / 2 ^ j)) = .int .u8 ((v : Int) / 2 ^ j % 256) := by
  unfold byteV; rw [byte_of_shr]; simp

theorem shr_none {v k : Nat} (h : v < 2 ^ k) : ((v : Int) / 2 ^ k != 0) = false := by
  have : ((v : Int) / 2 ^ k) = ((v / 2 ^ k : Nat) : Int) := by simp
  rw [this, Nat.div_eq_of_lt h]; rfl
theorem shr_some {v k : Nat} (h : ¬ v < 2 ^ k) : ((v : Int) / 2 ^ k != 0) = true := by
  have e : ((v : Int) / 2 ^ k) = ((v / 2 ^ k : Nat) : Int) := by simp
  have h1 : 0 < v / 2 ^ k := Nat.div_pos (by omega) (Nat.two_pow_pos k)
  rw [e, bne_iff_ne]; omega

/-- What 'Put' answers: the bytes, the error's number. -/
def putS (b : ByteArray) (v n : Int) : ByteArray :=
  if n = 1 ∨ n = 2 ∨ n = 4 ∨ n = 8 then (if v.toNat < 2 ^ (8 * n.toNat) then bs (b.data.toList ++ beL v.toNat n.toNat n.toNat) else bs []) else bs []
def putE (v n : Int) : Int :=
  if n = 1 ∨ n = 2 ∨ n = 4 ∨ n = 8 then (if v.toNat < 2 ^ (8 * n.toNat) then 0 else 3) else 2

end Go.Proofs.Ytcdmmplmkgdejaa
