/- Plain mathematics of numbers read off bytes, the highest first. No program is in sight. -/
import Derived.Test.YtcdmmplmkgdejaaWireP
set_option linter.unusedSimpArgs false
set_option linter.unusedVariables false
namespace Go.Proofs.Ytcdmmplmkgdejaa
open Go.RowKit

def beVal (l : List UInt8) : Nat := l.foldl (fun v b => v * 256 + b.toNat) 0
theorem beVal_snoc (l : List UInt8) (b : UInt8) : beVal (l ++ [b]) = beVal l * 256 + b.toNat := by unfold beVal; rw [List.foldl_append]; rfl
theorem beVal_lt : ∀ (k : Nat) (l : List UInt8), l.length ≤ k → beVal l < 256 ^ k := by
  intro k
  induction k with
  | zero => intro l h; have : l = [] := List.eq_nil_of_length_eq_zero (by omega)
            subst this; decide
  | succ k ih =>
    intro l h
    rcases List.eq_nil_or_concat l with rfl | ⟨l', b, rfl⟩
    · exact Nat.pow_pos (by decide)
    · rw [List.concat_eq_append, beVal_snoc]
      have h1 := ih l' (by simp at h; omega)
      have h2 := b.toNat_lt
      rw [Nat.pow_succ]
      omega
theorem seg_succ {b : ByteArray} {a k : Nat} (h : a + k < b.size) : (b.data.toList.drop a).take (k + 1) = (b.data.toList.drop a).take k ++ [b[a + k]] := by
  have hl : k < (b.data.toList.drop a).length := by rw [List.length_drop, Array.length_toList]; have : b.data.size = b.size := rfl; omega
  rw [List.take_succ_eq_append_getElem hl, List.getElem_drop]
  rfl

/-- What 'Take' answers. -/
def segV (b : ByteArray) (a k : Nat) : Nat := beVal ((b.data.toList.drop a).take k)
theorem segV_zero (b : ByteArray) (a : Nat) : segV b a 0 = 0 := by simp [segV, beVal]
theorem segV_succ {b : ByteArray} {a k : Nat} (h : a + k < b.size) : segV b a (k + 1) = segV b a k * 256 + b[a + k].toNat := by unfold segV; rw [seg_succ h, beVal_snoc]
theorem segV_lt (b : ByteArray) (a k : Nat) : segV b a k < 256 ^ k := beVal_lt k _ (List.length_take_le _ _)
theorem segV_lt8 (b : ByteArray) (a : Nat) {k : Nat} (hk : k < 8) : segV b a k < 72057594037927936 := Nat.lt_of_lt_of_le (segV_lt b a k) (Nat.le_trans (Nat.pow_le_pow_right (by decide) (show k ≤ 7 by omega)) (by decide))
def takeV (b : ByteArray) (a n : Int) : Nat := if (n = 1 ∨ n = 2 ∨ n = 4 ∨ n = 8) ∧ 0 ≤ a ∧ a + n ≤ b.size then segV b a.toNat n.toNat else 0
def takeE (b : ByteArray) (a n : Int) : Int := if n = 1 ∨ n = 2 ∨ n = 4 ∨ n = 8 then (if 0 ≤ a ∧ a + n ≤ b.size then 0 else 4) else 2

theorem or_low (v : Nat) (x : UInt8) : v * 256 ||| x.toNat = v * 256 + x.toNat := nat_join 8 (v * 256) x.toNat (by omega) (by have := x.toNat_lt; omega)
theorem take_go (v : Nat) (x : UInt8) (hv : v < 72057594037927936) : bits .or .u64 (IntKind.u64.wrap ((v : Int) * 256)) (IntKind.u64.wrap (x.toNat : Int)) = ((v * 256 + x.toNat : Nat) : Int) := by
  have hx := x.toNat_lt
  rw [IntWalk.u64_in _ (by omega), IntWalk.u64_in _ (by omega), show ((v : Int) * 256) = ((v * 256 : Nat) : Int) from by simp, u64_or_nat _ _ (by omega) (by omega), or_low]

end Go.Proofs.Ytcdmmplmkgdejaa
