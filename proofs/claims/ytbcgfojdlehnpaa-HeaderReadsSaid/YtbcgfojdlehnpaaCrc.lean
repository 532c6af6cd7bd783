/- Plain mathematics of the sum of bytes (16 bits, polynomial 0x1021): the steps over numbers. No program is in sight. -/
import Derived.Test.YtbcgfojdlehnpaaBase
set_option linter.unusedSimpArgs false
set_option linter.unusedVariables false
namespace Go.Proofs.Ytbcgfojdlehnpaa
open Go.RowKit

/-- One bit's step, and k of them. -/
def zN (s : Nat) : Nat := (s * 2 % 65536) ^^^ (s / 32768 * 4129)
def zK : Nat → Nat → Nat
  | 0, s => s
  | k + 1, s => zN (zK k s)
/-- A byte's step; a list's. -/
def crcB (s : Nat) (b : UInt8) : Nat := zK 8 (s ^^^ (b.toNat * 256))
def crcN (s : Nat) (l : List UInt8) : Nat := l.foldl crcB s

theorem xor_lt16 {a b : Nat} (ha : a < 65536) (hb : b < 65536) : a ^^^ b < 65536 := Nat.xor_lt_two_pow (n := 16) ha hb
theorem zN_lt {s : Nat} (h : s < 65536) : zN s < 65536 := xor_lt16 (by omega) (by omega)
theorem zK_lt {s : Nat} (h : s < 65536) : ∀ k, zK k s < 65536
  | 0 => h
  | k + 1 => zN_lt (zK_lt h k)
theorem start_lt {s : Nat} (h : s < 65536) (b : UInt8) : s ^^^ (b.toNat * 256) < 65536 := xor_lt16 h (by have := b.toNat_lt; omega)
theorem crcB_lt {s : Nat} (h : s < 65536) (b : UInt8) : crcB s b < 65536 := zK_lt (start_lt h b) 8
theorem crcN_lt : ∀ (l : List UInt8) {s : Nat}, s < 65536 → crcN s l < 65536
  | [], _, h => h
  | b :: l, _, h => crcN_lt l (crcB_lt h b)
theorem crcN_append (s : Nat) (a b : List UInt8) : crcN s (a ++ b) = crcN (crcN s a) b := List.foldl_append
theorem crcN_snoc (s : Nat) (l : List UInt8) (b : UInt8) : crcN s (l ++ [b]) = crcB (crcN s l) b := by rw [crcN_append]; rfl
theorem crcN_take {s : Nat} {b : ByteArray} {k : Nat} (h : k < b.size) : crcN s (b.data.toList.take (k + 1)) = crcB (crcN s (b.data.toList.take k)) b[k] := by
  rw [List.take_succ_eq_append_getElem (by simpa using h), crcN_snoc]; rfl

/-- The sum of parts. -/
def sumL (ss : List ByteArray) : Nat := ss.foldl (fun s b => crcN s b.data.toList) 65535
theorem sumL_take {ss : List ByteArray} {k : Nat} (h : k < ss.length) : sumL (ss.take (k + 1)) = crcN (sumL (ss.take k)) ss[k].data.toList := by
  unfold sumL
  rw [List.take_succ_eq_append_getElem h, List.foldl_append]
  rfl
theorem foldl_crc_lt : ∀ (ss : List ByteArray) {s : Nat}, s < 65536 → ss.foldl (fun s b => crcN s b.data.toList) s < 65536
  | [], _, h => h
  | b :: l, _, h => foldl_crc_lt l (crcN_lt b.data.toList h)
theorem sumL_lt (ss : List ByteArray) : sumL ss < 65536 := foldl_crc_lt ss (by decide)

theorem data_append (a b : ByteArray) : (a ++ b).data.toList = a.data.toList ++ b.data.toList := by simp [ByteArray.data_append]
theorem sum_parts1 (a b c : ByteArray) : sumL [a ++ b ++ c] = sumL [a, b, c] := by
  simp only [sumL, List.foldl_cons, List.foldl_nil, data_append, crcN_append]
theorem sum_parts2 (a b c : ByteArray) : sumL [a, b ++ c] = sumL [a ++ b, ⟨#[]⟩, c] := by
  simp only [sumL, List.foldl_cons, List.foldl_nil, data_append, crcN_append]
  rfl

/-! The same steps as the walk spells them. -/
theorem wrap16 (n : Int) (h : 0 ≤ n ∧ n < 65536) : IntKind.u16.wrap n = n := IntWalk.u16_in n (by omega)
theorem start_go (t : Nat) (x : UInt8) (ht : t < 65536) : bits .xor .u16 (t : Int) (IntKind.u16.wrap (IntKind.u16.wrap (x.toNat : Int) * 256)) = ((t ^^^ (x.toNat * 256) : Nat) : Int) := by
  have hx := x.toNat_lt
  rw [wrap16 (x.toNat : Int) (by omega), wrap16 _ (by omega), show ((x.toNat : Int) * 256) = ((x.toNat * 256 : Nat) : Int) from by simp, u16_xor_nat _ _ ht (by omega)]
theorem step_go (t : Nat) (ht : t < 65536) : bits .xor .u16 (IntKind.u16.wrap ((t : Int) * 2)) ((t : Int) / 32768 * 4129) = (zN t : Nat) := by
  rw [IntKind.wrap_u16, show ((t : Int) * 2 % 65536) = ((t * 2 % 65536 : Nat) : Int) from by simp, show ((t : Int) / 32768 * 4129) = ((t / 32768 * 4129 : Nat) : Int) from by simp,
    u16_xor_nat _ _ (by omega) (by omega)]
  rfl

theorem start_ref (t : Nat) (x : UInt8) (ht : t < 65536) : bits .xor .u16 (t : Int) ((x.toNat : Int) * 256) = ((t ^^^ (x.toNat * 256) : Nat) : Int) := by
  have hx := x.toNat_lt
  rw [show ((x.toNat : Int) * 256) = ((x.toNat * 256 : Nat) : Int) from by simp, u16_xor_nat _ _ ht (by omega)]
theorem step_high (t : Nat) (ht : t < 65536) (h : 32768 ≤ t) : bits .xor .u16 (IntKind.u16.wrap ((t : Int) * 2)) 4129 = (zN t : Nat) := by
  rw [IntKind.wrap_u16, show ((t : Int) * 2 % 65536) = ((t * 2 % 65536 : Nat) : Int) from by simp, show (4129 : Int) = ((4129 : Nat) : Int) from rfl, u16_xor_nat _ _ (by omega) (by omega)]
  unfold zN
  rw [show t / 32768 = 1 from by omega]
theorem step_low (t : Nat) (h : t < 32768) : IntKind.u16.wrap ((t : Int) * 2) = (zN t : Nat) := by
  rw [wrap16 _ (by omega)]
  unfold zN
  rw [show t / 32768 = 0 from by omega, Nat.mod_eq_of_lt (by omega)]
  simp

end Go.Proofs.Ytbcgfojdlehnpaa
