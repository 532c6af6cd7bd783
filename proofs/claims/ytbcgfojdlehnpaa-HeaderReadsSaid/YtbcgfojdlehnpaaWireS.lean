/- Plain mathematics of sealed bytes. No program is in sight. -/
import Derived.Test.YtbcgfojdlehnpaaCrc
import Derived.Test.YtbcgfojdlehnpaaWireP
set_option linter.unusedSimpArgs false
set_option linter.unusedVariables false
namespace Go.Proofs.Ytbcgfojdlehnpaa
open Go.RowKit

/-- The sum of bytes. -/
def sumB (b : ByteArray) : Nat := crcN 65535 b.data.toList
theorem sumB_lt (b : ByteArray) : sumB b < 65536 := crcN_lt _ (by decide)
theorem sumL_one (b : ByteArray) : sumL [b] = sumB b := rfl
/-- What 'Seal' answers: the sum's two bytes behind. -/
def sealB (b : ByteArray) : ByteArray := bs (b.data.toList ++ beL (sumB b) 2 2)
theorem sealB_size (b : ByteArray) : (sealB b).size = b.size + 2 := by rw [sealB, bs_size, List.length_append, beL_len]; rfl
theorem beL_two (v : Nat) : beL v 2 2 = [toU8 (v / 256), toU8 v] := by simp [beL, List.range_succ]
theorem two_eq (b : ByteArray) : sealB b = b ++ bs [toU8 (sumB b / 256), toU8 (sumB b)] := by
  rw [sealB, beL_two, ← bs_append, bs_of]
/-- The last two bytes' number. -/
def lastTwo (b : ByteArray) : Nat := (b.data.toList.getD (b.size - 2) 0).toNat * 256 + (b.data.toList.getD (b.size - 1) 0).toNat
theorem lastTwo_eq {b : ByteArray} {n : Nat} (hn : b.size = n + 2) (h1 : n < b.size) (h2 : n + 1 < b.size) : b[n].toNat * 256 + b[n + 1].toNat = lastTwo b := by
  have e : ∀ k (hk : k < b.size), b.data.toList.getD k 0 = b[k] := by
    intro k hk
    have : k < b.data.toList.length := by simpa using hk
    rw [List.getD_eq_getElem?_getD, List.getElem?_eq_getElem this]
    rfl
  unfold lastTwo
  rw [hn, show n + 2 - 2 = n from rfl, show n + 2 - 1 = n + 1 from rfl, e n h1, e (n + 1) h2]
/-- What 'Open' answers. -/
def openS (b : ByteArray) : ByteArray := if b.size < 2 then bs [] else if sumB (b.extract 0 (b.size - 2)) = lastTwo b then b.extract 0 (b.size - 2) else bs []
def openE (b : ByteArray) : Int := if b.size < 2 then 4 else if sumB (b.extract 0 (b.size - 2)) = lastTwo b then 0 else 5

theorem hi_byte (s : Nat) (h : s < 65536) : byteV (toU8 (s / 256)) = .int .u8 ((s : Int) / 256) := by rw [byteV_small (by omega)]; rfl
theorem two_go (x y : UInt8) : bits .or .u16 (IntKind.u16.wrap (IntKind.u16.wrap (x.toNat : Int) * 256)) (IntKind.u16.wrap (y.toNat : Int)) = ((x.toNat * 256 + y.toNat : Nat) : Int) := by
  have hx := x.toNat_lt
  have hy := y.toNat_lt
  rw [wrap16 (x.toNat : Int) (by omega), wrap16 (y.toNat : Int) (by omega), wrap16 _ (by omega), show ((x.toNat : Int) * 256) = ((x.toNat * 256 : Nat) : Int) from by simp, u16_or_nat _ _ (by omega) (by omega),
    nat_join 8 (x.toNat * 256) y.toNat (by omega) (by omega)]

theorem open_cases {b : ByteArray} {n : Nat} (hn : b.size = n + 2) :
    (sumB (b.extract 0 n) = lastTwo b → openS b = b.extract 0 n ∧ openE b = 0) ∧ (¬ sumB (b.extract 0 n) = lastTwo b → openS b = bs [] ∧ openE b = 5) := by
  have e : b.size - 2 = n := by omega
  constructor
  · intro h
    rw [openS, openE, if_neg (show ¬ b.size < 2 by omega), if_neg (show ¬ b.size < 2 by omega), e, if_pos h, if_pos h]
    exact ⟨rfl, rfl⟩
  · intro h
    rw [openS, openE, if_neg (show ¬ b.size < 2 by omega), if_neg (show ¬ b.size < 2 by omega), e, if_neg h, if_neg h]
    exact ⟨rfl, rfl⟩
theorem list_two {l : List UInt8} {n : Nat} (h : l.length = n + 2) : l = l.take n ++ [l.getD n 0, l.getD (n + 1) 0] := by
  apply List.ext_getElem?
  intro i
  rcases Nat.lt_trichotomy i n with hi | rfl | hi
  · rw [List.getElem?_append_left (by simp; omega), List.getElem?_take, if_pos hi]
  · rw [List.getElem?_append_right (by rw [List.length_take]; omega)]
    simp [h]
  · rcases Nat.lt_trichotomy i (n + 1) with hj | rfl | hj
    · omega
    · rw [List.getElem?_append_right (by simp; omega)]
      simp [h]
    · rw [List.getElem?_append_right (by simp; omega), List.getElem?_eq_none (by omega), List.getElem?_eq_none]
      simp [h]
      omega
theorem two_bytes (x y : UInt8) (s : Nat) (hs : s < 65536) : [toU8 (s / 256), toU8 s] = [x, y] ↔ s = x.toNat * 256 + y.toNat := by
  have hx := x.toNat_lt
  have hy := y.toNat_lt
  constructor
  · intro h
    simp only [List.cons.injEq, and_true] at h
    have h1 : s / 256 % 256 = x.toNat := by rw [← h.1, toU8_toNat]
    have h2 : s % 256 = y.toNat := by rw [← h.2, toU8_toNat]
    omega
  · rintro rfl
    have e1 : (x.toNat * 256 + y.toNat) / 256 = x.toNat := by omega
    have e2 : toU8 (x.toNat * 256 + y.toNat) = y := by
      rw [← toU8_of y]
      unfold toU8
      apply UInt8.toNat_inj.1
      simp
    rw [e1, e2, toU8_of]
theorem extract_data (b : ByteArray) (n : Nat) : (b.extract 0 n).data.toList = b.data.toList.take n := by simp [ByteArray.data_extract]
theorem seal_same {b : ByteArray} {n : Nat} (hn : b.size = n + 2) :
    (sumB (b.extract 0 n) = lastTwo b → sealB (b.extract 0 n) = b) ∧ (¬ sumB (b.extract 0 n) = lastTwo b → ((sealB (b.extract 0 n)).toList == b.toList) = false) := by
  have hl : b.data.toList.length = n + 2 := by rw [Array.length_toList]; exact hn
  have h2 := list_two hl
  have ex : (sealB (b.extract 0 n)).data.toList = b.data.toList.take n ++ [toU8 (sumB (b.extract 0 n) / 256), toU8 (sumB (b.extract 0 n))] := by
    rw [sealB, bs_toList, beL_two, extract_data]
  have hs := sumB_lt (b.extract 0 n)
  have hlt : lastTwo b = (b.data.toList.getD n 0).toNat * 256 + (b.data.toList.getD (n + 1) 0).toNat := by unfold lastTwo; rw [hn]; rfl
  constructor
  · intro h
    have : (sealB (b.extract 0 n)).data.toList = b.data.toList := by
      rw [ex, (two_bytes (b.data.toList.getD n 0) (b.data.toList.getD (n + 1) 0) _ hs).2 (h.trans hlt), ← h2]
    exact ByteArray.ext (Array.toList_inj.1 this)
  · intro h
    rw [ByteArray.toList_eq, ByteArray.toList_eq, beq_eq_false_iff_ne]
    intro he
    have h3 := List.append_cancel_left ((ex.symm.trans he).trans h2)
    exact h (((two_bytes _ _ _ hs).1 h3).trans hlt.symm)

end Go.Proofs.Ytbcgfojdlehnpaa
