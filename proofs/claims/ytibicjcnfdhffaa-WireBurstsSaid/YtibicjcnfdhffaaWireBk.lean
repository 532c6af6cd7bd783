/- Plain mathematics: numbers, sealed bytes and digits come back. No program is in sight. -/
import Derived.Test.YtibicjcnfdhffaaWireT
import Derived.Test.YtibicjcnfdhffaaWireP
import Derived.Test.YtibicjcnfdhffaaWireS
import Derived.Test.YtibicjcnfdhffaaWireTakeVar
import Derived.Test.YtibicjcnfdhffaaWireH
set_option linter.unusedSimpArgs false
set_option linter.unusedVariables false
namespace Go.Proofs.Ytibicjcnfdhffaa
open Go.RowKit

theorem data_take (b : ByteArray) (n : Nat) : (b.extract 0 n).data.toList = b.data.toList.take n := by
  rw [ByteArray.data_extract, Array.toList_extract, List.extract]
  simp
theorem bytes_ext {a b : ByteArray} (h : a.data.toList = b.data.toList) : a = b := by
  rw [← bs_of a, ← bs_of b, h]
theorem take_front (b : ByteArray) (l : List UInt8) : (bs (b.data.toList ++ l)).extract 0 b.size = b := by
  apply bytes_ext
  rw [data_take, bs_toList, List.take_left' (by simp)]

/-! ### Numbers of a size -/
theorem beVal_be (v m : Nat) (hv : v < 2 ^ (8 * m)) : ∀ k, k ≤ m → beVal (beL v m k) = v / 2 ^ (8 * (m - k))
  | 0, _ => by rw [beL_zero, Nat.sub_zero, Nat.div_eq_of_lt hv]; rfl
  | k + 1, hk => by
    rw [beL_succ, beVal_snoc, beVal_be v m hv k (by omega), toU8_toNat]
    have e : 8 * (m - k) = 8 * (m - 1 - k) + 8 := by omega
    have e2 : m - (k + 1) = m - 1 - k := by omega
    rw [e, e2, Nat.pow_add, ← Nat.div_div_eq_div_mul]
    generalize v / 2 ^ (8 * (m - 1 - k)) = q
    omega
theorem beVal_all {v m : Nat} (hv : v < 2 ^ (8 * m)) : beVal (beL v m m) = v := by
  rw [beVal_be v m hv m (Nat.le_refl _), Nat.sub_self]
  simp
/-- A number laid behind bytes. -/
def backS (b : ByteArray) (u m : Nat) : ByteArray := bs (b.data.toList ++ beL u m m)
theorem backS_size (b : ByteArray) (u m : Nat) : (backS b u m).size = b.size + m := by rw [backS, bs_size, List.length_append, beL_len]; simp
theorem backS_front (b : ByteArray) (u m : Nat) : (backS b u m).extract 0 b.size = b := take_front b _
theorem backS_seg {b : ByteArray} {u m : Nat} (hu : u < 2 ^ (8 * m)) : segV (backS b u m) b.size m = u := by
  rw [segV, backS, bs_toList, List.drop_left' (by simp), List.take_of_length_le (by rw [beL_len]; exact Nat.le_refl _), beVal_all hu]
theorem backS_take {b : ByteArray} {u m : Nat} (hm : m = 1 ∨ m = 2 ∨ m = 4 ∨ m = 8) (hu : u < 2 ^ (8 * m)) : takeV (backS b u m) (b.size : Int) (m : Int) = u ∧ takeE (backS b u m) (b.size : Int) (m : Int) = 0 := by
  have h1 : (m : Int) = 1 ∨ (m : Int) = 2 ∨ (m : Int) = 4 ∨ (m : Int) = 8 := by omega
  have h2 : (0 : Int) ≤ (b.size : Int) ∧ (b.size : Int) + (m : Int) ≤ ((backS b u m).size : Int) := by rw [backS_size]; omega
  rw [takeV, takeE, if_pos ⟨h1, h2⟩, if_pos h1, if_pos h2]
  exact ⟨backS_seg hu, rfl⟩

/-! ### Numbers in groups -/
theorem tv_uvar : ∀ (f i acc n : Nat) (rest : List UInt8), i + f = 10 → n * 128 ^ i < 18446744073709551616 → (0 < i → 0 < n) →
    tv f i acc (uvarL n ++ rest) = some (acc + n * 128 ^ i, i + (uvarL n).length) := by
  intro f
  induction f with
  | zero =>
    intro i acc n rest hi hn h0
    obtain rfl : i = 10 := by omega
    have : 1 * 128 ^ 10 ≤ n * 128 ^ 10 := Nat.mul_le_mul_right _ (h0 (by omega))
    exact absurd (Nat.lt_of_le_of_lt this hn) (by decide)
  | succ f ih =>
    intro i acc n rest hi hn h0
    have h9 : ∀ c, 2 ≤ c → i = 9 → ¬ (c * 128 ^ i < 18446744073709551616) := by
      intro c hc h hlt
      subst h
      have : 2 * 128 ^ 9 ≤ c * 128 ^ 9 := Nat.mul_le_mul_right _ hc
      exact absurd (Nat.lt_of_le_of_lt this hlt) (by decide)
    by_cases hs : n < 128
    · have e : (toU8 n).toNat = n := by rw [toU8_toNat]; omega
      rw [uvarL_last hs]
      simp only [List.cons_append, List.nil_append, tv, e]
      rw [if_neg (fun h => h9 n h.2 h.1 hn), if_pos hs, if_neg (fun h => by have := h0 h.2; omega)]
      rfl
    · have e : (toU8 (n % 128 + 128)).toNat = n % 128 + 128 := by rw [toU8_toNat]; omega
      have hi9 : i ≠ 9 := fun h => h9 n (by omega) h hn
      have hq : n * 128 ^ i = n % 128 * 128 ^ i + n / 128 * 128 ^ (i + 1) := by
        rw [Nat.pow_succ, Nat.mul_comm (128 ^ i) 128, ← Nat.mul_assoc, ← Nat.add_mul]
        congr 1
        omega
      rw [uvarL_more hs]
      simp only [List.cons_append, tv, e]
      rw [if_neg (fun h => hi9 h.1), if_neg (by omega), ih (i + 1) _ (n / 128) rest (by omega) (by omega) (fun _ => by omega), hq, List.length_cons, show (n % 128 + 128) % 128 = n % 128 from by omega]
      congr 2
      · omega
      · omega
/-- A number laid in groups behind bytes, and one byte more. -/
def backT (b : ByteArray) (v : Nat) : ByteArray := bs (b.data.toList ++ uvarL v)
theorem backT_size (b : ByteArray) (v : Nat) : (backT b v).size = b.size + (uvarL v).length := by rw [backT, bs_size, List.length_append]; simp
theorem backT_front (b : ByteArray) (v : Nat) : (backT b v).extract 0 b.size = b := take_front b _
theorem backT_take {b : ByteArray} {v : Nat} (hv : v < 18446744073709551616) (hb : b.size ≤ 1048576) :
    tvV (backT b v ++ ⟨#[255]⟩) (b.size : Int) = v ∧ tvN (backT b v ++ ⟨#[255]⟩) (b.size : Int) = ((backT b v).size : Int) ∧ tvE (backT b v ++ ⟨#[255]⟩) (b.size : Int) = 0 := by
  have hd : (backT b v ++ ⟨#[255]⟩ : ByteArray).data.toList = b.data.toList ++ (uvarL v ++ [255]) := by
    simp [backT, bs, ByteArray.data_append]
  have hlen : (backT b v ++ ⟨#[255]⟩ : ByteArray).size = b.size + (uvarL v).length + 1 := by
    rw [ByteArray.size_append, backT_size]
    rfl
  have h : tvOf (backT b v ++ ⟨#[255]⟩) (b.size : Int) = some (v, (uvarL v).length) := by
    rw [tvOf_in (by omega), hd, List.drop_left' (by simp), tv_uvar 10 0 0 v [255] rfl (by simpa using hv) (fun h => absurd h (Nat.lt_irrefl 0))]
    simp
  obtain ⟨h1, h2, h3⟩ := tv_some h
  exact ⟨h1, by rw [h2, backT_size]; simp, h3⟩

/-! ### Sealed bytes -/
theorem seal_front (b : ByteArray) : (sealB b).extract 0 b.size = b := take_front b _
theorem two_last (l : List UInt8) (x y : UInt8) : (l ++ [x, y]).getD l.length 0 = x ∧ (l ++ [x, y]).getD (l.length + 1) 0 = y := by
  constructor <;> simp [List.getD_eq_getElem?_getD, List.getElem?_append]
theorem seal_last (b : ByteArray) : lastTwo (sealB b) = sumB b := by
  have hs := sumB_lt b
  have h0 : (sealB b).data.toList = b.data.toList ++ [toU8 (sumB b / 256), toU8 (sumB b)] := by rw [sealB, bs_toList, beL_two]
  have hl : b.data.toList.length = b.size := by simp
  unfold lastTwo
  rw [sealB_size, h0, show b.size + 2 - 2 = b.data.toList.length from by omega, show b.size + 2 - 1 = b.data.toList.length + 1 from by omega]
  rw [(two_last _ _ _).1, (two_last _ _ _).2, toU8_toNat, toU8_toNat]
  omega
theorem open_seal (b : ByteArray) : openS (sealB b) = b ∧ openE (sealB b) = 0 := by
  have h := (open_cases (sealB_size b)).1
  rw [seal_front] at h
  exact h (seal_last b).symm

/-! ### Digits -/
theorem unhex_hex (b : ByteArray) : unhS (bs (hexG b.data.toList)) = b ∧ unhE (bs (hexG b.data.toList)) = 0 := by
  unfold unhS unhE
  rw [bs_toList, unhG_hexG]
  exact ⟨bs_of b, rfl⟩

end Go.Proofs.Ytibicjcnfdhffaa
