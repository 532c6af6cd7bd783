import Derived.Test.YtickjmkkgcfkhaaWireG2
import Derived.Test.YtickjmkkgcfkhaaMsR
/- Sealed bytes, plain. No program is in sight. -/
set_option linter.unusedSimpArgs false
set_option linter.unusedVariables false
namespace Go.Proofs.Ytickjmkkgcfkhaa
open Go.RowKit

theorem data_take (b : ByteArray) (n : Nat) : (b.extract 0 n).data.toList = b.data.toList.take n := by
  rw [ByteArray.data_extract, Array.toList_extract, List.extract]
  simp
theorem bytes_ext {a b : ByteArray} (h : a.data.toList = b.data.toList) : a = b := by
  rw [← bs_of a, ← bs_of b, h]
theorem take_front (b : ByteArray) (l : List UInt8) : (bs (b.data.toList ++ l)).extract 0 b.size = b := by
  apply bytes_ext
  rw [data_take, bs_toList, List.take_left' (by simp)]
theorem seal_front (b : ByteArray) : (sealB b).extract 0 b.size = b := take_front b _
theorem two_last (l : List UInt8) (x y : UInt8) : (l ++ [x, y]).getD l.length 0 = x ∧ (l ++ [x, y]).getD (l.length + 1) 0 = y := by
  constructor <;> simp [List.getD_eq_getElem?_getD, List.getElem?_append]
theorem seal_last (b : ByteArray) : lastTwo (sealB b) = sumB b := by
  have hs := sumB_lt b
  have h0 : (sealB b).data.toList = b.data.toList ++ [toU8 (sumB b / 256), toU8 (sumB b)] := by rw [sealB, bs_toList, beL_two]
  have hl : b.data.toList.length = b.size := by simp
  unfold lastTwo
  rw [sealB_size, h0, show b.size + 2 - 2 = b.data.toList.length from by omega, show b.size + 2 - 1 = b.data.toList.length + 1 from by omega]
  rw [(two_last _ _ _).1, (two_last _ _ _).2, toU8_toNat, toU8_toNat]
  omega
theorem open_seal (b : ByteArray) : openS (sealB b) = b ∧ openE (sealB b) = 0 := by
  have h := (open_cases (sealB_size b)).1
  rw [seal_front] at h
  exact h (seal_last b).symm

end Go.Proofs.Ytickjmkkgcfkhaa

/- Plain mathematics of a burst: what turning bits of the bytes does to their sum. No program is in sight. -/
set_option linter.unusedSimpArgs false
set_option linter.unusedVariables false
set_option maxRecDepth 100000
namespace Go.Proofs.Ytickjmkkgcfkhaa
open Go.RowKit

/-! ### One step is linear, and only 0 comes to 0 -/
theorem mul_xor (x y : Nat) (hx : x < 2) (hy : y < 2) : (x ^^^ y) * 4129 = (x * 4129) ^^^ (y * 4129) := by
  match x, y, hx, hy with
  | 0, 0, _, _ | 0, 1, _, _ | 1, 0, _, _ | 1, 1, _, _ => decide
theorem xor_div (a b : Nat) : (a ^^^ b) / 32768 = (a / 32768) ^^^ (b / 32768) := by
  rw [show (32768 : Nat) = 2 ^ 15 from rfl, Nat.xor_div_two_pow]
theorem xor_dbl (a b : Nat) : (a ^^^ b) * 2 % 65536 = (a * 2 % 65536) ^^^ (b * 2 % 65536) := by
  have h1 : (a ^^^ b) * 2 = (a * 2) ^^^ (b * 2) := by
    have := Nat.shiftLeft_xor_distrib (a := a) (b := b) (i := 1)
    simpa [Nat.shiftLeft_eq] using this
  rw [h1, show (65536 : Nat) = 2 ^ 16 from rfl, Nat.xor_mod_two_pow]
theorem xor_swap (a b c d : Nat) : (a ^^^ b) ^^^ (c ^^^ d) = (a ^^^ c) ^^^ (b ^^^ d) := by
  rw [Nat.xor_assoc, Nat.xor_assoc, ← Nat.xor_assoc b c d, Nat.xor_comm b c, Nat.xor_assoc c b d]
theorem zN_xor {a b : Nat} (ha : a < 65536) (hb : b < 65536) : zN (a ^^^ b) = zN a ^^^ zN b := by
  unfold zN
  rw [xor_dbl, xor_div, mul_xor _ _ (by omega) (by omega), xor_swap]
theorem zK_xor {a b : Nat} (ha : a < 65536) (hb : b < 65536) : ∀ k, zK k (a ^^^ b) = zK k a ^^^ zK k b
  | 0 => rfl
  | k + 1 => by
    show zN (zK k (a ^^^ b)) = zN (zK k a) ^^^ zN (zK k b)
    rw [zK_xor ha hb k, zN_xor (zK_lt ha k) (zK_lt hb k)]
theorem zK_zero : ∀ k, zK k 0 = 0
  | 0 => rfl
  | k + 1 => by show zN (zK k 0) = 0; rw [zK_zero k]; rfl
theorem zK_add (s : Nat) : ∀ j k, zK (j + k) s = zK j (zK k s)
  | 0, k => by rw [Nat.zero_add]; rfl
  | j + 1, k => by rw [show j + 1 + k = (j + k) + 1 from by omega]; show zN (zK (j + k) s) = zN (zK j (zK k s)); rw [zK_add s j k]
theorem xor_eq_zero {a b : Nat} (h : a ^^^ b = 0) : a = b := by
  have h2 : (a ^^^ b) ^^^ b = 0 ^^^ b := by rw [h]
  rwa [Nat.xor_assoc, Nat.xor_self, Nat.xor_zero, Nat.zero_xor] at h2
theorem zN_inj {s : Nat} (hs : s < 65536) (h : zN s = 0) : s = 0 := by
  unfold zN at h
  have h1 : s * 2 % 65536 = s / 32768 * 4129 := xor_eq_zero h
  have h2 : s / 32768 = 0 ∨ s / 32768 = 1 := by clear h h1; omega
  rcases h2 with h2 | h2
  · rw [h2] at h1; clear h; omega
  · rw [h2] at h1; clear h; omega
theorem zK_inj {s : Nat} (hs : s < 65536) : ∀ k, zK k s = 0 → s = 0
  | 0, h => h
  | k + 1, h => zK_inj hs k (zN_inj (zK_lt hs k) h)

/-! ### A byte turned -/
theorem crcB_turn {s t : Nat} (hs : s < 65536) (ht : t < 65536) (b : UInt8) : crcB (s ^^^ t) b = crcB s b ^^^ zK 8 t := by
  unfold crcB
  rw [Nat.xor_assoc, Nat.xor_comm t, ← Nat.xor_assoc, zK_xor (start_lt hs b) ht]
theorem crcN_turn : ∀ (l : List UInt8) {s t : Nat}, s < 65536 → t < 65536 → crcN (s ^^^ t) l = crcN s l ^^^ zK (8 * l.length) t
  | [], _, _, _, _ => rfl
  | b :: l, s, t, hs, ht => by
    show crcN (crcB (s ^^^ t) b) l = crcN (crcB s b) l ^^^ _
    rw [crcB_turn hs ht, crcN_turn l (crcB_lt hs b) (zK_lt ht 8), ← zK_add, List.length_cons]
    congr 2
theorem xor_mul (x m : Nat) : (x ^^^ m) * 256 = (x * 256) ^^^ (m * 256) := by
  have := Nat.shiftLeft_xor_distrib (a := x) (b := m) (i := 8)
  simpa [Nat.shiftLeft_eq] using this
theorem crcB_flip {s : Nat} (hs : s < 65536) (b m : UInt8) : crcB s (b ^^^ m) = crcB s b ^^^ zK 8 (m.toNat * 256) := by
  have hm := m.toNat_lt
  unfold crcB
  rw [UInt8.toNat_xor, xor_mul, ← Nat.xor_assoc, zK_xor (start_lt hs b) (by omega)]
/-- The bit r of a byte, the highest first. -/
def bitAt (r : Nat) : UInt8 := toU8 (128 / 2 ^ r)
theorem bit_steps : ∀ r, r < 8 → zK 8 ((bitAt r).toNat * 256) = zK (8 - r) 32768 := by decide +kernel
/-- Bit p of the bytes turned. -/
def flip (l : List UInt8) (p : Nat) : List UInt8 := l.set (p / 8) (l.getD (p / 8) 0 ^^^ bitAt (p % 8))
theorem flip_len (l : List UInt8) (p : Nat) : (flip l p).length = l.length := by simp [flip]
theorem crc_flip {s : Nat} (hs : s < 65536) (l : List UInt8) (p : Nat) (hp : p < 8 * l.length) : crcN s (flip l p) = crcN s l ^^^ zK (8 * l.length - p) 32768 := by
  have hj : p / 8 < l.length := by omega
  have hg : l.getD (p / 8) 0 = l[p / 8] := by rw [List.getD_eq_getElem?_getD, List.getElem?_eq_getElem hj]; rfl
  have hset : flip l p = l.take (p / 8) ++ (l[p / 8] ^^^ bitAt (p % 8)) :: l.drop (p / 8 + 1) := by
    rw [flip, hg, List.set_eq_take_append_cons_drop, if_pos hj]
  have hl : l = l.take (p / 8) ++ l[p / 8] :: l.drop (p / 8 + 1) := by rw [← List.drop_eq_getElem_cons hj, List.take_append_drop]
  have h1 : crcN s (flip l p) = crcN (crcB (crcN s (l.take (p / 8))) (l[p / 8] ^^^ bitAt (p % 8))) (l.drop (p / 8 + 1)) := by rw [hset, crcN_append]; rfl
  have h2 : crcN s l = crcN (crcB (crcN s (l.take (p / 8))) l[p / 8]) (l.drop (p / 8 + 1)) := by
    conv => lhs; rw [hl, crcN_append]
    rfl
  have ht := crcN_lt (l.take (p / 8)) hs
  have hm := (bitAt (p % 8)).toNat_lt
  rw [h1, h2, crcB_flip ht, crcN_turn _ (crcB_lt ht _) (zK_lt (by omega) 8), List.length_drop]
  congr 1
  rw [bit_steps _ (by omega), ← zK_add]
  congr 1
  omega

/-! ### The burst -/
/-- The bits of 'turn' below i, the lowest at the top. -/
def turned (turn : Nat) : Nat → Nat
  | 0 => 0
  | i + 1 => turned turn i ^^^ (if turn / 2 ^ i % 2 = 1 then 2 ^ (15 - i) else 0)
theorem one_steps : ∀ i, i < 16 → zK i (2 ^ (15 - i)) = 32768 := by decide +kernel
theorem pow_lt16 {i : Nat} : 2 ^ (15 - i) < 65536 := Nat.lt_of_le_of_lt (Nat.pow_le_pow_right (by decide) (Nat.sub_le 15 i)) (by decide)
theorem turned_lt (turn : Nat) : ∀ i, turned turn i < 65536
  | 0 => by show 0 < 65536; decide
  | i + 1 => by
    have := turned_lt turn i
    rw [turned]
    split
    · exact xor_lt16 this pow_lt16
    · simpa using this
/-- A multiple of 2^(16 - i), for the bits below i. -/
theorem turned_low (turn : Nat) : ∀ i, i ≤ 16 → turned turn i % 2 ^ (16 - i) = 0
  | 0, _ => by rfl
  | i + 1, hi => by
    have h0 := turned_low turn i (by omega)
    have e : 16 - i = (15 - i) + 1 := by omega
    have e2 : 16 - (i + 1) = 15 - i := by omega
    have h1 : turned turn i % 2 ^ (15 - i) = 0 := by
      rw [e, Nat.pow_succ] at h0
      exact Nat.mod_eq_zero_of_dvd (Nat.dvd_trans (Nat.dvd_mul_right _ 2) (Nat.dvd_of_mod_eq_zero h0))
    rw [turned, e2, Nat.xor_mod_two_pow, h1]
    split
    · rw [Nat.mod_self]; rfl
    · rw [Nat.zero_mod]; rfl
theorem turned_ne {turn i : Nat} (hi : i < 16) (h : turn / 2 ^ i % 2 = 1) : turned turn (i + 1) ≠ 0 := by
  rw [turned, if_pos h]
  intro h0
  have h1 := xor_eq_zero h0
  have h2 := turned_low turn i (by omega)
  rw [h1, show 16 - i = (15 - i) + 1 from by omega, Nat.pow_succ] at h2
  have h3 : 0 < 2 ^ (15 - i) := Nat.pow_pos (by decide)
  rw [Nat.mod_eq_of_lt (by omega)] at h2
  omega
theorem turned_same {turn i : Nat} (h : ¬ turn / 2 ^ i % 2 = 1) : turned turn (i + 1) = turned turn i := by
  rw [turned, if_neg h, Nat.xor_zero]
/-- What has been turned stays. -/
theorem turned_stays {turn i : Nat} (hi : i < 16) (h : turned turn i ≠ 0) : turned turn (i + 1) ≠ 0 := by
  by_cases hb : turn / 2 ^ i % 2 = 1
  · exact turned_ne hi hb
  · rw [turned_same hb]; exact h
/-- The bytes after i of the burst's bits: their sum is as far from 0 as those bits say. -/
def Burst (n a turn i : Nat) (l l0 : List UInt8) : Prop := l.length = n ∧ crcN 65535 l = zK (8 * n - a) (turned turn i) ∧ (turned turn i = 0 → l = l0)
theorem burst_turn {n a turn i : Nat} {l l0 : List UInt8} (h : Burst n a turn i l l0) (hi : i < 16) (hp : a + i < 8 * n) (hb : turn / 2 ^ i % 2 = 1) : Burst n a turn (i + 1) (flip l (a + i)) l0 := by
  obtain ⟨h1, h2, _⟩ := h
  refine ⟨by rw [flip_len, h1], ?_, fun h0 => absurd h0 (turned_ne hi hb)⟩
  rw [crc_flip (by decide) l (a + i) (by omega), h2, turned, if_pos hb, zK_xor (turned_lt turn i) pow_lt16, h1]
  congr 1
  rw [show 8 * n - a = (8 * n - (a + i)) + i from by omega, zK_add, one_steps i hi]
theorem burst_skip {n a turn i : Nat} {l l0 : List UInt8} (h : Burst n a turn i l l0) (hb : ¬ turn / 2 ^ i % 2 = 1) : Burst n a turn (i + 1) l l0 := by
  unfold Burst
  rw [turned_same hb]
  exact h
/-- The bytes with their sum behind have the sum 0. -/
theorem crc_two {s : Nat} (hs : s < 65536) (x y : UInt8) : crcN s [x, y] = zK 16 (s ^^^ (x.toNat * 256 + y.toNat)) := by
  have hx := x.toNat_lt
  have hy := y.toNat_lt
  have e : x.toNat * 256 + y.toNat = (x.toNat * 256) ^^^ y.toNat := by
    rw [← nat_join 8 (x.toNat * 256) y.toNat (by omega) (by omega)]
    apply Nat.eq_of_testBit_eq
    intro i
    rw [Nat.testBit_or, Nat.testBit_xor]
    by_cases h : i < 8
    · have : (x.toNat * 256).testBit i = false := by
        rw [show x.toNat * 256 = 2 ^ 8 * x.toNat from by omega, Nat.testBit_two_pow_mul]; simp; omega
      rw [this]; simp
    · have : y.toNat.testBit i = false := Nat.testBit_lt_two_pow (Nat.lt_of_lt_of_le hy (Nat.pow_le_pow_right (by decide) (show 8 ≤ i by omega)))
      rw [this]; simp
  show crcB (crcB s x) y = _
  have h8 : ∀ t, t < 256 → zK 8 t = t * 256 := by decide +kernel
  rw [e, ← Nat.xor_assoc, show (16 : Nat) = 8 + 8 from rfl, zK_add, zK_xor (start_lt hs x) (by omega), h8 _ hy]
  rfl
theorem crc_all {b : ByteArray} {n : Nat} (hn : b.size = n + 2) : (crcN 65535 b.data.toList = 0 ↔ sumB (b.extract 0 n) = lastTwo b) ∧ sumB (b.extract 0 n) < 65536 := by
  have hl : b.data.toList.length = n + 2 := by simpa using hn
  have h0 := list_two hl
  have hs := sumB_lt (b.extract 0 n)
  have e : lastTwo b = (b.data.toList.getD n 0).toNat * 256 + (b.data.toList.getD (n + 1) 0).toNat := by unfold lastTwo; rw [hn]; rfl
  have h1 := (b.data.toList.getD n 0).toNat_lt
  have h2 := (b.data.toList.getD (n + 1) 0).toNat_lt
  have hd : sumB (b.extract 0 n) = crcN 65535 (b.data.toList.take n) := by rw [sumB, data_take]
  refine ⟨?_, hs⟩
  rw [e, hd]
  rw [hd] at hs
  conv => lhs; lhs; rw [h0, crcN_append, crc_two hs]
  constructor
  · intro h
    exact xor_eq_zero (zK_inj (xor_lt16 hs (by omega)) 16 h)
  · intro h
    rw [h, Nat.xor_self, zK_zero]
theorem crc_seal (b : ByteArray) : crcN 65535 (sealB b).data.toList = 0 := by
  refine ((crc_all (sealB_size b)).1).2 ?_
  rw [seal_front, seal_last]
theorem burst_start (b : ByteArray) (a turn : Nat) : Burst (b.size + 2) a turn 0 (sealB b).data.toList (sealB b).data.toList := by
  refine ⟨by have := sealB_size b; simpa using this, ?_, fun _ => rfl⟩
  rw [crc_seal]
  show 0 = zK _ 0
  rw [zK_zero]
/-- A burst is found. -/
theorem burst_found {b : ByteArray} {n a turn i : Nat} {l l0 : List UInt8} (hn : n = b.size + 2) (h : Burst n a turn i l l0) (hne : turned turn i ≠ 0) : openS (bs l) = ⟨#[]⟩ ∧ openE (bs l) = 5 := by
  have hsz : (bs l).size = b.size + 2 := by rw [bs_size, h.1, hn]
  refine (open_cases hsz).2 fun hz => ?_
  have h1 := ((crc_all hsz).1).2 hz
  rw [bs_toList, h.2.1] at h1
  exact hne (zK_inj (turned_lt turn i) _ h1)
/-- .. and where nothing is turned all comes back. -/
theorem burst_none {b : ByteArray} {n a turn i : Nat} {l : List UInt8} (h : Burst n a turn i l (sealB b).data.toList) (h0 : turned turn i = 0) : openS (bs l) = b ∧ openE (bs l) = 0 := by
  rw [h.2.2 h0, bs_of]
  exact open_seal b

end Go.Proofs.Ytickjmkkgcfkhaa

/- One byte turned is found. No program is in sight. -/
set_option linter.unusedSimpArgs false
set_option linter.unusedVariables false
set_option maxRecDepth 100000
namespace Go.Proofs.Ytickjmkkgcfkhaa

def turnB (E : ByteArray) (i : Nat) (b : UInt8) : ByteArray := bs (E.data.toList.set i (E.data.toList.getD i 0 ^^^ b))
theorem turnB_size (E : ByteArray) (i : Nat) (b : UInt8) : (turnB E i b).size = E.size := by rw [turnB, bs_size, List.length_set, size_eq]
theorem turn_found {b : ByteArray} {i : Nat} {x : UInt8} (hi : i < (sealB b).size) (hx : x ≠ 0) : openE (turnB (sealB b) i x) = 5 := by
  have hsz : (turnB (sealB b) i x).size = b.size + 2 := by rw [turnB_size, sealB_size]
  refine ((open_cases hsz).2 fun hz => ?_).2
  have h1 := ((crc_all hsz).1).2 hz
  obtain ⟨l, hl⟩ : ∃ l, l = (sealB b).data.toList := ⟨_, rfl⟩
  have hc : crcN 65535 l = 0 := by rw [hl]; exact crc_seal b
  unfold turnB at h1
  rw [bs_toList, ← hl] at h1
  have hil : i < l.length := by rw [hl, size_eq]; exact hi
  have hg : l.getD i 0 = l[i] := by rw [List.getD_eq_getElem?_getD, List.getElem?_eq_getElem hil]; rfl
  rw [hg] at h1
  have hset : l.set i (l[i] ^^^ x) = l.take i ++ (l[i] ^^^ x) :: l.drop (i + 1) := List.set_eq_take_append_cons_drop.trans (if_pos hil)
  have hl2 : l = l.take i ++ l[i] :: l.drop (i + 1) := by
    conv => lhs; rw [← List.take_append_drop i l, List.drop_eq_getElem_cons hil]
  have e1 : crcN 65535 (l.set i (l[i] ^^^ x)) = crcN (crcB (crcN 65535 (l.take i)) (l[i] ^^^ x)) (l.drop (i + 1)) := by rw [hset, crcN_append]; rfl
  have e2 : crcN 65535 l = crcN (crcB (crcN 65535 (l.take i)) l[i]) (l.drop (i + 1)) := by
    conv => lhs; rw [hl2, crcN_append]
    rfl
  have ht := crcN_lt (l.take i) (s := 65535) (by decide)
  have hm := x.toNat_lt
  rw [e1, crcB_flip ht, crcN_turn _ (crcB_lt ht _) (zK_lt (by omega) 8), ← e2, hc, Nat.zero_xor] at h1
  have h2 := zK_inj (zK_lt (by omega) 8) _ h1
  have h3 := zK_inj (by omega) 8 h2
  exact hx (UInt8.toNat_inj.1 (by rw [show (0 : UInt8).toNat = 0 from rfl]; omega))
theorem dec_turned {m : Ms} (hc : m.chk = true) {i : Nat} {x : UInt8} (hi : i < m.enc.size) (hx : x ≠ 0) : decME (turnB m.enc i x) = 5 ∧ decM (turnB m.enc i x) = Ms.zero := by
  have hs := menc_size hc
  have ht := turnB_size m.enc i x
  have ho : openE (turnB m.enc i x) = 5 := turn_found hi hx
  have hd : decME (turnB m.enc i x) = 5 := by
    unfold decME
    rw [if_neg (by omega), if_neg (by omega), ho]
    rfl
  exact ⟨hd, by unfold decM; rw [hd]; rfl⟩

end Go.Proofs.Ytickjmkkgcfkhaa
