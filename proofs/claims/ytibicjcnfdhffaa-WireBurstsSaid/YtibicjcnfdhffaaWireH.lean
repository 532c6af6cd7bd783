/- Plain mathematics of digits: bytes told as two digits each, digits read. No program is in sight. -/
import Derived.Test.YtibicjcnfdhffaaBase
import Derived.Lib.Bytealg
set_option linter.unusedSimpArgs false
set_option linter.unusedVariables false
namespace Go.Proofs.Ytibicjcnfdhffaa
open Go.RowKit

/-- The sixteen digits. -/
def hexL : List UInt8 := [48, 49, 50, 51, 52, 53, 54, 55, 56, 57, 97, 98, 99, 100, 101, 102]
/-- The digit of a number below 16. -/
def digT (n : Nat) : UInt8 := hexL.getD n 0
/-- The worth of a digit; 16: none. -/
def nib (c : UInt8) : Nat := hexL.idxOf c
theorem nib_le (c : UInt8) : nib c ≤ 16 := List.idxOf_le_length
theorem nib_of : ∀ n, n < 16 → nib (digT n) = n := by decide
theorem index_of (l : List UInt8) (c : UInt8) : Lib.indexByte l c = if l.idxOf c < l.length then (l.idxOf c : Int) else -1 := by
  induction l with
  | nil => simp [Lib.indexByte]
  | cons b l ih =>
    by_cases hbc : b = c
    · subst hbc; simp [Lib.indexByte]
    · have h1 : (b == c) = false := by simp [hbc]
      simp only [Lib.indexByte, h1, ih, List.idxOf_cons, cond_false, List.length_cons]
      by_cases h : l.idxOf c < l.length
      · have h2 : ((l.idxOf c : Int) == -1) = false := by rw [beq_eq_false_iff_ne]; omega
        have h3 : l.idxOf c + 1 < l.length + 1 := by omega
        simp [h, h2, h3]
      · have h3 : ¬ (l.idxOf c + 1 < l.length + 1) := by omega
        simp [h, h3]
/-- What the program's search answers. -/
theorem index_nib (c : UInt8) : Lib.indexByte hexL c = if nib c < 16 then (nib c : Int) else -1 := index_of hexL c
theorem nib_at {c : UInt8} {k : Nat} (hk : k < 16) (h : hexL.getD k 0 = c) : nib c = k := by
  subst h; exact nib_of k hk
theorem nib_none {c : UInt8} (h : ∀ k, k < 16 → hexL.getD k 0 ≠ c) : nib c = 16 := by
  have : hexL.idxOf c = hexL.length := by
    refine List.idxOf_eq_length fun hm => ?_
    obtain ⟨k, hk, he⟩ := List.getElem_of_mem hm
    exact h k hk (by simp [List.getD_eq_getElem?_getD, List.getElem?_eq_getElem hk, he])
  exact this

/-- Bytes as digits. -/
def hexG : List UInt8 → List UInt8
  | [] => []
  | b :: l => digT (b.toNat / 16) :: digT (b.toNat % 16) :: hexG l
theorem hexG_append : ∀ a b : List UInt8, hexG (a ++ b) = hexG a ++ hexG b
  | [], b => rfl
  | x :: a, b => by simp [hexG, hexG_append a b]
theorem hexG_len : ∀ a : List UInt8, (hexG a).length = 2 * a.length
  | [] => rfl
  | x :: a => by simp [hexG, hexG_len a]; omega
theorem hexG_take {b : ByteArray} {k : Nat} (h : k < b.size) : hexG (b.data.toList.take (k + 1)) = hexG (b.data.toList.take k) ++ [digT (b[k].toNat / 16), digT (b[k].toNat % 16)] := by
  rw [List.take_succ_eq_append_getElem (by simpa using h), hexG_append]; rfl
theorem hexG_takelen {b : ByteArray} {k : Nat} (h : k ≤ b.size) : (hexG (b.data.toList.take k)).length = 2 * k := by
  rw [hexG_len, List.length_take, Nat.min_eq_left (by simpa using h)]

/-- Digits as bytes. -/
def unhG : List UInt8 → Option (List UInt8)
  | [] => some []
  | [_] => none
  | a :: b :: r => if nib a < 16 ∧ nib b < 16 then (unhG r).map (toU8 (nib a * 16 + nib b) :: ·) else none
theorem unhG_odd : ∀ (n : Nat) (l : List UInt8), l.length = 2 * n + 1 → unhG l = none
  | 0, [_], _ => rfl
  | n + 1, a :: b :: r, h => by
    simp only [unhG]
    rw [unhG_odd n r (by simp at h; omega)]
    simp
theorem unhG_hexG : ∀ l : List UInt8, unhG (hexG l) = some l
  | [] => rfl
  | x :: l => by
    have hx := x.toNat_lt
    simp only [hexG, unhG]
    rw [nib_of _ (by omega), nib_of _ (by omega), unhG_hexG l, if_pos (by omega), show x.toNat / 16 * 16 + x.toNat % 16 = x.toNat from by omega, toU8_of]
    rfl
/-- What 'Unhex' answers: the bytes, the error's number. -/
def unhS (s : ByteArray) : ByteArray := match unhG s.data.toList with | some r => bs r | none => bs []
def unhE (s : ByteArray) : Int := match unhG s.data.toList with | some _ => 0 | none => 4
theorem unh_odd {s : ByteArray} (h : s.size % 2 ≠ 0) : unhS s = bs [] ∧ unhE s = 4 := by
  have := unhG_odd (s.size / 2) s.data.toList (by simp; omega)
  unfold unhS unhE
  rw [this]
  exact ⟨rfl, rfl⟩
/-- A pair is read: what was read ahead, what is read of the rest. -/
def unhP (pre rest : List UInt8) : Option (List UInt8) := (unhG rest).map (pre ++ ·)
theorem unh_step {s : ByteArray} {j : Nat} (hj : j + 1 < s.size) : s.data.toList.drop j = s[j] :: s[j + 1] :: s.data.toList.drop (j + 2) := by
  have h0 : j < s.data.toList.length := by simp; omega
  have h1 : j + 1 < s.data.toList.length := by simp; omega
  rw [List.drop_eq_getElem_cons h0, List.drop_eq_getElem_cons h1]
  rfl
theorem unh_good {s : ByteArray} {j : Nat} {pre : List UInt8} (hj : j + 1 < s.size) (h : unhP pre (s.data.toList.drop j) = unhG s.data.toList) (h1 : nib s[j] < 16) (h2 : nib s[j + 1] < 16) :
    unhP (pre ++ [toU8 (nib s[j] * 16 + nib s[j + 1])]) (s.data.toList.drop (j + 2)) = unhG s.data.toList := by
  rw [← h, unh_step hj]
  simp only [unhP, unhG, if_pos (And.intro h1 h2), Option.map_map]
  congr 1
  funext r
  simp
theorem unh_bad {s : ByteArray} {j : Nat} {pre : List UInt8} (hj : j + 1 < s.size) (h : unhP pre (s.data.toList.drop j) = unhG s.data.toList) (h1 : ¬ (nib s[j] < 16 ∧ nib s[j + 1] < 16)) :
    unhS s = bs [] ∧ unhE s = 4 := by
  rw [unh_step hj] at h
  simp only [unhP, unhG, if_neg h1] at h
  unfold unhS unhE
  rw [← h]
  exact ⟨rfl, rfl⟩
theorem unh_end {s : ByteArray} {j : Nat} {pre : List UInt8} (hj : s.size ≤ j) (h : unhP pre (s.data.toList.drop j) = unhG s.data.toList) : unhS s = bs pre ∧ unhE s = 0 := by
  rw [List.drop_of_length_le (by simpa using hj)] at h
  simp only [unhP, unhG, Option.map_some, List.append_nil] at h
  unfold unhS unhE
  rw [← h]
  exact ⟨rfl, rfl⟩
/-- What the program's search answers. -/
def pos (c : UInt8) : Int := if nib c < 16 then (nib c : Int) else -1
theorem pos_yes {c : UInt8} (h : nib c < 16) : pos c = (nib c : Int) := if_pos h
theorem pos_no {c : UInt8} (h : ¬ nib c < 16) : pos c = -1 := if_neg h
theorem pos_eq (c : UInt8) : Lib.indexByte hexL ((c.toNat : Int).toNat.toUInt8) = pos c := by
  rw [show (c.toNat : Int).toNat.toUInt8 = c from by simp, index_nib]
  rfl
theorem or_go : ∀ x, x < 16 → ∀ y, y < 16 → bits .or .i64 ((x : Nat) * 16 : Int) ((y : Nat) : Int) = (x : Int) * 16 + (y : Int) := by decide +kernel

end Go.Proofs.Ytibicjcnfdhffaa
