import Derived.Test.YtickjmkkgcfkhaaGreatBase
import Derived.Test.YtickjmkkgcfkhaaGreatRows
import Derived.Test.YtickjmkkgcfkhaaGreatWireG1
import Derived.Deep.RegionWith
import Derived.Test.YtickjmkkgcfkhaaGreatRegG
/- Plain mathematics of the sum of bytes (16 bits, polynomial 0x1021): the steps over numbers. No program is in sight. -/
set_option linter.unusedSimpArgs false
set_option linter.unusedVariables false
set_option maxRecDepth 100000
namespace Go.Proofs.YtickjmkkgcfkhaaGreat
open Go.RowKit

/-- One bit's step, and k of them. -/
def zN (s : Nat) : Nat := (s * 2 % 65536) ^^^ (s / 32768 * 4129)
def zK : Nat → Nat → Nat
  | 0, s => s
  | k + 1, s => zN (zK k s)
/-- A byte's step; a list's. -/
def crcB (s : Nat) (b : UInt8) : Nat := zK 8 (s ^^^ (b.toNat * 256))
def crcN (s : Nat) (l : List UInt8) : Nat := l.foldl crcB s

theorem xor_lt16 {a b : Nat} (ha : a < 65536) (hb : b < 65536) : a ^^^ b < 65536 := Nat.xor_lt_two_pow (n := 16) ha hb
theorem zN_lt {s : Nat} (h : s < 65536) : zN s < 65536 := xor_lt16 (by omega) (by omega)
theorem zK_lt {s : Nat} (h : s < 65536) : ∀ k, zK k s < 65536
  | 0 => h
  | k + 1 => zN_lt (zK_lt h k)
theorem start_lt {s : Nat} (h : s < 65536) (b : UInt8) : s ^^^ (b.toNat * 256) < 65536 := xor_lt16 h (by have := b.toNat_lt; omega)
theorem crcB_lt {s : Nat} (h : s < 65536) (b : UInt8) : crcB s b < 65536 := zK_lt (start_lt h b) 8
theorem crcN_lt : ∀ (l : List UInt8) {s : Nat}, s < 65536 → crcN s l < 65536
  | [], _, h => h
  | b :: l, _, h => crcN_lt l (crcB_lt h b)
theorem crcN_append (s : Nat) (a b : List UInt8) : crcN s (a ++ b) = crcN (crcN s a) b := List.foldl_append
theorem crcN_snoc (s : Nat) (l : List UInt8) (b : UInt8) : crcN s (l ++ [b]) = crcB (crcN s l) b := by rw [crcN_append]; rfl
theorem crcN_take {s : Nat} {b : ByteArray} {k : Nat} (h : k < b.size) : crcN s (b.data.toList.take (k + 1)) = crcB (crcN s (b.data.toList.take k)) b[k] := by
  rw [List.take_succ_eq_append_getElem (by simpa using h), crcN_snoc]; rfl

/-- The sum of parts. -/
def sumL (ss : List ByteArray) : Nat := ss.foldl (fun s b => crcN s b.data.toList) 65535
theorem sumL_take {ss : List ByteArray} {k : Nat} (h : k < ss.length) : sumL (ss.take (k + 1)) = crcN (sumL (ss.take k)) ss[k].data.toList := by
  unfold sumL
  rw [List.take_succ_eq_append_getElem h, List.foldl_append]
  rfl
theorem foldl_crc_lt : ∀ (ss : List ByteArray) {s : Nat}, s < 65536 → ss.foldl (fun s b => crcN s b.data.toList) s < 65536
  | [], _, h => h
  | b :: l, _, h => foldl_crc_lt l (crcN_lt b.data.toList h)
theorem sumL_lt (ss : List ByteArray) : sumL ss < 65536 := foldl_crc_lt ss (by decide)

theorem data_append (a b : ByteArray) : (a ++ b).data.toList = a.data.toList ++ b.data.toList := by simp [ByteArray.data_append]
theorem sum_parts1 (a b c : ByteArray) : sumL [a ++ b ++ c] = sumL [a, b, c] := by
  simp only [sumL, List.foldl_cons, List.foldl_nil, data_append, crcN_append]
theorem sum_parts2 (a b c : ByteArray) : sumL [a, b ++ c] = sumL [a ++ b, ⟨#[]⟩, c] := by
  simp only [sumL, List.foldl_cons, List.foldl_nil, data_append, crcN_append]
  rfl

/-! The same steps as the walk spells them. -/
theorem wrap16 (n : Int) (h : 0 ≤ n ∧ n < 65536) : IntKind.u16.wrap n = n := IntWalk.u16_in n (by omega)
theorem start_go (t : Nat) (x : UInt8) (ht : t < 65536) : bits .xor .u16 (t : Int) (IntKind.u16.wrap (IntKind.u16.wrap (x.toNat : Int) * 256)) = ((t ^^^ (x.toNat * 256) : Nat) : Int) := by
  have hx := x.toNat_lt
  rw [wrap16 (x.toNat : Int) (by omega), wrap16 _ (by omega), show ((x.toNat : Int) * 256) = ((x.toNat * 256 : Nat) : Int) from by simp, u16_xor_nat _ _ ht (by omega)]
theorem step_go (t : Nat) (ht : t < 65536) : bits .xor .u16 (IntKind.u16.wrap ((t : Int) * 2)) ((t : Int) / 32768 * 4129) = (zN t : Nat) := by
  rw [IntKind.wrap_u16, show ((t : Int) * 2 % 65536) = ((t * 2 % 65536 : Nat) : Int) from by simp, show ((t : Int) / 32768 * 4129) = ((t / 32768 * 4129 : Nat) : Int) from by simp,
    u16_xor_nat _ _ (by omega) (by omega)]
  rfl

theorem start_ref (t : Nat) (x : UInt8) (ht : t < 65536) : bits .xor .u16 (t : Int) ((x.toNat : Int) * 256) = ((t ^^^ (x.toNat * 256) : Nat) : Int) := by
  have hx := x.toNat_lt
  rw [show ((x.toNat : Int) * 256) = ((x.toNat * 256 : Nat) : Int) from by simp, u16_xor_nat _ _ ht (by omega)]
theorem step_high (t : Nat) (ht : t < 65536) (h : 32768 ≤ t) : bits .xor .u16 (IntKind.u16.wrap ((t : Int) * 2)) 4129 = (zN t : Nat) := by
  rw [IntKind.wrap_u16, show ((t : Int) * 2 % 65536) = ((t * 2 % 65536 : Nat) : Int) from by simp, show (4129 : Int) = ((4129 : Nat) : Int) from rfl, u16_xor_nat _ _ (by omega) (by omega)]
  unfold zN
  rw [show t / 32768 = 1 from by omega]
theorem step_low (t : Nat) (h : t < 32768) : IntKind.u16.wrap ((t : Int) * 2) = (zN t : Nat) := by
  rw [wrap16 _ (by omega)]
  unfold zN
  rw [show t / 32768 = 0 from by omega, Nat.mod_eq_of_lt (by omega)]
  simp

end Go.Proofs.YtickjmkkgcfkhaaGreat

/- Contract of wire.more: a sum goes on over bytes. -/
set_option linter.unusedSimpArgs false
set_option linter.unusedVariables false
set_option maxRecDepth 100000
namespace Go.Proofs.YtickjmkkgcfkhaaGreat
open Go.RowKit

set_option maxHeartbeats 800000 in
theorem more_any (s : Nat) (b : ByteArray) (w : World) (hs : s < 65536) (hb : b.size ≤ 1125899906842624) :
    Calls Tryz.prog 41 #[.int .u16 s, .string b] w fun e w' => e = .returned (.int .u16 (crcN s b.data.toList : Nat)) ∧ w = w' := by
  have hS := Lib.hid hs
  clear hs
  go_enter Tryz.func41, Tryz.ntmps41
  go_wp2_with fail
  go_loop [0, 9] (fun x i => ∃ (k t : Nat), k ≤ b.size ∧ i = .int .i64 k ∧ x = .int .u16 t ∧ Hid (t = crcN s (b.data.toList.take k))) (fun _ i => b.size - (intOf i).toNat)
  case atStart => exact ⟨0, s, Nat.zero_le _, rfl, rfl, rfl⟩
  case round =>
    obtain ⟨k, t, hk, rfl, rfl, ht⟩ := hrel
    have ht16 : t < 65536 := by rw [ht.out]; exact crcN_lt _ hS.out
    by_cases hlt : k < b.size
    · go_wp2_with fail
      have h0 := start_lt ht16 b[k]
      go_loop [0, 19] (fun x j => ∃ (i t' : Nat), i ≤ 8 ∧ j = .int .i64 i ∧ x = .int .u16 t' ∧ Hid (t' = zK i (t ^^^ (b[k].toNat * 256)))) (fun _ j => 8 - (intOf j).toNat)
      case atStart => exact ⟨0, _, Nat.zero_le _, rfl, by rw [start_go _ _ ht16]; rfl, rfl⟩
      case round =>
        obtain ⟨i, t', hi, rfl, rfl, ht'⟩ := hrel
        have ht16' : t' < 65536 := by rw [ht'.out]; exact zK_lt h0 i
        by_cases hi8 : i < 8
        · go_wp2_with fail
          go_round
          case rel => exact ⟨i + 1, zN t', by omega, by go_num, by rw [step_go _ ht16'], by rw [ht'.out]; rfl⟩
          case measure => simp [intOf]; omega
        · obtain rfl : i = 8 := by omega
          go_wp2_with fail
          go_round
          case rel => exact ⟨k + 1, t', by omega, by go_num, rfl, by show t' = _; rw [ht'.out, crcN_take hlt, ← ht.out]; rfl⟩
          case measure => simp [intOf]; omega
    · obtain rfl : k = b.size := by omega
      have e : Hid (t = crcN s b.data.toList) := by show t = _; rw [ht.out, List.take_of_length_le (Nat.le_of_eq (by simp))]
      go_wp2_with fail
      go_ret
      exact ⟨by rw [← e.out]; rfl, rfl⟩

end Go.Proofs.YtickjmkkgcfkhaaGreat

/- Contracts of Sum, the program's and the reference's: the sum of all parts. -/
set_option linter.unusedSimpArgs false
set_option linter.unusedVariables false
set_option maxRecDepth 100000
namespace Go.Proofs.YtickjmkkgcfkhaaGreat
open Go.RowKit

set_option maxHeartbeats 400000 in
theorem sum_any (A : Option Addr) (c : Nat) (ss : List ByteArray) (w : World) (hl : ss.length ≤ 140737488355328) (hA : Strs w A ss) (hss : Small ss) :
    Calls Tryz.prog 22 #[.slice A ss.length c] w fun e w' => e = .returned (.int .u16 (sumL ss : Nat)) ∧ w = w' := by
  have hA' := Lib.hid hA
  have hS' := Lib.hid hss
  clear hA hss
  go_enter Tryz.func22, Tryz.ntmps22
  go_wp2_with fail
  go_loop [3, 8] (fun x i => ∃ (k t : Nat), k ≤ ss.length ∧ i = .int .i64 k ∧ x = .int .u16 t ∧ Hid (t = sumL (ss.take k))) (fun _ i => ss.length - (intOf i).toNat)
  case atStart => exact ⟨0, 65535, Nat.zero_le _, rfl, rfl, rfl⟩
  case round =>
    obtain ⟨k, t, hk, rfl, rfl, ht⟩ := hrel
    have ht16 : t < 65536 := by rw [ht.out]; exact sumL_lt _
    by_cases hlt : k < ss.length
    · obtain ⟨ad, hAd, hcell⟩ := hA'.out k hlt
      have hsz := hS'.out ss[k] (List.getElem_mem hlt)
      have e := Lib.hid (sumL_take hlt)
      obtain ⟨s, hs⟩ : ∃ s, s = ss[k] := ⟨_, rfl⟩
      rw [← hs] at hcell hsz e
      clear hs
      subst hAd
      go_wp2_with (go_at_call 41; refine (more_any _ _ _ ht16 hsz).mono ?_; rintro e w' ⟨rfl, rfl⟩)
      go_round
      case rel => exact ⟨k + 1, _, by omega, by go_num, rfl, by show _ = _; rw [e.out, ← ht.out]⟩
      case measure => simp [intOf]; omega
    · obtain rfl : k = ss.length := by omega
      have e : Hid (t = sumL ss) := by show t = _; rw [ht.out, List.take_of_length_le (Nat.le_refl _)]
      go_wp2_with fail
      go_ret
      exact ⟨by rw [← e.out]; rfl, rfl⟩

set_option maxRecDepth 100000 in
set_option maxHeartbeats 1000000 in
theorem rsum_any (A : Option Addr) (c : Nat) (ss : List ByteArray) (w : World) (hl : ss.length ≤ 140737488355328) (hA : Strs w A ss) (hss : Small ss) :
    Calls Tryz.prog 70 #[.slice A ss.length c] w fun e w' => e = .returned (.int .u16 (sumL ss : Nat)) ∧ w = w' := by
  have hA' := Lib.hid hA
  have hS' := Lib.hid hss
  clear hA hss
  go_enter Tryz.func70, Tryz.ntmps70
  go_wp2_with fail
  go_loop [3, 4] (fun x i => ∃ (k t : Nat), k ≤ ss.length ∧ i = .int .i64 k ∧ x = .int .u16 t ∧ Hid (t = sumL (ss.take k))) (fun _ i => ss.length - (intOf i).toNat)
  case atStart => exact ⟨0, 65535, Nat.zero_le _, rfl, rfl, rfl⟩
  case round =>
    obtain ⟨k, t, hk, rfl, rfl, ht⟩ := hrel
    have ht16 : t < 65536 := by rw [ht.out]; exact sumL_lt _
    by_cases hlt : k < ss.length
    · obtain ⟨ad, hAd, hcell⟩ := hA'.out k hlt
      have hsz := hS'.out ss[k] (List.getElem_mem hlt)
      have e := Lib.hid (sumL_take hlt)
      obtain ⟨s, hs⟩ : ∃ s, s = ss[k] := ⟨_, rfl⟩
      rw [← hs] at hcell hsz e
      clear hs
      subst hAd
      go_wp2_with fail
      go_loop [3, 5] (fun x i => ∃ (q t' : Nat), q ≤ s.size ∧ i = .int .i64 q ∧ x = .int .u16 t' ∧ Hid (t' = crcN t (s.data.toList.take q))) (fun _ i => s.size - (intOf i).toNat)
      case atStart => exact ⟨0, t, Nat.zero_le _, rfl, rfl, rfl⟩
      case round =>
        obtain ⟨q, t', hq, rfl, rfl, ht'⟩ := hrel
        have ht16' : t' < 65536 := by rw [ht'.out]; exact crcN_lt _ ht16
        by_cases hqs : q < s.size
        · go_wp2_with fail
          have h0 := start_lt ht16' s[q]
          go_loop [3, 6] (fun x i => ∃ (j t'' : Nat), j ≤ 8 ∧ i = .int .i64 j ∧ x = .int .u16 t'' ∧ Hid (t'' = zK j (t' ^^^ (s[q].toNat * 256)))) (fun _ i => 8 - (intOf i).toNat)
          case atStart => exact ⟨0, _, Nat.zero_le _, rfl, by rw [start_go _ _ ht16']; rfl, rfl⟩
          case round =>
            obtain ⟨j, t'', hj, rfl, rfl, ht''⟩ := hrel
            have ht16'' : t'' < 65536 := by rw [ht''.out]; exact zK_lt h0 j
            by_cases hj8 : j < 8
            · by_cases hh : 32768 ≤ t''
              · have hd : decide ((32768 : Int) ≤ (t'' : Int)) = true := decide_eq_true (by omega)
                have hH := Lib.hid hh
                clear hh
                go_wp2_with fail
                go_round
                case rel => exact ⟨j + 1, zN t'', by omega, by go_num, by rw [step_high _ ht16'' hH.out], by rw [ht''.out]; rfl⟩
                case measure => simp [intOf]; omega
              · have hd : decide ((32768 : Int) ≤ (t'' : Int)) = false := decide_eq_false (by omega)
                have hH := Lib.hid hh
                clear hh
                go_wp2_with fail
                go_round
                case rel => exact ⟨j + 1, zN t'', by omega, by go_num, by rw [step_low _ (Nat.lt_of_not_le hH.out)], by rw [ht''.out]; rfl⟩
                case measure => simp [intOf]; omega
            · obtain rfl : j = 8 := by omega
              go_wp2_with fail
              go_round
              case rel => exact ⟨q + 1, t'', by omega, by go_num, rfl, by show t'' = _; rw [ht''.out, crcN_take hqs, ← ht'.out]; rfl⟩
              case measure => simp [intOf]; omega
        · obtain rfl : q = s.size := by omega
          go_wp2_with fail
          go_round
          case rel => exact ⟨k + 1, t', by omega, by go_num, rfl, by show t' = _; rw [e.out, ← ht.out, ht'.out, List.take_of_length_le (Nat.le_of_eq (by simp))]⟩
          case measure => simp [intOf]; omega
    · obtain rfl : k = ss.length := by omega
      have e : Hid (t = sumL ss) := by show t = _; rw [ht.out, List.take_of_length_le (Nat.le_refl _)]
      go_wp2_with fail
      go_ret
      exact ⟨by rw [← e.out]; rfl, rfl⟩

/-- 'Sum' of a literal's parts. -/
theorem sum_lit (w W : World) (k : Nat) (ss : List ByteArray) (v : Value) (hk : k = w.heap.size) (hv : v = .slice (some ⟨k, 0, none⟩) ss.length ss.length) (hW : W = w.alloc (.cells (ss.map Value.string).toArray 9)) (hl : ss.length ≤ 140737488355328) (hss : Small ss) :
    Calls Tryz.prog 22 #[v] W fun e w' => e = .returned (.int .u16 (sumL ss : Nat)) ∧ W = w' := by
  subst hk; subst hv; subst hW
  exact sum_any _ _ ss _ hl (strs_lit w _ ss) hss
theorem rsum_lit (w W : World) (k : Nat) (ss : List ByteArray) (v : Value) (hk : k = w.heap.size) (hv : v = .slice (some ⟨k, 0, none⟩) ss.length ss.length) (hW : W = w.alloc (.cells (ss.map Value.string).toArray 9)) (hl : ss.length ≤ 140737488355328) (hss : Small ss) :
    Calls Tryz.prog 70 #[v] W fun e w' => e = .returned (.int .u16 (sumL ss : Nat)) ∧ W = w' := by
  subst hk; subst hv; subst hW
  exact rsum_any _ _ ss _ hl (strs_lit w _ ss) hss

theorem sum_at (W : World) (A : Option Addr) (ss : List ByteArray) (v : Value) (hv : v = .slice A ss.length ss.length) (hA : Strs W A ss) (hl : ss.length ≤ 140737488355328) (hss : Small ss) :
    Calls Tryz.prog 22 #[v] W fun e w' => e = .returned (.int .u16 (sumL ss : Nat)) ∧ W = w' := by
  subst hv
  exact sum_any _ _ ss _ hl hA hss

end Go.Proofs.YtickjmkkgcfkhaaGreat

/- Plain mathematics of sealed bytes. No program is in sight. -/
set_option linter.unusedSimpArgs false
set_option linter.unusedVariables false
set_option maxRecDepth 100000
namespace Go.Proofs.YtickjmkkgcfkhaaGreat
open Go.RowKit

/-- The sum of bytes. -/
def sumB (b : ByteArray) : Nat := crcN 65535 b.data.toList
theorem sumB_lt (b : ByteArray) : sumB b < 65536 := crcN_lt _ (by decide)
theorem sumL_one (b : ByteArray) : sumL [b] = sumB b := rfl
/-- What 'Seal' answers: the sum's two bytes behind. -/
def sealB (b : ByteArray) : ByteArray := bs (b.data.toList ++ beL (sumB b) 2 2)
theorem sealB_size (b : ByteArray) : (sealB b).size = b.size + 2 := by rw [sealB, bs_size, List.length_append, beL_len]; rfl
theorem beL_two (v : Nat) : beL v 2 2 = [toU8 (v / 256), toU8 v] := by simp [beL, List.range_succ]
theorem two_eq (b : ByteArray) : sealB b = b ++ bs [toU8 (sumB b / 256), toU8 (sumB b)] := by
  rw [sealB, beL_two, ← bs_append, bs_of]
/-- The last two bytes' number. -/
def lastTwo (b : ByteArray) : Nat := (b.data.toList.getD (b.size - 2) 0).toNat * 256 + (b.data.toList.getD (b.size - 1) 0).toNat
theorem lastTwo_eq {b : ByteArray} {n : Nat} (hn : b.size = n + 2) (h1 : n < b.size) (h2 : n + 1 < b.size) : b[n].toNat * 256 + b[n + 1].toNat = lastTwo b := by
  have e : ∀ k (hk : k < b.size), b.data.toList.getD k 0 = b[k] := by
    intro k hk
    have : k < b.data.toList.length := by simpa using hk
    rw [List.getD_eq_getElem?_getD, List.getElem?_eq_getElem this]
    rfl
  unfold lastTwo
  rw [hn, show n + 2 - 2 = n from rfl, show n + 2 - 1 = n + 1 from rfl, e n h1, e (n + 1) h2]
/-- What 'Open' answers. -/
def openS (b : ByteArray) : ByteArray := if b.size < 2 then bs [] else if sumB (b.extract 0 (b.size - 2)) = lastTwo b then b.extract 0 (b.size - 2) else bs []
def openE (b : ByteArray) : Int := if b.size < 2 then 4 else if sumB (b.extract 0 (b.size - 2)) = lastTwo b then 0 else 5

theorem hi_byte (s : Nat) (h : s < 65536) : byteV (toU8 (s / 256)) = .int .u8 ((s : Int) / 256) := by rw [byteV_small (by omega)]; rfl
theorem two_go (x y : UInt8) : bits .or .u16 (IntKind.u16.wrap (IntKind.u16.wrap (x.toNat : Int) * 256)) (IntKind.u16.wrap (y.toNat : Int)) = ((x.toNat * 256 + y.toNat : Nat) : Int) := by
  have hx := x.toNat_lt
  have hy := y.toNat_lt
  rw [wrap16 (x.toNat : Int) (by omega), wrap16 (y.toNat : Int) (by omega), wrap16 _ (by omega), show ((x.toNat : Int) * 256) = ((x.toNat * 256 : Nat) : Int) from by simp, u16_or_nat _ _ (by omega) (by omega),
    nat_join 8 (x.toNat * 256) y.toNat (by omega) (by omega)]

theorem open_cases {b : ByteArray} {n : Nat} (hn : b.size = n + 2) :
    (sumB (b.extract 0 n) = lastTwo b → openS b = b.extract 0 n ∧ openE b = 0) ∧ (¬ sumB (b.extract 0 n) = lastTwo b → openS b = bs [] ∧ openE b = 5) := by
  have e : b.size - 2 = n := by omega
  constructor
  · intro h
    rw [openS, openE, if_neg (show ¬ b.size < 2 by omega), if_neg (show ¬ b.size < 2 by omega), e, if_pos h, if_pos h]
    exact ⟨rfl, rfl⟩
  · intro h
    rw [openS, openE, if_neg (show ¬ b.size < 2 by omega), if_neg (show ¬ b.size < 2 by omega), e, if_neg h, if_neg h]
    exact ⟨rfl, rfl⟩
theorem list_two {l : List UInt8} {n : Nat} (h : l.length = n + 2) : l = l.take n ++ [l.getD n 0, l.getD (n + 1) 0] := by
  apply List.ext_getElem?
  intro i
  rcases Nat.lt_trichotomy i n with hi | rfl | hi
  · rw [List.getElem?_append_left (by simp; omega), List.getElem?_take, if_pos hi]
  · rw [List.getElem?_append_right (by rw [List.length_take]; omega)]
    simp [h]
  · rcases Nat.lt_trichotomy i (n + 1) with hj | rfl | hj
    · omega
    · rw [List.getElem?_append_right (by simp; omega)]
      simp [h]
    · rw [List.getElem?_append_right (by simp; omega), List.getElem?_eq_none (by omega), List.getElem?_eq_none]
      simp [h]
      omega
theorem two_bytes (x y : UInt8) (s : Nat) (hs : s < 65536) : [toU8 (s / 256), toU8 s] = [x, y] ↔ s = x.toNat * 256 + y.toNat := by
  have hx := x.toNat_lt
  have hy := y.toNat_lt
  constructor
  · intro h
    simp only [List.cons.injEq, and_true] at h
    have h1 : s / 256 % 256 = x.toNat := by rw [← h.1, toU8_toNat]
    have h2 : s % 256 = y.toNat := by rw [← h.2, toU8_toNat]
    omega
  · rintro rfl
    have e1 : (x.toNat * 256 + y.toNat) / 256 = x.toNat := by omega
    have e2 : toU8 (x.toNat * 256 + y.toNat) = y := by
      rw [← toU8_of y]
      unfold toU8
      apply UInt8.toNat_inj.1
      simp
    rw [e1, e2, toU8_of]
theorem extract_data (b : ByteArray) (n : Nat) : (b.extract 0 n).data.toList = b.data.toList.take n := by simp [ByteArray.data_extract]
theorem seal_same {b : ByteArray} {n : Nat} (hn : b.size = n + 2) :
    (sumB (b.extract 0 n) = lastTwo b → sealB (b.extract 0 n) = b) ∧ (¬ sumB (b.extract 0 n) = lastTwo b → ((sealB (b.extract 0 n)).toList == b.toList) = false) := by
  have hl : b.data.toList.length = n + 2 := by rw [Array.length_toList]; exact hn
  have h2 := list_two hl
  have ex : (sealB (b.extract 0 n)).data.toList = b.data.toList.take n ++ [toU8 (sumB (b.extract 0 n) / 256), toU8 (sumB (b.extract 0 n))] := by
    rw [sealB, bs_toList, beL_two, extract_data]
  have hs := sumB_lt (b.extract 0 n)
  have hlt : lastTwo b = (b.data.toList.getD n 0).toNat * 256 + (b.data.toList.getD (n + 1) 0).toNat := by unfold lastTwo; rw [hn]; rfl
  constructor
  · intro h
    have : (sealB (b.extract 0 n)).data.toList = b.data.toList := by
      rw [ex, (two_bytes (b.data.toList.getD n 0) (b.data.toList.getD (n + 1) 0) _ hs).2 (h.trans hlt), ← h2]
    exact ByteArray.ext (Array.toList_inj.1 this)
  · intro h
    rw [ByteArray.toList_eq, ByteArray.toList_eq, beq_eq_false_iff_ne]
    intro he
    have h3 := List.append_cancel_left ((ex.symm.trans he).trans h2)
    exact h (((two_bytes _ _ _ hs).1 h3).trans hlt.symm)

end Go.Proofs.YtickjmkkgcfkhaaGreat

/- Contracts of Seal and Open, the program's and the reference's. -/
set_option linter.unusedSimpArgs false
set_option linter.unusedVariables false
set_option maxRecDepth 100000
namespace Go.Proofs.YtickjmkkgcfkhaaGreat
open Go.RowKit

theorem small_one {b : ByteArray} (h : b.size ≤ 1125899906842624) : Small [b] := by intro s hs; simp at hs; subst hs; exact h

set_option maxHeartbeats 400000 in
theorem seal_any (b : ByteArray) (w : World) (hb : b.size ≤ 1125899906842624) :
    Calls Tryz.prog 40 #[.string b] w fun e w' => e = .returned (.string (sealB b)) ∧ Below w.heap.size w w' := by
  have hS := small_one hb
  have hlt := sumB_lt b
  go_enter Tryz.func40, Tryz.ntmps40
  go_wp2_with fail
  have h1 := sum_lit w _ _ [b] _ rfl rfl rfl (by show 1 ≤ _; omega) hS
  rw [sumL_one] at h1
  refine h1.mono ?_
  rintro e w' ⟨rfl, rfl⟩
  clear h1
  have hst := two_eq b
  generalize hs : sumB b = s at *
  have HS := Lib.hid hs
  have HT := Lib.hid hst
  have hl1 := hi_byte s hlt
  have hcv := run_string_twoAt (P := Tryz.prog) (w.alloc (.cells #[.string b] 9)) (w.heap.size + 1) (World.size_alloc _ _).symm (toU8 (s / 256)) (toU8 s) 90 9 5 Tryz.underlying90 Tryz.underlying5 Tryz.underlying9 _ _ (hi_byte s hlt) (byteV_low s)
  have hsz := bs_size
  clear hs hst hl1
  go_wp2_with fail
  go_ret
  refine ⟨?_, ((Below.refl _ _).alloc (Nat.le_refl _) _).alloc (by rw [World.size_alloc]; exact Nat.le_succ _) _⟩
  rw [HT.out]
  rfl

set_option maxHeartbeats 400000 in
theorem rseal_any (b : ByteArray) (w : World) (hb : b.size ≤ 140737488355000) :
    Calls Tryz.prog 26 #[.string b] w fun e w' => e = .returned (.string (sealB b)) ∧ Below w.heap.size w w' := by
  have hS := small_one (b := b) (by omega)
  have hlt := sumB_lt b
  go_enter Tryz.func26, Tryz.ntmps26
  go_wp2_with fail
  have h1 := rsum_lit w _ _ [b] _ rfl rfl rfl (by show 1 ≤ _; omega) hS
  rw [sumL_one] at h1
  refine h1.mono ?_
  rintro e w' ⟨rfl, rfl⟩
  clear h1
  go_wp2_with fail
  refine (rput_yes b (sumB b) 2 _ (by omega) (by omega) hb).mono ?_
  rintro e w2 ⟨rfl, hb2⟩
  go_wp2_with fail
  go_ret
  exact ⟨rfl, ((Below.refl _ _).alloc (Nat.le_refl _) _).trans (hb2.mono (by rw [World.size_alloc]; exact Nat.le_succ _))⟩

end Go.Proofs.YtickjmkkgcfkhaaGreat

/- Contracts of Open, the program's and the reference's. -/
set_option linter.unusedSimpArgs false
set_option linter.unusedVariables false
set_option maxRecDepth 100000
namespace Go.Proofs.YtickjmkkgcfkhaaGreat
open Go.RowKit

set_option maxHeartbeats 400000 in
theorem open_short (b : ByteArray) (w : World) (hb : b.size < 2) :
    Calls Tryz.prog 10 #[.string b] w fun e w' => e = .returned (.tuple #[.string (bs []), .int .i64 4]) ∧ w = w' := by
  go_enter Tryz.func10, Tryz.ntmps10
  go_wp2_with fail
  go_ret2
  exact ⟨rfl, rfl⟩

set_option maxHeartbeats 400000 in
theorem open_long (b : ByteArray) (n : Nat) (w : World) (hn : b.size = n + 2) (hb : b.size ≤ 1125899906842624) :
    Calls Tryz.prog 10 #[.string b] w fun e w' => e = .returned (.tuple #[.string (openS b), .int .i64 (openE b)]) ∧ Below w.heap.size w w' := by
  have hn0 : n ≤ b.size := by omega
  have hn1 : n < b.size := by omega
  have hq1 : (0 : Int) ≤ (n : Int) + 1 := by omega
  have hq2 : (n : Int) + 1 < (b.size : Int) := by omega
  have hn2 : n + 1 < b.size := by omega
  have hn3 : (b.size : Int) - 2 = (n : Int) := by omega
  have H := Lib.hid hn
  clear hn
  go_enter Tryz.func10, Tryz.ntmps10
  go_wp2_with fail
  have hx : (b.extract 0 n).size ≤ 1125899906842624 := by rw [ByteArray.size_extract]; omega
  have hS := Lib.hid (small_one hx)
  have hA' : Hid (Strs (w.alloc (.cells #[.string (b.extract 0 n)] 9)).drew (some ⟨w.heap.size, 0, none⟩) [b.extract 0 n]) := strs_lit w 9 [b.extract 0 n]
  clear hx
  refine wp_region_ord [(0, true), (1, true), (2, true), (5, true), (6, true), (7, true), (8, true), (9, true), (10, true), (11, true), (12, true), (13, true), (14, true), (15, true), (3, false), (4, false), (16, true)] (fun _ => True) (by kernel_rfl) (by kernel_rfl) (by decide) (by kernel_rfl) (fun d _ _ _ _ h => by cases d <;> exact h) trivial ?_
  iterate 14 (apply wpOrd_look rfl (by kernel_rfl); (intro W hS; go_simp; (try go_bits); rfl); (try simp only [Act.put, List.setIfInBounds_toArray, List.set_cons_succ, List.set_cons_zero]))
  apply wpOrd_do rfl (by kernel_rfl)
  intro K hK
  go_simp
  refine hK _ _ trivial ?_
  clear hK K
  apply wpOrd_do rfl (by kernel_rfl)
  intro K hK
  go_wp2_with (go_at_call 22; refine (sum_at _ (some ⟨w.heap.size, 0, none⟩) [b.extract 0 n] _ rfl hA'.out (by show 1 ≤ _; omega) hS.out).mono ?_; rintro e w' ⟨rfl, rfl⟩)
  refine hK _ _ trivial ?_
  clear hK K
  rw [two_go, lastTwo_eq H.out hn1 hn2, sumL_one]
  have hd := open_cases H.out
  generalize sumB (b.extract 0 n) = s at *
  generalize lastTwo b = t at *
  have hlast : Below w.heap.size w (w.alloc (.cells #[.string (b.extract 0 n)] 9)).drew := ((Below.refl _ _).alloc (Nat.le_refl _) _).drew
  have HL := Lib.hid hlast
  clear hlast
  by_cases hst : s = t
  · have HD := Lib.hid (hd.1 hst)
    clear hd
    subst hst
    apply wpOrd_look rfl (by kernel_rfl)
    · intro W _; go_simp; rfl
    refine wpOrd_nil ?_
    go_wp2_with fail
    go_ret2
    refine ⟨?_, HL.out⟩
    rw [HD.out.1, HD.out.2]
    rfl
  · have HD := Lib.hid (hd.2 hst)
    clear hd
    have hbne : ((s : Int) != (t : Int)) = true := by rw [bne_iff_ne]; omega
    apply wpOrd_look rfl (by kernel_rfl)
    · intro W _; go_simp; rfl
    refine wpOrd_nil ?_
    go_wp2_with fail
    go_ret2
    refine ⟨?_, HL.out⟩
    rw [HD.out.1, HD.out.2]
    rfl

theorem open_any (b : ByteArray) (w : World) (hb : b.size ≤ 1125899906842624) :
    Calls Tryz.prog 10 #[.string b] w fun e w' => e = .returned (.tuple #[.string (openS b), .int .i64 (openE b)]) ∧ Below w.heap.size w w' := by
  by_cases h : b.size < 2
  · refine (open_short b w h).mono fun e w' ⟨h1, h2⟩ => ⟨?_, h2 ▸ Below.refl _ _⟩
    rw [h1, openS, openE, if_pos h, if_pos h]
  · exact open_long b (b.size - 2) w (by omega) hb

set_option maxHeartbeats 400000 in
theorem ropen_any (b : ByteArray) (w : World) (hb : b.size ≤ 140737488355000) :
    Calls Tryz.prog 13 #[.string b] w fun e w' => e = .returned (.tuple #[.string (openS b), .int .i64 (openE b)]) ∧ Below w.heap.size w w' := by
  by_cases h : b.size < 2
  · go_enter Tryz.func13, Tryz.ntmps13
    go_wp2_with fail
    go_ret2
    refine ⟨?_, Below.refl _ _⟩
    rw [openS, openE, if_pos h, if_pos h]
    rfl
  · obtain ⟨n, hn⟩ : ∃ n, b.size = n + 2 := ⟨b.size - 2, by omega⟩
    have hn3 : (b.size : Int) - 2 = (n : Int) := by omega
    have hn0 : n ≤ b.size := by omega
    have hx : (b.extract 0 n).size ≤ 140737488355000 := by rw [ByteArray.size_extract]; omega
    have hd := open_cases hn
    have hsl := seal_same hn
    have H := Lib.hid hn
    have HS := Lib.hid hsl
    clear hn h hsl
    have HD := Lib.hid hd
    clear hd
    go_enter Tryz.func13, Tryz.ntmps13
    go_wp2_with fail
    refine (rseal_any (b.extract 0 n) _ hx).mono ?_
    rintro e w1 ⟨rfl, hb1⟩
    by_cases hq : sumB (b.extract 0 n) = lastTwo b
    · have ht : ((sealB (b.extract 0 n)).toList == b.toList) = true := by rw [HS.out.1 hq]; simp
      have HQ := Lib.hid hq
      clear hq
      go_wp2_with fail
      go_ret2
      refine ⟨?_, hb1⟩
      rw [(HD.out.1 HQ.out).1, (HD.out.1 HQ.out).2]
      rfl
    · have ht : ((sealB (b.extract 0 n)).toList == b.toList) = false := HS.out.2 hq
      have HQ := Lib.hid hq
      clear hq
      go_wp2_with fail
      go_ret2
      refine ⟨?_, hb1⟩
      rw [(HD.out.2 HQ.out).1, (HD.out.2 HQ.out).2]
      rfl

end Go.Proofs.YtickjmkkgcfkhaaGreat
