/- Contracts of Sum, the program's and the reference's: the sum of all parts. -/
import Derived.Test.YtbcgfojdlehnpaaWireMore
set_option linter.unusedSimpArgs false
set_option linter.unusedVariables false
namespace Go.Proofs.Ytbcgfojdlehnpaa
open Go.RowKit

set_option maxHeartbeats 400000 in
theorem sum_any (A : Option Addr) (c : Nat) (ss : List ByteArray) (w : World) (hl : ss.length ≤ 140737488355328) (hA : Strs w A ss) (hss : Small ss) :
    Calls Try.prog 46 #[.slice A ss.length c] w fun e w' => e = .returned (.int .u16 (sumL ss : Nat)) ∧ w = w' := by
  have hA' := Lib.hid hA
  have hS' := Lib.hid hss
  clear hA hss
  go_enter Try.func46, Try.ntmps46
  go_wp2_with fail
  go_loop [3, 8] (fun x i => ∃ (k t : Nat), k ≤ ss.length ∧ i = .int .i64 k ∧ x = .int .u16 t ∧ Hid (t = sumL (ss.take k))) (fun _ i => ss.length - (intOf i).toNat)
  case atStart => exact ⟨0, 65535, Nat.zero_le _, rfl, rfl, rfl⟩
  case round =>
    obtain ⟨k, t, hk, rfl, rfl, ht⟩ := hrel
    have ht16 : t < 65536 := by rw [ht.out]; exact sumL_lt _
    by_cases hlt : k < ss.length
    · obtain ⟨ad, hAd, hcell⟩ := hA'.out k hlt
      have hsz := hS'.out ss[k] (List.getElem_mem hlt)
      have e := Lib.hid (sumL_take hlt)
      obtain ⟨s, hs⟩ : ∃ s, s = ss[k] := ⟨_, rfl⟩
      rw [← hs] at hcell hsz e
      clear hs
      subst hAd
      go_wp2_with (go_at_call 56; refine (more_any _ _ _ ht16 hsz).mono ?_; rintro e w' ⟨rfl, rfl⟩)
      go_round
      case rel => exact ⟨k + 1, _, by omega, by go_num, rfl, by show _ = _; rw [e.out, ← ht.out]⟩
      case measure => simp [intOf]; omega
    · obtain rfl : k = ss.length := by omega
      have e : Hid (t = sumL ss) := by show t = _; rw [ht.out, List.take_of_length_le (Nat.le_refl _)]
      go_wp2_with fail
      go_ret
      exact ⟨by rw [← e.out]; rfl, rfl⟩

set_option maxRecDepth 100000 in
set_option maxHeartbeats 1000000 in
theorem rsum_any (A : Option Addr) (c : Nat) (ss : List ByteArray) (w : World) (hl : ss.length ≤ 140737488355328) (hA : Strs w A ss) (hss : Small ss) :
    Calls Try.prog 55 #[.slice A ss.length c] w fun e w' => e = .returned (.int .u16 (sumL ss : Nat)) ∧ w = w' := by
  have hA' := Lib.hid hA
  have hS' := Lib.hid hss
  clear hA hss
  go_enter Try.func55, Try.ntmps55
  go_wp2_with fail
  go_loop [3, 4] (fun x i => ∃ (k t : Nat), k ≤ ss.length ∧ i = .int .i64 k ∧ x = .int .u16 t ∧ Hid (t = sumL (ss.take k))) (fun _ i => ss.length - (intOf i).toNat)
  case atStart => exact ⟨0, 65535, Nat.zero_le _, rfl, rfl, rfl⟩
  case round =>
    obtain ⟨k, t, hk, rfl, rfl, ht⟩ := hrel
    have ht16 : t < 65536 := by rw [ht.out]; exact sumL_lt _
    by_cases hlt : k < ss.length
    · obtain ⟨ad, hAd, hcell⟩ := hA'.out k hlt
      have hsz := hS'.out ss[k] (List.getElem_mem hlt)
      have e := Lib.hid (sumL_take hlt)
      obtain ⟨s, hs⟩ : ∃ s, s = ss[k] := ⟨_, rfl⟩
      rw [← hs] at hcell hsz e
      clear hs
      subst hAd
      go_wp2_with fail
      go_loop [3, 5] (fun x i => ∃ (q t' : Nat), q ≤ s.size ∧ i = .int .i64 q ∧ x = .int .u16 t' ∧ Hid (t' = crcN t (s.data.toList.take q))) (fun _ i => s.size - (intOf i).toNat)
      case atStart => exact ⟨0, t, Nat.zero_le _, rfl, rfl, rfl⟩
      case round =>
        obtain ⟨q, t', hq, rfl, rfl, ht'⟩ := hrel
        have ht16' : t' < 65536 := by rw [ht'.out]; exact crcN_lt _ ht16
        by_cases hqs : q < s.size
        · go_wp2_with fail
          have h0 := start_lt ht16' s[q]
          go_loop [3, 6] (fun x i => ∃ (j t'' : Nat), j ≤ 8 ∧ i = .int .i64 j ∧ x = .int .u16 t'' ∧ Hid (t'' = zK j (t' ^^^ (s[q].toNat * 256)))) (fun _ i => 8 - (intOf i).toNat)
          case atStart => exact ⟨0, _, Nat.zero_le _, rfl, by rw [start_go _ _ ht16']; rfl, rfl⟩
          case round =>
            obtain ⟨j, t'', hj, rfl, rfl, ht''⟩ := hrel
            have ht16'' : t'' < 65536 := by rw [ht''.out]; exact zK_lt h0 j
            by_cases hj8 : j < 8
            · by_cases hh : 32768 ≤ t''
              · have hd : decide ((32768 : Int) ≤ (t'' : Int)) = true := decide_eq_true (by omega)
                have hH := Lib.hid hh
                clear hh
                go_wp2_with fail
                go_round
                case rel => exact ⟨j + 1, zN t'', by omega, by go_num, by rw [step_high _ ht16'' hH.out], by rw [ht''.out]; rfl⟩
                case measure => simp [intOf]; omega
              · have hd : decide ((32768 : Int) ≤ (t'' : Int)) = false := decide_eq_false (by omega)
                have hH := Lib.hid hh
                clear hh
                go_wp2_with fail
                go_round
                case rel => exact ⟨j + 1, zN t'', by omega, by go_num, by rw [step_low _ (Nat.lt_of_not_le hH.out)], by rw [ht''.out]; rfl⟩
                case measure => simp [intOf]; omega
            · obtain rfl : j = 8 := by omega
              go_wp2_with fail
              go_round
              case rel => exact ⟨q + 1, t'', by omega, by go_num, rfl, by show t'' = _; rw [ht''.out, crcN_take hqs, ← ht'.out]; rfl⟩
              case measure => simp [intOf]; omega
        · obtain rfl : q = s.size := by omega
          go_wp2_with fail
          go_round
          case rel => exact ⟨k + 1, t', by omega, by go_num, rfl, by show t' = _; rw [e.out, ← ht.out, ht'.out, List.take_of_length_le (Nat.le_of_eq (by simp))]⟩
          case measure => simp [intOf]; omega
    · obtain rfl : k = ss.length := by omega
      have e : Hid (t = sumL ss) := by show t = _; rw [ht.out, List.take_of_length_le (Nat.le_refl _)]
      go_wp2_with fail
      go_ret
      exact ⟨by rw [← e.out]; rfl, rfl⟩

/-- 'Sum' of a literal's parts. -/
theorem sum_lit (w W : World) (k : Nat) (ss : List ByteArray) (v : Value) (hk : k = w.heap.size) (hv : v = .slice (some ⟨k, 0, none⟩) ss.length ss.length) (hW : W = w.alloc (.cells (ss.map Value.string).toArray 9)) (hl : ss.length ≤ 140737488355328) (hss : Small ss) :
    Calls Try.prog 46 #[v] W fun e w' => e = .returned (.int .u16 (sumL ss : Nat)) ∧ W = w' := by
  subst hk; subst hv; subst hW
  exact sum_any _ _ ss _ hl (strs_lit w _ ss) hss
theorem rsum_lit (w W : World) (k : Nat) (ss : List ByteArray) (v : Value) (hk : k = w.heap.size) (hv : v = .slice (some ⟨k, 0, none⟩) ss.length ss.length) (hW : W = w.alloc (.cells (ss.map Value.string).toArray 9)) (hl : ss.length ≤ 140737488355328) (hss : Small ss) :
    Calls Try.prog 55 #[v] W fun e w' => e = .returned (.int .u16 (sumL ss : Nat)) ∧ W = w' := by
  subst hk; subst hv; subst hW
  exact rsum_any _ _ ss _ hl (strs_lit w _ ss) hss

theorem sum_at (W : World) (A : Option Addr) (ss : List ByteArray) (v : Value) (hv : v = .slice A ss.length ss.length) (hA : Strs W A ss) (hl : ss.length ≤ 140737488355328) (hss : Small ss) :
    Calls Try.prog 46 #[v] W fun e w' => e = .returned (.int .u16 (sumL ss : Nat)) ∧ W = w' := by
  subst hv
  exact sum_any _ _ ss _ hl hA hss

end Go.Proofs.Ytbcgfojdlehnpaa
