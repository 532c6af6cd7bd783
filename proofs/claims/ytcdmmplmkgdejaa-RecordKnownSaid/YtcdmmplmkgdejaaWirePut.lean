/- Contract of wire.Put: a number is laid behind bytes. -/
import Derived.Test.YtcdmmplmkgdejaaWireA
import Derived.Test.YtcdmmplmkgdejaaWireP
import Derived.Test.YtcdmmplmkgdejaaShelf
set_option linter.unusedSimpArgs false
set_option linter.unusedVariables false
namespace Go.Proofs.Ytcdmmplmkgdejaa
open Go.RowKit

theorem Try.infoU8 : (Try.prog.info? 5).map (fun i => (i.zero, i.size, i.bytes)) = some (some (.int .u8 0), 1, 1) := by kernel_rfl

theorem len64_any (x : Int) (w : World) (h0 : 0 ≤ x) (h1 : x ≤ 18446744073709551615) :
    Calls Try.prog 51 #[.int .u64 x] w fun e w' => e = .returned (.int .i64 (Lib.bitLen x.toNat)) ∧ w = w' :=
  (Try.bits_Len64 x w h0 h1).mono fun _ _ ⟨h, h'⟩ => ⟨h, h'.symm⟩

set_option maxHeartbeats 400000 in
theorem put_yes (b : ByteArray) (v : Nat) (m : Nat) (w : World) (hm : m = 1 ∨ m = 2 ∨ m = 4 ∨ m = 8) (hv : v < 2 ^ (8 * m)) (hb : b.size ≤ 140737488355000) :
    Calls Try.prog 45 #[.string b, .int .u64 v, .int .i64 m] w fun e w' => e = .returned (.tuple #[.string (bs (b.data.toList ++ beL v m m)), .int .i64 0]) ∧ Below w.heap.size w w' := by
  obtain ⟨i0, hi, hz0, hz1, hz2⟩ := info_parts Try.infoU8
  have hv64 : v < 18446744073709551616 := by rcases hm with rfl | rfl | rfl | rfl <;> simp at hv <;> omega
  have hbl := (bitLen_le v (8 * m) hv64).2 hv
  have hm1 : (1 : Int) ≤ m ∧ (m : Int) ≤ 8 := by omega
  obtain ⟨hm2, hm3⟩ := hm1
  have hw8 : widthI (m : Int) = 8 * m := widthI_yes (by omega)
  have hW := Lib.hid hw8
  have hV := Lib.hid hv
  have hM := Lib.hid hm
  have hV64 := Lib.hid hv64
  clear hw8 hv hm hv64
  go_enter Try.func45, Try.ntmps45
  go_wp2_with (first
    | (go_at_call 49; refine (width_any _ _ (by omega)).mono ?_; rintro e w' ⟨rfl, rfl⟩; rw [hW.out])
    | (go_at_call 51; refine (len64_any _ _ (by omega) (by have := hV64.out; omega)).mono ?_; rintro e w' ⟨rfl, rfl⟩)
    | (with_reducible show wpList _ _ _ (⟨some 22, _, _, _, _, _⟩ :: _) _ _; go_loud (refine wpList_bytes_row rfl (.tmp 21) 9 74 5 rfl Try.underlying9 Try.underlying74 Try.underlying5 b rfl w.heap.size (Nat.le_refl _) (by unfold maxLen; omega) ?_); intro v1 w1 hrow1 hb1))
  go_loopw [9, 10] (fun o i wr => ∃ k : Nat, k ≤ m ∧ i = .int .i64 (8 * (m : Int) - 8 - 8 * (k : Int)) ∧ Row wr w.heap.size 5 1 o (b.size + k) ((b.data.toList ++ beL v m k).map byteV) ∧ Below w.heap.size w wr) (fun _ i _ => (intOf i + 8).toNat)
  case atStart => exact ⟨0, Nat.zero_le _, by go_num, by simpa [beL_zero] using hrow1, hb1⟩
  case round =>
    obtain ⟨k, hk, rfl, hrow, hb⟩ := hrel
    by_cases hlt : k < m
    · have hbs := hb.size
      go_wp2_with (at_builtin; refine wpList_append_one _ rfl (.tmp 29) (.tmp 34) 74 rfl w.heap.size 5 i0 (.int .u8 0) 1 Try.underlying74 hi hz0 hz1 hz2 rfl _ _ _ _ hrow rfl rfl rfl ?c3 ?c4 hbs ?_)
      case c3 => unfold maxLen; omega
      case c4 => omega
      intro v2 w2 hrow2 hg2
      have hb2 : Below w.heap.size w w2 := below_one hb hbs hg2 fun g hg => (hrow.lt g hg).1
      have hu : (Value.int .u8 ((v : Int) / 2 ^ (8 * m - 8 - 8 * k) % 256)) = byteV (toU8 (v / 2 ^ (8 * (m - 1 - k)))) := by
        rw [byteV_shr, show 8 * (m - 1 - k) = 8 * m - 8 - 8 * k from by omega]
      rw [hu] at hrow2
      have hrow3 : Row w2 w.heap.size 5 1 v2 (b.size + (k + 1)) ((b.data.toList ++ beL v m (k + 1)).map byteV) := by
        simpa only [beL_succ, List.map_append, List.append_assoc, List.map_cons, List.map_nil, Nat.add_assoc] using hrow2
      clear hu hrow2 hrow hg2 hb hrow1
      go_wp2_with fail
      go_roundw
      case rel => exact ⟨k + 1, by omega, by go_num, hrow3, hb2⟩
      case measure => simp [intOf]; omega
    · obtain rfl : k = m := by omega
      go_wp2_with (with_reducible show wpList _ _ _ (⟨some 37, _, _, _, _, _⟩ :: _) _ _; refine wpList_string_row rfl (.tmp 36) 74 9 5 rfl Try.underlying74 Try.underlying5 Try.underlying9 _ hrow rfl ?_)
      go_ret2
      exact ⟨rfl, hb⟩

set_option maxHeartbeats 400000 in
theorem put_arg (b : ByteArray) (v : Nat) (n : Int) (w : World) (hn : -9223372036854775808 ≤ n ∧ n ≤ 9223372036854775807) (hm : ¬ (n = 1 ∨ n = 2 ∨ n = 4 ∨ n = 8)) :
    Calls Try.prog 45 #[.string b, .int .u64 v, .int .i64 n] w fun e w' => e = .returned (.tuple #[.string (bs []), .int .i64 2]) ∧ w = w' := by
  have hW := Lib.hid (widthI_no hm)
  clear hm
  go_enter Try.func45, Try.ntmps45
  go_wp2_with (go_at_call 49; refine (width_any _ _ hn).mono ?_; rintro e w' ⟨rfl, rfl⟩; rw [hW.out])
  go_ret2
  exact ⟨rfl, rfl⟩

set_option maxHeartbeats 400000 in
theorem put_long (b : ByteArray) (v : Nat) (m : Nat) (w : World) (hm : m = 1 ∨ m = 2 ∨ m = 4 ∨ m = 8) (hv : ¬ v < 2 ^ (8 * m)) (hv64 : v < 18446744073709551616) :
    Calls Try.prog 45 #[.string b, .int .u64 v, .int .i64 m] w fun e w' => e = .returned (.tuple #[.string (bs []), .int .i64 3]) ∧ w = w' := by
  have hbl : 8 * m < Lib.bitLen v := by have := (not_congr (bitLen_le v (8 * m) hv64)).2 hv; omega
  have hm1 : (1 : Int) ≤ m ∧ (m : Int) ≤ 8 := by omega
  obtain ⟨hm2, hm3⟩ := hm1
  have hw8 : widthI (m : Int) = 8 * m := widthI_yes (by omega)
  have hW := Lib.hid hw8
  have hV64 := Lib.hid hv64
  clear hw8 hv hm hv64
  go_enter Try.func45, Try.ntmps45
  go_wp2_with (first
    | (go_at_call 49; refine (width_any _ _ (by omega)).mono ?_; rintro e w' ⟨rfl, rfl⟩; rw [hW.out])
    | (go_at_call 51; refine (len64_any _ _ (by omega) (by have := hV64.out; omega)).mono ?_; rintro e w' ⟨rfl, rfl⟩))
  go_ret2
  exact ⟨rfl, rfl⟩

/-- The contract of 'Put' at all arguments. -/
theorem put_any (b : ByteArray) (v n : Int) (w : World) (hv : 0 ≤ v ∧ v ≤ 18446744073709551615) (hn : -9223372036854775808 ≤ n ∧ n ≤ 9223372036854775807) (hb : b.size ≤ 140737488355000) :
    Calls Try.prog 45 #[.string b, .int .u64 v, .int .i64 n] w fun e w' => e = .returned (.tuple #[.string (putS b v n), .int .i64 (putE v n)]) ∧ Below w.heap.size w w' := by
  obtain ⟨u, rfl⟩ := Int.eq_ofNat_of_zero_le hv.1
  by_cases hm : n = 1 ∨ n = 2 ∨ n = 4 ∨ n = 8
  · obtain ⟨m, rfl⟩ := Int.eq_ofNat_of_zero_le (a := n) (by omega)
    by_cases hl : u < 2 ^ (8 * m)
    · refine (put_yes b u m w (by omega) hl hb).mono fun e w' ⟨h1, h2⟩ => ⟨?_, h2⟩
      rw [h1]; simp [putS, putE, hm, hl]
    · refine (put_long b u m w (by omega) hl (by omega)).mono fun e w' ⟨h1, h2⟩ => ⟨?_, h2 ▸ Below.refl _ _⟩
      rw [h1]; simp [putS, putE, hm, hl]
  · refine (put_arg b u n w hn hm).mono fun e w' ⟨h1, h2⟩ => ⟨?_, h2 ▸ Below.refl _ _⟩
    rw [h1]; simp [putS, putE, hm]

end Go.Proofs.Ytcdmmplmkgdejaa
