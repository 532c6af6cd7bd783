import Derived.Test.YtickjmkkgcfkhaaGreatRows
import Derived.Test.YtickjmkkgcfkhaaGreatBase
import Derived.Shelf.Strconv.Itoa0
import Derived.Lib.BitFns
import Derived.Test.YtickjmkkgcfkhaaGreatShelf
/- Contracts of package wire's small functions: width; math/bits.Len64 off the shelf. -/
set_option linter.unusedSimpArgs false
set_option linter.unusedVariables false
set_option maxRecDepth 100000
namespace Go.Proofs.YtickjmkkgcfkhaaGreat
open Go.RowKit

def widthI (n : Int) : Int := if n = 1 ∨ n = 2 ∨ n = 4 ∨ n = 8 then 8 * n else 0
theorem ret_i64 {a b : Int} (h : a = b) : Ending.returned (.int .i64 a) = .returned (.int .i64 b) := by rw [h]
theorem widthI_yes {n : Int} (h : n = 1 ∨ n = 2 ∨ n = 4 ∨ n = 8) : widthI n = 8 * n := by unfold widthI; rw [if_pos h]
theorem widthI_no {n : Int} (h : ¬ (n = 1 ∨ n = 2 ∨ n = 4 ∨ n = 8)) : widthI n = 0 := by unfold widthI; rw [if_neg h]

set_option maxHeartbeats 400000 in
theorem width_any (n : Int) (w : World) (hn : -9223372036854775808 ≤ n ∧ n ≤ 9223372036854775807) :
    Calls Tryz.prog 100 #[.int .i64 n] w fun e w' => e = .returned (.int .i64 (widthI n)) ∧ w = w' := by
  obtain ⟨hn1, hn2⟩ := hn
  go_enter Tryz.func100, Tryz.ntmps100
  by_cases h1 : n = 1
  · subst h1; go_wp2; go_ret; exact ⟨ret_i64 (by decide), rfl⟩
  by_cases h2 : n = 2
  · subst h2; go_wp2; go_ret; exact ⟨ret_i64 (by decide), rfl⟩
  by_cases h4 : n = 4
  · subst h4; go_wp2; go_ret; exact ⟨ret_i64 (by decide), rfl⟩
  by_cases h8 : n = 8
  · subst h8; go_wp2; go_ret; exact ⟨ret_i64 (by decide), rfl⟩
  go_wp2
  go_ret
  exact ⟨ret_i64 (widthI_no (by omega)).symm, rfl⟩

end Go.Proofs.YtickjmkkgcfkhaaGreat

/- Plain mathematics of package wire, first part: numbers as bytes, the highest first. No program is in sight. -/
set_option linter.unusedSimpArgs false
set_option linter.unusedVariables false
set_option maxRecDepth 100000
namespace Go.Proofs.YtickjmkkgcfkhaaGreat
open Go.RowKit

theorem bitLenAux_le : ∀ (f x k : Nat), x < 2 ^ f → (Lib.bitLenAux f x ≤ k ↔ x < 2 ^ k) := by
  intro f
  induction f with
  | zero => intro x k h; have : x = 0 := by simpa using h
            subst this; simp [Lib.bitLenAux, Nat.two_pow_pos]
  | succ f ih =>
    intro x k h
    unfold Lib.bitLenAux
    by_cases h0 : x = 0
    · subst h0; simp [Nat.two_pow_pos]
    · rw [if_neg h0]
      cases k with
      | zero => simp; omega
      | succ k =>
        have := ih (x / 2) k (by rw [Nat.pow_succ] at h; omega)
        rw [Nat.pow_succ]
        omega
theorem bitLen_le (x k : Nat) (h : x < 18446744073709551616) : Lib.bitLen x ≤ k ↔ x < 2 ^ k := bitLenAux_le 64 x k (by simpa using h)

/-- The k highest ones of the m bytes of a number. -/
def beL (v : Nat) (m k : Nat) : List UInt8 := (List.range k).map fun j => toU8 (v / 2 ^ (8 * (m - 1 - j)))
theorem beL_zero (v m : Nat) : beL v m 0 = [] := rfl
theorem beL_succ (v m k : Nat) : beL v m (k + 1) = beL v m k ++ [toU8 (v / 2 ^ (8 * (m - 1 - k)))] := by simp [beL, List.range_succ]
theorem beL_len (v m k : Nat) : (beL v m k).length = k := by simp [beL]

theorem byte_of_shr (v : Nat) (j : Nat) : (toU8 (v / 2 ^ j)).toNat = v / 2 ^ j % 256 := toU8_toNat _

theorem byteV_shr (v j : Nat) : byteV (toU8 (v / 2 ^ j)) = .int .u8 ((v : Int) / 2 ^ j % 256) := by
  unfold byteV; rw [byte_of_shr]; simp

theorem shr_none {v k : Nat} (h : v < 2 ^ k) : ((v : Int) / 2 ^ k != 0) = false := by
  have : ((v : Int) / 2 ^ k) = ((v / 2 ^ k : Nat) : Int) := by simp
  rw [this, Nat.div_eq_of_lt h]; rfl
theorem shr_some {v k : Nat} (h : ¬ v < 2 ^ k) : ((v : Int) / 2 ^ k != 0) = true := by
  have e : ((v : Int) / 2 ^ k) = ((v / 2 ^ k : Nat) : Int) := by simp
  have h1 : 0 < v / 2 ^ k := Nat.div_pos (by omega) (Nat.two_pow_pos k)
  rw [e, bne_iff_ne]; omega

/-- What 'Put' answers: the bytes, the error's number. -/
def putS (b : ByteArray) (v n : Int) : ByteArray :=
  if n = 1 ∨ n = 2 ∨ n = 4 ∨ n = 8 then (if v.toNat < 2 ^ (8 * n.toNat) then bs (b.data.toList ++ beL v.toNat n.toNat n.toNat) else bs []) else bs []
def putE (v n : Int) : Int :=
  if n = 1 ∨ n = 2 ∨ n = 4 ∨ n = 8 then (if v.toNat < 2 ^ (8 * n.toNat) then 0 else 3) else 2

end Go.Proofs.YtickjmkkgcfkhaaGreat

/- Contract of wire.Put: a number is laid behind bytes. -/
set_option linter.unusedSimpArgs false
set_option linter.unusedVariables false
set_option maxRecDepth 100000
namespace Go.Proofs.YtickjmkkgcfkhaaGreat
open Go.RowKit

theorem Tryz.infoU8 : (Tryz.prog.info? 5).map (fun i => (i.zero, i.size, i.bytes)) = some (some (.int .u8 0), 1, 1) := by kernel_rfl

theorem len64_any (x : Int) (w : World) (h0 : 0 ≤ x) (h1 : x ≤ 18446744073709551615) :
    Calls Tryz.prog 101 #[.int .u64 x] w fun e w' => e = .returned (.int .i64 (Lib.bitLen x.toNat)) ∧ w = w' :=
  (Tryz.bits_Len64 x w h0 h1).mono fun _ _ ⟨h, h'⟩ => ⟨h, h'.symm⟩

set_option maxHeartbeats 400000 in
theorem put_yes (b : ByteArray) (v : Nat) (m : Nat) (w : World) (hm : m = 1 ∨ m = 2 ∨ m = 4 ∨ m = 8) (hv : v < 2 ^ (8 * m)) (hb : b.size ≤ 140737488355000) :
    Calls Tryz.prog 84 #[.string b, .int .u64 v, .int .i64 m] w fun e w' => e = .returned (.tuple #[.string (bs (b.data.toList ++ beL v m m)), .int .i64 0]) ∧ Below w.heap.size w w' := by
  obtain ⟨i0, hi, hz0, hz1, hz2⟩ := info_parts Tryz.infoU8
  have hv64 : v < 18446744073709551616 := by rcases hm with rfl | rfl | rfl | rfl <;> simp at hv <;> omega
  have hbl := (bitLen_le v (8 * m) hv64).2 hv
  have hm1 : (1 : Int) ≤ m ∧ (m : Int) ≤ 8 := by omega
  obtain ⟨hm2, hm3⟩ := hm1
  have hw8 : widthI (m : Int) = 8 * m := widthI_yes (by omega)
  have hW := Lib.hid hw8
  have hV := Lib.hid hv
  have hM := Lib.hid hm
  have hV64 := Lib.hid hv64
  clear hw8 hv hm hv64
  go_enter Tryz.func84, Tryz.ntmps84
  go_wp2_with (first
    | (go_at_call 100; refine (width_any _ _ (by omega)).mono ?_; rintro e w' ⟨rfl, rfl⟩; rw [hW.out])
    | (go_at_call 101; refine (len64_any _ _ (by omega) (by have := hV64.out; omega)).mono ?_; rintro e w' ⟨rfl, rfl⟩)
    | (with_reducible show wpList _ _ _ (⟨some 22, _, _, _, _, _⟩ :: _) _ _; go_loud (refine wpList_bytes_row rfl (.tmp 21) 9 90 5 rfl Tryz.underlying9 Tryz.underlying90 Tryz.underlying5 b rfl w.heap.size (Nat.le_refl _) (by unfold maxLen; omega) ?_); intro v1 w1 hrow1 hb1))
  go_loopw [9, 10] (fun o i wr => ∃ k : Nat, k ≤ m ∧ i = .int .i64 (8 * (m : Int) - 8 - 8 * (k : Int)) ∧ Row wr w.heap.size 5 1 o (b.size + k) ((b.data.toList ++ beL v m k).map byteV) ∧ Below w.heap.size w wr) (fun _ i _ => (intOf i + 8).toNat)
  case atStart => exact ⟨0, Nat.zero_le _, by go_num, by simpa [beL_zero] using hrow1, hb1⟩
  case round =>
    obtain ⟨k, hk, rfl, hrow, hb⟩ := hrel
    by_cases hlt : k < m
    · have hbs := hb.size
      go_wp2_with (at_builtin; refine wpList_append_one _ rfl (.tmp 29) (.tmp 34) 90 rfl w.heap.size 5 i0 (.int .u8 0) 1 Tryz.underlying90 hi hz0 hz1 hz2 rfl _ _ _ _ hrow rfl rfl rfl ?c3 ?c4 hbs ?_)
      case c3 => unfold maxLen; omega
      case c4 => omega
      intro v2 w2 hrow2 hg2
      have hb2 : Below w.heap.size w w2 := below_one hb hbs hg2 fun g hg => (hrow.lt g hg).1
      have hu : (Value.int .u8 ((v : Int) / 2 ^ (8 * m - 8 - 8 * k) % 256)) = byteV (toU8 (v / 2 ^ (8 * (m - 1 - k)))) := by
        rw [byteV_shr, show 8 * (m - 1 - k) = 8 * m - 8 - 8 * k from by omega]
      rw [hu] at hrow2
      have hrow3 : Row w2 w.heap.size 5 1 v2 (b.size + (k + 1)) ((b.data.toList ++ beL v m (k + 1)).map byteV) := by
        simpa only [beL_succ, List.map_append, List.append_assoc, List.map_cons, List.map_nil, Nat.add_assoc] using hrow2
      clear hu hrow2 hrow hg2 hb hrow1
      go_wp2_with fail
      go_roundw
      case rel => exact ⟨k + 1, by omega, by go_num, hrow3, hb2⟩
      case measure => simp [intOf]; omega
    · obtain rfl : k = m := by omega
      go_wp2_with (with_reducible show wpList _ _ _ (⟨some 37, _, _, _, _, _⟩ :: _) _ _; refine wpList_string_row rfl (.tmp 36) 90 9 5 rfl Tryz.underlying90 Tryz.underlying5 Tryz.underlying9 _ hrow rfl ?_)
      go_ret2
      exact ⟨rfl, hb⟩

set_option maxHeartbeats 400000 in
theorem put_arg (b : ByteArray) (v : Nat) (n : Int) (w : World) (hn : -9223372036854775808 ≤ n ∧ n ≤ 9223372036854775807) (hm : ¬ (n = 1 ∨ n = 2 ∨ n = 4 ∨ n = 8)) :
    Calls Tryz.prog 84 #[.string b, .int .u64 v, .int .i64 n] w fun e w' => e = .returned (.tuple #[.string (bs []), .int .i64 2]) ∧ w = w' := by
  have hW := Lib.hid (widthI_no hm)
  clear hm
  go_enter Tryz.func84, Tryz.ntmps84
  go_wp2_with (go_at_call 100; refine (width_any _ _ hn).mono ?_; rintro e w' ⟨rfl, rfl⟩; rw [hW.out])
  go_ret2
  exact ⟨rfl, rfl⟩

set_option maxHeartbeats 400000 in
theorem put_long (b : ByteArray) (v : Nat) (m : Nat) (w : World) (hm : m = 1 ∨ m = 2 ∨ m = 4 ∨ m = 8) (hv : ¬ v < 2 ^ (8 * m)) (hv64 : v < 18446744073709551616) :
    Calls Tryz.prog 84 #[.string b, .int .u64 v, .int .i64 m] w fun e w' => e = .returned (.tuple #[.string (bs []), .int .i64 3]) ∧ w = w' := by
  have hbl : 8 * m < Lib.bitLen v := by have := (not_congr (bitLen_le v (8 * m) hv64)).2 hv; omega
  have hm1 : (1 : Int) ≤ m ∧ (m : Int) ≤ 8 := by omega
  obtain ⟨hm2, hm3⟩ := hm1
  have hw8 : widthI (m : Int) = 8 * m := widthI_yes (by omega)
  have hW := Lib.hid hw8
  have hV64 := Lib.hid hv64
  clear hw8 hv hm hv64
  go_enter Tryz.func84, Tryz.ntmps84
  go_wp2_with (first
    | (go_at_call 100; refine (width_any _ _ (by omega)).mono ?_; rintro e w' ⟨rfl, rfl⟩; rw [hW.out])
    | (go_at_call 101; refine (len64_any _ _ (by omega) (by have := hV64.out; omega)).mono ?_; rintro e w' ⟨rfl, rfl⟩))
  go_ret2
  exact ⟨rfl, rfl⟩

/-- The contract of 'Put' at all arguments. -/
theorem put_any (b : ByteArray) (v n : Int) (w : World) (hv : 0 ≤ v ∧ v ≤ 18446744073709551615) (hn : -9223372036854775808 ≤ n ∧ n ≤ 9223372036854775807) (hb : b.size ≤ 140737488355000) :
    Calls Tryz.prog 84 #[.string b, .int .u64 v, .int .i64 n] w fun e w' => e = .returned (.tuple #[.string (putS b v n), .int .i64 (putE v n)]) ∧ Below w.heap.size w w' := by
  obtain ⟨u, rfl⟩ := Int.eq_ofNat_of_zero_le hv.1
  by_cases hm : n = 1 ∨ n = 2 ∨ n = 4 ∨ n = 8
  · obtain ⟨m, rfl⟩ := Int.eq_ofNat_of_zero_le (a := n) (by omega)
    by_cases hl : u < 2 ^ (8 * m)
    · refine (put_yes b u m w (by omega) hl hb).mono fun e w' ⟨h1, h2⟩ => ⟨?_, h2⟩
      rw [h1]; simp [putS, putE, hm, hl]
    · refine (put_long b u m w (by omega) hl (by omega)).mono fun e w' ⟨h1, h2⟩ => ⟨?_, h2 ▸ Below.refl _ _⟩
      rw [h1]; simp [putS, putE, hm, hl]
  · refine (put_arg b u n w hn hm).mono fun e w' ⟨h1, h2⟩ => ⟨?_, h2 ▸ Below.refl _ _⟩
    rw [h1]; simp [putS, putE, hm]

end Go.Proofs.YtickjmkkgcfkhaaGreat

/- Contract of the reference's Put. -/
set_option linter.unusedSimpArgs false
set_option linter.unusedVariables false
set_option maxRecDepth 100000
namespace Go.Proofs.YtickjmkkgcfkhaaGreat
open Go.RowKit

def sizeB (n : Int) : Bool := decide (n = 1 ∨ n = 2 ∨ n = 4 ∨ n = 8)
theorem ret_bool {a b : Bool} (h : a = b) : Ending.returned (.bool a) = .returned (.bool b) := by rw [h]

set_option maxHeartbeats 400000 in
theorem rsize_any (n : Int) (w : World) :
    Calls Tryz.prog 92 #[.int .i64 n] w fun e w' => e = .returned (.bool (sizeB n)) ∧ w = w' := by
  go_enter Tryz.func92, Tryz.ntmps92
  by_cases h1 : n = 1
  · subst h1; go_wp2; go_ret; exact ⟨ret_bool (by decide), rfl⟩
  by_cases h2 : n = 2
  · subst h2; go_wp2; go_ret; exact ⟨ret_bool (by decide), rfl⟩
  by_cases h4 : n = 4
  · subst h4; go_wp2; go_ret; exact ⟨ret_bool (by decide), rfl⟩
  by_cases h8 : n = 8
  · subst h8; go_wp2; go_ret; exact ⟨ret_bool (by decide), rfl⟩
  go_wp2
  go_ret
  exact ⟨ret_bool (by unfold sizeB; rw [Bool.eq_iff_iff]; simp only [Bool.or_eq_true, beq_iff_eq, decide_eq_true_eq]; omega), rfl⟩

set_option maxHeartbeats 400000 in
theorem rput_arg (b : ByteArray) (v : Nat) (n : Int) (w : World) (hm : ¬ (n = 1 ∨ n = 2 ∨ n = 4 ∨ n = 8)) :
    Calls Tryz.prog 69 #[.string b, .int .u64 v, .int .i64 n] w fun e w' => e = .returned (.tuple #[.string (bs []), .int .i64 2]) ∧ w = w' := by
  have hS : Hid (sizeB n = false) := by show sizeB n = false; simpa [sizeB] using hm
  clear hm
  go_enter Tryz.func69, Tryz.ntmps69
  go_wp2_with (go_at_call 92; refine (rsize_any _ _).mono ?_; rintro e w' ⟨rfl, rfl⟩; rw [hS.out])
  go_ret2
  exact ⟨rfl, rfl⟩

set_option maxHeartbeats 400000 in
theorem rput_yes (b : ByteArray) (v : Nat) (m : Nat) (w : World) (hm : m = 1 ∨ m = 2 ∨ m = 4 ∨ m = 8) (hv : v < 2 ^ (8 * m)) (hb : b.size ≤ 140737488355000) :
    Calls Tryz.prog 69 #[.string b, .int .u64 v, .int .i64 m] w fun e w' => e = .returned (.tuple #[.string (bs (b.data.toList ++ beL v m m)), .int .i64 0]) ∧ Below w.heap.size w w' := by
  have hS : Hid (sizeB m = true) := by show sizeB m = true; simp [sizeB]; omega
  have hm1 : (1 : Int) ≤ m ∧ (m : Int) ≤ 8 := by omega
  obtain ⟨hm2, hm3⟩ := hm1
  have hq := shr_none hv
  clear hm hv
  by_cases h8 : (m : Int) < 8
  all_goals
    go_enter Tryz.func69, Tryz.ntmps69
    go_wp2_with (go_at_call 92; refine (rsize_any _ _).mono ?_; rintro e w' ⟨rfl, rfl⟩; rw [hS.out])
    clear hq
    go_loopw [0, 8] (fun o i wr => ∃ k : Nat, k ≤ m ∧ i = .int .i64 ((m : Int) - 1 - (k : Int)) ∧ o = .string (bs (b.data.toList ++ beL v m k)) ∧ Below w.heap.size w wr) (fun _ i _ => (intOf i + 1).toNat)
    case atStart => exact ⟨0, Nat.zero_le _, by go_num, by rw [beL_zero, List.append_nil, bs_of], Below.refl _ _⟩
    case round =>
      obtain ⟨k, hk, rfl, rfl, hb⟩ := hrel
      by_cases hlt : k < m
      · have hbs := hb.size
        have hcv := run_string_one (P := Tryz.prog) wr (toU8 (v / 2 ^ (8 * (m - 1 - k)))) 90 9 5 Tryz.underlying90 Tryz.underlying5 Tryz.underlying9 _ (byteV_shr _ _)
        have hsz := bs_size
        have hbl : (beL v m k).length ≤ 8 := by rw [beL_len]; omega
        go_wp2_with fail
        clear hcv hsz
        go_roundw
        case rel => exact ⟨k + 1, by omega, by go_num, by rw [beL_succ, ← List.append_assoc, bs_append], hb.alloc hbs _⟩
        case measure => simp [intOf]; omega
      · obtain rfl : k = m := by omega
        go_wp2_with fail
        go_ret2
        exact ⟨rfl, hb⟩

set_option maxHeartbeats 400000 in
theorem rput_long (b : ByteArray) (v : Nat) (m : Nat) (w : World) (hm : m = 1 ∨ m = 2 ∨ m = 4 ∨ m = 8) (hv : ¬ v < 2 ^ (8 * m)) (hv64 : v < 18446744073709551616) :
    Calls Tryz.prog 69 #[.string b, .int .u64 v, .int .i64 m] w fun e w' => e = .returned (.tuple #[.string (bs []), .int .i64 3]) ∧ w = w' := by
  have hS : Hid (sizeB m = true) := by show sizeB m = true; simp [sizeB]; omega
  have hm1 : (1 : Int) ≤ m ∧ (m : Int) < 8 := by rcases hm with rfl | rfl | rfl | rfl <;> simp at hv ⊢; omega
  obtain ⟨hm2, hm3⟩ := hm1
  have hq := shr_some hv
  clear hm hv hv64
  go_enter Tryz.func69, Tryz.ntmps69
  go_wp2_with (go_at_call 92; refine (rsize_any _ _).mono ?_; rintro e w' ⟨rfl, rfl⟩; rw [hS.out])
  go_ret2
  exact ⟨rfl, rfl⟩

/-- The contract of the reference's 'Put' at all arguments: the same answers as the program's. -/
theorem rput_any (b : ByteArray) (v n : Int) (w : World) (hv : 0 ≤ v ∧ v ≤ 18446744073709551615) (hb : b.size ≤ 140737488355000) :
    Calls Tryz.prog 69 #[.string b, .int .u64 v, .int .i64 n] w fun e w' => e = .returned (.tuple #[.string (putS b v n), .int .i64 (putE v n)]) ∧ Below w.heap.size w w' := by
  obtain ⟨u, rfl⟩ := Int.eq_ofNat_of_zero_le hv.1
  by_cases hm : n = 1 ∨ n = 2 ∨ n = 4 ∨ n = 8
  · obtain ⟨m, rfl⟩ := Int.eq_ofNat_of_zero_le (a := n) (by omega)
    by_cases hl : u < 2 ^ (8 * m)
    · refine (rput_yes b u m w (by omega) hl hb).mono fun e w' ⟨h1, h2⟩ => ⟨?_, h2⟩
      rw [h1]; simp [putS, putE, hm, hl]
    · refine (rput_long b u m w (by omega) hl (by omega)).mono fun e w' ⟨h1, h2⟩ => ⟨?_, h2 ▸ Below.refl _ _⟩
      rw [h1]; simp [putS, putE, hm, hl]
  · refine (rput_arg b u n w hm).mono fun e w' ⟨h1, h2⟩ => ⟨?_, h2 ▸ Below.refl _ _⟩
    rw [h1]; simp [putS, putE, hm]

end Go.Proofs.YtickjmkkgcfkhaaGreat

/- Plain mathematics of numbers read off bytes, the highest first. No program is in sight. -/
set_option linter.unusedSimpArgs false
set_option linter.unusedVariables false
set_option maxRecDepth 100000
namespace Go.Proofs.YtickjmkkgcfkhaaGreat
open Go.RowKit

def beVal (l : List UInt8) : Nat := l.foldl (fun v b => v * 256 + b.toNat) 0
theorem beVal_snoc (l : List UInt8) (b : UInt8) : beVal (l ++ [b]) = beVal l * 256 + b.toNat := by unfold beVal; rw [List.foldl_append]; rfl
theorem beVal_lt : ∀ (k : Nat) (l : List UInt8), l.length ≤ k → beVal l < 256 ^ k := by
  intro k
  induction k with
  | zero => intro l h; have : l = [] := List.eq_nil_of_length_eq_zero (by omega)
            subst this; decide
  | succ k ih =>
    intro l h
    rcases List.eq_nil_or_concat l with rfl | ⟨l', b, rfl⟩
    · exact Nat.pow_pos (by decide)
    · rw [List.concat_eq_append, beVal_snoc]
      have h1 := ih l' (by simp at h; omega)
      have h2 := b.toNat_lt
      rw [Nat.pow_succ]
      omega
theorem seg_succ {b : ByteArray} {a k : Nat} (h : a + k < b.size) : (b.data.toList.drop a).take (k + 1) = (b.data.toList.drop a).take k ++ [b[a + k]] := by
  have hl : k < (b.data.toList.drop a).length := by rw [List.length_drop, Array.length_toList]; have : b.data.size = b.size := rfl; omega
  rw [List.take_succ_eq_append_getElem hl, List.getElem_drop]
  rfl

/-- What 'Take' answers. -/
def segV (b : ByteArray) (a k : Nat) : Nat := beVal ((b.data.toList.drop a).take k)
theorem segV_zero (b : ByteArray) (a : Nat) : segV b a 0 = 0 := by simp [segV, beVal]
theorem segV_succ {b : ByteArray} {a k : Nat} (h : a + k < b.size) : segV b a (k + 1) = segV b a k * 256 + b[a + k].toNat := by unfold segV; rw [seg_succ h, beVal_snoc]
theorem segV_lt (b : ByteArray) (a k : Nat) : segV b a k < 256 ^ k := beVal_lt k _ (List.length_take_le _ _)
theorem segV_lt8 (b : ByteArray) (a : Nat) {k : Nat} (hk : k < 8) : segV b a k < 72057594037927936 := Nat.lt_of_lt_of_le (segV_lt b a k) (Nat.le_trans (Nat.pow_le_pow_right (by decide) (show k ≤ 7 by omega)) (by decide))
def takeV (b : ByteArray) (a n : Int) : Nat := if (n = 1 ∨ n = 2 ∨ n = 4 ∨ n = 8) ∧ 0 ≤ a ∧ a + n ≤ b.size then segV b a.toNat n.toNat else 0
def takeE (b : ByteArray) (a n : Int) : Int := if n = 1 ∨ n = 2 ∨ n = 4 ∨ n = 8 then (if 0 ≤ a ∧ a + n ≤ b.size then 0 else 4) else 2

theorem or_low (v : Nat) (x : UInt8) : v * 256 ||| x.toNat = v * 256 + x.toNat := nat_join 8 (v * 256) x.toNat (by omega) (by have := x.toNat_lt; omega)
theorem take_go (v : Nat) (x : UInt8) (hv : v < 72057594037927936) : bits .or .u64 (IntKind.u64.wrap ((v : Int) * 256)) (IntKind.u64.wrap (x.toNat : Int)) = ((v * 256 + x.toNat : Nat) : Int) := by
  have hx := x.toNat_lt
  rw [IntWalk.u64_in _ (by omega), IntWalk.u64_in _ (by omega), show ((v : Int) * 256) = ((v * 256 : Nat) : Int) from by simp, u64_or_nat _ _ (by omega) (by omega), or_low]

end Go.Proofs.YtickjmkkgcfkhaaGreat

/- Contracts of Take, the program's and the reference's. -/
set_option linter.unusedSimpArgs false
set_option linter.unusedVariables false
set_option maxRecDepth 100000
namespace Go.Proofs.YtickjmkkgcfkhaaGreat
open Go.RowKit

set_option maxHeartbeats 400000 in
theorem take_yes (b : ByteArray) (a m : Nat) (w : World) (hm : m = 1 ∨ m = 2 ∨ m = 4 ∨ m = 8) (ha : a + m ≤ b.size) (hb : b.size ≤ 140737488355328) :
    Calls Tryz.prog 89 #[.string b, .int .i64 a, .int .i64 m] w fun e w' => e = .returned (.tuple #[.int .u64 (segV b a m : Nat), .int .i64 0]) ∧ w = w' := by
  have hm1 : (1 : Int) ≤ m ∧ (m : Int) ≤ 8 := by omega
  obtain ⟨hm2, hm3⟩ := hm1
  have hW := Lib.hid (widthI_yes (n := (m : Int)) (by omega))
  clear hm
  go_enter Tryz.func89, Tryz.ntmps89
  go_wp2_with (go_at_call 100; refine (width_any _ _ (by omega)).mono ?_; rintro e w' ⟨rfl, rfl⟩; rw [hW.out])
  go_loop [8, 26] (fun x i => ∃ (k t : Nat), k ≤ m ∧ i = .int .i64 k ∧ x = .int .u64 t ∧ Hid (t = segV b a k)) (fun _ i => m - (intOf i).toNat)
  case atStart => exact ⟨0, 0, Nat.zero_le _, rfl, rfl, (segV_zero b a).symm⟩
  case round =>
    obtain ⟨k, t, hk, rfl, rfl, ht⟩ := hrel
    by_cases hlt : k < m
    · have h8 : Hid (t < 72057594037927936) := by show t < _; rw [ht.out]; exact segV_lt8 b a (by omega)
      have hs : a + k < b.size := by omega
      go_wp2_with fail
      go_round
      case rel => exact ⟨k + 1, _, by omega, by go_num, by rw [take_go _ _ h8.out], by show _ = _; rw [ht.out, segV_succ hs]⟩
      case measure => simp [intOf]; omega
    · obtain rfl : k = m := by omega
      go_wp2_with fail
      go_ret2
      exact ⟨by rw [← ht.out]; rfl, rfl⟩

set_option maxHeartbeats 400000 in
theorem take_arg (b : ByteArray) (a n : Int) (w : World) (hn : -9223372036854775808 ≤ n ∧ n ≤ 9223372036854775807) (hm : ¬ (n = 1 ∨ n = 2 ∨ n = 4 ∨ n = 8)) :
    Calls Tryz.prog 89 #[.string b, .int .i64 a, .int .i64 n] w fun e w' => e = .returned (.tuple #[.int .u64 0, .int .i64 2]) ∧ w = w' := by
  have hW := Lib.hid (widthI_no hm)
  clear hm
  go_enter Tryz.func89, Tryz.ntmps89
  go_wp2_with (go_at_call 100; refine (width_any _ _ hn).mono ?_; rintro e w' ⟨rfl, rfl⟩; rw [hW.out])
  go_ret2
  exact ⟨rfl, rfl⟩

set_option maxHeartbeats 400000 in
theorem take_form (b : ByteArray) (a : Int) (m : Nat) (w : World) (hm : m = 1 ∨ m = 2 ∨ m = 4 ∨ m = 8) (ha : ¬ (0 ≤ a ∧ a + m ≤ b.size)) (hb : b.size ≤ 140737488355328) :
    Calls Tryz.prog 89 #[.string b, .int .i64 a, .int .i64 m] w fun e w' => e = .returned (.tuple #[.int .u64 0, .int .i64 4]) ∧ w = w' := by
  have hm1 : (1 : Int) ≤ m ∧ (m : Int) ≤ 8 := by omega
  obtain ⟨hm2, hm3⟩ := hm1
  have hW := Lib.hid (widthI_yes (n := (m : Int)) (by omega))
  clear hm
  by_cases h0 : a < 0
  · clear ha
    go_enter Tryz.func89, Tryz.ntmps89
    go_wp2_with (go_at_call 100; refine (width_any _ _ (by omega)).mono ?_; rintro e w' ⟨rfl, rfl⟩; rw [hW.out])
    go_ret2
    exact ⟨rfl, rfl⟩
  · have hgt : (b.size : Int) - m < a := by omega
    clear ha
    go_enter Tryz.func89, Tryz.ntmps89
    go_wp2_with (go_at_call 100; refine (width_any _ _ (by omega)).mono ?_; rintro e w' ⟨rfl, rfl⟩; rw [hW.out])
    go_ret2
    exact ⟨rfl, rfl⟩

theorem take_any (b : ByteArray) (a n : Int) (w : World) (hn : -9223372036854775808 ≤ n ∧ n ≤ 9223372036854775807) (hb : b.size ≤ 140737488355328) :
    Calls Tryz.prog 89 #[.string b, .int .i64 a, .int .i64 n] w fun e w' => e = .returned (.tuple #[.int .u64 (takeV b a n : Nat), .int .i64 (takeE b a n)]) ∧ w = w' := by
  by_cases hm : n = 1 ∨ n = 2 ∨ n = 4 ∨ n = 8
  · obtain ⟨m, rfl⟩ := Int.eq_ofNat_of_zero_le (a := n) (by omega)
    by_cases hl : 0 ≤ a ∧ a + m ≤ b.size
    · obtain ⟨a, rfl⟩ := Int.eq_ofNat_of_zero_le hl.1
      refine (take_yes b a m w (by omega) (by omega) hb).mono fun e w' ⟨h1, h2⟩ => ⟨?_, h2⟩
      rw [h1, takeV, takeE, if_pos ⟨hm, hl⟩, if_pos hm, if_pos hl]; rfl
    · refine (take_form b a m w (by omega) hl hb).mono fun e w' ⟨h1, h2⟩ => ⟨?_, h2⟩
      rw [h1, takeV, takeE, if_neg (fun h => hl h.2), if_pos hm, if_neg hl]; rfl
  · refine (take_arg b a n w hn hm).mono fun e w' ⟨h1, h2⟩ => ⟨?_, h2⟩
    rw [h1, takeV, takeE, if_neg (fun h => hm h.1), if_neg hm]; rfl

end Go.Proofs.YtickjmkkgcfkhaaGreat

/- Contract of the reference's Take. -/
set_option linter.unusedSimpArgs false
set_option linter.unusedVariables false
set_option maxRecDepth 100000
namespace Go.Proofs.YtickjmkkgcfkhaaGreat
open Go.RowKit

theorem take_ref (v : Nat) (x : UInt8) (hv : v < 72057594037927936) : IntKind.u64.wrap (IntKind.u64.wrap ((v : Int) * 256) + IntKind.u64.wrap (x.toNat : Int)) = ((v * 256 + x.toNat : Nat) : Int) := by
  have hx := x.toNat_lt
  rw [IntWalk.u64_in ((v : Int) * 256) (by omega), IntWalk.u64_in (x.toNat : Int) (by omega), IntWalk.u64_in _ (by omega)]
  simp

set_option maxHeartbeats 400000 in
theorem rtake_arg (b : ByteArray) (a n : Int) (w : World) (hm : ¬ (n = 1 ∨ n = 2 ∨ n = 4 ∨ n = 8)) :
    Calls Tryz.prog 71 #[.string b, .int .i64 a, .int .i64 n] w fun e w' => e = .returned (.tuple #[.int .u64 0, .int .i64 2]) ∧ w = w' := by
  have hS : Hid (sizeB n = false) := by show sizeB n = false; simpa [sizeB] using hm
  clear hm
  go_enter Tryz.func71, Tryz.ntmps71
  go_wp2_with (go_at_call 92; refine (rsize_any _ _).mono ?_; rintro e w' ⟨rfl, rfl⟩; rw [hS.out])
  go_ret2
  exact ⟨rfl, rfl⟩

set_option maxHeartbeats 400000 in
theorem rtake_form (b : ByteArray) (a : Int) (m : Nat) (w : World) (hm : m = 1 ∨ m = 2 ∨ m = 4 ∨ m = 8) (ha : ¬ (0 ≤ a ∧ a + m ≤ b.size)) (ha2 : -9223372036854775808 ≤ a ∧ a ≤ 9223372036854775807) (hb : b.size ≤ 140737488355328) :
    Calls Tryz.prog 71 #[.string b, .int .i64 a, .int .i64 m] w fun e w' => e = .returned (.tuple #[.int .u64 0, .int .i64 4]) ∧ w = w' := by
  have hS : Hid (sizeB m = true) := by show sizeB m = true; simp [sizeB]; omega
  have hm1 : (1 : Int) ≤ m ∧ (m : Int) ≤ 8 := by omega
  obtain ⟨hm2, hm3⟩ := hm1
  obtain ⟨ha3, ha4⟩ := ha2
  clear hm
  by_cases h0 : a < 0
  · clear ha
    go_enter Tryz.func71, Tryz.ntmps71
    go_wp2_with (go_at_call 92; refine (rsize_any _ _).mono ?_; rintro e w' ⟨rfl, rfl⟩; rw [hS.out])
    go_ret2
    exact ⟨rfl, rfl⟩
  · by_cases h1 : (b.size : Int) < a
    · clear ha
      go_enter Tryz.func71, Tryz.ntmps71
      go_wp2_with (go_at_call 92; refine (rsize_any _ _).mono ?_; rintro e w' ⟨rfl, rfl⟩; rw [hS.out])
      go_ret2
      exact ⟨rfl, rfl⟩
    · have hgt : (b.size : Int) - a < m := by omega
      clear ha
      go_enter Tryz.func71, Tryz.ntmps71
      go_wp2_with (go_at_call 92; refine (rsize_any _ _).mono ?_; rintro e w' ⟨rfl, rfl⟩; rw [hS.out])
      go_ret2
      exact ⟨rfl, rfl⟩

set_option maxHeartbeats 400000 in
theorem rtake_yes (b : ByteArray) (a m : Nat) (w : World) (hm : m = 1 ∨ m = 2 ∨ m = 4 ∨ m = 8) (ha : a + m ≤ b.size) (hb : b.size ≤ 140737488355328) :
    Calls Tryz.prog 71 #[.string b, .int .i64 a, .int .i64 m] w fun e w' => e = .returned (.tuple #[.int .u64 (segV b a m : Nat), .int .i64 0]) ∧ w = w' := by
  have hS : Hid (sizeB m = true) := by show sizeB m = true; simp [sizeB]; omega
  have hm1 : (1 : Int) ≤ m ∧ (m : Int) ≤ 8 := by omega
  obtain ⟨hm2, hm3⟩ := hm1
  clear hm
  have hd0 : decide ((a : Int) < 0) = false := decide_eq_false (by omega)
  have hd1 : decide (b.size < a) = false := decide_eq_false (by omega)
  have hd2 : decide ((b.size : Int) - (a : Int) < (m : Int)) = false := decide_eq_false (by omega)
  go_enter Tryz.func71, Tryz.ntmps71
  go_wp2_with (go_at_call 92; refine (rsize_any _ _).mono ?_; rintro e w' ⟨rfl, rfl⟩; rw [hS.out])
  go_loop [8, 9] (fun x i => ∃ (k t : Nat), k ≤ m ∧ i = .int .i64 k ∧ x = .int .u64 t ∧ Hid (t = segV b a k)) (fun _ i => m - (intOf i).toNat)
  case atStart => exact ⟨0, 0, Nat.zero_le _, rfl, rfl, (segV_zero b a).symm⟩
  case round =>
    obtain ⟨k, t, hk, rfl, rfl, ht⟩ := hrel
    by_cases hlt : k < m
    · have h8 : Hid (t < 72057594037927936) := by show t < _; rw [ht.out]; exact segV_lt8 b a (by omega)
      have hs : a + k < b.size := by omega
      go_wp2_with fail
      go_round
      case rel => exact ⟨k + 1, _, by omega, by go_num, by rw [take_ref _ _ h8.out], by show _ = _; rw [ht.out, segV_succ hs]⟩
      case measure => simp [intOf]; omega
    · obtain rfl : k = m := by omega
      go_wp2_with fail
      go_ret2
      exact ⟨by rw [← ht.out]; rfl, rfl⟩

theorem rtake_any (b : ByteArray) (a n : Int) (w : World) (ha2 : -9223372036854775808 ≤ a ∧ a ≤ 9223372036854775807) (hb : b.size ≤ 140737488355328) :
    Calls Tryz.prog 71 #[.string b, .int .i64 a, .int .i64 n] w fun e w' => e = .returned (.tuple #[.int .u64 (takeV b a n : Nat), .int .i64 (takeE b a n)]) ∧ w = w' := by
  by_cases hm : n = 1 ∨ n = 2 ∨ n = 4 ∨ n = 8
  · obtain ⟨m, rfl⟩ := Int.eq_ofNat_of_zero_le (a := n) (by omega)
    by_cases hl : 0 ≤ a ∧ a + m ≤ b.size
    · obtain ⟨a, rfl⟩ := Int.eq_ofNat_of_zero_le hl.1
      refine (rtake_yes b a m w (by omega) (by omega) hb).mono fun e w' ⟨h1, h2⟩ => ⟨?_, h2⟩
      rw [h1, takeV, takeE, if_pos ⟨hm, hl⟩, if_pos hm, if_pos hl]; rfl
    · refine (rtake_form b a m w (by omega) hl ha2 hb).mono fun e w' ⟨h1, h2⟩ => ⟨?_, h2⟩
      rw [h1, takeV, takeE, if_neg (fun h => hl h.2), if_pos hm, if_neg hl]; rfl
  · refine (rtake_arg b a n w hm).mono fun e w' ⟨h1, h2⟩ => ⟨?_, h2⟩
    rw [h1, takeV, takeE, if_neg (fun h => hm h.1), if_neg hm]; rfl

end Go.Proofs.YtickjmkkgcfkhaaGreat
