/- Several texts in one: RfA, RfB. Each says in its own first comment what it proves. -/
import Derived.Test.YtickjmkkgcfkhaaRows
import Derived.Test.YtickjmkkgcfkhaaBase
import Derived.Shelf.Strconv.Itoa0
import Derived.Test.YtickjmkkgcfkhaaWireG1
import Derived.Lib.BitFns
import Derived.Test.YtickjmkkgcfkhaaShelf
import Derived.Test.YtickjmkkgcfkhaaWireG2
import Derived.Deep.RegionWith
import Derived.Test.YtickjmkkgcfkhaaRegion
import Derived.Test.YtickjmkkgcfkhaaRecA
import Derived.Test.YtickjmkkgcfkhaaRecC
import Derived.Test.YtickjmkkgcfkhaaRecD
import Derived.Test.YtickjmkkgcfkhaaRecE
import Derived.Test.YtickjmkkgcfkhaaRecH
/- Contracts of package wire's small functions: width; math/bits.Len64 off the shelf. -/
set_option linter.unusedSimpArgs false
set_option linter.unusedVariables false
set_option maxRecDepth 100000
namespace Go.Proofs.Ytickjmkkgcfkhaa
open Go.RowKit

end Go.Proofs.Ytickjmkkgcfkhaa

/- Plain mathematics of package wire, first part: numbers as bytes, the highest first. No program is in sight. -/
set_option linter.unusedSimpArgs false
set_option linter.unusedVariables false
namespace Go.Proofs.Ytickjmkkgcfkhaa
open Go.RowKit

end Go.Proofs.Ytickjmkkgcfkhaa

/- Contract of wire.Put: a number is laid behind bytes. -/
set_option linter.unusedSimpArgs false
set_option linter.unusedVariables false
namespace Go.Proofs.Ytickjmkkgcfkhaa
open Go.RowKit

end Go.Proofs.Ytickjmkkgcfkhaa

/- Contract of the reference's Put. -/
set_option linter.unusedSimpArgs false
set_option linter.unusedVariables false
namespace Go.Proofs.Ytickjmkkgcfkhaa
open Go.RowKit

set_option maxHeartbeats 400000 in
theorem rsize_any (n : Int) (w : World) :
    Calls Try.prog 81 #[.int .i64 n] w fun e w' => e = .returned (.bool (sizeB n)) ∧ w = w' := by
  go_enter Try.func81, Try.ntmps81
  by_cases h1 : n = 1
  · subst h1; go_wp2; go_ret; exact ⟨ret_bool (by decide), rfl⟩
  by_cases h2 : n = 2
  · subst h2; go_wp2; go_ret; exact ⟨ret_bool (by decide), rfl⟩
  by_cases h4 : n = 4
  · subst h4; go_wp2; go_ret; exact ⟨ret_bool (by decide), rfl⟩
  by_cases h8 : n = 8
  · subst h8; go_wp2; go_ret; exact ⟨ret_bool (by decide), rfl⟩
  go_wp2
  go_ret
  exact ⟨ret_bool (by unfold sizeB; rw [Bool.eq_iff_iff]; simp only [Bool.or_eq_true, beq_iff_eq, decide_eq_true_eq]; omega), rfl⟩

set_option maxHeartbeats 400000 in
theorem rput_arg (b : ByteArray) (v : Nat) (n : Int) (w : World) (hm : ¬ (n = 1 ∨ n = 2 ∨ n = 4 ∨ n = 8)) :
    Calls Try.prog 45 #[.string b, .int .u64 v, .int .i64 n] w fun e w' => e = .returned (.tuple #[.string (bs []), .int .i64 2]) ∧ w = w' := by
  have hS : Hid (sizeB n = false) := by show sizeB n = false; simpa [sizeB] using hm
  clear hm
  go_enter Try.func45, Try.ntmps45
  go_wp2_with (go_at_call 81; refine (rsize_any _ _).mono ?_; rintro e w' ⟨rfl, rfl⟩; rw [hS.out])
  go_ret2
  exact ⟨rfl, rfl⟩

set_option maxHeartbeats 400000 in
theorem rput_yes (b : ByteArray) (v : Nat) (m : Nat) (w : World) (hm : m = 1 ∨ m = 2 ∨ m = 4 ∨ m = 8) (hv : v < 2 ^ (8 * m)) (hb : b.size ≤ 140737488355000) :
    Calls Try.prog 45 #[.string b, .int .u64 v, .int .i64 m] w fun e w' => e = .returned (.tuple #[.string (bs (b.data.toList ++ beL v m m)), .int .i64 0]) ∧ Below w.heap.size w w' := by
  have hS : Hid (sizeB m = true) := by show sizeB m = true; simp [sizeB]; omega
  have hm1 : (1 : Int) ≤ m ∧ (m : Int) ≤ 8 := by omega
  obtain ⟨hm2, hm3⟩ := hm1
  have hq := shr_none hv
  clear hm hv
  by_cases h8 : (m : Int) < 8
  all_goals
    go_enter Try.func45, Try.ntmps45
    go_wp2_with (go_at_call 81; refine (rsize_any _ _).mono ?_; rintro e w' ⟨rfl, rfl⟩; rw [hS.out])
    clear hq
    go_loopw [0, 8] (fun o i wr => ∃ k : Nat, k ≤ m ∧ i = .int .i64 ((m : Int) - 1 - (k : Int)) ∧ o = .string (bs (b.data.toList ++ beL v m k)) ∧ Below w.heap.size w wr) (fun _ i _ => (intOf i + 1).toNat)
    case atStart => exact ⟨0, Nat.zero_le _, by go_num, by rw [beL_zero, List.append_nil, bs_of], Below.refl _ _⟩
    case round =>
      obtain ⟨k, hk, rfl, rfl, hb⟩ := hrel
      by_cases hlt : k < m
      · have hbs := hb.size
        have hcv := run_string_one (P := Try.prog) wr (toU8 (v / 2 ^ (8 * (m - 1 - k)))) 52 9 5 Try.underlying52 Try.underlying5 Try.underlying9 _ (byteV_shr _ _)
        have hsz := bs_size
        have hbl : (beL v m k).length ≤ 8 := by rw [beL_len]; omega
        go_wp2_with fail
        clear hcv hsz
        go_roundw
        case rel => exact ⟨k + 1, by omega, by go_num, by rw [beL_succ, ← List.append_assoc, bs_append], hb.alloc hbs _⟩
        case measure => simp [intOf]; omega
      · obtain rfl : k = m := by omega
        go_wp2_with fail
        go_ret2
        exact ⟨rfl, hb⟩

set_option maxHeartbeats 400000 in
theorem rput_long (b : ByteArray) (v : Nat) (m : Nat) (w : World) (hm : m = 1 ∨ m = 2 ∨ m = 4 ∨ m = 8) (hv : ¬ v < 2 ^ (8 * m)) (hv64 : v < 18446744073709551616) :
    Calls Try.prog 45 #[.string b, .int .u64 v, .int .i64 m] w fun e w' => e = .returned (.tuple #[.string (bs []), .int .i64 3]) ∧ w = w' := by
  have hS : Hid (sizeB m = true) := by show sizeB m = true; simp [sizeB]; omega
  have hm1 : (1 : Int) ≤ m ∧ (m : Int) < 8 := by rcases hm with rfl | rfl | rfl | rfl <;> simp at hv ⊢; omega
  obtain ⟨hm2, hm3⟩ := hm1
  have hq := shr_some hv
  clear hm hv hv64
  go_enter Try.func45, Try.ntmps45
  go_wp2_with (go_at_call 81; refine (rsize_any _ _).mono ?_; rintro e w' ⟨rfl, rfl⟩; rw [hS.out])
  go_ret2
  exact ⟨rfl, rfl⟩

/-- The contract of the reference's 'Put' at all arguments: the same answers as the program's. -/
theorem rput_any (b : ByteArray) (v n : Int) (w : World) (hv : 0 ≤ v ∧ v ≤ 18446744073709551615) (hb : b.size ≤ 140737488355000) :
    Calls Try.prog 45 #[.string b, .int .u64 v, .int .i64 n] w fun e w' => e = .returned (.tuple #[.string (putS b v n), .int .i64 (putE v n)]) ∧ Below w.heap.size w w' := by
  obtain ⟨u, rfl⟩ := Int.eq_ofNat_of_zero_le hv.1
  by_cases hm : n = 1 ∨ n = 2 ∨ n = 4 ∨ n = 8
  · obtain ⟨m, rfl⟩ := Int.eq_ofNat_of_zero_le (a := n) (by omega)
    by_cases hl : u < 2 ^ (8 * m)
    · refine (rput_yes b u m w (by omega) hl hb).mono fun e w' ⟨h1, h2⟩ => ⟨?_, h2⟩
      rw [h1]; simp [putS, putE, hm, hl]
    · refine (rput_long b u m w (by omega) hl (by omega)).mono fun e w' ⟨h1, h2⟩ => ⟨?_, h2 ▸ Below.refl _ _⟩
      rw [h1]; simp [putS, putE, hm, hl]
  · refine (rput_arg b u n w hm).mono fun e w' ⟨h1, h2⟩ => ⟨?_, h2 ▸ Below.refl _ _⟩
    rw [h1]; simp [putS, putE, hm]

end Go.Proofs.Ytickjmkkgcfkhaa

/- Plain mathematics of numbers read off bytes, the highest first. No program is in sight. -/
set_option linter.unusedSimpArgs false
set_option linter.unusedVariables false
namespace Go.Proofs.Ytickjmkkgcfkhaa
open Go.RowKit

end Go.Proofs.Ytickjmkkgcfkhaa

/- Contracts of Take, the program's and the reference's. -/
set_option linter.unusedSimpArgs false
set_option linter.unusedVariables false
namespace Go.Proofs.Ytickjmkkgcfkhaa
open Go.RowKit

end Go.Proofs.Ytickjmkkgcfkhaa

/- Plain mathematics of the sum of bytes (16 bits, polynomial 0x1021): the steps over numbers. No program is in sight. -/
set_option linter.unusedSimpArgs false
set_option linter.unusedVariables false
namespace Go.Proofs.Ytickjmkkgcfkhaa
open Go.RowKit

/-! The same steps as the walk spells them. -/
end Go.Proofs.Ytickjmkkgcfkhaa

/- Contract of wire.more: a sum goes on over bytes. -/
set_option linter.unusedSimpArgs false
set_option linter.unusedVariables false
namespace Go.Proofs.Ytickjmkkgcfkhaa
open Go.RowKit

end Go.Proofs.Ytickjmkkgcfkhaa

/- Contracts of Sum, the program's and the reference's: the sum of all parts. -/
set_option linter.unusedSimpArgs false
set_option linter.unusedVariables false
namespace Go.Proofs.Ytickjmkkgcfkhaa
open Go.RowKit

set_option maxRecDepth 100000 in
set_option maxHeartbeats 1000000 in
theorem rsum_any (A : Option Addr) (c : Nat) (ss : List ByteArray) (w : World) (hl : ss.length ≤ 140737488355328) (hA : Strs w A ss) (hss : Small ss) :
    Calls Try.prog 46 #[.slice A ss.length c] w fun e w' => e = .returned (.int .u16 (sumL ss : Nat)) ∧ w = w' := by
  have hA' := Lib.hid hA
  have hS' := Lib.hid hss
  clear hA hss
  go_enter Try.func46, Try.ntmps46
  go_wp2_with fail
  go_loop [3, 4] (fun x i => ∃ (k t : Nat), k ≤ ss.length ∧ i = .int .i64 k ∧ x = .int .u16 t ∧ Hid (t = sumL (ss.take k))) (fun _ i => ss.length - (intOf i).toNat)
  case atStart => exact ⟨0, 65535, Nat.zero_le _, rfl, rfl, rfl⟩
  case round =>
    obtain ⟨k, t, hk, rfl, rfl, ht⟩ := hrel
    have ht16 : t < 65536 := by rw [ht.out]; exact sumL_lt _
    by_cases hlt : k < ss.length
    · obtain ⟨ad, hAd, hcell⟩ := hA'.out k hlt
      have hsz := hS'.out ss[k] (List.getElem_mem hlt)
      have e := Lib.hid (sumL_take hlt)
      obtain ⟨s, hs⟩ : ∃ s, s = ss[k] := ⟨_, rfl⟩
      rw [← hs] at hcell hsz e
      clear hs
      subst hAd
      go_wp2_with fail
      go_loop [3, 5] (fun x i => ∃ (q t' : Nat), q ≤ s.size ∧ i = .int .i64 q ∧ x = .int .u16 t' ∧ Hid (t' = crcN t (s.data.toList.take q))) (fun _ i => s.size - (intOf i).toNat)
      case atStart => exact ⟨0, t, Nat.zero_le _, rfl, rfl, rfl⟩
      case round =>
        obtain ⟨q, t', hq, rfl, rfl, ht'⟩ := hrel
        have ht16' : t' < 65536 := by rw [ht'.out]; exact crcN_lt _ ht16
        by_cases hqs : q < s.size
        · go_wp2_with fail
          have h0 := start_lt ht16' s[q]
          go_loop [3, 6] (fun x i => ∃ (j t'' : Nat), j ≤ 8 ∧ i = .int .i64 j ∧ x = .int .u16 t'' ∧ Hid (t'' = zK j (t' ^^^ (s[q].toNat * 256)))) (fun _ i => 8 - (intOf i).toNat)
          case atStart => exact ⟨0, _, Nat.zero_le _, rfl, by rw [start_go _ _ ht16']; rfl, rfl⟩
          case round =>
            obtain ⟨j, t'', hj, rfl, rfl, ht''⟩ := hrel
            have ht16'' : t'' < 65536 := by rw [ht''.out]; exact zK_lt h0 j
            by_cases hj8 : j < 8
            · by_cases hh : 32768 ≤ t''
              · have hd : decide ((32768 : Int) ≤ (t'' : Int)) = true := decide_eq_true (by omega)
                have hH := Lib.hid hh
                clear hh
                go_wp2_with fail
                go_round
                case rel => exact ⟨j + 1, zN t'', by omega, by go_num, by rw [step_high _ ht16'' hH.out], by rw [ht''.out]; rfl⟩
                case measure => simp [intOf]; omega
              · have hd : decide ((32768 : Int) ≤ (t'' : Int)) = false := decide_eq_false (by omega)
                have hH := Lib.hid hh
                clear hh
                go_wp2_with fail
                go_round
                case rel => exact ⟨j + 1, zN t'', by omega, by go_num, by rw [step_low _ (Nat.lt_of_not_le hH.out)], by rw [ht''.out]; rfl⟩
                case measure => simp [intOf]; omega
            · obtain rfl : j = 8 := by omega
              go_wp2_with fail
              go_round
              case rel => exact ⟨q + 1, t'', by omega, by go_num, rfl, by show t'' = _; rw [ht''.out, crcN_take hqs, ← ht'.out]; rfl⟩
              case measure => simp [intOf]; omega
        · obtain rfl : q = s.size := by omega
          go_wp2_with fail
          go_round
          case rel => exact ⟨k + 1, t', by omega, by go_num, rfl, by show t' = _; rw [e.out, ← ht.out, ht'.out, List.take_of_length_le (Nat.le_of_eq (by simp))]⟩
          case measure => simp [intOf]; omega
    · obtain rfl : k = ss.length := by omega
      have e : Hid (t = sumL ss) := by show t = _; rw [ht.out, List.take_of_length_le (Nat.le_refl _)]
      go_wp2_with fail
      go_ret
      exact ⟨by rw [← e.out]; rfl, rfl⟩

theorem rsum_lit (w W : World) (k : Nat) (ss : List ByteArray) (v : Value) (hk : k = w.heap.size) (hv : v = .slice (some ⟨k, 0, none⟩) ss.length ss.length) (hW : W = w.alloc (.cells (ss.map Value.string).toArray 9)) (hl : ss.length ≤ 140737488355328) (hss : Small ss) :
    Calls Try.prog 46 #[v] W fun e w' => e = .returned (.int .u16 (sumL ss : Nat)) ∧ W = w' := by
  subst hk; subst hv; subst hW
  exact rsum_any _ _ ss _ hl (strs_lit w _ ss) hss

end Go.Proofs.Ytickjmkkgcfkhaa

/- Plain mathematics of sealed bytes. No program is in sight. -/
set_option linter.unusedSimpArgs false
set_option linter.unusedVariables false
namespace Go.Proofs.Ytickjmkkgcfkhaa
open Go.RowKit

end Go.Proofs.Ytickjmkkgcfkhaa

/- Contracts of Seal and Open, the program's and the reference's. -/
set_option linter.unusedSimpArgs false
set_option linter.unusedVariables false
namespace Go.Proofs.Ytickjmkkgcfkhaa
open Go.RowKit

set_option maxHeartbeats 400000 in
theorem rseal_any (b : ByteArray) (w : World) (hb : b.size ≤ 140737488355000) :
    Calls Try.prog 26 #[.string b] w fun e w' => e = .returned (.string (sealB b)) ∧ Below w.heap.size w w' := by
  have hS := small_one (b := b) (by omega)
  have hlt := sumB_lt b
  go_enter Try.func26, Try.ntmps26
  go_wp2_with fail
  have h1 := rsum_lit w _ _ [b] _ rfl rfl rfl (by show 1 ≤ _; omega) hS
  rw [sumL_one] at h1
  refine h1.mono ?_
  rintro e w' ⟨rfl, rfl⟩
  clear h1
  go_wp2_with fail
  refine (rput_yes b (sumB b) 2 _ (by omega) (by omega) hb).mono ?_
  rintro e w2 ⟨rfl, hb2⟩
  go_wp2_with fail
  go_ret
  exact ⟨rfl, ((Below.refl _ _).alloc (Nat.le_refl _) _).trans (hb2.mono (by rw [World.size_alloc]; exact Nat.le_succ _))⟩

end Go.Proofs.Ytickjmkkgcfkhaa

/- Contracts of Open, the program's and the reference's. -/
set_option linter.unusedSimpArgs false
set_option linter.unusedVariables false
namespace Go.Proofs.Ytickjmkkgcfkhaa
open Go.RowKit

end Go.Proofs.Ytickjmkkgcfkhaa

/- Contracts of the reference's record: may it be. -/
set_option linter.unusedSimpArgs false
set_option linter.unusedVariables false
set_option maxRecDepth 100000
namespace Go.Proofs.Ytickjmkkgcfkhaa
open Go.RowKit Go.ChangeShapes Go.WideShapes

theorem rrtr_any (n : Int) (W : World) : Calls Try.prog 47 #[.int .i64 n] W fun e W' => e = .returned (.bool (rtr n)) ∧ W = W' := by
  by_cases h1 : 1 ≤ n
  · have e : rtr n = decide (n ≤ 24) := by unfold rtr; rw [decide_eq_true h1, Bool.true_and]
    have h1' : decide (1 ≤ n) = true := decide_eq_true h1
    have HE := Lib.hid e
    clear e
    go_enter Try.func47, Try.ntmps47
    go_wp2_with fail
    go_returns
    exact ⟨by rw [HE.out]; rfl, rfl⟩
  · have e : rtr n = false := by unfold rtr; rw [decide_eq_false h1, Bool.false_and]
    have h1' : decide (1 ≤ n) = false := decide_eq_false h1
    have HE := Lib.hid e
    clear e
    go_enter Try.func47, Try.ntmps47
    go_wp2_with fail
    go_returns
    exact ⟨by rw [HE.out]; rfl, rfl⟩

set_option maxRecDepth 100000 in
set_option maxHeartbeats 1600000 in
theorem rcheck_any (r : Rc) (sa : Option Addr) (sc : Nat) (W : World) (hA : AdjsIn W sa r.adjs) (hl : r.adjs.length ≤ maxLen) :
    Calls Try.prog 30 #[r.ag sa sc] W fun e W' => e = .returned (.int .i64 r.err) ∧ Below W.heap.size W W' := by
  unfold maxLen at hl
  obtain ⟨W1, hW1⟩ : ∃ W1, W1 = W.alloc (.cells (r.cs sa sc) 25) := ⟨_, rfl⟩
  have hb1 : Below W.heap.size W W1 := by rw [hW1]; exact (Below.refl _ _).alloc (Nat.le_refl _) _
  have hbx : BoxR W.heap.size r sa sc W1 := by rw [hW1]; exact heap_alloc_new _ _
  obtain ⟨x0, x1, x2, x3, x4, x5⟩ := hbx.cells
  have HBX := Lib.hid hbx
  have HW1 := Lib.hid hW1
  have HB1 := Lib.hid hb1
  have HAD := Lib.hid hA
  have HCS := Lib.hid (chk_cases r)
  have HR := Lib.hid (fun V => rrtr_any r.org V)
  clear hW1 hb1 hA hbx
  rcases HCS.out with ⟨h1, he⟩ | ⟨h1, h2, he⟩ | ⟨h1, h2, h3, he⟩ | ⟨h1, h2, h3, h4, he⟩ | ⟨h1, h2, h3, h4, h5, he⟩ | ⟨h1, h2, h3, h4, h5, h6, he⟩ | ⟨h1, h2, h3, h4, h5, h6, he⟩
  · have H1 := Lib.hid h1
    have HE := Lib.hid he
    clear h1 he
    go_enter Try.func30, Try.ntmps30
    unfold Rc.ag Rc.cs at *
    go_wp2_with fail
    rw [← HW1.out]
    refine (HR.out _).mono ?_
    rintro e w ⟨rfl, rfl⟩
    rw [H1.out]
    go_wp2_with fail
    go_returns
    exact ⟨by rw [HE.out]; rfl, HB1.out⟩
  · have H1 := Lib.hid h1
    have HE := Lib.hid he
    have e2 : ((r.ep : Int) == 0) = true := by simp [h2]
    clear h1 he h2
    go_enter Try.func30, Try.ntmps30
    unfold Rc.ag Rc.cs at *
    go_wp2_with fail
    rw [← HW1.out]
    refine (HR.out _).mono ?_
    rintro e w ⟨rfl, rfl⟩
    rw [H1.out]
    go_wp2_with fail
    go_returns
    exact ⟨by rw [HE.out]; rfl, HB1.out⟩
  · have H1 := Lib.hid h1
    have HE := Lib.hid he
    have e2 : ((r.ep : Int) == 0) = false := by simp [h2]
    have e3 : ((r.sq : Int) == 0) = true := by simp [h3]
    clear h1 he h2 h3
    go_enter Try.func30, Try.ntmps30
    unfold Rc.ag Rc.cs at *
    go_wp2_with fail
    rw [← HW1.out]
    refine (HR.out _).mono ?_
    rintro e w ⟨rfl, rfl⟩
    rw [H1.out]
    go_wp2_with fail
    go_returns
    exact ⟨by rw [HE.out]; rfl, HB1.out⟩
  · have H1 := Lib.hid h1
    have HE := Lib.hid he
    have e2 : ((r.ep : Int) == 0) = false := by simp [h2]
    have e3 : ((r.sq : Int) == 0) = false := by simp [h3]
    clear h1 he h2 h3
    go_enter Try.func30, Try.ntmps30
    unfold Rc.ag Rc.cs at *
    go_wp2_with fail
    rw [← HW1.out]
    refine (HR.out _).mono ?_
    rintro e w ⟨rfl, rfl⟩
    rw [H1.out]
    go_wp2_with fail
    go_returns
    exact ⟨by rw [HE.out]; rfl, HB1.out⟩
  · have H1 := Lib.hid h1
    have HE := Lib.hid he
    have e2 : ((r.ep : Int) == 0) = false := by simp [h2]
    have e3 : ((r.sq : Int) == 0) = false := by simp [h3]
    clear h1 he h2 h3
    go_enter Try.func30, Try.ntmps30
    unfold Rc.ag Rc.cs at *
    go_wp2_with fail
    rw [← HW1.out]
    refine (HR.out _).mono ?_
    rintro e w ⟨rfl, rfl⟩
    rw [H1.out]
    go_wp2_with fail
    go_returns
    exact ⟨by rw [HE.out]; rfl, HB1.out⟩
  · have H1 := Lib.hid h1
    have HE := Lib.hid he
    have e2 : ((r.ep : Int) == 0) = false := by simp [h2]
    have e3 : ((r.sq : Int) == 0) = false := by simp [h3]
    clear h1 he h2 h3
    go_enter Try.func30, Try.ntmps30
    unfold Rc.ag Rc.cs at *
    go_wp2_with fail
    rw [← HW1.out]
    refine (HR.out _).mono ?_
    rintro e w ⟨rfl, rfl⟩
    rw [H1.out]
    go_wp2_with fail
    go_returns
    exact ⟨by rw [HE.out]; rfl, HB1.out⟩
  · have H1 := Lib.hid h1
    have HE := Lib.hid he
    have e2 : ((r.ep : Int) == 0) = false := by simp [h2]
    have e3 : ((r.sq : Int) == 0) = false := by simp [h3]
    clear h1 he h2 h3
    go_enter Try.func30, Try.ntmps30
    unfold Rc.ag Rc.cs at *
    go_wp2_with fail
    rw [← HW1.out]
    refine (HR.out _).mono ?_
    rintro e w ⟨rfl, rfl⟩
    rw [H1.out]
    go_wp2_with fail
    go_loopw [3] (fun i wr => RChkRel W r sa sc i wr) (fun i _ => 17 - (intOf i).toNat)
    case atStart => exact ⟨0, 0, rfl, Nat.zero_le _, .inl ⟨rfl, rfl⟩, by rw [List.drop_zero], HBX.out, HB1.out⟩
    case round =>
      obtain ⟨k, z, rfl, hk, hkz, hch, hbx, hb⟩ := hrel
      by_cases hlt : k < r.adjs.length
      · obtain ⟨ad, ha, c0, c1⟩ := HAD.out k hlt
        have hd : r.adjs.drop k = r.adjs.getD k default :: r.adjs.drop (k + 1) := by
          rw [List.drop_eq_getElem_cons hlt, List.getD_eq_getElem?_getD, List.getElem?_eq_getElem hlt]; rfl
        rw [hd] at hch
        obtain ⟨a, hae⟩ : ∃ a, a = r.adjs.getD k default := ⟨_, rfl⟩
        rw [← hae] at c0 c1 hch
        obtain ⟨X, hX⟩ : ∃ X, X = wr.alloc (.cells #[.int .i64 a.1, .int .i64 a.2] 81) := ⟨_, rfl⟩
        have hbX : Below wr.heap.size wr X := by rw [hX]; exact (Below.refl _ _).alloc (Nat.le_refl _) _
        obtain ⟨q, hq⟩ : ∃ q, q = wr.heap.size := ⟨_, rfl⟩
        have HS := Lib.hid (show RcS W r sa sc q a X.drew from ⟨(show BoxR W.heap.size r sa sc X from hbx.later hbX), by rw [hX, hq]; exact heap_alloc_new _ _, (hb.trans (hbX.mono hb.size)).trans ⟨rfl, rfl, rfl, Nat.le_refl _, fun _ _ => rfl⟩⟩)
        have HX := Lib.hid hX
        have HQ := Lib.hid hq
        have HAE := Lib.hid hae
        have HV := Lib.hid (show ∀ V, Below W.heap.size W V → AdjsIn V sa r.adjs from fun V hV => HAD.out.later hV)
        have c0' := (hb.cell (block_lt_of_cell c0)).trans c0
        have c1' := (hb.cell (block_lt_of_cell c1)).trans c1
        obtain ⟨x0, x1, x2, x3, x4, x5⟩ := hbx.cells
        have hkl : (k : Int) < (r.adjs.length : Int) := by omega
        subst ha
        clear hX hbX hbx hd hae c0 c1 hb hq
        rcases hkz with ⟨hk0, hz0⟩ | ⟨hk0, hz⟩
        · subst hz0
          have hk0' : decide (0 < k) = false := decide_eq_false (by omega)
          clear hk0
          have hcs : (rtr a.1 = false ∧ chkA r.org 0 (a :: r.adjs.drop (k + 1)) = false) ∨ (rtr a.1 = true ∧ a.1 = r.org ∧ chkA r.org 0 (a :: r.adjs.drop (k + 1)) = false) ∨ (rtr a.1 = true ∧ a.1 ≠ r.org ∧ a.2 < 1 ∧ chkA r.org 0 (a :: r.adjs.drop (k + 1)) = false) ∨ (rtr a.1 = true ∧ a.1 ≠ r.org ∧ 1 ≤ a.2 ∧ 1000 < a.2 ∧ chkA r.org 0 (a :: r.adjs.drop (k + 1)) = false) ∨ (rtr a.1 = true ∧ a.1 ≠ r.org ∧ 1 ≤ a.2 ∧ a.2 ≤ 1000 ∧ chkA r.org 0 (a :: r.adjs.drop (k + 1)) = chkA r.org a.1 (r.adjs.drop (k + 1))) := by
            rcases chkA_cases r.org 0 a (r.adjs.drop (k + 1)) with h | h | h | h | ⟨h, _, _, _, h5, _⟩ | ⟨h1, h2, h3, h4, _, h6⟩
            · exact .inl h
            · exact .inr (.inl h)
            · exact .inr (.inr (.inl h))
            · exact .inr (.inr (.inr (.inl h)))
            · simp only [rtr, Bool.and_eq_true, decide_eq_true_eq] at h; omega
            · exact .inr (.inr (.inr (.inr ⟨h1, h2, h3, h4, h6⟩)))
          rcases hcs with ⟨g1, gc⟩ | ⟨g1, g2, gc⟩ | ⟨g1, g2, g3, gc⟩ | ⟨g1, g2, g3, g4, gc⟩ | ⟨g1, g2, g3, g4, gc⟩
          · have G1 := Lib.hid g1
            have HE2 := Lib.hid (show r.err = 2 by rw [HE.out, hch, gc]; rfl)
            clear g1 gc hch
            go_wp2_with fail
            rw [← HX.out, ← HQ.out]
            refine wp_region_ord [(0, true), (1, true), (2, false), (3, true), (4, true), (5, true), (6, true), (7, true), (8, true), (9, true), (10, true), (11, true), (12, true), (13, true), (14, true), (15, true), (16, true), (17, true), (18, true), (19, true), (20, true), (21, true), (22, true), (23, true), (24, true), (25, true), (26, true), (27, true), (28, true), (29, true), (30, true), (31, true), (32, true), (33, true), (34, true), (35, true), (36, true)] (RcS W r (some ad) sc q a) (by kernel_rfl) (by kernel_rfl) (by decide) (by kernel_rfl) (fun d _ _ _ _ h => by cases d <;> exact h) HS.out ?_
            iterate 2 ((apply wpOrd_take rfl rfl (by kernel_rfl); (intro V hV; obtain ⟨x0, x1, x2, x3, x4, x5⟩ := BoxR.cells hV.box; obtain ⟨b0, b1⟩ := BoxA.cells hV.el; go_simp; rfl)); (try simp only [List.setIfInBounds_toArray, List.set_cons_succ, List.set_cons_zero]))
            apply wpOrd_do rfl (by kernel_rfl)
            intro K hK
            go_simp
            refine (rrtr_any a.1 _).mono ?_
            rintro e w ⟨rfl, rfl⟩
            rw [G1.out]
            refine hK _ _ HS.out ?_
            clear hK K
            iterate 2 ((apply wpOrd_take rfl rfl (by kernel_rfl); (intro V hV; obtain ⟨x0, x1, x2, x3, x4, x5⟩ := BoxR.cells hV.box; obtain ⟨b0, b1⟩ := BoxA.cells hV.el; go_simp; rfl)); (try simp only [List.setIfInBounds_toArray, List.set_cons_succ, List.set_cons_zero]))
            iterate 5 ((apply wpOrd_skip rfl rfl (by kernel_rfl)); (try simp only [List.setIfInBounds_toArray, List.set_cons_succ, List.set_cons_zero]))
            iterate 2 ((apply wpOrd_take rfl rfl (by kernel_rfl); (intro V hV; obtain ⟨x0, x1, x2, x3, x4, x5⟩ := BoxR.cells hV.box; obtain ⟨b0, b1⟩ := BoxA.cells hV.el; go_simp; rfl)); (try simp only [List.setIfInBounds_toArray, List.set_cons_succ, List.set_cons_zero]))
            iterate 3 ((apply wpOrd_skip rfl rfl (by kernel_rfl)); (try simp only [List.setIfInBounds_toArray, List.set_cons_succ, List.set_cons_zero]))
            iterate 2 ((apply wpOrd_take rfl rfl (by kernel_rfl); (intro V hV; obtain ⟨x0, x1, x2, x3, x4, x5⟩ := BoxR.cells hV.box; obtain ⟨b0, b1⟩ := BoxA.cells hV.el; go_simp; rfl)); (try simp only [List.setIfInBounds_toArray, List.set_cons_succ, List.set_cons_zero]))
            iterate 3 ((apply wpOrd_skip rfl rfl (by kernel_rfl)); (try simp only [List.setIfInBounds_toArray, List.set_cons_succ, List.set_cons_zero]))
            iterate 2 ((apply wpOrd_take rfl rfl (by kernel_rfl); (intro V hV; obtain ⟨x0, x1, x2, x3, x4, x5⟩ := BoxR.cells hV.box; obtain ⟨b0, b1⟩ := BoxA.cells hV.el; go_simp; rfl)); (try simp only [List.setIfInBounds_toArray, List.set_cons_succ, List.set_cons_zero]))
            iterate 3 ((apply wpOrd_skip rfl rfl (by kernel_rfl)); (try simp only [List.setIfInBounds_toArray, List.set_cons_succ, List.set_cons_zero]))
            iterate 10 ((apply wpOrd_skip rfl rfl (by kernel_rfl)); (try simp only [List.setIfInBounds_toArray, List.set_cons_succ, List.set_cons_zero]))
            iterate 1 ((apply wpOrd_skip rfl rfl (by kernel_rfl)); (try simp only [List.setIfInBounds_toArray, List.set_cons_succ, List.set_cons_zero]))
            iterate 1 ((apply wpOrd_take rfl rfl (by kernel_rfl); (intro V hV; obtain ⟨x0, x1, x2, x3, x4, x5⟩ := BoxR.cells hV.box; obtain ⟨b0, b1⟩ := BoxA.cells hV.el; go_simp; rfl)); (try simp only [List.setIfInBounds_toArray, List.set_cons_succ, List.set_cons_zero]))
            refine wpOrd_nil ?_
            go_wp2_with fail
            go_returns
            exact ⟨by rw [HE2.out]; rfl, HS.out.bel⟩
          · have G1 := Lib.hid g1
            have e2 : (a.1 == r.org) = true := by rw [beq_iff_eq]; exact g2
            have HE2 := Lib.hid (show r.err = 2 by rw [HE.out, hch, gc]; rfl)
            clear g1 g2 gc hch
            go_wp2_with fail
            rw [← HX.out, ← HQ.out]
            refine wp_region_ord [(0, true), (1, true), (2, false), (3, true), (4, true), (5, true), (6, true), (7, true), (8, true), (9, true), (10, true), (11, true), (12, true), (13, true), (14, true), (15, true), (16, true), (17, true), (18, true), (19, true), (20, true), (21, true), (22, true), (23, true), (24, true), (25, true), (26, true), (27, true), (28, true), (29, true), (30, true), (31, true), (32, true), (33, true), (34, true), (35, true), (36, true)] (RcS W r (some ad) sc q a) (by kernel_rfl) (by kernel_rfl) (by decide) (by kernel_rfl) (fun d _ _ _ _ h => by cases d <;> exact h) HS.out ?_
            iterate 2 ((apply wpOrd_take rfl rfl (by kernel_rfl); (intro V hV; obtain ⟨x0, x1, x2, x3, x4, x5⟩ := BoxR.cells hV.box; obtain ⟨b0, b1⟩ := BoxA.cells hV.el; go_simp; rfl)); (try simp only [List.setIfInBounds_toArray, List.set_cons_succ, List.set_cons_zero]))
            apply wpOrd_do rfl (by kernel_rfl)
            intro K hK
            go_simp
            refine (rrtr_any a.1 _).mono ?_
            rintro e w ⟨rfl, rfl⟩
            rw [G1.out]
            refine hK _ _ HS.out ?_
            clear hK K
            iterate 2 ((apply wpOrd_take rfl rfl (by kernel_rfl); (intro V hV; obtain ⟨x0, x1, x2, x3, x4, x5⟩ := BoxR.cells hV.box; obtain ⟨b0, b1⟩ := BoxA.cells hV.el; go_simp; rfl)); (try simp only [List.setIfInBounds_toArray, List.set_cons_succ, List.set_cons_zero]))
            iterate 5 ((apply wpOrd_take rfl rfl (by kernel_rfl); (intro V hV; obtain ⟨x0, x1, x2, x3, x4, x5⟩ := BoxR.cells hV.box; obtain ⟨b0, b1⟩ := BoxA.cells hV.el; go_simp; rfl)); (try simp only [List.setIfInBounds_toArray, List.set_cons_succ, List.set_cons_zero]))
            iterate 2 ((apply wpOrd_take rfl rfl (by kernel_rfl); (intro V hV; obtain ⟨x0, x1, x2, x3, x4, x5⟩ := BoxR.cells hV.box; obtain ⟨b0, b1⟩ := BoxA.cells hV.el; go_simp; rfl)); (try simp only [List.setIfInBounds_toArray, List.set_cons_succ, List.set_cons_zero]))
            iterate 3 ((apply wpOrd_skip rfl rfl (by kernel_rfl)); (try simp only [List.setIfInBounds_toArray, List.set_cons_succ, List.set_cons_zero]))
            iterate 2 ((apply wpOrd_take rfl rfl (by kernel_rfl); (intro V hV; obtain ⟨x0, x1, x2, x3, x4, x5⟩ := BoxR.cells hV.box; obtain ⟨b0, b1⟩ := BoxA.cells hV.el; go_simp; rfl)); (try simp only [List.setIfInBounds_toArray, List.set_cons_succ, List.set_cons_zero]))
            iterate 3 ((apply wpOrd_skip rfl rfl (by kernel_rfl)); (try simp only [List.setIfInBounds_toArray, List.set_cons_succ, List.set_cons_zero]))
            iterate 2 ((apply wpOrd_take rfl rfl (by kernel_rfl); (intro V hV; obtain ⟨x0, x1, x2, x3, x4, x5⟩ := BoxR.cells hV.box; obtain ⟨b0, b1⟩ := BoxA.cells hV.el; go_simp; rfl)); (try simp only [List.setIfInBounds_toArray, List.set_cons_succ, List.set_cons_zero]))
            iterate 3 ((apply wpOrd_skip rfl rfl (by kernel_rfl)); (try simp only [List.setIfInBounds_toArray, List.set_cons_succ, List.set_cons_zero]))
            iterate 10 ((apply wpOrd_skip rfl rfl (by kernel_rfl)); (try simp only [List.setIfInBounds_toArray, List.set_cons_succ, List.set_cons_zero]))
            iterate 1 ((apply wpOrd_skip rfl rfl (by kernel_rfl)); (try simp only [List.setIfInBounds_toArray, List.set_cons_succ, List.set_cons_zero]))
            iterate 1 ((apply wpOrd_take rfl rfl (by kernel_rfl); (intro V hV; obtain ⟨x0, x1, x2, x3, x4, x5⟩ := BoxR.cells hV.box; obtain ⟨b0, b1⟩ := BoxA.cells hV.el; go_simp; rfl)); (try simp only [List.setIfInBounds_toArray, List.set_cons_succ, List.set_cons_zero]))
            refine wpOrd_nil ?_
            go_wp2_with fail
            go_returns
            exact ⟨by rw [HE2.out]; rfl, HS.out.bel⟩
          · have G1 := Lib.hid g1
            have e2 : (a.1 == r.org) = false := by rw [beq_eq_false_iff_ne]; exact g2
            have e3 : decide (a.2 < 1) = true := decide_eq_true g3
            have HE2 := Lib.hid (show r.err = 2 by rw [HE.out, hch, gc]; rfl)
            clear g1 g2 gc hch
            go_wp2_with fail
            rw [← HX.out, ← HQ.out]
            refine wp_region_ord [(0, true), (1, true), (2, false), (3, true), (4, true), (5, true), (6, true), (7, true), (8, true), (9, true), (10, true), (11, true), (12, true), (13, true), (14, true), (15, true), (16, true), (17, true), (18, true), (19, true), (20, true), (21, true), (22, true), (23, true), (24, true), (25, true), (26, true), (27, true), (28, true), (29, true), (30, true), (31, true), (32, true), (33, true), (34, true), (35, true), (36, true)] (RcS W r (some ad) sc q a) (by kernel_rfl) (by kernel_rfl) (by decide) (by kernel_rfl) (fun d _ _ _ _ h => by cases d <;> exact h) HS.out ?_
            iterate 2 ((apply wpOrd_take rfl rfl (by kernel_rfl); (intro V hV; obtain ⟨x0, x1, x2, x3, x4, x5⟩ := BoxR.cells hV.box; obtain ⟨b0, b1⟩ := BoxA.cells hV.el; go_simp; rfl)); (try simp only [List.setIfInBounds_toArray, List.set_cons_succ, List.set_cons_zero]))
            apply wpOrd_do rfl (by kernel_rfl)
            intro K hK
            go_simp
            refine (rrtr_any a.1 _).mono ?_
            rintro e w ⟨rfl, rfl⟩
            rw [G1.out]
            refine hK _ _ HS.out ?_
            clear hK K
            iterate 2 ((apply wpOrd_take rfl rfl (by kernel_rfl); (intro V hV; obtain ⟨x0, x1, x2, x3, x4, x5⟩ := BoxR.cells hV.box; obtain ⟨b0, b1⟩ := BoxA.cells hV.el; go_simp; rfl)); (try simp only [List.setIfInBounds_toArray, List.set_cons_succ, List.set_cons_zero]))
            iterate 5 ((apply wpOrd_take rfl rfl (by kernel_rfl); (intro V hV; obtain ⟨x0, x1, x2, x3, x4, x5⟩ := BoxR.cells hV.box; obtain ⟨b0, b1⟩ := BoxA.cells hV.el; go_simp; rfl)); (try simp only [List.setIfInBounds_toArray, List.set_cons_succ, List.set_cons_zero]))
            iterate 2 ((apply wpOrd_take rfl rfl (by kernel_rfl); (intro V hV; obtain ⟨x0, x1, x2, x3, x4, x5⟩ := BoxR.cells hV.box; obtain ⟨b0, b1⟩ := BoxA.cells hV.el; go_simp; rfl)); (try simp only [List.setIfInBounds_toArray, List.set_cons_succ, List.set_cons_zero]))
            iterate 3 ((apply wpOrd_take rfl rfl (by kernel_rfl); (intro V hV; obtain ⟨x0, x1, x2, x3, x4, x5⟩ := BoxR.cells hV.box; obtain ⟨b0, b1⟩ := BoxA.cells hV.el; go_simp; rfl)); (try simp only [List.setIfInBounds_toArray, List.set_cons_succ, List.set_cons_zero]))
            iterate 2 ((apply wpOrd_take rfl rfl (by kernel_rfl); (intro V hV; obtain ⟨x0, x1, x2, x3, x4, x5⟩ := BoxR.cells hV.box; obtain ⟨b0, b1⟩ := BoxA.cells hV.el; go_simp; rfl)); (try simp only [List.setIfInBounds_toArray, List.set_cons_succ, List.set_cons_zero]))
            iterate 3 ((apply wpOrd_skip rfl rfl (by kernel_rfl)); (try simp only [List.setIfInBounds_toArray, List.set_cons_succ, List.set_cons_zero]))
            iterate 2 ((apply wpOrd_take rfl rfl (by kernel_rfl); (intro V hV; obtain ⟨x0, x1, x2, x3, x4, x5⟩ := BoxR.cells hV.box; obtain ⟨b0, b1⟩ := BoxA.cells hV.el; go_simp; rfl)); (try simp only [List.setIfInBounds_toArray, List.set_cons_succ, List.set_cons_zero]))
            iterate 3 ((apply wpOrd_skip rfl rfl (by kernel_rfl)); (try simp only [List.setIfInBounds_toArray, List.set_cons_succ, List.set_cons_zero]))
            iterate 10 ((apply wpOrd_skip rfl rfl (by kernel_rfl)); (try simp only [List.setIfInBounds_toArray, List.set_cons_succ, List.set_cons_zero]))
            iterate 1 ((apply wpOrd_skip rfl rfl (by kernel_rfl)); (try simp only [List.setIfInBounds_toArray, List.set_cons_succ, List.set_cons_zero]))
            iterate 1 ((apply wpOrd_take rfl rfl (by kernel_rfl); (intro V hV; obtain ⟨x0, x1, x2, x3, x4, x5⟩ := BoxR.cells hV.box; obtain ⟨b0, b1⟩ := BoxA.cells hV.el; go_simp; rfl)); (try simp only [List.setIfInBounds_toArray, List.set_cons_succ, List.set_cons_zero]))
            refine wpOrd_nil ?_
            go_wp2_with fail
            go_returns
            exact ⟨by rw [HE2.out]; rfl, HS.out.bel⟩
          · have G1 := Lib.hid g1
            have e2 : (a.1 == r.org) = false := by rw [beq_eq_false_iff_ne]; exact g2
            have e3 : decide (a.2 < 1) = false := decide_eq_false (by omega)
            have e4 : decide (1000 < a.2) = true := decide_eq_true g4
            have HE2 := Lib.hid (show r.err = 2 by rw [HE.out, hch, gc]; rfl)
            clear g1 g2 gc hch
            go_wp2_with fail
            rw [← HX.out, ← HQ.out]
            refine wp_region_ord [(0, true), (1, true), (2, false), (3, true), (4, true), (5, true), (6, true), (7, true), (8, true), (9, true), (10, true), (11, true), (12, true), (13, true), (14, true), (15, true), (16, true), (17, true), (18, true), (19, true), (20, true), (21, true), (22, true), (23, true), (24, true), (25, true), (26, true), (27, true), (28, true), (29, true), (30, true), (31, true), (32, true), (33, true), (34, true), (35, true), (36, true)] (RcS W r (some ad) sc q a) (by kernel_rfl) (by kernel_rfl) (by decide) (by kernel_rfl) (fun d _ _ _ _ h => by cases d <;> exact h) HS.out ?_
            iterate 2 ((apply wpOrd_take rfl rfl (by kernel_rfl); (intro V hV; obtain ⟨x0, x1, x2, x3, x4, x5⟩ := BoxR.cells hV.box; obtain ⟨b0, b1⟩ := BoxA.cells hV.el; go_simp; rfl)); (try simp only [List.setIfInBounds_toArray, List.set_cons_succ, List.set_cons_zero]))
            apply wpOrd_do rfl (by kernel_rfl)
            intro K hK
            go_simp
            refine (rrtr_any a.1 _).mono ?_
            rintro e w ⟨rfl, rfl⟩
            rw [G1.out]
            refine hK _ _ HS.out ?_
            clear hK K
            iterate 2 ((apply wpOrd_take rfl rfl (by kernel_rfl); (intro V hV; obtain ⟨x0, x1, x2, x3, x4, x5⟩ := BoxR.cells hV.box; obtain ⟨b0, b1⟩ := BoxA.cells hV.el; go_simp; rfl)); (try simp only [List.setIfInBounds_toArray, List.set_cons_succ, List.set_cons_zero]))
            iterate 5 ((apply wpOrd_take rfl rfl (by kernel_rfl); (intro V hV; obtain ⟨x0, x1, x2, x3, x4, x5⟩ := BoxR.cells hV.box; obtain ⟨b0, b1⟩ := BoxA.cells hV.el; go_simp; rfl)); (try simp only [List.setIfInBounds_toArray, List.set_cons_succ, List.set_cons_zero]))
            iterate 2 ((apply wpOrd_take rfl rfl (by kernel_rfl); (intro V hV; obtain ⟨x0, x1, x2, x3, x4, x5⟩ := BoxR.cells hV.box; obtain ⟨b0, b1⟩ := BoxA.cells hV.el; go_simp; rfl)); (try simp only [List.setIfInBounds_toArray, List.set_cons_succ, List.set_cons_zero]))
            iterate 3 ((apply wpOrd_take rfl rfl (by kernel_rfl); (intro V hV; obtain ⟨x0, x1, x2, x3, x4, x5⟩ := BoxR.cells hV.box; obtain ⟨b0, b1⟩ := BoxA.cells hV.el; go_simp; rfl)); (try simp only [List.setIfInBounds_toArray, List.set_cons_succ, List.set_cons_zero]))
            iterate 2 ((apply wpOrd_take rfl rfl (by kernel_rfl); (intro V hV; obtain ⟨x0, x1, x2, x3, x4, x5⟩ := BoxR.cells hV.box; obtain ⟨b0, b1⟩ := BoxA.cells hV.el; go_simp; rfl)); (try simp only [List.setIfInBounds_toArray, List.set_cons_succ, List.set_cons_zero]))
            iterate 3 ((apply wpOrd_take rfl rfl (by kernel_rfl); (intro V hV; obtain ⟨x0, x1, x2, x3, x4, x5⟩ := BoxR.cells hV.box; obtain ⟨b0, b1⟩ := BoxA.cells hV.el; go_simp; rfl)); (try simp only [List.setIfInBounds_toArray, List.set_cons_succ, List.set_cons_zero]))
            iterate 2 ((apply wpOrd_take rfl rfl (by kernel_rfl); (intro V hV; obtain ⟨x0, x1, x2, x3, x4, x5⟩ := BoxR.cells hV.box; obtain ⟨b0, b1⟩ := BoxA.cells hV.el; go_simp; rfl)); (try simp only [List.setIfInBounds_toArray, List.set_cons_succ, List.set_cons_zero]))
            iterate 3 ((apply wpOrd_skip rfl rfl (by kernel_rfl)); (try simp only [List.setIfInBounds_toArray, List.set_cons_succ, List.set_cons_zero]))
            iterate 10 ((apply wpOrd_skip rfl rfl (by kernel_rfl)); (try simp only [List.setIfInBounds_toArray, List.set_cons_succ, List.set_cons_zero]))
            iterate 1 ((apply wpOrd_skip rfl rfl (by kernel_rfl)); (try simp only [List.setIfInBounds_toArray, List.set_cons_succ, List.set_cons_zero]))
            iterate 1 ((apply wpOrd_take rfl rfl (by kernel_rfl); (intro V hV; obtain ⟨x0, x1, x2, x3, x4, x5⟩ := BoxR.cells hV.box; obtain ⟨b0, b1⟩ := BoxA.cells hV.el; go_simp; rfl)); (try simp only [List.setIfInBounds_toArray, List.set_cons_succ, List.set_cons_zero]))
            refine wpOrd_nil ?_
            go_wp2_with fail
            go_returns
            exact ⟨by rw [HE2.out]; rfl, HS.out.bel⟩
          · have G1 := Lib.hid g1
            have e2 : (a.1 == r.org) = false := by rw [beq_eq_false_iff_ne]; exact g2
            have e3 : decide (a.2 < 1) = false := decide_eq_false (by omega)
            have e4 : decide (1000 < a.2) = false := decide_eq_false (by omega)
            have HREL := Lib.hid (show ∀ V, RcS W r (some ad) sc q a V → RChkRel W r (some ad) sc (.int .i64 ((k : Int) + 1)) V from fun V hV => ⟨k + 1, a.1, by go_num, hlt, .inr ⟨Nat.succ_pos _, by rw [Nat.add_sub_cancel, ← HAE.out]⟩, by rw [hch, gc], hV.box, hV.bel⟩)
            clear g1 g2 gc hch
            go_wp2_with fail
            rw [← HX.out, ← HQ.out]
            refine wp_region_ord [(0, true), (1, true), (2, false), (3, true), (4, true), (5, true), (6, true), (7, true), (8, true), (9, true), (10, true), (11, true), (12, true), (13, true), (14, true), (15, true), (16, true), (17, true), (18, true), (19, true), (20, true), (21, true), (22, true), (23, true), (24, true), (25, true), (26, true), (27, true), (28, true), (29, true), (30, true), (31, true), (32, true), (33, true), (34, true), (35, true), (36, true)] (RcS W r (some ad) sc q a) (by kernel_rfl) (by kernel_rfl) (by decide) (by kernel_rfl) (fun d _ _ _ _ h => by cases d <;> exact h) HS.out ?_
            iterate 2 ((apply wpOrd_take rfl rfl (by kernel_rfl); (intro V hV; obtain ⟨x0, x1, x2, x3, x4, x5⟩ := BoxR.cells hV.box; obtain ⟨b0, b1⟩ := BoxA.cells hV.el; go_simp; rfl)); (try simp only [List.setIfInBounds_toArray, List.set_cons_succ, List.set_cons_zero]))
            apply wpOrd_do rfl (by kernel_rfl)
            intro K hK
            go_simp
            refine (rrtr_any a.1 _).mono ?_
            rintro e w ⟨rfl, rfl⟩
            rw [G1.out]
            refine hK _ _ HS.out ?_
            clear hK K
            iterate 2 ((apply wpOrd_take rfl rfl (by kernel_rfl); (intro V hV; obtain ⟨x0, x1, x2, x3, x4, x5⟩ := BoxR.cells hV.box; obtain ⟨b0, b1⟩ := BoxA.cells hV.el; go_simp; rfl)); (try simp only [List.setIfInBounds_toArray, List.set_cons_succ, List.set_cons_zero]))
            iterate 5 ((apply wpOrd_take rfl rfl (by kernel_rfl); (intro V hV; obtain ⟨x0, x1, x2, x3, x4, x5⟩ := BoxR.cells hV.box; obtain ⟨b0, b1⟩ := BoxA.cells hV.el; go_simp; rfl)); (try simp only [List.setIfInBounds_toArray, List.set_cons_succ, List.set_cons_zero]))
            iterate 2 ((apply wpOrd_take rfl rfl (by kernel_rfl); (intro V hV; obtain ⟨x0, x1, x2, x3, x4, x5⟩ := BoxR.cells hV.box; obtain ⟨b0, b1⟩ := BoxA.cells hV.el; go_simp; rfl)); (try simp only [List.setIfInBounds_toArray, List.set_cons_succ, List.set_cons_zero]))
            iterate 3 ((apply wpOrd_take rfl rfl (by kernel_rfl); (intro V hV; obtain ⟨x0, x1, x2, x3, x4, x5⟩ := BoxR.cells hV.box; obtain ⟨b0, b1⟩ := BoxA.cells hV.el; go_simp; rfl)); (try simp only [List.setIfInBounds_toArray, List.set_cons_succ, List.set_cons_zero]))
            iterate 2 ((apply wpOrd_take rfl rfl (by kernel_rfl); (intro V hV; obtain ⟨x0, x1, x2, x3, x4, x5⟩ := BoxR.cells hV.box; obtain ⟨b0, b1⟩ := BoxA.cells hV.el; go_simp; rfl)); (try simp only [List.setIfInBounds_toArray, List.set_cons_succ, List.set_cons_zero]))
            iterate 3 ((apply wpOrd_take rfl rfl (by kernel_rfl); (intro V hV; obtain ⟨x0, x1, x2, x3, x4, x5⟩ := BoxR.cells hV.box; obtain ⟨b0, b1⟩ := BoxA.cells hV.el; go_simp; rfl)); (try simp only [List.setIfInBounds_toArray, List.set_cons_succ, List.set_cons_zero]))
            iterate 2 ((apply wpOrd_take rfl rfl (by kernel_rfl); (intro V hV; obtain ⟨x0, x1, x2, x3, x4, x5⟩ := BoxR.cells hV.box; obtain ⟨b0, b1⟩ := BoxA.cells hV.el; go_simp; rfl)); (try simp only [List.setIfInBounds_toArray, List.set_cons_succ, List.set_cons_zero]))
            iterate 3 ((apply wpOrd_take rfl rfl (by kernel_rfl); (intro V hV; obtain ⟨x0, x1, x2, x3, x4, x5⟩ := BoxR.cells hV.box; obtain ⟨b0, b1⟩ := BoxA.cells hV.el; go_simp; rfl)); (try simp only [List.setIfInBounds_toArray, List.set_cons_succ, List.set_cons_zero]))
            iterate 10 ((apply wpOrd_skip rfl rfl (by kernel_rfl)); (try simp only [List.setIfInBounds_toArray, List.set_cons_succ, List.set_cons_zero]))
            iterate 1 ((apply wpOrd_take rfl rfl (by kernel_rfl); (intro V hV; obtain ⟨x0, x1, x2, x3, x4, x5⟩ := BoxR.cells hV.box; obtain ⟨b0, b1⟩ := BoxA.cells hV.el; go_simp; rfl)); (try simp only [List.setIfInBounds_toArray, List.set_cons_succ, List.set_cons_zero]))
            iterate 1 ((apply wpOrd_take rfl rfl (by kernel_rfl); (intro V hV; obtain ⟨x0, x1, x2, x3, x4, x5⟩ := BoxR.cells hV.box; obtain ⟨b0, b1⟩ := BoxA.cells hV.el; go_simp; rfl)); (try simp only [List.setIfInBounds_toArray, List.set_cons_succ, List.set_cons_zero]))
            refine wpOrd_nil ?_
            have HR2 := Lib.hid (HREL.out _ HS.out)
            go_wp2_with fail
            go_roundw
            case rel => first | exact HR2.out | ((repeat apply Exists.intro); exact ⟨HR2.out, rfl⟩)
            case measure => simp [intOf]; omega
        · obtain ⟨j, hj⟩ : ∃ j, j + 1 = k := ⟨k - 1, by omega⟩
          have hjw : IntKind.i64.wrap ((k : Int) - 1) = (j : Int) := by rw [IntWalk.i64_in _ (by omega)]; omega
          have hjl : (j : Int) < (r.adjs.length : Int) := by omega
          have hk0' : decide (0 < k) = true := decide_eq_true hk0
          have HPV := Lib.hid (show ∀ V, Below W.heap.size W V → V.cell? (ad.add (j * 2)) = some (.int .i64 z) ∧ True from fun V hV => by
            obtain ⟨ad', h1, h2, _⟩ := HV.out V hV j (by omega)
            simp only [Option.some.injEq] at h1
            subst h1
            rw [hz, show k - 1 = j from by omega]
            exact ⟨h2, trivial⟩)
          clear hj hz
          have hcs := chkA_cases r.org z a (r.adjs.drop (k + 1))
          rcases hcs with ⟨g1, gc⟩ | ⟨g1, g2, gc⟩ | ⟨g1, g2, g3, gc⟩ | ⟨g1, g2, g3, g4, gc⟩ | ⟨g1, g2, g3, g4, g5, gc⟩ | ⟨g1, g2, g3, g4, g5, gc⟩
          · have G1 := Lib.hid g1
            have HE2 := Lib.hid (show r.err = 2 by rw [HE.out, hch, gc]; rfl)
            clear g1 gc hch
            go_wp2_with fail
            rw [← HX.out, ← HQ.out]
            refine wp_region_ord [(0, true), (1, true), (2, false), (3, true), (4, true), (5, true), (6, true), (7, true), (8, true), (9, true), (10, true), (11, true), (12, true), (13, true), (14, true), (15, true), (16, true), (17, true), (18, true), (19, true), (20, true), (21, true), (22, true), (23, true), (24, true), (25, true), (26, true), (27, true), (28, true), (29, true), (30, true), (31, true), (32, true), (33, true), (34, true), (35, true), (36, true)] (RcS W r (some ad) sc q a) (by kernel_rfl) (by kernel_rfl) (by decide) (by kernel_rfl) (fun d _ _ _ _ h => by cases d <;> exact h) HS.out ?_
            iterate 2 ((apply wpOrd_take rfl rfl (by kernel_rfl); (intro V hV; obtain ⟨x0, x1, x2, x3, x4, x5⟩ := BoxR.cells hV.box; obtain ⟨b0, b1⟩ := BoxA.cells hV.el; go_simp; rfl)); (try simp only [List.setIfInBounds_toArray, List.set_cons_succ, List.set_cons_zero]))
            apply wpOrd_do rfl (by kernel_rfl)
            intro K hK
            go_simp
            refine (rrtr_any a.1 _).mono ?_
            rintro e w ⟨rfl, rfl⟩
            rw [G1.out]
            refine hK _ _ HS.out ?_
            clear hK K
            iterate 2 ((apply wpOrd_take rfl rfl (by kernel_rfl); (intro V hV; obtain ⟨x0, x1, x2, x3, x4, x5⟩ := BoxR.cells hV.box; obtain ⟨b0, b1⟩ := BoxA.cells hV.el; go_simp; rfl)); (try simp only [List.setIfInBounds_toArray, List.set_cons_succ, List.set_cons_zero]))
            iterate 5 ((apply wpOrd_skip rfl rfl (by kernel_rfl)); (try simp only [List.setIfInBounds_toArray, List.set_cons_succ, List.set_cons_zero]))
            iterate 2 ((apply wpOrd_take rfl rfl (by kernel_rfl); (intro V hV; obtain ⟨x0, x1, x2, x3, x4, x5⟩ := BoxR.cells hV.box; obtain ⟨b0, b1⟩ := BoxA.cells hV.el; go_simp; rfl)); (try simp only [List.setIfInBounds_toArray, List.set_cons_succ, List.set_cons_zero]))
            iterate 3 ((apply wpOrd_skip rfl rfl (by kernel_rfl)); (try simp only [List.setIfInBounds_toArray, List.set_cons_succ, List.set_cons_zero]))
            iterate 2 ((apply wpOrd_take rfl rfl (by kernel_rfl); (intro V hV; obtain ⟨x0, x1, x2, x3, x4, x5⟩ := BoxR.cells hV.box; obtain ⟨b0, b1⟩ := BoxA.cells hV.el; go_simp; rfl)); (try simp only [List.setIfInBounds_toArray, List.set_cons_succ, List.set_cons_zero]))
            iterate 3 ((apply wpOrd_skip rfl rfl (by kernel_rfl)); (try simp only [List.setIfInBounds_toArray, List.set_cons_succ, List.set_cons_zero]))
            iterate 2 ((apply wpOrd_take rfl rfl (by kernel_rfl); (intro V hV; obtain ⟨x0, x1, x2, x3, x4, x5⟩ := BoxR.cells hV.box; obtain ⟨b0, b1⟩ := BoxA.cells hV.el; go_simp; rfl)); (try simp only [List.setIfInBounds_toArray, List.set_cons_succ, List.set_cons_zero]))
            iterate 3 ((apply wpOrd_skip rfl rfl (by kernel_rfl)); (try simp only [List.setIfInBounds_toArray, List.set_cons_succ, List.set_cons_zero]))
            iterate 10 ((apply wpOrd_skip rfl rfl (by kernel_rfl)); (try simp only [List.setIfInBounds_toArray, List.set_cons_succ, List.set_cons_zero]))
            iterate 1 ((apply wpOrd_skip rfl rfl (by kernel_rfl)); (try simp only [List.setIfInBounds_toArray, List.set_cons_succ, List.set_cons_zero]))
            iterate 1 ((apply wpOrd_take rfl rfl (by kernel_rfl); (intro V hV; obtain ⟨x0, x1, x2, x3, x4, x5⟩ := BoxR.cells hV.box; obtain ⟨b0, b1⟩ := BoxA.cells hV.el; go_simp; rfl)); (try simp only [List.setIfInBounds_toArray, List.set_cons_succ, List.set_cons_zero]))
            refine wpOrd_nil ?_
            go_wp2_with fail
            go_returns
            exact ⟨by rw [HE2.out]; rfl, HS.out.bel⟩
          · have G1 := Lib.hid g1
            have e2 : (a.1 == r.org) = true := by rw [beq_iff_eq]; exact g2
            have HE2 := Lib.hid (show r.err = 2 by rw [HE.out, hch, gc]; rfl)
            clear g1 g2 gc hch
            go_wp2_with fail
            rw [← HX.out, ← HQ.out]
            refine wp_region_ord [(0, true), (1, true), (2, false), (3, true), (4, true), (5, true), (6, true), (7, true), (8, true), (9, true), (10, true), (11, true), (12, true), (13, true), (14, true), (15, true), (16, true), (17, true), (18, true), (19, true), (20, true), (21, true), (22, true), (23, true), (24, true), (25, true), (26, true), (27, true), (28, true), (29, true), (30, true), (31, true), (32, true), (33, true), (34, true), (35, true), (36, true)] (RcS W r (some ad) sc q a) (by kernel_rfl) (by kernel_rfl) (by decide) (by kernel_rfl) (fun d _ _ _ _ h => by cases d <;> exact h) HS.out ?_
            iterate 2 ((apply wpOrd_take rfl rfl (by kernel_rfl); (intro V hV; obtain ⟨x0, x1, x2, x3, x4, x5⟩ := BoxR.cells hV.box; obtain ⟨b0, b1⟩ := BoxA.cells hV.el; go_simp; rfl)); (try simp only [List.setIfInBounds_toArray, List.set_cons_succ, List.set_cons_zero]))
            apply wpOrd_do rfl (by kernel_rfl)
            intro K hK
            go_simp
            refine (rrtr_any a.1 _).mono ?_
            rintro e w ⟨rfl, rfl⟩
            rw [G1.out]
            refine hK _ _ HS.out ?_
            clear hK K
            iterate 2 ((apply wpOrd_take rfl rfl (by kernel_rfl); (intro V hV; obtain ⟨x0, x1, x2, x3, x4, x5⟩ := BoxR.cells hV.box; obtain ⟨b0, b1⟩ := BoxA.cells hV.el; go_simp; rfl)); (try simp only [List.setIfInBounds_toArray, List.set_cons_succ, List.set_cons_zero]))
            iterate 5 ((apply wpOrd_take rfl rfl (by kernel_rfl); (intro V hV; obtain ⟨x0, x1, x2, x3, x4, x5⟩ := BoxR.cells hV.box; obtain ⟨b0, b1⟩ := BoxA.cells hV.el; go_simp; rfl)); (try simp only [List.setIfInBounds_toArray, List.set_cons_succ, List.set_cons_zero]))
            iterate 2 ((apply wpOrd_take rfl rfl (by kernel_rfl); (intro V hV; obtain ⟨x0, x1, x2, x3, x4, x5⟩ := BoxR.cells hV.box; obtain ⟨b0, b1⟩ := BoxA.cells hV.el; go_simp; rfl)); (try simp only [List.setIfInBounds_toArray, List.set_cons_succ, List.set_cons_zero]))
            iterate 3 ((apply wpOrd_skip rfl rfl (by kernel_rfl)); (try simp only [List.setIfInBounds_toArray, List.set_cons_succ, List.set_cons_zero]))
            iterate 2 ((apply wpOrd_take rfl rfl (by kernel_rfl); (intro V hV; obtain ⟨x0, x1, x2, x3, x4, x5⟩ := BoxR.cells hV.box; obtain ⟨b0, b1⟩ := BoxA.cells hV.el; go_simp; rfl)); (try simp only [List.setIfInBounds_toArray, List.set_cons_succ, List.set_cons_zero]))
            iterate 3 ((apply wpOrd_skip rfl rfl (by kernel_rfl)); (try simp only [List.setIfInBounds_toArray, List.set_cons_succ, List.set_cons_zero]))
            iterate 2 ((apply wpOrd_take rfl rfl (by kernel_rfl); (intro V hV; obtain ⟨x0, x1, x2, x3, x4, x5⟩ := BoxR.cells hV.box; obtain ⟨b0, b1⟩ := BoxA.cells hV.el; go_simp; rfl)); (try simp only [List.setIfInBounds_toArray, List.set_cons_succ, List.set_cons_zero]))
            iterate 3 ((apply wpOrd_skip rfl rfl (by kernel_rfl)); (try simp only [List.setIfInBounds_toArray, List.set_cons_succ, List.set_cons_zero]))
            iterate 10 ((apply wpOrd_skip rfl rfl (by kernel_rfl)); (try simp only [List.setIfInBounds_toArray, List.set_cons_succ, List.set_cons_zero]))
            iterate 1 ((apply wpOrd_skip rfl rfl (by kernel_rfl)); (try simp only [List.setIfInBounds_toArray, List.set_cons_succ, List.set_cons_zero]))
            iterate 1 ((apply wpOrd_take rfl rfl (by kernel_rfl); (intro V hV; obtain ⟨x0, x1, x2, x3, x4, x5⟩ := BoxR.cells hV.box; obtain ⟨b0, b1⟩ := BoxA.cells hV.el; go_simp; rfl)); (try simp only [List.setIfInBounds_toArray, List.set_cons_succ, List.set_cons_zero]))
            refine wpOrd_nil ?_
            go_wp2_with fail
            go_returns
            exact ⟨by rw [HE2.out]; rfl, HS.out.bel⟩
          · have G1 := Lib.hid g1
            have e2 : (a.1 == r.org) = false := by rw [beq_eq_false_iff_ne]; exact g2
            have e3 : decide (a.2 < 1) = true := decide_eq_true g3
            have HE2 := Lib.hid (show r.err = 2 by rw [HE.out, hch, gc]; rfl)
            clear g1 g2 gc hch
            go_wp2_with fail
            rw [← HX.out, ← HQ.out]
            refine wp_region_ord [(0, true), (1, true), (2, false), (3, true), (4, true), (5, true), (6, true), (7, true), (8, true), (9, true), (10, true), (11, true), (12, true), (13, true), (14, true), (15, true), (16, true), (17, true), (18, true), (19, true), (20, true), (21, true), (22, true), (23, true), (24, true), (25, true), (26, true), (27, true), (28, true), (29, true), (30, true), (31, true), (32, true), (33, true), (34, true), (35, true), (36, true)] (RcS W r (some ad) sc q a) (by kernel_rfl) (by kernel_rfl) (by decide) (by kernel_rfl) (fun d _ _ _ _ h => by cases d <;> exact h) HS.out ?_
            iterate 2 ((apply wpOrd_take rfl rfl (by kernel_rfl); (intro V hV; obtain ⟨x0, x1, x2, x3, x4, x5⟩ := BoxR.cells hV.box; obtain ⟨b0, b1⟩ := BoxA.cells hV.el; go_simp; rfl)); (try simp only [List.setIfInBounds_toArray, List.set_cons_succ, List.set_cons_zero]))
            apply wpOrd_do rfl (by kernel_rfl)
            intro K hK
            go_simp
            refine (rrtr_any a.1 _).mono ?_
            rintro e w ⟨rfl, rfl⟩
            rw [G1.out]
            refine hK _ _ HS.out ?_
            clear hK K
            iterate 2 ((apply wpOrd_take rfl rfl (by kernel_rfl); (intro V hV; obtain ⟨x0, x1, x2, x3, x4, x5⟩ := BoxR.cells hV.box; obtain ⟨b0, b1⟩ := BoxA.cells hV.el; go_simp; rfl)); (try simp only [List.setIfInBounds_toArray, List.set_cons_succ, List.set_cons_zero]))
            iterate 5 ((apply wpOrd_take rfl rfl (by kernel_rfl); (intro V hV; obtain ⟨x0, x1, x2, x3, x4, x5⟩ := BoxR.cells hV.box; obtain ⟨b0, b1⟩ := BoxA.cells hV.el; go_simp; rfl)); (try simp only [List.setIfInBounds_toArray, List.set_cons_succ, List.set_cons_zero]))
            iterate 2 ((apply wpOrd_take rfl rfl (by kernel_rfl); (intro V hV; obtain ⟨x0, x1, x2, x3, x4, x5⟩ := BoxR.cells hV.box; obtain ⟨b0, b1⟩ := BoxA.cells hV.el; go_simp; rfl)); (try simp only [List.setIfInBounds_toArray, List.set_cons_succ, List.set_cons_zero]))
            iterate 3 ((apply wpOrd_take rfl rfl (by kernel_rfl); (intro V hV; obtain ⟨x0, x1, x2, x3, x4, x5⟩ := BoxR.cells hV.box; obtain ⟨b0, b1⟩ := BoxA.cells hV.el; go_simp; rfl)); (try simp only [List.setIfInBounds_toArray, List.set_cons_succ, List.set_cons_zero]))
            iterate 2 ((apply wpOrd_take rfl rfl (by kernel_rfl); (intro V hV; obtain ⟨x0, x1, x2, x3, x4, x5⟩ := BoxR.cells hV.box; obtain ⟨b0, b1⟩ := BoxA.cells hV.el; go_simp; rfl)); (try simp only [List.setIfInBounds_toArray, List.set_cons_succ, List.set_cons_zero]))
            iterate 3 ((apply wpOrd_skip rfl rfl (by kernel_rfl)); (try simp only [List.setIfInBounds_toArray, List.set_cons_succ, List.set_cons_zero]))
            iterate 2 ((apply wpOrd_take rfl rfl (by kernel_rfl); (intro V hV; obtain ⟨x0, x1, x2, x3, x4, x5⟩ := BoxR.cells hV.box; obtain ⟨b0, b1⟩ := BoxA.cells hV.el; go_simp; rfl)); (try simp only [List.setIfInBounds_toArray, List.set_cons_succ, List.set_cons_zero]))
            iterate 3 ((apply wpOrd_skip rfl rfl (by kernel_rfl)); (try simp only [List.setIfInBounds_toArray, List.set_cons_succ, List.set_cons_zero]))
            iterate 10 ((apply wpOrd_skip rfl rfl (by kernel_rfl)); (try simp only [List.setIfInBounds_toArray, List.set_cons_succ, List.set_cons_zero]))
            iterate 1 ((apply wpOrd_skip rfl rfl (by kernel_rfl)); (try simp only [List.setIfInBounds_toArray, List.set_cons_succ, List.set_cons_zero]))
            iterate 1 ((apply wpOrd_take rfl rfl (by kernel_rfl); (intro V hV; obtain ⟨x0, x1, x2, x3, x4, x5⟩ := BoxR.cells hV.box; obtain ⟨b0, b1⟩ := BoxA.cells hV.el; go_simp; rfl)); (try simp only [List.setIfInBounds_toArray, List.set_cons_succ, List.set_cons_zero]))
            refine wpOrd_nil ?_
            go_wp2_with fail
            go_returns
            exact ⟨by rw [HE2.out]; rfl, HS.out.bel⟩
          · have G1 := Lib.hid g1
            have e2 : (a.1 == r.org) = false := by rw [beq_eq_false_iff_ne]; exact g2
            have e3 : decide (a.2 < 1) = false := decide_eq_false (by omega)
            have e4 : decide (1000 < a.2) = true := decide_eq_true g4
            have HE2 := Lib.hid (show r.err = 2 by rw [HE.out, hch, gc]; rfl)
            clear g1 g2 gc hch
            go_wp2_with fail
            rw [← HX.out, ← HQ.out]
            refine wp_region_ord [(0, true), (1, true), (2, false), (3, true), (4, true), (5, true), (6, true), (7, true), (8, true), (9, true), (10, true), (11, true), (12, true), (13, true), (14, true), (15, true), (16, true), (17, true), (18, true), (19, true), (20, true), (21, true), (22, true), (23, true), (24, true), (25, true), (26, true), (27, true), (28, true), (29, true), (30, true), (31, true), (32, true), (33, true), (34, true), (35, true), (36, true)] (RcS W r (some ad) sc q a) (by kernel_rfl) (by kernel_rfl) (by decide) (by kernel_rfl) (fun d _ _ _ _ h => by cases d <;> exact h) HS.out ?_
            iterate 2 ((apply wpOrd_take rfl rfl (by kernel_rfl); (intro V hV; obtain ⟨x0, x1, x2, x3, x4, x5⟩ := BoxR.cells hV.box; obtain ⟨b0, b1⟩ := BoxA.cells hV.el; go_simp; rfl)); (try simp only [List.setIfInBounds_toArray, List.set_cons_succ, List.set_cons_zero]))
            apply wpOrd_do rfl (by kernel_rfl)
            intro K hK
            go_simp
            refine (rrtr_any a.1 _).mono ?_
            rintro e w ⟨rfl, rfl⟩
            rw [G1.out]
            refine hK _ _ HS.out ?_
            clear hK K
            iterate 2 ((apply wpOrd_take rfl rfl (by kernel_rfl); (intro V hV; obtain ⟨x0, x1, x2, x3, x4, x5⟩ := BoxR.cells hV.box; obtain ⟨b0, b1⟩ := BoxA.cells hV.el; go_simp; rfl)); (try simp only [List.setIfInBounds_toArray, List.set_cons_succ, List.set_cons_zero]))
            iterate 5 ((apply wpOrd_take rfl rfl (by kernel_rfl); (intro V hV; obtain ⟨x0, x1, x2, x3, x4, x5⟩ := BoxR.cells hV.box; obtain ⟨b0, b1⟩ := BoxA.cells hV.el; go_simp; rfl)); (try simp only [List.setIfInBounds_toArray, List.set_cons_succ, List.set_cons_zero]))
            iterate 2 ((apply wpOrd_take rfl rfl (by kernel_rfl); (intro V hV; obtain ⟨x0, x1, x2, x3, x4, x5⟩ := BoxR.cells hV.box; obtain ⟨b0, b1⟩ := BoxA.cells hV.el; go_simp; rfl)); (try simp only [List.setIfInBounds_toArray, List.set_cons_succ, List.set_cons_zero]))
            iterate 3 ((apply wpOrd_take rfl rfl (by kernel_rfl); (intro V hV; obtain ⟨x0, x1, x2, x3, x4, x5⟩ := BoxR.cells hV.box; obtain ⟨b0, b1⟩ := BoxA.cells hV.el; go_simp; rfl)); (try simp only [List.setIfInBounds_toArray, List.set_cons_succ, List.set_cons_zero]))
            iterate 2 ((apply wpOrd_take rfl rfl (by kernel_rfl); (intro V hV; obtain ⟨x0, x1, x2, x3, x4, x5⟩ := BoxR.cells hV.box; obtain ⟨b0, b1⟩ := BoxA.cells hV.el; go_simp; rfl)); (try simp only [List.setIfInBounds_toArray, List.set_cons_succ, List.set_cons_zero]))
            iterate 3 ((apply wpOrd_take rfl rfl (by kernel_rfl); (intro V hV; obtain ⟨x0, x1, x2, x3, x4, x5⟩ := BoxR.cells hV.box; obtain ⟨b0, b1⟩ := BoxA.cells hV.el; go_simp; rfl)); (try simp only [List.setIfInBounds_toArray, List.set_cons_succ, List.set_cons_zero]))
            iterate 2 ((apply wpOrd_take rfl rfl (by kernel_rfl); (intro V hV; obtain ⟨x0, x1, x2, x3, x4, x5⟩ := BoxR.cells hV.box; obtain ⟨b0, b1⟩ := BoxA.cells hV.el; go_simp; rfl)); (try simp only [List.setIfInBounds_toArray, List.set_cons_succ, List.set_cons_zero]))
            iterate 3 ((apply wpOrd_skip rfl rfl (by kernel_rfl)); (try simp only [List.setIfInBounds_toArray, List.set_cons_succ, List.set_cons_zero]))
            iterate 10 ((apply wpOrd_skip rfl rfl (by kernel_rfl)); (try simp only [List.setIfInBounds_toArray, List.set_cons_succ, List.set_cons_zero]))
            iterate 1 ((apply wpOrd_skip rfl rfl (by kernel_rfl)); (try simp only [List.setIfInBounds_toArray, List.set_cons_succ, List.set_cons_zero]))
            iterate 1 ((apply wpOrd_take rfl rfl (by kernel_rfl); (intro V hV; obtain ⟨x0, x1, x2, x3, x4, x5⟩ := BoxR.cells hV.box; obtain ⟨b0, b1⟩ := BoxA.cells hV.el; go_simp; rfl)); (try simp only [List.setIfInBounds_toArray, List.set_cons_succ, List.set_cons_zero]))
            refine wpOrd_nil ?_
            go_wp2_with fail
            go_returns
            exact ⟨by rw [HE2.out]; rfl, HS.out.bel⟩
          · have G1 := Lib.hid g1
            have e2 : (a.1 == r.org) = false := by rw [beq_eq_false_iff_ne]; exact g2
            have e3 : decide (a.2 < 1) = false := decide_eq_false (by omega)
            have e4 : decide (1000 < a.2) = false := decide_eq_false (by omega)
            have e5 : decide (a.1 ≤ z) = true := decide_eq_true g5
            have HE2 := Lib.hid (show r.err = 2 by rw [HE.out, hch, gc]; rfl)
            clear g1 g2 gc hch
            go_wp2_with fail
            rw [← HX.out, ← HQ.out]
            refine wp_region_ord [(0, true), (1, true), (2, false), (3, true), (4, true), (5, true), (6, true), (7, true), (8, true), (9, true), (10, true), (11, true), (12, true), (13, true), (14, true), (15, true), (16, true), (17, true), (18, true), (19, true), (20, true), (21, true), (22, true), (23, true), (24, true), (25, true), (26, true), (27, true), (28, true), (29, true), (30, true), (31, true), (32, true), (33, true), (34, true), (35, true), (36, true)] (RcS W r (some ad) sc q a) (by kernel_rfl) (by kernel_rfl) (by decide) (by kernel_rfl) (fun d _ _ _ _ h => by cases d <;> exact h) HS.out ?_
            iterate 2 ((apply wpOrd_take rfl rfl (by kernel_rfl); (intro V hV; obtain ⟨x0, x1, x2, x3, x4, x5⟩ := BoxR.cells hV.box; obtain ⟨b0, b1⟩ := BoxA.cells hV.el; go_simp; rfl)); (try simp only [List.setIfInBounds_toArray, List.set_cons_succ, List.set_cons_zero]))
            apply wpOrd_do rfl (by kernel_rfl)
            intro K hK
            go_simp
            refine (rrtr_any a.1 _).mono ?_
            rintro e w ⟨rfl, rfl⟩
            rw [G1.out]
            refine hK _ _ HS.out ?_
            clear hK K
            iterate 2 ((apply wpOrd_take rfl rfl (by kernel_rfl); (intro V hV; obtain ⟨x0, x1, x2, x3, x4, x5⟩ := BoxR.cells hV.box; obtain ⟨b0, b1⟩ := BoxA.cells hV.el; go_simp; rfl)); (try simp only [List.setIfInBounds_toArray, List.set_cons_succ, List.set_cons_zero]))
            iterate 5 ((apply wpOrd_take rfl rfl (by kernel_rfl); (intro V hV; obtain ⟨x0, x1, x2, x3, x4, x5⟩ := BoxR.cells hV.box; obtain ⟨b0, b1⟩ := BoxA.cells hV.el; go_simp; rfl)); (try simp only [List.setIfInBounds_toArray, List.set_cons_succ, List.set_cons_zero]))
            iterate 2 ((apply wpOrd_take rfl rfl (by kernel_rfl); (intro V hV; obtain ⟨x0, x1, x2, x3, x4, x5⟩ := BoxR.cells hV.box; obtain ⟨b0, b1⟩ := BoxA.cells hV.el; go_simp; rfl)); (try simp only [List.setIfInBounds_toArray, List.set_cons_succ, List.set_cons_zero]))
            iterate 3 ((apply wpOrd_take rfl rfl (by kernel_rfl); (intro V hV; obtain ⟨x0, x1, x2, x3, x4, x5⟩ := BoxR.cells hV.box; obtain ⟨b0, b1⟩ := BoxA.cells hV.el; go_simp; rfl)); (try simp only [List.setIfInBounds_toArray, List.set_cons_succ, List.set_cons_zero]))
            iterate 2 ((apply wpOrd_take rfl rfl (by kernel_rfl); (intro V hV; obtain ⟨x0, x1, x2, x3, x4, x5⟩ := BoxR.cells hV.box; obtain ⟨b0, b1⟩ := BoxA.cells hV.el; go_simp; rfl)); (try simp only [List.setIfInBounds_toArray, List.set_cons_succ, List.set_cons_zero]))
            iterate 3 ((apply wpOrd_take rfl rfl (by kernel_rfl); (intro V hV; obtain ⟨x0, x1, x2, x3, x4, x5⟩ := BoxR.cells hV.box; obtain ⟨b0, b1⟩ := BoxA.cells hV.el; go_simp; rfl)); (try simp only [List.setIfInBounds_toArray, List.set_cons_succ, List.set_cons_zero]))
            iterate 2 ((apply wpOrd_take rfl rfl (by kernel_rfl); (intro V hV; obtain ⟨x0, x1, x2, x3, x4, x5⟩ := BoxR.cells hV.box; obtain ⟨b0, b1⟩ := BoxA.cells hV.el; go_simp; rfl)); (try simp only [List.setIfInBounds_toArray, List.set_cons_succ, List.set_cons_zero]))
            iterate 3 ((apply wpOrd_take rfl rfl (by kernel_rfl); (intro V hV; obtain ⟨x0, x1, x2, x3, x4, x5⟩ := BoxR.cells hV.box; obtain ⟨b0, b1⟩ := BoxA.cells hV.el; go_simp; rfl)); (try simp only [List.setIfInBounds_toArray, List.set_cons_succ, List.set_cons_zero]))
            iterate 10 ((apply wpOrd_take rfl rfl (by kernel_rfl); (intro V hV; obtain ⟨x0, x1, x2, x3, x4, x5⟩ := BoxR.cells hV.box; obtain ⟨b0, b1⟩ := BoxA.cells hV.el; obtain ⟨p0, _⟩ := HPV.out V hV.bel; go_simp; rfl)); (try simp only [List.setIfInBounds_toArray, List.set_cons_succ, List.set_cons_zero]))
            iterate 1 ((apply wpOrd_take rfl rfl (by kernel_rfl); (intro V hV; obtain ⟨x0, x1, x2, x3, x4, x5⟩ := BoxR.cells hV.box; obtain ⟨b0, b1⟩ := BoxA.cells hV.el; go_simp; rfl)); (try simp only [List.setIfInBounds_toArray, List.set_cons_succ, List.set_cons_zero]))
            iterate 1 ((apply wpOrd_take rfl rfl (by kernel_rfl); (intro V hV; obtain ⟨x0, x1, x2, x3, x4, x5⟩ := BoxR.cells hV.box; obtain ⟨b0, b1⟩ := BoxA.cells hV.el; go_simp; rfl)); (try simp only [List.setIfInBounds_toArray, List.set_cons_succ, List.set_cons_zero]))
            refine wpOrd_nil ?_
            go_wp2_with fail
            go_returns
            exact ⟨by rw [HE2.out]; rfl, HS.out.bel⟩
          · have G1 := Lib.hid g1
            have e2 : (a.1 == r.org) = false := by rw [beq_eq_false_iff_ne]; exact g2
            have e3 : decide (a.2 < 1) = false := decide_eq_false (by omega)
            have e4 : decide (1000 < a.2) = false := decide_eq_false (by omega)
            have e5 : decide (a.1 ≤ z) = false := decide_eq_false (by omega)
            have HREL := Lib.hid (show ∀ V, RcS W r (some ad) sc q a V → RChkRel W r (some ad) sc (.int .i64 ((k : Int) + 1)) V from fun V hV => ⟨k + 1, a.1, by go_num, hlt, .inr ⟨Nat.succ_pos _, by rw [Nat.add_sub_cancel, ← HAE.out]⟩, by rw [hch, gc], hV.box, hV.bel⟩)
            clear g1 g2 gc hch
            go_wp2_with fail
            rw [← HX.out, ← HQ.out]
            refine wp_region_ord [(0, true), (1, true), (2, false), (3, true), (4, true), (5, true), (6, true), (7, true), (8, true), (9, true), (10, true), (11, true), (12, true), (13, true), (14, true), (15, true), (16, true), (17, true), (18, true), (19, true), (20, true), (21, true), (22, true), (23, true), (24, true), (25, true), (26, true), (27, true), (28, true), (29, true), (30, true), (31, true), (32, true), (33, true), (34, true), (35, true), (36, true)] (RcS W r (some ad) sc q a) (by kernel_rfl) (by kernel_rfl) (by decide) (by kernel_rfl) (fun d _ _ _ _ h => by cases d <;> exact h) HS.out ?_
            iterate 2 ((apply wpOrd_take rfl rfl (by kernel_rfl); (intro V hV; obtain ⟨x0, x1, x2, x3, x4, x5⟩ := BoxR.cells hV.box; obtain ⟨b0, b1⟩ := BoxA.cells hV.el; go_simp; rfl)); (try simp only [List.setIfInBounds_toArray, List.set_cons_succ, List.set_cons_zero]))
            apply wpOrd_do rfl (by kernel_rfl)
            intro K hK
            go_simp
            refine (rrtr_any a.1 _).mono ?_
            rintro e w ⟨rfl, rfl⟩
            rw [G1.out]
            refine hK _ _ HS.out ?_
            clear hK K
            iterate 2 ((apply wpOrd_take rfl rfl (by kernel_rfl); (intro V hV; obtain ⟨x0, x1, x2, x3, x4, x5⟩ := BoxR.cells hV.box; obtain ⟨b0, b1⟩ := BoxA.cells hV.el; go_simp; rfl)); (try simp only [List.setIfInBounds_toArray, List.set_cons_succ, List.set_cons_zero]))
            iterate 5 ((apply wpOrd_take rfl rfl (by kernel_rfl); (intro V hV; obtain ⟨x0, x1, x2, x3, x4, x5⟩ := BoxR.cells hV.box; obtain ⟨b0, b1⟩ := BoxA.cells hV.el; go_simp; rfl)); (try simp only [List.setIfInBounds_toArray, List.set_cons_succ, List.set_cons_zero]))
            iterate 2 ((apply wpOrd_take rfl rfl (by kernel_rfl); (intro V hV; obtain ⟨x0, x1, x2, x3, x4, x5⟩ := BoxR.cells hV.box; obtain ⟨b0, b1⟩ := BoxA.cells hV.el; go_simp; rfl)); (try simp only [List.setIfInBounds_toArray, List.set_cons_succ, List.set_cons_zero]))
            iterate 3 ((apply wpOrd_take rfl rfl (by kernel_rfl); (intro V hV; obtain ⟨x0, x1, x2, x3, x4, x5⟩ := BoxR.cells hV.box; obtain ⟨b0, b1⟩ := BoxA.cells hV.el; go_simp; rfl)); (try simp only [List.setIfInBounds_toArray, List.set_cons_succ, List.set_cons_zero]))
            iterate 2 ((apply wpOrd_take rfl rfl (by kernel_rfl); (intro V hV; obtain ⟨x0, x1, x2, x3, x4, x5⟩ := BoxR.cells hV.box; obtain ⟨b0, b1⟩ := BoxA.cells hV.el; go_simp; rfl)); (try simp only [List.setIfInBounds_toArray, List.set_cons_succ, List.set_cons_zero]))
            iterate 3 ((apply wpOrd_take rfl rfl (by kernel_rfl); (intro V hV; obtain ⟨x0, x1, x2, x3, x4, x5⟩ := BoxR.cells hV.box; obtain ⟨b0, b1⟩ := BoxA.cells hV.el; go_simp; rfl)); (try simp only [List.setIfInBounds_toArray, List.set_cons_succ, List.set_cons_zero]))
            iterate 2 ((apply wpOrd_take rfl rfl (by kernel_rfl); (intro V hV; obtain ⟨x0, x1, x2, x3, x4, x5⟩ := BoxR.cells hV.box; obtain ⟨b0, b1⟩ := BoxA.cells hV.el; go_simp; rfl)); (try simp only [List.setIfInBounds_toArray, List.set_cons_succ, List.set_cons_zero]))
            iterate 3 ((apply wpOrd_take rfl rfl (by kernel_rfl); (intro V hV; obtain ⟨x0, x1, x2, x3, x4, x5⟩ := BoxR.cells hV.box; obtain ⟨b0, b1⟩ := BoxA.cells hV.el; go_simp; rfl)); (try simp only [List.setIfInBounds_toArray, List.set_cons_succ, List.set_cons_zero]))
            iterate 10 ((apply wpOrd_take rfl rfl (by kernel_rfl); (intro V hV; obtain ⟨x0, x1, x2, x3, x4, x5⟩ := BoxR.cells hV.box; obtain ⟨b0, b1⟩ := BoxA.cells hV.el; obtain ⟨p0, _⟩ := HPV.out V hV.bel; go_simp; rfl)); (try simp only [List.setIfInBounds_toArray, List.set_cons_succ, List.set_cons_zero]))
            iterate 1 ((apply wpOrd_take rfl rfl (by kernel_rfl); (intro V hV; obtain ⟨x0, x1, x2, x3, x4, x5⟩ := BoxR.cells hV.box; obtain ⟨b0, b1⟩ := BoxA.cells hV.el; go_simp; rfl)); (try simp only [List.setIfInBounds_toArray, List.set_cons_succ, List.set_cons_zero]))
            iterate 1 ((apply wpOrd_take rfl rfl (by kernel_rfl); (intro V hV; obtain ⟨x0, x1, x2, x3, x4, x5⟩ := BoxR.cells hV.box; obtain ⟨b0, b1⟩ := BoxA.cells hV.el; go_simp; rfl)); (try simp only [List.setIfInBounds_toArray, List.set_cons_succ, List.set_cons_zero]))
            refine wpOrd_nil ?_
            have HR2 := Lib.hid (HREL.out _ HS.out)
            go_wp2_with fail
            go_roundw
            case rel => first | exact HR2.out | ((repeat apply Exists.intro); exact ⟨HR2.out, rfl⟩)
            case measure => simp [intOf]; omega
      · obtain rfl : k = r.adjs.length := by omega
        rw [List.drop_length] at hch
        have HE2 := Lib.hid (show r.err = 0 by rw [HE.out, hch]; rfl)
        have HB := Lib.hid hb
        clear hch hb hkz
        obtain ⟨x0, x1, x2, x3, x4, x5⟩ := hbx.cells
        clear hbx
        go_wp2_with fail
        go_returns
        exact ⟨by rw [HE2.out]; rfl, HB.out⟩

end Go.Proofs.Ytickjmkkgcfkhaa

/- Contracts of the record: stamps, which is newer. -/
set_option linter.unusedSimpArgs false
set_option linter.unusedVariables false
namespace Go.Proofs.Ytickjmkkgcfkhaa
open Go.RowKit Go.ChangeShapes Go.WideShapes

theorem rmay_any (s : St) (W : World) : Calls Try.prog 31 #[s.ag] W fun e W' => e = .returned (.bool s.may) ∧ Below W.heap.size W W' := by
  obtain ⟨W1, hW1⟩ : ∃ W1, W1 = W.alloc (.cells s.cs 27) := ⟨_, rfl⟩
  have hb1 : Below W.heap.size W W1 := by rw [hW1]; exact (Below.refl _ _).alloc (Nat.le_refl _) _
  obtain ⟨x0, x1, x2⟩ := BoxS.cells (b := W.heap.size) (s := s) (V := W1) (by rw [hW1]; exact heap_alloc_new _ _)
  have HW1 := Lib.hid hW1
  have HB1 := Lib.hid hb1
  have hc : (rtr s.org = false ∧ s.may = false) ∨ (rtr s.org = true ∧ ¬ 0 < s.ep ∧ s.may = false) ∨ (rtr s.org = true ∧ 0 < s.ep ∧ ¬ 0 < s.sq ∧ s.may = false) ∨ (rtr s.org = true ∧ 0 < s.ep ∧ 0 < s.sq ∧ s.may = true) := by
    unfold St.may
    cases rtr s.org
    · simp
    · by_cases h1 : 0 < s.ep
      · by_cases h2 : 0 < s.sq
        · simp [h1, h2]
        · simp [h1, h2]
      · simp [h1]
  clear hW1 hb1
  rcases hc with ⟨h1, he⟩ | ⟨h1, h2, he⟩ | ⟨h1, h2, h3, he⟩ | ⟨h1, h2, h3, he⟩
  · have H1 := Lib.hid h1
    have HE := Lib.hid he
    clear h1 he
    go_enter Try.func31, Try.ntmps31
    unfold St.ag St.cs at *
    go_wp2_with fail
    rw [← HW1.out]
    refine (rrtr_any _ _).mono ?_
    rintro e w ⟨rfl, rfl⟩
    rw [H1.out]
    go_wp2_with fail
    go_returns
    exact ⟨by rw [HE.out]; rfl, HB1.out⟩
  · have H1 := Lib.hid h1
    have HE := Lib.hid he
    have d2 : decide (0 < s.ep) = false := decide_eq_false h2
    clear h1 he
    go_enter Try.func31, Try.ntmps31
    unfold St.ag St.cs at *
    go_wp2_with fail
    rw [← HW1.out]
    refine (rrtr_any _ _).mono ?_
    rintro e w ⟨rfl, rfl⟩
    rw [H1.out]
    go_wp2_with fail
    go_returns
    exact ⟨by rw [HE.out]; rfl, HB1.out⟩
  · have H1 := Lib.hid h1
    have HE := Lib.hid he
    have d2 : decide (0 < s.ep) = true := decide_eq_true h2
    have d3 : decide (0 < s.sq) = false := decide_eq_false h3
    clear h1 he
    go_enter Try.func31, Try.ntmps31
    unfold St.ag St.cs at *
    go_wp2_with fail
    rw [← HW1.out]
    refine (rrtr_any _ _).mono ?_
    rintro e w ⟨rfl, rfl⟩
    rw [H1.out]
    go_wp2_with fail
    go_returns
    exact ⟨by rw [HE.out]; rfl, HB1.out⟩
  · have H1 := Lib.hid h1
    have HE := Lib.hid he
    have d2 : decide (0 < s.ep) = true := decide_eq_true h2
    have d3 : decide (0 < s.sq) = true := decide_eq_true h3
    clear h1 he
    go_enter Try.func31, Try.ntmps31
    unfold St.ag St.cs at *
    go_wp2_with fail
    rw [← HW1.out]
    refine (rrtr_any _ _).mono ?_
    rintro e w ⟨rfl, rfl⟩
    rw [H1.out]
    go_wp2_with fail
    go_returns
    exact ⟨by rw [HE.out]; rfl, HB1.out⟩
end Go.Proofs.Ytickjmkkgcfkhaa

/- Contracts of the record: are two the same. -/
set_option linter.unusedSimpArgs false
set_option linter.unusedVariables false
namespace Go.Proofs.Ytickjmkkgcfkhaa
open Go.RowKit Go.ChangeShapes Go.WideShapes

set_option maxRecDepth 100000 in
set_option maxHeartbeats 3200000 in
theorem rsame_any (r q : Rc) (sa : Option Addr) (sc : Nat) (sb : Option Addr) (sd : Nat) (W : World) (hA : AdjsIn W sa r.adjs) (hB : AdjsIn W sb q.adjs) (hl : r.adjs.length ≤ maxLen) (hl2 : q.adjs.length ≤ maxLen) :
    Calls Try.prog 35 #[r.ag sa sc, q.ag sb sd] W fun e W' => e = .returned (.bool (r.sm q)) ∧ Below W.heap.size W W' := by
  unfold maxLen at hl hl2
  obtain ⟨W1, hW1⟩ : ∃ W1, W1 = (W.alloc (.cells (r.cs sa sc) 25)).alloc (.cells (q.cs sb sd) 25) := ⟨_, rfl⟩
  have hb1 : Below W.heap.size W W1 := by rw [hW1]; exact ((Below.refl _ _).alloc (Nat.le_refl _) _).alloc (by rw [World.size_alloc]; omega) _
  have hs1 : SmS W r q sa sc sb sd W1 := ⟨by rw [hW1]; exact heap_alloc2_old _ _ _, by rw [hW1]; exact heap_alloc2_new _ _ _, hb1⟩
  have HS0 := Lib.hid hs1
  have HW1 := Lib.hid hW1
  have HV := Lib.hid (show ∀ V, Below W.heap.size W V → AdjsIn V sa r.adjs ∧ AdjsIn V sb q.adjs from fun V hV => ⟨hA.later hV, hB.later hV⟩)
  clear hW1 hb1 hA hB hs1
  have hcs := sm_cases r q
  rcases hcs with ⟨h0, he⟩ | ⟨h0, h1, he⟩ | ⟨h0, h1, h2, he⟩ | ⟨h0, h1, h2, h3, he⟩ | ⟨h0, h1, h2, h3, h4, he⟩ | ⟨h0, h1, h2, h3, h4, he⟩
  · have HE := Lib.hid he
    have e0 : (r.org == q.org) = false := by rw [beq_eq_false_iff_ne]; exact h0
    have ne0 : (r.org != q.org) = true := by rw [bne_iff_ne]; exact h0
    clear h0 he
    go_enter Try.func35, Try.ntmps35
    unfold Rc.ag Rc.cs at *
    go_wp2_with fail
    go_returns
    exact ⟨by rw [HE.out]; rfl, ((Below.refl _ _).alloc (Nat.le_refl _) _).alloc (by rw [World.size_alloc]; omega) _⟩
  · have HE := Lib.hid he
    have e0 : (r.org == q.org) = true := by rw [h0]; simp
    have e1 : ((r.ep : Int) == (q.ep : Int)) = false := by rw [beq_eq_false_iff_ne]; omega
    have ne0 : (r.org != q.org) = false := by rw [h0]; simp
    have ne1 : ((r.ep : Int) != (q.ep : Int)) = true := by rw [bne_iff_ne]; omega
    have en1 : (r.ep == q.ep) = false := by rw [beq_eq_false_iff_ne]; exact h1
    clear h0 h1 he
    go_enter Try.func35, Try.ntmps35
    unfold Rc.ag Rc.cs at *
    go_wp2_with fail
    go_returns
    exact ⟨by rw [HE.out]; rfl, ((Below.refl _ _).alloc (Nat.le_refl _) _).alloc (by rw [World.size_alloc]; omega) _⟩
  · have HE := Lib.hid he
    have e0 : (r.org == q.org) = true := by rw [h0]; simp
    have e1 : ((r.ep : Int) == (q.ep : Int)) = true := by rw [h1]; simp
    have e2 : ((r.sq : Int) == (q.sq : Int)) = false := by rw [beq_eq_false_iff_ne]; omega
    have ne0 : (r.org != q.org) = false := by rw [h0]; simp
    have ne1 : ((r.ep : Int) != (q.ep : Int)) = false := by rw [h1]; simp
    have ne2 : ((r.sq : Int) != (q.sq : Int)) = true := by rw [bne_iff_ne]; omega
    have en1 : (r.ep == q.ep) = true := by rw [h1]; simp
    have en2 : (r.sq == q.sq) = false := by rw [beq_eq_false_iff_ne]; exact h2
    clear h0 h1 h2 he
    go_enter Try.func35, Try.ntmps35
    unfold Rc.ag Rc.cs at *
    go_wp2_with fail
    go_returns
    exact ⟨by rw [HE.out]; rfl, ((Below.refl _ _).alloc (Nat.le_refl _) _).alloc (by rw [World.size_alloc]; omega) _⟩
  · have HE := Lib.hid he
    have e0 : (r.org == q.org) = true := by rw [h0]; simp
    have e1 : ((r.ep : Int) == (q.ep : Int)) = true := by rw [h1]; simp
    have e2 : ((r.sq : Int) == (q.sq : Int)) = true := by rw [h2]; simp
    have e3 : (r.clm == q.clm) = false := by rw [beq_eq_false_iff_ne]; exact h3
    have ne0 : (r.org != q.org) = false := by rw [h0]; simp
    have ne1 : ((r.ep : Int) != (q.ep : Int)) = false := by rw [h1]; simp
    have ne2 : ((r.sq : Int) != (q.sq : Int)) = false := by rw [h2]; simp
    have ne3 : (r.clm != q.clm) = true := by rw [bne_iff_ne]; exact h3
    have en1 : (r.ep == q.ep) = true := by rw [h1]; simp
    have en2 : (r.sq == q.sq) = true := by rw [h2]; simp
    clear h0 h1 h2 h3 he
    go_enter Try.func35, Try.ntmps35
    unfold Rc.ag Rc.cs at *
    go_wp2_with fail
    go_returns
    exact ⟨by rw [HE.out]; rfl, ((Below.refl _ _).alloc (Nat.le_refl _) _).alloc (by rw [World.size_alloc]; omega) _⟩
  · have HE := Lib.hid he
    have e0 : (r.org == q.org) = true := by rw [h0]; simp
    have e1 : ((r.ep : Int) == (q.ep : Int)) = true := by rw [h1]; simp
    have e2 : ((r.sq : Int) == (q.sq : Int)) = true := by rw [h2]; simp
    have e3 : (r.clm == q.clm) = true := by rw [h3]; simp
    have e4 : (r.ing == q.ing) = false := by rw [beq_eq_false_iff_ne]; exact h4
    have ne0 : (r.org != q.org) = false := by rw [h0]; simp
    have ne1 : ((r.ep : Int) != (q.ep : Int)) = false := by rw [h1]; simp
    have ne2 : ((r.sq : Int) != (q.sq : Int)) = false := by rw [h2]; simp
    have ne3 : (r.clm != q.clm) = false := by rw [h3]; simp
    have ne4 : (r.ing != q.ing) = true := by rw [bne_iff_ne]; exact h4
    have en1 : (r.ep == q.ep) = true := by rw [h1]; simp
    have en2 : (r.sq == q.sq) = true := by rw [h2]; simp
    clear h0 h1 h2 h3 h4 he
    go_enter Try.func35, Try.ntmps35
    unfold Rc.ag Rc.cs at *
    go_wp2_with fail
    go_returns
    exact ⟨by rw [HE.out]; rfl, ((Below.refl _ _).alloc (Nat.le_refl _) _).alloc (by rw [World.size_alloc]; omega) _⟩
  · by_cases hlen : r.adjs.length = q.adjs.length
    rotate_left
    · have hne : ((r.adjs.length : Int) == (q.adjs.length : Int)) = false := by rw [beq_eq_false_iff_ne]; omega
      have hne2 : (r.adjs.length == q.adjs.length) = false := by rw [beq_eq_false_iff_ne]; exact hlen
      have HE := Lib.hid (show r.sm q = false by rw [he]; exact decide_eq_false fun h => hlen (by rw [h]))
      have e0 : (r.org == q.org) = true := by rw [h0]; simp
      have e1 : ((r.ep : Int) == (q.ep : Int)) = true := by rw [h1]; simp
      have e2 : ((r.sq : Int) == (q.sq : Int)) = true := by rw [h2]; simp
      have e3 : (r.clm == q.clm) = true := by rw [h3]; simp
      have e4 : (r.ing == q.ing) = true := by rw [h4]; simp
      have ne0 : (r.org != q.org) = false := by rw [h0]; simp
      have ne1 : ((r.ep : Int) != (q.ep : Int)) = false := by rw [h1]; simp
      have ne2 : ((r.sq : Int) != (q.sq : Int)) = false := by rw [h2]; simp
      have ne3 : (r.clm != q.clm) = false := by rw [h3]; simp
      have ne4 : (r.ing != q.ing) = false := by rw [h4]; simp
      have en1 : (r.ep == q.ep) = true := by rw [h1]; simp
      have en2 : (r.sq == q.sq) = true := by rw [h2]; simp
      clear hlen he h0 h1 h2 h3 h4
      go_enter Try.func35, Try.ntmps35
      unfold Rc.ag Rc.cs at *
      go_wp2_with fail
      go_returns
      exact ⟨by rw [HE.out]; rfl, ((Below.refl _ _).alloc (Nat.le_refl _) _).alloc (by rw [World.size_alloc]; omega) _⟩
    · obtain ⟨n, hn⟩ : ∃ n, n = r.adjs.length := ⟨_, rfl⟩
      have hcsr : r.ag sa sc = .agg #[.int .i64 r.org, .int .u32 r.ep, .int .u32 r.sq, .int .i64 r.clm, .bool r.ing, .slice sa n sc] := by rw [hn]; rfl
      have hcsq : q.ag sb sd = .agg #[.int .i64 r.org, .int .u32 r.ep, .int .u32 r.sq, .int .i64 r.clm, .bool r.ing, .slice sb n sd] := by rw [h0, h1, h2, h3, h4, hn, hlen]; rfl
      have hwr : W1 = (W.alloc (.cells #[.int .i64 r.org, .int .u32 r.ep, .int .u32 r.sq, .int .i64 r.clm, .bool r.ing, .slice sa n sc] 25)).alloc (.cells #[.int .i64 r.org, .int .u32 r.ep, .int .u32 r.sq, .int .i64 r.clm, .bool r.ing, .slice sb n sd] 25) := by rw [hn, HW1.out]; unfold Rc.cs; rw [hlen, h0, h1, h2, h3, h4]
      have HWR := Lib.hid hwr
      have HLE := Lib.hid he
      rw [hcsr, hcsq]
      rw [← hn] at hl
      have HN := Lib.hid hn
      have HL := Lib.hid hlen
      clear hn hlen hl2 hcsr hcsq hwr he h0 h1 h2 h3 h4
      go_enter Try.func35, Try.ntmps35
      go_wp2_with fail
      rw [← HWR.out]
      go_loopw [5] (fun i wr => RSmRel W r q sa sc sb sd i wr) (fun i _ => n - (intOf i).toNat)
      case atStart => exact ⟨0, rfl, Nat.zero_le _, rfl, HS0.out.b0, HS0.out.b1, HS0.out.bel⟩
      case round =>
        obtain ⟨k, rfl, hk, hp, hb0, hb1, hb⟩ := hrel
        rw [← HN.out] at hk
        have x5 := hb0.cells.2.2.2.2.2
        have y5 := hb1.cells.2.2.2.2.2
        rw [← HN.out] at x5
        rw [← HL.out, ← HN.out] at y5
        by_cases hlt : k < n
        · have hkx : k < r.adjs.length := by rw [← HN.out]; exact hlt
          have hky : k < q.adjs.length := by rw [← HL.out, ← HN.out]; exact hlt
          have hlti : (k : Int) < (n : Int) := by omega
          obtain ⟨hAV, hBV⟩ := HV.out _ hb
          obtain ⟨ad, ha, c0, c1⟩ := hAV k hkx
          obtain ⟨bd, hbd, d0, d1⟩ := hBV k hky
          obtain ⟨xa, hxa⟩ : ∃ xa, xa = r.adjs.getD k default := ⟨_, rfl⟩
          obtain ⟨ya, hya⟩ : ∃ ya, ya = q.adjs.getD k default := ⟨_, rfl⟩
          rw [← hxa] at c0 c1
          rw [← hya] at d0 d1
          subst ha
          subst hbd
          have HXA := Lib.hid hxa
          have HYA := Lib.hid hya
          have HP := Lib.hid hp
          have HS := Lib.hid (And.intro hb0 (And.intro hb1 hb))
          clear hxa hya hp hb hb0 hb1 hkx hky hAV hBV
          have hel : (xa = ya) ∨ (xa ≠ ya ∧ xa.1 ≠ ya.1) ∨ (xa ≠ ya ∧ xa.1 = ya.1 ∧ xa.2 ≠ ya.2) := by
            by_cases h : xa = ya
            · exact .inl h
            · by_cases h1 : xa.1 = ya.1
              · exact .inr (.inr ⟨h, h1, fun h2 => h (Prod.ext h1 h2)⟩)
              · exact .inr (.inl ⟨h, h1⟩)
          rcases hel with hel | ⟨hel, h1⟩ | ⟨hel, h1, h2⟩
          · have HR := Lib.hid (show RSmRel W r q (some ad) sc (some bd) sd (.int .i64 ((k : Int) + 1)) wr.drew from ⟨k + 1, by go_num, by rw [← HN.out]; omega, take_eq_snoc (by rw [← HN.out]; exact hlt) (by rw [← HL.out, ← HN.out]; exact hlt) HP.out (by rw [← HXA.out, ← HYA.out, hel]), HS.out.1, HS.out.2.1, HS.out.2.2.trans ⟨rfl, rfl, rfl, Nat.le_refl _, fun _ _ => rfl⟩⟩)
            subst hel
            go_wp2_with fail
            refine wp_region_ord [(0, true), (1, true), (2, true), (3, true), (4, true), (5, true), (6, true), (7, true), (8, true), (9, true), (10, true)] (fun V => V = wr.drew) (by kernel_rfl) (by kernel_rfl) (by decide) (by kernel_rfl) (fun d _ _ _ _ h => by cases d <;> exact h) rfl ?_
            iterate 11 ((apply wpOrd_take rfl rfl (by kernel_rfl); (intro V hV; subst hV; go_simp; rfl)); (try simp only [List.setIfInBounds_toArray, List.set_cons_succ, List.set_cons_zero]))
            refine wpOrd_nil ?_
            go_wp2_with fail
            go_roundw
            case rel => first | exact HR.out | ((repeat apply Exists.intro); exact ⟨HR.out, rfl⟩)
            case measure => simp [intOf]; omega
          · have HE := Lib.hid (show r.sm q = false from decide_eq_false (fun h => ne_of_get (k := k) (xs := r.adjs) (ys := q.adjs) (by rw [← HXA.out, ← HYA.out]; exact hel) (by rw [h])))
            have e1 : (xa.1 == ya.1) = false := by rw [beq_eq_false_iff_ne]; exact h1
            clear hel h1
            go_wp2_with fail
            refine wp_region_ord [(0, true), (1, true), (2, true), (3, true), (4, true), (5, true), (6, true), (7, true), (8, true), (9, true), (10, true)] (fun V => V = wr.drew) (by kernel_rfl) (by kernel_rfl) (by decide) (by kernel_rfl) (fun d _ _ _ _ h => by cases d <;> exact h) rfl ?_
            iterate 11 ((apply wpOrd_take rfl rfl (by kernel_rfl); (intro V hV; subst hV; go_simp; rfl)); (try simp only [List.setIfInBounds_toArray, List.set_cons_succ, List.set_cons_zero]))
            refine wpOrd_nil ?_
            go_wp2_with fail
            go_returns
            exact ⟨by rw [HE.out]; rfl, HS.out.2.2.trans ⟨rfl, rfl, rfl, Nat.le_refl _, fun _ _ => rfl⟩⟩
          · have HE := Lib.hid (show r.sm q = false from decide_eq_false (fun h => ne_of_get (k := k) (xs := r.adjs) (ys := q.adjs) (by rw [← HXA.out, ← HYA.out]; exact hel) (by rw [h])))
            have e1 : (xa.1 == ya.1) = true := by rw [beq_iff_eq]; exact h1
            have e2 : (xa.2 == ya.2) = false := by rw [beq_eq_false_iff_ne]; exact h2
            clear hel h1 h2
            go_wp2_with fail
            refine wp_region_ord [(0, true), (1, true), (2, true), (3, true), (4, true), (5, true), (6, true), (7, true), (8, true), (9, true), (10, true)] (fun V => V = wr.drew) (by kernel_rfl) (by kernel_rfl) (by decide) (by kernel_rfl) (fun d _ _ _ _ h => by cases d <;> exact h) rfl ?_
            iterate 11 ((apply wpOrd_take rfl rfl (by kernel_rfl); (intro V hV; subst hV; go_simp; rfl)); (try simp only [List.setIfInBounds_toArray, List.set_cons_succ, List.set_cons_zero]))
            refine wpOrd_nil ?_
            go_wp2_with fail
            go_returns
            exact ⟨by rw [HE.out]; rfl, HS.out.2.2.trans ⟨rfl, rfl, rfl, Nat.le_refl _, fun _ _ => rfl⟩⟩
        · obtain rfl : k = n := by omega
          have HE := Lib.hid (show r.sm q = true by rw [HLE.out]; exact decide_eq_true (by rw [List.take_of_length_le (by rw [← HN.out]; exact Nat.le_refl _), List.take_of_length_le (by rw [← HL.out, ← HN.out]; exact Nat.le_refl _)] at hp; exact hp))
          have HB := Lib.hid hb
          clear hp hb hb0 hb1
          go_wp2_with fail
          go_returns
          exact ⟨by rw [HE.out]; rfl, HB.out⟩

end Go.Proofs.Ytickjmkkgcfkhaa

/- Contracts of the record: numbers laid behind bytes; a record's bytes. -/
set_option linter.unusedSimpArgs false
set_option linter.unusedVariables false
namespace Go.Proofs.Ytickjmkkgcfkhaa
open Go.RowKit Go.ChangeShapes Go.WideShapes

end Go.Proofs.Ytickjmkkgcfkhaa

/- Contracts of the reference's record: numbers laid; stamps' bytes. -/
set_option linter.unusedSimpArgs false
set_option linter.unusedVariables false
namespace Go.Proofs.Ytickjmkkgcfkhaa
open Go.RowKit Go.ChangeShapes Go.WideShapes

set_option maxRecDepth 100000 in
set_option maxHeartbeats 1600000 in
theorem puts_any (g n : Nat) (vs : List (Nat × Nat)) (W : World) (hn : n = 2 * vs.length) (hg : W.heap[g]? = some (.cells (pairV vs).toArray 28 (0, 0))) (hok : pairOk vs) (hl : vs.length ≤ 1000) :
    Calls Try.prog 41 #[.slice (some ⟨g, 0, none⟩) n n] W fun e W' => e = .returned (.string (bs (pairB vs))) ∧ Below W.heap.size W W' := by
  have h0 : PutsRel W g vs (.string (bs [])) (.int .i64 0) W := ⟨0, rfl, rfl, Nat.zero_le _, hg, Below.refl _ _⟩
  have hbs : (⟨#[]⟩ : ByteArray) = bs [] := rfl
  have hn2 : n ≤ 2000 := by omega
  have H0 := Lib.hid h0
  have HN := Lib.hid hn
  have HOK := Lib.hid hok
  clear h0 hg hok hn
  go_enter Try.func41, Try.ntmps41
  go_wp2_with fail
  go_loopw [3, 4] (fun s i wr => PutsRel W g vs s i wr) (fun _ i _ => 2001 - (intOf i).toNat)
  case atStart => exact H0.out
  case round =>
    obtain ⟨k, rfl, rfl, hk, hg, hb⟩ := hrel
    by_cases hlt : k < vs.length
    · obtain ⟨c0, c1⟩ := pairV_get vs k hlt
      obtain ⟨x, hx⟩ : ∃ x, x = vs.getD k default := ⟨_, rfl⟩
      have hmem : x ∈ vs := by rw [hx, List.getD_eq_getElem?_getD, List.getElem?_eq_getElem hlt]; exact List.getElem_mem hlt
      obtain ⟨hm, hv⟩ := HOK.out x hmem
      rw [← hx] at c0 c1
      obtain ⟨i, hi⟩ : ∃ i, i = 2 * k := ⟨_, rfl⟩
      have hii : 2 * (k : Int) = (i : Int) := by omega
      rw [← hi] at c0 c1
      have hin : (i : Int) + 1 < (n : Int) := by have := HN.out; omega
      have hin0 : (i : Int) < (n : Int) := by omega
      have hw1 : IntKind.i64.wrap ((i : Int) + 1) = ((i + 1 : Nat) : Int) := by rw [IntWalk.i64_in _ (by omega)]; omega
      have hd1 : decide ((i : Int) + 1 < (n : Int)) = true := decide_eq_true hin
      have hm1 : IntKind.i64.wrap (x.2 : Int) = (x.2 : Int) := IntWalk.i64_in _ (by omega)
      have hlen := pairB_len (vs.take k) (fun y hy => HOK.out y (List.mem_of_mem_take hy))
      have hlt' : (vs.take k).length ≤ 1000 := by rw [List.length_take]; omega
      have HP := Lib.hid (fun V => rput_yes (bs (pairB (vs.take k))) x.1 x.2 V hm hv (by rw [bs_size]; omega))
      have HT := Lib.hid (show pairB (vs.take (k + 1)) = pairB (vs.take k) ++ nb x.1 x.2 by
        rw [List.take_succ_eq_append_getElem hlt]
        rw [List.getD_eq_getElem?_getD, List.getElem?_eq_getElem hlt, Option.getD_some] at hx
        rw [← hx]
        simp [pairB])
      have HS := Lib.hid (show wr.drew.heap[g]? = some (.cells (pairV vs).toArray 28 (0, 0)) ∧ Below W.heap.size W wr.drew from ⟨hg, hb.trans ⟨rfl, rfl, rfl, Nat.le_refl _, fun _ _ => rfl⟩⟩)
      have HC := Lib.hid (show ∀ V : World, V.heap[g]? = some (.cells (pairV vs).toArray 28 (0, 0)) → V.cell? ⟨g, i, none⟩ = some (.int .u64 (x.1 : Nat)) ∧ V.cell? ⟨g, i + 1, none⟩ = some (.int .u64 (x.2 : Nat)) from fun V hV => ⟨(cell_of_row _ _ _ _ _ _ hV).trans (by rw [List.getElem?_toArray]; exact c0), (cell_of_row _ _ _ _ _ _ hV).trans (by rw [List.getElem?_toArray]; exact c1)⟩)
      have HI := Lib.hid hi
      clear c0 c1 hx hmem hm hv hlen hlt' hg hb hi
      go_wp2_with fail
      refine wp_region_ord [(0, true), (1, true), (2, true), (3, true), (4, true), (5, true), (6, true), (7, true), (8, true), (9, true), (10, true), (11, false), (12, true), (13, true), (14, true), (15, true)] (fun V => V.heap[g]? = some (.cells (pairV vs).toArray 28 (0, 0)) ∧ Below W.heap.size W V) (by kernel_rfl) (by kernel_rfl) (by decide) (by kernel_rfl) (fun d _ _ _ _ h => by cases d <;> exact h) HS.out ?_
      iterate 11 ((apply wpOrd_take rfl rfl (by kernel_rfl); (intro V hV; obtain ⟨y0, y1⟩ := HC.out V hV.1; go_simp; rfl)); (try simp only [List.setIfInBounds_toArray, List.set_cons_succ, List.set_cons_zero]))
      apply wpOrd_do rfl (by kernel_rfl)
      intro K hK
      go_simp
      refine (HP.out _).mono ?_
      rintro e V ⟨rfl, hb⟩
      have HSV := Lib.hid (show V.heap[g]? = some (.cells (pairV vs).toArray 28 (0, 0)) ∧ Below W.heap.size W V from ⟨(hb.block _ (Array.getElem?_eq_some_iff.1 HS.out.1).1).trans HS.out.1, HS.out.2.trans (hb.mono HS.out.2.size)⟩)
      refine hK _ _ HSV.out ?_
      clear hK K hb
      iterate 4 ((apply wpOrd_take rfl rfl (by kernel_rfl); (intro V hV; go_simp; rfl)); (try simp only [List.setIfInBounds_toArray, List.set_cons_succ, List.set_cons_zero]))
      refine wpOrd_nil ?_
      have HR := Lib.hid (show PutsRel W g vs (.string (bs (pairB (vs.take k) ++ nb x.1 x.2))) (.int .i64 ((i : Int) + 2)) V from ⟨k + 1, by have := HI.out; congr 1; omega, by rw [HT.out], hlt, HSV.out.1, HSV.out.2⟩)
      go_wp2_with fail
      go_roundw
      case rel => first | exact HR.out | ((repeat apply Exists.intro); exact ⟨HR.out, rfl⟩)
      case measure => simp [intOf]; omega
    · obtain rfl : k = vs.length := by omega
      obtain ⟨i, hi⟩ : ∃ i, i = 2 * vs.length := ⟨_, rfl⟩
      have hii : 2 * (vs.length : Int) = (i : Int) := by omega
      have hd1 : decide ((i : Int) + 1 < (n : Int)) = false := decide_eq_false (by have := HN.out; omega)
      have hin : ¬ ((i : Int) + 1 < (n : Int)) := by have := HN.out; omega
      have HT := Lib.hid (show pairB (vs.take vs.length) = pairB vs by rw [List.take_length])
      have HB := Lib.hid hb
      have hi2 : i ≤ 2000 := by omega
      clear hg hb hlt hi
      go_wp2_with fail
      go_returns
      exact ⟨by rw [← HT.out]; rfl, HB.out⟩

end Go.Proofs.Ytickjmkkgcfkhaa

/- Contracts of the record: the reference's bytes of a record; stamps' bytes. -/
set_option linter.unusedSimpArgs false
set_option linter.unusedVariables false
namespace Go.Proofs.Ytickjmkkgcfkhaa
open Go.RowKit Go.ChangeShapes Go.WideShapes

set_option maxRecDepth 100000 in
set_option maxHeartbeats 3200000 in
theorem rencode_no (r : Rc) (sa : Option Addr) (sc : Nat) (W : World) (hA : AdjsIn W sa r.adjs) (hl : r.adjs.length ≤ maxLen) (hc : r.chk = false) :
    Calls Try.prog 22 #[r.ag sa sc] W fun e W' => e = .returned (.tuple #[.string (bs []), .int .i64 2]) ∧ Below W.heap.size W W' := by
  obtain ⟨W1, hW1⟩ : ∃ W1, W1 = W.alloc (.cells (r.cs sa sc) 25) := ⟨_, rfl⟩
  have hb1 : Below W.heap.size W W1 := by rw [hW1]; exact (Below.refl _ _).alloc (Nat.le_refl _) _
  have HCH := Lib.hid (rcheck_any r sa sc W1 (hA.later hb1) hl)
  have HE := Lib.hid (show r.err = 2 by unfold Rc.err; rw [hc]; rfl)
  have HW1 := Lib.hid hW1
  have HB1 := Lib.hid hb1
  clear hW1 hb1 hA hc
  go_enter Try.func22, Try.ntmps22
  unfold Rc.ag Rc.cs at *
  go_wp2_with fail
  rw [← HW1.out]
  refine HCH.out.mono ?_
  rintro e V ⟨rfl, hb⟩
  rw [HE.out]
  have HB := Lib.hid (HB1.out.trans (hb.mono HB1.out.size))
  clear hb
  go_wp2_with fail
  go_ret2
  exact ⟨rfl, HB.out⟩

set_option maxRecDepth 100000 in
set_option maxHeartbeats 3200000 in
theorem rencode_yes (r : Rc) (sa : Option Addr) (sc : Nat) (W : World) (hA : AdjsIn W sa r.adjs) (hl : r.adjs.length ≤ maxLen) (hok : r.ok) (hc : r.chk = true) :
    Calls Try.prog 22 #[r.ag sa sc] W fun e W' => e = .returned (.tuple #[.string (bs r.enc), .int .i64 0]) ∧ Below W.heap.size W W' := by
  obtain ⟨W1, hW1⟩ : ∃ W1, W1 = W.alloc (.cells (r.cs sa sc) 25) := ⟨_, rfl⟩
  have hb1 : Below W.heap.size W W1 := by rw [hW1]; exact (Below.refl _ _).alloc (Nat.le_refl _) _
  have hbx : BoxR W.heap.size r sa sc W1 := by rw [hW1]; exact heap_alloc_new _ _
  have HCH := Lib.hid (rcheck_any r sa sc W1 (hA.later hb1) hl)
  have HE := Lib.hid (show r.err = 0 by unfold Rc.err; rw [hc]; rfl)
  have hcc := hc
  simp only [Rc.chk, rtr, Bool.and_eq_true, decide_eq_true_eq] at hcc
  obtain ⟨⟨⟨⟨⟨⟨⟨c1, c2⟩, c3⟩, c4⟩, c5⟩, c6⟩, c7⟩, c8⟩ := hcc
  obtain ⟨_, o1, o2, _⟩ := hok
  have HBD := Lib.hid (chkA_bound _ _ _ c8)
  obtain ⟨o, ho⟩ : ∃ o : Nat, r.org = (o : Int) := ⟨r.org.toNat, by omega⟩
  obtain ⟨c, hcl⟩ : ∃ c : Nat, r.clm = (c : Int) := ⟨r.clm.toNat, by omega⟩
  obtain ⟨n, hn⟩ : ∃ n, n = r.adjs.length := ⟨_, rfl⟩
  obtain ⟨ig, hig⟩ : ∃ ig, r.ing = ig := ⟨_, rfl⟩
  have ho1 : o < 256 := by omega
  have hc1 : c < 65536 := by omega
  have hn1 : n ≤ 16 := by omega
  have hw0 : IntKind.u64.wrap (o : Int) = (o : Int) := IntWalk.u64_in _ (by omega)
  have hw1 : IntKind.u64.wrap (r.ep : Int) = (r.ep : Int) := IntWalk.u64_in _ (by omega)
  have hw2 : IntKind.u64.wrap (r.sq : Int) = (r.sq : Int) := IntWalk.u64_in _ (by omega)
  have hw3 : IntKind.u64.wrap (c : Int) = (c : Int) := IntWalk.u64_in _ (by omega)
  have hw4 : IntKind.u64.wrap (n : Int) = (n : Int) := IntWalk.u64_in _ (by omega)
  have hag : r.ag sa sc = .agg #[.int .i64 o, .int .u32 r.ep, .int .u32 r.sq, .int .i64 c, .bool ig, .slice sa n sc] := by unfold Rc.ag Rc.cs; rw [ho, hcl, hn, hig]
  have hcs : r.cs sa sc = #[.int .i64 o, .int .u32 r.ep, .int .u32 r.sq, .int .i64 c, .bool ig, .slice sa n sc] := by unfold Rc.cs; rw [ho, hcl, hn, hig]
  have HCE := Lib.hid (show ∀ V, BoxR W.heap.size r sa sc V → V.cell? ⟨W.heap.size, 0, none⟩ = some (.int .i64 o) ∧ V.cell? ⟨W.heap.size, 1, none⟩ = some (.int .u32 r.ep) ∧ V.cell? ⟨W.heap.size, 2, none⟩ = some (.int .u32 r.sq) ∧ V.cell? ⟨W.heap.size, 3, none⟩ = some (.int .i64 c) ∧ V.cell? ⟨W.heap.size, 4, none⟩ = some (.bool ig) ∧ V.cell? ⟨W.heap.size, 5, none⟩ = some (.slice sa n sc) from fun V h => by
    have := h.cells
    rw [ho, hcl, ← hn, hig] at this
    exact this)
  have HLE := Lib.hid (show r.head = nb o 1 ++ nb r.ep 4 ++ nb r.sq 4 ++ nb c 2 ++ nb (if ig then 1 else 0) 1 ++ nb n 1 by unfold Rc.head; rw [ho, hcl, ← hn, hig]; rfl)
  have HAD := Lib.hid (fun V (hV : Below W.heap.size W V) => hA.later hV)
  rw [hcs] at hW1
  rw [hag] at HCH ⊢
  have HW1 := Lib.hid hW1
  have HB1 := Lib.hid hb1
  have HBX := Lib.hid hbx
  have HN := Lib.hid hn
  obtain ⟨x0, x1, x2, x3, x4, x5⟩ := HCE.out _ hbx
  clear hW1 hb1 hA hc hbx ho hcl hn hig hag hcs c1 c2 c3 c4 c5 c6 c7 c8
  go_enter Try.func22, Try.ntmps22
  go_wp2_with fail
  rw [← HW1.out]
  refine HCH.out.mono ?_
  rintro e V ⟨rfl, hb⟩
  rw [HE.out]
  have HB := Lib.hid (HB1.out.trans (hb.mono HB1.out.size))
  have HBX2 := Lib.hid (HBX.out.later hb)
  clear hb x0 x1 x2 x3 x4 x5
  obtain ⟨x0, x1, x2, x3, x4, x5⟩ := HCE.out _ HBX2.out
  obtain ⟨iv, hiv⟩ : ∃ iv : Nat, iv = if ig then 1 else 0 := ⟨_, rfl⟩
  have hiv1 : iv < 256 := by rw [hiv]; split <;> omega
  obtain ⟨vs, hvs⟩ : ∃ vs : List (Nat × Nat), vs = [(o, 1), (r.ep, 4), (r.sq, 4), (c, 2), (iv, 1), (n, 1)] := ⟨_, rfl⟩
  have hvok : pairOk vs := by
    rw [hvs]
    intro x hx
    simp only [List.mem_cons, List.not_mem_nil, or_false] at hx
    rcases hx with rfl | rfl | rfl | rfl | rfl | rfl <;> refine ⟨by simp, ?_⟩ <;> simp only [Nat.reduceMul, Nat.reducePow] <;> omega
  have HPB := Lib.hid (show pairB vs = r.head by rw [HLE.out, hvs, hiv]; simp [pairB, List.append_assoc])
  have HPUT := Lib.hid (show ∀ (g : Nat) (Z : World), Z.heap[g]? = some (.cells #[.int .u64 o, .int .u64 1, .int .u64 r.ep, .int .u64 4, .int .u64 r.sq, .int .u64 4, .int .u64 c, .int .u64 2, .int .u64 iv, .int .u64 1, .int .u64 n, .int .u64 1] 28 (0, 0)) → _ from fun g Z h => puts_any g 12 vs Z (by rw [hvs]; rfl) (by rw [h, hvs]; rfl) hvok (by rw [hvs]; simp))
  clear hvs hvok
  have hii : (ig = false ∧ iv = 0) ∨ (ig = true ∧ iv = 1) := by cases ig <;> simp [hiv]
  clear hiv
  rcases hii with ⟨hi1, hi2⟩ | ⟨hi1, hi2⟩
  all_goals
    subst hi1
    subst hi2
    go_wp2_with fail
    have hal := fun (k : Nat) => heap_alloc_new V (.cells #[.int .u64 o, .int .u64 1, .int .u64 r.ep, .int .u64 4, .int .u64 r.sq, .int .u64 4, .int .u64 c, .int .u64 2, .int .u64 k, .int .u64 1, .int .u64 n, .int .u64 1] 28)
    refine (HPUT.out _ _ (hal _)).mono ?_
    clear hal
    rintro e V1 ⟨rfl, hb⟩
    have hbv : Below V.heap.size V V1 := ((Below.refl V.heap.size V).alloc (Nat.le_refl _) _).trans (hb.mono (by rw [World.size_alloc]; omega))
    rw [HPB.out]
    have HS1 := Lib.hid (And.intro (HBX2.out.later hbv) (HB.out.trans (hbv.mono HB.out.size)))
    clear hb hbv x0 x1 x2 x3 x4 x5
    have HR0 := Lib.hid (show REncRel W r sa sc (.string (bs r.head)) (.int .i64 0) V1 from ⟨0, rfl, by rw [List.take_zero]; simp [encA], Nat.zero_le _, HS1.out.1, HS1.out.2⟩)
    go_wp2_with fail
    go_loopw [5, 6] (fun s i wr => REncRel W r sa sc s i wr) (fun _ i _ => 17 - (intOf i).toNat)
    case atStart => exact HR0.out
    case round =>
      obtain ⟨k, rfl, rfl, hk, hbx, hb⟩ := hrel
      rw [← HN.out] at hk
      by_cases hlt : k < n
      · have hkl : k < r.adjs.length := by rw [← HN.out]; exact hlt
        have hlti : (k : Int) < (n : Int) := by omega
        obtain ⟨ad, ha, e0, e1⟩ := HAD.out wr hb k hkl
        obtain ⟨a, hae⟩ : ∃ a, a = r.adjs.getD k default := ⟨_, rfl⟩
        have hmem : a ∈ r.adjs := by rw [hae, List.getD_eq_getElem?_getD, List.getElem?_eq_getElem hkl]; exact List.getElem_mem hkl
        obtain ⟨b1, b2, b3, b4⟩ := HBD.out a hmem
        obtain ⟨to, hto⟩ : ∃ to : Nat, a.1 = (to : Int) := ⟨a.1.toNat, by omega⟩
        obtain ⟨co, hco⟩ : ∃ co : Nat, a.2 = (co : Int) := ⟨a.2.toNat, by omega⟩
        have ht1 : to < 256 := by omega
        have hc2 : co < 65536 := by omega
        have hx0 : IntKind.u64.wrap (to : Int) = (to : Int) := IntWalk.u64_in _ (by omega)
        have hx1 : IntKind.u64.wrap (co : Int) = (co : Int) := IntWalk.u64_in _ (by omega)
        have HEN := Lib.hid (show encA (r.adjs.take (k + 1)) = encA (r.adjs.take k) ++ pairB [(to, 1), (co, 2)] by
          rw [List.take_succ_eq_append_getElem hkl]
          have hae' := hae
          rw [List.getD_eq_getElem?_getD, List.getElem?_eq_getElem hkl, Option.getD_some] at hae'
          rw [← hae']
          simp [encA, pairB, hto, hco])
        have HCA := Lib.hid (show ∀ V, Below W.heap.size W V → V.cell? (ad.add (k * 2)) = some (.int .i64 to) ∧ V.cell? ⟨(ad.add (k * 2)).block, (ad.add (k * 2)).off + 1, none⟩ = some (.int .i64 co) from fun V hV => by
          obtain ⟨ad', h1, h2, h3⟩ := HAD.out V hV k hkl
          rw [ha] at h1
          simp only [Option.some.injEq] at h1
          subst h1
          rw [← hae, hto] at h2
          rw [← hae, hco] at h3
          exact ⟨h2, h3⟩)
        have hvok2 : pairOk [(to, 1), (co, 2)] := by
          intro x hx
          simp only [List.mem_cons, List.not_mem_nil, or_false] at hx
          rcases hx with rfl | rfl <;> refine ⟨by simp, ?_⟩ <;> simp only [Nat.reduceMul, Nat.reducePow] <;> omega
        have HP2 := Lib.hid (show ∀ (g : Nat) (Z : World), Z.heap[g]? = some (.cells #[.int .u64 to, .int .u64 1, .int .u64 co, .int .u64 2] 28 (0, 0)) → _ from fun g Z h => puts_any g 4 [(to, 1), (co, 2)] Z rfl h hvok2 (by simp))
        have hap := bs_append (r.head ++ encA (r.adjs.take k)) (pairB [(to, 1), (co, 2)])
        have hsz := bs_size
        have hll : (encA (r.adjs.take k)).length ≤ 100 := by rw [encA_len, List.length_take]; omega
        have hpl : (pairB [(to, 1), (co, 2)]).length ≤ 100 := Nat.le_trans (pairB_len _ hvok2) (by simp)
        have hhl := r.head_len
        obtain ⟨pb, hpb⟩ : ∃ pb, pb = pairB [(to, 1), (co, 2)] := ⟨_, rfl⟩
        obtain ⟨pa, hpa⟩ : ∃ pa, pa = r.head ++ encA (r.adjs.take k) := ⟨_, rfl⟩
        have hpal : pa.length ≤ 200 := by rw [hpa, List.length_append]; omega
        rw [← hpb] at hpl HEN hap HP2
        rw [← hpa] at hap ⊢
        have hnl : ¬ 9223372036854775807 < pa.length + pb.length := by omega
        have HPA := Lib.hid hpa
        subst ha
        obtain ⟨U, hU⟩ : ∃ U, U = wr.drew := ⟨_, rfl⟩
        have HS := Lib.hid (show BoxR W.heap.size r (some ad) sc U ∧ Below W.heap.size W U by rw [hU]; exact ⟨hbx, hb.trans ⟨rfl, rfl, rfl, Nat.le_refl _, fun _ _ => rfl⟩⟩)
        obtain ⟨x0, x1, x2, x3, x4, x5⟩ := HCE.out _ hbx
        clear hbx hb e0 e1 hae hmem b1 b2 b3 b4 hto hco hvok2 hkl hll hhl hpb hpa
        go_wp2_with fail
        refine wp_region_ord [(0, true), (1, true), (2, true), (3, true), (4, true), (5, true), (6, true), (7, true), (8, true), (9, true), (10, true), (11, true), (12, true), (13, true), (14, true), (15, false), (16, false), (17, true), (18, true)] (fun V => BoxR W.heap.size r (some ad) sc V ∧ Below W.heap.size W V) (by kernel_rfl) (by kernel_rfl) (by decide) (by kernel_rfl) (fun d _ _ _ _ h => by cases d <;> exact h) (by rw [← hU]; exact HS.out) ?_
        rw [← hU]
        clear hU x0 x1 x2 x3 x4 x5
        iterate 15 ((apply wpOrd_take rfl rfl (by kernel_rfl); (intro V hV; obtain ⟨x0, x1, x2, x3, x4, x5⟩ := HCE.out _ hV.1; obtain ⟨y0, y1⟩ := HCA.out _ hV.2; go_simp; rfl)); (try simp only [List.setIfInBounds_toArray, List.set_cons_succ, List.set_cons_zero]))
        apply wpOrd_do rfl (by kernel_rfl)
        intro K hK
        go_simp
        obtain ⟨Z, hZ⟩ : ∃ Z, Z = U.alloc (.cells #[.int .u64 to, .int .u64 1, .int .u64 co, .int .u64 2] 28) := ⟨_, rfl⟩
        have hbZ : Below U.heap.size U Z := by rw [hZ]; exact (Below.refl _ _).alloc (Nat.le_refl _) _
        have HSZ := Lib.hid (And.intro (HS.out.1.later hbZ) (HS.out.2.trans (hbZ.mono HS.out.2.size)))
        have HPZ := Lib.hid (HP2.out U.heap.size Z (by rw [hZ]; exact heap_alloc_new _ _))
        rw [← hZ]
        refine hK _ _ HSZ.out ?_
        clear hK K hZ hbZ
        apply wpOrd_do rfl (by kernel_rfl)
        intro K hK
        go_simp
        refine HPZ.out.mono ?_
        rintro e V2 ⟨rfl, hb⟩
        have HS2 := Lib.hid (And.intro (HSZ.out.1.later hb) (HSZ.out.2.trans (hb.mono HSZ.out.2.size)))
        refine hK _ _ HS2.out ?_
        clear hK K hb
        iterate 2 ((apply wpOrd_take rfl rfl (by kernel_rfl); (intro V hV; go_simp; rfl)); (try simp only [List.setIfInBounds_toArray, List.set_cons_succ, List.set_cons_zero]))
        refine wpOrd_nil ?_
        have HR := Lib.hid (show REncRel W r (some ad) sc (.string (bs (pa ++ pb))) (.int .i64 ((k : Int) + 1)) V2 from ⟨k + 1, by go_num, by rw [HEN.out, HPA.out, List.append_assoc], by rw [← HN.out]; omega, HS2.out.1, HS2.out.2⟩)
        obtain ⟨x0, x1, x2, x3, x4, x5⟩ := HCE.out _ HS2.out.1
        go_wp2_with fail
        go_roundw
        case rel => first | exact HR.out | ((repeat apply Exists.intro); exact ⟨HR.out, rfl⟩)
        case measure => simp [intOf]; omega
      · obtain rfl : k = n := by omega
        have HEN := Lib.hid (show r.head ++ encA (r.adjs.take k) = r.enc by rw [HN.out, List.take_length]; rfl)
        obtain ⟨x0, x1, x2, x3, x4, x5⟩ := HCE.out _ hbx
        have HB := Lib.hid hb
        clear hbx hb
        go_wp2_with fail
        go_ret2
        exact ⟨by rw [← HEN.out]; rfl, HB.out⟩

end Go.Proofs.Ytickjmkkgcfkhaa

/- Contracts of the record: stamps' bytes. -/
set_option linter.unusedSimpArgs false
set_option linter.unusedVariables false
namespace Go.Proofs.Ytickjmkkgcfkhaa
open Go.RowKit Go.ChangeShapes Go.WideShapes

theorem rencst_no (s : St) (W : World) (hc : s.may = false) :
    Calls Try.prog 23 #[s.ag] W fun e W' => e = .returned (.tuple #[.string (bs []), .int .i64 2]) ∧ Below W.heap.size W W' := by
  obtain ⟨W1, hW1⟩ : ∃ W1, W1 = W.alloc (.cells s.cs 27) := ⟨_, rfl⟩
  have HB1 := Lib.hid (show Below W.heap.size W W1 by rw [hW1]; exact (Below.refl _ _).alloc (Nat.le_refl _) _)
  have HM := Lib.hid (rmay_any s W1)
  have HC := Lib.hid hc
  have HW1 := Lib.hid hW1
  clear hW1 hc
  go_enter Try.func23, Try.ntmps23
  unfold St.ag St.cs at *
  go_wp2_with fail
  rw [← HW1.out]
  refine HM.out.mono ?_
  rintro e V ⟨rfl, hb⟩
  rw [HC.out]
  have HB := Lib.hid (HB1.out.trans (hb.mono HB1.out.size))
  clear hb
  go_wp2_with fail
  go_ret2
  exact ⟨rfl, HB.out⟩
set_option maxHeartbeats 1600000 in
theorem rencst_yes (s : St) (W : World) (hok : s.ok) (hc : s.may = true) :
    Calls Try.prog 23 #[s.ag] W fun e W' => e = .returned (.tuple #[.string (bs s.enc), .int .i64 0]) ∧ Below W.heap.size W W' := by
  obtain ⟨W1, hW1⟩ : ∃ W1, W1 = W.alloc (.cells s.cs 27) := ⟨_, rfl⟩
  have HB1 := Lib.hid (show Below W.heap.size W W1 by rw [hW1]; exact (Below.refl _ _).alloc (Nat.le_refl _) _)
  have HBX := Lib.hid (show BoxS W.heap.size s W1 by rw [hW1]; exact heap_alloc_new _ _)
  have HM := Lib.hid (rmay_any s W1)
  have HC := Lib.hid hc
  have hcc := hc
  simp only [St.may, rtr, Bool.and_eq_true, decide_eq_true_eq] at hcc
  obtain ⟨⟨⟨c1, c2⟩, c3⟩, c4⟩ := hcc
  obtain ⟨_, o1, o2⟩ := hok
  obtain ⟨o, ho⟩ : ∃ o : Nat, s.org = (o : Int) := ⟨s.org.toNat, by omega⟩
  have ho1 : o < 256 := by omega
  have hw0 : IntKind.u64.wrap (o : Int) = (o : Int) := IntWalk.u64_in _ (by omega)
  have hw1 : IntKind.u64.wrap (s.ep : Int) = (s.ep : Int) := IntWalk.u64_in _ (by omega)
  have hw2 : IntKind.u64.wrap (s.sq : Int) = (s.sq : Int) := IntWalk.u64_in _ (by omega)
  have HEN := Lib.hid (show s.enc = nb o 1 ++ nb s.ep 4 ++ nb s.sq 4 by unfold St.enc; rw [ho]; rfl)
  have hag : s.ag = .agg #[.int .i64 o, .int .u32 s.ep, .int .u32 s.sq] := by unfold St.ag St.cs; rw [ho]
  have hcs : s.cs = #[.int .i64 o, .int .u32 s.ep, .int .u32 s.sq] := by unfold St.cs; rw [ho]
  have HCE := Lib.hid (show ∀ V, BoxS W.heap.size s V → V.cell? ⟨W.heap.size, 0, none⟩ = some (.int .i64 o) ∧ V.cell? ⟨W.heap.size, 1, none⟩ = some (.int .u32 s.ep) ∧ V.cell? ⟨W.heap.size, 2, none⟩ = some (.int .u32 s.sq) from fun V h => by
    have := h.cells
    rw [ho] at this
    exact this)
  rw [hcs] at hW1
  rw [hag] at HM ⊢
  have HW1 := Lib.hid hW1
  obtain ⟨x0, x1, x2⟩ := HCE.out _ HBX.out
  clear hW1 hc c1 c2 c3 c4 ho hag hcs
  have hvok : pairOk [(o, 1), (s.ep, 4), (s.sq, 4)] := by
    intro x hx
    simp only [List.mem_cons, List.not_mem_nil, or_false] at hx
    rcases hx with rfl | rfl | rfl <;> refine ⟨by simp, ?_⟩ <;> simp only [Nat.reduceMul, Nat.reducePow] <;> omega
  have HPB := Lib.hid (show pairB [(o, 1), (s.ep, 4), (s.sq, 4)] = s.enc by rw [HEN.out]; simp [pairB, List.append_assoc])
  have HPUT := Lib.hid (show ∀ (g : Nat) (Z : World), Z.heap[g]? = some (.cells #[.int .u64 o, .int .u64 1, .int .u64 s.ep, .int .u64 4, .int .u64 s.sq, .int .u64 4] 28 (0, 0)) → _ from fun g Z h => puts_any g 6 [(o, 1), (s.ep, 4), (s.sq, 4)] Z rfl h hvok (by simp))
  clear hvok
  go_enter Try.func23, Try.ntmps23
  go_wp2_with fail
  rw [← HW1.out]
  refine HM.out.mono ?_
  rintro e V ⟨rfl, hb⟩
  rw [HC.out]
  have HB := Lib.hid (HB1.out.trans (hb.mono HB1.out.size))
  have HBX2 := Lib.hid (HBX.out.later hb)
  clear hb x0 x1 x2
  obtain ⟨x0, x1, x2⟩ := HCE.out _ HBX2.out
  go_wp2_with fail
  refine (HPUT.out _ _ (heap_alloc_new V _)).mono ?_
  rintro e V1 ⟨rfl, hb⟩
  rw [HPB.out]
  have HBE := Lib.hid (HB.out.trans ((((Below.refl V.heap.size V).alloc (Nat.le_refl _) _).trans (hb.mono (by rw [World.size_alloc]; omega))).mono HB.out.size))
  clear hb
  go_wp2_with fail
  go_ret2
  exact ⟨rfl, HBE.out⟩

theorem rencst_any (s : St) (W : World) (hok : s.ok) : Calls Try.prog 23 #[s.ag] W fun e W' => e = .returned (.tuple #[.string s.encS, .int .i64 s.encE]) ∧ Below W.heap.size W W' := by
  unfold St.encS St.encE
  by_cases h : s.may = true
  · rw [if_pos h, if_pos h]; exact rencst_yes s W hok h
  · rw [if_neg h, if_neg h]; exact rencst_no s W (by simpa using h)
theorem rencode_any (r : Rc) (sa : Option Addr) (sc : Nat) (W : World) (hA : AdjsIn W sa r.adjs) (hl : r.adjs.length ≤ maxLen) (hok : r.ok) :
    Calls Try.prog 22 #[r.ag sa sc] W fun e W' => e = .returned (.tuple #[.string r.encS, .int .i64 r.err]) ∧ Below W.heap.size W W' := by
  unfold Rc.encS Rc.err
  by_cases h : r.chk = true
  · rw [if_pos h, if_pos h]; exact rencode_yes r sa sc W hA hl hok h
  · rw [if_neg h, if_neg h]; exact rencode_no r sa sc W hA hl (by simpa using h)

end Go.Proofs.Ytickjmkkgcfkhaa
