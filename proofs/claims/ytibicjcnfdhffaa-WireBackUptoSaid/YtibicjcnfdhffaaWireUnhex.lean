/- Contracts of Unhex, the program's and the reference's. -/
import Derived.Test.YtibicjcnfdhffaaWireHexA
import Derived.Deep.QuietTactic
import Derived.BigQuiet
import Derived.OwnWalk
set_option linter.unusedSimpArgs false
set_option linter.unusedVariables false
namespace Go.Proofs.Ytibicjcnfdhffaa
open Go.RowKit

set_option maxHeartbeats 400000 in
theorem digit_any (c : UInt8) (w : World) :
    Calls Try.prog 36 #[.int .u8 (c.toNat : Int)] w fun e w' => e = .returned (.int .u8 (nib c : Int)) ∧ w = w' := by
  go_enter Try.func36, Try.ntmps36
  go_wp2_with fail
  go_loop [3] (fun i => ∃ k : Nat, k ≤ 16 ∧ i = .int .i64 k ∧ Hid (∀ j, j < k → hexL.getD j 0 ≠ c)) (fun i => 16 - (intOf i).toNat)
  case atStart => exact ⟨0, Nat.zero_le _, rfl, fun j hj => absurd hj (Nat.not_lt_zero j)⟩
  case round =>
    obtain ⟨k, hk, rfl, hne⟩ := hrel
    by_cases hlt : k < 16
    · have hd1 : ∀ W, (Instr.index 9 (.string ⟨#[48, 49, 50, 51, 52, 53, 54, 55, 56, 57, 97, 98, 99, 100, 101, 102]⟩) (.int .i64 (k : Int))).run Try.prog W = .ok (.int .u8 ((digT k).toNat : Int)) W := fun W => run_digit W .i64 k hlt
      by_cases hc : digT k = c
      · have hn : Hid (nib c = k) := nib_at hlt hc
        have hc2 : ((digT k).toNat : Int) = (c.toNat : Int) := by rw [hc]
        have HC := Lib.hid hc
        clear hc
        go_wp2_with fail
        go_ret
        exact ⟨by rw [hn.out]; rfl, rfl⟩
      · have hc2 : (((digT k).toNat : Int) == (c.toNat : Int)) = false := by
          rw [beq_eq_false_iff_ne]
          intro h
          exact hc (UInt8.toNat_inj.1 (by omega))
        have hc3 : ¬ ((digT k).toNat : Int) = (c.toNat : Int) := by simpa using hc2
        have HC := Lib.hid hc
        clear hc
        go_wp2_with fail
        go_round
        case rel =>
          refine ⟨k + 1, by omega, by go_num, fun j hj => ?_⟩
          by_cases hjk : j < k
          · exact hne.out j hjk
          · obtain rfl : j = k := by omega
            exact HC.out
        case measure => simp [intOf]; omega
    · obtain rfl : k = 16 := by omega
      have hn : Hid (nib c = 16) := nib_none hne.out
      go_wp2_with fail
      go_ret
      exact ⟨by rw [hn.out]; rfl, rfl⟩

theorem byteV_pair {x y : Nat} (h1 : x < 16) (h2 : y < 16) : byteV (toU8 (x * 16 + y)) = .int .u8 ((x : Int) * 16 + (y : Int)) := by
  rw [byteV_small (by omega)]; simp

/-- The program's search of a digit. -/
theorem find_any (c : UInt8) (w : World) :
    Calls Try.prog 35 #[.string ⟨#[48, 49, 50, 51, 52, 53, 54, 55, 56, 57, 97, 98, 99, 100, 101, 102]⟩, .int .u8 (c.toNat : Int)] w fun e w' => e = .returned (.int .i64 (pos c)) ∧ w' = w := by
  refine (Try.strings_IndexByte _ _ w).mono ?_
  rintro e w' ⟨rfl, rfl⟩
  exact ⟨by rw [← pos_eq]; rfl, rfl⟩

set_option maxHeartbeats 800000 in
theorem unhex_any (s : ByteArray) (w : World) (hb : s.size ≤ 140737488355328) :
    Calls Try.prog 27 #[.string s] w fun e w' => e = .returned (.tuple #[.string (unhS s), .int .i64 (unhE s)]) ∧ Below w.heap.size w w' := by
  obtain ⟨i0, hi, hz0, hz1, hz2⟩ := info_parts Try.infoU8b
  by_cases hodd : s.size % 2 ≠ 0
  · have he := Lib.hid (unh_odd hodd)
    have hd : (s.size : Int) % 2 ≠ 0 := by omega
    go_enter Try.func27, Try.ntmps27
    go_wp2_with fail
    go_ret2
    refine ⟨?_, Below.refl _ _⟩
    rw [he.out.1, he.out.2]
    rfl
  · have hd : (s.size : Int) % 2 = 0 := by omega
    have hd2 : s.size % 2 = 0 := by omega
    go_enter Try.func27, Try.ntmps27
    go_wp2_with (at_make; refine wpList_make_own _ rfl _ _ 38 rfl w.heap.size 5 i0 (.int .u8 0) 1 Try.underlying38 hi hz0 hz1 _ _ _ (s.size / 2) rfl rfl (by omega) ?bytes ?mlen ?base ?_)
    case bytes => rw [hz2]; omega
    case mlen => unfold maxLen; omega
    case base => exact Nat.le_refl _
    intro w1 hown1 hg1
    have hrow1 : Row w1 w.heap.size 5 1 (.slice (some ⟨w.heap.size, 0, none⟩) 0 (s.size / 2)) 0 [] := Row.of_own hown1
    have hb1 : Below w.heap.size w w1 := (Below.refl _ _).grown hg1 (Nat.le_refl _) (fun k hk => by cases hk)
    clear hown1 hg1
    go_wp2_with fail
    go_loopw [4, 5] (fun o i wr => ∃ (j : Nat) (pre : List UInt8), j ≤ s.size ∧ j % 2 = 0 ∧ pre.length ≤ j ∧ i = .int .i64 j ∧ Row wr w.heap.size 5 1 o pre.length (pre.map byteV) ∧ Below w.heap.size w wr ∧ Hid (unhP pre (s.data.toList.drop j) = unhG s.data.toList)) (fun _ i _ => s.size - (intOf i).toNat)
    case atStart => exact ⟨0, [], Nat.zero_le _, rfl, Nat.le_refl _, rfl, hrow1, hb1, by show unhP [] _ = _; simp [unhP]⟩
    case round =>
      obtain ⟨j, pre, hj, hj2, hpl, rfl, hrow, hb0, hP⟩ := hrel
      have hs0 := hb0.size
      by_cases hlt : j < s.size
      · have hlt2 : j + 1 < s.size := by omega
        have hq1 : (0 : Int) ≤ (j : Int) + 1 := by omega
        have hq2 : (j : Int) + 1 < (s.size : Int) := by omega
        go_wp2_with fail
        go_quiet (first | (go_at_call 35; refine Calls.quiet_of_same (find_any _ _)))
        have hrw := hrow.drewN nq
        have hbw : Below w.heap.size w (wr.drewN nq) := ⟨hb0.1, hb0.2, hb0.3, hb0.4, hb0.5⟩
        have hsw := hbw.size
        clear hrow hb0 hs0 hb1 hrow1
        have hbad := unh_bad hlt2 hP.out
        have hgood := unh_good hlt2 hP.out
        have hx1 := @pos_yes s[j]
        have hx2 := @pos_no s[j]
        have hy1 := @pos_yes s[j + 1]
        have hy2 := @pos_no s[j + 1]
        generalize nib s[j] = x at *
        generalize nib s[j + 1] = y at *
        generalize pos s[j] = px at *
        generalize pos s[j + 1] = py at *
        by_cases h1 : x < 16
        · obtain rfl := hx1 h1
          by_cases h2 : y < 16
          · obtain rfl := hy1 h2
            have hor := or_go x h1 y h2
            have HG := Lib.hid (hgood h1 h2)
            clear hbad hgood hx1 hx2 hy1 hy2
            go_wp2_with (at_builtin; refine wpList_append_one _ rfl (.tmp 37) (.tmp 43) 38 rfl w.heap.size 5 i0 (.int .u8 0) 1 Try.underlying38 hi hz0 hz1 hz2 rfl _ _ _ _ hrw rfl rfl rfl ?c3 ?c4 hsw ?_)
            case c3 => unfold maxLen; omega
            case c4 => omega
            intro v2 w2 hrow2 hg2
            have hb2 := below_one hbw hsw hg2 fun g hg => (hrw.lt g hg).1
            have hrow3 : Row w2 w.heap.size 5 1 v2 (pre ++ [toU8 (x * 16 + y)]).length ((pre ++ [toU8 (x * 16 + y)]).map byteV) := by
              simpa only [List.map_append, List.map_cons, List.map_nil, List.length_append, List.length_cons, List.length_nil, Nat.zero_add, byteV_pair h1 h2] using hrow2
            clear hrow2 hrw hg2 hbw
            go_wp2_with fail
            go_roundw
            case rel => exact ⟨j + 2, _, by omega, by omega, by simp; omega, by go_num, hrow3, hb2, HG.out⟩
            case measure => simp [intOf]; omega
          · obtain rfl := hy2 h2
            have HB := Lib.hid (hbad (by omega))
            clear hbad hgood hx1 hx2 hy1 hy2
            go_wp2_with fail
            go_ret2
            refine ⟨?_, hbw⟩
            rw [HB.out.1, HB.out.2]
            rfl
        · obtain rfl := hx2 h1
          have HB := Lib.hid (hbad (by omega))
          clear hbad hgood hx1 hx2 hy1 hy2
          go_wp2_with fail
          go_ret2
          refine ⟨?_, hbw⟩
          rw [HB.out.1, HB.out.2]
          rfl
      · have HE := Lib.hid (unh_end (by omega) hP.out)
        have hcv := run_string_row (P := Try.prog) 38 9 Try.underlying38 Try.underlying5 Try.underlying9 hrow
        go_wp2_with fail
        go_ret2
        refine ⟨?_, hb0⟩
        rw [HE.out.1, HE.out.2]
        rfl

set_option maxHeartbeats 800000 in
theorem runhex_any (s : ByteArray) (w : World) (hb : s.size ≤ 140737488355328) :
    Calls Try.prog 28 #[.string s] w fun e w' => e = .returned (.tuple #[.string (unhS s), .int .i64 (unhE s)]) ∧ Below w.heap.size w w' := by
  obtain ⟨i0, hi, hz0, hz1, hz2⟩ := info_parts Try.infoU8b
  by_cases hodd : s.size % 2 ≠ 0
  · have he := Lib.hid (unh_odd hodd)
    have hd : (s.size : Int) % 2 ≠ 0 := by omega
    go_enter Try.func28, Try.ntmps28
    go_wp2_with fail
    go_ret2
    refine ⟨?_, Below.refl _ _⟩
    rw [he.out.1, he.out.2]
    rfl
  · have hd : (s.size : Int) % 2 = 0 := by omega
    have hd2 : s.size % 2 = 0 := by omega
    have hd3 : ((s.size : Int) % 2 != 0) = false := by rw [hd]; rfl
    have hd4 : decide ((s.size : Int) % 2 = 0) = true := by rw [hd]; rfl
    go_enter Try.func28, Try.ntmps28
    go_wp2_with fail
    rw [hd]
    go_loopw [4, 5] (fun o i wr => ∃ (j : Nat) (pre : List UInt8), j ≤ s.size ∧ j % 2 = 0 ∧ pre.length ≤ j ∧ i = .int .i64 j ∧ Row wr w.heap.size 5 1 o pre.length (pre.map byteV) ∧ Below w.heap.size w wr ∧ Hid (unhP pre (s.data.toList.drop j) = unhG s.data.toList)) (fun _ i _ => s.size - (intOf i).toNat)
    case atStart => exact ⟨0, [], Nat.zero_le _, rfl, Nat.le_refl _, rfl, Row.nil_ _ _ _ _, Below.refl _ _, by show unhP [] _ = _; simp [unhP]⟩
    case round =>
      obtain ⟨j, pre, hj, hj2, hpl, rfl, hrow, hb0, hP⟩ := hrel
      have hs0 := hb0.size
      by_cases hlt : j < s.size
      · have hlt2 : j + 1 < s.size := by omega
        have hq1 : (0 : Int) ≤ (j : Int) + 1 := by omega
        have hq2 : (j : Int) + 1 < (s.size : Int) := by omega
        go_wp2_with fail
        go_quiet (first | (go_at_call 36; refine Calls.quiet_of_same ((digit_any _ _).mono fun _ _ h => ⟨h.1, h.2.symm⟩)))
        have hrw := hrow.drewN nq
        have hbw : Below w.heap.size w (wr.drewN nq) := ⟨hb0.1, hb0.2, hb0.3, hb0.4, hb0.5⟩
        have hsw := hbw.size
        clear hrow hb0 hs0
        have hbad := unh_bad hlt2 hP.out
        have hgood := unh_good hlt2 hP.out
        generalize nib s[j] = x at *
        generalize nib s[j + 1] = y at *
        by_cases h1 : x < 16
        · by_cases h2 : y < 16
          · have HG := Lib.hid (hgood h1 h2)
            clear hbad hgood
            have hg1 : decide ((15 : Int) < (x : Int)) = false := by rw [decide_eq_false_iff_not]; omega
            have hg2 : decide ((15 : Int) < (y : Int)) = false := by rw [decide_eq_false_iff_not]; omega
            go_wp2_with (at_builtin; refine wpList_append_one _ rfl (.tmp 33) (.tmp 38) 38 rfl w.heap.size 5 i0 (.int .u8 0) 1 Try.underlying38 hi hz0 hz1 hz2 rfl _ _ _ _ hrw rfl rfl rfl ?c3 ?c4 hsw ?_)
            case c3 => unfold maxLen; omega
            case c4 => omega
            intro v2 w2 hrow2 hgr2
            have hb2 := below_one hbw hsw hgr2 fun g hg => (hrw.lt g hg).1
            have hrow3 : Row w2 w.heap.size 5 1 v2 (pre ++ [toU8 (x * 16 + y)]).length ((pre ++ [toU8 (x * 16 + y)]).map byteV) := by
              simpa only [List.map_append, List.map_cons, List.map_nil, List.length_append, List.length_cons, List.length_nil, Nat.zero_add, byteV_pair h1 h2, Int.mul_comm 16] using hrow2
            clear hrow2 hrw hgr2 hbw
            go_wp2_with fail
            go_roundw
            case rel => exact ⟨j + 2, _, by omega, by omega, by simp; omega, by go_num, hrow3, hb2, HG.out⟩
            case measure => simp [intOf]; omega
          · have HB := Lib.hid (hbad (by omega))
            clear hbad hgood
            go_wp2_with fail
            go_ret2
            refine ⟨?_, hbw⟩
            rw [HB.out.1, HB.out.2]
            rfl
        · have HB := Lib.hid (hbad (by omega))
          clear hbad hgood
          go_wp2_with fail
          go_ret2
          refine ⟨?_, hbw⟩
          rw [HB.out.1, HB.out.2]
          rfl
      · have HE := Lib.hid (unh_end (by omega) hP.out)
        have hcv := run_string_row (P := Try.prog) 38 9 Try.underlying38 Try.underlying5 Try.underlying9 hrow
        go_wp2_with fail
        go_ret2
        refine ⟨?_, hb0⟩
        rw [HE.out.1, HE.out.2]
        rfl

end Go.Proofs.Ytibicjcnfdhffaa
