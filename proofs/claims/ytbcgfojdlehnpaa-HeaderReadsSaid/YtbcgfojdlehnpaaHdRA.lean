/- Contracts of the reference's header: a width's code, is it a width, the size. -/
import Derived.Test.YtbcgfojdlehnpaaHdL
set_option linter.unusedSimpArgs false
set_option linter.unusedVariables false
namespace Go.Proofs.Ytbcgfojdlehnpaa
open Go.RowKit Go.ChangeShapes Go.WideShapes

def codeI (w : Int) : Int := if wide w = true then (codeN w : Int) else -1
theorem code_found {w : Int} {k : Nat} (hk : k < 6) (h : ((8 * 2 ^ k : Nat) : Int) = w) : codeI w = k := by
  subst h
  rw [codeI, if_pos (wide_code (show k ≤ 5 by omega)).1, (wide_code (show k ≤ 5 by omega)).2.1]
theorem code_none {w : Int} (h : ∀ j, j < 6 → ((8 * 2 ^ j : Nat) : Int) ≠ w) : codeI w = -1 := by
  rw [codeI, if_neg]
  intro hw
  obtain ⟨h1, h2, _⟩ := codeN_wid hw
  exact h (codeN w) (by omega) h1.symm
def CodeRel (w : Int) (i : Value) : Prop := ∃ k : Nat, i = .int .i64 k ∧ k ≤ 6 ∧ ∀ j, j < k → ((8 * 2 ^ j : Nat) : Int) ≠ w
set_option maxHeartbeats 1600000 in
theorem code_any (w : Int) (W : World) : Calls Try.prog 41 #[.int .i64 w] W fun e W' => e = .returned (.int .i64 (codeI w)) ∧ W = W' := by
  have H0 := Lib.hid (show CodeRel w (.int .i64 0) from ⟨0, rfl, by omega, fun j hj => absurd hj (by omega)⟩)
  go_enter Try.func41, Try.ntmps41
  go_wp2_with fail
  go_loop [3] (fun i => CodeRel w i) (fun i => 7 - (intOf i).toNat)
  case atStart => exact H0.out
  case round =>
    obtain ⟨k, rfl, hk, hne⟩ := hrel
    by_cases hlt : k < 6
    · obtain ⟨z, hz⟩ : ∃ z : Nat, z = 8 * 2 ^ k := ⟨_, rfl⟩
      have hp1 : 1 ≤ 2 ^ k := Nat.pow_pos (by decide)
      have hp2 : 2 ^ k ≤ 32 := Nat.le_trans (Nat.pow_le_pow_right (by decide) (show k ≤ 5 by omega)) (by decide)
      have d3 : IntKind.i64.wrap (8 * 2 ^ k) = (z : Int) := by rw [show (8 * 2 ^ k : Int) = ((8 * 2 ^ k : Nat) : Int) from by simp, ← hz]; exact IntWalk.i64_in _ (by omega)
      have d4 : wrap64 (8 * 2 ^ k) = (z : Int) := by unfold wrap64; rw [show (8 * 2 ^ k : Int) = ((8 * 2 ^ k : Nat) : Int) from by simp, ← hz]; omega
      have hku : IntKind.u64.wrap (k : Int) = (k : Int) := IntWalk.u64_in _ (by omega)
      have hkw : IntKind.i64.wrap ((k : Int) + 1) = (k : Int) + 1 := IntWalk.i64_in _ (by omega)
      by_cases he : (z : Int) = w
      · have HE := Lib.hid (code_found (w := w) hlt (by rw [← hz]; exact he))
        have ht : ((z : Int) == w) = true := by rw [beq_iff_eq]; exact he
        clear he hz hp1 hp2 hne
        go_wp2_with fail
        go_returns
        exact ⟨by rw [HE.out]; rfl, rfl⟩
      · have ht : ((z : Int) == w) = false := by rw [beq_eq_false_iff_ne]; exact he
        have HREL := Lib.hid (show CodeRel w (.int .i64 ((k : Int) + 1)) from ⟨k + 1, by simp, by omega, fun j hj => by
          by_cases hjk : j = k
          · rw [hjk, ← hz]; exact he
          · exact hne j (by omega)⟩)
        clear he hz hp1 hp2 hne
        go_wp2_with fail
        go_round
        case rel => exact HREL.out
        case measure => simp [intOf]; omega
    · obtain rfl : k = 6 := by omega
      have HE := Lib.hid (code_none hne)
      clear hne
      go_wp2_with fail
      go_returns
      exact ⟨by rw [HE.out]; rfl, rfl⟩
theorem hrwide_any (w : Int) (W : World) : Calls Try.prog 18 #[.int .i64 w] W fun e W' => e = .returned (.bool (wide w)) ∧ W = W' := by
  have HC := Lib.hid (code_any w W)
  have HE := Lib.hid (show decide (0 ≤ codeI w) = wide w by
    unfold codeI
    by_cases h : wide w = true
    · rw [if_pos h, h]; exact decide_eq_true (by omega)
    · rw [if_neg h, show wide w = false by simpa using h]; rfl)
  go_enter Try.func18, Try.ntmps18
  go_wp2_with fail
  refine HC.out.mono ?_
  rintro e V ⟨rfl, rfl⟩
  go_wp2_with fail
  go_returns
  exact ⟨by rw [← HE.out]; rfl, rfl⟩
theorem hrsize_any (n : Int) (W : World) : Calls Try.prog 19 #[.int .i64 n] W fun e W' => e = .returned (.tuple #[.int .i64 (sizeV n), .int .i64 (sizeE n)]) ∧ W = W' := by
  have HW := Lib.hid (hrwide_any n W)
  by_cases hw : wide n = true
  · have HE := Lib.hid (show sizeV n = 15 + n / 8 by rw [sizeV, if_pos hw])
    have HF := Lib.hid (show sizeE n = 0 by rw [sizeE, if_pos hw])
    have hc := wide_cases hw
    have hq0 : 8 ≤ n := by omega
    have hq1 : n ≤ 256 := by omega
    have HB := Lib.hid hw
    clear hw hc
    go_enter Try.func19, Try.ntmps19
    go_wp2_with fail
    refine HW.out.mono ?_
    rintro e V ⟨rfl, rfl⟩
    rw [HB.out]
    have hd : n.tdiv 8 = n / 8 := Int.tdiv_eq_ediv_of_nonneg (by omega)
    go_wp2_with fail
    go_ret2
    refine ⟨?_, rfl⟩
    rw [HE.out, HF.out]
    rfl
  · have HE := Lib.hid (show sizeV n = 0 by rw [sizeV, if_neg hw])
    have HF := Lib.hid (show sizeE n = 2 by rw [sizeE, if_neg hw])
    have HB := Lib.hid (show wide n = false by simpa using hw)
    clear hw
    go_enter Try.func19, Try.ntmps19
    go_wp2_with fail
    refine HW.out.mono ?_
    rintro e V ⟨rfl, rfl⟩
    rw [HB.out]
    go_wp2_with fail
    go_ret2
    refine ⟨?_, rfl⟩
    rw [HE.out, HF.out]
    rfl

end Go.Proofs.Ytbcgfojdlehnpaa
