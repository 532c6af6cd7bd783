/- Contract of the reference's TakeVar. -/
import Derived.Test.YtibicjcnfdhffaaWireTakeVar
set_option linter.unusedSimpArgs false
set_option linter.unusedVariables false
namespace Go.Proofs.Ytibicjcnfdhffaa
open Go.RowKit

set_option maxRecDepth 100000 in
set_option maxHeartbeats 1000000 in
theorem rtakevar_yes (b : ByteArray) (a : Nat) (w : World) (ha : a < b.size) (hb : b.size ≤ 1125899906842624) :
    Calls Try.prog 26 #[.string b, .int .i64 a] w fun e w' => e = .returned (.tuple #[.int .u64 (tvV b a : Nat), .int .i64 (tvN b a), .int .i64 (tvE b a)]) ∧ Below w.heap.size w w' := by
  have h0 := Lib.hid (tvOf_in ha)
  have hd0 : decide ((a : Int) < 0) = false := decide_eq_false (by omega)
  go_enter Try.func26, Try.ntmps26
  go_wp2_with fail
  go_loop [7, 8] (fun x i => ∃ (k t : Nat), k ≤ 10 ∧ i = .int .i64 k ∧ x = .int .u64 t ∧ Hid (k ≤ 9 → t = grp (seg b a k) ∧ ∀ y ∈ seg b a k, 128 ≤ y.toNat) ∧ Hid (tvOf b a = tv (10 - k) k (grp (seg b a k)) (b.data.toList.drop (a + k)))) (fun _ i => 10 - (intOf i).toNat)
  case atStart => exact ⟨0, 0, Nat.zero_le _, rfl, rfl, fun _ => ⟨by simp [seg, grp], by simp [seg]⟩, by show _ = _; rw [h0.out]; simp [seg, grp]⟩
  case round =>
    obtain ⟨k, t, hk, rfl, rfl, hlt, ht⟩ := hrel
    by_cases h10 : k < 10
    · by_cases hin : a + k < b.size
      · have hstep := Lib.hid (ht.out.trans (tv_step (t := grp (seg b a k)) h10 hin))
        have hx := b[a + k].toNat_lt
        have hv := Lib.hid (val_ref t b[a + k].toNat k)
        obtain ⟨e1, hall⟩ := hlt.out (by omega)
        by_cases h128 : b[a + k].toNat < 128
        · have hck := chk_seg (v := (t + b[a + k].toNat % 128 * 128 ^ k) % 18446744073709551616) hin (by omega) hall h128 (by rw [e1])
          have HA := Lib.hid hall
          have HE := Lib.hid e1
          clear e1 hall
          have hq1 : (a : Int) ≤ (a : Int) + (k : Int) + 1 := by omega
          have hq2 : (a : Int) + (k : Int) + 1 ≤ (b.size : Int) := by omega
          by_cases hok : ¬ (k = 9 ∧ 1 < b[a + k].toNat) ∧ ¬ (b[a + k].toNat = 0 ∧ 0 < k)
          · have hyes := (hck.1 hok).1
            have hval := Lib.hid (hck.1 hok).2
            have hs := hstep.out
            rw [if_neg hok.1, if_pos h128, if_neg hok.2] at hs
            have HS := Lib.hid hs
            clear hck hok hs hstep
            go_wp2_with fail
            rw [hv.out]
            have hv64 : Hid ((t + b[a + k].toNat % 128 * 128 ^ k) % 18446744073709551616 < 18446744073709551616) := Nat.mod_lt _ (by decide)
            generalize (t + b[a + k].toNat % 128 * 128 ^ k) % 18446744073709551616 = v at *
            clear hv
            refine wp_region_ord [(0, true), (2, true), (3, true), (4, true), (5, true), (6, true), (7, true), (8, true), (1, false), (9, true)] (fun _ => True) (by kernel_rfl) (by kernel_rfl) (by decide) (by kernel_rfl) (fun d _ _ _ _ h => by cases d <;> exact h) trivial ?_
            iterate 8 (apply wpOrd_look rfl (by kernel_rfl); (intro W hS; go_simp; (try go_bits); rfl); (try simp only [Act.put, List.setIfInBounds_toArray, List.set_cons_succ, List.set_cons_zero]))
            apply wpOrd_do rfl (by kernel_rfl)
            intro K hK
            go_wp2_with (go_at_call 16; refine (rputvar_any ⟨#[]⟩ v _ hv64.out (by decide)).mono ?_; rintro e w1 ⟨rfl, hb1⟩)
            refine hK _ _ trivial ?_
            clear hK K
            apply wpOrd_look rfl (by kernel_rfl)
            · intro W hS; go_simp; (try go_bits); rfl
            refine wpOrd_nil ?_
            have hbb : Below w.heap.size w w1 := (Below.refl _ _).drew.trans hb1
            clear hb1
            go_wp2_with fail
            go_ret3
            exact ⟨ret_some HS.out (by rw [hval.out]) (by omega), hbb⟩
          · have hno := hck.2 hok
            have hs := hstep.out
            rw [tv_bad h128 hok] at hs
            have HS := Lib.hid hs
            clear hck hok hs hstep
            go_wp2_with fail
            rw [hv.out]
            have hv64 : Hid ((t + b[a + k].toNat % 128 * 128 ^ k) % 18446744073709551616 < 18446744073709551616) := Nat.mod_lt _ (by decide)
            generalize (t + b[a + k].toNat % 128 * 128 ^ k) % 18446744073709551616 = v at *
            clear hv
            refine wp_region_ord [(0, true), (2, true), (3, true), (4, true), (5, true), (6, true), (7, true), (8, true), (1, false), (9, true)] (fun _ => True) (by kernel_rfl) (by kernel_rfl) (by decide) (by kernel_rfl) (fun d _ _ _ _ h => by cases d <;> exact h) trivial ?_
            iterate 8 (apply wpOrd_look rfl (by kernel_rfl); (intro W hS; go_simp; (try go_bits); rfl); (try simp only [Act.put, List.setIfInBounds_toArray, List.set_cons_succ, List.set_cons_zero]))
            apply wpOrd_do rfl (by kernel_rfl)
            intro K hK
            go_wp2_with (go_at_call 16; refine (rputvar_any ⟨#[]⟩ v _ hv64.out (by decide)).mono ?_; rintro e w1 ⟨rfl, hb1⟩)
            refine hK _ _ trivial ?_
            clear hK K
            apply wpOrd_look rfl (by kernel_rfl)
            · intro W hS; go_simp; (try go_bits); rfl
            refine wpOrd_nil ?_
            have hbb : Below w.heap.size w w1 := (Below.refl _ _).drew.trans hb1
            clear hb1
            go_wp2_with fail
            go_ret3
            exact ⟨ret_none HS.out, hbb⟩
        · have hs := hstep.out
          by_cases h9 : k = 9
          · have hs2 : Hid (tvOf b a = tv (10 - (k + 1)) (k + 1) (grp (seg b a (k + 1))) (b.data.toList.drop (a + (k + 1)))) := by
              show _ = _
              rw [hs, if_pos (by omega)]; subst h9; rfl
            have HA := Lib.hid hall
            have HE := Lib.hid e1
            subst h9
            clear hs hstep e1 hall
            go_wp2_with fail
            go_round
            case rel => exact ⟨9 + 1, _, by omega, by go_num, by rw [show (9223372036854775808 : Int) = 2 ^ (7 * 9) from by decide, hv.out], fun h => absurd h (by omega), hs2.out⟩
            case measure => simp [intOf]
          · have hs2 : Hid (tvOf b a = tv (10 - (k + 1)) (k + 1) (grp (seg b a (k + 1))) (b.data.toList.drop (a + (k + 1)))) := by
              show _ = _
              rw [hs, if_neg (by omega), if_neg h128, seg_grp hin]
            have hA2 := Lib.hid (seg_all hin hall h128)
            have hE2 : Hid ((t + b[a + k].toNat % 128 * 128 ^ k) % 18446744073709551616 = grp (seg b a (k + 1))) := by
              show _ = _
              rw [seg_grp hin, e1]
              refine Nat.mod_eq_of_lt ?_
              have h5 := grp_lt (seg b a (k + 1))
              rw [seg_grp hin, seg_len (by omega)] at h5
              have h6 : (128 : Nat) ^ (k + 1) ≤ 128 ^ 9 := Nat.pow_le_pow_right (by decide) (by omega)
              have h4 : (128 : Nat) ^ 9 = 9223372036854775808 := by decide
              omega
            clear hs hstep e1 hall
            go_wp2_with fail
            go_round
            case rel => exact ⟨k + 1, _, by omega, by go_num, by rw [hv.out], fun _ => ⟨hE2.out, hA2.out⟩, hs2.out⟩
            case measure => simp [intOf]; omega
      · have hs := Lib.hid (ht.out.trans (tv_end (by omega)))
        go_wp2_with fail
        go_ret3
        exact ⟨ret_none hs.out, Below.refl _ _⟩
    · obtain rfl : k = 10 := by omega
      have hs : Hid (tvOf b a = none) := ht.out
      go_wp2_with fail
      go_ret3
      exact ⟨ret_none hs.out, Below.refl _ _⟩

set_option maxRecDepth 100000 in
set_option maxHeartbeats 400000 in
theorem rtakevar_any (b : ByteArray) (a : Int) (w : World) (hb : b.size ≤ 1125899906842624) :
    Calls Try.prog 26 #[.string b, .int .i64 a] w fun e w' => e = .returned (.tuple #[.int .u64 (tvV b a : Nat), .int .i64 (tvN b a), .int .i64 (tvE b a)]) ∧ Below w.heap.size w w' := by
  by_cases h0 : a < 0
  · have hn : Hid (tvOf b a = none) := if_neg (by omega)
    go_enter Try.func26, Try.ntmps26
    go_wp2_with fail
    go_ret3
    exact ⟨ret_none hn.out, Below.refl _ _⟩
  · by_cases h1 : (b.size : Int) ≤ a
    · have hn : Hid (tvOf b a = none) := if_neg (by omega)
      have hd1 : decide (a < (b.size : Int)) = false := decide_eq_false (by omega)
      go_enter Try.func26, Try.ntmps26
      go_wp2_with fail
      refine wp_loop_rounds 1 ?_
      rw [rounds_succ]
      go_wp2_with fail
      go_ret3
      exact ⟨ret_none hn.out, Below.refl _ _⟩
    · obtain ⟨a, rfl⟩ := Int.eq_ofNat_of_zero_le (a := a) (by omega)
      exact rtakevar_yes b a w (by omega) hb

end Go.Proofs.Ytibicjcnfdhffaa
