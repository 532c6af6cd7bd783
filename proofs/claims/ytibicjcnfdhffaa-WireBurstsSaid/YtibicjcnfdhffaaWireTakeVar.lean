/- Contracts of TakeVar, the program's and the reference's. -/
import Derived.Test.YtibicjcnfdhffaaWirePutVar
import Derived.Test.YtibicjcnfdhffaaWireTV
import Derived.Test.YtibicjcnfdhffaaRegion
set_option linter.unusedSimpArgs false
set_option linter.unusedVariables false
namespace Go.Proofs.Ytibicjcnfdhffaa
open Go.RowKit

/-- What 'TakeVar' answers: the number, the place behind it, the error's number. -/
def tvOf (b : ByteArray) (a : Int) : Option (Nat × Nat) := if 0 ≤ a ∧ a < b.size then tv 10 0 0 (b.data.toList.drop a.toNat) else none
def tvV (b : ByteArray) (a : Int) : Nat := match tvOf b a with | some x => x.1 | none => 0
def tvN (b : ByteArray) (a : Int) : Int := match tvOf b a with | some x => a + x.2 | none => 0
def tvE (b : ByteArray) (a : Int) : Int := match tvOf b a with | some _ => 0 | none => 4
theorem tv_none {b : ByteArray} {a : Int} (h : tvOf b a = none) : tvV b a = 0 ∧ tvN b a = 0 ∧ tvE b a = 4 := by simp [tvV, tvN, tvE, h]
theorem tv_some {b : ByteArray} {a : Int} {v n : Nat} (h : tvOf b a = some (v, n)) : tvV b a = v ∧ tvN b a = a + n ∧ tvE b a = 0 := by simp [tvV, tvN, tvE, h]
theorem tvOf_in {b : ByteArray} {a : Nat} (h : a < b.size) : tvOf b (a : Int) = tv 10 0 0 (b.data.toList.drop a) := by unfold tvOf; rw [if_pos (by omega)]; rfl

theorem ret_none {b : ByteArray} {a : Int} (h : tvOf b a = none) : Ending.returned (.tuple #[.int .u64 0, .int .i64 0, .int .i64 4]) = .returned (.tuple #[.int .u64 (tvV b a : Nat), .int .i64 (tvN b a), .int .i64 (tvE b a)]) := by
  obtain ⟨h1, h2, h3⟩ := tv_none h
  rw [h1, h2, h3]; rfl
theorem ret_some {b : ByteArray} {a : Int} {v n : Nat} {x y : Int} (h : tvOf b a = some (v, n)) (hx : x = v) (hy : y = a + n) :
    Ending.returned (.tuple #[.int .u64 x, .int .i64 y, .int .i64 0]) = .returned (.tuple #[.int .u64 (tvV b a : Nat), .int .i64 (tvN b a), .int .i64 (tvE b a)]) := by
  obtain ⟨h1, h2, h3⟩ := tv_some h
  rw [h1, h2, h3, hx, hy]

set_option maxRecDepth 100000 in
set_option maxHeartbeats 1000000 in
theorem takevar_yes (b : ByteArray) (a : Nat) (w : World) (ha : a < b.size) (hb : b.size ≤ 1125899906842624) :
    Calls Try.prog 25 #[.string b, .int .i64 a] w fun e w' => e = .returned (.tuple #[.int .u64 (tvV b a : Nat), .int .i64 (tvN b a), .int .i64 (tvE b a)]) ∧ w = w' := by
  have h0 := Lib.hid (tvOf_in ha)
  have hd0 : decide ((a : Int) < 0) = false := decide_eq_false (by omega)
  have hd1 : decide (b.size ≤ a) = false := decide_eq_false (by omega)
  go_enter Try.func25, Try.ntmps25
  go_wp2_with fail
  go_loop [4, 7] (fun x i => ∃ (k t : Nat), k ≤ 10 ∧ i = .int .i64 k ∧ x = .int .u64 t ∧ Hid (t < 128 ^ k) ∧ Hid (tvOf b a = tv (10 - k) k t (b.data.toList.drop (a + k)))) (fun _ i => 10 - (intOf i).toNat)
  case atStart => exact ⟨0, 0, Nat.zero_le _, rfl, rfl, (by decide : (0 : Nat) < 1), h0.out⟩
  case round =>
    obtain ⟨k, t, hk, rfl, rfl, hlt, ht⟩ := hrel
    by_cases h10 : k < 10
    · by_cases hin : a + k < b.size
      · have hstep := Lib.hid (ht.out.trans (tv_step (t := t) h10 hin))
        have hx := b[a + k].toNat_lt
        have hval := Lib.hid (val_go t b[a + k].toNat k (by omega) (by omega) hlt.out)
        by_cases hc : k = 9 ∧ 1 < b[a + k].toNat
        · have hs := Lib.hid (hstep.out.trans (if_pos hc))
          obtain ⟨h9, hc1⟩ := hc
          subst h9
          clear hstep hval
          go_wp2_with fail
          go_ret3
          exact ⟨ret_none hs.out, rfl⟩
        · have hs := Lib.hid (hstep.out.trans (if_neg hc))
          have hv := Lib.hid (hval.out (fun h => Nat.le_of_not_lt fun h' => hc ⟨h, h'⟩))
          by_cases h128 : b[a + k].toNat < 128
          · have hs2 := Lib.hid (hs.out.trans (if_pos h128))
            by_cases hz : b[a + k].toNat = 0 ∧ 0 < k
            · have hs3 := Lib.hid (hs2.out.trans (if_pos hz))
              clear hstep hval hs hv hs2 hc
              obtain ⟨hz1, hz2⟩ := hz
              by_cases h9 : k = 9
              · subst h9
                go_wp2_with fail
                go_ret3
                exact ⟨ret_none hs3.out, rfl⟩
              · go_wp2_with fail
                go_ret3
                exact ⟨ret_none hs3.out, rfl⟩
            · have hs3 := Lib.hid (hs2.out.trans (if_neg hz))
              have hmod : Hid (b[a + k].toNat % 128 = b[a + k].toNat) := Nat.mod_eq_of_lt h128
              clear hstep hval hs hs2
              by_cases hz0 : b[a + k].toNat = 0
              · obtain rfl : k = 0 := by
                  rcases Nat.eq_zero_or_pos k with h | h
                  · exact h
                  · exact absurd ⟨hz0, h⟩ hz
                obtain rfl : t = 0 := by have := hlt.out; simp at this; exact this
                have hz1 : b[a].toNat = 0 := hz0
                have hs4 : Hid (tvOf b a = some (0, 1)) := by
                  show _ = _
                  rw [hs3.out, hz0]
                clear hz hc hz0 hx h128 hv hmod hs3
                go_wp2_with fail
                go_ret3
                exact ⟨ret_some hs4.out (by decide) (by omega), rfl⟩
              · clear hz
                by_cases h9 : k = 9
                · have hc1 : b[a + k].toNat ≤ 1 := Nat.le_of_not_lt fun h' => hc ⟨h9, h'⟩
                  clear hc
                  subst h9
                  have hv9 := hv.out.1
                  rw [show (2 : Int) ^ (7 * 9) = 9223372036854775808 from by decide, hmod.out] at hv9
                  have hv9' := Lib.hid hv9
                  clear hv9
                  go_wp2_with fail
                  go_ret3
                  exact ⟨ret_some hs3.out hv9'.out (by omega), rfl⟩
                · clear hc
                  go_wp2_with fail
                  go_ret3
                  exact ⟨ret_some hs3.out (by rw [hv.out.1, hmod.out]) (by omega), rfl⟩
          · have hs2 := Lib.hid (hs.out.trans (if_neg h128))
            clear hstep hval hs
            by_cases h9 : k = 9
            · omega
            · clear hc
              go_wp2_with fail
              go_round
              case rel => exact ⟨k + 1, _, by omega, by go_num, by rw [hv.out.1], hv.out.2, hs2.out⟩
              case measure => simp [intOf]; omega
      · have hs := Lib.hid (ht.out.trans (tv_end (by omega)))
        go_wp2_with fail
        go_ret3
        exact ⟨ret_none hs.out, rfl⟩
    · obtain rfl : k = 10 := by omega
      have hs : Hid (tvOf b a = none) := ht.out
      go_wp2_with fail
      go_ret3
      exact ⟨ret_none hs.out, rfl⟩

set_option maxHeartbeats 400000 in
theorem takevar_any (b : ByteArray) (a : Int) (w : World) (hb : b.size ≤ 1125899906842624) :
    Calls Try.prog 25 #[.string b, .int .i64 a] w fun e w' => e = .returned (.tuple #[.int .u64 (tvV b a : Nat), .int .i64 (tvN b a), .int .i64 (tvE b a)]) ∧ w = w' := by
  by_cases h0 : a < 0
  · have hn : Hid (tvOf b a = none) := if_neg (by omega)
    go_enter Try.func25, Try.ntmps25
    go_wp2_with fail
    go_ret3
    exact ⟨ret_none hn.out, rfl⟩
  · by_cases h1 : (b.size : Int) ≤ a
    · have hn : Hid (tvOf b a = none) := if_neg (by omega)
      go_enter Try.func25, Try.ntmps25
      go_wp2_with fail
      go_ret3
      exact ⟨ret_none hn.out, rfl⟩
    · obtain ⟨a, rfl⟩ := Int.eq_ofNat_of_zero_le (a := a) (by omega)
      exact takevar_yes b a w (by omega) hb

end Go.Proofs.Ytibicjcnfdhffaa
