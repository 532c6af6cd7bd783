/- Contracts of the header's leaves: the highest bit, none above a width. -/
import Derived.Test.YtickjmkkgcfkhaaGreatHdA
set_option linter.unusedSimpArgs false
set_option linter.unusedVariables false
set_option maxRecDepth 100000
namespace Go.Proofs.YtickjmkkgcfkhaaGreat
open Go.RowKit Go.ChangeShapes Go.WideShapes

def Bt.cs (x : Bt) : Array Value := #[.int .u64 x.a, .int .u64 x.b, .int .u64 x.c, .int .u64 x.d]
def Bt.ag (x : Bt) : Value := .agg x.cs
def BoxBt (g : Nat) (x : Bt) (V : World) : Prop := V.heap[g]? = some (.cells x.cs 30 (0, 0))
theorem BoxBt.later {b : Nat} {x : Bt} {V X : World} (h : BoxBt b x V) (hb : Below V.heap.size V X) : BoxBt b x X := (hb.block b (Array.getElem?_eq_some_iff.1 h).1).trans h
theorem BoxBt.cells {b : Nat} {x : Bt} {V : World} (h : BoxBt b x V) : V.cell? ⟨b, 0, none⟩ = some (.int .u64 x.a) ∧ V.cell? ⟨b, 1, none⟩ = some (.int .u64 x.b) ∧ V.cell? ⟨b, 2, none⟩ = some (.int .u64 x.c) ∧ V.cell? ⟨b, 3, none⟩ = some (.int .u64 x.d) :=
  ⟨cell_of_row _ _ 0 _ _ _ h, cell_of_row _ _ 1 _ _ _ h, cell_of_row _ _ 2 _ _ _ h, cell_of_row _ _ 3 _ _ _ h⟩

def hiB (x : Bt) : Nat := if x.d ≠ 0 then 192 + Lib.bitLen x.d else if x.c ≠ 0 then 128 + Lib.bitLen x.c else if x.b ≠ 0 then 64 + Lib.bitLen x.b else if x.a ≠ 0 then Lib.bitLen x.a else 0
theorem bitLen_zero {x : Nat} (hx : x < 18446744073709551616) (h : x ≠ 0) : 1 ≤ Lib.bitLen x := by
  have := (bitLen_le x 0 hx)
  rw [Nat.pow_zero] at this
  omega
theorem num_lt_d {x : Bt} (hx : x.ok) {k : Nat} (h : x.d ≠ 0) : x.num < 2 ^ (192 + k) ↔ x.d < 2 ^ k := by
  obtain ⟨h1, h2, h3, h4⟩ := hx
  rw [Nat.pow_add, show (2 : Nat) ^ 192 = 6277101735386680763835789423207666416102355444464034512896 from by decide]
  generalize 2 ^ k = q
  simp only [Bt.num]
  omega
theorem num_lt_c {x : Bt} (hx : x.ok) {k : Nat} (h0 : x.d = 0) : x.num < 2 ^ (128 + k) ↔ x.c < 2 ^ k := by
  obtain ⟨h1, h2, h3, h4⟩ := hx
  rw [Nat.pow_add, show (2 : Nat) ^ 128 = 340282366920938463463374607431768211456 from by decide]
  generalize 2 ^ k = q
  simp only [Bt.num]
  omega
theorem num_lt_b {x : Bt} (hx : x.ok) {k : Nat} (h0 : x.d = 0) (h00 : x.c = 0) : x.num < 2 ^ (64 + k) ↔ x.b < 2 ^ k := by
  obtain ⟨h1, h2, h3, h4⟩ := hx
  rw [Nat.pow_add, show (2 : Nat) ^ 64 = 18446744073709551616 from by decide]
  generalize 2 ^ k = q
  simp only [Bt.num]
  omega
theorem hiB_le {x : Bt} (hx : x.ok) (w : Nat) : hiB x ≤ w ↔ x.num < 2 ^ w := by
  have hx' := hx
  obtain ⟨h1, h2, h3, h4⟩ := hx'
  have low : ∀ {k m n : Nat}, k < m → 2 ^ m ≤ n → ¬ n < 2 ^ k := fun hk hm hc => by
    have := Nat.pow_le_pow_right (show 0 < 2 by decide) (Nat.le_of_lt hk)
    omega
  unfold hiB
  split
  · rename_i hd
    by_cases hw : 192 ≤ w
    · obtain ⟨k, rfl⟩ : ∃ k, w = 192 + k := ⟨w - 192, by omega⟩
      rw [num_lt_d hx hd, ← bitLen_le x.d k h4]; omega
    · have : ¬ x.num < 2 ^ w := low (m := 192) (by omega) (by rw [show (2 : Nat) ^ 192 = 6277101735386680763835789423207666416102355444464034512896 from by decide]; simp only [Bt.num]; omega)
      exact ⟨fun h => absurd h (by omega), fun h => absurd h this⟩
  · rename_i hd
    have hd : x.d = 0 := by omega
    split
    · rename_i hc
      by_cases hw : 128 ≤ w
      · obtain ⟨k, rfl⟩ : ∃ k, w = 128 + k := ⟨w - 128, by omega⟩
        rw [num_lt_c hx hd, ← bitLen_le x.c k h3]; omega
      · have : ¬ x.num < 2 ^ w := low (m := 128) (by omega) (by rw [show (2 : Nat) ^ 128 = 340282366920938463463374607431768211456 from by decide]; simp only [Bt.num]; omega)
        exact ⟨fun h => absurd h (by omega), fun h => absurd h this⟩
    · rename_i hc
      have hc : x.c = 0 := by omega
      split
      · rename_i hb
        by_cases hw : 64 ≤ w
        · obtain ⟨k, rfl⟩ : ∃ k, w = 64 + k := ⟨w - 64, by omega⟩
          rw [num_lt_b hx hd hc, ← bitLen_le x.b k h2]; omega
        · have : ¬ x.num < 2 ^ w := low (m := 64) (by omega) (by rw [show (2 : Nat) ^ 64 = 18446744073709551616 from by decide]; simp only [Bt.num]; omega)
          exact ⟨fun h => absurd h (by omega), fun h => absurd h this⟩
      · rename_i hb
        have hn : x.num = x.a := by simp only [Bt.num]; omega
        split
        · rw [hn, bitLen_le x.a w h1]
        · rename_i ha
          rw [hn]
          have := Nat.pow_pos (n := w) (show 0 < 2 by decide)
          omega
theorem hiB_pos {x : Bt} (hx : x.ok) (hz : x ≠ Bt.zero) : 1 ≤ hiB x := by
  have h0 : ¬ hiB x ≤ 0 := fun h => by
    have := (hiB_le hx 0).1 h
    rw [Nat.pow_zero] at this
    exact hz (Bt.num_inj hx ⟨by decide, by decide, by decide, by decide⟩ (by rw [show Bt.zero.num = 0 from rfl]; omega))
  omega

def HiRel (x : Bt) (W1 : World) (i : Value) (wr : World) : Prop :=
  W1 = wr ∧ (i = .int .i64 3 ∨ (i = .int .i64 2 ∧ x.d = 0) ∨ (i = .int .i64 1 ∧ x.d = 0 ∧ x.c = 0) ∨ (i = .int .i64 0 ∧ x.d = 0 ∧ x.c = 0 ∧ x.b = 0) ∨ (i = .int .i64 (-1) ∧ x.d = 0 ∧ x.c = 0 ∧ x.b = 0 ∧ x.a = 0))
set_option maxHeartbeats 1600000 in
theorem highest_any (x : Bt) (W : World) (hx : x.ok) : Calls Tryz.prog 99 #[x.ag] W fun e W' => e = .returned (.int .i64 (hiB x)) ∧ Below W.heap.size W W' := by
  obtain ⟨W1, hW1⟩ : ∃ W1, W1 = W.alloc (.cells x.cs 30) := ⟨_, rfl⟩
  have hb1 : Below W.heap.size W W1 := by rw [hW1]; exact (Below.refl _ _).alloc (Nat.le_refl _) _
  have hbx : BoxBt W.heap.size x W1 := by rw [hW1]; exact heap_alloc_new _ _
  obtain ⟨x0, x1, x2, x3⟩ := hbx.cells
  have HB1 := Lib.hid hb1
  have HW1 := Lib.hid hW1
  have HX := Lib.hid hx
  have HI := Lib.hid (show hiB x = _ from rfl)
  unfold hiB at HI
  have hl : ∀ v : Nat, v < 18446744073709551616 → Lib.bitLen v ≤ 64 := fun v hv => (bitLen_le v 64 hv).2 hv
  have HL := Lib.hid hl
  clear hW1 hb1 hbx hx hl
  go_enter Tryz.func99, Tryz.ntmps99
  unfold Bt.ag Bt.cs at *
  go_wp2_with fail
  rw [← HW1.out]
  go_loopw [3] (fun i wr => HiRel x W1 i wr) (fun i _ => (intOf i + 1).toNat)
  case atStart => exact ⟨rfl, Or.inl rfl⟩
  case round =>
    obtain ⟨rfl, hi⟩ := hrel
    obtain ⟨k1, k2, k3, k4⟩ := HX.out
    rcases hi with rfl | ⟨rfl, hd⟩ | ⟨rfl, hd, hc⟩ | ⟨rfl, hd, hc, hb⟩ | ⟨rfl, hd, hc, hb, ha⟩
    · by_cases h : x.d = 0
      · have ht : ((x.d : Int) != 0) = false := by simp [h]
        have HREL := Lib.hid (show HiRel x W1 (.int .i64 (2)) W1 from ⟨rfl, Or.inr (Or.inl ⟨rfl, h⟩)⟩)
        clear h
        go_wp2_with fail
        go_roundw
        case rel => exact HREL.out
        case measure => simp [intOf]
      · have ht : ((x.d : Int) != 0) = true := by simp [h]
        have HE := Lib.hid (show hiB x = 192 + Lib.bitLen x.d by unfold hiB; rw [if_pos h])
        have hlt := HL.out _ k4
        clear h
        go_wp2_with fail
        refine (len64_any _ _ (by omega) (by omega)).mono ?_
        rintro e V ⟨rfl, rfl⟩
        go_wp2_with fail
        go_returns
        exact ⟨by rw [HE.out]; rfl, HB1.out⟩
    · by_cases h : x.c = 0
      · have ht : ((x.c : Int) != 0) = false := by simp [h]
        have HREL := Lib.hid (show HiRel x W1 (.int .i64 (1)) W1 from ⟨rfl, Or.inr (Or.inr (Or.inl ⟨rfl, hd, h⟩))⟩)
        clear h hd
        go_wp2_with fail
        go_roundw
        case rel => exact HREL.out
        case measure => simp [intOf]
      · have ht : ((x.c : Int) != 0) = true := by simp [h]
        have HE := Lib.hid (show hiB x = 128 + Lib.bitLen x.c by unfold hiB; rw [if_neg (show ¬ x.d ≠ 0 from fun h => h hd)]; rw [if_pos h])
        have hlt := HL.out _ k3
        clear h hd
        go_wp2_with fail
        refine (len64_any _ _ (by omega) (by omega)).mono ?_
        rintro e V ⟨rfl, rfl⟩
        go_wp2_with fail
        go_returns
        exact ⟨by rw [HE.out]; rfl, HB1.out⟩
    · by_cases h : x.b = 0
      · have ht : ((x.b : Int) != 0) = false := by simp [h]
        have HREL := Lib.hid (show HiRel x W1 (.int .i64 (0)) W1 from ⟨rfl, Or.inr (Or.inr (Or.inr (Or.inl ⟨rfl, hd, hc, h⟩)))⟩)
        clear h hd hc
        go_wp2_with fail
        go_roundw
        case rel => exact HREL.out
        case measure => simp [intOf]
      · have ht : ((x.b : Int) != 0) = true := by simp [h]
        have HE := Lib.hid (show hiB x = 64 + Lib.bitLen x.b by unfold hiB; rw [if_neg (show ¬ x.d ≠ 0 from fun h => h hd)]; rw [if_neg (show ¬ x.c ≠ 0 from fun h => h hc)]; rw [if_pos h])
        have hlt := HL.out _ k2
        clear h hd hc
        go_wp2_with fail
        refine (len64_any _ _ (by omega) (by omega)).mono ?_
        rintro e V ⟨rfl, rfl⟩
        go_wp2_with fail
        go_returns
        exact ⟨by rw [HE.out]; rfl, HB1.out⟩
    · by_cases h : x.a = 0
      · have ht : ((x.a : Int) != 0) = false := by simp [h]
        have HREL := Lib.hid (show HiRel x W1 (.int .i64 (-1)) W1 from ⟨rfl, Or.inr (Or.inr (Or.inr (Or.inr ⟨rfl, hd, hc, hb, h⟩)))⟩)
        clear h hd hc hb
        go_wp2_with fail
        go_roundw
        case rel => exact HREL.out
        case measure => simp [intOf]
      · have ht : ((x.a : Int) != 0) = true := by simp [h]
        have HE := Lib.hid (show hiB x = Lib.bitLen x.a by unfold hiB; rw [if_neg (show ¬ x.d ≠ 0 from fun h => h hd)]; rw [if_neg (show ¬ x.c ≠ 0 from fun h => h hc)]; rw [if_neg (show ¬ x.b ≠ 0 from fun h => h hb)]; rw [if_pos h])
        have hlt := HL.out _ k1
        clear h hd hc hb
        go_wp2_with fail
        refine (len64_any _ _ (by omega) (by omega)).mono ?_
        rintro e V ⟨rfl, rfl⟩
        go_wp2_with fail
        go_returns
        exact ⟨by rw [HE.out]; rfl, HB1.out⟩
    · have HE := Lib.hid (show hiB x = 0 by unfold hiB; rw [if_neg (fun h => h hd), if_neg (fun h => h hc), if_neg (fun h => h hb), if_neg (fun h => h ha)])
      clear hd hc hb ha
      go_wp2_with fail
      go_returns
      exact ⟨by rw [HE.out]; rfl, HB1.out⟩

end Go.Proofs.YtickjmkkgcfkhaaGreat
