/- Contracts: is no bit above a width; may a header be. -/
import Derived.Test.YtickjmkkgcfkhaaGreatHdEq
set_option linter.unusedSimpArgs false
set_option linter.unusedVariables false
set_option maxRecDepth 100000
namespace Go.Proofs.YtickjmkkgcfkhaaGreat
open Go.RowKit Go.ChangeShapes Go.WideShapes

theorem zero_ok : Bt.zero.ok := ⟨by decide, by decide, by decide, by decide⟩
theorem hdz_ok : Hd.zero.ok := ⟨⟨by decide, by decide⟩, ⟨by decide, by decide⟩, by decide, ⟨by decide, by decide⟩, ⟨by decide, by decide⟩, ⟨by decide, by decide⟩, by decide, zero_ok⟩
theorem eq_bits0 (x : Bt) (b : Bool) (hx : x.ok) (hb : decide (x = Bt.zero) = b) (w : World) : (Op.equalIn 10000 30 (.agg #[.int .u64 x.a, .int .u64 x.b, .int .u64 x.c, .int .u64 x.d]) (.agg #[.int .u64 0, .int .u64 0, .int .u64 0, .int .u64 0])).run Tryz.prog w = .ok b w := hb ▸ eq_bits x Bt.zero hx zero_ok w
theorem eq_hd0 (x : Hd) (b : Bool) (hx : x.ok) (hb : decide (x = Hd.zero) = b) (w : World) : (Op.equalIn 10000 32 (.agg x.cs) (.agg #[.int .i64 0, .int .i64 0, .int .u32 0, .int .i64 0, .int .i64 0, .int .i64 0, .int .u32 0, .int .u64 0, .int .u64 0, .int .u64 0, .int .u64 0])).run Tryz.prog w = .ok b w := hb ▸ eq_hd x Hd.zero hx hdz_ok w

set_option maxHeartbeats 1600000 in
theorem below_any (x : Bt) (n : Int) (W : World) (hx : x.ok) (hn : I64 n) : Calls Tryz.prog 82 #[x.ag, .int .i64 n] W fun e W' => e = .returned (.bool (below x n)) ∧ Below W.heap.size W W' := by
  obtain ⟨W1, hW1⟩ : ∃ W1, W1 = W.alloc (.cells x.cs 30) := ⟨_, rfl⟩
  have hb1 : Below W.heap.size W W1 := by rw [hW1]; exact (Below.refl _ _).alloc (Nat.le_refl _) _
  have hbx : BoxBt W.heap.size x W1 := by rw [hW1]; exact heap_alloc_new _ _
  obtain ⟨x0, x1, x2, x3⟩ := hbx.cells
  have HB1 := Lib.hid hb1
  have HW1 := Lib.hid hW1
  have HX := Lib.hid hx
  have HH := Lib.hid (highest_any x W1 hx)
  obtain ⟨hn1, hn2⟩ := hn
  by_cases hz : x = Bt.zero
  · have HE := Lib.hid (show below x n = (decide (0 ≤ n) && decide (n ≤ 256)) by
      subst hz
      by_cases h0 : 0 ≤ n
      · by_cases h1 : n ≤ 256
        · rw [decide_eq_true h0, decide_eq_true h1]
          exact decide_eq_true ⟨h0, h1, Nat.pow_pos (by decide)⟩
        · rw [decide_eq_false h1, Bool.and_false]; exact decide_eq_false (fun h => h1 h.2.1)
      · rw [decide_eq_false h0, Bool.false_and]; exact decide_eq_false (fun h => h0 h.1))
    have heq := eq_bits0 x true hx (decide_eq_true hz)
    clear hW1 hb1 hbx hx hz
    by_cases h0 : 0 ≤ n
    · have hd : decide (0 ≤ n) = true := decide_eq_true h0
      go_enter Tryz.func82, Tryz.ntmps82
      unfold Bt.ag Bt.cs at *
      go_wp2_with fail
      go_returns
      rw [← HW1.out]
      exact ⟨by rw [HE.out, hd]; rfl, HB1.out⟩
    · have hd : decide (0 ≤ n) = false := decide_eq_false h0
      go_enter Tryz.func82, Tryz.ntmps82
      unfold Bt.ag Bt.cs at *
      go_wp2_with fail
      go_returns
      rw [← HW1.out]
      exact ⟨by rw [HE.out, hd]; rfl, HB1.out⟩
  · have hp := hiB_pos hx hz
    have heq := eq_bits0 x false hx (decide_eq_false hz)
    by_cases h1 : n ≤ 256
    · have hd : decide (n ≤ 256) = true := decide_eq_true h1
      have HE := Lib.hid (show below x n = decide ((hiB x : Int) ≤ n) by
        unfold below
        by_cases h0 : 0 ≤ n
        · obtain ⟨k, rfl⟩ : ∃ k : Nat, n = k := ⟨n.toNat, by omega⟩
          have := hiB_le hx k
          apply Bool.eq_iff_iff.2
          rw [decide_eq_true_eq, decide_eq_true_eq, Int.toNat_natCast]
          omega
        · rw [decide_eq_false (fun h => h0 h.1), decide_eq_false (by omega)])
      clear hW1 hb1 hbx hx hz hp
      go_enter Tryz.func82, Tryz.ntmps82
      unfold Bt.ag Bt.cs at *
      go_wp2_with fail
      rw [← HW1.out]
      refine HH.out.mono ?_
      rintro e V ⟨rfl, hb⟩
      have HB := Lib.hid (HB1.out.trans (hb.mono HB1.out.size))
      clear hb
      go_wp2_with fail
      go_returns
      exact ⟨by rw [HE.out]; rfl, HB.out⟩
    · have hd : decide (n ≤ 256) = false := decide_eq_false h1
      have HE := Lib.hid (show below x n = false from decide_eq_false (fun h => h1 h.2.1))
      clear hW1 hb1 hbx hx hz hp
      go_enter Tryz.func82, Tryz.ntmps82
      unfold Bt.ag Bt.cs at *
      go_wp2_with fail
      go_returns
      rw [← HW1.out]
      exact ⟨by rw [HE.out]; rfl, HB1.out⟩

end Go.Proofs.YtickjmkkgcfkhaaGreat
