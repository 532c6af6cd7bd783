/- Contracts: a bit is taken off; a header that may be, made of any. -/
import Derived.Test.YtbcgfojdlehnpaaHdM
import Derived.Test.YtbcgfojdlehnpaaHdK
set_option linter.unusedSimpArgs false
set_option linter.unusedVariables false
namespace Go.Proofs.Ytbcgfojdlehnpaa
open Go.RowKit Go.ChangeShapes Go.WideShapes

theorem bright_any (k : Nat) (W : World) (hk : k < 256) : Calls Try.prog 49 #[.int .i64 ((k : Int) + 1)] W fun e W' => e = .returned (.bool true) ∧ W = W' := by
  have d1 : decide ((1 : Int) ≤ (k : Int) + 1) = true := decide_eq_true (by omega)
  have d2 : decide ((k : Int) + 1 ≤ 256) = true := decide_eq_true (by omega)
  have d3 : decide ((0 : Int) ≤ (k : Int)) = true := decide_eq_true (by omega)
  go_enter Try.func49, Try.ntmps49
  go_wp2_with fail
  go_returns
  exact ⟨by first | rfl | rw [d2], rfl⟩
theorem one_any (k : Nat) (W : World) (hk : k < 256) : Calls Try.prog 50 #[.int .i64 ((k : Int) + 1)] W fun e W' => e = .returned (.tuple #[.int .i64 ((k / 64 : Nat) : Int), .int .u64 ((2 ^ (k % 64) : Nat) : Int)]) ∧ Below W.heap.size W W' := by
  obtain ⟨q, hq⟩ : ∃ q, q = k / 64 := ⟨_, rfl⟩
  obtain ⟨j, hj⟩ : ∃ j, j = k % 64 := ⟨_, rfl⟩
  have hj64 : j < 64 := by omega
  have hw0 : IntKind.i64.wrap ((k : Int) + 1 - 1) = (k : Int) := by rw [show (k : Int) + 1 - 1 = (k : Int) from by omega]; exact IntWalk.i64_in _ (by omega)
  have hw1 : IntKind.i64.wrap (k : Int) = (k : Int) := IntWalk.i64_in _ (by omega)
  have q1 : (k : Int).tdiv 64 = (q : Int) := by rw [Int.tdiv_eq_ediv_of_nonneg (by omega)]; omega
  have q2 : (k : Int) / 64 = (q : Int) := by omega
  have j1 : (k : Int).tmod 64 = (j : Int) := by rw [Int.tmod_eq_emod_of_nonneg (by omega)]; omega
  have j2 : (k : Int) % 64 = (j : Int) := by omega
  have hwq : IntKind.i64.wrap (q : Int) = (q : Int) := IntWalk.i64_in _ (by omega)
  have hwj : IntKind.i64.wrap (j : Int) = (j : Int) := IntWalk.i64_in _ (by omega)
  have hj0 : (0 : Int) ≤ (j : Int) := by omega
  have hp : 2 ^ j < 18446744073709551616 := by rw [← pow64]; exact Nat.pow_lt_pow_right (by decide) hj64
  have hwp : IntKind.u64.wrap ((2 : Int) ^ j) = ((2 ^ j : Nat) : Int) := by
    rw [show ((2 : Int) ^ j) = ((2 ^ j : Nat) : Int) from by simp]
    generalize 2 ^ j = P at *
    exact IntWalk.u64_in _ (by omega)
  have hwp1 : IntKind.u64.wrap (1 * (2 : Int) ^ j) = ((2 ^ j : Nat) : Int) := by rw [Int.one_mul]; exact hwp
  rw [← hq, ← hj]
  have HWP := Lib.hid hwp
  have HWP1 := Lib.hid hwp1
  clear hq hj
  go_enter Try.func50, Try.ntmps50
  go_wp2_with fail
  refine wp_region_ord [(0, true), (1, true), (2, true), (3, true), (4, true), (5, true), (6, true), (7, true), (8, true)] (fun _ => True) (by kernel_rfl) (by kernel_rfl) (by decide) (by kernel_rfl) (fun d _ _ _ _ h => by cases d <;> exact h) trivial ?_
  iterate 9 ((apply wpOrd_take rfl rfl (by kernel_rfl); (intro V hV; go_simp; rfl)); (try simp only [List.setIfInBounds_toArray, List.set_cons_succ, List.set_cons_zero]))
  refine wpOrd_nil ?_
  go_wp2_with fail
  go_ret2
  refine ⟨?_, (Below.refl _ _).drew⟩
  first
    | rfl
    | (rw [← HWP.out]; rfl)
    | (rw [← HWP1.out]; rfl)

theorem clrB_cs (x : Bt) {k : Nat} (hk : k < 256) : x.cs.setIfInBounds (k / 64) (.int .u64 ((clr (x.w (k / 64)) (k % 64) : Nat) : Int)) = (clrB x k).cs := by
  unfold clrB
  have hk4 : k / 64 < 4 := by omega
  generalize k / 64 = q at *
  obtain rfl | rfl | rfl | rfl : q = 0 ∨ q = 1 ∨ q = 2 ∨ q = 3 := by omega
  all_goals rfl
set_option maxHeartbeats 3200000 in
theorem without_any (x : Bt) (k : Nat) (W : World) (hx : x.ok) (hk : k < 256) : Calls Try.prog 34 #[x.ag, .int .i64 ((k : Int) + 1)] W fun e W' => e = .returned (.tuple #[(clrB x k).ag, .int .i64 0]) ∧ Below W.heap.size W W' := by
  obtain ⟨W1, hW1⟩ : ∃ W1, W1 = (W.alloc (.cells x.cs 25)).alloc (.cells #[.int .u64 0, .int .u64 0, .int .u64 0, .int .u64 0] 25) := ⟨_, rfl⟩
  have hb1 : Below W.heap.size W W1 := by rw [hW1]; exact ((Below.refl _ _).alloc (Nat.le_refl _) _).alloc (by rw [World.size_alloc]; omega) _
  have hbx : BoxBt W.heap.size x W1 := by rw [hW1]; exact heap_alloc2_old _ _ _
  have hbz : BoxBt (W.heap.size + 1) Bt.zero W1 := by rw [hW1]; exact heap_alloc2_new _ _ _
  have HR := Lib.hid (fun V => bright_any k V hk)
  have HO := Lib.hid (fun V => one_any k V hk)
  have HW1 := Lib.hid hW1
  have HB1 := Lib.hid hb1
  have HBX := Lib.hid hbx
  have HBZ := Lib.hid hbz
  obtain ⟨q, hq⟩ : ∃ q, q = k / 64 := ⟨_, rfl⟩
  obtain ⟨j, hj⟩ : ∃ j, j = k % 64 := ⟨_, rfl⟩
  have hj64 : j < 64 := by omega
  have hq4 : q < 4 := by omega
  have hq4i : (q : Int) < 4 := by omega
  have HC := Lib.hid (show x.cs.setIfInBounds q (.int .u64 ((clr (x.w q) j : Nat) : Int)) = (clrB x k).cs by rw [hq, hj]; exact clrB_cs x hk)
  have HAN := Lib.hid (andNot_go (Bt.w_lt hx q) hj64)
  rw [← hq, ← hj] at HO
  obtain ⟨P, hP⟩ : ∃ P, P = 2 ^ j := ⟨_, rfl⟩
  rw [← hP] at HO HAN
  clear hP hW1 hb1 hbx hbz hq hj
  go_enter Try.func34, Try.ntmps34
  unfold Bt.ag Bt.cs at *
  go_wp2_with fail
  rw [← HW1.out]
  refine (HR.out _).mono ?_
  rintro e V ⟨rfl, rfl⟩
  go_wp2_with fail
  refine (HO.out _).mono ?_
  rintro e V ⟨rfl, hb⟩
  have hbx2 := HBX.out.later hb
  have hbz2 := HBZ.out.later hb
  have HB2 := Lib.hid (HB1.out.trans (hb.mono HB1.out.size))
  have hcw : V.cell? ⟨W.heap.size, q, none⟩ = some (.int .u64 (x.w q)) := by rw [cell_of_row _ _ q _ _ _ hbx2]; exact wcs_get x q hq4
  have hfw : V.frozen? ⟨W.heap.size, q, none⟩ = false := frozen_of_row _ _ _ _ _ hbx2
  obtain ⟨U, hU⟩ : ∃ U, U = V.setCell ⟨W.heap.size, q, none⟩ (.int .u64 ((clr (x.w q) j : Nat) : Int)) := ⟨_, rfl⟩
  have hbU : BoxBt W.heap.size (clrB x k) U := by
    rw [hU]
    have h1 := heap_setCell_same V W.heap.size q _ _ (.int .u64 ((clr (x.w q) j : Nat) : Int)) hbx2
    have h2 := HC.out
    unfold Bt.cs at h1
    rw [h2] at h1
    exact h1
  have hbzU : BoxBt (W.heap.size + 1) Bt.zero U := by rw [hU]; exact (heap_setCell_other _ _ _ _ (by simp only; omega)).trans hbz2
  have HBU := Lib.hid (show Below W.heap.size W U by rw [hU]; exact HB2.out.setCell (by simp only; omega) _)
  obtain ⟨x0, x1, x2, x3⟩ := hbU.cells
  obtain ⟨z0, z1, z2, z3⟩ := hbzU.cells
  have k0 : U.frozen? ⟨W.heap.size + 1, 0, none⟩ = false := frozen_of_row _ _ _ _ _ hbzU
  have k1 : U.frozen? ⟨W.heap.size + 1, 1, none⟩ = false := frozen_of_row _ _ _ _ _ hbzU
  have k2 : U.frozen? ⟨W.heap.size + 1, 2, none⟩ = false := frozen_of_row _ _ _ _ _ hbzU
  have k3 : U.frozen? ⟨W.heap.size + 1, 3, none⟩ = false := frozen_of_row _ _ _ _ _ hbzU
  obtain ⟨y, hy⟩ : ∃ y, y = clrB x k := ⟨_, rfl⟩
  rw [← hy] at x0 x1 x2 x3
  have han := HAN.out
  rw [hU, ← han] at x0 x1 x2 x3 z0 z1 z2 z3 k0 k1 k2 k3
  have HY := Lib.hid hy
  have HU := Lib.hid hU
  rw [← han] at HU
  clear hb hbx2 hbz2 hbU hbzU hU hy han
  go_wp2_with fail
  refine bodyPost_ret (v := .tuple #[.agg #[.int .u64 y.a, .int .u64 y.b, .int .u64 y.c, .int .u64 y.d], .int .i64 0]) ?_ rfl ⟨by rw [← HY.out], ?_⟩
  · simp only [results, Try.results34]
    go_simp
  · rw [← HU.out]
    repeat (with_reducible refine Below.setCell ?_ (by simp only; omega) _)
    exact HBU.out

end Go.Proofs.Ytbcgfojdlehnpaa
