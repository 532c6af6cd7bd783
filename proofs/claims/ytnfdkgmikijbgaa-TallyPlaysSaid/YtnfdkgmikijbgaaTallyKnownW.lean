/- The walk of the law TallyKnown. -/
import Derived.Test.YtnfdkgmikijbgaaTallyJ
set_option linter.unusedSimpArgs false
set_option linter.unusedVariables false
namespace Go.Proofs.Ytnfdkgmikijbgaa
open Go.RowKit Go.ChangeShapes Go.WideShapes

/-- 'at' refuses. -/
def AtErr (p : Value) (r e : Int) (V : World) : Prop := Calls Try.prog 24 #[p, .int .i64 r] V fun en W' => en = .returned (.tuple #[.pointer none, .int .i64 e]) ∧ V = W'
set_option maxHeartbeats 1600000 in
theorem At_err (p : Value) (r e : Int) (W : World) (he : e = 1 ∨ e = 2) (hN : ∀ V, Below W.heap.size W V → AtErr p r e V) :
    Calls Try.prog 10 #[p, .int .i64 r] W fun en W' => en = .returned (.tuple #[.agg #[.int .u64 0, .int .u64 0, .int .u64 0, .int .u64 0, .int .u64 0, .int .u64 0], .int .i64 e]) ∧ Below W.heap.size W W' := by
  obtain ⟨W1, hW1⟩ : ∃ W1, W1 = W.alloc (.cells #[.int .u64 0, .int .u64 0, .int .u64 0, .int .u64 0, .int .u64 0, .int .u64 0] 37) := ⟨_, rfl⟩
  have hb1 : Below W.heap.size W W1 := by rw [hW1]; exact (Below.refl _ _).alloc (Nat.le_refl _) _
  have h2 : BoxC W.heap.size Cn.zero W1 := by rw [hW1]; exact heap_alloc_new _ _
  obtain ⟨z0, z1, z2, z3, z4, z5⟩ := BoxC.cells h2
  have f0 := frozen_of_row _ _ 0 _ _ h2
  have f1 := frozen_of_row _ _ 1 _ _ h2
  have f2 := frozen_of_row _ _ 2 _ _ h2
  have f3 := frozen_of_row _ _ 3 _ _ h2
  have f4 := frozen_of_row _ _ 4 _ _ h2
  have f5 := frozen_of_row _ _ 5 _ _ h2
  simp only [Cn.zero] at z0 z1 z2 z3 z4 z5
  have HN := Lib.hid (hN W1 hb1)
  have HW1 := Lib.hid hW1
  have HB := Lib.hid hb1
  have hee : (e == 0) = false := by rcases he with rfl | rfl <;> rfl
  clear hW1 hb1 h2 hN he
  go_enter Try.func10, Try.ntmps10
  go_wp2_with fail
  rw [← HW1.out]
  refine HN.out.mono ?_
  rintro en w ⟨rfl, rfl⟩
  go_wp2_with fail
  (try simp only [Exit.inBlock, Exit.then])
  refine bodyPost_ret (v := .tuple #[.agg #[.int .u64 0, .int .u64 0, .int .u64 0, .int .u64 0, .int .u64 0, .int .u64 0], .int .i64 e]) ?_ rfl ⟨rfl, ?_⟩
  · simp only [results, Try.results10]
    go_simp
  · repeat (with_reducible refine Below.setCell ?_ (by simp only; omega) _)
    exact HB.out
theorem bad_err (p : Value) (r e : Int) (W : World) (he : e = 1 ∨ e = 2) (hN : AtErr p r e W) :
    Calls Try.prog 19 #[p, .int .i64 r] W fun en W' => en = .returned (.int .i64 e) ∧ W = W' := by
  have hee : (e == 0) = false := by rcases he with rfl | rfl <;> rfl
  have HN := Lib.hid hN
  clear he hN
  go_enter Try.func19, Try.ntmps19
  go_wp2_with fail
  refine HN.out.mono ?_
  rintro en w ⟨rfl, rfl⟩
  go_wp2_with fail
  go_returns
  exact ⟨rfl, rfl⟩
theorem clear_err (p : Value) (r e : Int) (W : World) (he : e = 1 ∨ e = 2) (hN : AtErr p r e W) :
    Calls Try.prog 12 #[p, .int .i64 r] W fun en W' => en = .returned (.int .i64 e) ∧ W = W' := by
  have hee : (e == 0) = false := by rcases he with rfl | rfl <;> rfl
  have HN := Lib.hid hN
  clear he hN
  go_enter Try.func12, Try.ntmps12
  go_wp2_with fail
  refine HN.out.mono ?_
  rintro en w ⟨rfl, rfl⟩
  go_wp2_with fail
  go_returns
  exact ⟨rfl, rfl⟩
theorem note_err (p : Value) (r e : Int) (d : Dn) (W : World) (he : e = 1 ∨ e = 2) (hN : ∀ V, Below W.heap.size W V → AtErr p r e V) :
    Calls Try.prog 8 #[p, .int .i64 r, d.ag] W fun en W' => en = .returned (.int .i64 e) ∧ Below W.heap.size W W' := by
  obtain ⟨W1, hW1⟩ : ∃ W1, W1 = W.alloc (.cells d.cells 34) := ⟨_, rfl⟩
  have hb1 : Below W.heap.size W W1 := by rw [hW1]; exact (Below.refl _ _).alloc (Nat.le_refl _) _
  have hee : (e == 0) = false := by rcases he with rfl | rfl <;> rfl
  have HN := Lib.hid (hN W1 hb1)
  have HW1 := Lib.hid hW1
  have HB := Lib.hid hb1
  clear he hN hW1 hb1
  go_enter Try.func8, Try.ntmps8
  unfold Dn.ag
  go_wp2_with fail
  rw [← HW1.out]
  refine HN.out.mono ?_
  rintro en w ⟨rfl, rfl⟩
  go_wp2_with fail
  go_returns
  exact ⟨rfl, HB.out⟩

def KnownRel (W : World) (i : Value) (wr : World) : Prop :=
  ∃ k : Nat, i = .int .i64 k ∧ k ≤ 3 ∧ TAt wr W.heap.size W.heap.size tl0 ∧ wr.heap[W.heap.size + 1]? = some (.cells #[.int .i64 0, .int .i64 25, .int .i64 (-1)] 3 (0, 0)) ∧ Below W.heap.size W wr
theorem KnownRel.step {W wr V : World} {k : Nat} (hk : k < 3) (ht : TAt wr W.heap.size W.heap.size tl0) (hc : wr.heap[W.heap.size + 1]? = some (.cells #[.int .i64 0, .int .i64 25, .int .i64 (-1)] 3 (0, 0))) (hb : Below W.heap.size W wr) (hV : Below wr.heap.size wr V) : KnownRel W (.int .i64 ((k : Int) + 1)) V :=
  ⟨k + 1, by go_num, by omega, ht.later hV, (hV.block _ (Array.getElem?_eq_some_iff.1 hc).1).trans hc, hb.trans (hV.mono hb.size)⟩

set_option maxRecDepth 100000 in
set_option maxHeartbeats 4000000 in
theorem tallyKnown_walk (W : World) :
    Calls Try.prog 6 #[] W fun e W' => e = .returned (.bool true) ∧ Below W.heap.size W W' := by
  obtain ⟨W1, hW1⟩ : ∃ W1, W1 = W.alloc (.cells (tlC tl0).toArray 61) := ⟨_, rfl⟩
  obtain ⟨W2, hW2⟩ : ∃ W2, W2 = W1.alloc (.cells #[.int .i64 0, .int .i64 25, .int .i64 (-1)] 3) := ⟨_, rfl⟩
  have hs1 : W1.heap.size = W.heap.size + 1 := by rw [hW1, World.size_alloc]
  have h1 : KnownRel W (.int .i64 0) W2 := by
    have hb1 : Below W.heap.size W W1 := by rw [hW1]; exact (Below.refl _ _).alloc (Nat.le_refl _) _
    have hb2 : Below W1.heap.size W1 W2 := by rw [hW2]; exact (Below.refl _ _).alloc (Nat.le_refl _) _
    refine ⟨0, rfl, by omega, ?_, ?_, hb1.trans (hb2.mono hb1.size)⟩
    · have := new_at W (B := W.heap.size) (Nat.le_refl _)
      rw [← hW1] at this
      exact this.later hb2
    · rw [hW2, ← hs1]; exact heap_alloc_new _ _
  have H1 := Lib.hid h1
  have HW1 := Lib.hid hW1
  have HW2 := Lib.hid hW2
  have HS1 := Lib.hid hs1
  have HW := Lib.hid works_any
  clear h1 hW1 hW2 hs1
  go_enter Try.func6, Try.ntmps6
  go_wp2_with fail
  refine (new_any W).mono ?_
  rintro e w1 ⟨rfl, rfl⟩
  rw [← HW1.out]
  go_wp2_with fail
  rw [← HW2.out, HS1.out]
  go_loopw [14] (fun i wr => KnownRel W i wr) (fun i _ => 3 - (intOf i).toNat)
  case atStart => exact H1.out
  case round =>
    obtain ⟨k, rfl, hk, ht, hc, hb⟩ := hrel
    by_cases hk3 : k < 3
    · obtain ⟨x, hx, hxe⟩ : ∃ x : Int, wr.cell? ⟨W.heap.size + 1, k, none⟩ = some (.int .i64 x) ∧ (x < 1 ∨ 24 < x) := by
        rw [cell_of_row _ _ _ _ _ _ hc]
        obtain rfl | rfl | rfl : k = 0 ∨ k = 1 ∨ k = 2 := by omega
        · exact ⟨0, rfl, by omega⟩
        · exact ⟨25, rfl, by omega⟩
        · exact ⟨-1, rfl, by omega⟩
      have HE := Lib.hid (show ∀ V, Below wr.heap.size wr V → AtErr (.pointer (some ⟨W.heap.size, 0, none⟩)) x 2 V from fun V hV => at_arg _ x V (ht.later hV).c0 hxe)
      have HS := Lib.hid (fun V hV => KnownRel.step (V := V) hk3 ht hc hb hV)
      have hk3' : decide ((k : Int) < 3) = true := decide_eq_true (by omega)
      clear ht hc hb hxe
      go_wp2_with fail
      refine (At_err _ x 2 wr (.inr rfl) HE.out).mono ?_
      rintro e V1 ⟨rfl, hb⟩
      obtain ⟨X1, hX1⟩ : ∃ X1, X1 = V1.alloc (.cells #[.int .u64 0, .int .u64 0, .int .u64 0, .int .u64 0, .int .u64 0, .int .u64 0] 37) := ⟨_, rfl⟩
      have HX1 := Lib.hid hX1
      have HB1 := Lib.hid (show Below wr.heap.size wr X1 by rw [hX1]; exact hb.alloc hb.size _)
      clear hb hX1
      go_wp2_with fail
      rw [← HX1.out]
      refine (example_any X1).mono ?_
      rintro e V2 ⟨sa, sc, rfl, hb⟩
      have HB2 := Lib.hid (HB1.out.trans (hb.mono HB1.out.size))
      clear hb
      go_wp2_with fail
      refine (note_err _ x 2 _ V2 (.inr rfl) (fun V hV => HE.out V (HB2.out.trans (hV.mono HB2.out.size)))).mono ?_
      rintro e V3 ⟨rfl, hb⟩
      have HB3 := Lib.hid (HB2.out.trans (hb.mono HB2.out.size))
      clear hb
      go_wp2_with fail
      refine (bad_err _ x 2 V3 (.inr rfl) (HE.out V3 HB3.out)).mono ?_
      rintro e V4 ⟨rfl, rfl⟩
      go_wp2_with fail
      refine (clear_err _ x 2 V3 (.inr rfl) (HE.out V3 HB3.out)).mono ?_
      rintro e V4 ⟨rfl, rfl⟩
      have HR := Lib.hid (HS.out V3 HB3.out)
      go_wp2_with fail
      go_roundw
      case rel => first | exact HR.out | ((repeat apply Exists.intro); exact ⟨HR.out, rfl⟩)
      case measure => simp [intOf]; omega
    · obtain rfl : k = 3 := by omega
      have HT := Lib.hid ht
      have HB := Lib.hid hb
      clear ht hb hc
      go_wp2_with fail
      refine (example_any wr).mono ?_
      rintro e V1 ⟨sa, sc, rfl, hb⟩
      have HB1 := Lib.hid (HB.out.trans (hb.mono HB.out.size))
      have HT1 := Lib.hid (HT.out.later hb)
      clear hb
      have hof := of_any (exD sa sc) V1 (exD_ok _ _)
      rw [exD_of] at hof
      unfold Cn.ag at hof
      go_wp2_with fail
      refine hof.mono ?_
      clear hof
      rintro e V2 ⟨rfl, hb⟩
      have HB2 := Lib.hid (HB1.out.trans (hb.mono HB1.out.size))
      have HT2 := Lib.hid (HT1.out.later hb)
      clear hb
      have hof := of_any ⟨false, none, 0, 0, ⟨0, 0, 0, 0⟩, ⟨0, 0, 0, 0⟩⟩ V2 (by refine ⟨?_, ?_, ?_⟩ <;> simp [B4.ok])
      rw [show (⟨false, none, 0, 0, ⟨0, 0, 0, 0⟩, ⟨0, 0, 0, 0⟩⟩ : Dn).of = ⟨1, 0, 0, 0, 0, 0⟩ from rfl] at hof
      unfold Cn.ag Dn.ag Dn.cells at hof
      go_wp2_with fail
      refine hof.mono ?_
      clear hof
      rintro e V3 ⟨rfl, hb⟩
      have HB3 := Lib.hid (HB2.out.trans (hb.mono HB2.out.size))
      have HT3 := Lib.hid (HT2.out.later hb)
      clear hb
      go_wp2_with fail
      refine (At_err _ _ 1 V3 (.inl rfl) (fun V _ => at_nil _ V)).mono ?_
      rintro e V4 ⟨rfl, hb⟩
      obtain ⟨X4, hX4⟩ : ∃ X4, X4 = V4.alloc (.cells #[.int .u64 0, .int .u64 0, .int .u64 0, .int .u64 0, .int .u64 0, .int .u64 0] 37) := ⟨_, rfl⟩
      have hx4 : Below V3.heap.size V3 X4 := by rw [hX4]; exact hb.alloc hb.size _
      have HB4 := Lib.hid (HB3.out.trans (hx4.mono HB3.out.size))
      have HT4 := Lib.hid (HT3.out.later hx4)
      have HX4 := Lib.hid hX4
      clear hb hX4 hx4
      go_wp2_with fail
      rw [← HX4.out]
      refine (example_any X4).mono ?_
      rintro e V5 ⟨sb, sd, rfl, hb⟩
      have HB5 := Lib.hid (HB4.out.trans (hb.mono HB4.out.size))
      have HT5 := Lib.hid (HT4.out.later hb)
      clear hb
      go_wp2_with fail
      refine (note_err _ _ 1 _ V5 (.inl rfl) (fun V _ => at_nil _ V)).mono ?_
      rintro e V6 ⟨rfl, hb⟩
      have HB6 := Lib.hid (HB5.out.trans (hb.mono HB5.out.size))
      have HT6 := Lib.hid (HT5.out.later hb)
      obtain ⟨X6, hX6⟩ : ∃ X6, X6 = V6.alloc (.cells tlZ 61) := ⟨_, rfl⟩
      have hx6 : Below V6.heap.size V6 X6 := by rw [hX6]; exact (Below.refl _ _).alloc (Nat.le_refl _) _
      have HB7 := Lib.hid (HB6.out.trans (hx6.mono HB6.out.size))
      have HT7 := Lib.hid (HT6.out.later hx6)
      have HC7 := Lib.hid (show X6.cell? ⟨V6.heap.size, 0, none⟩ = some (.bool false) by rw [hX6, cell_of_row _ _ _ _ _ _ (heap_alloc_new _ _)]; rfl)
      have HX6 := Lib.hid hX6
      clear hb hx6 hX6
      have hz := tlZ_zero
      go_wp2_with fail
      rw [← HX6.out]
      refine (bad_err _ _ 1 X6 (.inl rfl) (at_empty _ _ X6 HC7.out)).mono ?_
      rintro e V7 ⟨rfl, rfl⟩
      clear hz
      go_wp2_with fail
      refine (clear_err _ _ 1 X6 (.inl rfl) (at_nil _ X6)).mono ?_
      rintro e V7 ⟨rfl, rfl⟩
      go_wp2_with fail
      refine (copy_none _ X6 (none_nil X6)).mono ?_
      rintro e V7 ⟨rfl, rfl⟩
      go_wp2_with fail
      have hal := all_none (.pointer none) X6 (fun V _ => none_nil V)
      unfold Cn.ag Cn.zero at hal
      refine hal.mono ?_
      clear hal
      rintro e V8 ⟨rfl, hb⟩
      have HB8 := Lib.hid (HB7.out.trans (hb.mono HB7.out.size))
      have HT8 := Lib.hid (HT7.out.later hb)
      clear hb
      go_wp2_with fail
      have hal := all_any _ _ _ V8 HT8.out
      rw [show sumC tl0 = ⟨0, 0, 0, 0, 0, 0⟩ from by decide] at hal
      unfold Cn.ag at hal
      refine hal.mono ?_
      clear hal
      rintro e V9 ⟨rfl, hb⟩
      have HB9 := Lib.hid (HB8.out.trans (hb.mono HB8.out.size))
      clear hb
      go_wp2_with fail
      refine (HW.out V9).mono ?_
      rintro e V10 ⟨rfl, hb⟩
      have HB10 := Lib.hid (HB9.out.trans (hb.mono HB9.out.size))
      clear hb
      go_wp2_with fail
      go_returns
      exact ⟨rfl, HB10.out⟩

end Go.Proofs.Ytnfdkgmikijbgaa
