/- Contract of header.Decode: its take; what is none by its form. -/
import Derived.Test.YtickjmkkgcfkhaaGreatHdH
import Derived.Test.YtickjmkkgcfkhaaGreatHdI
import Derived.Test.YtickjmkkgcfkhaaGreatWireG1
import Derived.Test.YtickjmkkgcfkhaaGreatWireG2
set_option linter.unusedSimpArgs false
set_option linter.unusedVariables false
set_option maxRecDepth 100000
namespace Go.Proofs.YtickjmkkgcfkhaaGreat
open Go.RowKit Go.ChangeShapes Go.WideShapes

theorem htake_any (g : Nat) (s : ByteArray) (a m : Nat) (x y : Int) (v : Nat) (W : World) (hc : W.cell? ⟨g, 0, none⟩ = some (.string s)) (hx : x = (a : Int)) (hy : y = (m : Int)) (hm : m = 1 ∨ m = 2 ∨ m = 4 ∨ m = 8) (ha : a + m ≤ s.size) (hs : s.size ≤ 1000) (hv : v = seg s.data.toList a m) :
    Calls Tryz.prog 88 #[.int .i64 x, .int .i64 y, .pointer (some ⟨g, 0, none⟩)] W fun e W' => e = .returned (.int .u64 (v : Nat)) ∧ W = W' := by
  subst hx
  subst hy
  subst hv
  have HT := Lib.hid (take_yes s a m W hm ha (by omega))
  have hms : ∀ a m, segV s a m = seg s.data.toList a m := fun _ _ => rfl
  rw [hms] at HT
  clear hm ha
  go_enter Tryz.func88, Tryz.ntmps88
  go_wp2_with fail
  refine HT.out.mono ?_
  rintro e V ⟨rfl, rfl⟩
  go_wp2_with fail
  go_returns
  exact ⟨rfl, rfl⟩

theorem seg_head {s : ByteArray} (h : 0 < s.size) : seg s.data.toList 0 1 = s[0].toNat := by
  have hl : 0 < s.data.toList.length := by rw [size_eq]; exact h
  unfold seg
  rw [List.drop_zero]
  obtain ⟨x, l, e⟩ : ∃ x l, s.data.toList = x :: l := by
    cases hh : s.data.toList with
    | nil => rw [hh] at hl; exact absurd hl (by decide)
    | cons x l => exact ⟨x, l, rfl⟩
  have e2 : s[0] = s.data.toList[0] := rfl
  rw [e2]
  simp only [e]
  show beVal [x] = x.toNat
  simp [beVal]
/-- The result's variable, the header's. -/
def ZH (b : Nat) (V : World) : Prop := BoxH b Hd.zero V
theorem ZH.later {b : Nat} {V X : World} (h : ZH b V) (hb : Below V.heap.size V X) : ZH b X := BoxH.later h hb
theorem ZH.cells {b : Nat} {V : World} (x : ZH b V) : V.cell? ⟨b, 0, none⟩ = some (.int .i64 0) ∧ V.cell? ⟨b, 1, none⟩ = some (.int .i64 0) ∧ V.cell? ⟨b, 2, none⟩ = some (.int .u32 0) ∧ V.cell? ⟨b, 3, none⟩ = some (.int .i64 0) ∧
    V.cell? ⟨b, 4, none⟩ = some (.int .i64 0) ∧ V.cell? ⟨b, 5, none⟩ = some (.int .i64 0) ∧ V.cell? ⟨b, 6, none⟩ = some (.int .u32 0) ∧ V.cell? ⟨b, 7, none⟩ = some (.int .u64 0) ∧ V.cell? ⟨b, 8, none⟩ = some (.int .u64 0) ∧ V.cell? ⟨b, 9, none⟩ = some (.int .u64 0) ∧ V.cell? ⟨b, 10, none⟩ = some (.int .u64 0) := BoxH.cells x
theorem BoxH.frozen {b : Nat} {h : Hd} {V : World} (x : BoxH b h V) : V.frozen? ⟨b, 0, none⟩ = false ∧ V.frozen? ⟨b, 1, none⟩ = false ∧ V.frozen? ⟨b, 2, none⟩ = false ∧ V.frozen? ⟨b, 3, none⟩ = false ∧ V.frozen? ⟨b, 4, none⟩ = false ∧ V.frozen? ⟨b, 5, none⟩ = false ∧ V.frozen? ⟨b, 6, none⟩ = false ∧ V.frozen? ⟨b, 7, none⟩ = false ∧ V.frozen? ⟨b, 8, none⟩ = false ∧ V.frozen? ⟨b, 9, none⟩ = false ∧ V.frozen? ⟨b, 10, none⟩ = false :=
  ⟨frozen_of_row _ _ _ _ _ x, frozen_of_row _ _ _ _ _ x, frozen_of_row _ _ _ _ _ x, frozen_of_row _ _ _ _ _ x, frozen_of_row _ _ _ _ _ x, frozen_of_row _ _ _ _ _ x, frozen_of_row _ _ _ _ _ x, frozen_of_row _ _ _ _ _ x, frozen_of_row _ _ _ _ _ x, frozen_of_row _ _ _ _ _ x, frozen_of_row _ _ _ _ _ x⟩
def hz : Value := .agg #[.int .i64 0, .int .i64 0, .int .u32 0, .int .i64 0, .int .i64 0, .int .i64 0, .int .u32 0, .int .u64 0, .int .u64 0, .int .u64 0, .int .u64 0]

set_option maxRecDepth 100000 in
set_option maxHeartbeats 3200000 in
/-- No header by its first byte. -/
theorem hdecode_first (s : ByteArray) (W : World) (hb : s.size = 0 ∨ (0 < s.size ∧ (seg s.data.toList 0 1 < 16 ∨ 21 < seg s.data.toList 0 1))) :
    Calls Tryz.prog 58 #[.string s] W fun e W' => e = .returned (.tuple #[Hd.zero.ag, .int .i64 4]) ∧ Below W.heap.size W W' := by
  obtain ⟨W1, hW1⟩ : ∃ W1, W1 = W.alloc (.cells #[.int .i64 0, .int .i64 0, .int .u32 0, .int .i64 0, .int .i64 0, .int .i64 0, .int .u32 0, .int .u64 0, .int .u64 0, .int .u64 0, .int .u64 0] 32) := ⟨_, rfl⟩
  have hb1 : Below W.heap.size W W1 := by rw [hW1]; exact (Below.refl _ _).alloc (Nat.le_refl _) _
  have hbx : ZH W.heap.size W1 := by rw [hW1]; exact heap_alloc_new _ _
  obtain ⟨x0, x1, x2, x3, x4, x5, x6, x7, x8, x9, x10⟩ := hbx.cells
  obtain ⟨f0, f1, f2, f3, f4, f5, f6, f7, f8, f9, f10⟩ := BoxH.frozen hbx
  rw [hW1] at x0 x1 x2 x3 x4 x5 x6 x7 x8 x9 x10 f0 f1 f2 f3 f4 f5 f6 f7 f8 f9 f10
  have HW1 := Lib.hid hW1
  have HB1 := Lib.hid hb1
  clear hW1 hb1 hbx
  have em : ∀ t : ByteArray, t.toList.isEmpty = decide (t.size = 0) := fun t => by
    rw [ByteArray.toList_eq, ← size_eq]
    cases t.data.toList <;> simp
  rcases hb with h0 | ⟨h0, h1⟩
  · have hem : s.toList.isEmpty = true := by rw [em, decide_eq_true h0]
    clear em h0
    go_enter Tryz.func58, Tryz.ntmps58
    go_wp2_with fail
    refine bodyPost_ret (v := .tuple #[.agg #[.int .i64 0, .int .i64 0, .int .u32 0, .int .i64 0, .int .i64 0, .int .i64 0, .int .u32 0, .int .u64 0, .int .u64 0, .int .u64 0, .int .u64 0], .int .i64 4]) ?_ rfl ⟨rfl, ?_⟩
    · simp only [results, Tryz.results58]
      go_simp
    · rw [← HW1.out]
      repeat (with_reducible refine Below.setCell ?_ (by simp only; omega) _)
      exact HB1.out
  · rw [seg_head h0] at h1
    have hem : s.toList.isEmpty = false := by rw [em, decide_eq_false (by omega)]
    have h0i : (0 : Int) < (s.size : Int) := by omega
    clear em
    rcases h1 with h1 | h1
    · have hd : decide ((s[0].toNat : Int) < 16) = true := decide_eq_true (by omega)
      go_enter Tryz.func58, Tryz.ntmps58
      go_wp2_with fail
      refine bodyPost_ret (v := .tuple #[.agg #[.int .i64 0, .int .i64 0, .int .u32 0, .int .i64 0, .int .i64 0, .int .i64 0, .int .u32 0, .int .u64 0, .int .u64 0, .int .u64 0, .int .u64 0], .int .i64 4]) ?_ rfl ⟨rfl, ?_⟩
      · simp only [results, Tryz.results58]
        go_simp
      · rw [← HW1.out]
        repeat (with_reducible refine Below.setCell ?_ (by simp only; omega) _)
        exact HB1.out
    · have hd : decide ((s[0].toNat : Int) < 16) = false := decide_eq_false (by omega)
      have hd2 : decide (22 ≤ (s[0].toNat : Int)) = true := decide_eq_true (by omega)
      go_enter Tryz.func58, Tryz.ntmps58
      go_wp2_with fail
      refine bodyPost_ret (v := .tuple #[.agg #[.int .i64 0, .int .i64 0, .int .u32 0, .int .i64 0, .int .i64 0, .int .i64 0, .int .u32 0, .int .u64 0, .int .u64 0, .int .u64 0, .int .u64 0], .int .i64 4]) ?_ rfl ⟨rfl, ?_⟩
      · simp only [results, Tryz.results58]
        go_simp
      · rw [← HW1.out]
        repeat (with_reducible refine Below.setCell ?_ (by simp only; omega) _)
        exact HB1.out

end Go.Proofs.YtickjmkkgcfkhaaGreat
