/- Contracts of the tally: bits counted; a step's counts; a step noted. -/
import Derived.Test.YtnfdkgmikijbgaaTallyC
import Derived.Outline
set_option linter.unusedSimpArgs false
set_option linter.unusedVariables false
namespace Go.Proofs.Ytnfdkgmikijbgaa
open Go.RowKit Go.ChangeShapes Go.WideShapes

/-- A set of bits: four words. -/
structure B4 where
  a : Nat
  b : Nat
  c : Nat
  d : Nat
deriving DecidableEq, Inhabited
def B4.ok (x : B4) : Prop := x.a < 18446744073709551616 ∧ x.b < 18446744073709551616 ∧ x.c < 18446744073709551616 ∧ x.d < 18446744073709551616
def B4.ag (x : B4) : Value := .agg #[.int .u64 x.a, .int .u64 x.b, .int .u64 x.c, .int .u64 x.d]
def B4.cnt (x : B4) : Nat := popc x.a + popc x.b + popc x.c + popc x.d
def B4.part (x : B4) : Nat → Nat
  | 0 => 0
  | 1 => popc x.a
  | 2 => popc x.a + popc x.b
  | 3 => popc x.a + popc x.b + popc x.c
  | _ => popc x.a + popc x.b + popc x.c + popc x.d
theorem idx0 (a b c d : Int) (W : World) : Sem.run Try.prog (Instr.index 29 (.agg #[.int .u64 a, .int .u64 b, .int .u64 c, .int .u64 d]) (.int .i64 0)) W = .ok (.int .u64 a) W := by kernel_rfl
theorem idx1 (a b c d : Int) (W : World) : Sem.run Try.prog (Instr.index 29 (.agg #[.int .u64 a, .int .u64 b, .int .u64 c, .int .u64 d]) (.int .i64 1)) W = .ok (.int .u64 b) W := by kernel_rfl
theorem idx2 (a b c d : Int) (W : World) : Sem.run Try.prog (Instr.index 29 (.agg #[.int .u64 a, .int .u64 b, .int .u64 c, .int .u64 d]) (.int .i64 2)) W = .ok (.int .u64 c) W := by kernel_rfl
theorem idx3 (a b c d : Int) (W : World) : Sem.run Try.prog (Instr.index 29 (.agg #[.int .u64 a, .int .u64 b, .int .u64 c, .int .u64 d]) (.int .i64 3)) W = .ok (.int .u64 d) W := by kernel_rfl
def CoRel (W : World) (x : B4) (n i : Value) (wr : World) : Prop := ∃ k : Nat, i = .int .i64 k ∧ k ≤ 4 ∧ n = .int .i64 (x.part k) ∧ Below W.heap.size W wr

set_option maxHeartbeats 1600000 in
theorem count_any (x : B4) (W : World) (hx : x.ok) : Calls Try.prog 27 #[x.ag] W fun e W' => e = .returned (.int .i64 x.cnt) ∧ Below W.heap.size W W' := by
  obtain ⟨h0, h1, h2, h3⟩ := hx
  have l0 := popc_lt x.a
  have l1 := popc_lt x.b
  have l2 := popc_lt x.c
  have l3 := popc_lt x.d
  have H0 := Lib.hid (fun V => ones_any x.a V h0)
  have H1 := Lib.hid (fun V => ones_any x.b V h1)
  have H2 := Lib.hid (fun V => ones_any x.c V h2)
  have H3 := Lib.hid (fun V => ones_any x.d V h3)
  clear h0 h1 h2 h3
  go_enter Try.func27, Try.ntmps27
  unfold B4.ag
  go_wp2_with fail
  go_loopw [3, 7] (fun n i wr => CoRel W x n i wr) (fun _ i _ => 4 - (intOf i).toNat)
  case atStart => exact ⟨0, rfl, by omega, rfl, (Below.refl _ _).alloc (Nat.le_refl _) _⟩
  case round =>
    obtain ⟨k, rfl, hk, rfl, hb⟩ := hrel
    have HB := Lib.hid hb
    clear hb
    obtain rfl | rfl | rfl | rfl | rfl : k = 0 ∨ k = 1 ∨ k = 2 ∨ k = 3 ∨ k = 4 := by omega
    · have HP := Lib.hid (show ∀ V, Below W.heap.size W V → CoRel W x (.int .i64 (x.part 1)) (.int .i64 1) V from fun V hV => ⟨1, rfl, by omega, rfl, hV⟩)
      have hi := idx0
      have hpt : ((x.part 0 : Nat) : Int) + ((popc x.a : Nat) : Int) = ((x.part 1 : Nat) : Int) := by simp [B4.part]
      have hw : IntKind.i64.wrap ((x.part 1 : Nat) : Int) = ((x.part 1 : Nat) : Int) := IntWalk.i64_in _ (by simp only [B4.part]; omega)
      go_wp2_with fail
      refine (H0.out wr).mono ?_
      rintro e w ⟨rfl, rfl⟩
      go_wp2_with fail
      go_roundw
      case rel => first | exact HP.out _ HB.out | ((repeat apply Exists.intro); exact ⟨HP.out _ HB.out, rfl⟩)
      case measure => simp [intOf]
    · have HP := Lib.hid (show ∀ V, Below W.heap.size W V → CoRel W x (.int .i64 (x.part 2)) (.int .i64 2) V from fun V hV => ⟨2, rfl, by omega, rfl, hV⟩)
      have hi := idx1
      have hpt : ((x.part 1 : Nat) : Int) + ((popc x.b : Nat) : Int) = ((x.part 2 : Nat) : Int) := by simp [B4.part]
      have hw : IntKind.i64.wrap ((x.part 2 : Nat) : Int) = ((x.part 2 : Nat) : Int) := IntWalk.i64_in _ (by simp only [B4.part]; omega)
      go_wp2_with fail
      refine (H1.out wr).mono ?_
      rintro e w ⟨rfl, rfl⟩
      go_wp2_with fail
      go_roundw
      case rel => first | exact HP.out _ HB.out | ((repeat apply Exists.intro); exact ⟨HP.out _ HB.out, rfl⟩)
      case measure => simp [intOf]
    · have HP := Lib.hid (show ∀ V, Below W.heap.size W V → CoRel W x (.int .i64 (x.part 3)) (.int .i64 3) V from fun V hV => ⟨3, rfl, by omega, rfl, hV⟩)
      have hi := idx2
      have hpt : ((x.part 2 : Nat) : Int) + ((popc x.c : Nat) : Int) = ((x.part 3 : Nat) : Int) := by simp [B4.part]
      have hw : IntKind.i64.wrap ((x.part 3 : Nat) : Int) = ((x.part 3 : Nat) : Int) := IntWalk.i64_in _ (by simp only [B4.part]; omega)
      go_wp2_with fail
      refine (H2.out wr).mono ?_
      rintro e w ⟨rfl, rfl⟩
      go_wp2_with fail
      go_roundw
      case rel => first | exact HP.out _ HB.out | ((repeat apply Exists.intro); exact ⟨HP.out _ HB.out, rfl⟩)
      case measure => simp [intOf]
    · have HP := Lib.hid (show ∀ V, Below W.heap.size W V → CoRel W x (.int .i64 (x.part 4)) (.int .i64 4) V from fun V hV => ⟨4, rfl, by omega, rfl, hV⟩)
      have hi := idx3
      have hpt : ((x.part 3 : Nat) : Int) + ((popc x.d : Nat) : Int) = ((x.part 4 : Nat) : Int) := by simp [B4.part]
      have hw : IntKind.i64.wrap ((x.part 4 : Nat) : Int) = ((x.part 4 : Nat) : Int) := IntWalk.i64_in _ (by simp only [B4.part]; omega)
      go_wp2_with fail
      refine (H3.out wr).mono ?_
      rintro e w ⟨rfl, rfl⟩
      go_wp2_with fail
      go_roundw
      case rel => first | exact HP.out _ HB.out | ((repeat apply Exists.intro); exact ⟨HP.out _ HB.out, rfl⟩)
      case measure => simp [intOf]
    · go_wp2_with fail
      go_returns
      exact ⟨rfl, HB.out⟩

end Go.Proofs.Ytnfdkgmikijbgaa
