/- Contracts of a number's rank: the program's and the reference's; and of the compares. -/
import Derived.Test.YtmjaompepchieaaPkP
import Derived.Test.YtmjaompepchieaaRegion3
import Derived.Test.YtmjaompepchieaaShelf
import Derived.Laws.BitsAllLaws
import Derived.RowKit3
import Derived.Handy
import Derived.Lib.Hide
import Derived.Test.YtmjaompepchieaaBase
set_option linter.unusedSimpArgs false
set_option linter.unusedVariables false
namespace Go.Proofs.Ytmjaompepchieaa
open Go.RowKit Go.ChangeShapes Go.WideShapes

theorem wrap_lo (n : Int) : IntKind.u32.wrap n = (lo32 n : Int) := by
  have h : IntKind.u32.wrap n = n % 4294967296 := rfl
  rw [h]; unfold lo32; omega
theorem xor_step (x k : Nat) (hx : x < 4294967296) : bits .xor .u32 (x : Int) ((x : Int) / (k : Int)) = ((x ^^^ (x / k) : Nat) : Int) := by
  have h := u32_xor_nat x (x / k) hx (Nat.lt_of_le_of_lt (Nat.div_le_self _ _) hx)
  rw [← h]; rw [Int.natCast_ediv]
theorem mul_step (x c : Nat) : ((x : Int) * (c : Int)) % 4294967296 = ((x * c % 4294967296 : Nat) : Int) := by rw [Int.natCast_emod, Int.natCast_mul]; rfl

set_option maxHeartbeats 800000 in
theorem rank_any (e : Nat) (n : Int) (W : World) (he : e < 4294967296) : Calls Try.prog 23 #[.int .u32 e, .int .i64 n] W fun x W' => x = .returned (.int .u32 (key e n)) ∧ W = W' := by
  have h0 := wrap_lo n
  obtain ⟨m, hm⟩ : ∃ m, m = lo32 n := ⟨_, rfl⟩
  rw [← hm] at h0
  have p0 : ((m : Int) * 2654435761) % 4294967296 = ((m * 2654435761 % 4294967296 : Nat) : Int) := mul_step m 2654435761
  have p1 : bits .xor .u32 (e : Int) ((m * 2654435761 % 4294967296 : Nat) : Int) = (mx0 e m : Int) := u32_xor_nat _ _ he (Nat.mod_lt _ (by decide))
  have p2 : bits .xor .u32 (mx0 e m : Int) ((mx0 e m : Int) / 65536) = (mx1 e m : Int) := xor_step _ 65536 (mx0_lt he m)
  have p3 : ((mx1 e m : Int) * 2246822507) % 4294967296 = (mx2 e m : Int) := mul_step _ 2246822507
  have p4 : bits .xor .u32 (mx2 e m : Int) ((mx2 e m : Int) / 8192) = (mx3 e m : Int) := xor_step _ 8192 (mx2_lt e m)
  have p5 : ((mx3 e m : Int) * 3266489909) % 4294967296 = (mx4 e m : Int) := mul_step _ 3266489909
  have p6 : bits .xor .u32 (mx4 e m : Int) ((mx4 e m : Int) / 65536) = (mixN e m : Int) := xor_step _ 65536 (mx4_lt e m)
  have HE := Lib.hid (show key e n = mixN e m by rw [hm]; rfl)
  clear hm
  generalize (m * 2654435761 % 4294967296 : Nat) = q at p0 p1
  generalize mx0 e m = x0 at *
  generalize mx1 e m = x1 at *
  generalize mx2 e m = x2 at *
  generalize mx3 e m = x3 at *
  generalize mx4 e m = x4 at *
  generalize mixN e m = x5 at *
  go_enter Try.func23, Try.ntmps23
  go_wp2_with fail
  go_returns
  exact ⟨by rw [HE.out]; rfl, rfl⟩

set_option maxHeartbeats 800000 in
theorem rmix_any (e : Nat) (n : Int) (W : World) (he : e < 4294967296) : Calls Try.prog 15 #[.int .u32 e, .int .i64 n] W fun x W' => x = .returned (.int .u32 (key e n)) ∧ W = W' := by
  have h0 := wrap_lo n
  obtain ⟨m, hm⟩ : ∃ m, m = lo32 n := ⟨_, rfl⟩
  rw [← hm] at h0
  have p0 : ((m : Int) * 2654435761) % 4294967296 = ((m * 2654435761 % 4294967296 : Nat) : Int) := mul_step m 2654435761
  have p1 : bits .xor .u32 (e : Int) ((m * 2654435761 % 4294967296 : Nat) : Int) = (mx0 e m : Int) := u32_xor_nat _ _ he (Nat.mod_lt _ (by decide))
  have p2 : bits .xor .u32 (mx0 e m : Int) ((mx0 e m : Int) / 65536) = (mx1 e m : Int) := xor_step _ 65536 (mx0_lt he m)
  have p3 : ((mx1 e m : Int) * 2246822507) % 4294967296 = (mx2 e m : Int) := mul_step _ 2246822507
  have p4 : bits .xor .u32 (mx2 e m : Int) ((mx2 e m : Int) / 8192) = (mx3 e m : Int) := xor_step _ 8192 (mx2_lt e m)
  have p5 : ((mx3 e m : Int) * 3266489909) % 4294967296 = (mx4 e m : Int) := mul_step _ 3266489909
  have p6 : bits .xor .u32 (mx4 e m : Int) ((mx4 e m : Int) / 65536) = (mixN e m : Int) := xor_step _ 65536 (mx4_lt e m)
  have HE := Lib.hid (show key e n = mixN e m by rw [hm]; rfl)
  clear hm
  generalize (m * 2654435761 % 4294967296 : Nat) = q at p0 p1
  generalize mx0 e m = x0 at *
  generalize mx1 e m = x1 at *
  generalize mx2 e m = x2 at *
  generalize mx3 e m = x3 at *
  generalize mx4 e m = x4 at *
  generalize mixN e m = x5 at *
  go_enter Try.func15, Try.ntmps15
  go_wp2_with fail
  go_returns
  exact ⟨by rw [HE.out]; rfl, rfl⟩

theorem mix_any (e : Nat) (n : Int) (W : World) (he : e < 4294967296) : Calls Try.prog 14 #[.int .u32 e, .int .i64 n] W fun x W' => x = .returned (.int .u32 (key e n)) ∧ W = W' := by
  go_enter Try.func14, Try.ntmps14
  go_wp2_with fail
  refine (rank_any e n _ he).mono ?_
  rintro x w ⟨rfl, rfl⟩
  go_wp2_with fail
  go_returns
  exact ⟨rfl, rfl⟩

/-- Which is greater. -/
def cmpN (x y : Nat) : Int := if x < y then -1 else if y < x then 1 else 0
def orI (x y : Int) : Int := if x ≠ 0 then x else y
theorem nan_any (x : Nat) (W : World) : Calls Try.prog 36 #[.int .u32 x] W fun e W' => e = .returned (.bool false) ∧ W = W' := by
  go_enter Try.func36, Try.ntmps36
  go_wp2_with fail
  go_returns
  exact ⟨rfl, rfl⟩
theorem cmp_any (x y : Nat) (W : World) : Calls Try.prog 29 #[.int .u32 x, .int .u32 y] W fun e W' => e = .returned (.int .i64 (cmpN x y)) ∧ W = W' := by
  have h : (x < y ∧ cmpN x y = -1) ∨ (¬ x < y ∧ y < x ∧ cmpN x y = 1) ∨ (¬ x < y ∧ ¬ y < x ∧ cmpN x y = 0) := by
    unfold cmpN
    by_cases h1 : x < y
    · exact .inl ⟨h1, if_pos h1⟩
    · by_cases h2 : y < x
      · exact .inr (.inl ⟨h1, h2, by rw [if_neg h1, if_pos h2]⟩)
      · exact .inr (.inr ⟨h1, h2, by rw [if_neg h1, if_neg h2]⟩)
  rcases h with ⟨h1, he⟩ | ⟨h1, h2, he⟩ | ⟨h1, h2, he⟩
  · have HE := Lib.hid he
    have d1 : decide (x < y) = true := decide_eq_true h1
    clear he
    go_enter Try.func29, Try.ntmps29
    go_wp2_with (go_at_call 36; refine (nan_any _ _).mono ?_; rintro e w ⟨rfl, rfl⟩)
    go_returns
    exact ⟨by rw [HE.out]; rfl, rfl⟩
  · have HE := Lib.hid he
    have d1 : decide (x < y) = false := decide_eq_false h1
    have d2 : decide (y < x) = true := decide_eq_true h2
    clear he
    go_enter Try.func29, Try.ntmps29
    go_wp2_with (go_at_call 36; refine (nan_any _ _).mono ?_; rintro e w ⟨rfl, rfl⟩)
    go_returns
    exact ⟨by rw [HE.out]; rfl, rfl⟩
  · have HE := Lib.hid he
    have d1 : decide (x < y) = false := decide_eq_false h1
    have d2 : decide (y < x) = false := decide_eq_false h2
    clear he
    go_enter Try.func29, Try.ntmps29
    go_wp2_with (go_at_call 36; refine (nan_any _ _).mono ?_; rintro e w ⟨rfl, rfl⟩)
    go_returns
    exact ⟨by rw [HE.out]; rfl, rfl⟩

def OrRel (W : World) (x y : Int) (i : Value) (wr : World) : Prop := wr = W ∧ ∃ k : Nat, i = .int .i64 k ∧ k ≤ 2 ∧ (1 ≤ k → x = 0) ∧ (2 ≤ k → y = 0)
theorem or_any (g : Nat) (x y : Int) (t : TypeId) (W : World) (hg : W.heap[g]? = some (.cells #[.int .i64 x, .int .i64 y] t (0, 0))) :
    Calls Try.prog 33 #[.slice (some ⟨g, 0, none⟩) 2 2] W fun e W' => e = .returned (.int .i64 (orI x y)) ∧ W = W' := by
  have c0 : W.cell? ⟨g, 0, none⟩ = some (.int .i64 x) := cell_of_row _ _ 0 _ _ _ hg
  have c1 : W.cell? ⟨g, 1, none⟩ = some (.int .i64 y) := cell_of_row _ _ 1 _ _ _ hg
  clear hg
  go_enter Try.func33, Try.ntmps33
  go_wp2_with fail
  go_loopw [8] (fun i wr => OrRel W x y i wr) (fun i _ => 2 - (intOf i).toNat)
  case atStart => exact ⟨rfl, 0, rfl, by omega, by omega, by omega⟩
  case round =>
    obtain ⟨rfl, k, rfl, hk, hx, hy⟩ := hrel
    obtain rfl | rfl | rfl : k = 0 ∨ k = 1 ∨ k = 2 := by omega
    · by_cases h0 : x = 0
      · have HR := Lib.hid (show OrRel wr x y (.int .i64 1) wr from ⟨rfl, 1, rfl, by omega, fun _ => h0, by omega⟩)
        have e0 : (x == 0) = true := by rw [beq_iff_eq]; exact h0
        clear h0 hx hy
        go_wp2_with fail
        go_roundw
        case rel => first | exact HR.out | ((repeat apply Exists.intro); exact ⟨HR.out, rfl⟩)
        case measure => simp [intOf]
      · have e0 : (x == 0) = false := by rw [beq_eq_false_iff_ne]; exact h0
        have HE := Lib.hid (show orI x y = x from if_pos h0)
        clear h0 hx hy
        go_wp2_with fail
        go_returns
        exact ⟨by rw [HE.out]; rfl, rfl⟩
    · have h0 := hx (by omega)
      by_cases h1 : y = 0
      · have HR := Lib.hid (show OrRel wr x y (.int .i64 2) wr from ⟨rfl, 2, rfl, by omega, fun _ => h0, fun _ => h1⟩)
        have e0 : (y == 0) = true := by rw [beq_iff_eq]; exact h1
        clear h0 h1 hx hy
        go_wp2_with fail
        go_roundw
        case rel => first | exact HR.out | ((repeat apply Exists.intro); exact ⟨HR.out, rfl⟩)
        case measure => simp [intOf]
      · have e0 : (y == 0) = false := by rw [beq_eq_false_iff_ne]; exact h1
        have HE := Lib.hid (show orI x y = y from if_neg (by rw [h0]; simp))
        clear h0 h1 hx hy
        go_wp2_with fail
        go_returns
        exact ⟨by rw [HE.out]; rfl, rfl⟩
    · have HE := Lib.hid (show orI x y = 0 by unfold orI; rw [hx (by omega), hy (by omega)]; rfl)
      clear hx hy
      go_wp2_with fail
      go_returns
      exact ⟨by rw [HE.out]; rfl, rfl⟩

end Go.Proofs.Ytmjaompepchieaa
