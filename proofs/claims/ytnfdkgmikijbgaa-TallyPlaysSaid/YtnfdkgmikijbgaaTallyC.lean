/- Contracts of the tally: how many bits; a step's counts. -/
import Derived.Test.YtnfdkgmikijbgaaTallyB
import Derived.Laws.BitsAll
set_option linter.unusedSimpArgs false
set_option linter.unusedVariables false
namespace Go.Proofs.Ytnfdkgmikijbgaa
open Go.RowKit Go.ChangeShapes Go.WideShapes

def pc1 (x : Nat) : Nat := ((x / 2 &&& 6148914691236517205) + (x &&& 6148914691236517205)) % 18446744073709551616
def pc2 (x : Nat) : Nat := ((x / 4 &&& 3689348814741910323) + (x &&& 3689348814741910323)) % 18446744073709551616
def pc3 (x : Nat) : Nat := (x / 16 + x) % 18446744073709551616 &&& 1085102592571150095
def pc4 (x : Nat) : Nat := (x + x / 256) % 18446744073709551616
def pc5 (x : Nat) : Nat := (x + x / 65536) % 18446744073709551616
def pc6 (x : Nat) : Nat := (x + x / 4294967296) % 18446744073709551616
/-- How many bits. -/
def popc (x : Nat) : Nat := pc6 (pc5 (pc4 (pc3 (pc2 (pc1 x))))) % 128
theorem pc1_lt (x : Nat) : pc1 x < 18446744073709551616 := Nat.mod_lt _ (by decide)
theorem pc2_lt (x : Nat) : pc2 x < 18446744073709551616 := Nat.mod_lt _ (by decide)
theorem pc3_le (x : Nat) : pc3 x ≤ 1085102592571150095 := Nat.and_le_right
theorem pc6_lt (x : Nat) : pc6 (pc5 (pc4 (pc3 x))) < 2305843009213693952 := by
  have h := pc3_le x
  obtain ⟨a, ha⟩ : ∃ a, a = pc3 x := ⟨_, rfl⟩
  rw [← ha] at h ⊢
  have h4 : pc4 a = a + a / 256 := Nat.mod_eq_of_lt (by omega)
  have l4 : pc4 a ≤ 1100000000000000000 := by rw [h4]; omega
  obtain ⟨b, hb⟩ : ∃ b, b = pc4 a := ⟨_, rfl⟩
  rw [← hb] at l4 ⊢
  have h5 : pc5 b = b + b / 65536 := Nat.mod_eq_of_lt (by omega)
  have l5 : pc5 b ≤ 1200000000000000000 := by rw [h5]; omega
  obtain ⟨c, hc⟩ : ∃ c, c = pc5 b := ⟨_, rfl⟩
  rw [← hc] at l5 ⊢
  have h6 : pc6 c = c + c / 4294967296 := Nat.mod_eq_of_lt (by omega)
  rw [h6]
  omega
theorem popc_lt (x : Nat) : popc x < 128 := Nat.mod_lt _ (by decide)
theorem wr64 (n : Nat) : IntKind.u64.wrap (n : Int) = ((n % 18446744073709551616 : Nat) : Int) := by
  simp [IntKind.wrap, IntKind.bits, IntKind.signed]
theorem pc1_run (x : Nat) (hx : x < 18446744073709551616) : IntKind.u64.wrap (bits .and .u64 ((x : Int) / 2) 6148914691236517205 + bits .and .u64 (x : Int) 6148914691236517205) = (pc1 x : Int) := by
  have h1 : bits .and .u64 ((x / 2 : Nat) : Int) (6148914691236517205 : Int) = ((x / 2 &&& 6148914691236517205 : Nat) : Int) := u64_and_nat (x / 2) 6148914691236517205 (by omega) (by decide)
  have h2 : bits .and .u64 (x : Int) (6148914691236517205 : Int) = ((x &&& 6148914691236517205 : Nat) : Int) := u64_and_nat x 6148914691236517205 hx (by decide)
  rw [show (x : Int) / 2 = ((x / 2 : Nat) : Int) from by omega, h1, h2, ← Int.natCast_add, wr64]
  rfl
theorem pc2_run (x : Nat) (hx : x < 18446744073709551616) : IntKind.u64.wrap (bits .and .u64 ((x : Int) / 4) 3689348814741910323 + bits .and .u64 (x : Int) 3689348814741910323) = (pc2 x : Int) := by
  have h1 : bits .and .u64 ((x / 4 : Nat) : Int) (3689348814741910323 : Int) = ((x / 4 &&& 3689348814741910323 : Nat) : Int) := u64_and_nat (x / 4) 3689348814741910323 (by omega) (by decide)
  have h2 : bits .and .u64 (x : Int) (3689348814741910323 : Int) = ((x &&& 3689348814741910323 : Nat) : Int) := u64_and_nat x 3689348814741910323 hx (by decide)
  rw [show (x : Int) / 4 = ((x / 4 : Nat) : Int) from by omega, h1, h2, ← Int.natCast_add, wr64]
  rfl
theorem pc3_run (x : Nat) (hx : x < 18446744073709551616) : bits .and .u64 (IntKind.u64.wrap ((x : Int) / 16 + (x : Int))) 1085102592571150095 = (pc3 x : Int) := by
  have h1 : bits .and .u64 (((x / 16 + x) % 18446744073709551616 : Nat) : Int) (1085102592571150095 : Int) = (((x / 16 + x) % 18446744073709551616 &&& 1085102592571150095 : Nat) : Int) := u64_and_nat _ 1085102592571150095 (Nat.mod_lt _ (by decide)) (by decide)
  rw [show (x : Int) / 16 = ((x / 16 : Nat) : Int) from by omega, ← Int.natCast_add, wr64, h1]
  rfl
theorem pc4_run (x : Nat) : IntKind.u64.wrap ((x : Int) + (x : Int) / 256) = (pc4 x : Int) := by
  rw [show (x : Int) / 256 = ((x / 256 : Nat) : Int) from by omega, ← Int.natCast_add, wr64]; rfl
theorem pc5_run (x : Nat) : IntKind.u64.wrap ((x : Int) + (x : Int) / 65536) = (pc5 x : Int) := by
  rw [show (x : Int) / 65536 = ((x / 65536 : Nat) : Int) from by omega, ← Int.natCast_add, wr64]; rfl
theorem pc6_run (x : Nat) : IntKind.u64.wrap ((x : Int) + (x : Int) / 4294967296) = (pc6 x : Int) := by
  rw [show (x : Int) / 4294967296 = ((x / 4294967296 : Nat) : Int) from by omega, ← Int.natCast_add, wr64]; rfl

theorem ones_any (x : Nat) (W : World) (hx : x < 18446744073709551616) : Calls Try.prog 31 #[.int .u64 x] W fun e W' => e = .returned (.int .i64 (popc x)) ∧ W = W' := by
  have e1 := pc1_run x hx
  obtain ⟨a1, h1⟩ : ∃ a, a = pc1 x := ⟨_, rfl⟩
  rw [← h1] at e1
  have e2 := pc2_run a1 (by rw [h1]; exact pc1_lt x)
  obtain ⟨a2, h2⟩ : ∃ a, a = pc2 a1 := ⟨_, rfl⟩
  rw [← h2] at e2
  have e3 := pc3_run a2 (by rw [h2]; exact pc2_lt a1)
  obtain ⟨a3, h3⟩ : ∃ a, a = pc3 a2 := ⟨_, rfl⟩
  rw [← h3] at e3
  have e4 := pc4_run a3
  obtain ⟨a4, h4⟩ : ∃ a, a = pc4 a3 := ⟨_, rfl⟩
  rw [← h4] at e4
  have e5 := pc5_run a4
  obtain ⟨a5, h5⟩ : ∃ a, a = pc5 a4 := ⟨_, rfl⟩
  rw [← h5] at e5
  have e6 := pc6_run a5
  obtain ⟨a6, h6⟩ : ∃ a, a = pc6 a5 := ⟨_, rfl⟩
  rw [← h6] at e6
  have hl : a6 < 2305843009213693952 := by rw [h6, h5, h4, h3]; exact pc6_lt a2
  have hp : popc x = a6 % 128 := by rw [h6, h5, h4, h3, h2, h1]; rfl
  rw [hp]
  have e8 : IntKind.i64.wrap (a6 : Int) = (a6 : Int) := IntWalk.i64_in _ (by omega)
  have e7 : bits .and .i64 (a6 : Int) 127 = ((a6 % 128 : Nat) : Int) := by
    have h := bits_mask .i64 63 (by decide) (fun n h0 h1 => IntWalk.i64_in n (by omega)) 7 (by decide) (a6 : Int) (by omega) (by omega)
    rw [show ((2 : Int) ^ 7 - 1) = 127 from by decide, show ((2 : Int) ^ 7) = 128 from by decide] at h
    rw [h]; omega
  clear h1 h2 h3 h4 h5 h6 hp
  go_enter Try.func31, Try.ntmps31
  go_wp2_with fail
  go_returns
  exact ⟨rfl, rfl⟩

end Go.Proofs.Ytnfdkgmikijbgaa
