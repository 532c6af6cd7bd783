/- Plain words for picks: the mixture of an entropy and a number, that unlike numbers have unlike mixtures. No program is in sight. -/
import Derived.WalkKit
import Derived.Sort.LotA
set_option linter.unusedSimpArgs false
set_option linter.unusedVariables false
namespace Go.Proofs.Ytmjaompepchieaa

/-- The steps of the mixture. -/
def mx0 (e m : Nat) : Nat := e ^^^ (m * 2654435761 % 4294967296)
def mx1 (e m : Nat) : Nat := mx0 e m ^^^ (mx0 e m / 65536)
def mx2 (e m : Nat) : Nat := mx1 e m * 2246822507 % 4294967296
def mx3 (e m : Nat) : Nat := mx2 e m ^^^ (mx2 e m / 8192)
def mx4 (e m : Nat) : Nat := mx3 e m * 3266489909 % 4294967296
def mixN (e m : Nat) : Nat := mx4 e m ^^^ (mx4 e m / 65536)
/-- A number as the machine cuts it to 32 bits. -/
def lo32 (n : Int) : Nat := (n % 4294967296).toNat
/-- A number's rank at an entropy. -/
def key (e : Nat) (n : Int) : Nat := mixN e (lo32 n)

theorem xor_lt32 {a b : Nat} (ha : a < 4294967296) (hb : b < 4294967296) : a ^^^ b < 4294967296 := Nat.xor_lt_two_pow (n := 32) ha hb
theorem lo32_lt (n : Int) : lo32 n < 4294967296 := by unfold lo32; omega
theorem lo32_of {n : Int} (h0 : 0 ≤ n) (h1 : n < 4294967296) : (lo32 n : Int) = n := by unfold lo32; omega
theorem mx0_lt {e : Nat} (he : e < 4294967296) (m : Nat) : mx0 e m < 4294967296 := xor_lt32 he (Nat.mod_lt _ (by decide))
theorem mx1_lt {e : Nat} (he : e < 4294967296) (m : Nat) : mx1 e m < 4294967296 := xor_lt32 (mx0_lt he m) (Nat.lt_of_le_of_lt (Nat.div_le_self _ _) (mx0_lt he m))
theorem mx2_lt (e m : Nat) : mx2 e m < 4294967296 := Nat.mod_lt _ (by decide)
theorem mx3_lt (e m : Nat) : mx3 e m < 4294967296 := xor_lt32 (mx2_lt e m) (Nat.lt_of_le_of_lt (Nat.div_le_self _ _) (mx2_lt e m))
theorem mx4_lt (e m : Nat) : mx4 e m < 4294967296 := Nat.mod_lt _ (by decide)
theorem mixN_lt (e m : Nat) : mixN e m < 4294967296 := xor_lt32 (mx4_lt e m) (Nat.lt_of_le_of_lt (Nat.div_le_self _ _) (mx4_lt e m))

theorem xor_div_k (k a b : Nat) : (a ^^^ b) / 2 ^ k = (a / 2 ^ k) ^^^ (b / 2 ^ k) := Nat.xor_div_two_pow
/-- A shift and an exclusive or, undone. -/
theorem shift_undo (k : Nat) {x : Nat} (hx : x < 2 ^ (3 * k)) : (x ^^^ x / 2 ^ k) ^^^ (x ^^^ x / 2 ^ k) / 2 ^ k ^^^ (x ^^^ x / 2 ^ k) / 2 ^ (2 * k) = x := by
  have h2 : 2 ^ (2 * k) = 2 ^ k * 2 ^ k := by rw [← Nat.pow_add]; congr 1; omega
  have h0 : x / 2 ^ k / 2 ^ k / 2 ^ k = 0 := by
    rw [Nat.div_div_eq_div_mul, Nat.div_div_eq_div_mul]
    apply Nat.div_eq_of_lt
    have : 2 ^ (3 * k) = 2 ^ k * 2 ^ k * 2 ^ k := by rw [← Nat.pow_add, ← Nat.pow_add]; congr 1; omega
    rw [Nat.mul_assoc] at this
    omega
  rw [h2, ← Nat.div_div_eq_div_mul, xor_div_k, xor_div_k, h0, Nat.xor_zero]
  rw [Nat.xor_assoc, Nat.xor_assoc, Nat.xor_assoc, Nat.xor_self, Nat.xor_zero, Nat.xor_self, Nat.xor_zero]
theorem shift_inj {k x y : Nat} (hx : x < 2 ^ (3 * k)) (hy : y < 2 ^ (3 * k)) (h : x ^^^ x / 2 ^ k = y ^^^ y / 2 ^ k) : x = y := by
  rw [← shift_undo k hx, h, shift_undo k hy]
theorem mul_undo {c d x : Nat} (h : c * d % 4294967296 = 1) (hx : x < 4294967296) : (x * c % 4294967296) * d % 4294967296 = x := by
  rw [Nat.mod_mul_mod, Nat.mul_assoc, Nat.mul_mod, h, Nat.mul_one, Nat.mod_mod, Nat.mod_eq_of_lt hx]
theorem mul_inj {c d x y : Nat} (h : c * d % 4294967296 = 1) (hx : x < 4294967296) (hy : y < 4294967296) (e : x * c % 4294967296 = y * c % 4294967296) : x = y := by
  rw [← mul_undo h hx, e, mul_undo h hy]
theorem xor_inj {e a b : Nat} (h : e ^^^ a = e ^^^ b) : a = b := by
  have := congrArg (fun x => e ^^^ x) h
  simpa [← Nat.xor_assoc] using this
theorem mixN_inj {e m n : Nat} (he : e < 4294967296) (hm : m < 4294967296) (hn : n < 4294967296) (h : mixN e m = mixN e n) : m = n := by
  have h48 : (4294967296 : Nat) ≤ 2 ^ (3 * 16) := by decide
  have h39 : (4294967296 : Nat) ≤ 2 ^ (3 * 13) := by decide
  have a4 : mx4 e m = mx4 e n := shift_inj (k := 16) (Nat.lt_of_lt_of_le (mx4_lt e m) h48) (Nat.lt_of_lt_of_le (mx4_lt e n) h48) h
  have a3 : mx3 e m = mx3 e n := mul_inj (c := 3266489909) (d := 2127672349) (by decide) (mx3_lt e m) (mx3_lt e n) a4
  have a2 : mx2 e m = mx2 e n := shift_inj (k := 13) (Nat.lt_of_lt_of_le (mx2_lt e m) h39) (Nat.lt_of_lt_of_le (mx2_lt e n) h39) a3
  have a1 : mx1 e m = mx1 e n := mul_inj (c := 2246822507) (d := 2781581891) (by decide) (mx1_lt he m) (mx1_lt he n) a2
  have a0 : mx0 e m = mx0 e n := shift_inj (k := 16) (Nat.lt_of_lt_of_le (mx0_lt he m) h48) (Nat.lt_of_lt_of_le (mx0_lt he n) h48) a1
  exact mul_inj (c := 2654435761) (d := 244002641) (by decide) hm hn (xor_inj a0)
theorem key_inj {e : Nat} {m n : Int} (he : e < 4294967296) (hm0 : 0 ≤ m) (hm : m < 4294967296) (hn0 : 0 ≤ n) (hn : n < 4294967296) (h : key e m = key e n) : m = n := by
  have := mixN_inj he (lo32_lt m) (lo32_lt n) h
  rw [← lo32_of hm0 hm, ← lo32_of hn0 hn, this]

end Go.Proofs.Ytmjaompepchieaa
