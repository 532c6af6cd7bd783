/- The plain law of the number of bits: what the six steps of OnesCount64 come to is the number of bits that are one. No program is in sight. -/
import Derived.Test.YtnfdkgmikijbgaaTallyC
set_option linter.unusedSimpArgs false
set_option linter.unusedVariables false
namespace Go.Proofs.Ytnfdkgmikijbgaa

/-- Bits of a number, from below. -/
def cb : Nat → Nat → Nat
  | 0, _ => 0
  | n + 1, x => x % 2 + cb n (x / 2)
theorem cb_add : ∀ (k n b r : Nat), b < 2 ^ k → cb (k + n) (b + 2 ^ k * r) = cb k b + cb n r
  | 0, n, b, r, h => by
    have : b = 0 := by simpa using h
    subst this
    simp [cb]
  | k + 1, n, b, r, h => by
    have e : k + 1 + n = (k + n) + 1 := by omega
    have h1 : (b + 2 ^ (k + 1) * r) % 2 = b % 2 := by rw [Nat.pow_succ, Nat.mul_comm (2 ^ k) 2, Nat.mul_assoc]; omega
    have h2 : (b + 2 ^ (k + 1) * r) / 2 = b / 2 + 2 ^ k * r := by rw [Nat.pow_succ, Nat.mul_comm (2 ^ k) 2, Nat.mul_assoc]; omega
    rw [e, cb, cb, h1, h2, cb_add k n (b / 2) r (by rw [Nat.pow_succ] at h; omega)]
    omega
/-- Eight bytes as a number. -/
def v8 (a b c d e f g h : Nat) : Nat := a + 256 * (b + 256 * (c + 256 * (d + 256 * (e + 256 * (f + 256 * (g + 256 * h))))))
theorem and256 {a b m c : Nat} (hb : b < 256) (hc : c < 256) : (b + 256 * a) &&& (c + 256 * m) = (b &&& c) + 256 * (a &&& m) := by
  have h1 : ((b + 256 * a) &&& (c + 256 * m)) % 2 ^ 8 = b &&& c := by
    rw [Nat.and_mod_two_pow]
    congr 1 <;> omega
  have h2 : ((b + 256 * a) &&& (c + 256 * m)) / 2 ^ 8 = a &&& m := by
    rw [Nat.and_div_two_pow]
    congr 1 <;> omega
  have h3 : (b &&& c) < 256 := Nat.lt_of_le_of_lt Nat.and_le_left hb
  have := Nat.div_add_mod ((b + 256 * a) &&& (c + 256 * m)) (2 ^ 8)
  omega
theorem and_v8 {a b c d e f g h m : Nat} (ha : a < 256) (hb : b < 256) (hc : c < 256) (hd : d < 256) (he : e < 256) (hf : f < 256) (hg : g < 256) (hm : m < 256) :
    v8 a b c d e f g h &&& v8 m m m m m m m m = v8 (a &&& m) (b &&& m) (c &&& m) (d &&& m) (e &&& m) (f &&& m) (g &&& m) (h &&& m) := by
  unfold v8
  rw [and256 ha hm, and256 hb hm, and256 hc hm, and256 hd hm, and256 he hm, and256 hf hm, and256 hg hm]
theorem v8_add (a b c d e f g h a' b' c' d' e' f' g' h' : Nat) : v8 a b c d e f g h + v8 a' b' c' d' e' f' g' h' = v8 (a + a') (b + b') (c + c') (d + d') (e + e') (f + f') (g + g') (h + h') := by
  unfold v8; omega
theorem v8_lt {a b c d e f g h : Nat} (ha : a < 256) (hb : b < 256) (hc : c < 256) (hd : d < 256) (he : e < 256) (hf : f < 256) (hg : g < 256) (hh : h < 256) : v8 a b c d e f g h < 18446744073709551616 := by
  unfold v8; omega
def q1 (b : Nat) : Nat := (b / 2 &&& 85) + (b &&& 85)
def q2 (b : Nat) : Nat := (b / 4 &&& 51) + (b &&& 51)
def q3 (b : Nat) : Nat := (b / 16 + b) &&& 15
theorem half_byte : ∀ b, b < 256 → ∀ c, c < 2 → (b / 2 + 128 * c) &&& 85 = b / 2 &&& 85 := by decide +kernel
theorem quart_byte : ∀ b, b < 256 → ∀ c, c < 4 → (b / 4 + 64 * c) &&& 51 = b / 4 &&& 51 := by decide +kernel
theorem nib_byte : ∀ b, b < 256 → ∀ c, c < 5 → (b / 16 + b + 16 * c) &&& 15 = (b / 16 + b) &&& 15 := by
  intro b hb c hc
  have h : ∀ x : Nat, x &&& 15 = x % 16 := fun x => Nat.and_two_pow_sub_one_eq_mod x 4
  rw [h, h]
  omega
theorem q1_le : ∀ b, b < 256 → q1 b ≤ 170 := by decide +kernel
theorem q2_le : ∀ b, b < 256 → q2 (q1 b) ≤ 68 ∧ q2 (q1 b) % 16 ≤ 4 := by decide +kernel
theorem q3_is : ∀ b, b < 256 → q3 (q2 (q1 b)) = cb 8 b := by decide +kernel
theorem cb8_le : ∀ b, b < 256 → cb 8 b ≤ 8 := by decide +kernel
theorem m85 : v8 85 85 85 85 85 85 85 85 = 6148914691236517205 := by decide +kernel
theorem m51 : v8 51 51 51 51 51 51 51 51 = 3689348814741910323 := by decide +kernel
theorem m15 : v8 15 15 15 15 15 15 15 15 = 1085102592571150095 := by decide +kernel
section
variable {a b c d e f g h : Nat} (ha : a < 256) (hb : b < 256) (hc : c < 256) (hd : d < 256) (he : e < 256) (hf : f < 256) (hg : g < 256) (hh : h < 256)
include ha hb hc hd he hf hg hh
theorem pc1_v8 : pc1 (v8 a b c d e f g h) = v8 (q1 a) (q1 b) (q1 c) (q1 d) (q1 e) (q1 f) (q1 g) (q1 h) := by
  have e1 : v8 a b c d e f g h / 2 = v8 (a / 2 + 128 * (b % 2)) (b / 2 + 128 * (c % 2)) (c / 2 + 128 * (d % 2)) (d / 2 + 128 * (e % 2)) (e / 2 + 128 * (f % 2)) (f / 2 + 128 * (g % 2)) (g / 2 + 128 * (h % 2)) (h / 2 + 128 * 0) := by unfold v8; omega
  have e2 : v8 a b c d e f g h / 2 &&& 6148914691236517205 = v8 (a / 2 &&& 85) (b / 2 &&& 85) (c / 2 &&& 85) (d / 2 &&& 85) (e / 2 &&& 85) (f / 2 &&& 85) (g / 2 &&& 85) (h / 2 &&& 85) := by
    rw [e1, ← m85, and_v8 (by omega) (by omega) (by omega) (by omega) (by omega) (by omega) (by omega) (by omega), half_byte a ha _ (by omega), half_byte b hb _ (by omega), half_byte c hc _ (by omega), half_byte d hd _ (by omega), half_byte e he _ (by omega), half_byte f hf _ (by omega), half_byte g hg _ (by omega), half_byte h hh _ (by omega)]
  have e3 : v8 a b c d e f g h &&& 6148914691236517205 = v8 (a &&& 85) (b &&& 85) (c &&& 85) (d &&& 85) (e &&& 85) (f &&& 85) (g &&& 85) (h &&& 85) := by
    rw [← m85, and_v8 ha hb hc hd he hf hg (by omega)]
  have l := q1_le a ha; have l1 := q1_le b hb; have l2 := q1_le c hc; have l3 := q1_le d hd
  have l4 := q1_le e he; have l5 := q1_le f hf; have l6 := q1_le g hg; have l7 := q1_le h hh
  unfold pc1
  rw [e2, e3, v8_add]
  exact Nat.mod_eq_of_lt (v8_lt (Nat.lt_of_le_of_lt l (by decide)) (Nat.lt_of_le_of_lt l1 (by decide)) (Nat.lt_of_le_of_lt l2 (by decide)) (Nat.lt_of_le_of_lt l3 (by decide)) (Nat.lt_of_le_of_lt l4 (by decide)) (Nat.lt_of_le_of_lt l5 (by decide)) (Nat.lt_of_le_of_lt l6 (by decide)) (Nat.lt_of_le_of_lt l7 (by decide)))
end
theorem pc2_v8 {a b c d e f g h : Nat} (ha : a < 256) (hb : b < 256) (hc : c < 256) (hd : d < 256) (he : e < 256) (hf : f < 256) (hg : g < 256) (hh : h < 256)
    (l0 : q2 a ≤ 68) (l1 : q2 b ≤ 68) (l2 : q2 c ≤ 68) (l3 : q2 d ≤ 68) (l4 : q2 e ≤ 68) (l5 : q2 f ≤ 68) (l6 : q2 g ≤ 68) (l7 : q2 h ≤ 68) :
    pc2 (v8 a b c d e f g h) = v8 (q2 a) (q2 b) (q2 c) (q2 d) (q2 e) (q2 f) (q2 g) (q2 h) := by
  have e1 : v8 a b c d e f g h / 4 = v8 (a / 4 + 64 * (b % 4)) (b / 4 + 64 * (c % 4)) (c / 4 + 64 * (d % 4)) (d / 4 + 64 * (e % 4)) (e / 4 + 64 * (f % 4)) (f / 4 + 64 * (g % 4)) (g / 4 + 64 * (h % 4)) (h / 4 + 64 * 0) := by unfold v8; omega
  have e2 : v8 a b c d e f g h / 4 &&& 3689348814741910323 = v8 (a / 4 &&& 51) (b / 4 &&& 51) (c / 4 &&& 51) (d / 4 &&& 51) (e / 4 &&& 51) (f / 4 &&& 51) (g / 4 &&& 51) (h / 4 &&& 51) := by
    rw [e1, ← m51, and_v8 (by omega) (by omega) (by omega) (by omega) (by omega) (by omega) (by omega) (by omega), quart_byte a ha _ (by omega), quart_byte b hb _ (by omega), quart_byte c hc _ (by omega), quart_byte d hd _ (by omega), quart_byte e he _ (by omega), quart_byte f hf _ (by omega), quart_byte g hg _ (by omega), quart_byte h hh _ (by omega)]
  have e3 : v8 a b c d e f g h &&& 3689348814741910323 = v8 (a &&& 51) (b &&& 51) (c &&& 51) (d &&& 51) (e &&& 51) (f &&& 51) (g &&& 51) (h &&& 51) := by
    rw [← m51, and_v8 ha hb hc hd he hf hg (by omega)]
  unfold pc2
  rw [e2, e3, v8_add]
  exact Nat.mod_eq_of_lt (v8_lt (Nat.lt_of_le_of_lt l0 (by decide)) (Nat.lt_of_le_of_lt l1 (by decide)) (Nat.lt_of_le_of_lt l2 (by decide)) (Nat.lt_of_le_of_lt l3 (by decide)) (Nat.lt_of_le_of_lt l4 (by decide)) (Nat.lt_of_le_of_lt l5 (by decide)) (Nat.lt_of_le_of_lt l6 (by decide)) (Nat.lt_of_le_of_lt l7 (by decide)))
theorem pc3_v8 {a b c d e f g h : Nat} (ha : a ≤ 68) (hb : b ≤ 68) (hc : c ≤ 68) (hd : d ≤ 68) (he : e ≤ 68) (hf : f ≤ 68) (hg : g ≤ 68) (hh : h ≤ 68)
    (l1 : b % 16 ≤ 4) (l2 : c % 16 ≤ 4) (l3 : d % 16 ≤ 4) (l4 : e % 16 ≤ 4) (l5 : f % 16 ≤ 4) (l6 : g % 16 ≤ 4) (l7 : h % 16 ≤ 4) :
    pc3 (v8 a b c d e f g h) = v8 (q3 a) (q3 b) (q3 c) (q3 d) (q3 e) (q3 f) (q3 g) (q3 h) := by
  have e1 : (v8 a b c d e f g h / 16 + v8 a b c d e f g h) % 18446744073709551616 = v8 (a / 16 + a + 16 * (b % 16)) (b / 16 + b + 16 * (c % 16)) (c / 16 + c + 16 * (d % 16)) (d / 16 + d + 16 * (e % 16)) (e / 16 + e + 16 * (f % 16)) (f / 16 + f + 16 * (g % 16)) (g / 16 + g + 16 * (h % 16)) (h / 16 + h + 16 * 0) := by
    rw [Nat.mod_eq_of_lt]
    · unfold v8; omega
    · unfold v8; omega
  unfold pc3
  rw [e1, ← m15, and_v8 (by omega) (by omega) (by omega) (by omega) (by omega) (by omega) (by omega) (by omega), nib_byte a (by omega) _ (by omega), nib_byte b (by omega) _ (by omega), nib_byte c (by omega) _ (by omega), nib_byte d (by omega) _ (by omega), nib_byte e (by omega) _ (by omega), nib_byte f (by omega) _ (by omega), nib_byte g (by omega) _ (by omega), nib_byte h (by omega) _ (by omega)]
  rfl
theorem pc6_v8 {a b c d e f g h : Nat} (ha : a ≤ 8) (hb : b ≤ 8) (hc : c ≤ 8) (hd : d ≤ 8) (he : e ≤ 8) (hf : f ≤ 8) (hg : g ≤ 8) (hh : h ≤ 8) :
    pc6 (pc5 (pc4 (v8 a b c d e f g h))) % 128 = a + b + c + d + e + f + g + h := by
  have e4 : pc4 (v8 a b c d e f g h) = v8 (a + b) (b + c) (c + d) (d + e) (e + f) (f + g) (g + h) h := by
    unfold pc4
    rw [Nat.mod_eq_of_lt]
    · unfold v8; omega
    · unfold v8; omega
  have e5 : pc5 (v8 (a + b) (b + c) (c + d) (d + e) (e + f) (f + g) (g + h) h) = v8 (a + b + c + d) (b + c + d + e) (c + d + e + f) (d + e + f + g) (e + f + g + h) (f + g + h) (g + h) h := by
    unfold pc5
    rw [Nat.mod_eq_of_lt]
    · unfold v8; omega
    · unfold v8; omega
  have e6 : pc6 (v8 (a + b + c + d) (b + c + d + e) (c + d + e + f) (d + e + f + g) (e + f + g + h) (f + g + h) (g + h) h) = v8 (a + b + c + d + e + f + g + h) (b + c + d + e + f + g + h) (c + d + e + f + g + h) (d + e + f + g + h) (e + f + g + h) (f + g + h) (g + h) h := by
    unfold pc6
    rw [Nat.mod_eq_of_lt]
    · unfold v8; omega
    · unfold v8; omega
  rw [e4, e5, e6]
  unfold v8
  omega
theorem cb_v8 {a b c d e f g h : Nat} (ha : a < 256) (hb : b < 256) (hc : c < 256) (hd : d < 256) (he : e < 256) (hf : f < 256) (hg : g < 256) (hh : h < 256) :
    cb 64 (v8 a b c d e f g h) = cb 8 a + (cb 8 b + (cb 8 c + (cb 8 d + (cb 8 e + (cb 8 f + (cb 8 g + cb 8 h)))))) := by
  unfold v8
  rw [cb_add 8 56 a _ ha, cb_add 8 48 b _ hb, cb_add 8 40 c _ hc, cb_add 8 32 d _ hd, cb_add 8 24 e _ he, cb_add 8 16 f _ hf, cb_add 8 8 g _ hg]
theorem popc_is (x : Nat) (hx : x < 18446744073709551616) : popc x = cb 64 x := by
  obtain ⟨a, b, c, d, e, f, g, h, ha, hb, hc, hd, he, hf, hg, hh, rfl⟩ : ∃ a b c d e f g h, a < 256 ∧ b < 256 ∧ c < 256 ∧ d < 256 ∧ e < 256 ∧ f < 256 ∧ g < 256 ∧ h < 256 ∧ x = v8 a b c d e f g h :=
    ⟨x % 256, x / 256 % 256, x / 65536 % 256, x / 16777216 % 256, x / 4294967296 % 256, x / 1099511627776 % 256, x / 281474976710656 % 256, x / 72057594037927936, by omega, by omega, by omega, by omega, by omega, by omega, by omega, by omega, by unfold v8; omega⟩
  have p := fun y hy => q1_le y hy
  have q := fun y hy => q2_le y hy
  unfold popc
  rw [pc1_v8 ha hb hc hd he hf hg hh, pc2_v8 (Nat.lt_of_le_of_lt (p a ha) (by decide)) (Nat.lt_of_le_of_lt (p b hb) (by decide)) (Nat.lt_of_le_of_lt (p c hc) (by decide)) (Nat.lt_of_le_of_lt (p d hd) (by decide)) (Nat.lt_of_le_of_lt (p e he) (by decide)) (Nat.lt_of_le_of_lt (p f hf) (by decide)) (Nat.lt_of_le_of_lt (p g hg) (by decide)) (Nat.lt_of_le_of_lt (p h hh) (by decide)) (q a ha).1 (q b hb).1 (q c hc).1 (q d hd).1 (q e he).1 (q f hf).1 (q g hg).1 (q h hh).1,
    pc3_v8 (q a ha).1 (q b hb).1 (q c hc).1 (q d hd).1 (q e he).1 (q f hf).1 (q g hg).1 (q h hh).1 (q b hb).2 (q c hc).2 (q d hd).2 (q e he).2 (q f hf).2 (q g hg).2 (q h hh).2,
    q3_is a ha, q3_is b hb, q3_is c hc, q3_is d hd, q3_is e he, q3_is f hf, q3_is g hg, q3_is h hh,
    pc6_v8 (cb8_le a ha) (cb8_le b hb) (cb8_le c hc) (cb8_le d hd) (cb8_le e he) (cb8_le f hf) (cb8_le g hg) (cb8_le h hh), cb_v8 ha hb hc hd he hf hg hh]
  omega

end Go.Proofs.Ytnfdkgmikijbgaa
