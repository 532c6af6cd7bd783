/- Plain mathematics of numbers read off groups of seven bits. No program is in sight. -/
import Derived.Test.YtibicjcnfdhffaaWireV
set_option linter.unusedSimpArgs false
set_option linter.unusedVariables false
namespace Go.Proofs.Ytibicjcnfdhffaa
open Go.RowKit

/-- What is read off bytes, the i-th of the number being the first one; 'acc': what the ones ahead of it say. The number, and of how many bytes; or none. -/
def tv : Nat → Nat → Nat → List UInt8 → Option (Nat × Nat)
  | 0, _, _, _ => none
  | _ + 1, _, _, [] => none
  | f + 1, i, acc, c :: l =>
    if i = 9 ∧ 1 < c.toNat then none
    else if c.toNat < 128 then (if c.toNat = 0 ∧ 0 < i then none else some (acc + c.toNat * 128 ^ i, i + 1))
    else tv f (i + 1) (acc + c.toNat % 128 * 128 ^ i) l

/-- The number of groups, the lowest first. -/
def grp : List UInt8 → Nat
  | [] => 0
  | c :: l => c.toNat % 128 + 128 * grp l
theorem grp_append : ∀ (a b : List UInt8), grp (a ++ b) = grp a + 128 ^ a.length * grp b
  | [], b => by simp [grp]
  | c :: a, b => by
    simp only [List.cons_append, grp, grp_append a b, List.length_cons, Nat.pow_succ]
    rw [Nat.mul_add, Nat.add_assoc, show 128 ^ a.length * 128 * grp b = 128 * (128 ^ a.length * grp b) from by rw [Nat.mul_comm (128 ^ a.length) 128, Nat.mul_assoc]]
theorem grp_snoc (a : List UInt8) (c : UInt8) : grp (a ++ [c]) = grp a + c.toNat % 128 * 128 ^ a.length := by rw [grp_append]; simp [grp, Nat.mul_comm]
theorem grp_lt : ∀ (a : List UInt8), grp a < 128 ^ a.length
  | [] => by simp [grp]
  | c :: a => by
    have := grp_lt a
    simp only [grp, List.length_cons, Nat.pow_succ]
    omega
theorem grp_uvarL : ∀ (k n : Nat), n < 128 ^ (k + 1) → grp (uvarL n) = n := by
  intro k
  induction k with
  | zero => intro n h; rw [uvarL_last (by simpa using h)]; simp [grp, toU8_toNat]; omega
  | succ k ih =>
    intro n h
    by_cases h0 : n < 128
    · rw [uvarL_last h0]; simp [grp, toU8_toNat]; omega
    · rw [uvarL_more h0, grp, ih (n / 128) (by rw [Nat.pow_succ] at h; omega), toU8_toNat]
      omega
theorem pow_big (n : Nat) : n < 128 ^ (n + 1) := Nat.lt_of_lt_of_le (Nat.lt_two_pow_self (n := n)) (Nat.le_trans (Nat.pow_le_pow_right (by decide) (Nat.le_succ n)) (Nat.pow_le_pow_left (by decide) _))
theorem grp_uvar (n : Nat) : grp (uvarL n) = n := grp_uvarL n n (pow_big n)
/-- Groups that are laid just so are what their number is laid as. -/
theorem uvar_grp : ∀ (p : List UInt8) (c : UInt8), (∀ x ∈ p, 128 ≤ x.toNat) → c.toNat < 128 → (p = [] ∨ c.toNat ≠ 0) → uvarL (grp (p ++ [c])) = p ++ [c]
  | [], c, _, hc, _ => by
    have e : grp ([] ++ [c]) = c.toNat := by simp [grp]; omega
    rw [e, uvarL_last hc, toU8_of]
    rfl
  | x :: p, c, hp, hc, h0 => by
    have hc0 : c.toNat ≠ 0 := by rcases h0 with h | h; cases h; exact h
    have ih := uvar_grp p c (fun y hy => hp y (List.mem_cons_of_mem _ hy)) hc (.inr hc0)
    have hpos : 0 < grp (p ++ [c]) := by
      rw [grp_snoc]
      have : 0 < 128 ^ p.length := Nat.pow_pos (by decide)
      have h1 : c.toNat % 128 = c.toNat := Nat.mod_eq_of_lt hc
      rw [h1]
      have := Nat.mul_pos (Nat.pos_of_ne_zero hc0) this
      omega
    have hx := hp x (List.mem_cons_self ..)
    have hx2 := x.toNat_lt
    rw [List.cons_append, grp, uvarL_more (by omega)]
    have e1 : (x.toNat % 128 + 128 * grp (p ++ [c])) / 128 = grp (p ++ [c]) := by omega
    have e2 : toU8 ((x.toNat % 128 + 128 * grp (p ++ [c])) % 128 + 128) = x := by
      have : (x.toNat % 128 + 128 * grp (p ++ [c])) % 128 + 128 = x.toNat := by omega
      rw [this, toU8_of]
    rw [e1, e2, ih]
/-- No number's last group is 0 behind another one. -/
theorem uvar_last_ne : ∀ (k n : Nat) (p : List UInt8) (c : UInt8), n < 128 ^ (k + 1) → uvarL n = p ++ [c] → p ≠ [] → c.toNat ≠ 0 := by
  intro k
  induction k with
  | zero =>
    intro n p c h he hp
    rw [uvarL_last (by simpa using h)] at he
    have := congrArg List.length he
    simp at this
    exact absurd this hp
  | succ k ih =>
    intro n p c h he hp
    by_cases h0 : n < 128
    · rw [uvarL_last h0] at he
      have := congrArg List.length he
      simp at this
      exact absurd this hp
    · rw [uvarL_more h0] at he
      cases p with
      | nil => exact absurd rfl hp
      | cons x p =>
        simp only [List.cons_append, List.cons.injEq] at he
        cases p with
        | nil =>
          by_cases h1 : n / 128 < 128
          · rw [uvarL_last h1] at he
            have e : toU8 (n / 128) = c := by simpa using he.2
            rw [← e, toU8_toNat]
            omega
          · rw [uvarL_more h1] at he
            have h4 : (toU8 (n / 128 % 128 + 128) :: uvarL (n / 128 / 128)).length = 1 := by rw [he.2]; rfl
            have h3 := uvarL_pos (n / 128 / 128)
            rw [List.length_cons] at h4
            omega
        | cons y p => exact ih (n / 128) (y :: p) c (by rw [Nat.pow_succ] at h; omega) he.2 (by simp)
/-- The document's test: the number, over 64 bits, laid anew, against the bytes. -/
theorem chk (p : List UInt8) (c : UInt8) (v : Nat) (hp : ∀ x ∈ p, 128 ≤ x.toNat) (hc : c.toNat < 128) (hl : p.length ≤ 9) (hv : v = (grp p + c.toNat * 128 ^ p.length) % 18446744073709551616) :
    uvarL v = p ++ [c] ↔ ¬ (p.length = 9 ∧ 1 < c.toNat) ∧ ¬ (c.toNat = 0 ∧ 0 < p.length) := by
  have hg := grp_lt p
  have hcm : c.toNat % 128 = c.toNat := Nat.mod_eq_of_lt hc
  have hgs : grp (p ++ [c]) = grp p + c.toNat * 128 ^ p.length := by rw [grp_snoc, hcm]
  constructor
  · intro h
    have h1 : v = grp p + c.toNat * 128 ^ p.length := by rw [← hgs, ← h, grp_uvar]
    refine ⟨fun ⟨h9, hc1⟩ => ?_, fun ⟨hc0, hpos⟩ => ?_⟩
    · have h2 : v < 18446744073709551616 := by rw [hv]; exact Nat.mod_lt _ (by decide)
      have h3 : c.toNat * 128 ^ p.length ≥ 2 * 128 ^ 9 := by rw [h9]; exact Nat.mul_le_mul_right _ hc1
      have h4 : (2 : Nat) * 128 ^ 9 = 18446744073709551616 := by decide
      omega
    · exact uvar_last_ne v v p c (pow_big v) h (by intro e; subst e; simp at hpos) hc0
  · rintro ⟨h1, h2⟩
    have hlt : grp p + c.toNat * 128 ^ p.length < 18446744073709551616 := by
      by_cases h9 : p.length = 9
      · have hc1 : c.toNat ≤ 1 := Nat.le_of_not_lt fun h => h1 ⟨h9, h⟩
        have h3 : c.toNat * 128 ^ p.length ≤ 1 * 128 ^ 9 := by rw [h9]; exact Nat.mul_le_mul_right _ hc1
        have h4 : (128 : Nat) ^ 9 = 9223372036854775808 := by decide
        rw [h9] at hg
        omega
      · have h5 := grp_lt (p ++ [c])
        rw [hgs, List.length_append] at h5
        have h6 : (128 : Nat) ^ (p.length + [c].length) ≤ 128 ^ 9 := Nat.pow_le_pow_right (by decide) (by simp; omega)
        have h4 : (128 : Nat) ^ 9 = 9223372036854775808 := by decide
        omega
    rw [hv, Nat.mod_eq_of_lt hlt, ← hgs]
    refine uvar_grp p c hp hc ?_
    by_cases hp0 : p = []
    · exact .inl hp0
    · exact .inr fun h => h2 ⟨h, by rcases List.eq_nil_or_concat p with h' | ⟨_, _, h'⟩; exact absurd h' hp0; rw [h']; simp⟩

theorem drop_cons {b : ByteArray} {n : Nat} (h : n < b.size) : b.data.toList.drop n = b[n] :: b.data.toList.drop (n + 1) := by
  have : n < b.data.toList.length := by simpa using h
  rw [List.drop_eq_getElem_cons this]
  rfl
theorem tv_step {b : ByteArray} {a k t : Nat} (h10 : k < 10) (hin : a + k < b.size) :
    tv (10 - k) k t (b.data.toList.drop (a + k)) = if k = 9 ∧ 1 < b[a + k].toNat then none else if b[a + k].toNat < 128 then (if b[a + k].toNat = 0 ∧ 0 < k then none else some (t + b[a + k].toNat * 128 ^ k, k + 1))
      else tv (10 - (k + 1)) (k + 1) (t + b[a + k].toNat % 128 * 128 ^ k) (b.data.toList.drop (a + (k + 1))) := by
  rw [drop_cons hin, show 10 - k = (10 - (k + 1)) + 1 from by omega, tv]
  rfl
theorem tv_end {b : ByteArray} {n f k t : Nat} (h : b.size ≤ n) : tv f k t (b.data.toList.drop n) = none := by
  rw [List.drop_eq_nil_of_le (by simpa using h)]
  cases f <;> rfl
theorem pow128 (k : Nat) : (2 : Nat) ^ (7 * k) = 128 ^ k := by rw [Nat.pow_mul]
theorem and127 : ∀ x : Fin 256, x.val &&& 127 = x.val % 128 := by decide +kernel
theorem val_go (t x k : Nat) (hx : x < 256) (hk : k ≤ 9) (ht : t < 128 ^ k) (h9 : k = 9 → x ≤ 1) :
    bits .or .u64 (t : Int) (IntKind.u64.wrap (IntKind.u64.wrap (bits .and .u8 (x : Int) 127) * 2 ^ (7 * k))) = ((t + x % 128 * 128 ^ k : Nat) : Int) ∧ t + x % 128 * 128 ^ k < 128 ^ (k + 1) := by
  have ha : bits .and .u8 (x : Int) 127 = ((x % 128 : Nat) : Int) := by
    rw [show (127 : Int) = ((127 : Nat) : Int) from rfl, u8_and_nat _ _ hx (by decide)]
    exact congrArg Int.ofNat (and127 ⟨x, hx⟩)
  have hp : (2 : Int) ^ (7 * k) = ((128 ^ k : Nat) : Int) := by rw [← pow128]; simp
  have hlt2 : t + x % 128 * 128 ^ k < 128 ^ (k + 1) := by
    have h1 : x % 128 * 128 ^ k ≤ 127 * 128 ^ k := Nat.mul_le_mul_right _ (by omega)
    rw [Nat.pow_succ]
    omega
  have hlt : t + x % 128 * 128 ^ k < 18446744073709551616 := by
    by_cases h : k = 9
    · subst h
      have h1 : x % 128 * 128 ^ 9 ≤ 1 * 128 ^ 9 := Nat.mul_le_mul_right _ (by have := h9 rfl; omega)
      have h4 : (128 : Nat) ^ 9 = 9223372036854775808 := by decide
      rw [h4] at h1 ht ⊢
      omega
    · have h6 : (128 : Nat) ^ (k + 1) ≤ 128 ^ 9 := Nat.pow_le_pow_right (by decide) (by omega)
      have h4 : (128 : Nat) ^ 9 = 9223372036854775808 := by decide
      omega
  refine ⟨?_, hlt2⟩
  rw [ha, hp, IntWalk.u64_in ((x % 128 : Nat) : Int) (by omega), show ((x % 128 : Nat) : Int) * ((128 ^ k : Nat) : Int) = ((x % 128 * 128 ^ k : Nat) : Int) from (Int.natCast_mul _ _).symm, IntWalk.u64_in _ (by omega), u64_or_nat _ _ (by omega) (by omega)]
  congr 1
  rw [Nat.or_comm, nat_join (7 * k) (x % 128 * 128 ^ k) t (by rw [pow128]; exact Nat.mul_mod_left _ _) (by rw [pow128]; exact ht), Nat.add_comm]

/-- The bytes that have been taken. -/
def seg (b : ByteArray) (a k : Nat) : List UInt8 := (b.data.toList.drop a).take k
theorem seg_len {b : ByteArray} {a k : Nat} (h : a + k ≤ b.size) : (seg b a k).length = k := by
  have : b.data.toList.length = b.size := by simp
  rw [seg, List.length_take, List.length_drop, this]; omega
theorem seg_snoc {b : ByteArray} {a k : Nat} (h : a + k < b.size) : seg b a (k + 1) = seg b a k ++ [b[a + k]] := by
  have hl : k < (b.data.toList.drop a).length := by rw [List.length_drop, Array.length_toList]; have : b.data.size = b.size := rfl; omega
  rw [seg, seg, List.take_succ_eq_append_getElem hl, List.getElem_drop]
  rfl
theorem seg_grp {b : ByteArray} {a k : Nat} (h : a + k < b.size) : grp (seg b a (k + 1)) = grp (seg b a k) + b[a + k].toNat % 128 * 128 ^ k := by
  rw [seg_snoc h, grp_snoc, seg_len (by omega)]
theorem seg_all {b : ByteArray} {a k : Nat} (h : a + k < b.size) (h1 : ∀ y ∈ seg b a k, 128 ≤ y.toNat) (h2 : ¬ b[a + k].toNat < 128) : ∀ y ∈ seg b a (k + 1), 128 ≤ y.toNat := by
  intro y hy
  rw [seg_snoc h, List.mem_append, List.mem_singleton] at hy
  rcases hy with hy | rfl
  · exact h1 y hy
  · omega
theorem extract_seg (b : ByteArray) (a n : Nat) : (b.extract a (a + n)).data.toList = seg b a n := by
  rw [ByteArray.data_extract, Array.toList_extract, List.extract, seg]
  congr 1
  omega
theorem val_ref (t x k : Nat) : IntKind.u64.wrap ((t : Int) + IntKind.u64.wrap ((x : Int) % 128 * 2 ^ (7 * k))) = (((t + x % 128 * 128 ^ k) % 18446744073709551616 : Nat) : Int) := by
  have hp : (2 : Int) ^ (7 * k) = ((128 ^ k : Nat) : Int) := by rw [← pow128]; simp
  rw [hp, show ((x : Int) % 128 * ((128 ^ k : Nat) : Int)) = ((x % 128 * 128 ^ k : Nat) : Int) from by rw [Int.natCast_mul]; rfl, IntKind.wrap_u64, IntKind.wrap_u64]
  omega
/-- The document's test, of the bytes that stand there. -/
theorem chk_seg {b : ByteArray} {a k v : Nat} (h : a + k < b.size) (hk : k ≤ 9) (hp : ∀ y ∈ seg b a k, 128 ≤ y.toNat) (hc : b[a + k].toNat < 128) (hv : v = (grp (seg b a k) + b[a + k].toNat % 128 * 128 ^ k) % 18446744073709551616) :
    (¬ (k = 9 ∧ 1 < b[a + k].toNat) ∧ ¬ (b[a + k].toNat = 0 ∧ 0 < k) → ((bs (uvarL v)).toList == (b.extract a (a + k + 1)).toList) = true ∧ v = grp (seg b a k) + b[a + k].toNat * 128 ^ k) ∧
    (¬ (¬ (k = 9 ∧ 1 < b[a + k].toNat) ∧ ¬ (b[a + k].toNat = 0 ∧ 0 < k)) → ((bs (uvarL v)).toList == (b.extract a (a + k + 1)).toList) = false) := by
  have hl : (seg b a k).length = k := seg_len (by omega)
  have hm : b[a + k].toNat % 128 = b[a + k].toNat := Nat.mod_eq_of_lt hc
  rw [hm] at hv
  have hck := chk (seg b a k) b[a + k] v hp hc (by omega) (by rw [hl]; exact hv)
  rw [hl] at hck
  have e2 : (b.extract a (a + k + 1)).toList = seg b a k ++ [b[a + k]] := by rw [ByteArray.toList_eq, Nat.add_assoc, extract_seg, seg_snoc h]
  have e1 : (bs (uvarL v)).toList = uvarL v := by rw [ByteArray.toList_eq]; rfl
  rw [e1, e2]
  constructor
  · intro ho
    have hu := hck.2 ho
    refine ⟨by rw [hu]; simp, ?_⟩
    rw [← grp_uvar v, hu, grp_snoc, hl, hm]
  · intro ho
    rw [beq_eq_false_iff_ne]
    exact fun hu => ho (hck.1 hu)

theorem tv_bad {α : Type} {k c : Nat} {x z u : α} (h128 : c < 128) (hok : ¬ (¬ (k = 9 ∧ 1 < c) ∧ ¬ (c = 0 ∧ 0 < k))) :
    (if k = 9 ∧ 1 < c then z else if c < 128 then (if c = 0 ∧ 0 < k then z else x) else u) = z := by
  by_cases h1 : k = 9 ∧ 1 < c
  · rw [if_pos h1]
  · by_cases h2 : c = 0 ∧ 0 < k
    · rw [if_neg h1, if_pos h128, if_pos h2]
    · exact absurd ⟨h1, h2⟩ hok

end Go.Proofs.Ytibicjcnfdhffaa
