/- Contracts of the reference's put and Read, plain: a bit more; a bit of bytes. -/
import Derived.Test.YtbcgfojdlehnpaaHdRC
import Derived.Test.YtbcgfojdlehnpaaHdH
set_option linter.unusedSimpArgs false
set_option linter.unusedVariables false
namespace Go.Proofs.Ytbcgfojdlehnpaa
open Go.RowKit Go.ChangeShapes Go.WideShapes

/-- A word takes a bit more. -/
theorem word_bit {n v i : Nat} (hi : i < 256) (hn : n < 2 ^ i) (hv : v = 1) :
    Bt.of (n + v * 2 ^ i) = (if i / 64 = 0 then { Bt.of n with a := (Bt.of n).a ||| v * 2 ^ (i % 64) } else if i / 64 = 1 then { Bt.of n with b := (Bt.of n).b ||| v * 2 ^ (i % 64) } else if i / 64 = 2 then { Bt.of n with c := (Bt.of n).c ||| v * 2 ^ (i % 64) } else { Bt.of n with d := (Bt.of n).d ||| v * 2 ^ (i % 64) }) := by
  have hor : ∀ (m j : Nat), m < 2 ^ j → m ||| v * 2 ^ j = m + v * 2 ^ j := by
    intro m j hm
    rw [Nat.or_comm, ← Nat.shiftLeft_eq, ← Nat.shiftLeft_add_eq_or_of_lt hm, Nat.add_comm]
  have hj : i % 64 < 64 := Nat.mod_lt _ (by decide)
  have hs : 2 ^ i = 18446744073709551616 ^ (i / 64) * 2 ^ (i % 64) := by
    rw [← pow64, ← Nat.pow_mul, ← Nat.pow_add]
    congr 1
    omega
  have hq : 2 ^ (i % 64) ≤ 9223372036854775808 := Nat.le_trans (Nat.pow_le_pow_right (by decide) (show i % 64 ≤ 63 by omega)) (by decide)
  rw [hs] at hn ⊢
  obtain hk | hk | hk | hk : i / 64 = 0 ∨ i / 64 = 1 ∨ i / 64 = 2 ∨ i / 64 = 3 := by omega
  · rw [hk, Nat.pow_zero, Nat.one_mul] at hn ⊢
    rw [if_pos rfl, show (Bt.of n).a = n from by show n % _ = n; omega, hor n _ hn]
    generalize 2 ^ (i % 64) = q at *
    have : v * q = q := by rw [hv, Nat.one_mul]
    generalize v * q = r at *
    simp only [Bt.of, Bt.mk.injEq]
    refine ⟨?_, ?_, ?_, ?_⟩ <;> omega
  · rw [hk, Nat.pow_one] at hn ⊢
    rw [if_neg (by decide), if_pos rfl, show (Bt.of n).b = n / 18446744073709551616 from by show n / _ % _ = _; generalize 2 ^ (i % 64) = q at *; omega, hor _ _ (Nat.div_lt_of_lt_mul hn)]
    rw [show v * (18446744073709551616 * 2 ^ (i % 64)) = 18446744073709551616 * (v * 2 ^ (i % 64)) from by rw [Nat.mul_left_comm]]
    generalize 2 ^ (i % 64) = q at *
    have : v * q = q := by rw [hv, Nat.one_mul]
    generalize v * q = r at *
    simp only [Bt.of, Bt.mk.injEq]
    refine ⟨?_, ?_, ?_, ?_⟩ <;> omega
  · rw [hk, show (18446744073709551616 : Nat) ^ 2 = 340282366920938463463374607431768211456 from by decide] at hn ⊢
    rw [if_neg (by decide), if_neg (by decide), if_pos rfl, show (Bt.of n).c = n / 340282366920938463463374607431768211456 from by show n / _ % _ = _; generalize 2 ^ (i % 64) = q at *; omega, hor _ _ (Nat.div_lt_of_lt_mul hn)]
    rw [show v * (340282366920938463463374607431768211456 * 2 ^ (i % 64)) = 340282366920938463463374607431768211456 * (v * 2 ^ (i % 64)) from by rw [Nat.mul_left_comm]]
    generalize 2 ^ (i % 64) = q at *
    have : v * q = q := by rw [hv, Nat.one_mul]
    generalize v * q = r at *
    simp only [Bt.of, Bt.mk.injEq]
    refine ⟨?_, ?_, ?_, ?_⟩ <;> omega
  · rw [hk, show (18446744073709551616 : Nat) ^ 3 = 6277101735386680763835789423207666416102355444464034512896 from by decide] at hn ⊢
    rw [if_neg (by decide), if_neg (by decide), if_neg (by decide), show (Bt.of n).d = n / 6277101735386680763835789423207666416102355444464034512896 from by show n / _ % _ = _; generalize 2 ^ (i % 64) = q at *; omega, hor _ _ (Nat.div_lt_of_lt_mul hn)]
    rw [show v * (6277101735386680763835789423207666416102355444464034512896 * 2 ^ (i % 64)) = 6277101735386680763835789423207666416102355444464034512896 * (v * 2 ^ (i % 64)) from by rw [Nat.mul_left_comm]]
    generalize 2 ^ (i % 64) = q at *
    have : v * q = q := by rw [hv, Nat.one_mul]
    generalize v * q = r at *
    simp only [Bt.of, Bt.mk.injEq]
    refine ⟨?_, ?_, ?_, ?_⟩ <;> omega

/-- A bit more: k its place from 0 on. -/
def putB (x : Bt) (k : Nat) : Bt := if k / 64 = 0 then { x with a := x.a ||| 2 ^ (k % 64) } else if k / 64 = 1 then { x with b := x.b ||| 2 ^ (k % 64) } else if k / 64 = 2 then { x with c := x.c ||| 2 ^ (k % 64) } else { x with d := x.d ||| 2 ^ (k % 64) }
theorem putB_of {n k : Nat} (hk : k < 256) (hn : n < 2 ^ k) : putB (Bt.of n) k = Bt.of (n + 2 ^ k) := by
  have h := word_bit hk hn rfl
  simp only [Nat.one_mul] at h
  exact h.symm
theorem putB_cs (x : Bt) {k : Nat} (hk : k < 256) : x.cs.setIfInBounds (k / 64) (.int .u64 ((x.w (k / 64) ||| 2 ^ (k % 64) : Nat) : Int)) = (putB x k).cs := by
  unfold putB
  have hk4 : k / 64 < 4 := by omega
  generalize k / 64 = q at *
  obtain rfl | rfl | rfl | rfl : q = 0 ∨ q = 1 ∨ q = 2 ∨ q = 3 := by omega
  all_goals rfl
/-- A bit of a byte is one of the bytes' number. -/
theorem bit_of_bytes {l : List UInt8} {i : Nat} (h : i / 8 < l.length) : (l[i / 8].toNat / 2 ^ (i % 8)) % 2 = leVal l / 2 ^ i % 2 := by
  have h1 := leB_get l.length (leVal l) (i / 8) h
  rw [leB_leVal, List.getElem?_eq_getElem h, Option.some.injEq] at h1
  have hb : l[i / 8].toNat = leVal l / 256 ^ (i / 8) % 256 := by rw [h1, toU8_toNat]
  have e1 : (leVal l / 256 ^ (i / 8) % 2 ^ 8).testBit (i % 8) = (leVal l).testBit i := by
    rw [Nat.testBit_mod_two_pow, decide_eq_true (show i % 8 < 8 by omega), Bool.true_and, pow256, Nat.testBit_div_two_pow]
    congr 1
    omega
  rw [Nat.testBit_eq_decide_div_mod_eq, Nat.testBit_eq_decide_div_mod_eq] at e1
  rw [hb]
  have hx : leVal l / 256 ^ (i / 8) % 256 / 2 ^ (i % 8) % 2 < 2 := Nat.mod_lt _ (by decide)
  have hy : leVal l / 2 ^ i % 2 < 2 := Nat.mod_lt _ (by decide)
  have e2 : (leVal l / 256 ^ (i / 8) % 256 / 2 ^ (i % 8) % 2 = 1) ↔ (leVal l / 2 ^ i % 2 = 1) := by
    have := congrArg (fun b : Bool => b = true) e1
    simpa using this
  omega
theorem bit_run8 (x : UInt8) (k : Nat) : (bits BinOp.and IntKind.u8 ((x.toNat : Int) / 2 ^ k) 1 == 1) = (x.toNat / 2 ^ k % 2 == 1) := by
  have hx := x.toNat_lt
  have e : ((x.toNat : Int) / 2 ^ k) = ((x.toNat / 2 ^ k : Nat) : Int) := by simp
  have h1 : bits .and .u8 ((x.toNat / 2 ^ k : Nat) : Int) (1 : Int) = ((x.toNat / 2 ^ k &&& 1 : Nat) : Int) := u8_and_nat _ 1 (Nat.lt_of_le_of_lt (Nat.div_le_self _ _) (by omega)) (by decide)
  rw [e, h1, Nat.and_one_is_mod, Bool.eq_iff_iff]
  simp only [beq_iff_eq]
  omega

set_option maxHeartbeats 3200000 in
theorem rbput_any (x : Bt) (k : Nat) (W : World) (hx : x.ok) (hk : k < 256) : Calls Try.prog 48 #[x.ag, .int .i64 ((k : Int) + 1)] W fun e W' => e = .returned (putB x k).ag ∧ Below W.heap.size W W' := by
  obtain ⟨q, hq⟩ : ∃ q, q = k / 64 := ⟨_, rfl⟩
  obtain ⟨j, hj⟩ : ∃ j, j = k % 64 := ⟨_, rfl⟩
  have hj64 : j < 64 := by omega
  have hq4 : q < 4 := by omega
  have hp : 2 ^ j < 18446744073709551616 := by rw [← pow64]; exact Nat.pow_lt_pow_right (by decide) hj64
  have hor : bits .or .u64 ((x.w q : Nat) : Int) ((2 ^ j : Nat) : Int) = ((x.w q ||| 2 ^ j : Nat) : Int) := u64_or_nat _ _ (Bt.w_lt hx q) hp
  obtain ⟨P, hP⟩ : ∃ P, P = 2 ^ j := ⟨_, rfl⟩
  have hc := putB_cs x hk
  rw [← hq, ← hj, ← hP] at hc
  rw [← hP] at hor hp
  have q1 : (k : Int).tdiv 64 = (q : Int) := by rw [Int.tdiv_eq_ediv_of_nonneg (by omega)]; omega
  have q2 : (k : Int) / 64 = (q : Int) := by omega
  have j1 : (k : Int).tmod 64 = (j : Int) := by rw [Int.tmod_eq_emod_of_nonneg (by omega)]; omega
  have j2 : (k : Int) % 64 = (j : Int) := by omega
  have q3 : k / 64 = q := hq.symm
  have hkw : IntKind.i64.wrap ((k : Int) + 1 - 1) = (k : Int) := by rw [Int.add_sub_cancel]; exact IntWalk.i64_in _ (by omega)
  have hju : IntKind.u64.wrap (j : Int) = (j : Int) := IntWalk.u64_in _ (by omega)
  have hshl : IntKind.u64.wrap ((2 : Int) ^ j) = (P : Int) := by
    rw [show ((2 : Int) ^ j) = ((2 ^ j : Nat) : Int) from by simp, ← hP]
    exact IntWalk.u64_in _ (by omega)
  have hshl1 : IntKind.u64.wrap (1 * (2 : Int) ^ j) = (P : Int) := by rw [Int.one_mul]; exact hshl
  obtain rfl | rfl | rfl | rfl : q = 0 ∨ q = 1 ∨ q = 2 ∨ q = 3 := by omega
  · have HR := Lib.hid (show Value.agg #[.int .u64 (bits .or .u64 (x.a : Int) (P : Int)), .int .u64 x.b, .int .u64 x.c, .int .u64 x.d] = (putB x k).ag by
      have h1 := hc
      have h2 : bits .or .u64 ((x.a : Nat) : Int) (P : Int) = ((x.a ||| P : Nat) : Int) := hor
      rw [h2]
      unfold Bt.ag
      rw [← h1]
      rfl)
    clear hor hc hq hj hP
    go_enter Try.func48, Try.ntmps48
    unfold Bt.ag Bt.cs
    go_wp2_with fail
    refine bodyPost_ret (v := .agg #[.int .u64 (bits .or .u64 (x.a : Int) (P : Int)), .int .u64 x.b, .int .u64 x.c, .int .u64 x.d]) ?_ rfl ⟨by rw [HR.out]; rfl, ?_⟩
    · simp only [results, Try.results48]
      go_simp
    · repeat (with_reducible refine Below.setCell ?_ (by simp only; omega) _)
      exact ((Below.refl _ _).alloc (Nat.le_refl _) _).alloc (by rw [World.size_alloc]; omega) _
  · have HR := Lib.hid (show Value.agg #[.int .u64 x.a, .int .u64 (bits .or .u64 (x.b : Int) (P : Int)), .int .u64 x.c, .int .u64 x.d] = (putB x k).ag by
      have h1 := hc
      have h2 : bits .or .u64 ((x.b : Nat) : Int) (P : Int) = ((x.b ||| P : Nat) : Int) := hor
      rw [h2]
      unfold Bt.ag
      rw [← h1]
      rfl)
    clear hor hc hq hj hP
    go_enter Try.func48, Try.ntmps48
    unfold Bt.ag Bt.cs
    go_wp2_with fail
    refine bodyPost_ret (v := .agg #[.int .u64 x.a, .int .u64 (bits .or .u64 (x.b : Int) (P : Int)), .int .u64 x.c, .int .u64 x.d]) ?_ rfl ⟨by rw [HR.out]; rfl, ?_⟩
    · simp only [results, Try.results48]
      go_simp
    · repeat (with_reducible refine Below.setCell ?_ (by simp only; omega) _)
      exact ((Below.refl _ _).alloc (Nat.le_refl _) _).alloc (by rw [World.size_alloc]; omega) _
  · have HR := Lib.hid (show Value.agg #[.int .u64 x.a, .int .u64 x.b, .int .u64 (bits .or .u64 (x.c : Int) (P : Int)), .int .u64 x.d] = (putB x k).ag by
      have h1 := hc
      have h2 : bits .or .u64 ((x.c : Nat) : Int) (P : Int) = ((x.c ||| P : Nat) : Int) := hor
      rw [h2]
      unfold Bt.ag
      rw [← h1]
      rfl)
    clear hor hc hq hj hP
    go_enter Try.func48, Try.ntmps48
    unfold Bt.ag Bt.cs
    go_wp2_with fail
    refine bodyPost_ret (v := .agg #[.int .u64 x.a, .int .u64 x.b, .int .u64 (bits .or .u64 (x.c : Int) (P : Int)), .int .u64 x.d]) ?_ rfl ⟨by rw [HR.out]; rfl, ?_⟩
    · simp only [results, Try.results48]
      go_simp
    · repeat (with_reducible refine Below.setCell ?_ (by simp only; omega) _)
      exact ((Below.refl _ _).alloc (Nat.le_refl _) _).alloc (by rw [World.size_alloc]; omega) _
  · have HR := Lib.hid (show Value.agg #[.int .u64 x.a, .int .u64 x.b, .int .u64 x.c, .int .u64 (bits .or .u64 (x.d : Int) (P : Int))] = (putB x k).ag by
      have h1 := hc
      have h2 : bits .or .u64 ((x.d : Nat) : Int) (P : Int) = ((x.d ||| P : Nat) : Int) := hor
      rw [h2]
      unfold Bt.ag
      rw [← h1]
      rfl)
    clear hor hc hq hj hP
    go_enter Try.func48, Try.ntmps48
    unfold Bt.ag Bt.cs
    go_wp2_with fail
    refine bodyPost_ret (v := .agg #[.int .u64 x.a, .int .u64 x.b, .int .u64 x.c, .int .u64 (bits .or .u64 (x.d : Int) (P : Int))]) ?_ rfl ⟨by rw [HR.out]; rfl, ?_⟩
    · simp only [results, Try.results48]
      go_simp
    · repeat (with_reducible refine Below.setCell ?_ (by simp only; omega) _)
      exact ((Below.refl _ _).alloc (Nat.le_refl _) _).alloc (by rw [World.size_alloc]; omega) _

end Go.Proofs.Ytbcgfojdlehnpaa
