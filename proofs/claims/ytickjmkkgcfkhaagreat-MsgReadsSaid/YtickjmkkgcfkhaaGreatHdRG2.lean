import Derived.Test.YtickjmkkgcfkhaaGreatHdRG1
import Derived.Test.YtickjmkkgcfkhaaGreatHdH
import Derived.Test.YtickjmkkgcfkhaaGreatHdJ
import Derived.Test.YtickjmkkgcfkhaaGreatRegG
import Derived.Test.YtickjmkkgcfkhaaGreatHdK
/- Contracts of the reference's put and Read, plain: a bit more; a bit of bytes. -/
set_option linter.unusedSimpArgs false
set_option linter.unusedVariables false
set_option maxRecDepth 100000
namespace Go.Proofs.YtickjmkkgcfkhaaGreat
open Go.RowKit Go.ChangeShapes Go.WideShapes

/-- A word takes a bit more. -/
theorem word_bit {n v i : Nat} (hi : i < 256) (hn : n < 2 ^ i) (hv : v = 1) :
    Bt.of (n + v * 2 ^ i) = (if i / 64 = 0 then { Bt.of n with a := (Bt.of n).a ||| v * 2 ^ (i % 64) } else if i / 64 = 1 then { Bt.of n with b := (Bt.of n).b ||| v * 2 ^ (i % 64) } else if i / 64 = 2 then { Bt.of n with c := (Bt.of n).c ||| v * 2 ^ (i % 64) } else { Bt.of n with d := (Bt.of n).d ||| v * 2 ^ (i % 64) }) := by
  have hor : ∀ (m j : Nat), m < 2 ^ j → m ||| v * 2 ^ j = m + v * 2 ^ j := by
    intro m j hm
    rw [Nat.or_comm, ← Nat.shiftLeft_eq, ← Nat.shiftLeft_add_eq_or_of_lt hm, Nat.add_comm]
  have hj : i % 64 < 64 := Nat.mod_lt _ (by decide)
  have hs : 2 ^ i = 18446744073709551616 ^ (i / 64) * 2 ^ (i % 64) := by
    rw [← pow64, ← Nat.pow_mul, ← Nat.pow_add]
    congr 1
    omega
  have hq : 2 ^ (i % 64) ≤ 9223372036854775808 := Nat.le_trans (Nat.pow_le_pow_right (by decide) (show i % 64 ≤ 63 by omega)) (by decide)
  rw [hs] at hn ⊢
  obtain hk | hk | hk | hk : i / 64 = 0 ∨ i / 64 = 1 ∨ i / 64 = 2 ∨ i / 64 = 3 := by omega
  · rw [hk, Nat.pow_zero, Nat.one_mul] at hn ⊢
    rw [if_pos rfl, show (Bt.of n).a = n from by show n % _ = n; omega, hor n _ hn]
    generalize 2 ^ (i % 64) = q at *
    have : v * q = q := by rw [hv, Nat.one_mul]
    generalize v * q = r at *
    simp only [Bt.of, Bt.mk.injEq]
    refine ⟨?_, ?_, ?_, ?_⟩ <;> omega
  · rw [hk, Nat.pow_one] at hn ⊢
    rw [if_neg (by decide), if_pos rfl, show (Bt.of n).b = n / 18446744073709551616 from by show n / _ % _ = _; generalize 2 ^ (i % 64) = q at *; omega, hor _ _ (Nat.div_lt_of_lt_mul hn)]
    rw [show v * (18446744073709551616 * 2 ^ (i % 64)) = 18446744073709551616 * (v * 2 ^ (i % 64)) from by rw [Nat.mul_left_comm]]
    generalize 2 ^ (i % 64) = q at *
    have : v * q = q := by rw [hv, Nat.one_mul]
    generalize v * q = r at *
    simp only [Bt.of, Bt.mk.injEq]
    refine ⟨?_, ?_, ?_, ?_⟩ <;> omega
  · rw [hk, show (18446744073709551616 : Nat) ^ 2 = 340282366920938463463374607431768211456 from by decide] at hn ⊢
    rw [if_neg (by decide), if_neg (by decide), if_pos rfl, show (Bt.of n).c = n / 340282366920938463463374607431768211456 from by show n / _ % _ = _; generalize 2 ^ (i % 64) = q at *; omega, hor _ _ (Nat.div_lt_of_lt_mul hn)]
    rw [show v * (340282366920938463463374607431768211456 * 2 ^ (i % 64)) = 340282366920938463463374607431768211456 * (v * 2 ^ (i % 64)) from by rw [Nat.mul_left_comm]]
    generalize 2 ^ (i % 64) = q at *
    have : v * q = q := by rw [hv, Nat.one_mul]
    generalize v * q = r at *
    simp only [Bt.of, Bt.mk.injEq]
    refine ⟨?_, ?_, ?_, ?_⟩ <;> omega
  · rw [hk, show (18446744073709551616 : Nat) ^ 3 = 6277101735386680763835789423207666416102355444464034512896 from by decide] at hn ⊢
    rw [if_neg (by decide), if_neg (by decide), if_neg (by decide), show (Bt.of n).d = n / 6277101735386680763835789423207666416102355444464034512896 from by show n / _ % _ = _; generalize 2 ^ (i % 64) = q at *; omega, hor _ _ (Nat.div_lt_of_lt_mul hn)]
    rw [show v * (6277101735386680763835789423207666416102355444464034512896 * 2 ^ (i % 64)) = 6277101735386680763835789423207666416102355444464034512896 * (v * 2 ^ (i % 64)) from by rw [Nat.mul_left_comm]]
    generalize 2 ^ (i % 64) = q at *
    have : v * q = q := by rw [hv, Nat.one_mul]
    generalize v * q = r at *
    simp only [Bt.of, Bt.mk.injEq]
    refine ⟨?_, ?_, ?_, ?_⟩ <;> omega

/-- A bit more: k its place from 0 on. -/
def putB (x : Bt) (k : Nat) : Bt := if k / 64 = 0 then { x with a := x.a ||| 2 ^ (k % 64) } else if k / 64 = 1 then { x with b := x.b ||| 2 ^ (k % 64) } else if k / 64 = 2 then { x with c := x.c ||| 2 ^ (k % 64) } else { x with d := x.d ||| 2 ^ (k % 64) }
theorem putB_of {n k : Nat} (hk : k < 256) (hn : n < 2 ^ k) : putB (Bt.of n) k = Bt.of (n + 2 ^ k) := by
  have h := word_bit hk hn rfl
  simp only [Nat.one_mul] at h
  exact h.symm
theorem putB_cs (x : Bt) {k : Nat} (hk : k < 256) : x.cs.setIfInBounds (k / 64) (.int .u64 ((x.w (k / 64) ||| 2 ^ (k % 64) : Nat) : Int)) = (putB x k).cs := by
  unfold putB
  have hk4 : k / 64 < 4 := by omega
  generalize k / 64 = q at *
  obtain rfl | rfl | rfl | rfl : q = 0 ∨ q = 1 ∨ q = 2 ∨ q = 3 := by omega
  all_goals rfl
/-- A bit of a byte is one of the bytes' number. -/
theorem bit_of_bytes {l : List UInt8} {i : Nat} (h : i / 8 < l.length) : (l[i / 8].toNat / 2 ^ (i % 8)) % 2 = leVal l / 2 ^ i % 2 := by
  have h1 := leB_get l.length (leVal l) (i / 8) h
  rw [leB_leVal, List.getElem?_eq_getElem h, Option.some.injEq] at h1
  have hb : l[i / 8].toNat = leVal l / 256 ^ (i / 8) % 256 := by rw [h1, toU8_toNat]
  have e1 : (leVal l / 256 ^ (i / 8) % 2 ^ 8).testBit (i % 8) = (leVal l).testBit i := by
    rw [Nat.testBit_mod_two_pow, decide_eq_true (show i % 8 < 8 by omega), Bool.true_and, pow256, Nat.testBit_div_two_pow]
    congr 1
    omega
  rw [Nat.testBit_eq_decide_div_mod_eq, Nat.testBit_eq_decide_div_mod_eq] at e1
  rw [hb]
  have hx : leVal l / 256 ^ (i / 8) % 256 / 2 ^ (i % 8) % 2 < 2 := Nat.mod_lt _ (by decide)
  have hy : leVal l / 2 ^ i % 2 < 2 := Nat.mod_lt _ (by decide)
  have e2 : (leVal l / 256 ^ (i / 8) % 256 / 2 ^ (i % 8) % 2 = 1) ↔ (leVal l / 2 ^ i % 2 = 1) := by
    have := congrArg (fun b : Bool => b = true) e1
    simpa using this
  omega
theorem bit_run8 (x : UInt8) (k : Nat) : (bits BinOp.and IntKind.u8 ((x.toNat : Int) / 2 ^ k) 1 == 1) = (x.toNat / 2 ^ k % 2 == 1) := by
  have hx := x.toNat_lt
  have e : ((x.toNat : Int) / 2 ^ k) = ((x.toNat / 2 ^ k : Nat) : Int) := by simp
  have h1 : bits .and .u8 ((x.toNat / 2 ^ k : Nat) : Int) (1 : Int) = ((x.toNat / 2 ^ k &&& 1 : Nat) : Int) := u8_and_nat _ 1 (Nat.lt_of_le_of_lt (Nat.div_le_self _ _) (by omega)) (by decide)
  rw [e, h1, Nat.and_one_is_mod, Bool.eq_iff_iff]
  simp only [beq_iff_eq]
  omega

set_option maxHeartbeats 3200000 in
theorem rbput_any (x : Bt) (k : Nat) (W : World) (hx : x.ok) (hk : k < 256) : Calls Tryz.prog 74 #[x.ag, .int .i64 ((k : Int) + 1)] W fun e W' => e = .returned (putB x k).ag ∧ Below W.heap.size W W' := by
  obtain ⟨q, hq⟩ : ∃ q, q = k / 64 := ⟨_, rfl⟩
  obtain ⟨j, hj⟩ : ∃ j, j = k % 64 := ⟨_, rfl⟩
  have hj64 : j < 64 := by omega
  have hq4 : q < 4 := by omega
  have hp : 2 ^ j < 18446744073709551616 := by rw [← pow64]; exact Nat.pow_lt_pow_right (by decide) hj64
  have hor : bits .or .u64 ((x.w q : Nat) : Int) ((2 ^ j : Nat) : Int) = ((x.w q ||| 2 ^ j : Nat) : Int) := u64_or_nat _ _ (Bt.w_lt hx q) hp
  obtain ⟨P, hP⟩ : ∃ P, P = 2 ^ j := ⟨_, rfl⟩
  have hc := putB_cs x hk
  rw [← hq, ← hj, ← hP] at hc
  rw [← hP] at hor hp
  have q1 : (k : Int).tdiv 64 = (q : Int) := by rw [Int.tdiv_eq_ediv_of_nonneg (by omega)]; omega
  have q2 : (k : Int) / 64 = (q : Int) := by omega
  have j1 : (k : Int).tmod 64 = (j : Int) := by rw [Int.tmod_eq_emod_of_nonneg (by omega)]; omega
  have j2 : (k : Int) % 64 = (j : Int) := by omega
  have q3 : k / 64 = q := hq.symm
  have hkw : IntKind.i64.wrap ((k : Int) + 1 - 1) = (k : Int) := by rw [Int.add_sub_cancel]; exact IntWalk.i64_in _ (by omega)
  have hju : IntKind.u64.wrap (j : Int) = (j : Int) := IntWalk.u64_in _ (by omega)
  have hshl : IntKind.u64.wrap ((2 : Int) ^ j) = (P : Int) := by
    rw [show ((2 : Int) ^ j) = ((2 ^ j : Nat) : Int) from by simp, ← hP]
    exact IntWalk.u64_in _ (by omega)
  have hshl1 : IntKind.u64.wrap (1 * (2 : Int) ^ j) = (P : Int) := by rw [Int.one_mul]; exact hshl
  obtain rfl | rfl | rfl | rfl : q = 0 ∨ q = 1 ∨ q = 2 ∨ q = 3 := by omega
  · have HR := Lib.hid (show Value.agg #[.int .u64 (bits .or .u64 (x.a : Int) (P : Int)), .int .u64 x.b, .int .u64 x.c, .int .u64 x.d] = (putB x k).ag by
      have h1 := hc
      have h2 : bits .or .u64 ((x.a : Nat) : Int) (P : Int) = ((x.a ||| P : Nat) : Int) := hor
      rw [h2]
      unfold Bt.ag
      rw [← h1]
      rfl)
    clear hor hc hq hj hP
    go_enter Tryz.func74, Tryz.ntmps74
    unfold Bt.ag Bt.cs
    go_wp2_with fail
    refine bodyPost_ret (v := .agg #[.int .u64 (bits .or .u64 (x.a : Int) (P : Int)), .int .u64 x.b, .int .u64 x.c, .int .u64 x.d]) ?_ rfl ⟨by rw [HR.out]; rfl, ?_⟩
    · simp only [results, Tryz.results74]
      go_simp
    · repeat (with_reducible refine Below.setCell ?_ (by simp only; omega) _)
      exact ((Below.refl _ _).alloc (Nat.le_refl _) _).alloc (by rw [World.size_alloc]; omega) _
  · have HR := Lib.hid (show Value.agg #[.int .u64 x.a, .int .u64 (bits .or .u64 (x.b : Int) (P : Int)), .int .u64 x.c, .int .u64 x.d] = (putB x k).ag by
      have h1 := hc
      have h2 : bits .or .u64 ((x.b : Nat) : Int) (P : Int) = ((x.b ||| P : Nat) : Int) := hor
      rw [h2]
      unfold Bt.ag
      rw [← h1]
      rfl)
    clear hor hc hq hj hP
    go_enter Tryz.func74, Tryz.ntmps74
    unfold Bt.ag Bt.cs
    go_wp2_with fail
    refine bodyPost_ret (v := .agg #[.int .u64 x.a, .int .u64 (bits .or .u64 (x.b : Int) (P : Int)), .int .u64 x.c, .int .u64 x.d]) ?_ rfl ⟨by rw [HR.out]; rfl, ?_⟩
    · simp only [results, Tryz.results74]
      go_simp
    · repeat (with_reducible refine Below.setCell ?_ (by simp only; omega) _)
      exact ((Below.refl _ _).alloc (Nat.le_refl _) _).alloc (by rw [World.size_alloc]; omega) _
  · have HR := Lib.hid (show Value.agg #[.int .u64 x.a, .int .u64 x.b, .int .u64 (bits .or .u64 (x.c : Int) (P : Int)), .int .u64 x.d] = (putB x k).ag by
      have h1 := hc
      have h2 : bits .or .u64 ((x.c : Nat) : Int) (P : Int) = ((x.c ||| P : Nat) : Int) := hor
      rw [h2]
      unfold Bt.ag
      rw [← h1]
      rfl)
    clear hor hc hq hj hP
    go_enter Tryz.func74, Tryz.ntmps74
    unfold Bt.ag Bt.cs
    go_wp2_with fail
    refine bodyPost_ret (v := .agg #[.int .u64 x.a, .int .u64 x.b, .int .u64 (bits .or .u64 (x.c : Int) (P : Int)), .int .u64 x.d]) ?_ rfl ⟨by rw [HR.out]; rfl, ?_⟩
    · simp only [results, Tryz.results74]
      go_simp
    · repeat (with_reducible refine Below.setCell ?_ (by simp only; omega) _)
      exact ((Below.refl _ _).alloc (Nat.le_refl _) _).alloc (by rw [World.size_alloc]; omega) _
  · have HR := Lib.hid (show Value.agg #[.int .u64 x.a, .int .u64 x.b, .int .u64 x.c, .int .u64 (bits .or .u64 (x.d : Int) (P : Int))] = (putB x k).ag by
      have h1 := hc
      have h2 : bits .or .u64 ((x.d : Nat) : Int) (P : Int) = ((x.d ||| P : Nat) : Int) := hor
      rw [h2]
      unfold Bt.ag
      rw [← h1]
      rfl)
    clear hor hc hq hj hP
    go_enter Tryz.func74, Tryz.ntmps74
    unfold Bt.ag Bt.cs
    go_wp2_with fail
    refine bodyPost_ret (v := .agg #[.int .u64 x.a, .int .u64 x.b, .int .u64 x.c, .int .u64 (bits .or .u64 (x.d : Int) (P : Int))]) ?_ rfl ⟨by rw [HR.out]; rfl, ?_⟩
    · simp only [results, Tryz.results74]
      go_simp
    · repeat (with_reducible refine Below.setCell ?_ (by simp only; omega) _)
      exact ((Below.refl _ _).alloc (Nat.le_refl _) _).alloc (by rw [World.size_alloc]; omega) _

end Go.Proofs.YtickjmkkgcfkhaaGreat

/- Contracts of the reference's Read and number. -/
set_option linter.unusedSimpArgs false
set_option linter.unusedVariables false
set_option maxRecDepth 100000
namespace Go.Proofs.YtickjmkkgcfkhaaGreat
open Go.RowKit Go.ChangeShapes Go.WideShapes

def RReRel (W : World) (l : List UInt8) (i : Value) (wr : World) : Prop :=
  ∃ k : Nat, i = .int .i64 k ∧ k ≤ 8 * l.length ∧ BoxBt (W.heap.size + 1) (Bt.of (leVal l % 2 ^ k)) wr ∧ BoxBt W.heap.size Bt.zero wr ∧ Below W.heap.size W wr
set_option maxRecDepth 100000 in
set_option maxHeartbeats 3200000 in
theorem rbread_any (s : ByteArray) (W : World) (h0 : 0 < s.size) (h32 : s.size ≤ 32) :
    Calls Tryz.prog 32 #[.string s] W fun e W' => e = .returned (.tuple #[(Bt.of (leVal s.data.toList)).ag, .int .i64 0]) ∧ Below W.heap.size W W' := by
  obtain ⟨W1, hW1⟩ : ∃ W1, W1 = (W.alloc (.cells #[.int .u64 0, .int .u64 0, .int .u64 0, .int .u64 0] 30)).alloc (.cells #[.int .u64 0, .int .u64 0, .int .u64 0, .int .u64 0] 30) := ⟨_, rfl⟩
  have hb1 : Below W.heap.size W W1 := by rw [hW1]; exact ((Below.refl _ _).alloc (Nat.le_refl _) _).alloc (by rw [World.size_alloc]; omega) _
  have hlen : s.data.toList.length = s.size := size_eq s
  have H0 := Lib.hid (show RReRel W s.data.toList (.int .i64 0) W1 from ⟨0, rfl, Nat.zero_le _, by rw [Nat.pow_zero, Nat.mod_one, show Bt.of 0 = Bt.zero from by decide +kernel, hW1]; exact heap_alloc2_new _ _ _, by rw [hW1]; exact heap_alloc2_old _ _ _, hb1⟩)
  have HW1 := Lib.hid hW1
  have HLEN := Lib.hid hlen
  have hd1 : decide ((s.size : Int) < 1) = false := decide_eq_false (by omega)
  have hd : decide (32 < (s.size : Int)) = false := decide_eq_false (by omega)
  have hm8 : IntKind.i64.wrap (8 * (s.size : Int)) = 8 * (s.size : Int) := IntWalk.i64_in _ (by omega)
  clear hW1 hb1 hlen
  go_enter Tryz.func32, Tryz.ntmps32
  go_wp2_with fail
  rw [← HW1.out]
  go_loopw [5] (fun i wr => RReRel W s.data.toList i wr) (fun i _ => 300 - (intOf i).toNat)
  case atStart => exact H0.out
  case round =>
    obtain ⟨k, rfl, hk, hbx, hbz, hbel⟩ := hrel
    rw [HLEN.out] at hk
    by_cases hlt : k < 8 * s.size
    · have hd2 : decide ((k : Int) < 8 * (s.size : Int)) = true := decide_eq_true (by omega)
      obtain ⟨q, hq⟩ : ∃ q, q = k / 8 := ⟨_, rfl⟩
      obtain ⟨j, hj⟩ : ∃ j, j = k % 8 := ⟨_, rfl⟩
      have q1 : (k : Int).tdiv 8 = (q : Int) := by rw [Int.tdiv_eq_ediv_of_nonneg (by omega)]; omega
      have q2 : (k : Int) / 8 = (q : Int) := by omega
      have j1 : (k : Int).tmod 8 = (j : Int) := by rw [Int.tmod_eq_emod_of_nonneg (by omega)]; omega
      have j2 : (k : Int) % 8 = (j : Int) := by omega
      have hqs : q < s.size := by omega
      have hqsi : (q : Int) < (s.size : Int) := by omega
      have hql : q < s.data.toList.length := by rw [HLEN.out]; exact hqs
      have hse : s.data.toList[q] = s[q] := rfl
      have hbit : s[q].toNat / 2 ^ j % 2 = leVal s.data.toList / 2 ^ k % 2 := by
        have := bit_of_bytes (l := s.data.toList) (i := k) (by rw [← hq]; exact hql)
        simp only [← hq, ← hj] at this
        rw [hse] at this
        exact this
      have hrun := bit_run8 s[q] j
      have hju : IntKind.u64.wrap (j : Int) = (j : Int) := IntWalk.u64_in _ (by omega)
      have hkw : IntKind.i64.wrap ((k : Int) + 1) = (k : Int) + 1 := IntWalk.i64_in _ (by omega)
      have hstep : leVal s.data.toList % 2 ^ (k + 1) = leVal s.data.toList % 2 ^ k + 2 ^ k * (leVal s.data.toList / 2 ^ k % 2) := by rw [Nat.pow_succ, Nat.mod_mul]
      by_cases hb : leVal s.data.toList / 2 ^ k % 2 = 1
      · have ht : (bits BinOp.and IntKind.u8 ((s[q].toNat : Int) / 2 ^ j) 1 == 1) = true := by rw [hrun, hbit, hb]; rfl
        obtain ⟨x, hx⟩ : ∃ x, x = Bt.of (leVal s.data.toList % 2 ^ k) := ⟨_, rfl⟩
        have hxo : x.ok := hx ▸ Bt.of_ok _
        rw [← hx] at hbx
        have hpx : putB x k = Bt.of (leVal s.data.toList % 2 ^ (k + 1)) := by
          rw [hx, putB_of (by omega) (Nat.mod_lt _ (Nat.pow_pos (by decide))), hstep, hb, Nat.mul_one]
        have hput := rbput_any x k wr hxo (by omega)
        rw [hpx] at hput
        obtain ⟨y, hy⟩ : ∃ y, y = Bt.of (leVal s.data.toList % 2 ^ (k + 1)) := ⟨_, rfl⟩
        rw [← hy] at hput
        unfold Bt.ag Bt.cs at hput
        have HPUT := Lib.hid hput
        have HY := Lib.hid hy
        have HBX := Lib.hid hbx
        have HBZ := Lib.hid hbz
        have HBE := Lib.hid hbel
        obtain ⟨x0, x1, x2, x3⟩ := hbx.cells
        clear hbx hbz hbel hput hy hpx hx hxo hstep hb hbit hrun hq hj
        go_wp2_with fail
        refine HPUT.out.mono ?_
        rintro e V ⟨rfl, hb⟩
        have hbx2 := HBX.out.later hb
        have hbz2 := HBZ.out.later hb
        have hbe2 := HBE.out.trans (hb.mono HBE.out.size)
        clear hb x0 x1 x2 x3
        obtain ⟨x0, x1, x2, x3⟩ := hbx2.cells
        have k0 : V.frozen? ⟨W.heap.size + 1, 0, none⟩ = false := frozen_of_row _ _ _ _ _ hbx2
        have k1 : V.frozen? ⟨W.heap.size + 1, 1, none⟩ = false := frozen_of_row _ _ _ _ _ hbx2
        have k2 : V.frozen? ⟨W.heap.size + 1, 2, none⟩ = false := frozen_of_row _ _ _ _ _ hbx2
        have k3 : V.frozen? ⟨W.heap.size + 1, 3, none⟩ = false := frozen_of_row _ _ _ _ _ hbx2
        obtain ⟨U, hU⟩ : ∃ U, U = (((V.setCell ⟨W.heap.size + 1, 0, none⟩ (.int .u64 (y.a : Int))).setCell ⟨W.heap.size + 1, 1, none⟩ (.int .u64 (y.b : Int))).setCell ⟨W.heap.size + 1, 2, none⟩ (.int .u64 (y.c : Int))).setCell ⟨W.heap.size + 1, 3, none⟩ (.int .u64 (y.d : Int)) := ⟨_, rfl⟩
        have HREL := Lib.hid (show RReRel W s.data.toList (.int .i64 ((k : Int) + 1)) U from ⟨k + 1, by simp, by rw [HLEN.out]; omega, by
          rw [← HY.out, hU]
          exact heap_setCell_same _ (W.heap.size + 1) 3 _ _ _ (heap_setCell_same _ (W.heap.size + 1) 2 _ _ _ (heap_setCell_same _ (W.heap.size + 1) 1 _ _ _ (heap_setCell_same _ (W.heap.size + 1) 0 _ _ _ hbx2))), by
          rw [hU]
          repeat (refine (heap_setCell_other _ _ _ _ (by simp only; omega)).trans ?_)
          exact hbz2, by
          rw [hU]
          repeat (with_reducible refine Below.setCell ?_ (by simp only; omega) _)
          exact hbe2⟩)
        have HU := Lib.hid hU
        clear hU hbx2 hbz2 hbe2
        go_wp2_with fail
        case roundEnd =>
          rw [← HU.out]
          refine ⟨HREL.out, ?_⟩
          clear HREL HU
          simp only [intOf]
          omega
      · have hb0 : leVal s.data.toList / 2 ^ k % 2 = 0 := by
          have := Nat.mod_lt (leVal s.data.toList / 2 ^ k) (show 0 < 2 by decide)
          omega
        have ht : (bits BinOp.and IntKind.u8 ((s[q].toNat : Int) / 2 ^ j) 1 == 1) = false := by rw [hrun, hbit, hb0]; rfl
        rw [hb0, Nat.mul_zero, Nat.add_zero] at hstep
        have HREL := Lib.hid (show RReRel W s.data.toList (.int .i64 ((k : Int) + 1)) wr from ⟨k + 1, by simp, by rw [HLEN.out]; omega, by rw [hstep]; exact hbx, hbz, hbel⟩)
        clear hbx hbz hbel hstep hb hbit hrun hq hj hb0
        go_wp2_with fail
        case roundEnd =>
          refine ⟨HREL.out, ?_⟩
          clear HREL
          simp only [intOf]
          omega
    · obtain rfl : k = 8 * s.size := by omega
      have hd2 : decide (((8 * s.size : Nat) : Int) < 8 * (s.size : Int)) = false := decide_eq_false (by omega)
      have hd3 : decide ((8 * (s.size : Int)) < 8 * (s.size : Int)) = false := decide_eq_false (by omega)
      rw [Nat.mod_eq_of_lt (show leVal s.data.toList < 2 ^ (8 * s.size) by rw [← pow256, ← HLEN.out]; exact leVal_lt _)] at hbx
      obtain ⟨x, hx⟩ : ∃ x, x = Bt.of (leVal s.data.toList) := ⟨_, rfl⟩
      rw [← hx] at hbx
      have HX := Lib.hid hx
      obtain ⟨x0, x1, x2, x3⟩ := hbx.cells
      obtain ⟨z0, z1, z2, z3⟩ := hbz.cells
      have k0 : wr.frozen? ⟨W.heap.size, 0, none⟩ = false := frozen_of_row _ _ _ _ _ hbz
      have k1 : wr.frozen? ⟨W.heap.size, 1, none⟩ = false := frozen_of_row _ _ _ _ _ hbz
      have k2 : wr.frozen? ⟨W.heap.size, 2, none⟩ = false := frozen_of_row _ _ _ _ _ hbz
      have k3 : wr.frozen? ⟨W.heap.size, 3, none⟩ = false := frozen_of_row _ _ _ _ _ hbz
      have HB := Lib.hid hbel
      clear hbel hbx hbz hx
      go_wp2_with fail
      refine bodyPost_ret (v := .tuple #[.agg #[.int .u64 x.a, .int .u64 x.b, .int .u64 x.c, .int .u64 x.d], .int .i64 0]) ?_ rfl ⟨by rw [← HX.out]; rfl, ?_⟩
      · simp only [results, Tryz.results32]
        go_simp
      · repeat (with_reducible refine Below.setCell ?_ (by simp only; omega) _)
        exact HB.out

theorem seg_one {s : ByteArray} {a : Nat} (h : a < s.size) : seg s.data.toList a 1 = s[a].toNat := by
  have hl : a < s.data.toList.length := by rw [size_eq]; exact h
  unfold seg
  rw [List.drop_eq_getElem_cons hl]
  show beVal [s.data.toList[a]] = s[a].toNat
  simp [beVal]
  rfl
theorem or_join {a b k : Nat} (ha : a % 2 ^ k = 0) (hb : b < 2 ^ k) : a ||| b = a + b := by
  obtain ⟨c, rfl⟩ : ∃ c, a = c * 2 ^ k := ⟨a / 2 ^ k, by have := Nat.div_add_mod a (2 ^ k); rw [ha] at this; rw [Nat.mul_comm]; omega⟩
  rw [← Nat.shiftLeft_eq, Nat.shiftLeft_add_eq_or_of_lt hb]
theorem num4_val (x0 x1 x2 x3 : UInt8) : x0.toNat * 16777216 + x1.toNat * 65536 + x2.toNat * 256 + x3.toNat = beVal [x0, x1, x2, x3] := by
  show _ = ((((0 * 256 + x0.toNat) * 256 + x1.toNat) * 256 + x2.toNat) * 256 + x3.toNat)
  omega
theorem list4 {l : List UInt8} (h : l.length = 4) (h0 : 0 < l.length) (h1 : 1 < l.length) (h2 : 2 < l.length) (h3 : 3 < l.length) : l = [l[0], l[1], l[2], l[3]] := by
  match l, h with
  | [a, b, c, d], _ => rfl
theorem num4_go (x0 x1 x2 x3 : UInt8) : bits .or .u32 (bits .or .u32 (bits .or .u32 (IntKind.u32.wrap (IntKind.u32.wrap (x0.toNat : Int) * 16777216)) (IntKind.u32.wrap (IntKind.u32.wrap (x1.toNat : Int) * 65536))) (IntKind.u32.wrap (IntKind.u32.wrap (x2.toNat : Int) * 256))) (IntKind.u32.wrap (x3.toNat : Int)) = ((beVal [x0, x1, x2, x3] : Nat) : Int) := by
  have h0 := x0.toNat_lt; have h1 := x1.toNat_lt; have h2 := x2.toNat_lt; have h3 := x3.toNat_lt
  rw [IntWalk.u32_in (x0.toNat : Int) (by omega), IntWalk.u32_in (x1.toNat : Int) (by omega), IntWalk.u32_in (x2.toNat : Int) (by omega), IntWalk.u32_in (x3.toNat : Int) (by omega), IntWalk.u32_in _ (by omega), IntWalk.u32_in _ (by omega), IntWalk.u32_in _ (by omega),
    show ((x0.toNat : Int) * 16777216) = ((x0.toNat * 16777216 : Nat) : Int) from by simp, show ((x1.toNat : Int) * 65536) = ((x1.toNat * 65536 : Nat) : Int) from by simp, show ((x2.toNat : Int) * 256) = ((x2.toNat * 256 : Nat) : Int) from by simp,
    u32_or_nat _ _ (by omega) (by omega), or_join (k := 24) (by omega) (by omega), u32_or_nat _ _ (by omega) (by omega), or_join (k := 16) (by omega) (by omega), u32_or_nat _ _ (by omega) (by omega), or_join (k := 8) (by omega) (by omega)]
  exact congrArg Nat.cast (num4_val x0 x1 x2 x3)
theorem number_any (s : ByteArray) (W : World) (hs : s.size = 4) : Calls Tryz.prog 31 #[.string s] W fun e W' => e = .returned (.int .u32 (beVal s.data.toList)) ∧ Below W.heap.size W W' := by
  have h0 : 0 < s.size := by omega
  have h1 : 1 < s.size := by omega
  have h2 : 2 < s.size := by omega
  have h3 : 3 < s.size := by omega
  have i0 : (0 : Int) < (s.size : Int) := by omega
  have i1 : (1 : Int) < (s.size : Int) := by omega
  have i2 : (2 : Int) < (s.size : Int) := by omega
  have i3 : (3 : Int) < (s.size : Int) := by omega
  have HG := Lib.hid (num4_go s[0] s[1] s[2] s[3])
  have HL := Lib.hid (show s.data.toList = [s[0], s[1], s[2], s[3]] by
    have hl : s.data.toList.length = 4 := by rw [size_eq]; exact hs
    exact list4 hl (by omega) (by omega) (by omega) (by omega))
  clear hs
  go_enter Tryz.func31, Tryz.ntmps31
  go_wp2_with fail
  refine wp_region_ord [(0, true), (1, true), (2, true), (3, true), (4, true), (5, true), (6, true), (7, true), (8, true), (9, true), (10, true), (11, true), (12, true), (13, true), (14, true), (15, true), (16, true), (17, true), (18, true)] (fun _ => True) (by kernel_rfl) (by kernel_rfl) (by decide) (by kernel_rfl) (fun d _ _ _ _ h => by cases d <;> exact h) trivial ?_
  iterate 19 ((apply wpOrd_take rfl rfl (by kernel_rfl); (intro V hV; go_simp; rfl)); (try simp only [List.setIfInBounds_toArray, List.set_cons_succ, List.set_cons_zero]))
  refine wpOrd_nil ?_
  go_wp2_with fail
  go_returns
  refine ⟨?_, (Below.refl _ _).drew⟩
  rw [HL.out, ← HG.out]
  rfl

end Go.Proofs.YtickjmkkgcfkhaaGreat

/- Contract of the reference's Decode: the header of bytes. -/
set_option linter.unusedSimpArgs false
set_option linter.unusedVariables false
set_option maxRecDepth 100000
namespace Go.Proofs.YtickjmkkgcfkhaaGreat
open Go.RowKit Go.ChangeShapes Go.WideShapes

set_option maxRecDepth 100000 in
set_option maxHeartbeats 3200000 in
/-- No header by its first byte. -/
theorem rhdecode_first (s : ByteArray) (W : World) (hb : s.size = 0 ∨ (0 < s.size ∧ (seg s.data.toList 0 1 < 16 ∨ 21 < seg s.data.toList 0 1))) :
    Calls Tryz.prog 16 #[.string s] W fun e W' => e = .returned (.tuple #[Hd.zero.ag, .int .i64 4]) ∧ Below W.heap.size W W' := by
  obtain ⟨W1, hW1⟩ : ∃ W1, W1 = W.alloc (.cells #[.int .i64 0, .int .i64 0, .int .u32 0, .int .i64 0, .int .i64 0, .int .i64 0, .int .u32 0, .int .u64 0, .int .u64 0, .int .u64 0, .int .u64 0] 32) := ⟨_, rfl⟩
  have hb1 : Below W.heap.size W W1 := by rw [hW1]; exact (Below.refl _ _).alloc (Nat.le_refl _) _
  have hbx : ZH W.heap.size W1 := by rw [hW1]; exact heap_alloc_new _ _
  obtain ⟨x0, x1, x2, x3, x4, x5, x6, x7, x8, x9, x10⟩ := hbx.cells
  obtain ⟨f0, f1, f2, f3, f4, f5, f6, f7, f8, f9, f10⟩ := BoxH.frozen hbx
  rw [hW1] at x0 x1 x2 x3 x4 x5 x6 x7 x8 x9 x10 f0 f1 f2 f3 f4 f5 f6 f7 f8 f9 f10
  have HW1 := Lib.hid hW1
  have HB1 := Lib.hid hb1
  clear hW1 hb1 hbx
  have em : ∀ t : ByteArray, t.toList.isEmpty = decide (t.size = 0) := fun t => by
    rw [ByteArray.toList_eq, ← size_eq]
    cases t.data.toList <;> simp
  rcases hb with h0 | ⟨h0, h1⟩
  · have hem : ((s.size : Int) == 0) = true := by rw [h0]; rfl
    clear em h0
    go_enter Tryz.func16, Tryz.ntmps16
    go_wp2_with fail
    refine bodyPost_ret (v := .tuple #[.agg #[.int .i64 0, .int .i64 0, .int .u32 0, .int .i64 0, .int .i64 0, .int .i64 0, .int .u32 0, .int .u64 0, .int .u64 0, .int .u64 0, .int .u64 0], .int .i64 4]) ?_ rfl ⟨rfl, ?_⟩
    · simp only [results, Tryz.results16]
      go_simp
    · rw [← HW1.out]
      repeat (with_reducible refine Below.setCell ?_ (by simp only; omega) _)
      exact HB1.out
  · rw [seg_head h0] at h1
    have hem : ((s.size : Int) == 0) = false := by rw [beq_eq_false_iff_ne]; omega
    have h0i : (0 : Int) < (s.size : Int) := by omega
    clear em
    rcases h1 with h1 | h1
    · have hd : decide ((s[0].toNat : Int) < 16) = true := decide_eq_true (by omega)
      go_enter Tryz.func16, Tryz.ntmps16
      go_wp2_with fail
      refine bodyPost_ret (v := .tuple #[.agg #[.int .i64 0, .int .i64 0, .int .u32 0, .int .i64 0, .int .i64 0, .int .i64 0, .int .u32 0, .int .u64 0, .int .u64 0, .int .u64 0, .int .u64 0], .int .i64 4]) ?_ rfl ⟨rfl, ?_⟩
      · simp only [results, Tryz.results16]
        go_simp
      · rw [← HW1.out]
        repeat (with_reducible refine Below.setCell ?_ (by simp only; omega) _)
        exact HB1.out
    · have hd : decide ((s[0].toNat : Int) < 16) = false := decide_eq_false (by omega)
      have hd2 : decide (21 < (s[0].toNat : Int)) = true := decide_eq_true (by omega)
      go_enter Tryz.func16, Tryz.ntmps16
      go_wp2_with fail
      refine bodyPost_ret (v := .tuple #[.agg #[.int .i64 0, .int .i64 0, .int .u32 0, .int .i64 0, .int .i64 0, .int .i64 0, .int .u32 0, .int .u64 0, .int .u64 0, .int .u64 0, .int .u64 0], .int .i64 4]) ?_ rfl ⟨rfl, ?_⟩
      · simp only [results, Tryz.results16]
        go_simp
      · rw [← HW1.out]
        repeat (with_reducible refine Below.setCell ?_ (by simp only; omega) _)
        exact HB1.out

structure DrZ (W : World) (V : World) : Prop where
  z : BoxV W.heap.size 0 0 0 0 0 0 0 0 0 0 0 V
  bel : Below W.heap.size W V
theorem DrZ.later {W V X : World} (x : DrZ W V) (hb : Below V.heap.size V X) : DrZ W X := ⟨x.z.later hb, x.bel.trans (hb.mono x.bel.size)⟩
structure DrS (W : World) (g : Nat) (w st en hp sr gp id a0 a1 a2 a3 : Int) (V : World) : Prop where
  z : BoxV W.heap.size 0 0 0 0 0 0 0 0 0 0 0 V
  h : BoxV g w st en hp sr gp id a0 a1 a2 a3 V
  bel : Below W.heap.size W V
  hi : W.heap.size < g
theorem DrS.later {W V X : World} {g : Nat} {w st en hp sr gp id a0 a1 a2 a3 : Int} (x : DrS W g w st en hp sr gp id a0 a1 a2 a3 V) (hb : Below V.heap.size V X) : DrS W g w st en hp sr gp id a0 a1 a2 a3 X :=
  ⟨x.z.later hb, x.h.later hb, x.bel.trans (hb.mono x.bel.size), x.hi⟩
theorem DrS.set7 {W V : World} {g : Nat} {w st en hp sr gp id a0 a1 a2 a3 : Int} (q : DrS W g w st en hp sr gp id a0 a1 a2 a3 V) (x : Int) : DrS W g w st en hp sr gp id x a1 a2 a3 (V.setCell ⟨g, 7, none⟩ (.int .u64 x)) := ⟨q.z.other _ _ _ (by have := q.hi; omega), q.h.set7 x, q.bel.setCell (by have := q.hi; simp only; omega) _, q.hi⟩
theorem DrS.set8 {W V : World} {g : Nat} {w st en hp sr gp id a0 a1 a2 a3 : Int} (q : DrS W g w st en hp sr gp id a0 a1 a2 a3 V) (x : Int) : DrS W g w st en hp sr gp id a0 x a2 a3 (V.setCell ⟨g, 8, none⟩ (.int .u64 x)) := ⟨q.z.other _ _ _ (by have := q.hi; omega), q.h.set8 x, q.bel.setCell (by have := q.hi; simp only; omega) _, q.hi⟩
theorem DrS.set9 {W V : World} {g : Nat} {w st en hp sr gp id a0 a1 a2 a3 : Int} (q : DrS W g w st en hp sr gp id a0 a1 a2 a3 V) (x : Int) : DrS W g w st en hp sr gp id a0 a1 x a3 (V.setCell ⟨g, 9, none⟩ (.int .u64 x)) := ⟨q.z.other _ _ _ (by have := q.hi; omega), q.h.set9 x, q.bel.setCell (by have := q.hi; simp only; omega) _, q.hi⟩
theorem DrS.set10 {W V : World} {g : Nat} {w st en hp sr gp id a0 a1 a2 a3 : Int} (q : DrS W g w st en hp sr gp id a0 a1 a2 a3 V) (x : Int) : DrS W g w st en hp sr gp id a0 a1 a2 x (V.setCell ⟨g, 10, none⟩ (.int .u64 x)) := ⟨q.z.other _ _ _ (by have := q.hi; omega), q.h.set10 x, q.bel.setCell (by have := q.hi; simp only; omega) _, q.hi⟩

set_option maxRecDepth 100000 in
set_option maxHeartbeats 25600000 in
theorem rhdecode_form (s : ByteArray) (c : Nat) (W : World) (h0 : 0 < s.size) (hc : seg s.data.toList 0 1 = 16 + c) (hc5 : c ≤ 5) (hs : s.size ≤ 140737488355000) :
    Calls Tryz.prog 16 #[.string s] W fun e W' => e = .returned (.tuple #[(decH s).ag, .int .i64 (decHE s)]) ∧ Below W.heap.size W W' := by
  obtain ⟨W1, hW1⟩ : ∃ W1, W1 = W.alloc (.cells #[.int .i64 0, .int .i64 0, .int .u32 0, .int .i64 0, .int .i64 0, .int .i64 0, .int .u32 0, .int .u64 0, .int .u64 0, .int .u64 0, .int .u64 0] 32) := ⟨_, rfl⟩
  obtain ⟨w, hw⟩ : ∃ w, w = 8 * 2 ^ c := ⟨_, rfl⟩
  have hp1 : 1 ≤ 2 ^ c := Nat.pow_pos (by decide)
  have hp2 : 2 ^ c ≤ 32 := Nat.le_trans (Nat.pow_le_pow_right (by decide) hc5) (by decide)
  have hb1 : Below W.heap.size W W1 := by rw [hW1]; exact (Below.refl _ _).alloc (Nat.le_refl _) _
  have hbz : BoxV W.heap.size 0 0 0 0 0 0 0 0 0 0 0 W1 := by rw [hW1]; exact heap_alloc_new _ _
  have HZ2 := Lib.hid (show DrZ W W1 from ⟨hbz, hb1⟩)
  have hwd : wide ((w : Nat) : Int) = true := by rw [hw]; exact (wide_code hc5).1
  have HSZ := Lib.hid (fun V => hrsize_any (w : Int) V)
  obtain ⟨n, hn⟩ : ∃ n, n = 15 + 2 ^ c := ⟨_, rfl⟩
  have hsv : sizeV (w : Int) = (n : Int) := by rw [sizeV, if_pos hwd, hw, hn]; omega
  have hem : ((s.size : Int) == 0) = false := by rw [beq_eq_false_iff_ne]; omega
  have HC := Lib.hid hc
  rw [seg_head h0] at hc
  have h0i : (0 : Int) < (s.size : Int) := by omega
  have d1 : decide ((16 : Int) + (c : Int) < 16) = false := decide_eq_false (by omega)
  have d2 : decide ((21 : Int) < 16 + (c : Int)) = false := decide_eq_false (by omega)
  have d3 : IntKind.i64.wrap (8 * 2 ^ c) = (w : Int) := by rw [show (8 * 2 ^ c : Int) = ((8 * 2 ^ c : Nat) : Int) from by simp, ← hw]; exact IntWalk.i64_in _ (by omega)
  have d4 : wrap64 (8 * 2 ^ c) = (w : Int) := by unfold wrap64; rw [show (8 * 2 ^ c : Int) = ((8 * 2 ^ c : Nat) : Int) from by simp, ← hw]; omega
  have HFM := Lib.hid (show formH s.data.toList = decide (s.size = n) by
    unfold formH
    rw [HC.out, size_eq, show 16 + c - 16 = c from by omega, ← hn, decide_eq_true (show 16 ≤ 16 + c by omega), decide_eq_true (show 16 + c ≤ 21 by omega), decide_eq_true h0]
    rfl)
  have HSV := Lib.hid hsv
  have HW1 := Lib.hid hW1
  have HWW := Lib.hid hw
  have HN := Lib.hid hn
  have HOP := Lib.hid (fun V => ropen_any s V (by omega))
  clear hW1 hb1 hbz hsv hwd hw hn
  go_enter Tryz.func16, Tryz.ntmps16
  go_wp2_with fail
  rw [← HW1.out]
  refine (HSZ.out _).mono ?_
  rintro e V ⟨rfl, rfl⟩
  rw [HSV.out]
  by_cases hl : s.size = n
  case neg =>
    have ht : ((s.size : Int) != (n : Int)) = true := by rw [bne_iff_ne]; omega
    have HR := Lib.hid (show decH s = Hd.zero ∧ decHE s = 4 by
      have hf : formH s.data.toList = false := by rw [HFM.out]; exact decide_eq_false hl
      exact ⟨by rw [decH, if_neg (fun h => by rw [hf] at h; exact absurd h.1 (by decide))], by rw [decHE, hf]; rfl⟩)
    obtain ⟨y0, y1, y2, y3, y4, y5, y6, y7, y8, y9, y10⟩ := HZ2.out.z.cells
    obtain ⟨f0, f1, f2, f3, f4, f5, f6, f7, f8, f9, f10⟩ := HZ2.out.z.frozen
    clear hl
    go_wp2_with fail
    refine bodyPost_ret (v := .tuple #[.agg #[.int .i64 0, .int .i64 0, .int .u32 0, .int .i64 0, .int .i64 0, .int .i64 0, .int .u32 0, .int .u64 0, .int .u64 0, .int .u64 0, .int .u64 0], .int .i64 (4)]) ?_ rfl ⟨?_, ?_⟩
    · simp only [results, Tryz.results16]
      go_simp
    · rw [HR.out.1, HR.out.2]; rfl
    · repeat (with_reducible refine Below.setCell ?_ (by simp only; omega) _)
      exact HZ2.out.bel

  have hl2 := hl
  have ht : ((s.size : Int) != (n : Int)) = false := by rw [bne_eq_false_iff_eq]; omega
  have HF2 := Lib.hid (show formH s.data.toList = true by rw [HFM.out]; exact decide_eq_true hl)
  clear hl
  go_wp2_with fail
  refine (HOP.out _).mono ?_
  rintro e V ⟨rfl, hb⟩
  have HZ3 := Lib.hid (HZ2.out.later hb)
  clear hb
  by_cases ho : openE s = 0
  case neg =>
    have ht2 : (openE s != 0) = true := by rw [bne_iff_ne]; exact ho
    have HR := Lib.hid (show decH s = Hd.zero ∧ decHE s = openE s by
      exact ⟨by rw [decH, if_neg (fun h => ho h.2.1)], by rw [decHE, if_pos HF2.out, if_neg ho]⟩)
    obtain ⟨y0, y1, y2, y3, y4, y5, y6, y7, y8, y9, y10⟩ := HZ3.out.z.cells
    obtain ⟨f0, f1, f2, f3, f4, f5, f6, f7, f8, f9, f10⟩ := HZ3.out.z.frozen
    go_wp2_with fail
    refine bodyPost_ret (v := .tuple #[.agg #[.int .i64 0, .int .i64 0, .int .u32 0, .int .i64 0, .int .i64 0, .int .i64 0, .int .u32 0, .int .u64 0, .int .u64 0, .int .u64 0, .int .u64 0], .int .i64 (openE s)]) ?_ rfl ⟨?_, ?_⟩
    · simp only [results, Tryz.results16]
      go_simp
    · rw [HR.out.1, HR.out.2]; rfl
    · repeat (with_reducible refine Below.setCell ?_ (by simp only; omega) _)
      exact HZ3.out.bel

  obtain ⟨hop1, hop2⟩ := open_sealB ho
  have hol := open_list ho
  have HSG := Lib.hid (show seg (openS s).data.toList 0 1 = 16 + c by
    rw [← HC.out, hol]
    exact (seg_append (by rw [size_eq]; have := HN.out; omega)).symm)
  have HFF := Lib.hid (show decH s = (if (candH (openS s).data.toList).chk = true then candH (openS s).data.toList else Hd.zero) ∧ decHE s = (if (candH (openS s).data.toList).chk = true then 0 else 4) by
    constructor
    · rw [decH]
      by_cases hk : (candH (openS s).data.toList).chk = true
      · rw [if_pos ⟨HF2.out, ho, hk⟩, if_pos hk]
      · rw [if_neg (fun h => hk h.2.2), if_neg hk]
    · rw [decHE, if_pos HF2.out, if_pos ho])
  rw [ho]
  obtain ⟨t, htt⟩ : ∃ t, t = openS s := ⟨_, rfl⟩
  rw [← htt] at HSG HFF hop2 ⊢
  have hts : t.size = 13 + 2 ^ c := by have := HN.out; omega
  clear hop1 hop2 hol ho htt ht HF2
  obtain ⟨st, hst⟩ : ∃ x, x = seg t.data.toList 1 1 := ⟨_, rfl⟩
  have bst : st < 256 := by have := seg_lt t.data.toList 1 1; rw [← hst] at this; simpa using this
  have wst : IntKind.i64.wrap (st : Int) = (st : Int) := IntWalk.i64_in _ (by omega)
  have zst : 1 < t.size := by omega
  have zist : (1 : Int) < (t.size : Int) := by omega
  have HTst := Lib.hid hst
  have est : t[1].toNat = st := by rw [hst]; exact (seg_one zst).symm
  obtain ⟨hp, hhp⟩ : ∃ x, x = seg t.data.toList 6 1 := ⟨_, rfl⟩
  have bhp : hp < 256 := by have := seg_lt t.data.toList 6 1; rw [← hhp] at this; simpa using this
  have whp : IntKind.i64.wrap (hp : Int) = (hp : Int) := IntWalk.i64_in _ (by omega)
  have zhp : 6 < t.size := by omega
  have zihp : (6 : Int) < (t.size : Int) := by omega
  have HThp := Lib.hid hhp
  have ehp : t[6].toNat = hp := by rw [hhp]; exact (seg_one zhp).symm
  obtain ⟨sr, hsr⟩ : ∃ x, x = seg t.data.toList 7 1 := ⟨_, rfl⟩
  have bsr : sr < 256 := by have := seg_lt t.data.toList 7 1; rw [← hsr] at this; simpa using this
  have wsr : IntKind.i64.wrap (sr : Int) = (sr : Int) := IntWalk.i64_in _ (by omega)
  have zsr : 7 < t.size := by omega
  have zisr : (7 : Int) < (t.size : Int) := by omega
  have HTsr := Lib.hid hsr
  have esr : t[7].toNat = sr := by rw [hsr]; exact (seg_one zsr).symm
  obtain ⟨gp, hgp⟩ : ∃ x, x = seg t.data.toList 8 1 := ⟨_, rfl⟩
  have bgp : gp < 256 := by have := seg_lt t.data.toList 8 1; rw [← hgp] at this; simpa using this
  have wgp : IntKind.i64.wrap (gp : Int) = (gp : Int) := IntWalk.i64_in _ (by omega)
  have zgp : 8 < t.size := by omega
  have zigp : (8 : Int) < (t.size : Int) := by omega
  have HTgp := Lib.hid hgp
  have egp : t[8].toNat = gp := by rw [hgp]; exact (seg_one zgp).symm
  obtain ⟨en, hen⟩ : ∃ x, x = seg t.data.toList 2 4 := ⟨_, rfl⟩
  have ben : en < 4294967296 := by have := seg_lt t.data.toList 2 4; rw [← hen] at this; simpa using this
  have HTen := Lib.hid hen
  have zen : 6 ≤ t.size := by omega
  have zien : (6 : Int) ≤ (t.size : Int) := by omega
  have HN1 := Lib.hid (show ∀ V, Calls Tryz.prog 31 #[.string (t.extract 2 6)] V fun e V' => e = .returned (.int .u32 en) ∧ Below V.heap.size V V' from fun V => by
    have h1 := number_any (t.extract 2 6) V (by rw [ByteArray.size_extract]; omega)
    have h2 : (t.extract 2 6).data.toList = (t.data.toList.drop 2).take 4 := by
      rw [ByteArray.data_extract, Array.toList_extract, List.extract]
    rw [h2] at h1
    rw [hen]
    exact h1)
  obtain ⟨id, hid⟩ : ∃ x, x = seg t.data.toList 9 4 := ⟨_, rfl⟩
  have bid : id < 4294967296 := by have := seg_lt t.data.toList 9 4; rw [← hid] at this; simpa using this
  have HTid := Lib.hid hid
  have zid : 13 ≤ t.size := by omega
  have ziid : (13 : Int) ≤ (t.size : Int) := by omega
  have HN2 := Lib.hid (show ∀ V, Calls Tryz.prog 31 #[.string (t.extract 9 13)] V fun e V' => e = .returned (.int .u32 id) ∧ Below V.heap.size V V' from fun V => by
    have h1 := number_any (t.extract 9 13) V (by rw [ByteArray.size_extract]; omega)
    have h2 : (t.extract 9 13).data.toList = (t.data.toList.drop 9).take 4 := by
      rw [ByteArray.data_extract, Array.toList_extract, List.extract]
    rw [h2] at h1
    rw [hid]
    exact h1)
  obtain ⟨q, hq⟩ : ∃ q, q = t.extract 13 (13 + 2 ^ c) := ⟨_, rfl⟩
  have hqs : q.size = 2 ^ c := by rw [hq, ByteArray.size_extract]; omega
  have hql : q.data.toList = t.data.toList.drop 13 := by
    have hlt : t.data.toList.length = 13 + 2 ^ c := by rw [size_eq]; exact hts
    rw [hq, ByteArray.data_extract, Array.toList_extract, List.extract, show 13 + 2 ^ c - 13 = 2 ^ c from by omega]
    exact List.take_of_length_le (by rw [List.length_drop, hlt]; omega)
  obtain ⟨x, hx⟩ : ∃ x, x = Bt.of (leVal (t.data.toList.drop 13)) := ⟨_, rfl⟩
  have hxo : x.ok := hx ▸ Bt.of_ok _
  have HRD := Lib.hid (show ∀ V, Calls Tryz.prog 32 #[.string (t.extract 13 t.size)] V fun e V' => e = .returned (.tuple #[.agg #[.int .u64 x.a, .int .u64 x.b, .int .u64 x.c, .int .u64 x.d], .int .i64 0]) ∧ Below V.heap.size V V' from fun V => by
    have hrd := rbread_any q V (by omega) (by omega)
    rw [hql, ← hx] at hrd
    rw [hts, ← hq]
    exact hrd)
  have HCD := Lib.hid (show candH t.data.toList = ⟨(w : Int), (st : Int), en, (hp : Int), (sr : Int), (gp : Int), id, x⟩ by
    unfold candH
    rw [HSG.out, show 16 + c - 16 = c from by omega, ← HWW.out, ← HTst.out, ← HTen.out, ← HThp.out, ← HTsr.out, ← HTgp.out, ← HTid.out, ← hx])
  have hwb : w < 1000 := by have := HWW.out; omega
  have HQ := Lib.hid (show (⟨(w : Int), (st : Int), en, (hp : Int), (sr : Int), (gp : Int), id, x⟩ : Hd).ok from
    ⟨i64_nat hwb, i64_nat (by omega), ben, i64_nat (by omega), i64_nat (by omega), i64_nat (by omega), bid, hxo⟩)
  have HCK := Lib.hid (fun V => rhcheck_any ⟨(w : Int), (st : Int), en, (hp : Int), (sr : Int), (gp : Int), id, x⟩ V HQ.out)
  unfold Hd.ag Hd.cs at HCK
  simp only at HCK
  have z13 : 13 ≤ t.size := by omega
  have z13i : (13 : Int) ≤ (t.size : Int) := by omega
  obtain ⟨X0, hX0⟩ : ∃ X, X = V.drew := ⟨_, rfl⟩
  have HS0 := Lib.hid (show DrZ W X0 by rw [hX0]; exact HZ3.out.later ⟨rfl, rfl, rfl, Nat.le_refl _, fun _ _ => rfl⟩)
  have HX0 := Lib.hid hX0
  clear hts hq hqs hql hx hxo hX0 hst hhp hsr hgp hen hid bst bhp bsr bgp ben bid
  go_wp2_with fail
  refine wp_region_tree (.look 0 (.look 1 (.look 2 (.look 3 (.look 4 (.look 5 (.look 7 (.look 8 (.look 9 (.look 10 (.look 11 (.look 12 (.look 13 (.look 14 (.look 15 (.look 16 (.look 17 (.two 6 (.two 18 (.look 19 (.one 20 (.one 21 .nil))) 20 (.one 18 (.look 19 (.one 21 .nil)))) 20 (.one 6 (.one 18 (.look 19 (.one 21 .nil)))))))))))))))))))))) (DrZ W) (by kernel_rfl) (by kernel_rfl) (by decide) (by kernel_rfl) (fun d _ _ _ _ h => by cases d <;> exact h) (by rw [← HX0.out]; exact HS0.out) ?_
  rw [← HX0.out]
  iterate 17 ((apply wpOT_take rfl rfl (by kernel_rfl); (intro V _; go_simp; rfl)); (try simp only [List.setIfInBounds_toArray, List.set_cons_succ, List.set_cons_zero]))
  apply wpOT_two
  · skip
    apply wpOT_do rfl (by kernel_rfl)
    intro K hK
    go_simp
    refine (HN1.out _).mono ?_
    rintro e X1 ⟨rfl, hb⟩
    have HS1 := Lib.hid (HS0.out.later hb)
    refine hK _ _ HS1.out ?_
    clear hK K hb
    apply wpOT_two
    · skip
      apply wpOT_do rfl (by kernel_rfl)
      intro K hK
      go_simp
      refine (HN2.out _).mono ?_
      rintro e X2 ⟨rfl, hb⟩
      have HS2 := Lib.hid (HS1.out.later hb)
      refine hK _ _ HS2.out ?_
      clear hK K hb
      iterate 1 ((apply wpOT_take rfl rfl (by kernel_rfl); (intro V _; go_simp; rfl)); (try simp only [List.setIfInBounds_toArray, List.set_cons_succ, List.set_cons_zero]))
      apply wpOT_do rfl (by kernel_rfl)
      intro K hK
      go_simp
      obtain ⟨X3, hX3⟩ : ∃ X, X = X2.alloc (.cells #[.int .i64 0, .int .i64 0, .int .u32 0, .int .i64 0, .int .i64 0, .int .i64 0, .int .u32 0, .int .u64 0, .int .u64 0, .int .u64 0, .int .u64 0] 32) := ⟨_, rfl⟩
      obtain ⟨g, hg⟩ : ∃ g, g = X2.heap.size := ⟨_, rfl⟩
      have HS3 := Lib.hid (show DrZ W X3 by rw [hX3]; exact HS2.out.later ((Below.refl _ _).alloc (Nat.le_refl _) _))
      have HG3 := Lib.hid (show BoxV g 0 0 0 0 0 0 0 0 0 0 0 X3 by rw [hX3, hg]; exact heap_alloc_new _ _)
      have HGL := Lib.hid (show W.heap.size < g by
        have h1 := HS2.out.z
        rw [hg]; exact (Array.getElem?_eq_some_iff.1 h1).1)
      rw [← hX3, ← hg]
      refine hK _ _ HS3.out ?_
      clear hK K hX3 hg
      apply wpOT_do rfl (by kernel_rfl)
      intro K hK
      obtain ⟨y0, y1, y2, y3, y4, y5, y6, y7, y8, y9, y10⟩ := HG3.out.cells
      obtain ⟨f0, f1, f2, f3, f4, f5, f6, f7, f8, f9, f10⟩ := HG3.out.frozen
      go_simp
      obtain ⟨U, hU⟩ : ∃ U, U = (((((((((((X3.setCell ⟨g, 0, none⟩ (.int .i64 (w : Int))).setCell ⟨g, 1, none⟩ (.int .i64 (st : Int))).setCell ⟨g, 2, none⟩ (.int .u32 (en : Int))).setCell ⟨g, 3, none⟩ (.int .i64 (hp : Int))).setCell ⟨g, 4, none⟩ (.int .i64 (sr : Int))).setCell ⟨g, 5, none⟩ (.int .i64 (gp : Int))).setCell ⟨g, 6, none⟩ (.int .u32 (id : Int))).setCell ⟨g, 7, none⟩ (.int .u64 0)).setCell ⟨g, 8, none⟩ (.int .u64 0)).setCell ⟨g, 9, none⟩ (.int .u64 0)).setCell ⟨g, 10, none⟩ (.int .u64 0)) := ⟨_, rfl⟩
      have hgl := HGL.out
      have HD0 := Lib.hid (show DrS W g (w : Int) (st : Int) (en : Int) (hp : Int) (sr : Int) (gp : Int) (id : Int) 0 0 0 0 U from ⟨by
        rw [hU]
        exact (((((((((((HS3.out.z.other _ _ _ (by omega)).other _ _ _ (by omega)).other _ _ _ (by omega)).other _ _ _ (by omega)).other _ _ _ (by omega)).other _ _ _ (by omega)).other _ _ _ (by omega)).other _ _ _ (by omega)).other _ _ _ (by omega)).other _ _ _ (by omega)).other _ _ _ (by omega)), by rw [hU]; exact (((((((((((HG3.out.set0 _).set1 _).set2 _).set3 _).set4 _).set5 _).set6 _).set7 _).set8 _).set9 _).set10 _), by
        rw [hU]
        repeat (with_reducible refine Below.setCell ?_ (by simp only; omega) _)
        exact HS3.out.bel, hgl⟩)
      rw [← hU]
      refine hK _ _ ⟨HD0.out.z, HD0.out.bel⟩ ?_
      clear hK K y0 y1 y2 y3 y4 y5 y6 y7 y8 y9 y10 f0 f1 f2 f3 f4 f5 f6 f7 f8 f9 f10 hU
      refine wpOT_nil ?_
      obtain ⟨y0, y1, y2, y3, y4, y5, y6, y7, y8, y9, y10⟩ := HD0.out.h.cells
      go_wp2_with fail
      refine (HRD.out _).mono ?_
      rintro e V7 ⟨rfl, hb⟩
      have HS7 := Lib.hid (HD0.out.later hb)
      clear hb y0 y1 y2 y3 y4 y5 y6 y7 y8 y9 y10
      obtain ⟨y0, y1, y2, y3, y4, y5, y6, y7, y8, y9, y10⟩ := HS7.out.h.cells
      obtain ⟨f0, f1, f2, f3, f4, f5, f6, f7, f8, f9, f10⟩ := HS7.out.h.frozen
      have hgl7 := HS7.out.hi
      have HS8 := Lib.hid ((((HS7.out.set7 (x.a : Int)).set8 (x.b : Int)).set9 (x.c : Int)).set10 (x.d : Int))
      obtain ⟨U7, hU7⟩ : ∃ U, U = (((V7.setCell ⟨g, 7, none⟩ (.int .u64 (x.a : Int))).setCell ⟨g, 8, none⟩ (.int .u64 (x.b : Int))).setCell ⟨g, 9, none⟩ (.int .u64 (x.c : Int))).setCell ⟨g, 10, none⟩ (.int .u64 (x.d : Int)) := ⟨_, rfl⟩
      rw [← hU7] at HS8
      have HU7 := Lib.hid hU7
      clear hU7
      obtain ⟨z0, z1, z2, z3, z4, z5, z6, z7, z8, z9, z10⟩ := HS8.out.h.cells
      rw [HU7.out] at z0 z1 z2 z3 z4 z5 z6 z7 z8 z9 z10
      go_wp2_with fail
      rw [← HU7.out]
      clear y0 y1 y2 y3 y4 y5 y6 y7 y8 y9 y10 f0 f1 f2 f3 f4 f5 f6 f7 f8 f9 f10 z0 z1 z2 z3 z4 z5 z6 z7 z8 z9 z10
      refine (HCK.out _).mono ?_
      rintro e V8 ⟨rfl, hb⟩
      have HS9 := Lib.hid (HS8.out.later hb)
      clear hb
      obtain ⟨y0, y1, y2, y3, y4, y5, y6, y7, y8, y9, y10⟩ := HS9.out.h.cells
      obtain ⟨z0, z1, z2, z3, z4, z5, z6, z7, z8, z9, z10⟩ := HS9.out.z.cells
      obtain ⟨f0, f1, f2, f3, f4, f5, f6, f7, f8, f9, f10⟩ := HS9.out.z.frozen
      by_cases hk : Hd.chk ⟨(w : Int), (st : Int), en, (hp : Int), (sr : Int), (gp : Int), id, x⟩ = true
      · have HR := Lib.hid (show decH s = ⟨(w : Int), (st : Int), en, (hp : Int), (sr : Int), (gp : Int), id, x⟩ ∧ decHE s = 0 by
          have h1 := HFF.out
          rw [HCD.out, if_pos hk, if_pos hk] at h1
          exact h1)
        have HER := Lib.hid (show Hd.err ⟨(w : Int), (st : Int), en, (hp : Int), (sr : Int), (gp : Int), id, x⟩ = 0 by rw [Hd.err, if_pos hk])
        clear hk
        rw [HER.out]
        go_wp2_with fail
        refine bodyPost_ret (v := .tuple #[.agg #[.int .i64 w, .int .i64 st, .int .u32 en, .int .i64 hp, .int .i64 sr, .int .i64 gp, .int .u32 id, .int .u64 x.a, .int .u64 x.b, .int .u64 x.c, .int .u64 x.d], .int .i64 0]) ?_ rfl ⟨?_, ?_⟩
        · simp only [results, Tryz.results16]
          go_simp
        · rw [HR.out.1, HR.out.2]; rfl
        · repeat (with_reducible refine Below.setCell ?_ (by simp only; omega) _)
          exact HS9.out.bel
      · have HR := Lib.hid (show decH s = Hd.zero ∧ decHE s = 4 by
          have h1 := HFF.out
          rw [HCD.out, if_neg hk, if_neg hk] at h1
          exact h1)
        have HER := Lib.hid (show Hd.err ⟨(w : Int), (st : Int), en, (hp : Int), (sr : Int), (gp : Int), id, x⟩ = 2 by rw [Hd.err, if_neg hk])
        clear hk
        rw [HER.out]
        go_wp2_with fail
        refine bodyPost_ret (v := .tuple #[.agg #[.int .i64 0, .int .i64 0, .int .u32 0, .int .i64 0, .int .i64 0, .int .i64 0, .int .u32 0, .int .u64 0, .int .u64 0, .int .u64 0, .int .u64 0], .int .i64 (4)]) ?_ rfl ⟨?_, ?_⟩
        · simp only [results, Tryz.results16]
          go_simp
        · rw [HR.out.1, HR.out.2]; rfl
        · repeat (with_reducible refine Below.setCell ?_ (by simp only; omega) _)
          exact HS9.out.bel

    · skip
      apply wpOT_do rfl (by kernel_rfl)
      intro K hK
      go_simp
      obtain ⟨X4, hX4⟩ : ∃ X, X = X1.alloc (.cells #[.int .i64 0, .int .i64 0, .int .u32 0, .int .i64 0, .int .i64 0, .int .i64 0, .int .u32 0, .int .u64 0, .int .u64 0, .int .u64 0, .int .u64 0] 32) := ⟨_, rfl⟩
      obtain ⟨g, hg⟩ : ∃ g, g = X1.heap.size := ⟨_, rfl⟩
      have HS4 := Lib.hid (show DrZ W X4 by rw [hX4]; exact HS1.out.later ((Below.refl _ _).alloc (Nat.le_refl _) _))
      have HG4 := Lib.hid (show BoxV g 0 0 0 0 0 0 0 0 0 0 0 X4 by rw [hX4, hg]; exact heap_alloc_new _ _)
      have HGL := Lib.hid (show W.heap.size < g by
        have h1 := HS1.out.z
        rw [hg]; exact (Array.getElem?_eq_some_iff.1 h1).1)
      rw [← hX4, ← hg]
      refine hK _ _ HS4.out ?_
      clear hK K hX4 hg
      apply wpOT_do rfl (by kernel_rfl)
      intro K hK
      go_simp
      refine (HN2.out _).mono ?_
      rintro e X5 ⟨rfl, hb⟩
      have HS5 := Lib.hid (HS4.out.later hb)
      have HG5 := Lib.hid (HG4.out.later hb)
      refine hK _ _ HS5.out ?_
      clear hK K hb
      iterate 1 ((apply wpOT_take rfl rfl (by kernel_rfl); (intro V _; go_simp; rfl)); (try simp only [List.setIfInBounds_toArray, List.set_cons_succ, List.set_cons_zero]))
      apply wpOT_do rfl (by kernel_rfl)
      intro K hK
      obtain ⟨y0, y1, y2, y3, y4, y5, y6, y7, y8, y9, y10⟩ := HG5.out.cells
      obtain ⟨f0, f1, f2, f3, f4, f5, f6, f7, f8, f9, f10⟩ := HG5.out.frozen
      go_simp
      obtain ⟨U, hU⟩ : ∃ U, U = (((((((((((X5.setCell ⟨g, 0, none⟩ (.int .i64 (w : Int))).setCell ⟨g, 1, none⟩ (.int .i64 (st : Int))).setCell ⟨g, 2, none⟩ (.int .u32 (en : Int))).setCell ⟨g, 3, none⟩ (.int .i64 (hp : Int))).setCell ⟨g, 4, none⟩ (.int .i64 (sr : Int))).setCell ⟨g, 5, none⟩ (.int .i64 (gp : Int))).setCell ⟨g, 6, none⟩ (.int .u32 (id : Int))).setCell ⟨g, 7, none⟩ (.int .u64 0)).setCell ⟨g, 8, none⟩ (.int .u64 0)).setCell ⟨g, 9, none⟩ (.int .u64 0)).setCell ⟨g, 10, none⟩ (.int .u64 0)) := ⟨_, rfl⟩
      have hgl := HGL.out
      have HD0 := Lib.hid (show DrS W g (w : Int) (st : Int) (en : Int) (hp : Int) (sr : Int) (gp : Int) (id : Int) 0 0 0 0 U from ⟨by
        rw [hU]
        exact (((((((((((HS5.out.z.other _ _ _ (by omega)).other _ _ _ (by omega)).other _ _ _ (by omega)).other _ _ _ (by omega)).other _ _ _ (by omega)).other _ _ _ (by omega)).other _ _ _ (by omega)).other _ _ _ (by omega)).other _ _ _ (by omega)).other _ _ _ (by omega)).other _ _ _ (by omega)), by rw [hU]; exact (((((((((((HG5.out.set0 _).set1 _).set2 _).set3 _).set4 _).set5 _).set6 _).set7 _).set8 _).set9 _).set10 _), by
        rw [hU]
        repeat (with_reducible refine Below.setCell ?_ (by simp only; omega) _)
        exact HS5.out.bel, hgl⟩)
      rw [← hU]
      refine hK _ _ ⟨HD0.out.z, HD0.out.bel⟩ ?_
      clear hK K y0 y1 y2 y3 y4 y5 y6 y7 y8 y9 y10 f0 f1 f2 f3 f4 f5 f6 f7 f8 f9 f10 hU
      refine wpOT_nil ?_
      obtain ⟨y0, y1, y2, y3, y4, y5, y6, y7, y8, y9, y10⟩ := HD0.out.h.cells
      go_wp2_with fail
      refine (HRD.out _).mono ?_
      rintro e V7 ⟨rfl, hb⟩
      have HS7 := Lib.hid (HD0.out.later hb)
      clear hb y0 y1 y2 y3 y4 y5 y6 y7 y8 y9 y10
      obtain ⟨y0, y1, y2, y3, y4, y5, y6, y7, y8, y9, y10⟩ := HS7.out.h.cells
      obtain ⟨f0, f1, f2, f3, f4, f5, f6, f7, f8, f9, f10⟩ := HS7.out.h.frozen
      have hgl7 := HS7.out.hi
      have HS8 := Lib.hid ((((HS7.out.set7 (x.a : Int)).set8 (x.b : Int)).set9 (x.c : Int)).set10 (x.d : Int))
      obtain ⟨U7, hU7⟩ : ∃ U, U = (((V7.setCell ⟨g, 7, none⟩ (.int .u64 (x.a : Int))).setCell ⟨g, 8, none⟩ (.int .u64 (x.b : Int))).setCell ⟨g, 9, none⟩ (.int .u64 (x.c : Int))).setCell ⟨g, 10, none⟩ (.int .u64 (x.d : Int)) := ⟨_, rfl⟩
      rw [← hU7] at HS8
      have HU7 := Lib.hid hU7
      clear hU7
      obtain ⟨z0, z1, z2, z3, z4, z5, z6, z7, z8, z9, z10⟩ := HS8.out.h.cells
      rw [HU7.out] at z0 z1 z2 z3 z4 z5 z6 z7 z8 z9 z10
      go_wp2_with fail
      rw [← HU7.out]
      clear y0 y1 y2 y3 y4 y5 y6 y7 y8 y9 y10 f0 f1 f2 f3 f4 f5 f6 f7 f8 f9 f10 z0 z1 z2 z3 z4 z5 z6 z7 z8 z9 z10
      refine (HCK.out _).mono ?_
      rintro e V8 ⟨rfl, hb⟩
      have HS9 := Lib.hid (HS8.out.later hb)
      clear hb
      obtain ⟨y0, y1, y2, y3, y4, y5, y6, y7, y8, y9, y10⟩ := HS9.out.h.cells
      obtain ⟨z0, z1, z2, z3, z4, z5, z6, z7, z8, z9, z10⟩ := HS9.out.z.cells
      obtain ⟨f0, f1, f2, f3, f4, f5, f6, f7, f8, f9, f10⟩ := HS9.out.z.frozen
      by_cases hk : Hd.chk ⟨(w : Int), (st : Int), en, (hp : Int), (sr : Int), (gp : Int), id, x⟩ = true
      · have HR := Lib.hid (show decH s = ⟨(w : Int), (st : Int), en, (hp : Int), (sr : Int), (gp : Int), id, x⟩ ∧ decHE s = 0 by
          have h1 := HFF.out
          rw [HCD.out, if_pos hk, if_pos hk] at h1
          exact h1)
        have HER := Lib.hid (show Hd.err ⟨(w : Int), (st : Int), en, (hp : Int), (sr : Int), (gp : Int), id, x⟩ = 0 by rw [Hd.err, if_pos hk])
        clear hk
        rw [HER.out]
        go_wp2_with fail
        refine bodyPost_ret (v := .tuple #[.agg #[.int .i64 w, .int .i64 st, .int .u32 en, .int .i64 hp, .int .i64 sr, .int .i64 gp, .int .u32 id, .int .u64 x.a, .int .u64 x.b, .int .u64 x.c, .int .u64 x.d], .int .i64 0]) ?_ rfl ⟨?_, ?_⟩
        · simp only [results, Tryz.results16]
          go_simp
        · rw [HR.out.1, HR.out.2]; rfl
        · repeat (with_reducible refine Below.setCell ?_ (by simp only; omega) _)
          exact HS9.out.bel
      · have HR := Lib.hid (show decH s = Hd.zero ∧ decHE s = 4 by
          have h1 := HFF.out
          rw [HCD.out, if_neg hk, if_neg hk] at h1
          exact h1)
        have HER := Lib.hid (show Hd.err ⟨(w : Int), (st : Int), en, (hp : Int), (sr : Int), (gp : Int), id, x⟩ = 2 by rw [Hd.err, if_neg hk])
        clear hk
        rw [HER.out]
        go_wp2_with fail
        refine bodyPost_ret (v := .tuple #[.agg #[.int .i64 0, .int .i64 0, .int .u32 0, .int .i64 0, .int .i64 0, .int .i64 0, .int .u32 0, .int .u64 0, .int .u64 0, .int .u64 0, .int .u64 0], .int .i64 (4)]) ?_ rfl ⟨?_, ?_⟩
        · simp only [results, Tryz.results16]
          go_simp
        · rw [HR.out.1, HR.out.2]; rfl
        · repeat (with_reducible refine Below.setCell ?_ (by simp only; omega) _)
          exact HS9.out.bel

  · skip
    apply wpOT_do rfl (by kernel_rfl)
    intro K hK
    go_simp
    obtain ⟨X6, hX6⟩ : ∃ X, X = X0.alloc (.cells #[.int .i64 0, .int .i64 0, .int .u32 0, .int .i64 0, .int .i64 0, .int .i64 0, .int .u32 0, .int .u64 0, .int .u64 0, .int .u64 0, .int .u64 0] 32) := ⟨_, rfl⟩
    obtain ⟨g, hg⟩ : ∃ g, g = X0.heap.size := ⟨_, rfl⟩
    have HS6 := Lib.hid (show DrZ W X6 by rw [hX6]; exact HS0.out.later ((Below.refl _ _).alloc (Nat.le_refl _) _))
    have HG6 := Lib.hid (show BoxV g 0 0 0 0 0 0 0 0 0 0 0 X6 by rw [hX6, hg]; exact heap_alloc_new _ _)
    have HGL := Lib.hid (show W.heap.size < g by
      have h1 := HS0.out.z
      rw [hg]; exact (Array.getElem?_eq_some_iff.1 h1).1)
    rw [← hX6, ← hg]
    refine hK _ _ HS6.out ?_
    clear hK K hX6 hg
    apply wpOT_do rfl (by kernel_rfl)
    intro K hK
    go_simp
    refine (HN1.out _).mono ?_
    rintro e X7 ⟨rfl, hb⟩
    have HS7 := Lib.hid (HS6.out.later hb)
    have HG7 := Lib.hid (HG6.out.later hb)
    refine hK _ _ HS7.out ?_
    clear hK K hb
    apply wpOT_do rfl (by kernel_rfl)
    intro K hK
    go_simp
    refine (HN2.out _).mono ?_
    rintro e X8 ⟨rfl, hb⟩
    have HS8 := Lib.hid (HS7.out.later hb)
    have HG8 := Lib.hid (HG7.out.later hb)
    refine hK _ _ HS8.out ?_
    clear hK K hb
    iterate 1 ((apply wpOT_take rfl rfl (by kernel_rfl); (intro V _; go_simp; rfl)); (try simp only [List.setIfInBounds_toArray, List.set_cons_succ, List.set_cons_zero]))
    apply wpOT_do rfl (by kernel_rfl)
    intro K hK
    obtain ⟨y0, y1, y2, y3, y4, y5, y6, y7, y8, y9, y10⟩ := HG8.out.cells
    obtain ⟨f0, f1, f2, f3, f4, f5, f6, f7, f8, f9, f10⟩ := HG8.out.frozen
    go_simp
    obtain ⟨U, hU⟩ : ∃ U, U = (((((((((((X8.setCell ⟨g, 0, none⟩ (.int .i64 (w : Int))).setCell ⟨g, 1, none⟩ (.int .i64 (st : Int))).setCell ⟨g, 2, none⟩ (.int .u32 (en : Int))).setCell ⟨g, 3, none⟩ (.int .i64 (hp : Int))).setCell ⟨g, 4, none⟩ (.int .i64 (sr : Int))).setCell ⟨g, 5, none⟩ (.int .i64 (gp : Int))).setCell ⟨g, 6, none⟩ (.int .u32 (id : Int))).setCell ⟨g, 7, none⟩ (.int .u64 0)).setCell ⟨g, 8, none⟩ (.int .u64 0)).setCell ⟨g, 9, none⟩ (.int .u64 0)).setCell ⟨g, 10, none⟩ (.int .u64 0)) := ⟨_, rfl⟩
    have hgl := HGL.out
    have HD0 := Lib.hid (show DrS W g (w : Int) (st : Int) (en : Int) (hp : Int) (sr : Int) (gp : Int) (id : Int) 0 0 0 0 U from ⟨by
      rw [hU]
      exact (((((((((((HS8.out.z.other _ _ _ (by omega)).other _ _ _ (by omega)).other _ _ _ (by omega)).other _ _ _ (by omega)).other _ _ _ (by omega)).other _ _ _ (by omega)).other _ _ _ (by omega)).other _ _ _ (by omega)).other _ _ _ (by omega)).other _ _ _ (by omega)).other _ _ _ (by omega)), by rw [hU]; exact (((((((((((HG8.out.set0 _).set1 _).set2 _).set3 _).set4 _).set5 _).set6 _).set7 _).set8 _).set9 _).set10 _), by
      rw [hU]
      repeat (with_reducible refine Below.setCell ?_ (by simp only; omega) _)
      exact HS8.out.bel, hgl⟩)
    rw [← hU]
    refine hK _ _ ⟨HD0.out.z, HD0.out.bel⟩ ?_
    clear hK K y0 y1 y2 y3 y4 y5 y6 y7 y8 y9 y10 f0 f1 f2 f3 f4 f5 f6 f7 f8 f9 f10 hU
    refine wpOT_nil ?_
    obtain ⟨y0, y1, y2, y3, y4, y5, y6, y7, y8, y9, y10⟩ := HD0.out.h.cells
    go_wp2_with fail
    refine (HRD.out _).mono ?_
    rintro e V7 ⟨rfl, hb⟩
    have HS7 := Lib.hid (HD0.out.later hb)
    clear hb y0 y1 y2 y3 y4 y5 y6 y7 y8 y9 y10
    obtain ⟨y0, y1, y2, y3, y4, y5, y6, y7, y8, y9, y10⟩ := HS7.out.h.cells
    obtain ⟨f0, f1, f2, f3, f4, f5, f6, f7, f8, f9, f10⟩ := HS7.out.h.frozen
    have hgl7 := HS7.out.hi
    have HS8 := Lib.hid ((((HS7.out.set7 (x.a : Int)).set8 (x.b : Int)).set9 (x.c : Int)).set10 (x.d : Int))
    obtain ⟨U7, hU7⟩ : ∃ U, U = (((V7.setCell ⟨g, 7, none⟩ (.int .u64 (x.a : Int))).setCell ⟨g, 8, none⟩ (.int .u64 (x.b : Int))).setCell ⟨g, 9, none⟩ (.int .u64 (x.c : Int))).setCell ⟨g, 10, none⟩ (.int .u64 (x.d : Int)) := ⟨_, rfl⟩
    rw [← hU7] at HS8
    have HU7 := Lib.hid hU7
    clear hU7
    obtain ⟨z0, z1, z2, z3, z4, z5, z6, z7, z8, z9, z10⟩ := HS8.out.h.cells
    rw [HU7.out] at z0 z1 z2 z3 z4 z5 z6 z7 z8 z9 z10
    go_wp2_with fail
    rw [← HU7.out]
    clear y0 y1 y2 y3 y4 y5 y6 y7 y8 y9 y10 f0 f1 f2 f3 f4 f5 f6 f7 f8 f9 f10 z0 z1 z2 z3 z4 z5 z6 z7 z8 z9 z10
    refine (HCK.out _).mono ?_
    rintro e V8 ⟨rfl, hb⟩
    have HS9 := Lib.hid (HS8.out.later hb)
    clear hb
    obtain ⟨y0, y1, y2, y3, y4, y5, y6, y7, y8, y9, y10⟩ := HS9.out.h.cells
    obtain ⟨z0, z1, z2, z3, z4, z5, z6, z7, z8, z9, z10⟩ := HS9.out.z.cells
    obtain ⟨f0, f1, f2, f3, f4, f5, f6, f7, f8, f9, f10⟩ := HS9.out.z.frozen
    by_cases hk : Hd.chk ⟨(w : Int), (st : Int), en, (hp : Int), (sr : Int), (gp : Int), id, x⟩ = true
    · have HR := Lib.hid (show decH s = ⟨(w : Int), (st : Int), en, (hp : Int), (sr : Int), (gp : Int), id, x⟩ ∧ decHE s = 0 by
        have h1 := HFF.out
        rw [HCD.out, if_pos hk, if_pos hk] at h1
        exact h1)
      have HER := Lib.hid (show Hd.err ⟨(w : Int), (st : Int), en, (hp : Int), (sr : Int), (gp : Int), id, x⟩ = 0 by rw [Hd.err, if_pos hk])
      clear hk
      rw [HER.out]
      go_wp2_with fail
      refine bodyPost_ret (v := .tuple #[.agg #[.int .i64 w, .int .i64 st, .int .u32 en, .int .i64 hp, .int .i64 sr, .int .i64 gp, .int .u32 id, .int .u64 x.a, .int .u64 x.b, .int .u64 x.c, .int .u64 x.d], .int .i64 0]) ?_ rfl ⟨?_, ?_⟩
      · simp only [results, Tryz.results16]
        go_simp
      · rw [HR.out.1, HR.out.2]; rfl
      · repeat (with_reducible refine Below.setCell ?_ (by simp only; omega) _)
        exact HS9.out.bel
    · have HR := Lib.hid (show decH s = Hd.zero ∧ decHE s = 4 by
        have h1 := HFF.out
        rw [HCD.out, if_neg hk, if_neg hk] at h1
        exact h1)
      have HER := Lib.hid (show Hd.err ⟨(w : Int), (st : Int), en, (hp : Int), (sr : Int), (gp : Int), id, x⟩ = 2 by rw [Hd.err, if_neg hk])
      clear hk
      rw [HER.out]
      go_wp2_with fail
      refine bodyPost_ret (v := .tuple #[.agg #[.int .i64 0, .int .i64 0, .int .u32 0, .int .i64 0, .int .i64 0, .int .i64 0, .int .u32 0, .int .u64 0, .int .u64 0, .int .u64 0, .int .u64 0], .int .i64 (4)]) ?_ rfl ⟨?_, ?_⟩
      · simp only [results, Tryz.results16]
        go_simp
      · rw [HR.out.1, HR.out.2]; rfl
      · repeat (with_reducible refine Below.setCell ?_ (by simp only; omega) _)
        exact HS9.out.bel

theorem rhdecode_any (s : ByteArray) (W : World) (hs : s.size ≤ 140737488355000) :
    Calls Tryz.prog 16 #[.string s] W fun e W' => e = .returned (.tuple #[(decH s).ag, .int .i64 (decHE s)]) ∧ Below W.heap.size W W' := by
  by_cases h0 : 0 < s.size
  · by_cases h1 : seg s.data.toList 0 1 < 16 ∨ 21 < seg s.data.toList 0 1
    · have hf : formH s.data.toList = false := by
        rw [← Bool.not_eq_true]
        intro h
        simp only [formH, Bool.and_eq_true, decide_eq_true_eq] at h
        omega
      have h := rhdecode_first s W (.inr ⟨h0, h1⟩)
      rw [show decH s = Hd.zero from by rw [decH, if_neg (fun h => by rw [hf] at h; exact absurd h.1 (by decide))], show decHE s = 4 from by rw [decHE, hf]; rfl]
      exact h
    · exact rhdecode_form s (seg s.data.toList 0 1 - 16) W h0 (by omega) (by omega) hs
  · have hf : formH s.data.toList = false := by
      rw [← Bool.not_eq_true]
      intro h
      simp only [formH, Bool.and_eq_true, decide_eq_true_eq, size_eq] at h
      omega
    have h := rhdecode_first s W (.inl (by omega))
    rw [show decH s = Hd.zero from by rw [decH, if_neg (fun h => by rw [hf] at h; exact absurd h.1 (by decide))], show decHE s = 4 from by rw [decHE, hf]; rfl]
    exact h

end Go.Proofs.YtickjmkkgcfkhaaGreat
