import Derived.Test.YtickjmkkgcfkhaaGreatHdK
import Derived.Test.YtickjmkkgcfkhaaGreatHdF
/- Contracts: the laws' example, header.Hop, header.With. -/
set_option linter.unusedSimpArgs false
set_option linter.unusedVariables false
set_option maxRecDepth 100000
namespace Go.Proofs.YtickjmkkgcfkhaaGreat
open Go.RowKit Go.ChangeShapes Go.WideShapes

def exH : Hd := ⟨8, 2, 16909060, 15, 7, 3, 9, ⟨129, 0, 0, 0⟩⟩
def hopV (h : Hd) : Hd := if h.chk = true ∧ h.hops ≠ 0 then { h with hops := h.hops - 1 } else Hd.zero
def hopE (h : Hd) : Int := if h.chk = true then (if h.hops = 0 then 6 else 0) else 2
def withV (h : Hd) (b : Bt) : Hd := if h.chk = true ∧ below b h.wid = true then { h with bits := b } else Hd.zero
def withE (h : Hd) (b : Bt) : Int := if h.chk = true then (if below b h.wid = true then 0 else 3) else 2
end Go.Proofs.YtickjmkkgcfkhaaGreat

/- Bits of a bit string, plain: one is taken off. No program is in sight. -/
set_option linter.unusedSimpArgs false
set_option linter.unusedVariables false
set_option maxRecDepth 100000
namespace Go.Proofs.YtickjmkkgcfkhaaGreat
open Go.RowKit

/-- A bit of the number is one of a word. -/
theorem num_bit {x : Bt} (h : x.ok) {i : Nat} (hi : i < 256) : x.num.testBit i = (x.w (i / 64)).testBit (i % 64) := by
  obtain ⟨h1, h2, h3, h4⟩ := h
  rw [Nat.testBit_eq_decide_div_mod_eq, Nat.testBit_eq_decide_div_mod_eq]
  have hj : i % 64 < 64 := Nat.mod_lt _ (by decide)
  have hk : i / 64 < 4 := by omega
  have key : ∀ (a b j : Nat), j < 64 → (a + 18446744073709551616 * b) / 2 ^ j % 2 = a / 2 ^ j % 2 := by
    intro a b j hj
    have e : (18446744073709551616 : Nat) = 2 ^ j * (2 * 2 ^ (63 - j)) := by
      rw [← pow64, show (2 : Nat) * 2 ^ (63 - j) = 2 ^ (63 - j + 1) from by rw [Nat.pow_succ, Nat.mul_comm], ← Nat.pow_add]
      congr 1
      omega
    rw [e, Nat.mul_assoc, Nat.add_mul_div_left _ _ (Nat.pow_pos (by decide)), Nat.mul_assoc, Nat.add_mul_mod_self_left]
  have hs : 2 ^ i = 18446744073709551616 ^ (i / 64) * 2 ^ (i % 64) := by
    rw [← pow64, ← Nat.pow_mul, ← Nat.pow_add]
    congr 1
    omega
  rw [hs, ← Nat.div_div_eq_div_mul]
  generalize i % 64 = j at *
  congr 2
  obtain hk | hk | hk | hk : i / 64 = 0 ∨ i / 64 = 1 ∨ i / 64 = 2 ∨ i / 64 = 3 := by omega
  · rw [hk, Nat.pow_zero, Nat.div_one, Bt.num, key _ _ _ hj]
    rfl
  · rw [hk, Nat.pow_one, Bt.num, show (x.a + 18446744073709551616 * (x.b + 18446744073709551616 * (x.c + 18446744073709551616 * x.d))) / 18446744073709551616 = x.b + 18446744073709551616 * (x.c + 18446744073709551616 * x.d) from by omega, key _ _ _ hj]
    rfl
  · rw [hk, show (18446744073709551616 : Nat) ^ 2 = 340282366920938463463374607431768211456 from by decide, Bt.num, show (x.a + 18446744073709551616 * (x.b + 18446744073709551616 * (x.c + 18446744073709551616 * x.d))) / 340282366920938463463374607431768211456 = x.c + 18446744073709551616 * x.d from by omega, key _ _ _ hj]
    rfl
  · rw [hk, show (18446744073709551616 : Nat) ^ 3 = 6277101735386680763835789423207666416102355444464034512896 from by decide, Bt.num, show (x.a + 18446744073709551616 * (x.b + 18446744073709551616 * (x.c + 18446744073709551616 * x.d))) / 6277101735386680763835789423207666416102355444464034512896 = x.d from by omega]
    rfl
/-- A word without a bit. -/
def clr (w j : Nat) : Nat := (BitVec.ofNat 64 w &&& ~~~ BitVec.ofNat 64 (2 ^ j)).toNat
theorem clr_lt (w j : Nat) : clr w j < 18446744073709551616 := by
  have := (BitVec.ofNat 64 w &&& ~~~ BitVec.ofNat 64 (2 ^ j)).isLt
  rw [pow64] at this
  exact this
theorem clr_bit {w j i : Nat} (hi : i < 64) : (clr w j).testBit i = (w.testBit i && decide (i ≠ j)) := by
  unfold clr
  rw [BitVec.testBit_toNat, BitVec.getLsbD_and, BitVec.getLsbD_not, BitVec.getLsbD_ofNat, BitVec.getLsbD_ofNat, Nat.testBit_two_pow, decide_eq_true hi]
  simp [eq_comm]
theorem andNot_go {w j : Nat} (hw : w < 18446744073709551616) (hj : j < 64) : bits .andNot .u64 (w : Int) ((2 ^ j : Nat) : Int) = ((clr w j : Nat) : Int) := by
  have hp : 2 ^ j < 18446744073709551616 := by rw [← pow64]; exact Nat.pow_lt_pow_right (by decide) hj
  have hc := clr_lt w j
  show IntKind.u64.wrap ((BitVec.ofInt 64 (w : Int) &&& ~~~ BitVec.ofInt 64 ((2 ^ j : Nat) : Int)).toNat : Int) = _
  rw [show BitVec.ofInt 64 (w : Int) = BitVec.ofNat 64 w from BitVec.ofInt_natCast 64 w, show BitVec.ofInt 64 ((2 ^ j : Nat) : Int) = BitVec.ofNat 64 (2 ^ j) from BitVec.ofInt_natCast 64 _]
  exact IntWalk.u64_in _ (by unfold clr at hc; omega)
/-- A bit string without a bit, k its place from 0 on. -/
def clrB (x : Bt) (k : Nat) : Bt := if k / 64 = 0 then { x with a := clr x.a (k % 64) } else if k / 64 = 1 then { x with b := clr x.b (k % 64) } else if k / 64 = 2 then { x with c := clr x.c (k % 64) } else { x with d := clr x.d (k % 64) }
theorem clrB_ok {x : Bt} (h : x.ok) (k : Nat) : (clrB x k).ok := by
  obtain ⟨h1, h2, h3, h4⟩ := h
  unfold clrB
  split
  · exact ⟨clr_lt _ _, h2, h3, h4⟩
  · split
    · exact ⟨h1, clr_lt _ _, h3, h4⟩
    · split
      · exact ⟨h1, h2, clr_lt _ _, h4⟩
      · exact ⟨h1, h2, h3, clr_lt _ _⟩
theorem clrB_w {x : Bt} {k i : Nat} (hk : k < 256) (hi : i < 4) : (clrB x k).w i = if i = k / 64 then clr (x.w i) (k % 64) else x.w i := by
  unfold clrB
  have hk4 : k / 64 < 4 := by omega
  generalize k / 64 = q at *
  obtain rfl | rfl | rfl | rfl : q = 0 ∨ q = 1 ∨ q = 2 ∨ q = 3 := by omega
  all_goals (obtain rfl | rfl | rfl | rfl : i = 0 ∨ i = 1 ∨ i = 2 ∨ i = 3 := by omega) <;> rfl
theorem clrB_bit {x : Bt} (h : x.ok) {k i : Nat} (hk : k < 256) (hi : i < 256) : (clrB x k).num.testBit i = (x.num.testBit i && decide (i ≠ k)) := by
  rw [num_bit (clrB_ok h k) hi, num_bit h hi, clrB_w hk (by omega)]
  by_cases hq : i / 64 = k / 64
  · rw [if_pos hq, clr_bit (Nat.mod_lt _ (by decide))]
    congr 1
    by_cases hik : i = k
    · rw [hik]; simp
    · rw [decide_eq_true hik, decide_eq_true]
      omega
  · rw [if_neg hq, decide_eq_true (show i ≠ k from fun e => hq (by rw [e])), Bool.and_true]
/-- No bit is above: below. -/
theorem num_lt_of_bits {x : Bt} (h : x.ok) {w : Nat} (hb : ∀ i, w ≤ i → i < 256 → x.num.testBit i = false) : x.num < 2 ^ w := by
  apply Nat.lt_pow_two_of_testBit
  intro i hi
  by_cases h2 : i < 256
  · exact hb i hi h2
  · exact Nat.testBit_lt_two_pow (Nat.lt_of_lt_of_le (Bt.num_lt h) (Nat.pow_le_pow_right (by decide) (by omega)))

end Go.Proofs.YtickjmkkgcfkhaaGreat

/- Contracts of the reference's header: a width's code, is it a width, the size. -/
set_option linter.unusedSimpArgs false
set_option linter.unusedVariables false
set_option maxRecDepth 100000
namespace Go.Proofs.YtickjmkkgcfkhaaGreat
open Go.RowKit Go.ChangeShapes Go.WideShapes

def codeI (w : Int) : Int := if wide w = true then (codeN w : Int) else -1
theorem code_found {w : Int} {k : Nat} (hk : k < 6) (h : ((8 * 2 ^ k : Nat) : Int) = w) : codeI w = k := by
  subst h
  rw [codeI, if_pos (wide_code (show k ≤ 5 by omega)).1, (wide_code (show k ≤ 5 by omega)).2.1]
theorem code_none {w : Int} (h : ∀ j, j < 6 → ((8 * 2 ^ j : Nat) : Int) ≠ w) : codeI w = -1 := by
  rw [codeI, if_neg]
  intro hw
  obtain ⟨h1, h2, _⟩ := codeN_wid hw
  exact h (codeN w) (by omega) h1.symm
def CodeRel (w : Int) (i : Value) : Prop := ∃ k : Nat, i = .int .i64 k ∧ k ≤ 6 ∧ ∀ j, j < k → ((8 * 2 ^ j : Nat) : Int) ≠ w
set_option maxHeartbeats 1600000 in
theorem code_any (w : Int) (W : World) : Calls Tryz.prog 93 #[.int .i64 w] W fun e W' => e = .returned (.int .i64 (codeI w)) ∧ W = W' := by
  have H0 := Lib.hid (show CodeRel w (.int .i64 0) from ⟨0, rfl, by omega, fun j hj => absurd hj (by omega)⟩)
  go_enter Tryz.func93, Tryz.ntmps93
  go_wp2_with fail
  go_loop [3] (fun i => CodeRel w i) (fun i => 7 - (intOf i).toNat)
  case atStart => exact H0.out
  case round =>
    obtain ⟨k, rfl, hk, hne⟩ := hrel
    by_cases hlt : k < 6
    · obtain ⟨z, hz⟩ : ∃ z : Nat, z = 8 * 2 ^ k := ⟨_, rfl⟩
      have hp1 : 1 ≤ 2 ^ k := Nat.pow_pos (by decide)
      have hp2 : 2 ^ k ≤ 32 := Nat.le_trans (Nat.pow_le_pow_right (by decide) (show k ≤ 5 by omega)) (by decide)
      have d3 : IntKind.i64.wrap (8 * 2 ^ k) = (z : Int) := by rw [show (8 * 2 ^ k : Int) = ((8 * 2 ^ k : Nat) : Int) from by simp, ← hz]; exact IntWalk.i64_in _ (by omega)
      have d4 : wrap64 (8 * 2 ^ k) = (z : Int) := by unfold wrap64; rw [show (8 * 2 ^ k : Int) = ((8 * 2 ^ k : Nat) : Int) from by simp, ← hz]; omega
      have hku : IntKind.u64.wrap (k : Int) = (k : Int) := IntWalk.u64_in _ (by omega)
      have hkw : IntKind.i64.wrap ((k : Int) + 1) = (k : Int) + 1 := IntWalk.i64_in _ (by omega)
      by_cases he : (z : Int) = w
      · have HE := Lib.hid (code_found (w := w) hlt (by rw [← hz]; exact he))
        have ht : ((z : Int) == w) = true := by rw [beq_iff_eq]; exact he
        clear he hz hp1 hp2 hne
        go_wp2_with fail
        go_returns
        exact ⟨by rw [HE.out]; rfl, rfl⟩
      · have ht : ((z : Int) == w) = false := by rw [beq_eq_false_iff_ne]; exact he
        have HREL := Lib.hid (show CodeRel w (.int .i64 ((k : Int) + 1)) from ⟨k + 1, by simp, by omega, fun j hj => by
          by_cases hjk : j = k
          · rw [hjk, ← hz]; exact he
          · exact hne j (by omega)⟩)
        clear he hz hp1 hp2 hne
        go_wp2_with fail
        go_round
        case rel => exact HREL.out
        case measure => simp [intOf]; omega
    · obtain rfl : k = 6 := by omega
      have HE := Lib.hid (code_none hne)
      clear hne
      go_wp2_with fail
      go_returns
      exact ⟨by rw [HE.out]; rfl, rfl⟩
theorem hrwide_any (w : Int) (W : World) : Calls Tryz.prog 73 #[.int .i64 w] W fun e W' => e = .returned (.bool (wide w)) ∧ W = W' := by
  have HC := Lib.hid (code_any w W)
  have HE := Lib.hid (show decide (0 ≤ codeI w) = wide w by
    unfold codeI
    by_cases h : wide w = true
    · rw [if_pos h, h]; exact decide_eq_true (by omega)
    · rw [if_neg h, show wide w = false by simpa using h]; rfl)
  go_enter Tryz.func73, Tryz.ntmps73
  go_wp2_with fail
  refine HC.out.mono ?_
  rintro e V ⟨rfl, rfl⟩
  go_wp2_with fail
  go_returns
  exact ⟨by rw [← HE.out]; rfl, rfl⟩
theorem hrsize_any (n : Int) (W : World) : Calls Tryz.prog 30 #[.int .i64 n] W fun e W' => e = .returned (.tuple #[.int .i64 (sizeV n), .int .i64 (sizeE n)]) ∧ W = W' := by
  have HW := Lib.hid (hrwide_any n W)
  by_cases hw : wide n = true
  · have HE := Lib.hid (show sizeV n = 15 + n / 8 by rw [sizeV, if_pos hw])
    have HF := Lib.hid (show sizeE n = 0 by rw [sizeE, if_pos hw])
    have hc := wide_cases hw
    have hq0 : 8 ≤ n := by omega
    have hq1 : n ≤ 256 := by omega
    have HB := Lib.hid hw
    clear hw hc
    go_enter Tryz.func30, Tryz.ntmps30
    go_wp2_with fail
    refine HW.out.mono ?_
    rintro e V ⟨rfl, rfl⟩
    rw [HB.out]
    have hd : n.tdiv 8 = n / 8 := Int.tdiv_eq_ediv_of_nonneg (by omega)
    go_wp2_with fail
    go_ret2
    refine ⟨?_, rfl⟩
    rw [HE.out, HF.out]
    rfl
  · have HE := Lib.hid (show sizeV n = 0 by rw [sizeV, if_neg hw])
    have HF := Lib.hid (show sizeE n = 2 by rw [sizeE, if_neg hw])
    have HB := Lib.hid (show wide n = false by simpa using hw)
    clear hw
    go_enter Tryz.func30, Tryz.ntmps30
    go_wp2_with fail
    refine HW.out.mono ?_
    rintro e V ⟨rfl, rfl⟩
    rw [HB.out]
    go_wp2_with fail
    go_ret2
    refine ⟨?_, rfl⟩
    rw [HE.out, HF.out]
    rfl

end Go.Proofs.YtickjmkkgcfkhaaGreat

/- Contracts of the reference's bits: is it one, has it, which. -/
set_option linter.unusedSimpArgs false
set_option linter.unusedVariables false
set_option maxRecDepth 100000
namespace Go.Proofs.YtickjmkkgcfkhaaGreat
open Go.RowKit Go.ChangeShapes Go.WideShapes

theorem right1_any (n : Nat) (W : World) (h1 : 1 ≤ n) (h2 : n ≤ 256) : Calls Tryz.prog 104 #[.int .i64 n] W fun e W' => e = .returned (.bool true) ∧ W = W' := by
  have hr1 : decide ((1 : Int) ≤ (n : Int)) = true := decide_eq_true (by omega)
  have hr2 : decide ((n : Int) ≤ 256) = true := decide_eq_true (by omega)
  go_enter Tryz.func104, Tryz.ntmps104
  go_wp2_with fail
  go_returns
  exact ⟨rfl, rfl⟩

/-- Its bit n, from 1 on. -/
def Bt.bit (x : Bt) (n : Nat) : Nat := x.w ((n - 1) / 64) / 2 ^ ((n - 1) % 64) % 2

theorem bit_run (w k : Nat) (hw : w < 18446744073709551616) : (bits BinOp.and IntKind.u64 ((w : Int) / 2 ^ k) 1 == 1) = (w / 2 ^ k % 2 == 1) := by
  have e : ((w : Int) / 2 ^ k) = ((w / 2 ^ k : Nat) : Int) := by simp
  have h1 : bits .and .u64 ((w / 2 ^ k : Nat) : Int) (1 : Int) = ((w / 2 ^ k &&& 1 : Nat) : Int) := u64_and_nat _ 1 (Nat.lt_of_le_of_lt (Nat.div_le_self _ _) hw) (by decide)
  rw [e, h1, Nat.and_one_is_mod, Bool.eq_iff_iff]
  simp only [beq_iff_eq]
  omega

theorem has1_any (x : Bt) (n : Nat) (W : World) (hx : x.ok) (h1 : 1 ≤ n) (h2 : n ≤ 256) : Calls Tryz.prog 103 #[x.ag, .int .i64 n] W fun e W' => e = .returned (.bool (x.bit n == 1)) ∧ Below W.heap.size W W' := by
  obtain ⟨W1, hW1⟩ : ∃ W1, W1 = W.alloc (.cells #[.int .u64 x.a, .int .u64 x.b, .int .u64 x.c, .int .u64 x.d] 30) := ⟨_, rfl⟩
  have hb1 : Below W.heap.size W W1 := by rw [hW1]; exact (Below.refl _ _).alloc (Nat.le_refl _) _
  have hc : W1.cell? ⟨W.heap.size, (n - 1) / 64, none⟩ = some (.int .u64 (x.w ((n - 1) / 64) : Nat)) := by
    rw [hW1, cell_of_row _ _ _ _ _ _ (heap_alloc_new _ _)]
    obtain h | h | h | h : (n - 1) / 64 = 0 ∨ (n - 1) / 64 = 1 ∨ (n - 1) / 64 = 2 ∨ (n - 1) / 64 = 3 := by omega
    all_goals rw [h]; rfl
  obtain ⟨m, rfl⟩ : ∃ m, n = m + 1 := ⟨n - 1, by omega⟩
  have hm : m < 256 := by omega
  simp only [Nat.add_sub_cancel] at hc
  have hq : m / 64 < 4 := by omega
  have HR := Lib.hid (right1_any (m + 1) W1 h1 h2)
  have HW1 := Lib.hid hW1
  have HB := Lib.hid hb1
  clear hW1 hb1 h1 h2
  go_enter Tryz.func103, Tryz.ntmps103
  unfold Bt.ag Bt.cs
  go_wp2_with fail
  rw [← HW1.out]
  refine HR.out.mono ?_
  rintro e w ⟨rfl, rfl⟩
  go_wp2_with fail
  go_returns
  exact ⟨by rw [bit_run _ _ (Bt.w_lt hx _)]; rfl, HB.out⟩

/-- The bits up to k, rising. -/
def Bt.upto (x : Bt) : Nat → List Nat
  | 0 => []
  | k + 1 => if x.bit (k + 1) = 1 then x.upto k ++ [k + 1] else x.upto k
theorem Bt.upto_len (x : Bt) : ∀ k, (x.upto k).length ≤ k
  | 0 => Nat.le_refl _
  | k + 1 => by
    have := Bt.upto_len x k
    rw [Bt.upto]
    split
    · rw [List.length_append, List.length_singleton]; omega
    · omega
def intsV (l : List Nat) : List Value := l.map fun n : Nat => Value.int .i64 (n : Int)
theorem infoI : (Tryz.prog.info? 3).map (fun i => (i.zero, i.size, i.bytes)) = some (some (.int .i64 0), 1, 8) := by kernel_rfl
def ListRel (W : World) (x : Bt) (out i : Value) (wr : World) : Prop :=
  ∃ k : Nat, i = .int .i64 ((k : Int) + 1) ∧ k ≤ 256 ∧ Row wr (W.heap.size + 1) 3 1 out (x.upto k).length (intsV (x.upto k)) ∧ wr.heap[W.heap.size]? = some (.cells #[.int .u64 x.a, .int .u64 x.b, .int .u64 x.c, .int .u64 x.d] 30 (0, 0)) ∧ Below W.heap.size W wr

set_option maxRecDepth 100000 in
set_option maxHeartbeats 1600000 in
theorem list1_any (x : Bt) (W : World) (hx : x.ok) : Calls Tryz.prog 94 #[x.ag] W fun e W' => ∃ v, e = .returned v ∧ Row W' W.heap.size 3 1 v (x.upto 256).length (intsV (x.upto 256)) ∧ Below W.heap.size W W' := by
  obtain ⟨W1, hW1⟩ : ∃ W1, W1 = W.alloc (.cells #[.int .u64 x.a, .int .u64 x.b, .int .u64 x.c, .int .u64 x.d] 30) := ⟨_, rfl⟩
  have hb1 : Below W.heap.size W W1 := by rw [hW1]; exact (Below.refl _ _).alloc (Nat.le_refl _) _
  have h0 : ListRel W x (.slice none 0 0) (.int .i64 1) W1 := ⟨0, rfl, by omega, Row.nil_ _ _ _ _, by rw [hW1]; exact heap_alloc_new _ _, hb1⟩
  have HW1 := Lib.hid hW1
  have H0 := Lib.hid h0
  clear hW1 hb1 h0
  go_enter Tryz.func94, Tryz.ntmps94
  unfold Bt.ag Bt.cs
  go_wp2_with fail
  rw [← HW1.out]
  go_loopw [3, 4] (fun out i wr => ListRel W x out i wr) (fun _ i _ => 257 - (intOf i).toNat)
  case atStart => exact H0.out
  case round =>
    obtain ⟨k, rfl, hk, hr, hbx, hb⟩ := hrel
    by_cases hlt : k < 256
    · obtain ⟨n, hn⟩ : ∃ n, n = k + 1 := ⟨_, rfl⟩
      have hni : (k : Int) + 1 = (n : Int) := by omega
      have hle : decide ((n : Int) ≤ 256) = true := decide_eq_true (by omega)
      have hn1 : 1 ≤ n := by omega
      have hn2 : n ≤ 256 := by omega
      have c0 := cell_of_row _ _ 0 _ _ _ hbx
      have c1 := cell_of_row _ _ 1 _ _ _ hbx
      have c2 := cell_of_row _ _ 2 _ _ _ hbx
      have c3 := cell_of_row _ _ 3 _ _ _ hbx
      simp only [List.getElem?_toArray, List.getElem?_cons_zero, List.getElem?_cons_succ] at c0 c1 c2 c3
      have hs := Bt.upto_len x k
      have HH := Lib.hid (has1_any x n wr hx hn1 hn2)
      have HU := Lib.hid (show x.upto n = if x.bit n = 1 then x.upto k ++ [n] else x.upto k by rw [hn]; rfl)
      have HN := Lib.hid hn
      have HR := Lib.hid hr
      have HB := Lib.hid hb
      have HBX := Lib.hid hbx
      clear hn hr hb hbx
      obtain ⟨out_a, ocap, ho, _, _⟩ := HR.out.shape
      subst ho
      go_wp2_with fail
      refine HH.out.mono ?_
      rintro e V ⟨rfl, hV⟩
      have HRV := Lib.hid (HR.out.later hV)
      have HBV := Lib.hid (HB.out.trans (hV.mono HB.out.size))
      have HBXV := Lib.hid ((hV.block _ (Array.getElem?_eq_some_iff.1 HBX.out).1).trans HBX.out)
      clear hV c0 c1 c2 c3
      by_cases hbit : x.bit n = 1
      · have hbb : (x.bit n == 1) = true := by rw [beq_iff_eq]; exact hbit
        have hup := HU.out
        rw [if_pos hbit] at hup
        have HUP := Lib.hid hup
        obtain ⟨i0, hi, hz0, hz1, hz2⟩ := info_parts infoI
        clear hup hbit
        go_wp2_with (at_builtin; refine wpList_append_one _ rfl (.tmp 12) (.tmp 14) 114 rfl (W.heap.size + 1) 3 i0 (.int .i64 0) 8 Tryz.underlying114 hi hz0 hz1 hz2 rfl _ _ _ _ HRV.out rfl rfl rfl ?c3 ?c4 (Array.getElem?_eq_some_iff.1 HBXV.out).1 ?_)
        case c3 => unfold maxLen; omega
        case c4 => omega
        intro v' w' hrow' hg
        have HREL := Lib.hid (show ListRel W x v' (.int .i64 ((n : Int) + 1)) w' from by
          refine ⟨n, rfl, hn2, ?_, ?_, ?_⟩
          · rw [HUP.out]
            simpa [intsV] using hrow'
          · exact (hg.block _ (by rw [World.size_alloc]; have := (Array.getElem?_eq_some_iff.1 HBXV.out).1; omega) (fun e => by have := (HRV.out.lt _ e.symm).1; omega)).trans ((Below.heap_alloc V _ _ (Array.getElem?_eq_some_iff.1 HBXV.out).1).trans HBXV.out)
          · exact below_one HBV.out HBV.out.size hg fun q hq => by have := (HRV.out.lt _ hq).1; omega)
        clear hrow' hg hi hz0 hz1 hz2
        go_wp2_with fail
        go_roundw
        case rel => first | exact HREL.out | ((repeat apply Exists.intro); exact ⟨HREL.out, rfl⟩)
        case measure => simp [intOf]; omega
      · have hbb : (x.bit n == 1) = false := by rw [beq_eq_false_iff_ne]; exact hbit
        have hup := HU.out
        rw [if_neg hbit] at hup
        have HREL := Lib.hid (show ListRel W x (.slice out_a (x.upto k).length ocap) (.int .i64 ((n : Int) + 1)) V from ⟨n, rfl, hn2, by rw [hup]; exact HRV.out, HBXV.out, HBV.out⟩)
        clear hup hbit
        go_wp2_with fail
        go_roundw
        case rel => first | exact HREL.out | ((repeat apply Exists.intro); exact ⟨HREL.out, rfl⟩)
        case measure => simp [intOf]; omega
    · obtain rfl : k = 256 := by omega
      obtain ⟨c, hc⟩ : ∃ c, c = (x.upto 256).length := ⟨_, rfl⟩
      have HE := Lib.hid (And.intro (hr.more (Nat.le_succ _)) hb)
      clear hr hb hbx hc
      go_wp2_with fail
      go_returns
      exact ⟨_, rfl, HE.out⟩


end Go.Proofs.YtickjmkkgcfkhaaGreat

/- Contract of the reference's Below: none above a width. -/
set_option linter.unusedSimpArgs false
set_option linter.unusedVariables false
set_option maxRecDepth 100000
namespace Go.Proofs.YtickjmkkgcfkhaaGreat
open Go.RowKit Go.ChangeShapes Go.WideShapes

theorem bit_test {x : Bt} (hx : x.ok) {m : Nat} (h1 : 1 ≤ m) (h2 : m ≤ 256) : x.bit m = 1 ↔ x.num.testBit (m - 1) = true := by
  rw [num_bit hx (by omega), Nat.testBit_eq_decide_div_mod_eq, decide_eq_true_eq]
  rfl
theorem upto_mem (x : Bt) (m : Nat) : ∀ k, m ∈ x.upto k ↔ 1 ≤ m ∧ m ≤ k ∧ x.bit m = 1
  | 0 => by simp [Bt.upto]; omega
  | k + 1 => by
    rw [Bt.upto]
    split
    · rename_i h
      rw [List.mem_append, upto_mem x m k, List.mem_singleton]
      constructor
      · rintro (⟨a, b, c⟩ | rfl)
        · exact ⟨a, by omega, c⟩
        · exact ⟨by omega, by omega, h⟩
      · rintro ⟨a, b, c⟩
        by_cases e : m = k + 1
        · exact .inr e
        · exact .inl ⟨a, by omega, c⟩
    · rename_i h
      rw [upto_mem x m k]
      constructor
      · rintro ⟨a, b, c⟩; exact ⟨a, by omega, c⟩
      · rintro ⟨a, b, c⟩
        refine ⟨a, ?_, c⟩
        by_cases e : m = k + 1
        · rw [e] at c; exact absurd c h
        · omega
theorem upto_last (x : Bt) : ∀ k, x.upto k = [] ∨ ∃ pre z, x.upto k = pre ++ [z] ∧ (∀ m ∈ x.upto k, m ≤ z) ∧ z ≤ k
  | 0 => .inl rfl
  | k + 1 => by
    rw [Bt.upto]
    split
    · refine .inr ⟨x.upto k, k + 1, rfl, fun m hm => ?_, Nat.le_refl _⟩
      rcases List.mem_append.1 hm with h | h
      · exact Nat.le_succ_of_le ((upto_mem x m k).1 h).2.1
      · rw [List.mem_singleton] at h; omega
    · rcases upto_last x k with h | ⟨pre, z, h1, h2, h3⟩
      · exact .inl h
      · exact .inr ⟨pre, z, h1, h2, by omega⟩
theorem below_upto {x : Bt} (hx : x.ok) {w : Nat} (hw : w ≤ 256) : x.num < 2 ^ w ↔ ∀ m ∈ x.upto 256, m ≤ w := by
  constructor
  · intro h m hm
    obtain ⟨h1, h2, h3⟩ := (upto_mem x m 256).1 hm
    have h4 := (bit_test hx h1 h2).1 h3
    by_cases hmw : m ≤ w
    · exact hmw
    · have h5 := Nat.testBit_lt_two_pow (Nat.lt_of_lt_of_le h (Nat.pow_le_pow_right (by decide) (show w ≤ m - 1 by omega)))
      rw [h5] at h4; cases h4
  · intro h
    apply num_lt_of_bits hx
    intro i hi h256
    by_cases hb : x.num.testBit i = true
    · have := h (i + 1) ((upto_mem x (i + 1) 256).2 ⟨by omega, by omega, (bit_test hx (by omega) (by omega)).2 (by simpa using hb)⟩)
      omega
    · simpa using hb
set_option maxRecDepth 100000 in
set_option maxHeartbeats 3200000 in
theorem rbelow_any (x : Bt) (n : Int) (W : World) (hx : x.ok) (hn : I64 n) : Calls Tryz.prog 75 #[x.ag, .int .i64 n] W fun e W' => e = .returned (.bool (below x n)) ∧ Below W.heap.size W W' := by
  obtain ⟨W1, hW1⟩ : ∃ W1, W1 = W.alloc (.cells x.cs 30) := ⟨_, rfl⟩
  have hb1 : Below W.heap.size W W1 := by rw [hW1]; exact (Below.refl _ _).alloc (Nat.le_refl _) _
  have hbx : BoxBt W.heap.size x W1 := by rw [hW1]; exact heap_alloc_new _ _
  obtain ⟨x0, x1, x2, x3⟩ := hbx.cells
  have HB1 := Lib.hid hb1
  have HL := Lib.hid (list1_any x W1 hx)
  have HLA := Lib.hid (upto_last x 256)
  have HBU := Lib.hid (fun w hw => below_upto hx (w := w) hw)
  have hll := Bt.upto_len x 256
  unfold Bt.cs at hW1
  have HW1 := Lib.hid hW1
  clear hW1 hb1 hbx
  go_enter Tryz.func75, Tryz.ntmps75
  unfold Bt.ag Bt.cs at *
  go_wp2_with fail
  rw [← HW1.out]
  refine HL.out.mono ?_
  rintro e V ⟨v, rfl, hr, hb⟩
  have HB := Lib.hid (HB1.out.trans (hb.mono HB1.out.size))
  obtain ⟨l, hl⟩ : ∃ l, l = x.upto 256 := ⟨_, rfl⟩
  rw [← hl] at hr hll HLA HBU
  clear hb x0 x1 x2 x3 hl
  by_cases h0 : 0 ≤ n
  · have d0 : decide (0 ≤ n) = true := decide_eq_true h0
    by_cases h1 : n ≤ 256
    · have d1 : decide (n ≤ 256) = true := decide_eq_true h1
      obtain ⟨w, rfl⟩ : ∃ w : Nat, n = w := ⟨n.toNat, by omega⟩
      have hbw := HBU.out w (by omega)
      rcases HLA.out with h | ⟨pre, z, h2, h3, h4⟩
      · have HE := Lib.hid (show below x (w : Int) = true from decide_eq_true ⟨by omega, by omega, by rw [Int.toNat_natCast, hbw, h]; simp⟩)
        subst h
        obtain ⟨a, cap, rfl, _, _⟩ := hr.shape
        clear hr hbw
        go_wp2_with fail
        go_returns
        exact ⟨by rw [HE.out]; rfl, HB.out⟩
      · have HE := Lib.hid (show below x (w : Int) = decide (z ≤ w) by
          unfold below
          apply Bool.eq_iff_iff.2
          rw [decide_eq_true_eq, decide_eq_true_eq, Int.toNat_natCast]
          constructor
          · rintro ⟨_, _, h⟩
            exact hbw.1 h z (by rw [h2]; simp)
          · intro h
            exact ⟨by omega, by omega, hbw.2 (fun m hm => by have := h3 m hm; omega)⟩)
        obtain ⟨k, hk⟩ : ∃ k, l.length = k + 1 := ⟨pre.length, by rw [h2, List.length_append]; rfl⟩
        have hz : (intsV l)[k]? = some (.int .i64 z) := by
          have hpk : pre.length = k := by rw [h2, List.length_append] at hk; simpa using hk
          rw [intsV, h2, List.map_append, List.getElem?_append_right (by simp; omega)]
          simp [hpk]
        rw [hk] at hr
        obtain ⟨g, cap, rfl, _, hglt, hcap, hcm, hcells, hfrz⟩ := Row.form hr (by omega)
        have hc0 := (hcells k (by omega)).trans hz
        have hk256 : k < 256 := by omega
        have hkw : IntKind.i64.wrap ((k : Int) + 1 - 1) = (k : Int) := by rw [Int.add_sub_cancel]; exact IntWalk.i64_in _ (by omega)
        have hnz : ((k : Int) + 1 == 0) = false := by rw [beq_eq_false_iff_ne]; omega
        clear hr hbw hz hcells hfrz h3 h2 hk
        go_wp2_with fail
        go_returns
        exact ⟨by rw [HE.out]; rfl, HB.out⟩
    · have d1 : decide (n ≤ 256) = false := decide_eq_false h1
      have HE := Lib.hid (show below x n = false from decide_eq_false (fun h => h1 h.2.1))
      obtain ⟨a, cap, rfl, _, _⟩ := hr.shape
      clear hr
      go_wp2_with fail
      go_returns
      exact ⟨by rw [HE.out]; rfl, HB.out⟩
  · have d0 : decide (0 ≤ n) = false := decide_eq_false h0
    have HE := Lib.hid (show below x n = false from decide_eq_false (fun h => h0 h.1))
    obtain ⟨a, cap, rfl, _, _⟩ := hr.shape
    clear hr
    go_wp2_with fail
    go_returns
    exact ⟨by rw [HE.out]; rfl, HB.out⟩

end Go.Proofs.YtickjmkkgcfkhaaGreat

/- Contract of the reference's Check: may a header be. -/
set_option linter.unusedSimpArgs false
set_option linter.unusedVariables false
set_option maxRecDepth 100000
namespace Go.Proofs.YtickjmkkgcfkhaaGreat
open Go.RowKit Go.ChangeShapes Go.WideShapes

set_option maxRecDepth 100000 in
set_option maxHeartbeats 6400000 in
theorem rhcheck_any (h : Hd) (W : World) (hk : h.ok) : Calls Tryz.prog 33 #[h.ag] W fun e W' => e = .returned (.int .i64 h.err) ∧ Below W.heap.size W W' := by
  obtain ⟨W1, hW1⟩ : ∃ W1, W1 = W.alloc (.cells h.cs 32) := ⟨_, rfl⟩
  have hb1 : Below W.heap.size W W1 := by rw [hW1]; exact (Below.refl _ _).alloc (Nat.le_refl _) _
  have hbx : BoxH W.heap.size h W1 := by rw [hW1]; exact heap_alloc_new _ _
  have HBX := Lib.hid hbx
  have HW1 := Lib.hid hW1
  have HB1 := Lib.hid hb1
  have HCS := Lib.hid h.chk_cases
  have HK := Lib.hid hk
  have HWD := Lib.hid (fun V => hrwide_any h.wid V)
  have HBL := Lib.hid (fun V => rbelow_any h.bits h.wid V hk.2.2.2.2.2.2.2 hk.1)
  clear hW1 hb1 hk
  rcases HCS.out with ⟨c0, he⟩ | ⟨c0, c1, he⟩ | ⟨c0, c1, c2, he⟩ | ⟨c0, c1, c2, c3, he⟩ | ⟨c0, c1, c2, c3, c4, he⟩ | ⟨c0, c1, c2, c3, c4, c5, he⟩ | ⟨c0, c1, c2, c3, c4, c5, c6, he⟩ | ⟨c0, c1, c2, c3, c4, c5, c6, c7, he⟩ | ⟨c0, c1, c2, c3, c4, c5, c6, c7, c8, he⟩ | ⟨c0, c1, c2, c3, c4, c5, c6, c7, c8, he⟩
  · have HE := Lib.hid he
    have H0 := Lib.hid c0
    clear c0 he
    obtain ⟨x0, x1, x2, x3, x4, x5, x6, x7, x8, x9, x10⟩ := hbx.cells
    clear hbx
    go_enter Tryz.func33, Tryz.ntmps33
    unfold Hd.ag Hd.cs at *
    go_wp2_with fail
    rw [← HW1.out]
    refine (HWD.out _).mono ?_
    rintro e V ⟨rfl, rfl⟩
    rw [H0.out]
    go_wp2_with fail
    go_returns
    exact ⟨by rw [HE.out]; rfl, HB1.out⟩
  · have HE := Lib.hid he
    have H0 := Lib.hid c0
    have d1 : decide (h.set < 0) = true := decide_eq_true (by omega)
    clear c0 he c1
    obtain ⟨x0, x1, x2, x3, x4, x5, x6, x7, x8, x9, x10⟩ := hbx.cells
    clear hbx
    go_enter Tryz.func33, Tryz.ntmps33
    unfold Hd.ag Hd.cs at *
    go_wp2_with fail
    rw [← HW1.out]
    refine (HWD.out _).mono ?_
    rintro e V ⟨rfl, rfl⟩
    rw [H0.out]
    go_wp2_with fail
    go_returns
    exact ⟨by rw [HE.out]; rfl, HB1.out⟩
  · have HE := Lib.hid he
    have H0 := Lib.hid c0
    have d1 : decide (h.set < 0) = false := decide_eq_false (by omega)
    have d2 : decide (128 ≤ h.set) = true := decide_eq_true (by omega)
    clear c0 he c1 c2
    obtain ⟨x0, x1, x2, x3, x4, x5, x6, x7, x8, x9, x10⟩ := hbx.cells
    clear hbx
    go_enter Tryz.func33, Tryz.ntmps33
    unfold Hd.ag Hd.cs at *
    go_wp2_with fail
    rw [← HW1.out]
    refine (HWD.out _).mono ?_
    rintro e V ⟨rfl, rfl⟩
    rw [H0.out]
    go_wp2_with fail
    go_returns
    exact ⟨by rw [HE.out]; rfl, HB1.out⟩
  · have HE := Lib.hid he
    have H0 := Lib.hid c0
    have d1 : decide (h.set < 0) = false := decide_eq_false (by omega)
    have d2 : decide (128 ≤ h.set) = false := decide_eq_false (by omega)
    have d3 : decide (h.hops < 0) = true := decide_eq_true (by omega)
    clear c0 he c1 c2 c3
    obtain ⟨x0, x1, x2, x3, x4, x5, x6, x7, x8, x9, x10⟩ := hbx.cells
    clear hbx
    go_enter Tryz.func33, Tryz.ntmps33
    unfold Hd.ag Hd.cs at *
    go_wp2_with fail
    rw [← HW1.out]
    refine (HWD.out _).mono ?_
    rintro e V ⟨rfl, rfl⟩
    rw [H0.out]
    go_wp2_with fail
    go_returns
    exact ⟨by rw [HE.out]; rfl, HB1.out⟩
  · have HE := Lib.hid he
    have H0 := Lib.hid c0
    have d1 : decide (h.set < 0) = false := decide_eq_false (by omega)
    have d2 : decide (128 ≤ h.set) = false := decide_eq_false (by omega)
    have d3 : decide (h.hops < 0) = false := decide_eq_false (by omega)
    have d4 : decide (15 < h.hops) = true := decide_eq_true (by omega)
    clear c0 he c1 c2 c3 c4
    obtain ⟨x0, x1, x2, x3, x4, x5, x6, x7, x8, x9, x10⟩ := hbx.cells
    clear hbx
    go_enter Tryz.func33, Tryz.ntmps33
    unfold Hd.ag Hd.cs at *
    go_wp2_with fail
    rw [← HW1.out]
    refine (HWD.out _).mono ?_
    rintro e V ⟨rfl, rfl⟩
    rw [H0.out]
    go_wp2_with fail
    go_returns
    exact ⟨by rw [HE.out]; rfl, HB1.out⟩
  · have HE := Lib.hid he
    have H0 := Lib.hid c0
    have d1 : decide (h.set < 0) = false := decide_eq_false (by omega)
    have d2 : decide (128 ≤ h.set) = false := decide_eq_false (by omega)
    have d3 : decide (h.hops < 0) = false := decide_eq_false (by omega)
    have d4 : decide (15 < h.hops) = false := decide_eq_false (by omega)
    have d5 : decide (h.src < 1) = true := decide_eq_true (by omega)
    clear c0 he c1 c2 c3 c4 c5
    obtain ⟨x0, x1, x2, x3, x4, x5, x6, x7, x8, x9, x10⟩ := hbx.cells
    clear hbx
    go_enter Tryz.func33, Tryz.ntmps33
    unfold Hd.ag Hd.cs at *
    go_wp2_with fail
    rw [← HW1.out]
    refine (HWD.out _).mono ?_
    rintro e V ⟨rfl, rfl⟩
    rw [H0.out]
    go_wp2_with fail
    go_returns
    exact ⟨by rw [HE.out]; rfl, HB1.out⟩
  · have HE := Lib.hid he
    have H0 := Lib.hid c0
    have d1 : decide (h.set < 0) = false := decide_eq_false (by omega)
    have d2 : decide (128 ≤ h.set) = false := decide_eq_false (by omega)
    have d3 : decide (h.hops < 0) = false := decide_eq_false (by omega)
    have d4 : decide (15 < h.hops) = false := decide_eq_false (by omega)
    have d5 : decide (h.src < 1) = false := decide_eq_false (by omega)
    have d6 : decide (24 < h.src) = true := decide_eq_true (by omega)
    clear c0 he c1 c2 c3 c4 c5 c6
    obtain ⟨x0, x1, x2, x3, x4, x5, x6, x7, x8, x9, x10⟩ := hbx.cells
    clear hbx
    go_enter Tryz.func33, Tryz.ntmps33
    unfold Hd.ag Hd.cs at *
    go_wp2_with fail
    rw [← HW1.out]
    refine (HWD.out _).mono ?_
    rintro e V ⟨rfl, rfl⟩
    rw [H0.out]
    go_wp2_with fail
    go_returns
    exact ⟨by rw [HE.out]; rfl, HB1.out⟩
  · have HE := Lib.hid he
    have H0 := Lib.hid c0
    have d1 : decide (h.set < 0) = false := decide_eq_false (by omega)
    have d2 : decide (128 ≤ h.set) = false := decide_eq_false (by omega)
    have d3 : decide (h.hops < 0) = false := decide_eq_false (by omega)
    have d4 : decide (15 < h.hops) = false := decide_eq_false (by omega)
    have d5 : decide (h.src < 1) = false := decide_eq_false (by omega)
    have d6 : decide (24 < h.src) = false := decide_eq_false (by omega)
    have d7 : decide (h.grp < 0) = true := decide_eq_true (by omega)
    clear c0 he c1 c2 c3 c4 c5 c6 c7
    obtain ⟨x0, x1, x2, x3, x4, x5, x6, x7, x8, x9, x10⟩ := hbx.cells
    clear hbx
    go_enter Tryz.func33, Tryz.ntmps33
    unfold Hd.ag Hd.cs at *
    go_wp2_with fail
    rw [← HW1.out]
    refine (HWD.out _).mono ?_
    rintro e V ⟨rfl, rfl⟩
    rw [H0.out]
    go_wp2_with fail
    go_returns
    exact ⟨by rw [HE.out]; rfl, HB1.out⟩
  · have HE := Lib.hid he
    have H0 := Lib.hid c0
    have d1 : decide (h.set < 0) = false := decide_eq_false (by omega)
    have d2 : decide (128 ≤ h.set) = false := decide_eq_false (by omega)
    have d3 : decide (h.hops < 0) = false := decide_eq_false (by omega)
    have d4 : decide (15 < h.hops) = false := decide_eq_false (by omega)
    have d5 : decide (h.src < 1) = false := decide_eq_false (by omega)
    have d6 : decide (24 < h.src) = false := decide_eq_false (by omega)
    have d7 : decide (h.grp < 0) = false := decide_eq_false (by omega)
    have d8 : decide (8 ≤ h.grp) = true := decide_eq_true (by omega)
    clear c0 he c1 c2 c3 c4 c5 c6 c7 c8
    obtain ⟨x0, x1, x2, x3, x4, x5, x6, x7, x8, x9, x10⟩ := hbx.cells
    clear hbx
    go_enter Tryz.func33, Tryz.ntmps33
    unfold Hd.ag Hd.cs at *
    go_wp2_with fail
    rw [← HW1.out]
    refine (HWD.out _).mono ?_
    rintro e V ⟨rfl, rfl⟩
    rw [H0.out]
    go_wp2_with fail
    go_returns
    exact ⟨by rw [HE.out]; rfl, HB1.out⟩
  · have HE := Lib.hid he
    have H0 := Lib.hid c0
    have d1 : decide (h.set < 0) = false := decide_eq_false (by omega)
    have d2 : decide (128 ≤ h.set) = false := decide_eq_false (by omega)
    have d3 : decide (h.hops < 0) = false := decide_eq_false (by omega)
    have d4 : decide (15 < h.hops) = false := decide_eq_false (by omega)
    have d5 : decide (h.src < 1) = false := decide_eq_false (by omega)
    have d6 : decide (24 < h.src) = false := decide_eq_false (by omega)
    have d7 : decide (h.grp < 0) = false := decide_eq_false (by omega)
    have d8 : decide (8 ≤ h.grp) = false := decide_eq_false (by omega)
    clear c0 he c1 c2 c3 c4 c5 c6 c7 c8
    obtain ⟨x0, x1, x2, x3, x4, x5, x6, x7, x8, x9, x10⟩ := hbx.cells
    clear hbx
    go_enter Tryz.func33, Tryz.ntmps33
    unfold Hd.ag Hd.cs at *
    go_wp2_with fail
    rw [← HW1.out]
    refine (HWD.out _).mono ?_
    rintro e V ⟨rfl, rfl⟩
    rw [H0.out]
    go_wp2_with fail
    refine (HBL.out _).mono ?_
    rintro e V ⟨rfl, hb⟩
    have HB := Lib.hid (HB1.out.trans (hb.mono HB1.out.size))
    clear hb
    by_cases hbl : below h.bits h.wid = true
    · have HN := Lib.hid hbl
      clear hbl
      rw [HN.out]
      go_wp2_with fail
      go_returns
      exact ⟨by rw [HE.out, HN.out]; rfl, HB.out⟩
    · have HN := Lib.hid (show below h.bits h.wid = false by simpa using hbl)
      clear hbl
      rw [HN.out]
      go_wp2_with fail
      go_returns
      exact ⟨by rw [HE.out, HN.out]; rfl, HB.out⟩

end Go.Proofs.YtickjmkkgcfkhaaGreat
