/- Several texts in one: RfC, RfD, MsRA. Each says in its own first comment what it proves. -/
import Derived.Test.YtickjmkkgcfkhaaHdK
import Derived.Test.YtickjmkkgcfkhaaHdF
import Derived.Test.YtickjmkkgcfkhaaRfB
import Derived.Test.YtickjmkkgcfkhaaHdG
import Derived.Test.YtickjmkkgcfkhaaRegion3
import Derived.Test.YtickjmkkgcfkhaaMsD
import Derived.Test.YtickjmkkgcfkhaaMsF
/- Contracts: the laws' example, header.Hop, header.With. -/
set_option linter.unusedSimpArgs false
set_option linter.unusedVariables false
set_option maxRecDepth 100000
namespace Go.Proofs.Ytickjmkkgcfkhaa
open Go.RowKit Go.ChangeShapes Go.WideShapes

def exH : Hd := ⟨8, 2, 16909060, 15, 7, 3, 9, ⟨129, 0, 0, 0⟩⟩
def hopV (h : Hd) : Hd := if h.chk = true ∧ h.hops ≠ 0 then { h with hops := h.hops - 1 } else Hd.zero
def hopE (h : Hd) : Int := if h.chk = true then (if h.hops = 0 then 6 else 0) else 2
def withV (h : Hd) (b : Bt) : Hd := if h.chk = true ∧ below b h.wid = true then { h with bits := b } else Hd.zero
def withE (h : Hd) (b : Bt) : Int := if h.chk = true then (if below b h.wid = true then 0 else 3) else 2
end Go.Proofs.Ytickjmkkgcfkhaa

/- Bits of a bit string, plain: one is taken off. No program is in sight. -/
set_option linter.unusedSimpArgs false
set_option linter.unusedVariables false
namespace Go.Proofs.Ytickjmkkgcfkhaa
open Go.RowKit

/-- A bit of the number is one of a word. -/
theorem num_bit {x : Bt} (h : x.ok) {i : Nat} (hi : i < 256) : x.num.testBit i = (x.w (i / 64)).testBit (i % 64) := by
  obtain ⟨h1, h2, h3, h4⟩ := h
  rw [Nat.testBit_eq_decide_div_mod_eq, Nat.testBit_eq_decide_div_mod_eq]
  have hj : i % 64 < 64 := Nat.mod_lt _ (by decide)
  have hk : i / 64 < 4 := by omega
  have key : ∀ (a b j : Nat), j < 64 → (a + 18446744073709551616 * b) / 2 ^ j % 2 = a / 2 ^ j % 2 := by
    intro a b j hj
    have e : (18446744073709551616 : Nat) = 2 ^ j * (2 * 2 ^ (63 - j)) := by
      rw [← pow64, show (2 : Nat) * 2 ^ (63 - j) = 2 ^ (63 - j + 1) from by rw [Nat.pow_succ, Nat.mul_comm], ← Nat.pow_add]
      congr 1
      omega
    rw [e, Nat.mul_assoc, Nat.add_mul_div_left _ _ (Nat.pow_pos (by decide)), Nat.mul_assoc, Nat.add_mul_mod_self_left]
  have hs : 2 ^ i = 18446744073709551616 ^ (i / 64) * 2 ^ (i % 64) := by
    rw [← pow64, ← Nat.pow_mul, ← Nat.pow_add]
    congr 1
    omega
  rw [hs, ← Nat.div_div_eq_div_mul]
  generalize i % 64 = j at *
  congr 2
  obtain hk | hk | hk | hk : i / 64 = 0 ∨ i / 64 = 1 ∨ i / 64 = 2 ∨ i / 64 = 3 := by omega
  · rw [hk, Nat.pow_zero, Nat.div_one, Bt.num, key _ _ _ hj]
    rfl
  · rw [hk, Nat.pow_one, Bt.num, show (x.a + 18446744073709551616 * (x.b + 18446744073709551616 * (x.c + 18446744073709551616 * x.d))) / 18446744073709551616 = x.b + 18446744073709551616 * (x.c + 18446744073709551616 * x.d) from by omega, key _ _ _ hj]
    rfl
  · rw [hk, show (18446744073709551616 : Nat) ^ 2 = 340282366920938463463374607431768211456 from by decide, Bt.num, show (x.a + 18446744073709551616 * (x.b + 18446744073709551616 * (x.c + 18446744073709551616 * x.d))) / 340282366920938463463374607431768211456 = x.c + 18446744073709551616 * x.d from by omega, key _ _ _ hj]
    rfl
  · rw [hk, show (18446744073709551616 : Nat) ^ 3 = 6277101735386680763835789423207666416102355444464034512896 from by decide, Bt.num, show (x.a + 18446744073709551616 * (x.b + 18446744073709551616 * (x.c + 18446744073709551616 * x.d))) / 6277101735386680763835789423207666416102355444464034512896 = x.d from by omega]
    rfl
/-- A word without a bit. -/
def clr (w j : Nat) : Nat := (BitVec.ofNat 64 w &&& ~~~ BitVec.ofNat 64 (2 ^ j)).toNat
theorem clr_lt (w j : Nat) : clr w j < 18446744073709551616 := by
  have := (BitVec.ofNat 64 w &&& ~~~ BitVec.ofNat 64 (2 ^ j)).isLt
  rw [pow64] at this
  exact this
theorem clr_bit {w j i : Nat} (hi : i < 64) : (clr w j).testBit i = (w.testBit i && decide (i ≠ j)) := by
  unfold clr
  rw [BitVec.testBit_toNat, BitVec.getLsbD_and, BitVec.getLsbD_not, BitVec.getLsbD_ofNat, BitVec.getLsbD_ofNat, Nat.testBit_two_pow, decide_eq_true hi]
  simp [eq_comm]
theorem andNot_go {w j : Nat} (hw : w < 18446744073709551616) (hj : j < 64) : bits .andNot .u64 (w : Int) ((2 ^ j : Nat) : Int) = ((clr w j : Nat) : Int) := by
  have hp : 2 ^ j < 18446744073709551616 := by rw [← pow64]; exact Nat.pow_lt_pow_right (by decide) hj
  have hc := clr_lt w j
  show IntKind.u64.wrap ((BitVec.ofInt 64 (w : Int) &&& ~~~ BitVec.ofInt 64 ((2 ^ j : Nat) : Int)).toNat : Int) = _
  rw [show BitVec.ofInt 64 (w : Int) = BitVec.ofNat 64 w from BitVec.ofInt_natCast 64 w, show BitVec.ofInt 64 ((2 ^ j : Nat) : Int) = BitVec.ofNat 64 (2 ^ j) from BitVec.ofInt_natCast 64 _]
  exact IntWalk.u64_in _ (by unfold clr at hc; omega)
/-- A bit string without a bit, k its place from 0 on. -/
def clrB (x : Bt) (k : Nat) : Bt := if k / 64 = 0 then { x with a := clr x.a (k % 64) } else if k / 64 = 1 then { x with b := clr x.b (k % 64) } else if k / 64 = 2 then { x with c := clr x.c (k % 64) } else { x with d := clr x.d (k % 64) }
theorem clrB_ok {x : Bt} (h : x.ok) (k : Nat) : (clrB x k).ok := by
  obtain ⟨h1, h2, h3, h4⟩ := h
  unfold clrB
  split
  · exact ⟨clr_lt _ _, h2, h3, h4⟩
  · split
    · exact ⟨h1, clr_lt _ _, h3, h4⟩
    · split
      · exact ⟨h1, h2, clr_lt _ _, h4⟩
      · exact ⟨h1, h2, h3, clr_lt _ _⟩
theorem clrB_w {x : Bt} {k i : Nat} (hk : k < 256) (hi : i < 4) : (clrB x k).w i = if i = k / 64 then clr (x.w i) (k % 64) else x.w i := by
  unfold clrB
  have hk4 : k / 64 < 4 := by omega
  generalize k / 64 = q at *
  obtain rfl | rfl | rfl | rfl : q = 0 ∨ q = 1 ∨ q = 2 ∨ q = 3 := by omega
  all_goals (obtain rfl | rfl | rfl | rfl : i = 0 ∨ i = 1 ∨ i = 2 ∨ i = 3 := by omega) <;> rfl
theorem clrB_bit {x : Bt} (h : x.ok) {k i : Nat} (hk : k < 256) (hi : i < 256) : (clrB x k).num.testBit i = (x.num.testBit i && decide (i ≠ k)) := by
  rw [num_bit (clrB_ok h k) hi, num_bit h hi, clrB_w hk (by omega)]
  by_cases hq : i / 64 = k / 64
  · rw [if_pos hq, clr_bit (Nat.mod_lt _ (by decide))]
    congr 1
    by_cases hik : i = k
    · rw [hik]; simp
    · rw [decide_eq_true hik, decide_eq_true]
      omega
  · rw [if_neg hq, decide_eq_true (show i ≠ k from fun e => hq (by rw [e])), Bool.and_true]
/-- No bit is above: below. -/
theorem num_lt_of_bits {x : Bt} (h : x.ok) {w : Nat} (hb : ∀ i, w ≤ i → i < 256 → x.num.testBit i = false) : x.num < 2 ^ w := by
  apply Nat.lt_pow_two_of_testBit
  intro i hi
  by_cases h2 : i < 256
  · exact hb i hi h2
  · exact Nat.testBit_lt_two_pow (Nat.lt_of_lt_of_le (Bt.num_lt h) (Nat.pow_le_pow_right (by decide) (by omega)))

end Go.Proofs.Ytickjmkkgcfkhaa

/- Contracts of the reference's header: a width's code, is it a width, the size. -/
set_option linter.unusedSimpArgs false
set_option linter.unusedVariables false
namespace Go.Proofs.Ytickjmkkgcfkhaa
open Go.RowKit Go.ChangeShapes Go.WideShapes

def codeI (w : Int) : Int := if wide w = true then (codeN w : Int) else -1
theorem code_found {w : Int} {k : Nat} (hk : k < 6) (h : ((8 * 2 ^ k : Nat) : Int) = w) : codeI w = k := by
  subst h
  rw [codeI, if_pos (wide_code (show k ≤ 5 by omega)).1, (wide_code (show k ≤ 5 by omega)).2.1]
theorem code_none {w : Int} (h : ∀ j, j < 6 → ((8 * 2 ^ j : Nat) : Int) ≠ w) : codeI w = -1 := by
  rw [codeI, if_neg]
  intro hw
  obtain ⟨h1, h2, _⟩ := codeN_wid hw
  exact h (codeN w) (by omega) h1.symm
def CodeRel (w : Int) (i : Value) : Prop := ∃ k : Nat, i = .int .i64 k ∧ k ≤ 6 ∧ ∀ j, j < k → ((8 * 2 ^ j : Nat) : Int) ≠ w
set_option maxHeartbeats 1600000 in
theorem code_any (w : Int) (W : World) : Calls Try.prog 42 #[.int .i64 w] W fun e W' => e = .returned (.int .i64 (codeI w)) ∧ W = W' := by
  have H0 := Lib.hid (show CodeRel w (.int .i64 0) from ⟨0, rfl, by omega, fun j hj => absurd hj (by omega)⟩)
  go_enter Try.func42, Try.ntmps42
  go_wp2_with fail
  go_loop [3] (fun i => CodeRel w i) (fun i => 7 - (intOf i).toNat)
  case atStart => exact H0.out
  case round =>
    obtain ⟨k, rfl, hk, hne⟩ := hrel
    by_cases hlt : k < 6
    · obtain ⟨z, hz⟩ : ∃ z : Nat, z = 8 * 2 ^ k := ⟨_, rfl⟩
      have hp1 : 1 ≤ 2 ^ k := Nat.pow_pos (by decide)
      have hp2 : 2 ^ k ≤ 32 := Nat.le_trans (Nat.pow_le_pow_right (by decide) (show k ≤ 5 by omega)) (by decide)
      have d3 : IntKind.i64.wrap (8 * 2 ^ k) = (z : Int) := by rw [show (8 * 2 ^ k : Int) = ((8 * 2 ^ k : Nat) : Int) from by simp, ← hz]; exact IntWalk.i64_in _ (by omega)
      have d4 : wrap64 (8 * 2 ^ k) = (z : Int) := by unfold wrap64; rw [show (8 * 2 ^ k : Int) = ((8 * 2 ^ k : Nat) : Int) from by simp, ← hz]; omega
      have hku : IntKind.u64.wrap (k : Int) = (k : Int) := IntWalk.u64_in _ (by omega)
      have hkw : IntKind.i64.wrap ((k : Int) + 1) = (k : Int) + 1 := IntWalk.i64_in _ (by omega)
      by_cases he : (z : Int) = w
      · have HE := Lib.hid (code_found (w := w) hlt (by rw [← hz]; exact he))
        have ht : ((z : Int) == w) = true := by rw [beq_iff_eq]; exact he
        clear he hz hp1 hp2 hne
        go_wp2_with fail
        go_returns
        exact ⟨by rw [HE.out]; rfl, rfl⟩
      · have ht : ((z : Int) == w) = false := by rw [beq_eq_false_iff_ne]; exact he
        have HREL := Lib.hid (show CodeRel w (.int .i64 ((k : Int) + 1)) from ⟨k + 1, by simp, by omega, fun j hj => by
          by_cases hjk : j = k
          · rw [hjk, ← hz]; exact he
          · exact hne j (by omega)⟩)
        clear he hz hp1 hp2 hne
        go_wp2_with fail
        go_round
        case rel => exact HREL.out
        case measure => simp [intOf]; omega
    · obtain rfl : k = 6 := by omega
      have HE := Lib.hid (code_none hne)
      clear hne
      go_wp2_with fail
      go_returns
      exact ⟨by rw [HE.out]; rfl, rfl⟩
theorem hrwide_any (w : Int) (W : World) : Calls Try.prog 48 #[.int .i64 w] W fun e W' => e = .returned (.bool (wide w)) ∧ W = W' := by
  have HC := Lib.hid (code_any w W)
  have HE := Lib.hid (show decide (0 ≤ codeI w) = wide w by
    unfold codeI
    by_cases h : wide w = true
    · rw [if_pos h, h]; exact decide_eq_true (by omega)
    · rw [if_neg h, show wide w = false by simpa using h]; rfl)
  go_enter Try.func48, Try.ntmps48
  go_wp2_with fail
  refine HC.out.mono ?_
  rintro e V ⟨rfl, rfl⟩
  go_wp2_with fail
  go_returns
  exact ⟨by rw [← HE.out]; rfl, rfl⟩
end Go.Proofs.Ytickjmkkgcfkhaa

/- Contracts of the reference's bits: is it one, has it, which. -/
set_option linter.unusedSimpArgs false
set_option linter.unusedVariables false
namespace Go.Proofs.Ytickjmkkgcfkhaa
open Go.RowKit Go.ChangeShapes Go.WideShapes

theorem right1_any (n : Nat) (W : World) (h1 : 1 ≤ n) (h2 : n ≤ 256) : Calls Try.prog 106 #[.int .i64 n] W fun e W' => e = .returned (.bool true) ∧ W = W' := by
  have hr1 : decide ((1 : Int) ≤ (n : Int)) = true := decide_eq_true (by omega)
  have hr2 : decide ((n : Int) ≤ 256) = true := decide_eq_true (by omega)
  go_enter Try.func106, Try.ntmps106
  go_wp2_with fail
  go_returns
  exact ⟨rfl, rfl⟩

/-- Its bit n, from 1 on. -/
def Bt.bit (x : Bt) (n : Nat) : Nat := x.w ((n - 1) / 64) / 2 ^ ((n - 1) % 64) % 2

theorem bit_run (w k : Nat) (hw : w < 18446744073709551616) : (bits BinOp.and IntKind.u64 ((w : Int) / 2 ^ k) 1 == 1) = (w / 2 ^ k % 2 == 1) := by
  have e : ((w : Int) / 2 ^ k) = ((w / 2 ^ k : Nat) : Int) := by simp
  have h1 : bits .and .u64 ((w / 2 ^ k : Nat) : Int) (1 : Int) = ((w / 2 ^ k &&& 1 : Nat) : Int) := u64_and_nat _ 1 (Nat.lt_of_le_of_lt (Nat.div_le_self _ _) hw) (by decide)
  rw [e, h1, Nat.and_one_is_mod, Bool.eq_iff_iff]
  simp only [beq_iff_eq]
  omega

theorem has1_any (x : Bt) (n : Nat) (W : World) (hx : x.ok) (h1 : 1 ≤ n) (h2 : n ≤ 256) : Calls Try.prog 97 #[x.ag, .int .i64 n] W fun e W' => e = .returned (.bool (x.bit n == 1)) ∧ Below W.heap.size W W' := by
  obtain ⟨W1, hW1⟩ : ∃ W1, W1 = W.alloc (.cells #[.int .u64 x.a, .int .u64 x.b, .int .u64 x.c, .int .u64 x.d] 30) := ⟨_, rfl⟩
  have hb1 : Below W.heap.size W W1 := by rw [hW1]; exact (Below.refl _ _).alloc (Nat.le_refl _) _
  have hc : W1.cell? ⟨W.heap.size, (n - 1) / 64, none⟩ = some (.int .u64 (x.w ((n - 1) / 64) : Nat)) := by
    rw [hW1, cell_of_row _ _ _ _ _ _ (heap_alloc_new _ _)]
    obtain h | h | h | h : (n - 1) / 64 = 0 ∨ (n - 1) / 64 = 1 ∨ (n - 1) / 64 = 2 ∨ (n - 1) / 64 = 3 := by omega
    all_goals rw [h]; rfl
  obtain ⟨m, rfl⟩ : ∃ m, n = m + 1 := ⟨n - 1, by omega⟩
  have hm : m < 256 := by omega
  simp only [Nat.add_sub_cancel] at hc
  have hq : m / 64 < 4 := by omega
  have HR := Lib.hid (right1_any (m + 1) W1 h1 h2)
  have HW1 := Lib.hid hW1
  have HB := Lib.hid hb1
  clear hW1 hb1 h1 h2
  go_enter Try.func97, Try.ntmps97
  unfold Bt.ag Bt.cs
  go_wp2_with fail
  rw [← HW1.out]
  refine HR.out.mono ?_
  rintro e w ⟨rfl, rfl⟩
  go_wp2_with fail
  go_returns
  exact ⟨by rw [bit_run _ _ (Bt.w_lt hx _)]; rfl, HB.out⟩

/-- The bits up to k, rising. -/
def Bt.upto (x : Bt) : Nat → List Nat
  | 0 => []
  | k + 1 => if x.bit (k + 1) = 1 then x.upto k ++ [k + 1] else x.upto k
theorem Bt.upto_len (x : Bt) : ∀ k, (x.upto k).length ≤ k
  | 0 => Nat.le_refl _
  | k + 1 => by
    have := Bt.upto_len x k
    rw [Bt.upto]
    split
    · rw [List.length_append, List.length_singleton]; omega
    · omega
def intsV (l : List Nat) : List Value := l.map fun n : Nat => Value.int .i64 (n : Int)
theorem infoI : (Try.prog.info? 3).map (fun i => (i.zero, i.size, i.bytes)) = some (some (.int .i64 0), 1, 8) := by kernel_rfl
def ListRel (W : World) (x : Bt) (out i : Value) (wr : World) : Prop :=
  ∃ k : Nat, i = .int .i64 ((k : Int) + 1) ∧ k ≤ 256 ∧ Row wr (W.heap.size + 1) 3 1 out (x.upto k).length (intsV (x.upto k)) ∧ wr.heap[W.heap.size]? = some (.cells #[.int .u64 x.a, .int .u64 x.b, .int .u64 x.c, .int .u64 x.d] 30 (0, 0)) ∧ Below W.heap.size W wr

set_option maxRecDepth 100000 in
set_option maxHeartbeats 1600000 in
theorem list1_any (x : Bt) (W : World) (hx : x.ok) : Calls Try.prog 80 #[x.ag] W fun e W' => ∃ v, e = .returned v ∧ Row W' W.heap.size 3 1 v (x.upto 256).length (intsV (x.upto 256)) ∧ Below W.heap.size W W' := by
  obtain ⟨W1, hW1⟩ : ∃ W1, W1 = W.alloc (.cells #[.int .u64 x.a, .int .u64 x.b, .int .u64 x.c, .int .u64 x.d] 30) := ⟨_, rfl⟩
  have hb1 : Below W.heap.size W W1 := by rw [hW1]; exact (Below.refl _ _).alloc (Nat.le_refl _) _
  have h0 : ListRel W x (.slice none 0 0) (.int .i64 1) W1 := ⟨0, rfl, by omega, Row.nil_ _ _ _ _, by rw [hW1]; exact heap_alloc_new _ _, hb1⟩
  have HW1 := Lib.hid hW1
  have H0 := Lib.hid h0
  clear hW1 hb1 h0
  go_enter Try.func80, Try.ntmps80
  unfold Bt.ag Bt.cs
  go_wp2_with fail
  rw [← HW1.out]
  go_loopw [3, 4] (fun out i wr => ListRel W x out i wr) (fun _ i _ => 257 - (intOf i).toNat)
  case atStart => exact H0.out
  case round =>
    obtain ⟨k, rfl, hk, hr, hbx, hb⟩ := hrel
    by_cases hlt : k < 256
    · obtain ⟨n, hn⟩ : ∃ n, n = k + 1 := ⟨_, rfl⟩
      have hni : (k : Int) + 1 = (n : Int) := by omega
      have hle : decide ((n : Int) ≤ 256) = true := decide_eq_true (by omega)
      have hn1 : 1 ≤ n := by omega
      have hn2 : n ≤ 256 := by omega
      have c0 := cell_of_row _ _ 0 _ _ _ hbx
      have c1 := cell_of_row _ _ 1 _ _ _ hbx
      have c2 := cell_of_row _ _ 2 _ _ _ hbx
      have c3 := cell_of_row _ _ 3 _ _ _ hbx
      simp only [List.getElem?_toArray, List.getElem?_cons_zero, List.getElem?_cons_succ] at c0 c1 c2 c3
      have hs := Bt.upto_len x k
      have HH := Lib.hid (has1_any x n wr hx hn1 hn2)
      have HU := Lib.hid (show x.upto n = if x.bit n = 1 then x.upto k ++ [n] else x.upto k by rw [hn]; rfl)
      have HN := Lib.hid hn
      have HR := Lib.hid hr
      have HB := Lib.hid hb
      have HBX := Lib.hid hbx
      clear hn hr hb hbx
      obtain ⟨out_a, ocap, ho, _, _⟩ := HR.out.shape
      subst ho
      go_wp2_with fail
      refine HH.out.mono ?_
      rintro e V ⟨rfl, hV⟩
      have HRV := Lib.hid (HR.out.later hV)
      have HBV := Lib.hid (HB.out.trans (hV.mono HB.out.size))
      have HBXV := Lib.hid ((hV.block _ (Array.getElem?_eq_some_iff.1 HBX.out).1).trans HBX.out)
      clear hV c0 c1 c2 c3
      by_cases hbit : x.bit n = 1
      · have hbb : (x.bit n == 1) = true := by rw [beq_iff_eq]; exact hbit
        have hup := HU.out
        rw [if_pos hbit] at hup
        have HUP := Lib.hid hup
        obtain ⟨i0, hi, hz0, hz1, hz2⟩ := info_parts infoI
        clear hup hbit
        go_wp2_with (at_builtin; refine wpList_append_one _ rfl (.tmp 12) (.tmp 14) 107 rfl (W.heap.size + 1) 3 i0 (.int .i64 0) 8 Try.underlying107 hi hz0 hz1 hz2 rfl _ _ _ _ HRV.out rfl rfl rfl ?c3 ?c4 (Array.getElem?_eq_some_iff.1 HBXV.out).1 ?_)
        case c3 => unfold maxLen; omega
        case c4 => omega
        intro v' w' hrow' hg
        have HREL := Lib.hid (show ListRel W x v' (.int .i64 ((n : Int) + 1)) w' from by
          refine ⟨n, rfl, hn2, ?_, ?_, ?_⟩
          · rw [HUP.out]
            simpa [intsV] using hrow'
          · exact (hg.block _ (by rw [World.size_alloc]; have := (Array.getElem?_eq_some_iff.1 HBXV.out).1; omega) (fun e => by have := (HRV.out.lt _ e.symm).1; omega)).trans ((Below.heap_alloc V _ _ (Array.getElem?_eq_some_iff.1 HBXV.out).1).trans HBXV.out)
          · exact below_one HBV.out HBV.out.size hg fun q hq => by have := (HRV.out.lt _ hq).1; omega)
        clear hrow' hg hi hz0 hz1 hz2
        go_wp2_with fail
        go_roundw
        case rel => first | exact HREL.out | ((repeat apply Exists.intro); exact ⟨HREL.out, rfl⟩)
        case measure => simp [intOf]; omega
      · have hbb : (x.bit n == 1) = false := by rw [beq_eq_false_iff_ne]; exact hbit
        have hup := HU.out
        rw [if_neg hbit] at hup
        have HREL := Lib.hid (show ListRel W x (.slice out_a (x.upto k).length ocap) (.int .i64 ((n : Int) + 1)) V from ⟨n, rfl, hn2, by rw [hup]; exact HRV.out, HBXV.out, HBV.out⟩)
        clear hup hbit
        go_wp2_with fail
        go_roundw
        case rel => first | exact HREL.out | ((repeat apply Exists.intro); exact ⟨HREL.out, rfl⟩)
        case measure => simp [intOf]; omega
    · obtain rfl : k = 256 := by omega
      obtain ⟨c, hc⟩ : ∃ c, c = (x.upto 256).length := ⟨_, rfl⟩
      have HE := Lib.hid (And.intro (hr.more (Nat.le_succ _)) hb)
      clear hr hb hbx hc
      go_wp2_with fail
      go_returns
      exact ⟨_, rfl, HE.out⟩


end Go.Proofs.Ytickjmkkgcfkhaa

/- Contract of the reference's Below: none above a width. -/
set_option linter.unusedSimpArgs false
set_option linter.unusedVariables false
namespace Go.Proofs.Ytickjmkkgcfkhaa
open Go.RowKit Go.ChangeShapes Go.WideShapes

theorem bit_test {x : Bt} (hx : x.ok) {m : Nat} (h1 : 1 ≤ m) (h2 : m ≤ 256) : x.bit m = 1 ↔ x.num.testBit (m - 1) = true := by
  rw [num_bit hx (by omega), Nat.testBit_eq_decide_div_mod_eq, decide_eq_true_eq]
  rfl
theorem upto_mem (x : Bt) (m : Nat) : ∀ k, m ∈ x.upto k ↔ 1 ≤ m ∧ m ≤ k ∧ x.bit m = 1
  | 0 => by simp [Bt.upto]; omega
  | k + 1 => by
    rw [Bt.upto]
    split
    · rename_i h
      rw [List.mem_append, upto_mem x m k, List.mem_singleton]
      constructor
      · rintro (⟨a, b, c⟩ | rfl)
        · exact ⟨a, by omega, c⟩
        · exact ⟨by omega, by omega, h⟩
      · rintro ⟨a, b, c⟩
        by_cases e : m = k + 1
        · exact .inr e
        · exact .inl ⟨a, by omega, c⟩
    · rename_i h
      rw [upto_mem x m k]
      constructor
      · rintro ⟨a, b, c⟩; exact ⟨a, by omega, c⟩
      · rintro ⟨a, b, c⟩
        refine ⟨a, ?_, c⟩
        by_cases e : m = k + 1
        · rw [e] at c; exact absurd c h
        · omega
theorem upto_last (x : Bt) : ∀ k, x.upto k = [] ∨ ∃ pre z, x.upto k = pre ++ [z] ∧ (∀ m ∈ x.upto k, m ≤ z) ∧ z ≤ k
  | 0 => .inl rfl
  | k + 1 => by
    rw [Bt.upto]
    split
    · refine .inr ⟨x.upto k, k + 1, rfl, fun m hm => ?_, Nat.le_refl _⟩
      rcases List.mem_append.1 hm with h | h
      · exact Nat.le_succ_of_le ((upto_mem x m k).1 h).2.1
      · rw [List.mem_singleton] at h; omega
    · rcases upto_last x k with h | ⟨pre, z, h1, h2, h3⟩
      · exact .inl h
      · exact .inr ⟨pre, z, h1, h2, by omega⟩
theorem below_upto {x : Bt} (hx : x.ok) {w : Nat} (hw : w ≤ 256) : x.num < 2 ^ w ↔ ∀ m ∈ x.upto 256, m ≤ w := by
  constructor
  · intro h m hm
    obtain ⟨h1, h2, h3⟩ := (upto_mem x m 256).1 hm
    have h4 := (bit_test hx h1 h2).1 h3
    by_cases hmw : m ≤ w
    · exact hmw
    · have h5 := Nat.testBit_lt_two_pow (Nat.lt_of_lt_of_le h (Nat.pow_le_pow_right (by decide) (show w ≤ m - 1 by omega)))
      rw [h5] at h4; cases h4
  · intro h
    apply num_lt_of_bits hx
    intro i hi h256
    by_cases hb : x.num.testBit i = true
    · have := h (i + 1) ((upto_mem x (i + 1) 256).2 ⟨by omega, by omega, (bit_test hx (by omega) (by omega)).2 (by simpa using hb)⟩)
      omega
    · simpa using hb
set_option maxRecDepth 100000 in
set_option maxHeartbeats 3200000 in
theorem rbelow_any (x : Bt) (n : Int) (W : World) (hx : x.ok) (hn : I64 n) : Calls Try.prog 49 #[x.ag, .int .i64 n] W fun e W' => e = .returned (.bool (below x n)) ∧ Below W.heap.size W W' := by
  obtain ⟨W1, hW1⟩ : ∃ W1, W1 = W.alloc (.cells x.cs 30) := ⟨_, rfl⟩
  have hb1 : Below W.heap.size W W1 := by rw [hW1]; exact (Below.refl _ _).alloc (Nat.le_refl _) _
  have hbx : BoxBt W.heap.size x W1 := by rw [hW1]; exact heap_alloc_new _ _
  obtain ⟨x0, x1, x2, x3⟩ := hbx.cells
  have HB1 := Lib.hid hb1
  have HL := Lib.hid (list1_any x W1 hx)
  have HLA := Lib.hid (upto_last x 256)
  have HBU := Lib.hid (fun w hw => below_upto hx (w := w) hw)
  have hll := Bt.upto_len x 256
  unfold Bt.cs at hW1
  have HW1 := Lib.hid hW1
  clear hW1 hb1 hbx
  go_enter Try.func49, Try.ntmps49
  unfold Bt.ag Bt.cs at *
  go_wp2_with fail
  rw [← HW1.out]
  refine HL.out.mono ?_
  rintro e V ⟨v, rfl, hr, hb⟩
  have HB := Lib.hid (HB1.out.trans (hb.mono HB1.out.size))
  obtain ⟨l, hl⟩ : ∃ l, l = x.upto 256 := ⟨_, rfl⟩
  rw [← hl] at hr hll HLA HBU
  clear hb x0 x1 x2 x3 hl
  by_cases h0 : 0 ≤ n
  · have d0 : decide (0 ≤ n) = true := decide_eq_true h0
    by_cases h1 : n ≤ 256
    · have d1 : decide (n ≤ 256) = true := decide_eq_true h1
      obtain ⟨w, rfl⟩ : ∃ w : Nat, n = w := ⟨n.toNat, by omega⟩
      have hbw := HBU.out w (by omega)
      rcases HLA.out with h | ⟨pre, z, h2, h3, h4⟩
      · have HE := Lib.hid (show below x (w : Int) = true from decide_eq_true ⟨by omega, by omega, by rw [Int.toNat_natCast, hbw, h]; simp⟩)
        subst h
        obtain ⟨a, cap, rfl, _, _⟩ := hr.shape
        clear hr hbw
        go_wp2_with fail
        go_returns
        exact ⟨by rw [HE.out]; rfl, HB.out⟩
      · have HE := Lib.hid (show below x (w : Int) = decide (z ≤ w) by
          unfold below
          apply Bool.eq_iff_iff.2
          rw [decide_eq_true_eq, decide_eq_true_eq, Int.toNat_natCast]
          constructor
          · rintro ⟨_, _, h⟩
            exact hbw.1 h z (by rw [h2]; simp)
          · intro h
            exact ⟨by omega, by omega, hbw.2 (fun m hm => by have := h3 m hm; omega)⟩)
        obtain ⟨k, hk⟩ : ∃ k, l.length = k + 1 := ⟨pre.length, by rw [h2, List.length_append]; rfl⟩
        have hz : (intsV l)[k]? = some (.int .i64 z) := by
          have hpk : pre.length = k := by rw [h2, List.length_append] at hk; simpa using hk
          rw [intsV, h2, List.map_append, List.getElem?_append_right (by simp; omega)]
          simp [hpk]
        rw [hk] at hr
        obtain ⟨g, cap, rfl, _, hglt, hcap, hcm, hcells, hfrz⟩ := Row.form hr (by omega)
        have hc0 := (hcells k (by omega)).trans hz
        have hk256 : k < 256 := by omega
        have hkw : IntKind.i64.wrap ((k : Int) + 1 - 1) = (k : Int) := by rw [Int.add_sub_cancel]; exact IntWalk.i64_in _ (by omega)
        have hnz : ((k : Int) + 1 == 0) = false := by rw [beq_eq_false_iff_ne]; omega
        clear hr hbw hz hcells hfrz h3 h2 hk
        go_wp2_with fail
        go_returns
        exact ⟨by rw [HE.out]; rfl, HB.out⟩
    · have d1 : decide (n ≤ 256) = false := decide_eq_false h1
      have HE := Lib.hid (show below x n = false from decide_eq_false (fun h => h1 h.2.1))
      obtain ⟨a, cap, rfl, _, _⟩ := hr.shape
      clear hr
      go_wp2_with fail
      go_returns
      exact ⟨by rw [HE.out]; rfl, HB.out⟩
  · have d0 : decide (0 ≤ n) = false := decide_eq_false h0
    have HE := Lib.hid (show below x n = false from decide_eq_false (fun h => h0 h.1))
    obtain ⟨a, cap, rfl, _, _⟩ := hr.shape
    clear hr
    go_wp2_with fail
    go_returns
    exact ⟨by rw [HE.out]; rfl, HB.out⟩

end Go.Proofs.Ytickjmkkgcfkhaa

/- Contract of the reference's Check: may a header be. -/
set_option linter.unusedSimpArgs false
set_option linter.unusedVariables false
namespace Go.Proofs.Ytickjmkkgcfkhaa
open Go.RowKit Go.ChangeShapes Go.WideShapes

set_option maxRecDepth 100000 in
set_option maxHeartbeats 6400000 in
theorem rhcheck_any (h : Hd) (W : World) (hk : h.ok) : Calls Try.prog 32 #[h.ag] W fun e W' => e = .returned (.int .i64 h.err) ∧ Below W.heap.size W W' := by
  obtain ⟨W1, hW1⟩ : ∃ W1, W1 = W.alloc (.cells h.cs 32) := ⟨_, rfl⟩
  have hb1 : Below W.heap.size W W1 := by rw [hW1]; exact (Below.refl _ _).alloc (Nat.le_refl _) _
  have hbx : BoxH W.heap.size h W1 := by rw [hW1]; exact heap_alloc_new _ _
  have HBX := Lib.hid hbx
  have HW1 := Lib.hid hW1
  have HB1 := Lib.hid hb1
  have HCS := Lib.hid h.chk_cases
  have HK := Lib.hid hk
  have HWD := Lib.hid (fun V => hrwide_any h.wid V)
  have HBL := Lib.hid (fun V => rbelow_any h.bits h.wid V hk.2.2.2.2.2.2.2 hk.1)
  clear hW1 hb1 hk
  rcases HCS.out with ⟨c0, he⟩ | ⟨c0, c1, he⟩ | ⟨c0, c1, c2, he⟩ | ⟨c0, c1, c2, c3, he⟩ | ⟨c0, c1, c2, c3, c4, he⟩ | ⟨c0, c1, c2, c3, c4, c5, he⟩ | ⟨c0, c1, c2, c3, c4, c5, c6, he⟩ | ⟨c0, c1, c2, c3, c4, c5, c6, c7, he⟩ | ⟨c0, c1, c2, c3, c4, c5, c6, c7, c8, he⟩ | ⟨c0, c1, c2, c3, c4, c5, c6, c7, c8, he⟩
  · have HE := Lib.hid he
    have H0 := Lib.hid c0
    clear c0 he
    obtain ⟨x0, x1, x2, x3, x4, x5, x6, x7, x8, x9, x10⟩ := hbx.cells
    clear hbx
    go_enter Try.func32, Try.ntmps32
    unfold Hd.ag Hd.cs at *
    go_wp2_with fail
    rw [← HW1.out]
    refine (HWD.out _).mono ?_
    rintro e V ⟨rfl, rfl⟩
    rw [H0.out]
    go_wp2_with fail
    go_returns
    exact ⟨by rw [HE.out]; rfl, HB1.out⟩
  · have HE := Lib.hid he
    have H0 := Lib.hid c0
    have d1 : decide (h.set < 0) = true := decide_eq_true (by omega)
    clear c0 he c1
    obtain ⟨x0, x1, x2, x3, x4, x5, x6, x7, x8, x9, x10⟩ := hbx.cells
    clear hbx
    go_enter Try.func32, Try.ntmps32
    unfold Hd.ag Hd.cs at *
    go_wp2_with fail
    rw [← HW1.out]
    refine (HWD.out _).mono ?_
    rintro e V ⟨rfl, rfl⟩
    rw [H0.out]
    go_wp2_with fail
    go_returns
    exact ⟨by rw [HE.out]; rfl, HB1.out⟩
  · have HE := Lib.hid he
    have H0 := Lib.hid c0
    have d1 : decide (h.set < 0) = false := decide_eq_false (by omega)
    have d2 : decide (128 ≤ h.set) = true := decide_eq_true (by omega)
    clear c0 he c1 c2
    obtain ⟨x0, x1, x2, x3, x4, x5, x6, x7, x8, x9, x10⟩ := hbx.cells
    clear hbx
    go_enter Try.func32, Try.ntmps32
    unfold Hd.ag Hd.cs at *
    go_wp2_with fail
    rw [← HW1.out]
    refine (HWD.out _).mono ?_
    rintro e V ⟨rfl, rfl⟩
    rw [H0.out]
    go_wp2_with fail
    go_returns
    exact ⟨by rw [HE.out]; rfl, HB1.out⟩
  · have HE := Lib.hid he
    have H0 := Lib.hid c0
    have d1 : decide (h.set < 0) = false := decide_eq_false (by omega)
    have d2 : decide (128 ≤ h.set) = false := decide_eq_false (by omega)
    have d3 : decide (h.hops < 0) = true := decide_eq_true (by omega)
    clear c0 he c1 c2 c3
    obtain ⟨x0, x1, x2, x3, x4, x5, x6, x7, x8, x9, x10⟩ := hbx.cells
    clear hbx
    go_enter Try.func32, Try.ntmps32
    unfold Hd.ag Hd.cs at *
    go_wp2_with fail
    rw [← HW1.out]
    refine (HWD.out _).mono ?_
    rintro e V ⟨rfl, rfl⟩
    rw [H0.out]
    go_wp2_with fail
    go_returns
    exact ⟨by rw [HE.out]; rfl, HB1.out⟩
  · have HE := Lib.hid he
    have H0 := Lib.hid c0
    have d1 : decide (h.set < 0) = false := decide_eq_false (by omega)
    have d2 : decide (128 ≤ h.set) = false := decide_eq_false (by omega)
    have d3 : decide (h.hops < 0) = false := decide_eq_false (by omega)
    have d4 : decide (15 < h.hops) = true := decide_eq_true (by omega)
    clear c0 he c1 c2 c3 c4
    obtain ⟨x0, x1, x2, x3, x4, x5, x6, x7, x8, x9, x10⟩ := hbx.cells
    clear hbx
    go_enter Try.func32, Try.ntmps32
    unfold Hd.ag Hd.cs at *
    go_wp2_with fail
    rw [← HW1.out]
    refine (HWD.out _).mono ?_
    rintro e V ⟨rfl, rfl⟩
    rw [H0.out]
    go_wp2_with fail
    go_returns
    exact ⟨by rw [HE.out]; rfl, HB1.out⟩
  · have HE := Lib.hid he
    have H0 := Lib.hid c0
    have d1 : decide (h.set < 0) = false := decide_eq_false (by omega)
    have d2 : decide (128 ≤ h.set) = false := decide_eq_false (by omega)
    have d3 : decide (h.hops < 0) = false := decide_eq_false (by omega)
    have d4 : decide (15 < h.hops) = false := decide_eq_false (by omega)
    have d5 : decide (h.src < 1) = true := decide_eq_true (by omega)
    clear c0 he c1 c2 c3 c4 c5
    obtain ⟨x0, x1, x2, x3, x4, x5, x6, x7, x8, x9, x10⟩ := hbx.cells
    clear hbx
    go_enter Try.func32, Try.ntmps32
    unfold Hd.ag Hd.cs at *
    go_wp2_with fail
    rw [← HW1.out]
    refine (HWD.out _).mono ?_
    rintro e V ⟨rfl, rfl⟩
    rw [H0.out]
    go_wp2_with fail
    go_returns
    exact ⟨by rw [HE.out]; rfl, HB1.out⟩
  · have HE := Lib.hid he
    have H0 := Lib.hid c0
    have d1 : decide (h.set < 0) = false := decide_eq_false (by omega)
    have d2 : decide (128 ≤ h.set) = false := decide_eq_false (by omega)
    have d3 : decide (h.hops < 0) = false := decide_eq_false (by omega)
    have d4 : decide (15 < h.hops) = false := decide_eq_false (by omega)
    have d5 : decide (h.src < 1) = false := decide_eq_false (by omega)
    have d6 : decide (24 < h.src) = true := decide_eq_true (by omega)
    clear c0 he c1 c2 c3 c4 c5 c6
    obtain ⟨x0, x1, x2, x3, x4, x5, x6, x7, x8, x9, x10⟩ := hbx.cells
    clear hbx
    go_enter Try.func32, Try.ntmps32
    unfold Hd.ag Hd.cs at *
    go_wp2_with fail
    rw [← HW1.out]
    refine (HWD.out _).mono ?_
    rintro e V ⟨rfl, rfl⟩
    rw [H0.out]
    go_wp2_with fail
    go_returns
    exact ⟨by rw [HE.out]; rfl, HB1.out⟩
  · have HE := Lib.hid he
    have H0 := Lib.hid c0
    have d1 : decide (h.set < 0) = false := decide_eq_false (by omega)
    have d2 : decide (128 ≤ h.set) = false := decide_eq_false (by omega)
    have d3 : decide (h.hops < 0) = false := decide_eq_false (by omega)
    have d4 : decide (15 < h.hops) = false := decide_eq_false (by omega)
    have d5 : decide (h.src < 1) = false := decide_eq_false (by omega)
    have d6 : decide (24 < h.src) = false := decide_eq_false (by omega)
    have d7 : decide (h.grp < 0) = true := decide_eq_true (by omega)
    clear c0 he c1 c2 c3 c4 c5 c6 c7
    obtain ⟨x0, x1, x2, x3, x4, x5, x6, x7, x8, x9, x10⟩ := hbx.cells
    clear hbx
    go_enter Try.func32, Try.ntmps32
    unfold Hd.ag Hd.cs at *
    go_wp2_with fail
    rw [← HW1.out]
    refine (HWD.out _).mono ?_
    rintro e V ⟨rfl, rfl⟩
    rw [H0.out]
    go_wp2_with fail
    go_returns
    exact ⟨by rw [HE.out]; rfl, HB1.out⟩
  · have HE := Lib.hid he
    have H0 := Lib.hid c0
    have d1 : decide (h.set < 0) = false := decide_eq_false (by omega)
    have d2 : decide (128 ≤ h.set) = false := decide_eq_false (by omega)
    have d3 : decide (h.hops < 0) = false := decide_eq_false (by omega)
    have d4 : decide (15 < h.hops) = false := decide_eq_false (by omega)
    have d5 : decide (h.src < 1) = false := decide_eq_false (by omega)
    have d6 : decide (24 < h.src) = false := decide_eq_false (by omega)
    have d7 : decide (h.grp < 0) = false := decide_eq_false (by omega)
    have d8 : decide (8 ≤ h.grp) = true := decide_eq_true (by omega)
    clear c0 he c1 c2 c3 c4 c5 c6 c7 c8
    obtain ⟨x0, x1, x2, x3, x4, x5, x6, x7, x8, x9, x10⟩ := hbx.cells
    clear hbx
    go_enter Try.func32, Try.ntmps32
    unfold Hd.ag Hd.cs at *
    go_wp2_with fail
    rw [← HW1.out]
    refine (HWD.out _).mono ?_
    rintro e V ⟨rfl, rfl⟩
    rw [H0.out]
    go_wp2_with fail
    go_returns
    exact ⟨by rw [HE.out]; rfl, HB1.out⟩
  · have HE := Lib.hid he
    have H0 := Lib.hid c0
    have d1 : decide (h.set < 0) = false := decide_eq_false (by omega)
    have d2 : decide (128 ≤ h.set) = false := decide_eq_false (by omega)
    have d3 : decide (h.hops < 0) = false := decide_eq_false (by omega)
    have d4 : decide (15 < h.hops) = false := decide_eq_false (by omega)
    have d5 : decide (h.src < 1) = false := decide_eq_false (by omega)
    have d6 : decide (24 < h.src) = false := decide_eq_false (by omega)
    have d7 : decide (h.grp < 0) = false := decide_eq_false (by omega)
    have d8 : decide (8 ≤ h.grp) = false := decide_eq_false (by omega)
    clear c0 he c1 c2 c3 c4 c5 c6 c7 c8
    obtain ⟨x0, x1, x2, x3, x4, x5, x6, x7, x8, x9, x10⟩ := hbx.cells
    clear hbx
    go_enter Try.func32, Try.ntmps32
    unfold Hd.ag Hd.cs at *
    go_wp2_with fail
    rw [← HW1.out]
    refine (HWD.out _).mono ?_
    rintro e V ⟨rfl, rfl⟩
    rw [H0.out]
    go_wp2_with fail
    refine (HBL.out _).mono ?_
    rintro e V ⟨rfl, hb⟩
    have HB := Lib.hid (HB1.out.trans (hb.mono HB1.out.size))
    clear hb
    by_cases hbl : below h.bits h.wid = true
    · have HN := Lib.hid hbl
      clear hbl
      rw [HN.out]
      go_wp2_with fail
      go_returns
      exact ⟨by rw [HE.out, HN.out]; rfl, HB.out⟩
    · have HN := Lib.hid (show below h.bits h.wid = false by simpa using hbl)
      clear hbl
      rw [HN.out]
      go_wp2_with fail
      go_returns
      exact ⟨by rw [HE.out, HN.out]; rfl, HB.out⟩

end Go.Proofs.Ytickjmkkgcfkhaa

/- Contracts of the reference's Hop and With. -/
set_option linter.unusedSimpArgs false
set_option linter.unusedVariables false
namespace Go.Proofs.Ytickjmkkgcfkhaa
open Go.RowKit Go.ChangeShapes Go.WideShapes

end Go.Proofs.Ytickjmkkgcfkhaa

/- Contract of the reference's Bytes: a bit string's bytes at a width. -/
set_option linter.unusedSimpArgs false
set_option linter.unusedVariables false
set_option maxRecDepth 100000
namespace Go.Proofs.Ytickjmkkgcfkhaa
open Go.RowKit Go.ChangeShapes Go.WideShapes

/-- The number of bits, each once. -/
def numU : List Nat → Nat
  | [] => 0
  | m :: l => 2 ^ (m - 1) + numU l
theorem numU_append (a b : List Nat) : numU (a ++ b) = numU a + numU b := by
  induction a with
  | nil => simp [numU]
  | cons m a ih => rw [List.cons_append, numU, numU, ih, Nat.add_assoc]
theorem numU_upto {x : Bt} (hx : x.ok) : ∀ k, k ≤ 256 → numU (x.upto k) = x.num % 2 ^ k
  | 0, _ => by simp [Bt.upto, numU]; omega
  | k + 1, h => by
    have ih := numU_upto hx k (by omega)
    have hb := bit_test hx (m := k + 1) (by omega) h
    rw [Nat.add_sub_cancel, Nat.testBit_eq_decide_div_mod_eq, decide_eq_true_eq] at hb
    have hs : x.num % 2 ^ (k + 1) = x.num % 2 ^ k + 2 ^ k * (x.num / 2 ^ k % 2) := by rw [Nat.pow_succ, Nat.mod_mul]
    rw [Bt.upto, hs]
    have h2 : x.num / 2 ^ k % 2 < 2 := Nat.mod_lt _ (by decide)
    split
    · rename_i he
      rw [numU_append, ih, hb.1 he, Nat.mul_one, numU, numU, Nat.add_sub_cancel, Nat.add_zero]
    · rename_i he
      rw [show x.num / 2 ^ k % 2 = 0 from by
        have : ¬ x.num / 2 ^ k % 2 = 1 := fun h => he (hb.2 h)
        omega, Nat.mul_zero, Nat.add_zero, ih]
/-- Bytes of a number of which the bits below 2^b are there. -/
theorem toU8_congr {a b : Nat} (h : a % 256 = b % 256) : toU8 a = toU8 b := by
  apply UInt8.toNat_inj.1
  rw [toU8_toNat, toU8_toNat, h]
theorem pow_split (b i : Nat) (h : i ≤ b / 8) : 2 ^ b = 256 ^ i * 2 ^ (b - 8 * i) := by
  rw [pow256, ← Nat.pow_add]
  congr 1
  omega
theorem leB_or {N b m : Nat} (hN : N < 2 ^ b) (hb : b / 8 < m) :
    (leB N m)[b / 8]? = some (toU8 (N / 256 ^ (b / 8))) ∧ N / 256 ^ (b / 8) < 2 ^ (b % 8) ∧ (leB N m).set (b / 8) (toU8 (N / 256 ^ (b / 8) ||| 2 ^ (b % 8))) = leB (N + 2 ^ b) m := by
  have hj := pow_split b (b / 8) (Nat.le_refl _)
  have hr : b - 8 * (b / 8) = b % 8 := by omega
  rw [hr] at hj
  have hlt : N / 256 ^ (b / 8) < 2 ^ (b % 8) := Nat.div_lt_of_lt_mul (by rw [← hj]; exact hN)
  refine ⟨leB_get m N _ hb, hlt, ?_⟩
  apply List.ext_getElem?
  intro i
  by_cases him : i < m
  · rw [leB_get m (N + 2 ^ b) i him]
    by_cases hij : i = b / 8
    · subst hij
      rw [List.getElem?_set_self (by rw [leB_len]; exact hb)]
      congr 2
      have hd : (N + 2 ^ b) / 256 ^ (b / 8) = N / 256 ^ (b / 8) + 2 ^ (b % 8) := by
        rw [hj, Nat.add_mul_div_left _ _ (Nat.pow_pos (by decide))]
      rw [hd, Nat.or_comm, show 2 ^ (b % 8) ||| N / 256 ^ (b / 8) = 2 ^ (b % 8) + N / 256 ^ (b / 8) from by
        have := Nat.shiftLeft_add_eq_or_of_lt hlt 1
        rw [Nat.shiftLeft_eq, Nat.one_mul] at this
        exact this.symm, Nat.add_comm]
    · rw [List.getElem?_set_ne (fun h => hij h.symm), leB_get m N i him]
      congr 1
      apply toU8_congr
      by_cases hlo : i < b / 8
      · have hi := pow_split b i (by omega)
        rw [hi, Nat.add_mul_div_left _ _ (Nat.pow_pos (by decide)), show b - 8 * i = 8 + (b - 8 * i - 8) from by omega, Nat.pow_add, show (2 : Nat) ^ 8 = 256 from rfl, Nat.add_mul_mod_self_left]
      · have hbig : 2 ^ (b + 1) ≤ 256 ^ i := by
          rw [pow256]
          exact Nat.pow_le_pow_right (by decide) (by omega)
        rw [Nat.pow_succ] at hbig
        rw [Nat.div_eq_of_lt (show N < 256 ^ i by omega), Nat.div_eq_of_lt (show N + 2 ^ b < 256 ^ i by omega)]
  · rw [List.getElem?_eq_none (by rw [List.length_set, leB_len]; omega), List.getElem?_eq_none (by rw [leB_len]; omega)]

end Go.Proofs.Ytickjmkkgcfkhaa

/- Contract of the reference's Bytes: its walk. -/
set_option linter.unusedSimpArgs false
set_option linter.unusedVariables false
namespace Go.Proofs.Ytickjmkkgcfkhaa
open Go.RowKit Go.ChangeShapes Go.WideShapes

theorem upto_take (x : Bt) : ∀ n k z, (x.upto n)[k]? = some z → (x.upto n).take k = x.upto (z - 1) ∧ 1 ≤ z ∧ z ≤ n
  | 0, k, z, h => by simp [Bt.upto] at h
  | n + 1, k, z, h => by
    rw [Bt.upto] at h ⊢
    split at h
    · rename_i hb
      rw [if_pos hb]
      by_cases hk : k < (x.upto n).length
      · rw [List.getElem?_append_left hk] at h
        obtain ⟨h1, h2, h3⟩ := upto_take x n k z h
        exact ⟨by rw [List.take_append_of_le_length (by omega), h1], h2, by omega⟩
      · have hk2 : k = (x.upto n).length := by
          have h5 := (List.getElem?_eq_some_iff.1 h).1
          rw [List.length_append, List.length_singleton] at h5
          omega
        subst hk2
        rw [List.getElem?_append_right (Nat.le_refl _), Nat.sub_self] at h
        simp only [List.getElem?_cons_zero, Option.some.injEq] at h
        subst h
        exact ⟨by rw [List.take_left, Nat.add_sub_cancel], by omega, Nat.le_refl _⟩
    · rename_i hb
      rw [if_neg hb]
      obtain ⟨h1, h2, h3⟩ := upto_take x n k z h
      exact ⟨h1, h2, by omega⟩
theorem byteV_lt {v : Nat} (h : v < 256) : byteV (toU8 v) = .int .u8 (v : Int) := byteV_small h
def RByRel (W : World) (x : Bt) (l : List Nat) (g m : Nat) (la : Option Addr) (lcap : Nat) (i : Value) (wr : World) : Prop :=
  ∃ k : Nat, i = .int .i64 k ∧ k ≤ l.length ∧ Row wr (W.heap.size + 1) 5 1 (.slice (some ⟨g, 0, none⟩) m m) m ((leB (numU (l.take k)) m).map byteV) ∧ Row wr (g + 1) 3 1 (.slice la l.length lcap) l.length (intsV l) ∧ Below W.heap.size W wr
set_option maxRecDepth 100000 in
set_option maxHeartbeats 6400000 in
theorem rbbytes_any (x : Bt) (m : Nat) (W : World) (hx : x.ok) (hm0 : 0 < m) (hm : m ≤ 32) (hbl : below x (8 * (m : Int)) = true) :
    Calls Try.prog 44 #[x.ag, .int .i64 (8 * (m : Int))] W fun e W' => e = .returned (.tuple #[.string (bs (leB x.num m)), .int .i64 0]) ∧ Below W.heap.size W W' := by
  obtain ⟨W1, hW1⟩ : ∃ W1, W1 = W.alloc (.cells x.cs 30) := ⟨_, rfl⟩
  have hb1 : Below W.heap.size W W1 := by rw [hW1]; exact (Below.refl _ _).alloc (Nat.le_refl _) _
  have hbx : BoxBt W.heap.size x W1 := by rw [hW1]; exact heap_alloc_new _ _
  have hsz : W1.heap.size = W.heap.size + 1 := by rw [hW1, World.size_alloc]
  obtain ⟨x0, x1, x2, x3⟩ := hbx.cells
  obtain ⟨i0, hi, hz0, hz1, hz2⟩ := info_parts Try.infoU8
  have HB1 := Lib.hid hb1
  have HBX := Lib.hid hbx
  have HX := Lib.hid hx
  have HSZ := Lib.hid hsz
  have HBL := Lib.hid (rbelow_any x (8 * (m : Int)) W1 hx ⟨by omega, by omega⟩)
  have HT := Lib.hid hbl
  have HUP := Lib.hid (show ∀ z ∈ x.upto 256, z ≤ 8 * m by
    simp only [below, decide_eq_true_eq] at hbl
    rw [show (8 * (m : Int)) = ((8 * m : Nat) : Int) from by simp, Int.toNat_natCast] at hbl
    exact (below_upto hx (by omega)).1 hbl.2.2)
  have HNL := Lib.hid (fun V => list1_any x V hx)
  have d1 : decide (8 * (m : Int) < 8) = false := decide_eq_false (by omega)
  have d2 : decide (256 < 8 * (m : Int)) = false := decide_eq_false (by omega)
  have d3 : (8 * (m : Int)).tmod 8 = 0 := by rw [Int.tmod_eq_emod_of_nonneg (by omega)]; omega
  have d4 : (8 * (m : Int)) % 8 = 0 := by omega
  have d5 : (8 * (m : Int)).tdiv 8 = (m : Int) := by rw [Int.tdiv_eq_ediv_of_nonneg (by omega)]; omega
  have d6 : (8 * (m : Int)) / 8 = (m : Int) := by omega
  unfold Bt.cs at hW1
  have HW1 := Lib.hid hW1
  clear hW1 hb1 hbx hx hbl hsz
  go_enter Try.func44, Try.ntmps44
  unfold Bt.ag Bt.cs at *
  go_wp2_with fail
  rw [← HW1.out]
  refine HBL.out.mono ?_
  rintro e V ⟨rfl, hb⟩
  rw [HT.out]
  have HBX2 := Lib.hid (HBX.out.later hb)
  have HB2 := Lib.hid (HB1.out.trans (hb.mono HB1.out.size))
  have HS2 := Lib.hid (show W.heap.size + 1 ≤ V.heap.size by have := hb.size; have := HSZ.out; omega)
  clear hb x0 x1 x2 x3
  go_wp2_with (at_make; refine wpList_make_full _ rfl (.tmp 26) (.tmp 26) 52 rfl (W.heap.size + 1) 5 i0 (.int .u8 0) 1 Try.underlying52 hi hz0 hz1 .i64 .i64 m m m rfl rfl rfl rfl ?c1 ?c2 ?c3 ?_)
  case c1 => rw [hz2]; omega
  case c2 => unfold maxLen; omega
  case c3 => exact HS2.out
  intro w3 hown3 hg3
  obtain ⟨g, hg⟩ : ∃ g, g = V.heap.size := ⟨_, rfl⟩
  rw [← hg] at hown3 ⊢
  have hrow := Row.of_own hown3
  have hb3 : Below V.heap.size V w3 := ⟨hg3.os, hg3.tape, hg3.output, hg3.size, fun k hk => hg3.block k hk (by simp)⟩
  have HGT := Lib.hid (show W.heap.size < g by have := HS2.out; omega)
  have HG3 := Lib.hid (show g + 1 ≤ w3.heap.size by
    have := hrow.lt g rfl
    omega)
  have e : (madeCells (Value.int IntKind.u8 0).cells (m * 1)).toList = (leB 0 m).map byteV := by
    rw [Nat.mul_one]
    have h1 : leB 0 m = List.replicate m 0 := by
      have : ∀ m, leB 0 m = List.replicate m 0 := fun m => by
        induction m with
        | zero => rfl
        | succ m ih => rw [leB, ih]; rfl
      exact this m
    rw [h1, List.map_replicate]
    exact toList_madeCells_one _ _
  have HR3 := Lib.hid (show Row w3 (W.heap.size + 1) 5 1 (.slice (some ⟨g, 0, none⟩) m m) m ((leB 0 m).map byteV) by
    first | (rw [← e]; exact hrow) | (rw [Nat.mul_one] at e; rw [← e]; exact hrow))
  have HBX3 := Lib.hid (HBX2.out.later hb3)
  have HB3 := Lib.hid (HB2.out.trans (hb3.mono HB2.out.size))
  obtain ⟨x0, x1, x2, x3⟩ := BoxBt.cells HBX3.out
  clear hown3 hg3 hrow hb3 hg e
  go_wp2_with fail
  refine (HNL.out _).mono ?_
  rintro e V4 ⟨vl, rfl, hrl, hb⟩
  obtain ⟨l, hl⟩ : ∃ l, l = x.upto 256 := ⟨_, rfl⟩
  have hll := Bt.upto_len x 256
  have HTK := Lib.hid (upto_take x 256)
  have HNU := Lib.hid (fun k hk => numU_upto HX.out k hk)
  have HALL := Lib.hid (show numU l = x.num by
    rw [hl, HNU.out 256 (Nat.le_refl _)]
    exact Nat.mod_eq_of_lt (Bt.num_lt HX.out))
  rw [← hl] at hrl hll HTK HUP
  obtain ⟨la, lcap, rfl, _, _⟩ := hrl.shape
  have H0 := Lib.hid (show RByRel W x l g m la lcap (.int .i64 0) V4 from ⟨0, rfl, Nat.zero_le _, by rw [List.take_zero]; exact HR3.out.later hb, hrl.more HG3.out, HB3.out.trans (hb.mono HB3.out.size)⟩)
  clear hb hrl hl x0 x1 x2 x3
  go_wp2_with fail
  go_loopw [8] (fun i wr => RByRel W x l g m la lcap i wr) (fun i _ => 300 - (intOf i).toNat)
  case atStart => exact H0.out
  case round =>
    obtain ⟨k, rfl, hk, hrow, hrl, hbel⟩ := hrel
    by_cases hlt : k < l.length
    · obtain ⟨z, hz⟩ : ∃ z, l[k]? = some z := ⟨_, List.getElem?_eq_getElem hlt⟩
      obtain ⟨t1, t2, t3⟩ := HTK.out k z hz
      have hz8 : z ≤ 8 * m := HUP.out z (List.mem_of_getElem? hz)
      obtain ⟨b, rfl⟩ : ∃ b, z = b + 1 := ⟨z - 1, by omega⟩
      rw [Nat.add_sub_cancel] at t1
      obtain ⟨N, hN⟩ : ∃ N, N = numU (l.take k) := ⟨_, rfl⟩
      have hNlt : N < 2 ^ b := by
        rw [hN, t1, HNU.out b (by omega)]
        exact Nat.mod_lt _ (Nat.pow_pos (by decide))
      have hNs : numU (l.take (k + 1)) = N + 2 ^ b := by
        obtain ⟨hlt2, he⟩ := List.getElem?_eq_some_iff.1 hz
        rw [List.take_succ_eq_append_getElem hlt2, numU_append, ← hN, he]
        simp [numU]
      rw [← hN] at hrow
      obtain ⟨q, hq⟩ : ∃ q, q = b / 8 := ⟨_, rfl⟩
      obtain ⟨j, hj⟩ : ∃ j, j = b % 8 := ⟨_, rfl⟩
      obtain ⟨o1, o2, o3⟩ := leB_or hNlt (m := m) (by omega)
      rw [← hq] at o1 o2 o3
      rw [← hj] at o2 o3
      have hj8 : j < 8 := by omega
      have hqm : q < m := by omega
      have hp : 2 ^ j ≤ 128 := Nat.le_trans (Nat.pow_le_pow_right (by decide) (show j ≤ 7 by omega)) (by decide)
      obtain ⟨v, hv⟩ : ∃ v, v = N / 256 ^ q := ⟨_, rfl⟩
      rw [← hv] at o1 o2 o3
      obtain ⟨gl, lc, hvl, hgl, hgll, _, _, hlcells, _⟩ := Row.form hrl (by omega)
      simp only [Value.slice.injEq] at hvl
      obtain ⟨rfl, _, rfl⟩ := hvl
      have hcl : wr.cell? ⟨gl, k, none⟩ = some (.int .i64 ((b : Int) + 1)) := (hlcells k (by omega)).trans (by rw [intsV, List.getElem?_map, hz]; rfl)
      obtain ⟨g', cap', hvr, _, hglt, _, _, hcells, hfrz⟩ := Row.form hrow hm0
      simp only [Value.slice.injEq, Option.some.injEq, Addr.mk.injEq, and_true, true_and] at hvr
      obtain ⟨rfl, rfl⟩ := hvr
      have hcg : wr.cell? ⟨g, q, none⟩ = some (.int .u8 (v : Int)) := (hcells q (by omega)).trans (by rw [List.getElem?_map, o1]; exact congrArg some (byteV_lt (by omega)))
      have hfg := hfrz q (by omega)
      have hvp : v ||| 2 ^ j < 256 := Nat.lt_of_lt_of_le (Nat.or_lt_two_pow (n := 8) (by omega) (by omega)) (by decide)
      have hor : bits .or .u8 (v : Int) ((2 ^ j : Nat) : Int) = ((v ||| 2 ^ j : Nat) : Int) := u8_or_nat v (2 ^ j) (by omega) (by omega)
      obtain ⟨P, hP⟩ : ∃ P, P = 2 ^ j := ⟨_, rfl⟩
      have hshl : IntKind.u8.wrap ((2 : Int) ^ j) = (P : Int) := by
        rw [show ((2 : Int) ^ j) = ((2 ^ j : Nat) : Int) from by simp, ← hP]
        exact IntWalk.u8_in _ (by omega)
      have hshl1 : IntKind.u8.wrap (1 * (2 : Int) ^ j) = (P : Int) := by rw [Int.one_mul]; exact hshl
      rw [← hP] at hor hvp
      obtain ⟨hst, hgr⟩ := Row.stored hrow q (.int .u8 (bits .or .u8 (v : Int) (P : Int)))
      have hub : (Value.int .u8 (bits .or .u8 (v : Int) (P : Int))) = byteV (toU8 (v ||| 2 ^ j)) := by
        rw [hor, byteV_lt (by rw [← hP]; exact hvp), hP]
      have HREL := Lib.hid (show RByRel W x l g m (some ⟨gl, 0, none⟩) lcap (.int .i64 ((k : Int) + 1)) (wr.setCell ⟨g, q, none⟩ (.int .u8 (bits .or .u8 (v : Int) (P : Int)))) from
        ⟨k + 1, by simp, by omega, by
          rw [hNs, ← o3, List.map_set, ← hub]; exact hst, Row.kept hrl hgr (.inr (by simp [Value.ownBlock]; omega)), hbel.setCell (by have := HGT.out; simp only; omega) _⟩)
      have q1 : (b : Int).tdiv 8 = (q : Int) := by rw [Int.tdiv_eq_ediv_of_nonneg (by omega)]; omega
      have q2 : (b : Int) / 8 = (q : Int) := by omega
      have j1 : (b : Int).tmod 8 = (j : Int) := by rw [Int.tmod_eq_emod_of_nonneg (by omega)]; omega
      have j2 : (b : Int) % 8 = (j : Int) := by omega
      have hbw : IntKind.i64.wrap ((b : Int) + 1 - 1) = (b : Int) := by rw [Int.add_sub_cancel]; exact IntWalk.i64_in _ (by omega)
      have hju : IntKind.u64.wrap (j : Int) = (j : Int) := IntWalk.u64_in _ (by omega)
      have hkw : IntKind.i64.wrap ((k : Int) + 1) = (k : Int) + 1 := IntWalk.i64_in _ (by omega)
      clear hrow hrl hbel hst hgr hub hor hvp hP hcells hfrz hlcells hq hj hv hN hNlt hNs o1 o2 o3 hz t1 t2 t3 hp
      go_wp2_with fail
      case roundEnd =>
        refine ⟨HREL.out, ?_⟩
        clear HREL
        simp only [intOf]
        omega
    · obtain rfl : k = l.length := by omega
      rw [List.take_of_length_le (Nat.le_refl _), HALL.out] at hrow
      have HB := Lib.hid hbel
      clear hbel hrl
      go_wp2_with (with_reducible show wpList _ _ _ (⟨some 56, _, _, _, _, _⟩ :: _) _ _; refine wpList_string_row rfl (.tmp 55) 52 9 5 rfl Try.underlying52 Try.underlying5 Try.underlying9 _ hrow rfl ?_)
      go_ret2
      exact ⟨rfl, HB.out⟩

end Go.Proofs.Ytickjmkkgcfkhaa

/- Contract of the reference's four: four bytes of a number. -/
set_option linter.unusedSimpArgs false
set_option linter.unusedVariables false
namespace Go.Proofs.Ytickjmkkgcfkhaa
open Go.RowKit Go.ChangeShapes Go.WideShapes

/-- 'string([]byte{..})', a literal of so many bytes: the run's equation. -/
theorem run_string_lit {P : Program} (w : World) (k : Nat) (hk : k = w.heap.size) (l : List UInt8) (cells : Array Value) (n : Nat) (src dst e : TypeId) (hs : P.underlying src = some (.slice e)) (he : P.underlying e = some (.int .u8)) (hd : P.underlying dst = some .string) (hc : (l.map byteV).toArray = cells) (hn : l.length = n) (hl : l.length ≤ maxLen) :
    (convert src dst (.slice (some ⟨k, 0, none⟩) n n)).run P (w.alloc (.cells cells e)) = .ok (.string (bs l)) (w.alloc (.cells cells e)) := by
  subst hk
  subst hc
  subst hn
  exact run_string_row (P := P) src dst hs he hd (row_lit w e l hl)
theorem four_bytes (n : Nat) : nb n 4 = [toU8 (n / 2 ^ 24), toU8 (n / 2 ^ 16), toU8 (n / 2 ^ 8), toU8 n] := by
  rw [nb_succ, nb_succ, nb_succ, nb_succ, nb_zero, show n / 256 / 256 / 256 = n / 2 ^ 24 from by omega, show n / 256 / 256 = n / 2 ^ 16 from by omega, show n / 256 = n / 2 ^ 8 from by omega]
  rfl
theorem four_any (n : Nat) (W : World) (hn : n < 4294967296) : Calls Try.prog 43 #[.int .u32 n] W fun e W' => e = .returned (.string (bs (nb n 4))) ∧ Below W.heap.size W W' := by
  have hcv := run_string_lit (P := Try.prog) W W.heap.size rfl (nb n 4) #[.int .u8 ((n : Int) / 16777216), .int .u8 ((n : Int) / 65536 % 256), .int .u8 ((n : Int) / 256 % 256), .int .u8 ((n : Int) % 256)] 4 52 9 5 Try.underlying52 Try.underlying5 Try.underlying9 (by
    rw [four_bytes]
    have h0 : byteV (toU8 (n / 2 ^ 24)) = .int .u8 ((n : Int) / 16777216) := by
      rw [byteV_small (show n / 2 ^ 24 < 256 by omega)]
      rfl
    simp only [List.map_cons, List.map_nil, h0]
    simp only [byteV_shr, byteV_low]
    rfl) (nb_len n 4) (by rw [nb_len]; decide)
  go_enter Try.func43, Try.ntmps43
  go_wp2_with fail
  go_returns
  exact ⟨rfl, (Below.refl _ _).alloc (Nat.le_refl _) _⟩

end Go.Proofs.Ytickjmkkgcfkhaa

/- Contract of the reference's Encode: a header's bytes. -/
set_option linter.unusedSimpArgs false
set_option linter.unusedVariables false
namespace Go.Proofs.Ytickjmkkgcfkhaa
open Go.RowKit Go.ChangeShapes Go.WideShapes

set_option maxRecDepth 100000 in
set_option maxHeartbeats 3200000 in
theorem rhencode_no (h : Hd) (W : World) (hk : h.ok) (hc : h.chk = false) :
    Calls Try.prog 24 #[h.ag] W fun e W' => e = .returned (.tuple #[.string (bs []), .int .i64 2]) ∧ Below W.heap.size W W' := by
  obtain ⟨W1, hW1⟩ : ∃ W1, W1 = W.alloc (.cells h.cs 32) := ⟨_, rfl⟩
  have hb1 : Below W.heap.size W W1 := by rw [hW1]; exact (Below.refl _ _).alloc (Nat.le_refl _) _
  have hbx : BoxH W.heap.size h W1 := by rw [hW1]; exact heap_alloc_new _ _
  have HCH := Lib.hid (rhcheck_any h W1 hk)
  have HE := Lib.hid (show h.err = 2 by unfold Hd.err; rw [hc]; rfl)
  have HW1 := Lib.hid hW1
  have HB1 := Lib.hid hb1
  obtain ⟨x0, x1, x2, x3, x4, x5, x6, x7, x8, x9, x10⟩ := hbx.cells
  clear hW1 hb1 hc hbx
  go_enter Try.func24, Try.ntmps24
  unfold Hd.ag Hd.cs at *
  go_wp2_with fail
  rw [← HW1.out]
  refine HCH.out.mono ?_
  rintro e V ⟨rfl, hb⟩
  rw [HE.out]
  have HB := Lib.hid (HB1.out.trans (hb.mono HB1.out.size))
  clear hb
  go_wp2_with fail
  go_ret2
  exact ⟨rfl, HB.out⟩

structure EeS (W : World) (w st en hp sr gp id a0 a1 a2 a3 : Nat) (V : World) : Prop where
  h : BoxV W.heap.size w st en hp sr gp id a0 a1 a2 a3 V
  bel : Below W.heap.size W V
theorem EeS.later {W V X : World} {w st en hp sr gp id a0 a1 a2 a3 : Nat} (h : EeS W w st en hp sr gp id a0 a1 a2 a3 V) (hb : Below V.heap.size V X) : EeS W w st en hp sr gp id a0 a1 a2 a3 X := ⟨h.h.later hb, h.bel.trans (hb.mono h.bel.size)⟩
theorem nb_one (v : Nat) : nb v 1 = [toU8 v] := by rw [nb_succ, nb_zero]; rfl
set_option maxRecDepth 100000 in
set_option maxHeartbeats 25600000 in
theorem rhencode_yes (h : Hd) (W : World) (hk : h.ok) (hc : h.chk = true) :
    Calls Try.prog 24 #[h.ag] W fun e W' => e = .returned (.tuple #[.string h.enc, .int .i64 0]) ∧ Below W.heap.size W W' := by
  obtain ⟨W1, hW1⟩ : ∃ W1, W1 = W.alloc (.cells h.cs 32) := ⟨_, rfl⟩
  have hb1 : Below W.heap.size W W1 := by rw [hW1]; exact (Below.refl _ _).alloc (Nat.le_refl _) _
  have hbx : BoxH W.heap.size h W1 := by rw [hW1]; exact heap_alloc_new _ _
  have HCH := Lib.hid (rhcheck_any h W1 hk)
  have HE := Lib.hid (show h.err = 0 by unfold Hd.err; rw [hc]; rfl)
  obtain ⟨c1, c2, c3, c4, c5, c6⟩ := Hd.chk_is hc
  obtain ⟨k1, k2, k3, k4, k5, k6, k7, k8⟩ := hk
  obtain ⟨w1, w2, w3⟩ := codeN_wid c1
  have hwr := wide_cases c1
  obtain ⟨wid, set, ent, hops, src, grp, id, bits⟩ := h
  simp only at *
  obtain ⟨w, rfl⟩ : ∃ w : Nat, wid = (w : Int) := ⟨wid.toNat, by omega⟩
  obtain ⟨st, rfl⟩ : ∃ w : Nat, set = (w : Int) := ⟨set.toNat, by omega⟩
  obtain ⟨hp, rfl⟩ : ∃ w : Nat, hops = (w : Int) := ⟨hops.toNat, by omega⟩
  obtain ⟨sr, rfl⟩ : ∃ w : Nat, src = (w : Int) := ⟨src.toNat, by omega⟩
  obtain ⟨gp, rfl⟩ : ∃ w : Nat, grp = (w : Int) := ⟨grp.toNat, by omega⟩
  obtain ⟨c, hcc⟩ : ∃ c, c = codeN (w : Int) := ⟨_, rfl⟩
  have HCO := Lib.hid (show ∀ V, Calls Try.prog 42 #[.int .i64 w] V fun e V' => e = .returned (.int .i64 c) ∧ V = V' from fun V => by
    have h1 := code_any (w : Int) V
    rw [codeI, if_pos c1, ← hcc] at h1
    exact h1)
  obtain ⟨m, hm⟩ : ∃ m, m = w / 8 := ⟨_, rfl⟩
  have hm8 : (w : Int) = 8 * (m : Int) := by omega
  have hmm : 0 < m ∧ m ≤ 32 := by omega
  have hc5 : c ≤ 5 := by omega
  have hst : st < 256 := by omega
  have hhp : hp < 256 := by omega
  have hsr : sr < 256 := by omega
  have hgp : gp < 256 := by omega
  have hv0 : IntKind.u8.wrap ((c : Int) + 16) = (c : Int) + 16 := IntWalk.u8_in _ (by omega)
  have hv00 : IntKind.i64.wrap ((c : Int) + 16) = (c : Int) + 16 := IntWalk.i64_in _ (by omega)
  have hv1 : IntKind.u8.wrap (st : Int) = (st : Int) := IntWalk.u8_in _ (by omega)
  have hv2 : IntKind.u8.wrap (hp : Int) = (hp : Int) := IntWalk.u8_in _ (by omega)
  have hv3 : IntKind.u8.wrap (sr : Int) = (sr : Int) := IntWalk.u8_in _ (by omega)
  have hv4 : IntKind.u8.wrap (gp : Int) = (gp : Int) := IntWalk.u8_in _ (by omega)
  have HCELL2 := Lib.hid (show (#[.int .u8 ((c : Int) + 16), .int .u8 (st : Int)] : Array Value) = (([toU8 (c + 16), toU8 st] : List UInt8).map byteV).toArray by
    simp only [List.map_cons, List.map_nil, byteV_small (show c + 16 < 256 by omega), byteV_small hst]; rfl)
  have HCELL3 := Lib.hid (show (#[.int .u8 (hp : Int), .int .u8 (sr : Int), .int .u8 (gp : Int)] : Array Value) = (([toU8 hp, toU8 sr, toU8 gp] : List UInt8).map byteV).toArray by
    simp only [List.map_cons, List.map_nil, byteV_small hhp, byteV_small hsr, byteV_small hgp])
  obtain ⟨B0, hB0⟩ : ∃ B, B = bs ([toU8 (c + 16), toU8 st] : List UInt8) := ⟨_, rfl⟩
  obtain ⟨B1, hB1⟩ : ∃ B, B = bs (nb ent 4) := ⟨_, rfl⟩
  obtain ⟨B3, hB3⟩ : ∃ B, B = bs ([toU8 hp, toU8 sr, toU8 gp] : List UInt8) := ⟨_, rfl⟩
  obtain ⟨B4, hB4⟩ : ∃ B, B = bs (nb id 4) := ⟨_, rfl⟩
  obtain ⟨B5, hB5⟩ : ∃ B, B = bs (leB bits.num m) := ⟨_, rfl⟩
  have s0 : B0.size = 2 := by rw [hB0, bs_size]; rfl
  have s1 : B1.size = 4 := by rw [hB1, bs_size, nb_len]
  have s3 : B3.size = 3 := by rw [hB3, bs_size]; rfl
  have s4 : B4.size = 4 := by rw [hB4, bs_size, nb_len]
  have s5 : B5.size = m := by rw [hB5, bs_size, leB_len]
  have HF1 := Lib.hid (show ∀ V, Calls Try.prog 43 #[.int .u32 ent] V fun e V' => e = .returned (.string B1) ∧ Below V.heap.size V V' from fun V => by rw [hB1]; exact four_any ent V k3)
  have HF2 := Lib.hid (show ∀ V, Calls Try.prog 43 #[.int .u32 id] V fun e V' => e = .returned (.string B4) ∧ Below V.heap.size V V' from fun V => by rw [hB4]; exact four_any id V k7)
  have HBY := Lib.hid (show ∀ V, Calls Try.prog 44 #[.agg #[.int .u64 bits.a, .int .u64 bits.b, .int .u64 bits.c, .int .u64 bits.d], .int .i64 (8 * (m : Int))] V fun e V' => e = .returned (.tuple #[.string B5, .int .i64 0]) ∧ Below V.heap.size V V' from fun V => by
    rw [hB5]; exact rbbytes_any bits m V k8 hmm.1 hmm.2 (by rw [← hm8]; exact c6))
  have HSE := Lib.hid (show ∀ V, Calls Try.prog 26 #[.string (B0 ++ B1 ++ B3 ++ B4 ++ B5)] V fun e V' => e = .returned (.string (Hd.enc ⟨(w : Int), (st : Int), ent, (hp : Int), (sr : Int), (gp : Int), id, bits⟩)) ∧ Below V.heap.size V V' from fun V => by
    have h1 := rseal_any (B0 ++ B1 ++ B3 ++ B4 ++ B5) V (by simp only [ByteArray.size_append, s0, s1, s3, s4, s5]; omega)
    rw [show Hd.enc ⟨(w : Int), (st : Int), ent, (hp : Int), (sr : Int), (gp : Int), id, bits⟩ = sealB (B0 ++ B1 ++ B3 ++ B4 ++ B5) from by
      unfold Hd.enc Hd.body
      simp only [Int.toNat_natCast]
      rw [← hcc, ← hm, hB0, hB1, hB3, hB4, hB5]
      simp only [bs_append, nb_one, List.append_assoc, List.cons_append, List.nil_append, Nat.add_comm 16 c]]
    exact h1)
  have hz01 : ¬ 9223372036854775807 < B0.size + B1.size := by omega
  have hz3 : ¬ 9223372036854775807 < (B0 ++ B1).size + B3.size := by simp only [ByteArray.size_append]; omega
  have hz4 : ¬ 9223372036854775807 < (B0 ++ B1 ++ B3).size + B4.size := by simp only [ByteArray.size_append]; omega
  have hz5 : ¬ 9223372036854775807 < (B0 ++ B1 ++ B3 ++ B4).size + B5.size := by simp only [ByteArray.size_append]; omega
  have hz3' : ¬ 9223372036854775807 < B0.size + B1.size + B3.size := by omega
  have hz4' : ¬ 9223372036854775807 < B0.size + B1.size + B3.size + B4.size := by omega
  have hz5' : ¬ 9223372036854775807 < B0.size + B1.size + B3.size + B4.size + B5.size := by omega
  have HB0 := Lib.hid hB0
  have HB3 := Lib.hid hB3
  have HM8 := Lib.hid hm8
  have HW1 := Lib.hid hW1
  have HB1 := Lib.hid hb1
  have HBX := Lib.hid (show BoxV W.heap.size w st ent hp sr gp id bits.a bits.b bits.c bits.d W1 from hbx)
  obtain ⟨y0, y1, y2, y3, y4, y5, y6, y7, y8, y9, y10⟩ := HBX.out.cells
  clear hbx hb1 c1 c2 c3 c4 c5 c6 w1 w2 w3 hwr hcc hm hm8 k1 k2 k4 k5 k6 hB0 hB1 hB3 hB4 hB5 s0 s1 s3 s4 s5 hW1
  go_enter Try.func24, Try.ntmps24
  unfold Hd.ag Hd.cs at *
  simp only at *
  go_wp2_with fail
  rw [← HW1.out]
  refine HCH.out.mono ?_
  rintro e V ⟨rfl, hb⟩
  rw [HE.out]
  obtain ⟨X0, hX0⟩ : ∃ X, X = V.drew := ⟨_, rfl⟩
  have HS0 := Lib.hid (show EeS W w st ent hp sr gp id bits.a bits.b bits.c bits.d X0 by
    rw [hX0]
    have h1 : EeS W w st ent hp sr gp id bits.a bits.b bits.c bits.d V := ⟨HBX.out.later hb, HB1.out.trans (hb.mono HB1.out.size)⟩
    exact h1.later ⟨rfl, rfl, rfl, Nat.le_refl _, fun _ _ => rfl⟩)
  have HXD0 := Lib.hid hX0
  clear hb hX0 y0 y1 y2 y3 y4 y5 y6 y7 y8 y9 y10
  go_wp2_with fail
  refine wp_region_tree (.look 0 (.look 1 (.look 5 (.look 6 (.look 7 (.look 10 (.look 11 (.one 2 (.look 3 (.look 4 (.two 8 (.two 9 (.one 12 (.look 13 (.look 14 .nil))) 12 (.one 9 (.look 13 (.look 14 .nil)))) 12 (.one 8 (.one 9 (.look 13 (.look 14 .nil))))))))))))))) (EeS W w st ent hp sr gp id bits.a bits.b bits.c bits.d) (by kernel_rfl) (by kernel_rfl) (by decide) (by kernel_rfl) (fun d _ _ _ _ h => by cases d <;> exact h) (by rw [← HXD0.out]; exact HS0.out) ?_
  rw [← HXD0.out]
  iterate 7 ((apply wpOT_take rfl rfl (by kernel_rfl); (intro V hV; obtain ⟨y0, y1, y2, y3, y4, y5, y6, y7, y8, y9, y10⟩ := hV.h.cells; go_simp; rfl)); (try simp only [List.setIfInBounds_toArray, List.set_cons_succ, List.set_cons_zero]))
  apply wpOT_do rfl (by kernel_rfl)
  intro K hK
  go_simp
  refine (HCO.out _).mono ?_
  rintro e X ⟨rfl, rfl⟩
  refine hK _ _ HS0.out ?_
  clear hK K
  iterate 2 ((apply wpOT_take rfl rfl (by kernel_rfl); (intro V _; go_simp; rfl)); (try simp only [List.setIfInBounds_toArray, List.set_cons_succ, List.set_cons_zero]))
  apply wpOT_two
  · skip
    apply wpOT_do rfl (by kernel_rfl)
    intro K hK
    go_simp
    obtain ⟨g1, hg1⟩ : ∃ g, g = X0.heap.size := ⟨_, rfl⟩
    obtain ⟨X1, hX1⟩ : ∃ X, X = X0.alloc (.cells #[.int .u8 ((c : Int) + 16), .int .u8 (st : Int)] 5) := ⟨_, rfl⟩
    have HS1 := Lib.hid (show EeS W w st ent hp sr gp id bits.a bits.b bits.c bits.d X1 by rw [hX1]; exact HS0.out.later ((Below.refl _ _).alloc (Nat.le_refl _) _))
    have HR1 := Lib.hid (show Row X1 X0.heap.size 5 1 (.slice (some ⟨g1, 0, none⟩) 2 2) 2 (([toU8 (c + 16), toU8 st] : List UInt8).map byteV) by
      rw [hX1, hg1, show (#[.int .u8 ((c : Int) + 16), .int .u8 (st : Int)] : Array Value) = (([toU8 (c + 16), toU8 st] : List UInt8).map byteV).toArray from HCELL2.out]
      exact row_lit X0 5 [toU8 (c + 16), toU8 st] (by simp [maxLen]))
    rw [← hX1, ← hg1]
    refine hK _ _ HS1.out ?_
    clear hK K hX1 hg1
    apply wpOT_two
    · skip
      apply wpOT_do rfl (by kernel_rfl)
      intro K hK
      have hcv := run_string_row (P := Try.prog) 52 9 Try.underlying52 Try.underlying5 Try.underlying9 HR1.out
      rw [← HB0.out] at hcv
      go_simp
      refine hK _ _ HS1.out ?_
      clear hK K hcv
      apply wpOT_do rfl (by kernel_rfl)
      intro K hK
      go_simp
      refine (HF1.out _).mono ?_
      rintro e X2 ⟨rfl, hb⟩
      have HS2 := Lib.hid (HS1.out.later hb)
      refine hK _ _ HS2.out ?_
      clear hK K hb
      iterate 2 ((apply wpOT_take rfl rfl (by kernel_rfl); (intro V _; go_simp; rfl)); (try simp only [List.setIfInBounds_toArray, List.set_cons_succ, List.set_cons_zero]))
      refine wpOT_nil ?_
      obtain ⟨X3, hX3⟩ : ∃ X, X = X2.drew := ⟨_, rfl⟩
      have HS3 := Lib.hid (show EeS W w st ent hp sr gp id bits.a bits.b bits.c bits.d X3 by rw [hX3]; exact HS2.out.later ⟨rfl, rfl, rfl, Nat.le_refl _, fun _ _ => rfl⟩)
      have HXD3 := Lib.hid hX3
      clear hX3
      go_wp2_with fail
      refine wp_region_tree (.look 0 (.look 1 (.look 2 (.look 3 (.look 4 (.look 5 (.look 6 (.look 7 (.look 8 (.look 9 (.look 13 (.look 14 (.two 10 (.two 11 (.look 12 (.one 15 (.look 16 (.look 17 .nil)))) 15 (.one 11 (.look 12 (.look 16 (.look 17 .nil))))) 15 (.one 10 (.one 11 (.look 12 (.look 16 (.look 17 .nil)))))))))))))))))) (EeS W w st ent hp sr gp id bits.a bits.b bits.c bits.d) (by kernel_rfl) (by kernel_rfl) (by decide) (by kernel_rfl) (fun d _ _ _ _ h => by cases d <;> exact h) (by rw [← HXD3.out]; exact HS3.out) ?_
      rw [← HXD3.out]
      iterate 12 ((apply wpOT_take rfl rfl (by kernel_rfl); (intro V hV; obtain ⟨y0, y1, y2, y3, y4, y5, y6, y7, y8, y9, y10⟩ := hV.h.cells; go_simp; rfl)); (try simp only [List.setIfInBounds_toArray, List.set_cons_succ, List.set_cons_zero]))
      apply wpOT_two
      · skip
        apply wpOT_do rfl (by kernel_rfl)
        intro K hK
        go_simp
        obtain ⟨g4, hg4⟩ : ∃ g, g = X3.heap.size := ⟨_, rfl⟩
        obtain ⟨X4, hX4⟩ : ∃ X, X = X3.alloc (.cells #[.int .u8 (hp : Int), .int .u8 (sr : Int), .int .u8 (gp : Int)] 5) := ⟨_, rfl⟩
        have HS4 := Lib.hid (show EeS W w st ent hp sr gp id bits.a bits.b bits.c bits.d X4 by rw [hX4]; exact HS3.out.later ((Below.refl _ _).alloc (Nat.le_refl _) _))
        have HR4 := Lib.hid (show Row X4 X3.heap.size 5 1 (.slice (some ⟨g4, 0, none⟩) 3 3) 3 (([toU8 hp, toU8 sr, toU8 gp] : List UInt8).map byteV) by
          rw [hX4, hg4, show (#[.int .u8 (hp : Int), .int .u8 (sr : Int), .int .u8 (gp : Int)] : Array Value) = (([toU8 hp, toU8 sr, toU8 gp] : List UInt8).map byteV).toArray from HCELL3.out]
          exact row_lit X3 5 [toU8 hp, toU8 sr, toU8 gp] (by simp [maxLen]))
        rw [← hX4, ← hg4]
        refine hK _ _ HS4.out ?_
        clear hK K hX4 hg4
        apply wpOT_two
        · skip
          apply wpOT_do rfl (by kernel_rfl)
          intro K hK
          have hcv := run_string_row (P := Try.prog) 52 9 Try.underlying52 Try.underlying5 Try.underlying9 HR4.out
          rw [← HB3.out] at hcv
          go_simp
          refine hK _ _ HS4.out ?_
          clear hK K hcv
          iterate 1 ((apply wpOT_take rfl rfl (by kernel_rfl); (intro V _; go_simp; rfl)); (try simp only [List.setIfInBounds_toArray, List.set_cons_succ, List.set_cons_zero]))
          apply wpOT_do rfl (by kernel_rfl)
          intro K hK
          go_simp
          refine (HF2.out _).mono ?_
          rintro e X5 ⟨rfl, hb⟩
          have HS5 := Lib.hid (HS4.out.later hb)
          refine hK _ _ HS5.out ?_
          clear hK K hb
          iterate 2 ((apply wpOT_take rfl rfl (by kernel_rfl); (intro V _; go_simp; rfl)); (try simp only [List.setIfInBounds_toArray, List.set_cons_succ, List.set_cons_zero]))
          refine wpOT_nil ?_
          obtain ⟨y0, y1, y2, y3, y4, y5, y6, y7, y8, y9, y10⟩ := HS5.out.h.cells
          rw [HM8.out] at y0
          go_wp2_with fail
          refine (HBY.out _).mono ?_
          rintro e Z1 ⟨rfl, hb⟩
          have HZ1 := Lib.hid (HS5.out.later hb)
          clear hb y0 y1 y2 y3 y4 y5 y6 y7 y8 y9 y10
          go_wp2_with fail
          refine (HSE.out _).mono ?_
          rintro e Z2 ⟨rfl, hb⟩
          have HZ2 := Lib.hid (HZ1.out.later hb)
          clear hb
          go_wp2_with fail
          go_ret2
          exact ⟨rfl, HZ2.out.bel⟩
        · skip
          apply wpOT_do rfl (by kernel_rfl)
          intro K hK
          go_simp
          refine (HF2.out _).mono ?_
          rintro e X6 ⟨rfl, hb⟩
          have HS6 := Lib.hid (HS4.out.later hb)
          have HR4L := Lib.hid (Row.later HR4.out hb)
          refine hK _ _ HS6.out ?_
          clear hK K hb
          apply wpOT_do rfl (by kernel_rfl)
          intro K hK
          have hcv := run_string_row (P := Try.prog) 52 9 Try.underlying52 Try.underlying5 Try.underlying9 HR4L.out
          rw [← HB3.out] at hcv
          go_simp
          refine hK _ _ HS6.out ?_
          clear hK K hcv
          iterate 3 ((apply wpOT_take rfl rfl (by kernel_rfl); (intro V _; go_simp; rfl)); (try simp only [List.setIfInBounds_toArray, List.set_cons_succ, List.set_cons_zero]))
          refine wpOT_nil ?_
          obtain ⟨y0, y1, y2, y3, y4, y5, y6, y7, y8, y9, y10⟩ := HS6.out.h.cells
          rw [HM8.out] at y0
          go_wp2_with fail
          refine (HBY.out _).mono ?_
          rintro e Z1 ⟨rfl, hb⟩
          have HZ1 := Lib.hid (HS6.out.later hb)
          clear hb y0 y1 y2 y3 y4 y5 y6 y7 y8 y9 y10
          go_wp2_with fail
          refine (HSE.out _).mono ?_
          rintro e Z2 ⟨rfl, hb⟩
          have HZ2 := Lib.hid (HZ1.out.later hb)
          clear hb
          go_wp2_with fail
          go_ret2
          exact ⟨rfl, HZ2.out.bel⟩
      · skip
        apply wpOT_do rfl (by kernel_rfl)
        intro K hK
        go_simp
        refine (HF2.out _).mono ?_
        rintro e X7 ⟨rfl, hb⟩
        have HS7 := Lib.hid (HS3.out.later hb)
        refine hK _ _ HS7.out ?_
        clear hK K hb
        apply wpOT_do rfl (by kernel_rfl)
        intro K hK
        go_simp
        obtain ⟨g8, hg8⟩ : ∃ g, g = X7.heap.size := ⟨_, rfl⟩
        obtain ⟨X8, hX8⟩ : ∃ X, X = X7.alloc (.cells #[.int .u8 (hp : Int), .int .u8 (sr : Int), .int .u8 (gp : Int)] 5) := ⟨_, rfl⟩
        have HS8 := Lib.hid (show EeS W w st ent hp sr gp id bits.a bits.b bits.c bits.d X8 by rw [hX8]; exact HS7.out.later ((Below.refl _ _).alloc (Nat.le_refl _) _))
        have HR8 := Lib.hid (show Row X8 X7.heap.size 5 1 (.slice (some ⟨g8, 0, none⟩) 3 3) 3 (([toU8 hp, toU8 sr, toU8 gp] : List UInt8).map byteV) by
          rw [hX8, hg8, show (#[.int .u8 (hp : Int), .int .u8 (sr : Int), .int .u8 (gp : Int)] : Array Value) = (([toU8 hp, toU8 sr, toU8 gp] : List UInt8).map byteV).toArray from HCELL3.out]
          exact row_lit X7 5 [toU8 hp, toU8 sr, toU8 gp] (by simp [maxLen]))
        rw [← hX8, ← hg8]
        refine hK _ _ HS8.out ?_
        clear hK K hX8 hg8
        apply wpOT_do rfl (by kernel_rfl)
        intro K hK
        have hcv := run_string_row (P := Try.prog) 52 9 Try.underlying52 Try.underlying5 Try.underlying9 HR8.out
        rw [← HB3.out] at hcv
        go_simp
        refine hK _ _ HS8.out ?_
        clear hK K hcv
        iterate 3 ((apply wpOT_take rfl rfl (by kernel_rfl); (intro V _; go_simp; rfl)); (try simp only [List.setIfInBounds_toArray, List.set_cons_succ, List.set_cons_zero]))
        refine wpOT_nil ?_
        obtain ⟨y0, y1, y2, y3, y4, y5, y6, y7, y8, y9, y10⟩ := HS8.out.h.cells
        rw [HM8.out] at y0
        go_wp2_with fail
        refine (HBY.out _).mono ?_
        rintro e Z1 ⟨rfl, hb⟩
        have HZ1 := Lib.hid (HS8.out.later hb)
        clear hb y0 y1 y2 y3 y4 y5 y6 y7 y8 y9 y10
        go_wp2_with fail
        refine (HSE.out _).mono ?_
        rintro e Z2 ⟨rfl, hb⟩
        have HZ2 := Lib.hid (HZ1.out.later hb)
        clear hb
        go_wp2_with fail
        go_ret2
        exact ⟨rfl, HZ2.out.bel⟩
    · skip
      apply wpOT_do rfl (by kernel_rfl)
      intro K hK
      go_simp
      refine (HF1.out _).mono ?_
      rintro e X9 ⟨rfl, hb⟩
      have HS9 := Lib.hid (HS1.out.later hb)
      have HR1L := Lib.hid (Row.later HR1.out hb)
      refine hK _ _ HS9.out ?_
      clear hK K hb
      apply wpOT_do rfl (by kernel_rfl)
      intro K hK
      have hcv := run_string_row (P := Try.prog) 52 9 Try.underlying52 Try.underlying5 Try.underlying9 HR1L.out
      rw [← HB0.out] at hcv
      go_simp
      refine hK _ _ HS9.out ?_
      clear hK K hcv
      iterate 2 ((apply wpOT_take rfl rfl (by kernel_rfl); (intro V _; go_simp; rfl)); (try simp only [List.setIfInBounds_toArray, List.set_cons_succ, List.set_cons_zero]))
      refine wpOT_nil ?_
      obtain ⟨X10, hX10⟩ : ∃ X, X = X9.drew := ⟨_, rfl⟩
      have HS10 := Lib.hid (show EeS W w st ent hp sr gp id bits.a bits.b bits.c bits.d X10 by rw [hX10]; exact HS9.out.later ⟨rfl, rfl, rfl, Nat.le_refl _, fun _ _ => rfl⟩)
      have HXD10 := Lib.hid hX10
      clear hX10
      go_wp2_with fail
      refine wp_region_tree (.look 0 (.look 1 (.look 2 (.look 3 (.look 4 (.look 5 (.look 6 (.look 7 (.look 8 (.look 9 (.look 13 (.look 14 (.two 10 (.two 11 (.look 12 (.one 15 (.look 16 (.look 17 .nil)))) 15 (.one 11 (.look 12 (.look 16 (.look 17 .nil))))) 15 (.one 10 (.one 11 (.look 12 (.look 16 (.look 17 .nil)))))))))))))))))) (EeS W w st ent hp sr gp id bits.a bits.b bits.c bits.d) (by kernel_rfl) (by kernel_rfl) (by decide) (by kernel_rfl) (fun d _ _ _ _ h => by cases d <;> exact h) (by rw [← HXD10.out]; exact HS10.out) ?_
      rw [← HXD10.out]
      iterate 12 ((apply wpOT_take rfl rfl (by kernel_rfl); (intro V hV; obtain ⟨y0, y1, y2, y3, y4, y5, y6, y7, y8, y9, y10⟩ := hV.h.cells; go_simp; rfl)); (try simp only [List.setIfInBounds_toArray, List.set_cons_succ, List.set_cons_zero]))
      apply wpOT_two
      · skip
        apply wpOT_do rfl (by kernel_rfl)
        intro K hK
        go_simp
        obtain ⟨g11, hg11⟩ : ∃ g, g = X10.heap.size := ⟨_, rfl⟩
        obtain ⟨X11, hX11⟩ : ∃ X, X = X10.alloc (.cells #[.int .u8 (hp : Int), .int .u8 (sr : Int), .int .u8 (gp : Int)] 5) := ⟨_, rfl⟩
        have HS11 := Lib.hid (show EeS W w st ent hp sr gp id bits.a bits.b bits.c bits.d X11 by rw [hX11]; exact HS10.out.later ((Below.refl _ _).alloc (Nat.le_refl _) _))
        have HR11 := Lib.hid (show Row X11 X10.heap.size 5 1 (.slice (some ⟨g11, 0, none⟩) 3 3) 3 (([toU8 hp, toU8 sr, toU8 gp] : List UInt8).map byteV) by
          rw [hX11, hg11, show (#[.int .u8 (hp : Int), .int .u8 (sr : Int), .int .u8 (gp : Int)] : Array Value) = (([toU8 hp, toU8 sr, toU8 gp] : List UInt8).map byteV).toArray from HCELL3.out]
          exact row_lit X10 5 [toU8 hp, toU8 sr, toU8 gp] (by simp [maxLen]))
        rw [← hX11, ← hg11]
        refine hK _ _ HS11.out ?_
        clear hK K hX11 hg11
        apply wpOT_two
        · skip
          apply wpOT_do rfl (by kernel_rfl)
          intro K hK
          have hcv := run_string_row (P := Try.prog) 52 9 Try.underlying52 Try.underlying5 Try.underlying9 HR11.out
          rw [← HB3.out] at hcv
          go_simp
          refine hK _ _ HS11.out ?_
          clear hK K hcv
          iterate 1 ((apply wpOT_take rfl rfl (by kernel_rfl); (intro V _; go_simp; rfl)); (try simp only [List.setIfInBounds_toArray, List.set_cons_succ, List.set_cons_zero]))
          apply wpOT_do rfl (by kernel_rfl)
          intro K hK
          go_simp
          refine (HF2.out _).mono ?_
          rintro e X12 ⟨rfl, hb⟩
          have HS12 := Lib.hid (HS11.out.later hb)
          refine hK _ _ HS12.out ?_
          clear hK K hb
          iterate 2 ((apply wpOT_take rfl rfl (by kernel_rfl); (intro V _; go_simp; rfl)); (try simp only [List.setIfInBounds_toArray, List.set_cons_succ, List.set_cons_zero]))
          refine wpOT_nil ?_
          obtain ⟨y0, y1, y2, y3, y4, y5, y6, y7, y8, y9, y10⟩ := HS12.out.h.cells
          rw [HM8.out] at y0
          go_wp2_with fail
          refine (HBY.out _).mono ?_
          rintro e Z1 ⟨rfl, hb⟩
          have HZ1 := Lib.hid (HS12.out.later hb)
          clear hb y0 y1 y2 y3 y4 y5 y6 y7 y8 y9 y10
          go_wp2_with fail
          refine (HSE.out _).mono ?_
          rintro e Z2 ⟨rfl, hb⟩
          have HZ2 := Lib.hid (HZ1.out.later hb)
          clear hb
          go_wp2_with fail
          go_ret2
          exact ⟨rfl, HZ2.out.bel⟩
        · skip
          apply wpOT_do rfl (by kernel_rfl)
          intro K hK
          go_simp
          refine (HF2.out _).mono ?_
          rintro e X13 ⟨rfl, hb⟩
          have HS13 := Lib.hid (HS11.out.later hb)
          have HR11L := Lib.hid (Row.later HR11.out hb)
          refine hK _ _ HS13.out ?_
          clear hK K hb
          apply wpOT_do rfl (by kernel_rfl)
          intro K hK
          have hcv := run_string_row (P := Try.prog) 52 9 Try.underlying52 Try.underlying5 Try.underlying9 HR11L.out
          rw [← HB3.out] at hcv
          go_simp
          refine hK _ _ HS13.out ?_
          clear hK K hcv
          iterate 3 ((apply wpOT_take rfl rfl (by kernel_rfl); (intro V _; go_simp; rfl)); (try simp only [List.setIfInBounds_toArray, List.set_cons_succ, List.set_cons_zero]))
          refine wpOT_nil ?_
          obtain ⟨y0, y1, y2, y3, y4, y5, y6, y7, y8, y9, y10⟩ := HS13.out.h.cells
          rw [HM8.out] at y0
          go_wp2_with fail
          refine (HBY.out _).mono ?_
          rintro e Z1 ⟨rfl, hb⟩
          have HZ1 := Lib.hid (HS13.out.later hb)
          clear hb y0 y1 y2 y3 y4 y5 y6 y7 y8 y9 y10
          go_wp2_with fail
          refine (HSE.out _).mono ?_
          rintro e Z2 ⟨rfl, hb⟩
          have HZ2 := Lib.hid (HZ1.out.later hb)
          clear hb
          go_wp2_with fail
          go_ret2
          exact ⟨rfl, HZ2.out.bel⟩
      · skip
        apply wpOT_do rfl (by kernel_rfl)
        intro K hK
        go_simp
        refine (HF2.out _).mono ?_
        rintro e X14 ⟨rfl, hb⟩
        have HS14 := Lib.hid (HS10.out.later hb)
        refine hK _ _ HS14.out ?_
        clear hK K hb
        apply wpOT_do rfl (by kernel_rfl)
        intro K hK
        go_simp
        obtain ⟨g15, hg15⟩ : ∃ g, g = X14.heap.size := ⟨_, rfl⟩
        obtain ⟨X15, hX15⟩ : ∃ X, X = X14.alloc (.cells #[.int .u8 (hp : Int), .int .u8 (sr : Int), .int .u8 (gp : Int)] 5) := ⟨_, rfl⟩
        have HS15 := Lib.hid (show EeS W w st ent hp sr gp id bits.a bits.b bits.c bits.d X15 by rw [hX15]; exact HS14.out.later ((Below.refl _ _).alloc (Nat.le_refl _) _))
        have HR15 := Lib.hid (show Row X15 X14.heap.size 5 1 (.slice (some ⟨g15, 0, none⟩) 3 3) 3 (([toU8 hp, toU8 sr, toU8 gp] : List UInt8).map byteV) by
          rw [hX15, hg15, show (#[.int .u8 (hp : Int), .int .u8 (sr : Int), .int .u8 (gp : Int)] : Array Value) = (([toU8 hp, toU8 sr, toU8 gp] : List UInt8).map byteV).toArray from HCELL3.out]
          exact row_lit X14 5 [toU8 hp, toU8 sr, toU8 gp] (by simp [maxLen]))
        rw [← hX15, ← hg15]
        refine hK _ _ HS15.out ?_
        clear hK K hX15 hg15
        apply wpOT_do rfl (by kernel_rfl)
        intro K hK
        have hcv := run_string_row (P := Try.prog) 52 9 Try.underlying52 Try.underlying5 Try.underlying9 HR15.out
        rw [← HB3.out] at hcv
        go_simp
        refine hK _ _ HS15.out ?_
        clear hK K hcv
        iterate 3 ((apply wpOT_take rfl rfl (by kernel_rfl); (intro V _; go_simp; rfl)); (try simp only [List.setIfInBounds_toArray, List.set_cons_succ, List.set_cons_zero]))
        refine wpOT_nil ?_
        obtain ⟨y0, y1, y2, y3, y4, y5, y6, y7, y8, y9, y10⟩ := HS15.out.h.cells
        rw [HM8.out] at y0
        go_wp2_with fail
        refine (HBY.out _).mono ?_
        rintro e Z1 ⟨rfl, hb⟩
        have HZ1 := Lib.hid (HS15.out.later hb)
        clear hb y0 y1 y2 y3 y4 y5 y6 y7 y8 y9 y10
        go_wp2_with fail
        refine (HSE.out _).mono ?_
        rintro e Z2 ⟨rfl, hb⟩
        have HZ2 := Lib.hid (HZ1.out.later hb)
        clear hb
        go_wp2_with fail
        go_ret2
        exact ⟨rfl, HZ2.out.bel⟩
  · skip
    apply wpOT_do rfl (by kernel_rfl)
    intro K hK
    go_simp
    refine (HF1.out _).mono ?_
    rintro e X16 ⟨rfl, hb⟩
    have HS16 := Lib.hid (HS0.out.later hb)
    refine hK _ _ HS16.out ?_
    clear hK K hb
    apply wpOT_do rfl (by kernel_rfl)
    intro K hK
    go_simp
    obtain ⟨g17, hg17⟩ : ∃ g, g = X16.heap.size := ⟨_, rfl⟩
    obtain ⟨X17, hX17⟩ : ∃ X, X = X16.alloc (.cells #[.int .u8 ((c : Int) + 16), .int .u8 (st : Int)] 5) := ⟨_, rfl⟩
    have HS17 := Lib.hid (show EeS W w st ent hp sr gp id bits.a bits.b bits.c bits.d X17 by rw [hX17]; exact HS16.out.later ((Below.refl _ _).alloc (Nat.le_refl _) _))
    have HR17 := Lib.hid (show Row X17 X16.heap.size 5 1 (.slice (some ⟨g17, 0, none⟩) 2 2) 2 (([toU8 (c + 16), toU8 st] : List UInt8).map byteV) by
      rw [hX17, hg17, show (#[.int .u8 ((c : Int) + 16), .int .u8 (st : Int)] : Array Value) = (([toU8 (c + 16), toU8 st] : List UInt8).map byteV).toArray from HCELL2.out]
      exact row_lit X16 5 [toU8 (c + 16), toU8 st] (by simp [maxLen]))
    rw [← hX17, ← hg17]
    refine hK _ _ HS17.out ?_
    clear hK K hX17 hg17
    apply wpOT_do rfl (by kernel_rfl)
    intro K hK
    have hcv := run_string_row (P := Try.prog) 52 9 Try.underlying52 Try.underlying5 Try.underlying9 HR17.out
    rw [← HB0.out] at hcv
    go_simp
    refine hK _ _ HS17.out ?_
    clear hK K hcv
    iterate 2 ((apply wpOT_take rfl rfl (by kernel_rfl); (intro V _; go_simp; rfl)); (try simp only [List.setIfInBounds_toArray, List.set_cons_succ, List.set_cons_zero]))
    refine wpOT_nil ?_
    obtain ⟨X18, hX18⟩ : ∃ X, X = X17.drew := ⟨_, rfl⟩
    have HS18 := Lib.hid (show EeS W w st ent hp sr gp id bits.a bits.b bits.c bits.d X18 by rw [hX18]; exact HS17.out.later ⟨rfl, rfl, rfl, Nat.le_refl _, fun _ _ => rfl⟩)
    have HXD18 := Lib.hid hX18
    clear hX18
    go_wp2_with fail
    refine wp_region_tree (.look 0 (.look 1 (.look 2 (.look 3 (.look 4 (.look 5 (.look 6 (.look 7 (.look 8 (.look 9 (.look 13 (.look 14 (.two 10 (.two 11 (.look 12 (.one 15 (.look 16 (.look 17 .nil)))) 15 (.one 11 (.look 12 (.look 16 (.look 17 .nil))))) 15 (.one 10 (.one 11 (.look 12 (.look 16 (.look 17 .nil)))))))))))))))))) (EeS W w st ent hp sr gp id bits.a bits.b bits.c bits.d) (by kernel_rfl) (by kernel_rfl) (by decide) (by kernel_rfl) (fun d _ _ _ _ h => by cases d <;> exact h) (by rw [← HXD18.out]; exact HS18.out) ?_
    rw [← HXD18.out]
    iterate 12 ((apply wpOT_take rfl rfl (by kernel_rfl); (intro V hV; obtain ⟨y0, y1, y2, y3, y4, y5, y6, y7, y8, y9, y10⟩ := hV.h.cells; go_simp; rfl)); (try simp only [List.setIfInBounds_toArray, List.set_cons_succ, List.set_cons_zero]))
    apply wpOT_two
    · skip
      apply wpOT_do rfl (by kernel_rfl)
      intro K hK
      go_simp
      obtain ⟨g19, hg19⟩ : ∃ g, g = X18.heap.size := ⟨_, rfl⟩
      obtain ⟨X19, hX19⟩ : ∃ X, X = X18.alloc (.cells #[.int .u8 (hp : Int), .int .u8 (sr : Int), .int .u8 (gp : Int)] 5) := ⟨_, rfl⟩
      have HS19 := Lib.hid (show EeS W w st ent hp sr gp id bits.a bits.b bits.c bits.d X19 by rw [hX19]; exact HS18.out.later ((Below.refl _ _).alloc (Nat.le_refl _) _))
      have HR19 := Lib.hid (show Row X19 X18.heap.size 5 1 (.slice (some ⟨g19, 0, none⟩) 3 3) 3 (([toU8 hp, toU8 sr, toU8 gp] : List UInt8).map byteV) by
        rw [hX19, hg19, show (#[.int .u8 (hp : Int), .int .u8 (sr : Int), .int .u8 (gp : Int)] : Array Value) = (([toU8 hp, toU8 sr, toU8 gp] : List UInt8).map byteV).toArray from HCELL3.out]
        exact row_lit X18 5 [toU8 hp, toU8 sr, toU8 gp] (by simp [maxLen]))
      rw [← hX19, ← hg19]
      refine hK _ _ HS19.out ?_
      clear hK K hX19 hg19
      apply wpOT_two
      · skip
        apply wpOT_do rfl (by kernel_rfl)
        intro K hK
        have hcv := run_string_row (P := Try.prog) 52 9 Try.underlying52 Try.underlying5 Try.underlying9 HR19.out
        rw [← HB3.out] at hcv
        go_simp
        refine hK _ _ HS19.out ?_
        clear hK K hcv
        iterate 1 ((apply wpOT_take rfl rfl (by kernel_rfl); (intro V _; go_simp; rfl)); (try simp only [List.setIfInBounds_toArray, List.set_cons_succ, List.set_cons_zero]))
        apply wpOT_do rfl (by kernel_rfl)
        intro K hK
        go_simp
        refine (HF2.out _).mono ?_
        rintro e X20 ⟨rfl, hb⟩
        have HS20 := Lib.hid (HS19.out.later hb)
        refine hK _ _ HS20.out ?_
        clear hK K hb
        iterate 2 ((apply wpOT_take rfl rfl (by kernel_rfl); (intro V _; go_simp; rfl)); (try simp only [List.setIfInBounds_toArray, List.set_cons_succ, List.set_cons_zero]))
        refine wpOT_nil ?_
        obtain ⟨y0, y1, y2, y3, y4, y5, y6, y7, y8, y9, y10⟩ := HS20.out.h.cells
        rw [HM8.out] at y0
        go_wp2_with fail
        refine (HBY.out _).mono ?_
        rintro e Z1 ⟨rfl, hb⟩
        have HZ1 := Lib.hid (HS20.out.later hb)
        clear hb y0 y1 y2 y3 y4 y5 y6 y7 y8 y9 y10
        go_wp2_with fail
        refine (HSE.out _).mono ?_
        rintro e Z2 ⟨rfl, hb⟩
        have HZ2 := Lib.hid (HZ1.out.later hb)
        clear hb
        go_wp2_with fail
        go_ret2
        exact ⟨rfl, HZ2.out.bel⟩
      · skip
        apply wpOT_do rfl (by kernel_rfl)
        intro K hK
        go_simp
        refine (HF2.out _).mono ?_
        rintro e X21 ⟨rfl, hb⟩
        have HS21 := Lib.hid (HS19.out.later hb)
        have HR19L := Lib.hid (Row.later HR19.out hb)
        refine hK _ _ HS21.out ?_
        clear hK K hb
        apply wpOT_do rfl (by kernel_rfl)
        intro K hK
        have hcv := run_string_row (P := Try.prog) 52 9 Try.underlying52 Try.underlying5 Try.underlying9 HR19L.out
        rw [← HB3.out] at hcv
        go_simp
        refine hK _ _ HS21.out ?_
        clear hK K hcv
        iterate 3 ((apply wpOT_take rfl rfl (by kernel_rfl); (intro V _; go_simp; rfl)); (try simp only [List.setIfInBounds_toArray, List.set_cons_succ, List.set_cons_zero]))
        refine wpOT_nil ?_
        obtain ⟨y0, y1, y2, y3, y4, y5, y6, y7, y8, y9, y10⟩ := HS21.out.h.cells
        rw [HM8.out] at y0
        go_wp2_with fail
        refine (HBY.out _).mono ?_
        rintro e Z1 ⟨rfl, hb⟩
        have HZ1 := Lib.hid (HS21.out.later hb)
        clear hb y0 y1 y2 y3 y4 y5 y6 y7 y8 y9 y10
        go_wp2_with fail
        refine (HSE.out _).mono ?_
        rintro e Z2 ⟨rfl, hb⟩
        have HZ2 := Lib.hid (HZ1.out.later hb)
        clear hb
        go_wp2_with fail
        go_ret2
        exact ⟨rfl, HZ2.out.bel⟩
    · skip
      apply wpOT_do rfl (by kernel_rfl)
      intro K hK
      go_simp
      refine (HF2.out _).mono ?_
      rintro e X22 ⟨rfl, hb⟩
      have HS22 := Lib.hid (HS18.out.later hb)
      refine hK _ _ HS22.out ?_
      clear hK K hb
      apply wpOT_do rfl (by kernel_rfl)
      intro K hK
      go_simp
      obtain ⟨g23, hg23⟩ : ∃ g, g = X22.heap.size := ⟨_, rfl⟩
      obtain ⟨X23, hX23⟩ : ∃ X, X = X22.alloc (.cells #[.int .u8 (hp : Int), .int .u8 (sr : Int), .int .u8 (gp : Int)] 5) := ⟨_, rfl⟩
      have HS23 := Lib.hid (show EeS W w st ent hp sr gp id bits.a bits.b bits.c bits.d X23 by rw [hX23]; exact HS22.out.later ((Below.refl _ _).alloc (Nat.le_refl _) _))
      have HR23 := Lib.hid (show Row X23 X22.heap.size 5 1 (.slice (some ⟨g23, 0, none⟩) 3 3) 3 (([toU8 hp, toU8 sr, toU8 gp] : List UInt8).map byteV) by
        rw [hX23, hg23, show (#[.int .u8 (hp : Int), .int .u8 (sr : Int), .int .u8 (gp : Int)] : Array Value) = (([toU8 hp, toU8 sr, toU8 gp] : List UInt8).map byteV).toArray from HCELL3.out]
        exact row_lit X22 5 [toU8 hp, toU8 sr, toU8 gp] (by simp [maxLen]))
      rw [← hX23, ← hg23]
      refine hK _ _ HS23.out ?_
      clear hK K hX23 hg23
      apply wpOT_do rfl (by kernel_rfl)
      intro K hK
      have hcv := run_string_row (P := Try.prog) 52 9 Try.underlying52 Try.underlying5 Try.underlying9 HR23.out
      rw [← HB3.out] at hcv
      go_simp
      refine hK _ _ HS23.out ?_
      clear hK K hcv
      iterate 3 ((apply wpOT_take rfl rfl (by kernel_rfl); (intro V _; go_simp; rfl)); (try simp only [List.setIfInBounds_toArray, List.set_cons_succ, List.set_cons_zero]))
      refine wpOT_nil ?_
      obtain ⟨y0, y1, y2, y3, y4, y5, y6, y7, y8, y9, y10⟩ := HS23.out.h.cells
      rw [HM8.out] at y0
      go_wp2_with fail
      refine (HBY.out _).mono ?_
      rintro e Z1 ⟨rfl, hb⟩
      have HZ1 := Lib.hid (HS23.out.later hb)
      clear hb y0 y1 y2 y3 y4 y5 y6 y7 y8 y9 y10
      go_wp2_with fail
      refine (HSE.out _).mono ?_
      rintro e Z2 ⟨rfl, hb⟩
      have HZ2 := Lib.hid (HZ1.out.later hb)
      clear hb
      go_wp2_with fail
      go_ret2
      exact ⟨rfl, HZ2.out.bel⟩
theorem rhencode_any (h : Hd) (W : World) (hk : h.ok) :
    Calls Try.prog 24 #[h.ag] W fun e W' => e = .returned (.tuple #[.string h.encS, .int .i64 h.err]) ∧ Below W.heap.size W W' := by
  unfold Hd.encS Hd.err
  by_cases hc : h.chk = true
  · rw [if_pos hc, if_pos hc]; exact rhencode_yes h W hk hc
  · rw [if_neg hc, if_neg hc]; exact rhencode_no h W hk (by simpa using hc)

end Go.Proofs.Ytickjmkkgcfkhaa

/- The reference's small functions of the message: is it a router, is a record none, may a wish be, may an answer be, four bytes. (Printed by mkmra.py.) -/
set_option linter.unusedSimpArgs false
set_option linter.unusedVariables false
set_option maxRecDepth 100000
namespace Go.Proofs.Ytickjmkkgcfkhaa
open Go.RowKit Go.ChangeShapes Go.WideShapes

theorem rtr6_any (n : Int) (W : World) : Calls Try.prog 29 #[.int .i64 n] W fun e W' => e = .returned (.bool (rtr n)) ∧ W = W' := by
  by_cases h1 : 1 ≤ n
  · have e : rtr n = decide (n ≤ 24) := by unfold rtr; rw [decide_eq_true h1, Bool.true_and]
    have h1' : decide (1 ≤ n) = true := decide_eq_true h1
    have HE := Lib.hid e
    clear e
    go_enter Try.func29, Try.ntmps29
    go_wp2_with fail
    go_returns
    exact ⟨by rw [HE.out]; rfl, rfl⟩
  · have e : rtr n = false := by unfold rtr; rw [decide_eq_false h1, Bool.false_and]
    have h1' : decide (1 ≤ n) = false := decide_eq_false h1
    have HE := Lib.hid e
    clear e
    go_enter Try.func29, Try.ntmps29
    go_wp2_with fail
    go_returns
    exact ⟨by rw [HE.out]; rfl, rfl⟩
set_option maxHeartbeats 1600000 in
theorem maywish_any (x : Wi) (W : World) : Calls Try.prog 33 #[.agg x.cs] W fun e W' => e = .returned (.bool x.may) ∧ Below W.heap.size W W' := by
  obtain ⟨W1, hW1⟩ : ∃ W1, W1 = W.alloc (.cells x.cs 34) := ⟨_, rfl⟩
  have hb1 : Below W.heap.size W W1 := by rw [hW1]; exact (Below.refl _ _).alloc (Nat.le_refl _) _
  have hbx : W1.heap[W.heap.size]? = some (.cells x.cs 34 (0, 0)) := by rw [hW1]; exact heap_alloc_new _ _
  have x0 : W1.cell? ⟨W.heap.size, 0, none⟩ = some (.int .i64 x.frm) := cell_of_row _ _ 0 _ _ _ hbx
  have x1 : W1.cell? ⟨W.heap.size, 1, none⟩ = some (.int .u32 x.ep) := cell_of_row _ _ 1 _ _ _ hbx
  have x2 : W1.cell? ⟨W.heap.size, 2, none⟩ = some (.int .u32 x.ver) := cell_of_row _ _ 2 _ _ _ hbx
  have x3 : W1.cell? ⟨W.heap.size, 3, none⟩ = some (.int .u8 x.grp) := cell_of_row _ _ 3 _ _ _ hbx
  have HW1 := Lib.hid hW1
  have HB1 := Lib.hid hb1
  have hc : (rtr x.frm = false ∧ x.may = false) ∨ (rtr x.frm = true ∧ ¬ 0 < x.ep ∧ x.may = false) ∨ (rtr x.frm = true ∧ 0 < x.ep ∧ ¬ 0 < x.ver ∧ x.may = false) ∨ (rtr x.frm = true ∧ 0 < x.ep ∧ 0 < x.ver ∧ x.may = true) := by
    unfold Wi.may
    cases rtr x.frm <;> by_cases h0 : 0 < x.ep <;> by_cases h1 : 0 < x.ver <;> simp_all
  clear hW1 hb1 hbx
  rcases hc with ⟨h1, he⟩ | ⟨h1, h2, he⟩ | ⟨h1, h2, h3, he⟩ | ⟨h1, h2, h3, he⟩
  · have HE := Lib.hid he
    have H1 := Lib.hid h1
    clear he h1
    go_enter Try.func33, Try.ntmps33
    unfold Wi.cs at *
    go_wp2_with fail
    rw [← HW1.out]
    refine (rtr6_any _ _).mono ?_
    rintro e w ⟨rfl, rfl⟩
    rw [H1.out]
    go_wp2_with fail
    go_returns
    exact ⟨by rw [HE.out]; rfl, HB1.out⟩
  · have HE := Lib.hid he
    have H1 := Lib.hid h1
    have d2 : decide (0 < x.ep) = false := decide_eq_false h2
    clear he h1
    go_enter Try.func33, Try.ntmps33
    unfold Wi.cs at *
    go_wp2_with fail
    rw [← HW1.out]
    refine (rtr6_any _ _).mono ?_
    rintro e w ⟨rfl, rfl⟩
    rw [H1.out]
    go_wp2_with fail
    go_returns
    exact ⟨by rw [HE.out]; rfl, HB1.out⟩
  · have HE := Lib.hid he
    have H1 := Lib.hid h1
    have d2 : decide (0 < x.ep) = true := decide_eq_true h2
    have d3 : decide (0 < x.ver) = false := decide_eq_false h3
    clear he h1
    go_enter Try.func33, Try.ntmps33
    unfold Wi.cs at *
    go_wp2_with fail
    rw [← HW1.out]
    refine (rtr6_any _ _).mono ?_
    rintro e w ⟨rfl, rfl⟩
    rw [H1.out]
    go_wp2_with fail
    go_returns
    exact ⟨by rw [HE.out]; rfl, HB1.out⟩
  · have HE := Lib.hid he
    have H1 := Lib.hid h1
    have d2 : decide (0 < x.ep) = true := decide_eq_true h2
    have d3 : decide (0 < x.ver) = true := decide_eq_true h3
    clear he h1
    go_enter Try.func33, Try.ntmps33
    unfold Wi.cs at *
    go_wp2_with fail
    rw [← HW1.out]
    refine (rtr6_any _ _).mono ?_
    rintro e w ⟨rfl, rfl⟩
    rw [H1.out]
    go_wp2_with fail
    go_returns
    exact ⟨by rw [HE.out]; rfl, HB1.out⟩
set_option maxHeartbeats 1600000 in
theorem mayack_any (x : Ak) (W : World) : Calls Try.prog 34 #[.agg x.cs] W fun e W' => e = .returned (.bool x.may) ∧ Below W.heap.size W W' := by
  obtain ⟨W1, hW1⟩ : ∃ W1, W1 = W.alloc (.cells x.cs 36) := ⟨_, rfl⟩
  have hb1 : Below W.heap.size W W1 := by rw [hW1]; exact (Below.refl _ _).alloc (Nat.le_refl _) _
  have hbx : W1.heap[W.heap.size]? = some (.cells x.cs 36 (0, 0)) := by rw [hW1]; exact heap_alloc_new _ _
  have x0 : W1.cell? ⟨W.heap.size, 0, none⟩ = some (.int .i64 x.frm) := cell_of_row _ _ 0 _ _ _ hbx
  have x1 : W1.cell? ⟨W.heap.size, 1, none⟩ = some (.int .u32 x.ep) := cell_of_row _ _ 1 _ _ _ hbx
  have x2 : W1.cell? ⟨W.heap.size, 2, none⟩ = some (.int .i64 x.dst) := cell_of_row _ _ 2 _ _ _ hbx
  have x3 : W1.cell? ⟨W.heap.size, 3, none⟩ = some (.int .u32 x.lif) := cell_of_row _ _ 3 _ _ _ hbx
  have x4 : W1.cell? ⟨W.heap.size, 4, none⟩ = some (.int .u32 x.ver) := cell_of_row _ _ 4 _ _ _ hbx
  have HW1 := Lib.hid hW1
  have HB1 := Lib.hid hb1
  have hc : (rtr x.frm = false ∧ x.may = false) ∨ (rtr x.frm = true ∧ rtr x.dst = false ∧ x.may = false) ∨ (rtr x.frm = true ∧ rtr x.dst = true ∧ ¬ 0 < x.ep ∧ x.may = false) ∨ (rtr x.frm = true ∧ rtr x.dst = true ∧ 0 < x.ep ∧ ¬ 0 < x.lif ∧ x.may = false) ∨ (rtr x.frm = true ∧ rtr x.dst = true ∧ 0 < x.ep ∧ 0 < x.lif ∧ ¬ 0 < x.ver ∧ x.may = false) ∨ (rtr x.frm = true ∧ rtr x.dst = true ∧ 0 < x.ep ∧ 0 < x.lif ∧ 0 < x.ver ∧ x.may = true) := by
    unfold Ak.may
    cases rtr x.frm <;> cases rtr x.dst <;> by_cases h0 : 0 < x.ep <;> by_cases h1 : 0 < x.lif <;> by_cases h2 : 0 < x.ver <;> simp_all
  clear hW1 hb1 hbx
  rcases hc with ⟨h1, he⟩ | ⟨h1, h2, he⟩ | ⟨h1, h2, h3, he⟩ | ⟨h1, h2, h3, h4, he⟩ | ⟨h1, h2, h3, h4, h5, he⟩ | ⟨h1, h2, h3, h4, h5, he⟩
  · have HE := Lib.hid he
    have H1 := Lib.hid h1
    clear he h1
    go_enter Try.func34, Try.ntmps34
    unfold Ak.cs at *
    go_wp2_with fail
    rw [← HW1.out]
    refine (rtr6_any _ _).mono ?_
    rintro e w ⟨rfl, rfl⟩
    rw [H1.out]
    go_wp2_with fail
    go_returns
    exact ⟨by rw [HE.out]; rfl, HB1.out⟩
  · have HE := Lib.hid he
    have H1 := Lib.hid h1
    have H2 := Lib.hid h2
    clear he h1 h2
    go_enter Try.func34, Try.ntmps34
    unfold Ak.cs at *
    go_wp2_with fail
    rw [← HW1.out]
    refine (rtr6_any _ _).mono ?_
    rintro e w ⟨rfl, rfl⟩
    rw [H1.out]
    go_wp2_with fail
    refine (rtr6_any _ _).mono ?_
    rintro e w ⟨rfl, rfl⟩
    rw [H2.out]
    go_wp2_with fail
    go_returns
    exact ⟨by rw [HE.out]; rfl, HB1.out⟩
  · have HE := Lib.hid he
    have H1 := Lib.hid h1
    have H2 := Lib.hid h2
    have d3 : decide (0 < x.ep) = false := decide_eq_false h3
    clear he h1 h2
    go_enter Try.func34, Try.ntmps34
    unfold Ak.cs at *
    go_wp2_with fail
    rw [← HW1.out]
    refine (rtr6_any _ _).mono ?_
    rintro e w ⟨rfl, rfl⟩
    rw [H1.out]
    go_wp2_with fail
    refine (rtr6_any _ _).mono ?_
    rintro e w ⟨rfl, rfl⟩
    rw [H2.out]
    go_wp2_with fail
    go_returns
    exact ⟨by rw [HE.out]; rfl, HB1.out⟩
  · have HE := Lib.hid he
    have H1 := Lib.hid h1
    have H2 := Lib.hid h2
    have d3 : decide (0 < x.ep) = true := decide_eq_true h3
    have d4 : decide (0 < x.lif) = false := decide_eq_false h4
    clear he h1 h2
    go_enter Try.func34, Try.ntmps34
    unfold Ak.cs at *
    go_wp2_with fail
    rw [← HW1.out]
    refine (rtr6_any _ _).mono ?_
    rintro e w ⟨rfl, rfl⟩
    rw [H1.out]
    go_wp2_with fail
    refine (rtr6_any _ _).mono ?_
    rintro e w ⟨rfl, rfl⟩
    rw [H2.out]
    go_wp2_with fail
    go_returns
    exact ⟨by rw [HE.out]; rfl, HB1.out⟩
  · have HE := Lib.hid he
    have H1 := Lib.hid h1
    have H2 := Lib.hid h2
    have d3 : decide (0 < x.ep) = true := decide_eq_true h3
    have d4 : decide (0 < x.lif) = true := decide_eq_true h4
    have d5 : decide (0 < x.ver) = false := decide_eq_false h5
    clear he h1 h2
    go_enter Try.func34, Try.ntmps34
    unfold Ak.cs at *
    go_wp2_with fail
    rw [← HW1.out]
    refine (rtr6_any _ _).mono ?_
    rintro e w ⟨rfl, rfl⟩
    rw [H1.out]
    go_wp2_with fail
    refine (rtr6_any _ _).mono ?_
    rintro e w ⟨rfl, rfl⟩
    rw [H2.out]
    go_wp2_with fail
    go_returns
    exact ⟨by rw [HE.out]; rfl, HB1.out⟩
  · have HE := Lib.hid he
    have H1 := Lib.hid h1
    have H2 := Lib.hid h2
    have d3 : decide (0 < x.ep) = true := decide_eq_true h3
    have d4 : decide (0 < x.lif) = true := decide_eq_true h4
    have d5 : decide (0 < x.ver) = true := decide_eq_true h5
    clear he h1 h2
    go_enter Try.func34, Try.ntmps34
    unfold Ak.cs at *
    go_wp2_with fail
    rw [← HW1.out]
    refine (rtr6_any _ _).mono ?_
    rintro e w ⟨rfl, rfl⟩
    rw [H1.out]
    go_wp2_with fail
    refine (rtr6_any _ _).mono ?_
    rintro e w ⟨rfl, rfl⟩
    rw [H2.out]
    go_wp2_with fail
    go_returns
    exact ⟨by rw [HE.out]; rfl, HB1.out⟩
theorem nul_cases (r : Rc) : (r.org ≠ 0 ∧ r.nul = false) ∨ (r.org = 0 ∧ r.ep ≠ 0 ∧ r.nul = false) ∨ (r.org = 0 ∧ r.ep = 0 ∧ r.sq ≠ 0 ∧ r.nul = false) ∨ (r.org = 0 ∧ r.ep = 0 ∧ r.sq = 0 ∧ r.clm ≠ 0 ∧ r.nul = false) ∨
    (r.org = 0 ∧ r.ep = 0 ∧ r.sq = 0 ∧ r.clm = 0 ∧ r.ing = true ∧ r.nul = false) ∨ (r.org = 0 ∧ r.ep = 0 ∧ r.sq = 0 ∧ r.clm = 0 ∧ r.ing = false ∧ r.nul = decide (r.adjs.length = 0)) := by
  unfold Rc.nul
  by_cases h1 : r.org = 0
  · by_cases h2 : r.ep = 0
    · by_cases h3 : r.sq = 0
      · by_cases h4 : r.clm = 0
        · cases h5 : r.ing
          · right; right; right; right; right
            refine ⟨h1, h2, h3, h4, rfl, ?_⟩
            simp [h1, h2, h3, h4]
            by_cases h6 : r.adjs = [] <;> simp [h6]
          · simp [h1, h2, h3, h4]
        · simp [h1, h2, h3, h4]
      · simp [h1, h2, h3]
    · simp [h1, h2]
  · simp [h1]
set_option maxHeartbeats 1600000 in
theorem norec_any (r : Rc) (sa : Option Addr) (sc : Nat) (W : World) : Calls Try.prog 28 #[r.ag sa sc] W fun e W' => e = .returned (.bool r.nul) ∧ Below W.heap.size W W' := by
  obtain ⟨W1, hW1⟩ : ∃ W1, W1 = W.alloc (.cells (r.cs sa sc) 25) := ⟨_, rfl⟩
  have hb1 : Below W.heap.size W W1 := by rw [hW1]; exact (Below.refl _ _).alloc (Nat.le_refl _) _
  have hbx : W1.heap[W.heap.size]? = some (.cells (r.cs sa sc) 25 (0, 0)) := by rw [hW1]; exact heap_alloc_new _ _
  have x0 : W1.cell? ⟨W.heap.size, 0, none⟩ = some (.int .i64 r.org) := cell_of_row _ _ 0 _ _ _ hbx
  have x1 : W1.cell? ⟨W.heap.size, 1, none⟩ = some (.int .u32 r.ep) := cell_of_row _ _ 1 _ _ _ hbx
  have x2 : W1.cell? ⟨W.heap.size, 2, none⟩ = some (.int .u32 r.sq) := cell_of_row _ _ 2 _ _ _ hbx
  have x3 : W1.cell? ⟨W.heap.size, 3, none⟩ = some (.int .i64 r.clm) := cell_of_row _ _ 3 _ _ _ hbx
  have x4 : W1.cell? ⟨W.heap.size, 4, none⟩ = some (.bool r.ing) := cell_of_row _ _ 4 _ _ _ hbx
  have x5 : W1.cell? ⟨W.heap.size, 5, none⟩ = some (.slice sa r.adjs.length sc) := cell_of_row _ _ 5 _ _ _ hbx
  have HW1 := Lib.hid hW1
  have HB1 := Lib.hid hb1
  have hc := nul_cases r
  have HNN := Lib.hid (show ((r.adjs.length : Int) == 0) = decide (r.adjs.length = 0) from by rw [Bool.eq_iff_iff, beq_iff_eq, decide_eq_true_eq]; omega)
  clear hW1 hb1 hbx
  rcases hc with ⟨h1, he⟩ | ⟨h1, h2, he⟩ | ⟨h1, h2, h3, he⟩ | ⟨h1, h2, h3, h4, he⟩ | ⟨h1, h2, h3, h4, h5, he⟩ | ⟨h1, h2, h3, h4, h5, he⟩
  · have HE := Lib.hid he
    have e1 : (r.org == 0) = false := by simpa using h1
    clear he h1
    go_enter Try.func28, Try.ntmps28
    unfold Rc.ag Rc.cs at *
    go_wp2_with fail
    go_returns
    exact ⟨by rw [HE.out]; try rfl, (Below.refl _ _).alloc (Nat.le_refl _) _⟩
  · have HE := Lib.hid he
    have e1 : (r.org == 0) = true := by simpa using h1
    have e2 : ((r.ep : Int) == 0) = false := by simpa using h2
    clear he h1 h2
    go_enter Try.func28, Try.ntmps28
    unfold Rc.ag Rc.cs at *
    go_wp2_with fail
    go_returns
    exact ⟨by rw [HE.out]; try rfl, (Below.refl _ _).alloc (Nat.le_refl _) _⟩
  · have HE := Lib.hid he
    have e1 : (r.org == 0) = true := by simpa using h1
    have e2 : ((r.ep : Int) == 0) = true := by simpa using h2
    have e3 : ((r.sq : Int) == 0) = false := by simpa using h3
    clear he h1 h2 h3
    go_enter Try.func28, Try.ntmps28
    unfold Rc.ag Rc.cs at *
    go_wp2_with fail
    go_returns
    exact ⟨by rw [HE.out]; try rfl, (Below.refl _ _).alloc (Nat.le_refl _) _⟩
  · have HE := Lib.hid he
    have e1 : (r.org == 0) = true := by simpa using h1
    have e2 : ((r.ep : Int) == 0) = true := by simpa using h2
    have e3 : ((r.sq : Int) == 0) = true := by simpa using h3
    have e4 : (r.clm == 0) = false := by simpa using h4
    clear he h1 h2 h3 h4
    go_enter Try.func28, Try.ntmps28
    unfold Rc.ag Rc.cs at *
    go_wp2_with fail
    go_returns
    exact ⟨by rw [HE.out]; try rfl, (Below.refl _ _).alloc (Nat.le_refl _) _⟩
  · have HE := Lib.hid he
    have e1 : (r.org == 0) = true := by simpa using h1
    have e2 : ((r.ep : Int) == 0) = true := by simpa using h2
    have e3 : ((r.sq : Int) == 0) = true := by simpa using h3
    have e4 : (r.clm == 0) = true := by simpa using h4
    rw [h5] at x4
    clear he h1 h2 h3 h4
    go_enter Try.func28, Try.ntmps28
    unfold Rc.ag Rc.cs at *
    rw [h5]
    clear h5
    go_wp2_with fail
    go_returns
    exact ⟨by rw [HE.out]; try rfl, (Below.refl _ _).alloc (Nat.le_refl _) _⟩
  · have HE := Lib.hid he
    have e1 : (r.org == 0) = true := by simpa using h1
    have e2 : ((r.ep : Int) == 0) = true := by simpa using h2
    have e3 : ((r.sq : Int) == 0) = true := by simpa using h3
    have e4 : (r.clm == 0) = true := by simpa using h4
    rw [h5] at x4
    clear he h1 h2 h3 h4
    go_enter Try.func28, Try.ntmps28
    unfold Rc.ag Rc.cs at *
    rw [h5]
    clear h5
    go_wp2_with fail
    go_returns
    exact ⟨by rw [HE.out, ← HNN.out]; rfl, (Below.refl _ _).alloc (Nat.le_refl _) _⟩

theorem four19_any (n : Nat) (W : World) (hn : n < 4294967296) : Calls Try.prog 25 #[.int .u32 n] W fun e W' => e = .returned (.string (bs (nb n 4))) ∧ Below W.heap.size W W' := by
  have hcv := run_string_lit (P := Try.prog) W W.heap.size rfl (nb n 4) #[.int .u8 ((n : Int) / 16777216), .int .u8 ((n : Int) / 65536 % 256), .int .u8 ((n : Int) / 256 % 256), .int .u8 ((n : Int) % 256)] 4 52 9 5 Try.underlying52 Try.underlying5 Try.underlying9 (by
    rw [four_bytes]
    have h0 : byteV (toU8 (n / 2 ^ 24)) = .int .u8 ((n : Int) / 16777216) := by
      rw [byteV_small (show n / 2 ^ 24 < 256 by omega)]
      rfl
    simp only [List.map_cons, List.map_nil, h0]
    simp only [byteV_shr, byteV_low]
    rfl) (nb_len n 4) (by rw [nb_len]; decide)
  go_enter Try.func25, Try.ntmps25
  go_wp2_with fail
  go_returns
  exact ⟨rfl, (Below.refl _ _).alloc (Nat.le_refl _) _⟩

end Go.Proofs.Ytickjmkkgcfkhaa
