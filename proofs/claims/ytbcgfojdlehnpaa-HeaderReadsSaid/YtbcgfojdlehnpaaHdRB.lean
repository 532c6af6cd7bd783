/- Contracts of the reference's bits: is it one, has it, which. -/
import Derived.Test.YtbcgfojdlehnpaaHdRA
import Derived.Test.YtbcgfojdlehnpaaHdM
set_option linter.unusedSimpArgs false
set_option linter.unusedVariables false
namespace Go.Proofs.Ytbcgfojdlehnpaa
open Go.RowKit Go.ChangeShapes Go.WideShapes

theorem right1_any (n : Nat) (W : World) (h1 : 1 ≤ n) (h2 : n ≤ 256) : Calls Try.prog 59 #[.int .i64 n] W fun e W' => e = .returned (.bool true) ∧ W = W' := by
  have hr1 : decide ((1 : Int) ≤ (n : Int)) = true := decide_eq_true (by omega)
  have hr2 : decide ((n : Int) ≤ 256) = true := decide_eq_true (by omega)
  go_enter Try.func59, Try.ntmps59
  go_wp2_with fail
  go_returns
  exact ⟨rfl, rfl⟩

/-- Its bit n, from 1 on. -/
def Bt.bit (x : Bt) (n : Nat) : Nat := x.w ((n - 1) / 64) / 2 ^ ((n - 1) % 64) % 2

theorem bit_run (w k : Nat) (hw : w < 18446744073709551616) : (bits BinOp.and IntKind.u64 ((w : Int) / 2 ^ k) 1 == 1) = (w / 2 ^ k % 2 == 1) := by
  have e : ((w : Int) / 2 ^ k) = ((w / 2 ^ k : Nat) : Int) := by simp
  have h1 : bits .and .u64 ((w / 2 ^ k : Nat) : Int) (1 : Int) = ((w / 2 ^ k &&& 1 : Nat) : Int) := u64_and_nat _ 1 (Nat.lt_of_le_of_lt (Nat.div_le_self _ _) hw) (by decide)
  rw [e, h1, Nat.and_one_is_mod, Bool.eq_iff_iff]
  simp only [beq_iff_eq]
  omega

theorem has1_any (x : Bt) (n : Nat) (W : World) (hx : x.ok) (h1 : 1 ≤ n) (h2 : n ≤ 256) : Calls Try.prog 57 #[x.ag, .int .i64 n] W fun e W' => e = .returned (.bool (x.bit n == 1)) ∧ Below W.heap.size W W' := by
  obtain ⟨W1, hW1⟩ : ∃ W1, W1 = W.alloc (.cells #[.int .u64 x.a, .int .u64 x.b, .int .u64 x.c, .int .u64 x.d] 25) := ⟨_, rfl⟩
  have hb1 : Below W.heap.size W W1 := by rw [hW1]; exact (Below.refl _ _).alloc (Nat.le_refl _) _
  have hc : W1.cell? ⟨W.heap.size, (n - 1) / 64, none⟩ = some (.int .u64 (x.w ((n - 1) / 64) : Nat)) := by
    rw [hW1, cell_of_row _ _ _ _ _ _ (heap_alloc_new _ _)]
    obtain h | h | h | h : (n - 1) / 64 = 0 ∨ (n - 1) / 64 = 1 ∨ (n - 1) / 64 = 2 ∨ (n - 1) / 64 = 3 := by omega
    all_goals rw [h]; rfl
  obtain ⟨m, rfl⟩ : ∃ m, n = m + 1 := ⟨n - 1, by omega⟩
  have hm : m < 256 := by omega
  simp only [Nat.add_sub_cancel] at hc
  have hq : m / 64 < 4 := by omega
  have HR := Lib.hid (right1_any (m + 1) W1 h1 h2)
  have HW1 := Lib.hid hW1
  have HB := Lib.hid hb1
  clear hW1 hb1 h1 h2
  go_enter Try.func57, Try.ntmps57
  unfold Bt.ag Bt.cs
  go_wp2_with fail
  rw [← HW1.out]
  refine HR.out.mono ?_
  rintro e w ⟨rfl, rfl⟩
  go_wp2_with fail
  go_returns
  exact ⟨by rw [bit_run _ _ (Bt.w_lt hx _)]; rfl, HB.out⟩

/-- The bits up to k, rising. -/
def Bt.upto (x : Bt) : Nat → List Nat
  | 0 => []
  | k + 1 => if x.bit (k + 1) = 1 then x.upto k ++ [k + 1] else x.upto k
theorem Bt.upto_len (x : Bt) : ∀ k, (x.upto k).length ≤ k
  | 0 => Nat.le_refl _
  | k + 1 => by
    have := Bt.upto_len x k
    rw [Bt.upto]
    split
    · rw [List.length_append, List.length_singleton]; omega
    · omega
def intsV (l : List Nat) : List Value := l.map fun n : Nat => Value.int .i64 (n : Int)
theorem infoI : (Try.prog.info? 3).map (fun i => (i.zero, i.size, i.bytes)) = some (some (.int .i64 0), 1, 8) := by kernel_rfl
def ListRel (W : World) (x : Bt) (out i : Value) (wr : World) : Prop :=
  ∃ k : Nat, i = .int .i64 ((k : Int) + 1) ∧ k ≤ 256 ∧ Row wr (W.heap.size + 1) 3 1 out (x.upto k).length (intsV (x.upto k)) ∧ wr.heap[W.heap.size]? = some (.cells #[.int .u64 x.a, .int .u64 x.b, .int .u64 x.c, .int .u64 x.d] 25 (0, 0)) ∧ Below W.heap.size W wr

set_option maxRecDepth 100000 in
set_option maxHeartbeats 1600000 in
theorem list1_any (x : Bt) (W : World) (hx : x.ok) : Calls Try.prog 53 #[x.ag] W fun e W' => ∃ v, e = .returned v ∧ Row W' W.heap.size 3 1 v (x.upto 256).length (intsV (x.upto 256)) ∧ Below W.heap.size W W' := by
  obtain ⟨W1, hW1⟩ : ∃ W1, W1 = W.alloc (.cells #[.int .u64 x.a, .int .u64 x.b, .int .u64 x.c, .int .u64 x.d] 25) := ⟨_, rfl⟩
  have hb1 : Below W.heap.size W W1 := by rw [hW1]; exact (Below.refl _ _).alloc (Nat.le_refl _) _
  have h0 : ListRel W x (.slice none 0 0) (.int .i64 1) W1 := ⟨0, rfl, by omega, Row.nil_ _ _ _ _, by rw [hW1]; exact heap_alloc_new _ _, hb1⟩
  have HW1 := Lib.hid hW1
  have H0 := Lib.hid h0
  clear hW1 hb1 h0
  go_enter Try.func53, Try.ntmps53
  unfold Bt.ag Bt.cs
  go_wp2_with fail
  rw [← HW1.out]
  go_loopw [3, 4] (fun out i wr => ListRel W x out i wr) (fun _ i _ => 257 - (intOf i).toNat)
  case atStart => exact H0.out
  case round =>
    obtain ⟨k, rfl, hk, hr, hbx, hb⟩ := hrel
    by_cases hlt : k < 256
    · obtain ⟨n, hn⟩ : ∃ n, n = k + 1 := ⟨_, rfl⟩
      have hni : (k : Int) + 1 = (n : Int) := by omega
      have hle : decide ((n : Int) ≤ 256) = true := decide_eq_true (by omega)
      have hn1 : 1 ≤ n := by omega
      have hn2 : n ≤ 256 := by omega
      have c0 := cell_of_row _ _ 0 _ _ _ hbx
      have c1 := cell_of_row _ _ 1 _ _ _ hbx
      have c2 := cell_of_row _ _ 2 _ _ _ hbx
      have c3 := cell_of_row _ _ 3 _ _ _ hbx
      simp only [List.getElem?_toArray, List.getElem?_cons_zero, List.getElem?_cons_succ] at c0 c1 c2 c3
      have hs := Bt.upto_len x k
      have HH := Lib.hid (has1_any x n wr hx hn1 hn2)
      have HU := Lib.hid (show x.upto n = if x.bit n = 1 then x.upto k ++ [n] else x.upto k by rw [hn]; rfl)
      have HN := Lib.hid hn
      have HR := Lib.hid hr
      have HB := Lib.hid hb
      have HBX := Lib.hid hbx
      clear hn hr hb hbx
      obtain ⟨out_a, ocap, ho, _, _⟩ := HR.out.shape
      subst ho
      go_wp2_with fail
      refine HH.out.mono ?_
      rintro e V ⟨rfl, hV⟩
      have HRV := Lib.hid (HR.out.later hV)
      have HBV := Lib.hid (HB.out.trans (hV.mono HB.out.size))
      have HBXV := Lib.hid ((hV.block _ (Array.getElem?_eq_some_iff.1 HBX.out).1).trans HBX.out)
      clear hV c0 c1 c2 c3
      by_cases hbit : x.bit n = 1
      · have hbb : (x.bit n == 1) = true := by rw [beq_iff_eq]; exact hbit
        have hup := HU.out
        rw [if_pos hbit] at hup
        have HUP := Lib.hid hup
        obtain ⟨i0, hi, hz0, hz1, hz2⟩ := info_parts infoI
        clear hup hbit
        go_wp2_with (at_builtin; refine wpList_append_one _ rfl (.tmp 12) (.tmp 14) 74 rfl (W.heap.size + 1) 3 i0 (.int .i64 0) 8 Try.underlying74 hi hz0 hz1 hz2 rfl _ _ _ _ HRV.out rfl rfl rfl ?c3 ?c4 (Array.getElem?_eq_some_iff.1 HBXV.out).1 ?_)
        case c3 => unfold maxLen; omega
        case c4 => omega
        intro v' w' hrow' hg
        have HREL := Lib.hid (show ListRel W x v' (.int .i64 ((n : Int) + 1)) w' from by
          refine ⟨n, rfl, hn2, ?_, ?_, ?_⟩
          · rw [HUP.out]
            simpa [intsV] using hrow'
          · exact (hg.block _ (by rw [World.size_alloc]; have := (Array.getElem?_eq_some_iff.1 HBXV.out).1; omega) (fun e => by have := (HRV.out.lt _ e.symm).1; omega)).trans ((Below.heap_alloc V _ _ (Array.getElem?_eq_some_iff.1 HBXV.out).1).trans HBXV.out)
          · exact below_one HBV.out HBV.out.size hg fun q hq => by have := (HRV.out.lt _ hq).1; omega)
        clear hrow' hg hi hz0 hz1 hz2
        go_wp2_with fail
        go_roundw
        case rel => first | exact HREL.out | ((repeat apply Exists.intro); exact ⟨HREL.out, rfl⟩)
        case measure => simp [intOf]; omega
      · have hbb : (x.bit n == 1) = false := by rw [beq_eq_false_iff_ne]; exact hbit
        have hup := HU.out
        rw [if_neg hbit] at hup
        have HREL := Lib.hid (show ListRel W x (.slice out_a (x.upto k).length ocap) (.int .i64 ((n : Int) + 1)) V from ⟨n, rfl, hn2, by rw [hup]; exact HRV.out, HBXV.out, HBV.out⟩)
        clear hup hbit
        go_wp2_with fail
        go_roundw
        case rel => first | exact HREL.out | ((repeat apply Exists.intro); exact ⟨HREL.out, rfl⟩)
        case measure => simp [intOf]; omega
    · obtain rfl : k = 256 := by omega
      obtain ⟨c, hc⟩ : ∃ c, c = (x.upto 256).length := ⟨_, rfl⟩
      have HE := Lib.hid (And.intro (hr.more (Nat.le_succ _)) hb)
      clear hr hb hbx hc
      go_wp2_with fail
      go_returns
      exact ⟨_, rfl, HE.out⟩


end Go.Proofs.Ytbcgfojdlehnpaa
