/- Contracts of PutVar, the program's and the reference's. -/
import Derived.Test.YtibicjcnfdhffaaRows
import Derived.Test.YtibicjcnfdhffaaWireP
import Derived.Test.YtibicjcnfdhffaaWireV
set_option linter.unusedSimpArgs false
set_option linter.unusedVariables false
namespace Go.Proofs.Ytibicjcnfdhffaa
open Go.RowKit

theorem Try.infoU8v : (Try.prog.info? 5).map (fun i => (i.zero, i.size, i.bytes)) = some (some (.int .u8 0), 1, 1) := by kernel_rfl

set_option maxHeartbeats 400000 in
theorem putvar_any (b : ByteArray) (v : Nat) (w : World) (hv : v < 18446744073709551616) (hb : b.size ≤ 140737488355000) :
    Calls Try.prog 15 #[.string b, .int .u64 v] w fun e w' => e = .returned (.string (bs (b.data.toList ++ uvarL v))) ∧ Below w.heap.size w w' := by
  obtain ⟨i0, hi, hz0, hz1, hz2⟩ := info_parts Try.infoU8v
  have hV := Lib.hid hv
  clear hv
  go_enter Try.func15, Try.ntmps15
  go_wp2_with (with_reducible show wpList _ _ _ (⟨some 7, _, _, _, _, _⟩ :: _) _ _; refine wpList_bytes_row rfl (.tmp 6) 9 38 5 rfl Try.underlying9 Try.underlying38 Try.underlying5 b rfl w.heap.size (Nat.le_refl _) (by unfold maxLen; omega) ?_; intro v1 w1 hrow1 hb1)
  go_loopw [1, 5] (fun x o wr => ∃ (v' : Nat) (pre : List UInt8), v' < 18446744073709551616 ∧ pre ++ uvarL v' = uvarL v ∧ x = .int .u64 v' ∧ Row wr w.heap.size 5 1 o (b.size + pre.length) ((b.data.toList ++ pre).map byteV) ∧ Below w.heap.size w wr) (fun x _ _ => (intOf x).toNat)
  case atStart => exact ⟨v, [], hV.out, rfl, rfl, by simpa using hrow1, hb1⟩
  case round =>
    obtain ⟨v', pre, hv', hpre, rfl, hrow, hb⟩ := hrel
    have hroom := uvar_room hpre hV.out
    have hbs := hb.size
    have hP := Lib.hid hpre
    clear hpre
    by_cases hlt : (127 : Int) < v'
    · go_wp2_with (at_builtin; refine wpList_append_one _ rfl (.tmp 12) (.tmp 16) 38 rfl w.heap.size 5 i0 (.int .u8 0) 1 Try.underlying38 hi hz0 hz1 hz2 rfl _ _ _ _ hrow rfl rfl rfl ?c3 ?c4 hbs ?_)
      case c3 => unfold maxLen; omega
      case c4 => omega
      intro v2 w2 hrow2 hg2
      have hb2 := below_one hb hbs hg2 fun g hg => (hrow.lt g hg).1
      rw [← byteV_or128] at hrow2
      have hrow3 : Row w2 w.heap.size 5 1 v2 (b.size + (pre ++ [toU8 (v' % 128 + 128)]).length) ((b.data.toList ++ (pre ++ [toU8 (v' % 128 + 128)])).map byteV) := by
        simpa only [List.map_append, List.append_assoc, List.map_cons, List.map_nil, List.length_append, List.length_cons, List.length_nil, Nat.add_assoc] using hrow2
      clear hrow2 hrow hg2 hb hrow1
      go_wp2_with fail
      go_roundw
      case rel => exact ⟨v' / 128, _, by omega, uvar_round hP.out (by omega), by go_num, hrow3, hb2⟩
      case measure => simp [intOf]; omega
    · go_wp2_with (at_builtin; refine wpList_append_one _ rfl (.tmp 18) (.tmp 21) 38 rfl w.heap.size 5 i0 (.int .u8 0) 1 Try.underlying38 hi hz0 hz1 hz2 rfl _ _ _ _ hrow rfl rfl rfl ?c5 ?c6 hbs ?_)
      case c5 => unfold maxLen; omega
      case c6 => omega
      intro v2 w2 hrow2 hg2
      have hb2 := below_one hb hbs hg2 fun g hg => (hrow.lt g hg).1
      have hrow3 : Row w2 w.heap.size 5 1 v2 (b.size + pre.length + 1) ((b.data.toList ++ uvarL v).map byteV) := by
        rw [← uvar_end hP.out (by omega)]
        simpa only [byteV_small (show v' < 256 by omega), List.map_append, List.append_assoc, List.map_cons, List.map_nil, List.length_append, List.length_cons, List.length_nil, Nat.add_assoc] using hrow2
      have hcv := run_string_row (P := Try.prog) 38 9 Try.underlying38 Try.underlying5 Try.underlying9 hrow3
      clear hrow2 hrow hg2 hb hrow1
      go_wp2_with fail
      go_ret
      exact ⟨rfl, hb2⟩

set_option maxHeartbeats 400000 in
theorem rputvar_any (b : ByteArray) (v : Nat) (w : World) (hv : v < 18446744073709551616) (hb : b.size ≤ 140737488355000) :
    Calls Try.prog 16 #[.string b, .int .u64 v] w fun e w' => e = .returned (.string (bs (b.data.toList ++ uvarL v))) ∧ Below w.heap.size w w' := by
  have hV := Lib.hid hv
  clear hv
  go_enter Try.func16, Try.ntmps16
  go_wp2_with fail
  go_loopw [0, 1] (fun o x wr => ∃ (v' : Nat) (pre : List UInt8), v' < 18446744073709551616 ∧ pre ++ uvarL v' = uvarL v ∧ x = .int .u64 v' ∧ o = .string (bs (b.data.toList ++ pre)) ∧ Below w.heap.size w wr) (fun _ x _ => (intOf x).toNat)
  case atStart => exact ⟨v, [], hV.out, rfl, rfl, by rw [List.append_nil, bs_of], Below.refl _ _⟩
  case round =>
    obtain ⟨v', pre, hv', hpre, rfl, rfl, hb⟩ := hrel
    have hroom := uvar_room hpre hV.out
    have hbs := hb.size
    have hP := Lib.hid hpre
    clear hpre
    have hsz := bs_size
    by_cases hlt : (128 : Int) ≤ v'
    · have hcv := run_string_one (P := Try.prog) wr (toU8 (v' % 128 + 128)) 38 9 5 Try.underlying38 Try.underlying5 Try.underlying9 _ (byteV_add128 _)
      go_wp2_with fail
      clear hcv hsz
      go_roundw
      case rel => exact ⟨v' / 128, pre ++ [toU8 (v' % 128 + 128)], by omega, uvar_round hP.out (by omega), by go_num, by rw [← List.append_assoc, bs_append], hb.alloc hbs _⟩
      case measure => simp [intOf]; omega
    · have hcv := run_string_one (P := Try.prog) wr (toU8 v') 38 9 5 Try.underlying38 Try.underlying5 Try.underlying9 _ (byteV_small (by omega))
      go_wp2_with fail
      clear hcv hsz
      go_ret
      exact ⟨by rw [bs_append, List.append_assoc, uvar_end hP.out (by omega)]; rfl, hb.alloc hbs _⟩

end Go.Proofs.Ytibicjcnfdhffaa
