/- Contract of the reference's Hex. -/
import Derived.Test.YtibicjcnfdhffaaWireHexA
set_option linter.unusedSimpArgs false
set_option linter.unusedVariables false
namespace Go.Proofs.Ytibicjcnfdhffaa
open Go.RowKit

set_option maxHeartbeats 800000 in
theorem rhex_any (b : ByteArray) (w : World) (hb : b.size ≤ 70368744177000) :
    Calls Try.prog 30 #[.string b] w fun e w' => e = .returned (.string (bs (hexG b.data.toList))) ∧ Below w.heap.size w w' := by
  obtain ⟨i0, hi, hz0, hz1, hz2⟩ := info_parts Try.infoU8b
  go_enter Try.func30, Try.ntmps30
  go_wp2_with fail
  go_loopw [3, 4] (fun o i wr => ∃ k : Nat, k ≤ b.size ∧ i = .int .i64 k ∧ Row wr w.heap.size 5 1 o (2 * k) ((hexG (b.data.toList.take k)).map byteV) ∧ Below w.heap.size w wr) (fun _ i _ => b.size - (intOf i).toNat)
  case atStart => exact ⟨0, Nat.zero_le _, rfl, Row.nil_ _ _ _ _, Below.refl _ _⟩
  case round =>
    obtain ⟨k, hk, rfl, hrow, hb0⟩ := hrel
    have hs0 := hb0.size
    by_cases hlt : k < b.size
    · have hx := b[k].toNat_lt
      have hd1 : ∀ W, (Instr.index 9 (.string ⟨#[48, 49, 50, 51, 52, 53, 54, 55, 56, 57, 97, 98, 99, 100, 101, 102]⟩) (.int .u8 ((b[k].toNat : Int) / 16))).run Try.prog W = .ok (.int .u8 ((digT (b[k].toNat / 16)).toNat : Int)) W := fun W => run_digit W .u8 (b[k].toNat / 16) (by omega)
      have hd2 : ∀ W, (Instr.index 9 (.string ⟨#[48, 49, 50, 51, 52, 53, 54, 55, 56, 57, 97, 98, 99, 100, 101, 102]⟩) (.int .u8 ((b[k].toNat : Int) % 16))).run Try.prog W = .ok (.int .u8 ((digT (b[k].toNat % 16)).toNat : Int)) W := fun W => run_digit W .u8 (b[k].toNat % 16) (by omega)
      have hj1 : (0 : Int) ≤ (k : Int) := by omega
      have hj2 : (k : Int) < (b.size : Int) := by omega
      go_wp2_with fail
      refine wp_region_ord [(0, true), (1, true), (2, true), (3, true), (4, true), (5, true), (6, true), (7, true), (8, true), (9, true), (10, true), (11, false), (12, false), (13, true)] (fun _ => True) (by kernel_rfl) (by kernel_rfl) (by decide) (by kernel_rfl) (fun d _ _ _ _ h => by cases d <;> exact h) trivial ?_
      iterate 11 (apply wpOrd_look rfl (by kernel_rfl); (intro W hS; go_simp; (try go_bits); (try simp only [hd1, hd2]); rfl); (try simp only [Act.put, List.setIfInBounds_toArray, List.set_cons_succ, List.set_cons_zero]))
      apply wpOrd_do rfl (by kernel_rfl)
      intro K hK
      go_simp
      refine hK _ _ trivial ?_
      clear hK K
      apply wpOrd_do rfl (by kernel_rfl)
      intro K hK
      refine wp_append_row _ (.tmp 11) (.tmp 22) 38 rfl w.heap.size 5 i0 (.int .u8 0) 1 1 Try.underlying38 hi hz0 hz1 hz2 rfl (by decide) _ _ _ rfl (hrow.drew.alloc _) ⟨wr.heap.size, 0, none⟩ 2 2 [byteV (digT (b[k].toNat / 16)), byteV (digT (b[k].toNat % 16))] rfl rfl ?c1 ?c2 ?c3 ?c4 ?c5 ?_
      case c1 =>
        have hc := strs_cells2 wr.drew (byteV (digT (b[k].toNat / 16))) (byteV (digT (b[k].toNat % 16))) 5
        exact hc
      case c2 => intro u hu; simp at hu; rcases hu with rfl | rfl <;> rfl
      case c3 => unfold maxLen; omega
      case c4 => omega
      case c5 => simp; omega
      intro v2 w2 hrow2 hg2 _ _
      refine hK _ _ trivial ?_
      clear hK K
      have hb2 : Below w.heap.size w w2 := below_one hb0.drew hs0 hg2 fun g hg => (hrow.lt g hg).1
      have hrow3 : Row w2 w.heap.size 5 1 v2 (2 * (k + 1)) ((hexG (b.data.toList.take (k + 1))).map byteV) := by
        rw [hexG_take hlt, List.map_append]
        exact hrow2
      clear hrow2 hg2 hrow hb0
      apply wpOrd_look rfl (by kernel_rfl)
      · intro W hS; go_simp; rfl
      refine wpOrd_nil ?_
      go_wp2_with fail
      go_roundw
      case rel => exact ⟨k + 1, by omega, by go_num, hrow3, hb2⟩
      case measure => simp [intOf]; omega
    · obtain rfl : k = b.size := by omega
      rw [List.take_of_length_le (by simp)] at hrow
      have hcv := run_string_row (P := Try.prog) 38 9 Try.underlying38 Try.underlying5 Try.underlying9 hrow
      go_wp2_with fail
      go_ret
      exact ⟨rfl, hb0⟩

end Go.Proofs.Ytibicjcnfdhffaa
