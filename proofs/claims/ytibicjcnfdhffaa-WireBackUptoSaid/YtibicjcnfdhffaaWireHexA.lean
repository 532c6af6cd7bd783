/- Contracts of Hex, the program's and the reference's. -/
import Derived.Test.YtibicjcnfdhffaaWireH
import Derived.Test.YtibicjcnfdhffaaBuild
import Derived.Test.YtibicjcnfdhffaaShelf
import Derived.Test.YtibicjcnfdhffaaRegion
set_option linter.unusedSimpArgs false
set_option linter.unusedVariables false
namespace Go.Proofs.Ytibicjcnfdhffaa
open Go.RowKit

theorem strs_cells2 (w : World) (x y : Value) (e : TypeId) : ∀ j u, [x, y][j]? = some u → (w.alloc (.cells #[x, y] e)).cell? ((⟨w.heap.size, 0, none⟩ : Addr).add j) = some u := by
  intro j u hu
  have hadd : (⟨w.heap.size, 0, none⟩ : Addr).add j = ⟨w.heap.size, j, none⟩ := by unfold Addr.add; split <;> simp_all
  rw [hadd, cell_of_row (w.alloc (.cells #[x, y] e)) w.heap.size j #[x, y] e (0, 0) (heap_alloc_new w _), ← hu]
  simp

/-- (as the program reads it) -/
theorem run_digit (w : World) (k : IntKind) (n : Nat) (h : n < 16) :
    (Instr.index 9 (.string ⟨#[48, 49, 50, 51, 52, 53, 54, 55, 56, 57, 97, 98, 99, 100, 101, 102]⟩) (.int k (n : Int))).run Try.prog w = .ok (byteV (digT n)) w := by
  rw [run_index_string w 9 _ k n Try.underlying9, dif_pos ⟨by omega, by show (n : Int) < 16; omega⟩]
  unfold byteV digT hexL
  match n, h with
  | 0, _ | 1, _ | 2, _ | 3, _ | 4, _ | 5, _ | 6, _ | 7, _ | 8, _ | 9, _ | 10, _ | 11, _ | 12, _ | 13, _ | 14, _ | 15, _ => rfl
  | n + 16, h => omega

set_option maxHeartbeats 400000 in
theorem hex_any (b : ByteArray) (w : World) (hb : b.size ≤ 70368744177000) :
    Calls Try.prog 29 #[.string b] w fun e w' => e = .returned (.string (bs (hexG b.data.toList))) ∧ Below w.heap.size w w' := by
  go_enter Try.func29, Try.ntmps29
  go_wp2_with fail
  go_loopw [7] (fun i wr => ∃ k : Nat, k ≤ b.size ∧ i = .int .i64 k ∧ Lib.IsBuilder 55 5 w.heap.size w.heap.size (Lib.byteCells (hexG (b.data.toList.take k))) wr ∧ Below w.heap.size w wr) (fun i _ => b.size - (intOf i).toNat)
  case atStart => exact ⟨0, Nat.zero_le _, rfl, Lib.fresh_isBuilder _ _ w, (Below.refl _ _).alloc (Nat.le_refl _) _⟩
  case round =>
    obtain ⟨k, hk, rfl, hbu, hb0⟩ := hrel
    by_cases hlt : k < b.size
    · have hx := b[k].toNat_lt
      have hd1 : ∀ W, (Instr.index 9 (.string ⟨#[48, 49, 50, 51, 52, 53, 54, 55, 56, 57, 97, 98, 99, 100, 101, 102]⟩) (.int .u8 ((b[k].toNat : Int) / 16))).run Try.prog W = .ok (byteV (digT (b[k].toNat / 16))) W := fun W => run_digit W .u8 (b[k].toNat / 16) (by omega)
      have hd2 : ∀ W, (Instr.index 9 (.string ⟨#[48, 49, 50, 51, 52, 53, 54, 55, 56, 57, 97, 98, 99, 100, 101, 102]⟩) (.int .u8 ((b[k].toNat : Int) % 16))).run Try.prog W = .ok (byteV (digT (b[k].toNat % 16))) W := fun W => run_digit W .u8 (b[k].toNat % 16) (by omega)
      have hl0 : (Lib.byteCells (hexG (b.data.toList.take k))).length = 2 * k := by rw [Lib.byteCells_length, hexG_takelen hk]
      go_wp2_with (go_at_call 37; refine (writeByte_any w.heap.size w.heap.size _ _ _ hbu (by rw [hl0]; omega) hb0.size).mono ?_)
      rintro e w1 ⟨rfl, hbu1, hb1⟩
      have hb01 := hb0.trans hb1
      go_wp2_with (go_at_call 37; refine (writeByte_any w.heap.size w.heap.size _ _ _ hbu1 (by rw [List.length_append, hl0]; simp; omega) hb01.size).mono ?_)
      rintro e w2 ⟨rfl, hbu2, hb2⟩
      go_wp2_with fail
      go_roundw
      case rel =>
        refine ⟨k + 1, by omega, by go_num, ?_, hb01.trans hb2⟩
        rw [hexG_take hlt]
        simpa [Lib.byteCells] using hbu2
      case measure => simp [intOf]; omega
    · obtain rfl : k = b.size := by omega
      rw [List.take_of_length_le (by simp)] at hbu
      go_wp2_with (go_at_call 38; refine (Try.Builder_String_any w.heap.size w.heap.size _ _ hbu hb0.size).mono ?_)
      rintro e w1 ⟨rfl, hb1⟩
      go_wp2_with fail
      go_ret
      exact ⟨rfl, hb0.trans hb1⟩

end Go.Proofs.Ytibicjcnfdhffaa
