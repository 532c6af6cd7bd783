/- What a heap without an order answers. -/
import Derived.Test.YtbigglcolfbglaaHeapN
set_option linter.unusedSimpArgs false
set_option linter.unusedVariables false
namespace Go.Proofs.Ytbigglcolfbglaa
open Go.RowKit Go.ChangeShapes Go.WideShapes

theorem inew_nil (W : World) :
    Calls Try.prog 21 #[.nilFunc] W fun e W' => e = .returned (.pointer none) ∧ W = W' := by
  have hq := ieql_nil2
  go_enter Try.func21, Try.ntmps21
  go_wp2_with fail
  go_ret
  exact ⟨rfl, rfl⟩
theorem ipeek_nil (W : World) :
    Calls Try.prog 26 #[.pointer none] W fun e W' => e = .returned (.tuple #[.int .i64 0, .bool false]) ∧ W = W' := by
  go_enter Try.func26, Try.ntmps26
  go_wp2_with fail
  refine (ilen_nil W).mono ?_
  rintro e w' ⟨rfl, rfl⟩
  go_wp2_with fail
  go_ret2
  exact ⟨rfl, rfl⟩
theorem ipeek_empty (h : Nat) (W : World) (hh : W.cell? ⟨h, 0, none⟩ = some .nilFunc) :
    Calls Try.prog 26 #[.pointer (some ⟨h, 0, none⟩)] W fun e W' => e = .returned (.tuple #[.int .i64 0, .bool false]) ∧ W = W' := by
  go_enter Try.func26, Try.ntmps26
  go_wp2_with fail
  refine (ilen_empty h W hh).mono ?_
  rintro e w' ⟨rfl, rfl⟩
  go_wp2_with fail
  go_ret2
  exact ⟨rfl, rfl⟩
theorem ipop_nil (W : World) :
    Calls Try.prog 25 #[.pointer none] W fun e W' => e = .returned (.tuple #[.int .i64 0, .bool false]) ∧ W = W' := by
  go_enter Try.func25, Try.ntmps25
  go_wp2_with fail
  refine (ipeek_nil W).mono ?_
  rintro e w' ⟨rfl, rfl⟩
  go_wp2_with fail
  go_ret2
  exact ⟨rfl, rfl⟩
theorem ipush_nil (v : Int) (W : World) :
    Calls Try.prog 22 #[.pointer none, .int .i64 v] W fun e W' => e = .returned (.bool false) ∧ W = W' := by
  go_enter Try.func22, Try.ntmps22
  go_wp2_with fail
  refine (inone_nil W).mono ?_
  rintro e w' ⟨rfl, rfl⟩
  go_wp2_with fail
  go_ret
  exact ⟨rfl, rfl⟩
theorem ipush_empty (h : Nat) (v : Int) (W : World) (hh : W.cell? ⟨h, 0, none⟩ = some .nilFunc) :
    Calls Try.prog 22 #[.pointer (some ⟨h, 0, none⟩), .int .i64 v] W fun e W' => e = .returned (.bool false) ∧ W = W' := by
  go_enter Try.func22, Try.ntmps22
  go_wp2_with fail
  refine (inone_empty h W hh).mono ?_
  rintro e w' ⟨rfl, rfl⟩
  go_wp2_with fail
  go_ret
  exact ⟨rfl, rfl⟩
theorem isort_nil (v : Value) (W : World) :
    Calls Try.prog 23 #[v, .nilFunc] W fun e W' => e = .returned (.slice none 0 0) ∧ W = W' := by
  go_enter Try.func23, Try.ntmps23
  go_wp2_with fail
  refine (inew_nil W).mono ?_
  rintro e w' ⟨rfl, rfl⟩
  go_wp2_with fail
  go_ret
  exact ⟨rfl, rfl⟩
theorem iSorted_sel (l : List Int) : iSorted ilt l = sel ikey l.length l := by
  obtain ⟨I', h1, h2⟩ := pushs_st (key := ikey) l [] [] 0 St.nil
  have hlen : (pushs (kah ikey) [] 0 l).length = l.length := by rw [pushs_length]; simp
  unfold iSorted
  rw [show lah ilt = kah ikey from lah_key ikey, pops_sel _ _ I' _ h1 hlen, h2]
  rfl
theorem kn_sel : iSorted ilt [42, 30, 41, 12] = [12, 30, 42, 41] := by rw [iSorted_sel]; decide
theorem kn_cell (W : World) : (W.alloc (.cells #[.nilFunc, .slice none 0 0, .int .u64 0] 59)).cell? ⟨W.heap.size, 0, none⟩ = some .nilFunc := by
  rw [cell_of_row _ _ 0 _ _ _ (heap_alloc_new _ _)]; rfl

end Go.Proofs.Ytbigglcolfbglaa
