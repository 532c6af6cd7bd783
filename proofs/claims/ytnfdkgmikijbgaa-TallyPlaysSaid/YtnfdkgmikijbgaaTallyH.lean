/- Contracts of the tally: the chapter's example, works. -/
import Derived.Test.YtnfdkgmikijbgaaTallyG
import Derived.Outline
set_option linter.unusedSimpArgs false
set_option linter.unusedVariables false
namespace Go.Proofs.Ytnfdkgmikijbgaa
open Go.RowKit Go.ChangeShapes Go.WideShapes

def exD (sa : Option Addr) (sc : Nat) : Dn := ⟨true, sa, 2, sc, ⟨257, 0, 0, 0⟩, ⟨0, 0, 0, 0⟩⟩
theorem exD_of (sa : Option Addr) (sc : Nat) : (exD sa sc).of = ⟨1, 1, 2, 2, 0, 0⟩ := by
  show (⟨1, 1, 2, _, _, 0⟩ : Cn) = _
  have h1 : (⟨257, 0, 0, 0⟩ : B4).cnt = 2 := by decide
  have h2 : (⟨0, 0, 0, 0⟩ : B4).cnt = 0 := by decide
  simp only [exD, h1, h2]
  rfl
theorem exD_ok (sa : Option Addr) (sc : Nat) : (exD sa sc).ok := by
  refine ⟨?_, ?_, ?_⟩ <;> simp [exD, B4.ok]

set_option maxRecDepth 100000 in
set_option maxHeartbeats 1600000 in
theorem example_any (W : World) : Calls Try.prog 11 #[] W fun e W' => ∃ sa sc, e = .returned (exD sa sc).ag ∧ Below W.heap.size W W' := by
  obtain ⟨W1, hW1⟩ : ∃ W1, W1 = W.alloc (.cells #[.bool false, .slice none 0 0, .int .u64 0, .int .u64 0, .int .u64 0, .int .u64 0, .int .u64 0, .int .u64 0, .int .u64 0, .int .u64 0] 34) := ⟨_, rfl⟩
  have hb1 : Below W.heap.size W W1 := by rw [hW1]; exact (Below.refl _ _).alloc (Nat.le_refl _) _
  have hres : W1.heap[W.heap.size]? = some (.cells #[.bool false, .slice none 0 0, .int .u64 0, .int .u64 0, .int .u64 0, .int .u64 0, .int .u64 0, .int .u64 0, .int .u64 0, .int .u64 0] 34 (0, 0)) := by rw [hW1]; exact heap_alloc_new _ _
  obtain ⟨i0, hi, hz0, hz1, hz2⟩ := info_parts infoCp
  have HW1 := Lib.hid hW1
  have HB1 := Lib.hid hb1
  have HRES := Lib.hid hres
  clear hW1 hb1 hres
  go_enter Try.func11, Try.ntmps11
  go_wp2_with (at_make; refine wpList_make_full _ rfl (.const (.int .i64 2)) (.const (.int .i64 2)) 32 rfl 0 94 i0 _ 12 Try.underlying32 hi hz0 hz1 .i64 .i64 2 2 2 rfl rfl rfl rfl ?c1 ?c2 ?c3 ?_)
  case c1 => rw [hz2]; decide
  case c2 => simp [maxLen]
  case c3 => exact Nat.zero_le _
  rw [← HW1.out]
  intro w2 _ hg2
  have HS2 := Lib.hid (hg2.block _ (Array.getElem?_eq_some_iff.1 HRES.out).1 (by simp)|>.trans HRES.out)
  have HB2 := Lib.hid ((HB1.out.trans (Below.mono ⟨hg2.os, hg2.tape, hg2.output, hg2.size, fun k hk => hg2.block k hk (by simp)⟩ HB1.out.size)))
  clear hg2
  have r0 := cell_of_row _ _ 0 _ _ _ HS2.out
  have s0 := frozen_of_row _ _ 0 _ _ HS2.out
  have r1 := cell_of_row _ _ 1 _ _ _ HS2.out
  have s1 := frozen_of_row _ _ 1 _ _ HS2.out
  have r2 := cell_of_row _ _ 2 _ _ _ HS2.out
  have s2 := frozen_of_row _ _ 2 _ _ HS2.out
  have r3 := cell_of_row _ _ 3 _ _ _ HS2.out
  have s3 := frozen_of_row _ _ 3 _ _ HS2.out
  have r4 := cell_of_row _ _ 4 _ _ _ HS2.out
  have s4 := frozen_of_row _ _ 4 _ _ HS2.out
  have r5 := cell_of_row _ _ 5 _ _ _ HS2.out
  have s5 := frozen_of_row _ _ 5 _ _ HS2.out
  have r6 := cell_of_row _ _ 6 _ _ _ HS2.out
  have s6 := frozen_of_row _ _ 6 _ _ HS2.out
  have r7 := cell_of_row _ _ 7 _ _ _ HS2.out
  have s7 := frozen_of_row _ _ 7 _ _ HS2.out
  have r8 := cell_of_row _ _ 8 _ _ _ HS2.out
  have s8 := frozen_of_row _ _ 8 _ _ HS2.out
  have r9 := cell_of_row _ _ 9 _ _ _ HS2.out
  have s9 := frozen_of_row _ _ 9 _ _ HS2.out
  simp only [List.getElem?_toArray, List.getElem?_cons_zero, List.getElem?_cons_succ] at r0 r1 r2 r3 r4 r5 r6 r7 r8 r9
  go_wp2_with fail
  (try simp only [Exit.inBlock, Exit.then])
  refine bodyPost_ret (v := (exD (some ⟨W.heap.size + 1, 0, none⟩) 2).ag) ?_ rfl ⟨_, _, rfl, ?_⟩
  · simp only [results, Try.results11]
    go_simp
    rfl
  · repeat (with_reducible refine Below.setCell ?_ (by simp only; omega) _)
    exact HB2.out


set_option maxRecDepth 100000 in
set_option maxHeartbeats 1600000 in
theorem works_any (W : World) : Calls Try.prog 13 #[] W fun e W' => e = .returned (.bool true) ∧ Below W.heap.size W W' := by
  obtain ⟨W1, hW1⟩ : ∃ W1, W1 = W.alloc (.cells (tlC tl0).toArray 61) := ⟨_, rfl⟩
  have H1 : TAt W1 W.heap.size W.heap.size tl0 := by rw [hW1]; exact new_at W (Nat.le_refl _)
  have hb1 : Below W.heap.size W W1 := by rw [hW1]; exact (Below.refl _ _).alloc (Nat.le_refl _) _
  have HW1 := Lib.hid hW1
  have HT1 := Lib.hid H1
  have HB1 := Lib.hid hb1
  clear hW1 H1 hb1
  go_enter Try.func13, Try.ntmps13
  go_wp2_with fail
  refine (new_any W).mono ?_
  rintro e w ⟨rfl, rfl⟩
  rw [← HW1.out]
  go_wp2_with fail
  refine (example_any W1).mono ?_
  rintro e w ⟨sa, sc, rfl, hb⟩
  have HT2 := Lib.hid (HT1.out.later hb)
  have HB2 := Lib.hid (HB1.out.trans (hb.mono HB1.out.size))
  clear hb
  go_wp2_with fail
  refine (note_any _ 3 _ _ _ _ HT2.out (exD_ok _ _) (by omega) (by omega)).mono ?_
  rintro e w2 ⟨rfl, ht, hg⟩
  have HB3 := Lib.hid (HT2.out.bel HB2.out hg (Nat.le_refl _))
  have HT3 := Lib.hid ht
  clear ht hg
  go_wp2_with fail
  refine (bad_any _ 3 _ _ _ HT3.out (by omega) (by omega)).mono ?_
  rintro e w3 ⟨rfl, ht, hg⟩
  have HB4 := Lib.hid (HT3.out.bel HB3.out hg (Nat.le_refl _))
  have HT4 := Lib.hid ht
  clear ht hg
  go_wp2_with fail
  have hAt := At_any _ 3 _ _ _ HT4.out (by omega) (by omega)
  rw [exD_of, show ((tl0.set 3 ((tl0.getD 3 default).add ⟨1, 1, 2, 2, 0, 0⟩)).set 3 (((tl0.set 3 ((tl0.getD 3 default).add ⟨1, 1, 2, 2, 0, 0⟩)).getD 3 default).add ⟨1, 0, 0, 0, 0, 1⟩)).getD 3 default = ⟨2, 1, 2, 2, 0, 1⟩ from by decide] at hAt
  unfold Cn.ag at hAt
  refine hAt.mono ?_
  clear hAt
  rintro e w4 ⟨rfl, hb⟩
  have HB5 := Lib.hid (HB4.out.trans (hb.mono HB4.out.size))
  clear hb
  go_wp2_with fail
  go_returns
  exact ⟨rfl, HB5.out.alloc HB5.out.size _⟩

end Go.Proofs.Ytnfdkgmikijbgaa
