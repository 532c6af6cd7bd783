/- Contracts of the tally: All, Copy; the forms that are none. -/
import Derived.Test.YtnfdkgmikijbgaaTallyI
import Derived.Deep.WholeRow
import Derived.Outline
set_option linter.unusedSimpArgs false
set_option linter.unusedVariables false
namespace Go.Proofs.Ytnfdkgmikijbgaa
open Go.RowKit Go.ChangeShapes Go.WideShapes

def sumC (L : List Cn) : Cn := L.foldl Cn.add Cn.zero
theorem foldl_ok : ∀ (L : List Cn) (c : Cn), c.ok → (∀ x ∈ L, x.ok) → (L.foldl Cn.add c).ok
  | [], c, h, _ => h
  | x :: l, c, h, H => foldl_ok l _ (Cn.add_ok h (H x (by simp))) fun y hy => H y (by simp [hy])
theorem sumC_ok {L : List Cn} (H : ∀ x ∈ L, x.ok) : (sumC L).ok := foldl_ok L _ Cn.zero_ok H
theorem sumC_take {L : List Cn} {k : Nat} (hk : k < L.length) : (sumC (L.take k)).add (L.getD k default) = sumC (L.take (k + 1)) := by
  unfold sumC
  rw [List.take_succ_eq_append_getElem hk, List.foldl_append, List.getD_eq_getElem?_getD, List.getElem?_eq_getElem hk]
  rfl
theorem fl_extract : ∀ (L : List Cn) (k : Nat), k < L.length → ((L.flatMap Cn.cs).drop (k * 6)).take 6 = (L.getD k default).cs
  | [], _, h => by simp at h
  | c :: l, 0, _ => by
    rw [List.flatMap_cons, Nat.zero_mul, List.drop_zero]
    exact List.take_left' (Cn.cs_length c)
  | c :: l, k + 1, h => by
    rw [List.flatMap_cons, show (k + 1) * 6 = c.cs.length + k * 6 from by rw [Cn.cs_length]; omega, List.drop_append, List.drop_eq_nil_of_le (by omega), List.nil_append, Nat.add_sub_cancel_left, fl_extract l k (by simpa using h)]
    rfl
theorem fl_len : ∀ L : List Cn, (L.flatMap Cn.cs).length = 6 * L.length
  | [] => rfl
  | c :: l => by rw [List.flatMap_cons, List.length_append, Cn.cs_length, fl_len l, List.length_cons]; omega
theorem put6_cs (a c : Cn) : put6 a.cs.toArray 0 c = c.cs.toArray := rfl
theorem six_cs (a : Cn) : Six a.cs.toArray 0 a := ⟨rfl, rfl, rfl, rfl, rfl, rfl⟩

theorem BoxC.later {b : Nat} {c : Cn} {V X : World} (h : BoxC b c V) (hb : Below V.heap.size V X) : BoxC b c X := (hb.block b (Array.getElem?_eq_some_iff.1 h).1).trans h
theorem BoxC.kept {b : Nat} {c : Cn} {V X : World} {row : Option Nat} (h : BoxC b c V) (hb : V.grownBy X row) (hne : some b ≠ row) : BoxC b c X := (hb.block b (Array.getElem?_eq_some_iff.1 h).1 hne).trans h
theorem BoxC.cells {b : Nat} {c : Cn} {V : World} (h : BoxC b c V) : V.cell? ⟨b, 0, none⟩ = some (.int .u64 c.got) ∧ V.cell? ⟨b, 1, none⟩ = some (.int .u64 c.loc) ∧ V.cell? ⟨b, 2, none⟩ = some (.int .u64 c.cop) ∧ V.cell? ⟨b, 3, none⟩ = some (.int .u64 c.los) ∧ V.cell? ⟨b, 4, none⟩ = some (.int .u64 c.exp) ∧ V.cell? ⟨b, 5, none⟩ = some (.int .u64 c.bad) :=
  ⟨cell_of_row _ _ 0 _ _ _ h, cell_of_row _ _ 1 _ _ _ h, cell_of_row _ _ 2 _ _ _ h, cell_of_row _ _ 3 _ _ _ h, cell_of_row _ _ 4 _ _ _ h, cell_of_row _ _ 5 _ _ _ h⟩

/-- The sum so far, in the variable. -/
def AllRel (W : World) (L : List Cn) (i : Value) (wr : World) : Prop :=
  ∃ k : Nat, i = .int .i64 k ∧ k ≤ 25 ∧ wr.heap[W.heap.size + 1]? = some (.cells (sumC (L.take k)).cs.toArray 37 (0, 0)) ∧ wr.heap[W.heap.size]? = some (.cells Cn.zero.cs.toArray 37 (0, 0)) ∧ Below W.heap.size W wr

set_option maxRecDepth 100000 in
set_option maxHeartbeats 1600000 in
theorem all_any (t : Nat) (B : Nat) (L : List Cn) (W : World) (H : TAt W B t L) :
    Calls Try.prog 14 #[.pointer (some ⟨t, 0, none⟩)] W fun e W' => e = .returned (sumC L).ag ∧ Below W.heap.size W W' := by
  obtain ⟨W1, hW1⟩ : ∃ W1, W1 = (W.alloc (.cells #[.int .u64 0, .int .u64 0, .int .u64 0, .int .u64 0, .int .u64 0, .int .u64 0] 37)).alloc (.cells #[.int .u64 0, .int .u64 0, .int .u64 0, .int .u64 0, .int .u64 0, .int .u64 0] 37) := ⟨_, rfl⟩
  have hb1 : Below W.heap.size W W1 := by rw [hW1]; exact ((Below.refl _ _).alloc (Nat.le_refl _) _).alloc (by rw [World.size_alloc]; omega) _
  have H1 := H.later hb1
  have h0 : AllRel W L (.int .i64 0) W1 := by
    refine ⟨0, rfl, by omega, ?_, ?_, hb1⟩
    · rw [hW1]; exact heap_alloc2_new _ _ _
    · rw [hW1]; exact heap_alloc2_old _ _ _
  have hcells : ∀ j v, (L.flatMap Cn.cs)[j]? = some v → W1.cell? ((⟨t, 1, none⟩ : Addr).add j) = some v := by
    intro j v hv
    rw [Addr.add_mid, cell_of_row _ _ _ _ _ _ H1.row, tlC, List.getElem?_toArray, Nat.add_comm 1 j, List.getElem?_cons_succ]
    exact hv
  have hsz : (Try.prog.info? 59).map (·.size) = some (L.flatMap Cn.cs).length := by
    rw [fl_len, H.len]; kernel_rfl
  have HC := Lib.hid hcells
  have HSZ := Lib.hid hsz
  have HN := Lib.hid (none_any t true W1 H1.c0)
  have H0 := Lib.hid h0
  have HW1 := Lib.hid hW1
  have HOK := Lib.hid H.ok
  have HLE := Lib.hid H.len
  clear hcells hsz H1 h0 hW1 hb1 H
  go_enter Try.func14, Try.ntmps14
  go_wp2_with fail
  rw [← HW1.out]
  refine HN.out.mono ?_
  rintro e w ⟨rfl, rfl⟩
  go_wp2_with (with_reducible refine wpList_load_cs rfl 59 (.tmp 11) rfl ⟨t, 1, none⟩ rfl (L.flatMap Cn.cs) _ HC.out Try.underlying59 rfl HSZ.out ?_)
  go_loopw [13] (fun i wr => AllRel W L i wr) (fun i _ => 25 - (intOf i).toNat)
  case atStart => exact H0.out
  case round =>
    obtain ⟨k, rfl, hk, hs, hz, hb⟩ := hrel
    by_cases hlt : k < 25
    · obtain ⟨c, hc⟩ : ∃ c, c = L.getD k default := ⟨_, rfl⟩
      have hkl : k < L.length := by rw [HLE.out]; exact hlt
      have hcok : c.ok := HOK.out c (by rw [hc, List.getD_eq_getElem?_getD, List.getElem?_eq_getElem hkl]; exact List.getElem_mem hkl)
      have hix : ∀ w, Sem.run Try.prog (Instr.index 59 (.agg (L.flatMap Cn.cs).toArray) (.int .i64 (k : Int))) w = .ok (.agg #[.int .u64 c.got, .int .u64 c.loc, .int .u64 c.cop, .int .u64 c.los, .int .u64 c.exp, .int .u64 c.bad]) w := fun w => by
        refine run_index_row _ 37 25 6 _ _ .i64 k _ Try.underlying59 hlt Try.underlying37 rfl (by kernel_rfl) ?_
        have := fl_extract L k hkl
        rw [← hc] at this
        apply Array.ext'
        simpa [Cn.cs] using this
      have hsum := sumC_take hkl
      rw [← hc] at hsum
      have hlt' : decide ((k : Int) < 25) = true := decide_eq_true (by omega)
      obtain ⟨X, hX⟩ : ∃ X, X = wr.alloc (.cells #[.int .u64 c.got, .int .u64 c.loc, .int .u64 c.cop, .int .u64 c.los, .int .u64 c.exp, .int .u64 c.bad] 37) := ⟨_, rfl⟩
      have hbx : Below wr.heap.size wr X := by rw [hX]; exact (Below.refl _ _).alloc (Nat.le_refl _) _
      have hrow : X.heap[W.heap.size + 1]? = some (.cells (sumC (L.take k)).cs.toArray 37 (0, 0)) := (hbx.block _ (Array.getElem?_eq_some_iff.1 hs).1).trans hs
      have hrz : X.heap[W.heap.size]? = some (.cells Cn.zero.cs.toArray 37 (0, 0)) := (hbx.block _ (Array.getElem?_eq_some_iff.1 hz).1).trans hz
      have hadd := add_any (W.heap.size + 1) 0 37 _ _ c X hrow (six_cs _) (sumC_ok fun x hx => HOK.out x (List.mem_of_mem_take hx)) hcok
      rw [put6_cs, hsum] at hadd
      have HA := Lib.hid hadd
      have HE := Lib.hid (show ∀ V, Wr X V (W.heap.size + 1) 37 (sumC (L.take (k + 1))).cs.toArray → AllRel W L (.int .i64 ((k : Int) + 1)) V from fun V hV =>
        ⟨k + 1, by go_num, by omega, hV.row, (hV.block _ (Array.getElem?_eq_some_iff.1 hrz).1 (by omega)).trans hrz,
          ((hb.trans (hbx.mono hb.size)).trans ⟨hV.os, hV.tape, hV.output, hV.size, fun q hq => hV.block q (by have := hb.size; have := hbx.size; omega) (by omega)⟩)⟩)
      have HX := Lib.hid hX
      clear hX hbx hrow hrz hadd hsum hs hz hb hc hkl hcok
      go_wp2_with fail
      rw [← HX.out]
      refine HA.out.mono ?_
      rintro e V ⟨rfl, hV⟩
      have HR := Lib.hid (HE.out V hV)
      clear hV
      go_wp2_with fail
      go_roundw
      case rel => first | exact HR.out | ((repeat apply Exists.intro); exact ⟨HR.out, rfl⟩)
      case measure => simp [intOf]; omega
    · obtain rfl : k = 25 := by omega
      rw [List.take_of_length_le (by rw [HLE.out]; exact Nat.le_refl _)] at hs
      obtain ⟨s, hse⟩ : ∃ s, s = sumC L := ⟨_, rfl⟩
      rw [← hse] at hs
      have HSE := Lib.hid hse
      obtain ⟨s0, s1, s2, s3, s4, s5⟩ := BoxC.cells (show BoxC (W.heap.size + 1) s wr from hs)
      obtain ⟨z0, z1, z2, z3, z4, z5⟩ := BoxC.cells (show BoxC W.heap.size Cn.zero wr from hz)
      have f0 := frozen_of_row _ _ 0 _ _ hz
      have f1 := frozen_of_row _ _ 1 _ _ hz
      have f2 := frozen_of_row _ _ 2 _ _ hz
      have f3 := frozen_of_row _ _ 3 _ _ hz
      have f4 := frozen_of_row _ _ 4 _ _ hz
      have f5 := frozen_of_row _ _ 5 _ _ hz
      simp only [Cn.zero] at z0 z1 z2 z3 z4 z5
      have HB := Lib.hid hb
      clear hs hz hb hse
      go_wp2_with fail
      (try simp only [Exit.inBlock, Exit.then])
      refine bodyPost_ret (v := s.ag) ?_ rfl ⟨by rw [HSE.out], ?_⟩
      · simp only [results, Try.results14]
        go_simp
        rfl
      · repeat (with_reducible refine Below.setCell ?_ (by simp only; omega) _)
        exact HB.out

theorem all_none (p : Value) (W : World) (hN : ∀ V, Below W.heap.size W V → Calls Try.prog 26 #[p] V fun e W' => e = .returned (.bool true) ∧ V = W') :
    Calls Try.prog 14 #[p] W fun e W' => e = .returned Cn.zero.ag ∧ Below W.heap.size W W' := by
  obtain ⟨W1, hW1⟩ : ∃ W1, W1 = (W.alloc (.cells #[.int .u64 0, .int .u64 0, .int .u64 0, .int .u64 0, .int .u64 0, .int .u64 0] 37)).alloc (.cells #[.int .u64 0, .int .u64 0, .int .u64 0, .int .u64 0, .int .u64 0, .int .u64 0] 37) := ⟨_, rfl⟩
  have hb1 : Below W.heap.size W W1 := by rw [hW1]; exact ((Below.refl _ _).alloc (Nat.le_refl _) _).alloc (by rw [World.size_alloc]; omega) _
  have h1 : BoxC (W.heap.size + 1) Cn.zero W1 := by rw [hW1]; exact heap_alloc2_new _ _ _
  have h2 : BoxC W.heap.size Cn.zero W1 := by rw [hW1]; exact heap_alloc2_old _ _ _
  obtain ⟨s0, s1, s2, s3, s4, s5⟩ := BoxC.cells h1
  obtain ⟨z0, z1, z2, z3, z4, z5⟩ := BoxC.cells h2
  have f0 := frozen_of_row _ _ 0 _ _ h2
  have f1 := frozen_of_row _ _ 1 _ _ h2
  have f2 := frozen_of_row _ _ 2 _ _ h2
  have f3 := frozen_of_row _ _ 3 _ _ h2
  have f4 := frozen_of_row _ _ 4 _ _ h2
  have f5 := frozen_of_row _ _ 5 _ _ h2
  simp only [Cn.zero] at s0 s1 s2 s3 s4 s5 z0 z1 z2 z3 z4 z5
  have HN := Lib.hid (hN W1 hb1)
  have HW1 := Lib.hid hW1
  have HB := Lib.hid hb1
  clear hW1 hb1 h1 h2 hN
  go_enter Try.func14, Try.ntmps14
  go_wp2_with fail
  rw [← HW1.out]
  refine HN.out.mono ?_
  rintro e w ⟨rfl, rfl⟩
  go_wp2_with fail
  (try simp only [Exit.inBlock, Exit.then])
  refine bodyPost_ret (v := Cn.zero.ag) ?_ rfl ⟨rfl, ?_⟩
  · simp only [results, Try.results14]
    go_simp
    rfl
  · repeat (with_reducible refine Below.setCell ?_ (by simp only; omega) _)
    exact HB.out
theorem copy_none (p : Value) (W : World) (hN : Calls Try.prog 26 #[p] W fun e W' => e = .returned (.bool true) ∧ W = W') :
    Calls Try.prog 23 #[p] W fun e W' => e = .returned (.pointer none) ∧ W = W' := by
  go_enter Try.func23, Try.ntmps23
  go_wp2_with fail
  refine hN.mono ?_
  rintro e w ⟨rfl, rfl⟩
  go_wp2_with fail
  go_returns
  exact ⟨rfl, rfl⟩
theorem tlZ_size : tlZ.size = 151 := by unfold tlZ; rw [List.size_toArray, List.length_cons, fl_len, List.length_replicate]
theorem tlC_len {L : List Cn} (h : L.length = 25) : (tlC L).length = 151 := by rw [tlC, List.length_cons, fl_len, h]
set_option maxRecDepth 100000 in
set_option maxHeartbeats 1600000 in
theorem copy_any (t : Nat) (B : Nat) (L : List Cn) (W : World) (H : TAt W B t L) :
    Calls Try.prog 23 #[.pointer (some ⟨t, 0, none⟩)] W fun e W' => e = .returned (.pointer (some ⟨W.heap.size, 0, none⟩)) ∧ TAt W' B W.heap.size L ∧ Below W.heap.size W W' := by
  have HN := Lib.hid (none_any t true W H.c0)
  have hcells : ∀ j v, (tlC L)[j]? = some v → W.cell? ((⟨t, 0, none⟩ : Addr).add j) = some v := fun j v hv => by
    rw [Addr.add_mid, cell_of_row _ _ _ _ _ _ H.row, Nat.zero_add, List.getElem?_toArray]; exact hv
  have hsz : (Try.prog.info? 61).map (·.size) = some (tlC L).length := by
    rw [tlC_len H.len]; kernel_rfl
  have hone : (tlC L).toArray.all (·.oneCell') = true := by
    refine all_oneCell_toArray fun v hv => ?_
    rcases List.mem_cons.1 hv with rfl | hv
    · rfl
    · obtain ⟨c, _, hc⟩ := List.mem_flatMap.1 hv
      simp only [Cn.cs, List.mem_cons, List.not_mem_nil, or_false] at hc
      rcases hc with rfl | rfl | rfl | rfl | rfl | rfl <;> rfl
  have HC := Lib.hid hcells
  have HSZ := Lib.hid hsz
  have hl := tlC_len H.len
  have hst := run_storeCells_new (P := Try.prog) W 61 tlZ (tlC L).toArray (by rw [hsz, List.size_toArray]) (tlZ_size.trans hl.symm) hone
  simp only [List.toList_toArray] at hst
  have HE := Lib.hid (show TAt (W.alloc (.cells (tlC L).toArray 61)) B W.heap.size L from ⟨heap_alloc_new _ _, by have := H.base; have := H.lt; omega, H.len, H.ok⟩)
  clear hcells hsz hone H
  have hz := tlZ_zero
  have hne := tlZ_ne
  go_enter Try.func23, Try.ntmps23
  go_wp2_with fail
  refine HN.out.mono ?_
  rintro e w ⟨rfl, rfl⟩
  go_wp2_with (with_reducible refine wpList_load_cs rfl 61 (.tmp 7) rfl ⟨t, 0, none⟩ rfl (tlC L) _ HC.out Try.underlying61 rfl HSZ.out ?_)
  go_returns
  exact ⟨rfl, HE.out, (Below.refl _ _).alloc (Nat.le_refl _) _⟩

end Go.Proofs.Ytnfdkgmikijbgaa
