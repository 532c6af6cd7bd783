/- Contracts of the reference's tally: all counts. -/
import Derived.Test.YtnfdkgmikijbgaaTallyT
set_option linter.unusedSimpArgs false
set_option linter.unusedVariables false
namespace Go.Proofs.Ytnfdkgmikijbgaa
open Go.RowKit Go.ChangeShapes Go.WideShapes

structure AlR (W : World) (B : Nat) (v : Value) (L : List Cn) (s : Cn) (V : World) : Prop where
  row : CRow V B v L
  box : BoxC (W.heap.size + 1) s V
  res : BoxC W.heap.size Cn.zero V
  bel : Below W.heap.size W V
theorem AlR.later {W V X : World} {B : Nat} {v : Value} {L : List Cn} {s : Cn} (h : AlR W B v L s V) (hb : Below V.heap.size V X) : AlR W B v L s X := ⟨h.row.later hb, BoxC.later h.box hb, BoxC.later h.res hb, h.bel.trans (hb.mono h.bel.size)⟩
def All15Rel (W : World) (B : Nat) (v : Value) (L : List Cn) (i : Value) (wr : World) : Prop :=
  ∃ k : Nat, i = .int .i64 k ∧ k ≤ 25 ∧ AlR W B v L (sumC (L.take k)) wr

set_option maxRecDepth 100000 in
set_option maxHeartbeats 1600000 in
theorem all15_any (v : Value) (B : Nat) (L : List Cn) (W : World) (H : CRow W B v L) :
    Calls Try.prog 22 #[v] W fun e W' => e = .returned (sumC L).ag ∧ Below W.heap.size W W' := by
  obtain ⟨g, cap, hv, hBg, hgs, hcap, hcm, _, _⟩ := H.1.form (by omega)
  subst hv
  obtain ⟨W1, hW1⟩ : ∃ W1, W1 = (W.alloc (.cells #[.int .u64 0, .int .u64 0, .int .u64 0, .int .u64 0, .int .u64 0, .int .u64 0] 37)).alloc (.cells #[.int .u64 0, .int .u64 0, .int .u64 0, .int .u64 0, .int .u64 0, .int .u64 0] 37) := ⟨_, rfl⟩
  have hb1 : Below W.heap.size W W1 := by rw [hW1]; exact ((Below.refl _ _).alloc (Nat.le_refl _) _).alloc (by rw [World.size_alloc]; omega) _
  have h0 : All15Rel W B (.slice (some ⟨g, 0, none⟩) 25 cap) L (.int .i64 0) W1 := by
    refine ⟨0, rfl, by omega, H.later hb1, ?_, ?_, hb1⟩
    · rw [hW1]; exact heap_alloc2_new _ _ _
    · rw [hW1]; exact heap_alloc2_old _ _ _
  have H0 := Lib.hid h0
  have HW1 := Lib.hid hW1
  have hLl := Lib.hid H.2.1
  have HOK := Lib.hid H.2.2
  clear h0 hW1 hb1 H
  go_enter Try.func22, Try.ntmps22
  go_wp2_with fail
  rw [← HW1.out]
  go_loopw [4] (fun i wr => All15Rel W B (.slice (some ⟨g, 0, none⟩) 25 cap) L i wr) (fun i _ => 25 - (intOf i).toNat)
  case atStart => exact H0.out
  case round =>
    obtain ⟨k, rfl, hk, ha⟩ := hrel
    by_cases hlt : k < 25
    · have hlt' : decide ((k : Int) < 25) = true := decide_eq_true (by omega)
      have hlt2 : (k : Int) < 25 := by omega
      have hkl : k < L.length := by rw [hLl.out]; exact hlt
      obtain ⟨a, hea⟩ : ∃ a, L.getD k default = a := ⟨_, rfl⟩
      obtain ⟨s, hes⟩ : ∃ s, sumC (L.take k) = s := ⟨_, rfl⟩
      obtain ⟨t, het⟩ : ∃ t, t = sumC (L.take (k + 1)) := ⟨_, rfl⟩
      have hsum := sumC_take hkl
      have hsok : s.ok := hes ▸ sumC_ok fun x hx => HOK.out x (List.mem_of_mem_take hx)
      have haok : a.ok := hea ▸ HOK.out _ (by rw [List.getD_eq_getElem?_getD, List.getElem?_eq_getElem hkl]; exact List.getElem_mem hkl)
      rw [hea, hes, ← het] at hsum
      rw [hes] at ha
      have HA0 := Lib.hid (show AlR W B (.slice (some ⟨g, 0, none⟩) 25 cap) L s wr.drew from ha.later ⟨rfl, rfl, rfl, Nat.le_refl _, fun _ _ => rfl⟩)
      have HSIX := Lib.hid (show ∀ V, AlR W B (.slice (some ⟨g, 0, none⟩) 25 cap) L s V → _ from fun V hV => by have := (CRow.six (r := k) hV.row (by omega)).1; rw [hea] at this; exact this)
      have had := fun V => added_any s a V hsok haok
      rw [hsum] at had
      have HAD := Lib.hid had
      have HEND := Lib.hid (show ∀ V Z, AlR W B (.slice (some ⟨g, 0, none⟩) 25 cap) L s V → Wr V Z (W.heap.size + 1) 37 t.cs.toArray → All15Rel W B (.slice (some ⟨g, 0, none⟩) 25 cap) L (.int .i64 ((k : Int) + 1)) Z from fun V Z hV hZ => by
        have hg : V.grownBy Z (some (W.heap.size + 1)) := ⟨hZ.os, hZ.tape, hZ.output, hZ.size, fun q hq hne => hZ.block q hq (fun e => hne (by rw [e]))⟩
        refine ⟨k + 1, by go_num, by omega, ?_, ?_, BoxC.kept hV.res hg (by simp), hV.bel.grown hg hV.bel.size (fun q hq => by cases hq; omega)⟩
        · refine hV.row.kept hg (.inr ?_)
          intro e
          simp only [Value.ownBlock, Option.some.injEq] at e
          have := hgs
          omega
        · rw [← het]; exact hZ.row)
      clear ha hsum hsok haok hea hes het had hkl
      unfold Cn.ag at *
      go_wp2_with fail
      refine wp_region_ordB [(0, 0), (1, 0), (2, 0), (3, 0), (4, 0), (5, 2), (6, 3)] [6] (AlR W B (.slice (some ⟨g, 0, none⟩) 25 cap) L s) (by kernel_rfl) (by kernel_rfl) (by decide) (by kernel_rfl) (fun d _ _ _ _ h => by cases d <;> exact h) HA0.out ?_
      iterate 5 ((apply wpOrdB_take rfl rfl (by kernel_rfl); (intro V hV; obtain ⟨x0, x1, x2, x3, x4, x5⟩ := HSIX.out V hV; obtain ⟨y0, y1, y2, y3, y4, y5⟩ := BoxC.cells hV.box; go_simp; rfl)); (try simp only [List.setIfInBounds_toArray, List.set_cons_succ, List.set_cons_zero]))
      apply wpOrdB_do rfl (by kernel_rfl)
      intro K hK
      go_simp
      refine (HAD.out _).mono ?_
      rintro e V ⟨rfl, hb⟩
      have HV := Lib.hid (AlR.later HA0.out hb)
      refine hK _ _ HV.out ?_
      clear hK K hb
      apply wpOrdB_last rfl (by kernel_rfl)
      intro K hK
      obtain ⟨y0, y1, y2, y3, y4, y5⟩ := BoxC.cells HV.out.box
      have f0 := frozen_of_row _ _ 0 _ _ HV.out.box
      have f1 := frozen_of_row _ _ 1 _ _ HV.out.box
      have f2 := frozen_of_row _ _ 2 _ _ HV.out.box
      have f3 := frozen_of_row _ _ 3 _ _ HV.out.box
      have f4 := frozen_of_row _ _ 4 _ _ HV.out.box
      have f5 := frozen_of_row _ _ 5 _ _ HV.out.box
      have w6 := ((((((show Wr V V (W.heap.size + 1) 37 s.cs.toArray from ⟨rfl, rfl, rfl, Nat.le_refl _, fun _ _ _ => rfl, HV.out.box⟩).set 0 (.int .u64 t.got)).set 1 (.int .u64 t.loc)).set 2 (.int .u64 t.cop)).set 3 (.int .u64 t.los)).set 4 (.int .u64 t.exp)).set 5 (.int .u64 t.bad)
      have HR := Lib.hid (HEND.out V _ HV.out w6)
      clear w6
      go_simp
      refine hK _ _ ?_
      clear hK K
      refine wpOrdB_nil ?_
      go_wp2_with fail
      go_roundw
      case rel => first | exact HR.out | ((repeat apply Exists.intro); exact ⟨HR.out, rfl⟩)
      case measure => simp [intOf]; omega
    · obtain rfl : k = 25 := by omega
      rw [List.take_of_length_le (by rw [hLl.out]; exact Nat.le_refl _)] at ha
      obtain ⟨s, hse⟩ : ∃ s, s = sumC L := ⟨_, rfl⟩
      rw [← hse] at ha
      have HSE := Lib.hid hse
      obtain ⟨s0, s1, s2, s3, s4, s5⟩ := BoxC.cells ha.box
      obtain ⟨z0, z1, z2, z3, z4, z5⟩ := BoxC.cells ha.res
      have f0 := frozen_of_row _ _ 0 _ _ ha.res
      have f1 := frozen_of_row _ _ 1 _ _ ha.res
      have f2 := frozen_of_row _ _ 2 _ _ ha.res
      have f3 := frozen_of_row _ _ 3 _ _ ha.res
      have f4 := frozen_of_row _ _ 4 _ _ ha.res
      have f5 := frozen_of_row _ _ 5 _ _ ha.res
      simp only [Cn.zero] at z0 z1 z2 z3 z4 z5
      have HB := Lib.hid ha.bel
      clear ha hse
      go_wp2_with fail
      (try simp only [Exit.inBlock, Exit.then])
      refine bodyPost_ret (v := s.ag) ?_ rfl ⟨by rw [HSE.out], ?_⟩
      · simp only [results, Try.results22]
        go_simp
        rfl
      · repeat (with_reducible refine Below.setCell ?_ (by simp only; omega) _)
        exact HB.out

end Go.Proofs.Ytnfdkgmikijbgaa
