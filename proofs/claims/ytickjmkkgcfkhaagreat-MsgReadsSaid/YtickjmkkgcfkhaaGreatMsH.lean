/- Contract of the message's Encode. (Printed by mkmsh.py.) -/
import Derived.Test.YtickjmkkgcfkhaaGreatMsG
import Derived.Test.YtickjmkkgcfkhaaGreatMsEF
import Derived.Test.YtickjmkkgcfkhaaGreatWireG2
import Derived.Test.YtickjmkkgcfkhaaGreatRegG
set_option linter.unusedSimpArgs false
set_option linter.unusedVariables false
set_option maxRecDepth 100000
set_option maxRecDepth 100000
namespace Go.Proofs.YtickjmkkgcfkhaaGreat
open Go.RowKit Go.ChangeShapes Go.WideShapes

theorem lay_len {m : Ms} (h : m.chk = true) : m.lay.length ≤ 100 := by
  unfold Ms.chk at h
  rw [Bool.and_eq_true] at h
  have h2 := h.2
  unfold Ms.may at h2
  unfold Ms.lay
  split
  · rename_i hk
    rw [if_pos hk] at h2
    simp only [Rc.chk, Bool.and_eq_true, decide_eq_true_eq] at h2
    rw [Rc.enc_len]; omega
  · split
    · rw [St.enc_len]; omega
    · split
      · rename_i h3 h4 hk
        rw [if_neg h3, if_neg h4, if_pos hk] at h2
        have hw := wide_cases (Hd.chk_is h2).1
        have : m.hd.enc.data.toList.length = m.hd.enc.size := by cases m.hd.enc; rfl
        rw [this]
        unfold Hd.enc
        rw [sealB_size, bs_size, Hd.body_len]
        omega
      · split <;> simp [nb_len]
theorem mencode_no (m : Ms) (sa : Option Addr) (sc : Nat) (W : World) (hm : m.ok) (hA : AdjsIn W sa m.rc.adjs) (hl : m.rc.adjs.length ≤ maxLen) (hc : m.chk = false) : Calls Tryz.prog 20 #[m.ag sa sc] W fun e W' => e = .returned (.tuple #[.string m.encS, .int .i64 m.err]) ∧ Below W.heap.size W W' := by
  obtain ⟨W1, hW1⟩ : ∃ W1, W1 = W.alloc (.cells (m.cs sa sc) 38) := ⟨_, rfl⟩
  have hb1 : Below W.heap.size W W1 := by rw [hW1]; exact (Below.refl _ _).alloc (Nat.le_refl _) _
  have hbx : BoxM W.heap.size m sa sc W1 := by rw [hW1]; exact heap_alloc_new _ _
  have HES := Lib.hid (show m.encS = bs [] ∧ m.err = 2 from by unfold Ms.encS Ms.err; rw [hc]; exact ⟨rfl, rfl⟩)
  have HCH := Lib.hid ((mcheck_any m sa sc W1 hm (hA.later hb1) hl).mono fun e V h => show e = .returned (.int .i64 2) ∧ Below W1.heap.size W1 V from by rw [HES.out.2] at h; exact h)
  have HSZ := Lib.hid (info_msg m sa sc)
  have HCC := Lib.hid (block_cells hbx)
  have HW1 := Lib.hid hW1
  have HB1 := Lib.hid hb1
  clear hW1 hb1 hbx hA hm hc
  rw [show m.encS = bs [] from HES.out.1, show m.err = 2 from HES.out.2]
  go_enter Tryz.func20, Tryz.ntmps20
  unfold Ms.ag at *
  go_upto_region 1 with fail
  rw [← HW1.out]
  go_wp2_with ((with_reducible refine wpList_load_cs rfl 38 (.tmp 1) rfl ⟨W.heap.size, 0, none⟩ rfl (m.cs sa sc).toList _ HCC.out Tryz.underlying38 rfl HSZ.out ?_); rw [Array.toArray_toList])
  refine HCH.out.mono ?_
  rintro e V1 ⟨rfl, hb⟩
  have HBB := Lib.hid (HB1.out.trans (hb.mono HB1.out.size))
  clear hb
  go_wp2_with fail
  go_ret2
  exact ⟨rfl, HBB.out⟩
theorem enter_lay1 (args : Array Value) (w : World) : (callFunc 44 args).run Tryz.prog w = .ok (.enter 44 args) w := enters_of Tryz.func44 (by kernel_rfl) rfl args w
theorem enter_lay2 (args : Array Value) (w : World) : (callFunc 50 args).run Tryz.prog w = .ok (.enter 50 args) w := enters_of Tryz.func50 (by kernel_rfl) rfl args w
theorem enter_lay3 (args : Array Value) (w : World) : (callFunc 55 args).run Tryz.prog w = .ok (.enter 55 args) w := enters_of Tryz.func55 (by kernel_rfl) rfl args w
theorem enter_lay4 (args : Array Value) (w : World) : (callFunc 62 args).run Tryz.prog w = .ok (.enter 62 args) w := enters_of Tryz.func62 (by kernel_rfl) rfl args w
theorem enter_lay5 (args : Array Value) (w : World) : (callFunc 67 args).run Tryz.prog w = .ok (.enter 67 args) w := enters_of Tryz.func67 (by kernel_rfl) rfl args w
set_option maxHeartbeats 6400000 in
theorem mencode1 (m : Ms) (sa : Option Addr) (sc : Nat) (W : World) (hm : m.ok) (hA : AdjsIn W sa m.rc.adjs) (hl : m.rc.adjs.length ≤ maxLen) (hk : m.kd = 1) (hc : m.chk = true) : Calls Tryz.prog 20 #[m.ag sa sc] W fun e W' => e = .returned (.tuple #[.string m.encS, .int .i64 m.err]) ∧ Below W.heap.size W W' := by
  obtain ⟨W1, hW1⟩ : ∃ W1, W1 = W.alloc (.cells (m.cs sa sc) 38) := ⟨_, rfl⟩
  have hb1 : Below W.heap.size W W1 := by rw [hW1]; exact (Below.refl _ _).alloc (Nat.le_refl _) _
  have hbx : BoxM W.heap.size m sa sc W1 := by rw [hW1]; exact heap_alloc_new _ _
  have HES := Lib.hid (show m.encS = m.enc ∧ m.err = 0 from by unfold Ms.encS Ms.err; rw [hc]; exact ⟨rfl, rfl⟩)
  have hmay : m.may = true := by unfold Ms.chk at hc; rw [Bool.and_eq_true] at hc; exact hc.2
  have hlen := lay_len hc
  obtain ⟨b0, hb0⟩ : ∃ b, b = bs [toU8 1] := ⟨_, rfl⟩
  obtain ⟨lv, hlv⟩ : ∃ b, b = bs m.lay := ⟨_, rfl⟩
  have HENC := Lib.hid (show sealB (b0 ++ lv) = m.enc from by rw [hb0, hlv, bs_append]; unfold Ms.enc Ms.body; rw [hk]; rfl)
  have s0 : b0.size = 1 := by rw [hb0, bs_size]; rfl
  have s1 : lv.size ≤ 100 := by rw [hlv, bs_size]; exact hlen
  have hsz : ¬ 9223372036854775807 < b0.size + lv.size := by omega
  have hsz2 : (b0 ++ lv).size ≤ 1125899906842624 := by rw [ByteArray.size_append]; omega
  have HSEAL := Lib.hid (fun V => seal_any (b0 ++ lv) V hsz2)
  have HLV := Lib.hid hlv
  have HB0 := Lib.hid hb0
  have er := enter_lay1
  have hw8 : IntKind.u8.wrap 1 = 1 := by decide
  have HLAY := Lib.hid (show ∀ q row V, CkS W m sa sc q row V → Calls Tryz.prog 44 #[m.ag sa sc] V (fun e X => e = .returned (.string (bs m.lay)) ∧ Below V.heap.size V X) from fun q row V h => by
    unfold Ms.may at hmay
    rw [hk] at hmay
    have := lay1_any m sa sc V h.adj hl hm
    unfold Rc.encS Ms.lay at *
    rw [hk]
    rw [show m.rc.chk = true from hmay, if_pos rfl] at this
    exact this)
  have HCH := Lib.hid ((mcheck_any m sa sc W1 hm (hA.later hb1) hl).mono fun e V h => show e = .returned (.int .i64 0) ∧ Below W1.heap.size W1 V from by rw [HES.out.2] at h; exact h)
  have HOF := Lib.hid (fun V => (of_any 1 V).mono fun e X h => show e = .returned (.tuple #[.agg #[.int .i64 1, .func (.func 42) #[] #[], .func (.func 44) #[] #[], .func (.func 46) #[] #[]], .bool true]) ∧ Below V.heap.size V X from h)
  have HSZ := Lib.hid (info_msg m sa sc)
  have HBX := Lib.hid hbx
  have HAD := Lib.hid (hA.later hb1)
  have HW1 := Lib.hid hW1
  have HB1 := Lib.hid hb1
  have HCC := Lib.hid (block_cells hbx)
  have HK := Lib.hid hk
  clear hW1 hb1 hbx hA hm hk hc hmay hlen hb0 hlv s0 s1
  rw [show m.encS = m.enc from HES.out.1, show m.err = 0 from HES.out.2]
  have HX0 := Lib.hid (show ∀ q V, CkS W m sa sc q #[.int .i64 1, .func (.func 42) #[] #[], .func (.func 44) #[] #[], .func (.func 46) #[] #[]] V → V.cell? ⟨W.heap.size, 0, none⟩ = some (.int .i64 1) from fun q V hV => by
    have := hV.box.cell (i := 0) (u := .int .i64 m.kd) rfl
    rw [HK.out] at this
    exact this)
  go_enter Tryz.func20, Tryz.ntmps20
  unfold Ms.ag at *
  go_upto_region 1 with fail
  rw [← HW1.out]
  go_wp2_with ((with_reducible refine wpList_load_cs rfl 38 (.tmp 1) rfl ⟨W.heap.size, 0, none⟩ rfl (m.cs sa sc).toList _ HCC.out Tryz.underlying38 rfl HSZ.out ?_); rw [Array.toArray_toList])
  refine HCH.out.mono ?_
  rintro e V1 ⟨rfl, hb⟩
  have HBV := Lib.hid (HBX.out.later hb)
  have HAV := Lib.hid (HAD.out.later hb)
  have HBB := Lib.hid (HB1.out.trans (hb.mono HB1.out.size))
  have x0 : V1.cell? ⟨W.heap.size, 0, none⟩ = some (.int .i64 m.kd) := HBV.out.cell rfl
  rw [HK.out] at x0
  clear hb
  go_wp2_with fail
  refine (HOF.out _).mono ?_
  rintro e V0 ⟨rfl, hb⟩
  obtain ⟨W2, hW2⟩ : ∃ W2, W2 = V0.alloc (.cells #[.int .i64 1, .func (.func 42) #[] #[], .func (.func 44) #[] #[], .func (.func 46) #[] #[]] 54) := ⟨_, rfl⟩
  obtain ⟨q, hq⟩ : ∃ q, q = V0.heap.size := ⟨_, rfl⟩
  have HCK := Lib.hid (show CkS W m sa sc q #[.int .i64 1, .func (.func 42) #[] #[], .func (.func 44) #[] #[], .func (.func 46) #[] #[]] W2 from CkS.start HBB.out HBV.out HAV.out hb hW2 hq)
  have HW2 := Lib.hid hW2
  have HQ := Lib.hid hq
  clear hb hW2 hq HOF x0
  go_wp2_with fail
  rw [← HQ.out, ← HW2.out]
  obtain ⟨U, hU⟩ : ∃ U, U = W2.drew := ⟨_, rfl⟩
  have HU := Lib.hid (show CkS W m sa sc q #[.int .i64 1, .func (.func 42) #[] #[], .func (.func 44) #[] #[], .func (.func 46) #[] #[]] U by rw [hU]; exact HCK.out.later (drew_below _))
  refine wp_region_tree (.look 0 (.look 1 (.look 2 (.look 5 (.look 6 (.look 7 (.two 3 (.two 4 (.one 8 (.look 9 (.one 10 (.look 11 (.look 12 .nil))))) 8 (.one 4 (.look 9 (.one 10 (.look 11 (.look 12 .nil)))))) 8 (.one 3 (.one 4 (.look 9 (.one 10 (.look 11 (.look 12 .nil))))))))))))) (CkS W m sa sc q #[.int .i64 1, .func (.func 42) #[] #[], .func (.func 44) #[] #[], .func (.func 46) #[] #[]]) (by kernel_rfl) (by kernel_rfl) (by decide) (by kernel_rfl) (fun d _ _ _ _ h => by cases d <;> first | exact h | exact h.later (drew_below _)) (by rw [← hU]; exact HU.out) ?_
  rw [← hU]
  clear hU
  iterate 3 ((apply wpOT_take rfl rfl (by kernel_rfl); (intro V hV; have c0 : V.cell? ⟨W.heap.size, 0, none⟩ = some (.int .i64 1) := HX0.out _ V hV; go_simp; rfl)); (try simp only [List.setIfInBounds_toArray, List.set_cons_succ, List.set_cons_zero]))
  iterate 2 ((apply wpOT_take rfl rfl (by kernel_rfl); (intro V hV; have r2 := hV.r 2 _ rfl; go_simp; rfl)); (try simp only [List.setIfInBounds_toArray, List.set_cons_succ, List.set_cons_zero]))
  ((apply wpOT_take rfl rfl (by kernel_rfl); (intro V hV; exact run_load_cs _ _ 38 (.tmp 1) rfl ⟨W.heap.size, 0, none⟩ rfl (m.cs sa sc).toList _ (block_cells hV.box) Tryz.underlying38 rfl HSZ.out)); (try simp only [List.setIfInBounds_toArray, List.set_cons_succ, List.set_cons_zero])); rw [Array.toArray_toList]
  apply wpOT_two
  · skip
    apply wpOT_do rfl (by kernel_rfl)
    intro K hK
    go_simp
    obtain ⟨g1, hg1⟩ : ∃ g, g = U.heap.size := ⟨_, rfl⟩
    obtain ⟨A1, hX1⟩ : ∃ X, X = U.alloc (.cells #[.int .u8 1] 5) := ⟨_, rfl⟩
    have HA1 := Lib.hid (show CkS W m sa sc q #[.int .i64 1, .func (.func 42) #[] #[], .func (.func 44) #[] #[], .func (.func 46) #[] #[]] A1 by rw [hX1]; exact HU.out.later ((Below.refl _ _).alloc (Nat.le_refl _) _))
    have HR := Lib.hid (show Row A1 U.heap.size 5 1 (.slice (some ⟨g1, 0, none⟩) 1 1) 1 (([toU8 1] : List UInt8).map byteV) by
      rw [hX1, hg1]
      exact row_lit U 5 [toU8 1] (by simp [maxLen]))
    rw [← hX1, ← hg1]
    refine hK _ _ HA1.out ?_
    clear hK K hX1 hg1
    apply wpOT_two
    · skip
      apply wpOT_do rfl (by kernel_rfl)
      intro K hK
      have hcv := run_string_row (P := Tryz.prog) 90 9 Tryz.underlying90 Tryz.underlying5 Tryz.underlying9 HR.out
      rw [← HB0.out] at hcv
      go_simp
      refine hK _ _ HA1.out ?_
      clear hK K hcv
      apply wpOT_do rfl (by kernel_rfl)
      intro K hK
      go_simp
      refine (HLAY.out _ _ _ HA1.out).mono ?_
      rintro e A2 ⟨rfl, hb⟩
      rw [← HLV.out]
      have HA2 := Lib.hid (HA1.out.later hb)
      refine hK _ _ HA2.out ?_
      clear hK K hb
      iterate 1 ((apply wpOT_take rfl rfl (by kernel_rfl); (intro V hV; go_simp; rfl)); (try simp only [List.setIfInBounds_toArray, List.set_cons_succ, List.set_cons_zero]))
      apply wpOT_do rfl (by kernel_rfl)
      intro K hK
      go_simp
      refine (HSEAL.out _).mono ?_
      rintro e Z ⟨rfl, hb⟩
      rw [HENC.out] at *
      have HZ := Lib.hid (HA2.out.later hb)
      refine hK _ _ HZ.out ?_
      clear hK K hb
      iterate 2 ((apply wpOT_take rfl rfl (by kernel_rfl); (intro V hV; go_simp; rfl)); (try simp only [List.setIfInBounds_toArray, List.set_cons_succ, List.set_cons_zero]))
      refine wpOT_nil ?_
      go_wp2_with fail
      go_ret2
      exact ⟨rfl, HZ.out.bel⟩
    · skip
      apply wpOT_do rfl (by kernel_rfl)
      intro K hK
      go_simp
      refine (HLAY.out _ _ _ HA1.out).mono ?_
      rintro e A2 ⟨rfl, hb⟩
      rw [← HLV.out]
      have HA2 := Lib.hid (HA1.out.later hb)
      have HRL := Lib.hid (Row.later HR.out hb)
      refine hK _ _ HA2.out ?_
      clear hK K hb
      apply wpOT_do rfl (by kernel_rfl)
      intro K hK
      have hcv := run_string_row (P := Tryz.prog) 90 9 Tryz.underlying90 Tryz.underlying5 Tryz.underlying9 HRL.out
      rw [← HB0.out] at hcv
      go_simp
      refine hK _ _ HA2.out ?_
      clear hK K hcv
      iterate 1 ((apply wpOT_take rfl rfl (by kernel_rfl); (intro V hV; go_simp; rfl)); (try simp only [List.setIfInBounds_toArray, List.set_cons_succ, List.set_cons_zero]))
      apply wpOT_do rfl (by kernel_rfl)
      intro K hK
      go_simp
      refine (HSEAL.out _).mono ?_
      rintro e Z ⟨rfl, hb⟩
      rw [HENC.out] at *
      have HZ := Lib.hid (HA2.out.later hb)
      refine hK _ _ HZ.out ?_
      clear hK K hb
      iterate 2 ((apply wpOT_take rfl rfl (by kernel_rfl); (intro V hV; go_simp; rfl)); (try simp only [List.setIfInBounds_toArray, List.set_cons_succ, List.set_cons_zero]))
      refine wpOT_nil ?_
      go_wp2_with fail
      go_ret2
      exact ⟨rfl, HZ.out.bel⟩
  · skip
    apply wpOT_do rfl (by kernel_rfl)
    intro K hK
    go_simp
    refine (HLAY.out _ _ _ HU.out).mono ?_
    rintro e A1 ⟨rfl, hb⟩
    rw [← HLV.out]
    have HA1 := Lib.hid (HU.out.later hb)
    refine hK _ _ HA1.out ?_
    clear hK K hb
    apply wpOT_do rfl (by kernel_rfl)
    intro K hK
    go_simp
    obtain ⟨g1, hg1⟩ : ∃ g, g = A1.heap.size := ⟨_, rfl⟩
    obtain ⟨A2, hX1⟩ : ∃ X, X = A1.alloc (.cells #[.int .u8 1] 5) := ⟨_, rfl⟩
    have HA2 := Lib.hid (show CkS W m sa sc q #[.int .i64 1, .func (.func 42) #[] #[], .func (.func 44) #[] #[], .func (.func 46) #[] #[]] A2 by rw [hX1]; exact HA1.out.later ((Below.refl _ _).alloc (Nat.le_refl _) _))
    have HR := Lib.hid (show Row A2 A1.heap.size 5 1 (.slice (some ⟨g1, 0, none⟩) 1 1) 1 (([toU8 1] : List UInt8).map byteV) by
      rw [hX1, hg1]
      exact row_lit A1 5 [toU8 1] (by simp [maxLen]))
    rw [← hX1, ← hg1]
    refine hK _ _ HA2.out ?_
    clear hK K hX1 hg1
    apply wpOT_do rfl (by kernel_rfl)
    intro K hK
    have hcv := run_string_row (P := Tryz.prog) 90 9 Tryz.underlying90 Tryz.underlying5 Tryz.underlying9 HR.out
    rw [← HB0.out] at hcv
    go_simp
    refine hK _ _ HA2.out ?_
    clear hK K hcv
    iterate 1 ((apply wpOT_take rfl rfl (by kernel_rfl); (intro V hV; go_simp; rfl)); (try simp only [List.setIfInBounds_toArray, List.set_cons_succ, List.set_cons_zero]))
    apply wpOT_do rfl (by kernel_rfl)
    intro K hK
    go_simp
    refine (HSEAL.out _).mono ?_
    rintro e Z ⟨rfl, hb⟩
    rw [HENC.out] at *
    have HZ := Lib.hid (HA2.out.later hb)
    refine hK _ _ HZ.out ?_
    clear hK K hb
    iterate 2 ((apply wpOT_take rfl rfl (by kernel_rfl); (intro V hV; go_simp; rfl)); (try simp only [List.setIfInBounds_toArray, List.set_cons_succ, List.set_cons_zero]))
    refine wpOT_nil ?_
    go_wp2_with fail
    go_ret2
    exact ⟨rfl, HZ.out.bel⟩
set_option maxHeartbeats 6400000 in
theorem mencode2 (m : Ms) (sa : Option Addr) (sc : Nat) (W : World) (hm : m.ok) (hA : AdjsIn W sa m.rc.adjs) (hl : m.rc.adjs.length ≤ maxLen) (hk : m.kd = 2) (hc : m.chk = true) : Calls Tryz.prog 20 #[m.ag sa sc] W fun e W' => e = .returned (.tuple #[.string m.encS, .int .i64 m.err]) ∧ Below W.heap.size W W' := by
  obtain ⟨W1, hW1⟩ : ∃ W1, W1 = W.alloc (.cells (m.cs sa sc) 38) := ⟨_, rfl⟩
  have hb1 : Below W.heap.size W W1 := by rw [hW1]; exact (Below.refl _ _).alloc (Nat.le_refl _) _
  have hbx : BoxM W.heap.size m sa sc W1 := by rw [hW1]; exact heap_alloc_new _ _
  have HES := Lib.hid (show m.encS = m.enc ∧ m.err = 0 from by unfold Ms.encS Ms.err; rw [hc]; exact ⟨rfl, rfl⟩)
  have hmay : m.may = true := by unfold Ms.chk at hc; rw [Bool.and_eq_true] at hc; exact hc.2
  have hlen := lay_len hc
  obtain ⟨b0, hb0⟩ : ∃ b, b = bs [toU8 2] := ⟨_, rfl⟩
  obtain ⟨lv, hlv⟩ : ∃ b, b = bs m.lay := ⟨_, rfl⟩
  have HENC := Lib.hid (show sealB (b0 ++ lv) = m.enc from by rw [hb0, hlv, bs_append]; unfold Ms.enc Ms.body; rw [hk]; rfl)
  have s0 : b0.size = 1 := by rw [hb0, bs_size]; rfl
  have s1 : lv.size ≤ 100 := by rw [hlv, bs_size]; exact hlen
  have hsz : ¬ 9223372036854775807 < b0.size + lv.size := by omega
  have hsz2 : (b0 ++ lv).size ≤ 1125899906842624 := by rw [ByteArray.size_append]; omega
  have HSEAL := Lib.hid (fun V => seal_any (b0 ++ lv) V hsz2)
  have HLV := Lib.hid hlv
  have HB0 := Lib.hid hb0
  have er := enter_lay2
  have hw8 : IntKind.u8.wrap 2 = 2 := by decide
  have HLAY := Lib.hid (show ∀ q row V, CkS W m sa sc q row V → Calls Tryz.prog 50 #[m.ag sa sc] V (fun e X => e = .returned (.string (bs m.lay)) ∧ Below V.heap.size V X) from fun q row V h => by
    unfold Ms.may at hmay
    rw [hk] at hmay
    have := lay2_any m sa sc V hm
    unfold St.encS Ms.lay at *
    rw [hk]
    rw [show m.st.may = true from hmay, if_pos rfl] at this
    exact this)
  have HCH := Lib.hid ((mcheck_any m sa sc W1 hm (hA.later hb1) hl).mono fun e V h => show e = .returned (.int .i64 0) ∧ Below W1.heap.size W1 V from by rw [HES.out.2] at h; exact h)
  have HOF := Lib.hid (fun V => (of_any 2 V).mono fun e X h => show e = .returned (.tuple #[.agg #[.int .i64 2, .func (.func 48) #[] #[], .func (.func 50) #[] #[], .func (.func 51) #[] #[]], .bool true]) ∧ Below V.heap.size V X from h)
  have HSZ := Lib.hid (info_msg m sa sc)
  have HBX := Lib.hid hbx
  have HAD := Lib.hid (hA.later hb1)
  have HW1 := Lib.hid hW1
  have HB1 := Lib.hid hb1
  have HCC := Lib.hid (block_cells hbx)
  have HK := Lib.hid hk
  clear hW1 hb1 hbx hA hm hk hc hmay hlen hb0 hlv s0 s1
  rw [show m.encS = m.enc from HES.out.1, show m.err = 0 from HES.out.2]
  have HX0 := Lib.hid (show ∀ q V, CkS W m sa sc q #[.int .i64 2, .func (.func 48) #[] #[], .func (.func 50) #[] #[], .func (.func 51) #[] #[]] V → V.cell? ⟨W.heap.size, 0, none⟩ = some (.int .i64 2) from fun q V hV => by
    have := hV.box.cell (i := 0) (u := .int .i64 m.kd) rfl
    rw [HK.out] at this
    exact this)
  go_enter Tryz.func20, Tryz.ntmps20
  unfold Ms.ag at *
  go_upto_region 1 with fail
  rw [← HW1.out]
  go_wp2_with ((with_reducible refine wpList_load_cs rfl 38 (.tmp 1) rfl ⟨W.heap.size, 0, none⟩ rfl (m.cs sa sc).toList _ HCC.out Tryz.underlying38 rfl HSZ.out ?_); rw [Array.toArray_toList])
  refine HCH.out.mono ?_
  rintro e V1 ⟨rfl, hb⟩
  have HBV := Lib.hid (HBX.out.later hb)
  have HAV := Lib.hid (HAD.out.later hb)
  have HBB := Lib.hid (HB1.out.trans (hb.mono HB1.out.size))
  have x0 : V1.cell? ⟨W.heap.size, 0, none⟩ = some (.int .i64 m.kd) := HBV.out.cell rfl
  rw [HK.out] at x0
  clear hb
  go_wp2_with fail
  refine (HOF.out _).mono ?_
  rintro e V0 ⟨rfl, hb⟩
  obtain ⟨W2, hW2⟩ : ∃ W2, W2 = V0.alloc (.cells #[.int .i64 2, .func (.func 48) #[] #[], .func (.func 50) #[] #[], .func (.func 51) #[] #[]] 54) := ⟨_, rfl⟩
  obtain ⟨q, hq⟩ : ∃ q, q = V0.heap.size := ⟨_, rfl⟩
  have HCK := Lib.hid (show CkS W m sa sc q #[.int .i64 2, .func (.func 48) #[] #[], .func (.func 50) #[] #[], .func (.func 51) #[] #[]] W2 from CkS.start HBB.out HBV.out HAV.out hb hW2 hq)
  have HW2 := Lib.hid hW2
  have HQ := Lib.hid hq
  clear hb hW2 hq HOF x0
  go_wp2_with fail
  rw [← HQ.out, ← HW2.out]
  obtain ⟨U, hU⟩ : ∃ U, U = W2.drew := ⟨_, rfl⟩
  have HU := Lib.hid (show CkS W m sa sc q #[.int .i64 2, .func (.func 48) #[] #[], .func (.func 50) #[] #[], .func (.func 51) #[] #[]] U by rw [hU]; exact HCK.out.later (drew_below _))
  refine wp_region_tree (.look 0 (.look 1 (.look 2 (.look 5 (.look 6 (.look 7 (.two 3 (.two 4 (.one 8 (.look 9 (.one 10 (.look 11 (.look 12 .nil))))) 8 (.one 4 (.look 9 (.one 10 (.look 11 (.look 12 .nil)))))) 8 (.one 3 (.one 4 (.look 9 (.one 10 (.look 11 (.look 12 .nil))))))))))))) (CkS W m sa sc q #[.int .i64 2, .func (.func 48) #[] #[], .func (.func 50) #[] #[], .func (.func 51) #[] #[]]) (by kernel_rfl) (by kernel_rfl) (by decide) (by kernel_rfl) (fun d _ _ _ _ h => by cases d <;> first | exact h | exact h.later (drew_below _)) (by rw [← hU]; exact HU.out) ?_
  rw [← hU]
  clear hU
  iterate 3 ((apply wpOT_take rfl rfl (by kernel_rfl); (intro V hV; have c0 : V.cell? ⟨W.heap.size, 0, none⟩ = some (.int .i64 2) := HX0.out _ V hV; go_simp; rfl)); (try simp only [List.setIfInBounds_toArray, List.set_cons_succ, List.set_cons_zero]))
  iterate 2 ((apply wpOT_take rfl rfl (by kernel_rfl); (intro V hV; have r2 := hV.r 2 _ rfl; go_simp; rfl)); (try simp only [List.setIfInBounds_toArray, List.set_cons_succ, List.set_cons_zero]))
  ((apply wpOT_take rfl rfl (by kernel_rfl); (intro V hV; exact run_load_cs _ _ 38 (.tmp 1) rfl ⟨W.heap.size, 0, none⟩ rfl (m.cs sa sc).toList _ (block_cells hV.box) Tryz.underlying38 rfl HSZ.out)); (try simp only [List.setIfInBounds_toArray, List.set_cons_succ, List.set_cons_zero])); rw [Array.toArray_toList]
  apply wpOT_two
  · skip
    apply wpOT_do rfl (by kernel_rfl)
    intro K hK
    go_simp
    obtain ⟨g1, hg1⟩ : ∃ g, g = U.heap.size := ⟨_, rfl⟩
    obtain ⟨A1, hX1⟩ : ∃ X, X = U.alloc (.cells #[.int .u8 2] 5) := ⟨_, rfl⟩
    have HA1 := Lib.hid (show CkS W m sa sc q #[.int .i64 2, .func (.func 48) #[] #[], .func (.func 50) #[] #[], .func (.func 51) #[] #[]] A1 by rw [hX1]; exact HU.out.later ((Below.refl _ _).alloc (Nat.le_refl _) _))
    have HR := Lib.hid (show Row A1 U.heap.size 5 1 (.slice (some ⟨g1, 0, none⟩) 1 1) 1 (([toU8 2] : List UInt8).map byteV) by
      rw [hX1, hg1]
      exact row_lit U 5 [toU8 2] (by simp [maxLen]))
    rw [← hX1, ← hg1]
    refine hK _ _ HA1.out ?_
    clear hK K hX1 hg1
    apply wpOT_two
    · skip
      apply wpOT_do rfl (by kernel_rfl)
      intro K hK
      have hcv := run_string_row (P := Tryz.prog) 90 9 Tryz.underlying90 Tryz.underlying5 Tryz.underlying9 HR.out
      rw [← HB0.out] at hcv
      go_simp
      refine hK _ _ HA1.out ?_
      clear hK K hcv
      apply wpOT_do rfl (by kernel_rfl)
      intro K hK
      go_simp
      refine (HLAY.out _ _ _ HA1.out).mono ?_
      rintro e A2 ⟨rfl, hb⟩
      rw [← HLV.out]
      have HA2 := Lib.hid (HA1.out.later hb)
      refine hK _ _ HA2.out ?_
      clear hK K hb
      iterate 1 ((apply wpOT_take rfl rfl (by kernel_rfl); (intro V hV; go_simp; rfl)); (try simp only [List.setIfInBounds_toArray, List.set_cons_succ, List.set_cons_zero]))
      apply wpOT_do rfl (by kernel_rfl)
      intro K hK
      go_simp
      refine (HSEAL.out _).mono ?_
      rintro e Z ⟨rfl, hb⟩
      rw [HENC.out] at *
      have HZ := Lib.hid (HA2.out.later hb)
      refine hK _ _ HZ.out ?_
      clear hK K hb
      iterate 2 ((apply wpOT_take rfl rfl (by kernel_rfl); (intro V hV; go_simp; rfl)); (try simp only [List.setIfInBounds_toArray, List.set_cons_succ, List.set_cons_zero]))
      refine wpOT_nil ?_
      go_wp2_with fail
      go_ret2
      exact ⟨rfl, HZ.out.bel⟩
    · skip
      apply wpOT_do rfl (by kernel_rfl)
      intro K hK
      go_simp
      refine (HLAY.out _ _ _ HA1.out).mono ?_
      rintro e A2 ⟨rfl, hb⟩
      rw [← HLV.out]
      have HA2 := Lib.hid (HA1.out.later hb)
      have HRL := Lib.hid (Row.later HR.out hb)
      refine hK _ _ HA2.out ?_
      clear hK K hb
      apply wpOT_do rfl (by kernel_rfl)
      intro K hK
      have hcv := run_string_row (P := Tryz.prog) 90 9 Tryz.underlying90 Tryz.underlying5 Tryz.underlying9 HRL.out
      rw [← HB0.out] at hcv
      go_simp
      refine hK _ _ HA2.out ?_
      clear hK K hcv
      iterate 1 ((apply wpOT_take rfl rfl (by kernel_rfl); (intro V hV; go_simp; rfl)); (try simp only [List.setIfInBounds_toArray, List.set_cons_succ, List.set_cons_zero]))
      apply wpOT_do rfl (by kernel_rfl)
      intro K hK
      go_simp
      refine (HSEAL.out _).mono ?_
      rintro e Z ⟨rfl, hb⟩
      rw [HENC.out] at *
      have HZ := Lib.hid (HA2.out.later hb)
      refine hK _ _ HZ.out ?_
      clear hK K hb
      iterate 2 ((apply wpOT_take rfl rfl (by kernel_rfl); (intro V hV; go_simp; rfl)); (try simp only [List.setIfInBounds_toArray, List.set_cons_succ, List.set_cons_zero]))
      refine wpOT_nil ?_
      go_wp2_with fail
      go_ret2
      exact ⟨rfl, HZ.out.bel⟩
  · skip
    apply wpOT_do rfl (by kernel_rfl)
    intro K hK
    go_simp
    refine (HLAY.out _ _ _ HU.out).mono ?_
    rintro e A1 ⟨rfl, hb⟩
    rw [← HLV.out]
    have HA1 := Lib.hid (HU.out.later hb)
    refine hK _ _ HA1.out ?_
    clear hK K hb
    apply wpOT_do rfl (by kernel_rfl)
    intro K hK
    go_simp
    obtain ⟨g1, hg1⟩ : ∃ g, g = A1.heap.size := ⟨_, rfl⟩
    obtain ⟨A2, hX1⟩ : ∃ X, X = A1.alloc (.cells #[.int .u8 2] 5) := ⟨_, rfl⟩
    have HA2 := Lib.hid (show CkS W m sa sc q #[.int .i64 2, .func (.func 48) #[] #[], .func (.func 50) #[] #[], .func (.func 51) #[] #[]] A2 by rw [hX1]; exact HA1.out.later ((Below.refl _ _).alloc (Nat.le_refl _) _))
    have HR := Lib.hid (show Row A2 A1.heap.size 5 1 (.slice (some ⟨g1, 0, none⟩) 1 1) 1 (([toU8 2] : List UInt8).map byteV) by
      rw [hX1, hg1]
      exact row_lit A1 5 [toU8 2] (by simp [maxLen]))
    rw [← hX1, ← hg1]
    refine hK _ _ HA2.out ?_
    clear hK K hX1 hg1
    apply wpOT_do rfl (by kernel_rfl)
    intro K hK
    have hcv := run_string_row (P := Tryz.prog) 90 9 Tryz.underlying90 Tryz.underlying5 Tryz.underlying9 HR.out
    rw [← HB0.out] at hcv
    go_simp
    refine hK _ _ HA2.out ?_
    clear hK K hcv
    iterate 1 ((apply wpOT_take rfl rfl (by kernel_rfl); (intro V hV; go_simp; rfl)); (try simp only [List.setIfInBounds_toArray, List.set_cons_succ, List.set_cons_zero]))
    apply wpOT_do rfl (by kernel_rfl)
    intro K hK
    go_simp
    refine (HSEAL.out _).mono ?_
    rintro e Z ⟨rfl, hb⟩
    rw [HENC.out] at *
    have HZ := Lib.hid (HA2.out.later hb)
    refine hK _ _ HZ.out ?_
    clear hK K hb
    iterate 2 ((apply wpOT_take rfl rfl (by kernel_rfl); (intro V hV; go_simp; rfl)); (try simp only [List.setIfInBounds_toArray, List.set_cons_succ, List.set_cons_zero]))
    refine wpOT_nil ?_
    go_wp2_with fail
    go_ret2
    exact ⟨rfl, HZ.out.bel⟩
set_option maxHeartbeats 6400000 in
theorem mencode3 (m : Ms) (sa : Option Addr) (sc : Nat) (W : World) (hm : m.ok) (hA : AdjsIn W sa m.rc.adjs) (hl : m.rc.adjs.length ≤ maxLen) (hk : m.kd = 3) (hc : m.chk = true) : Calls Tryz.prog 20 #[m.ag sa sc] W fun e W' => e = .returned (.tuple #[.string m.encS, .int .i64 m.err]) ∧ Below W.heap.size W W' := by
  obtain ⟨W1, hW1⟩ : ∃ W1, W1 = W.alloc (.cells (m.cs sa sc) 38) := ⟨_, rfl⟩
  have hb1 : Below W.heap.size W W1 := by rw [hW1]; exact (Below.refl _ _).alloc (Nat.le_refl _) _
  have hbx : BoxM W.heap.size m sa sc W1 := by rw [hW1]; exact heap_alloc_new _ _
  have HES := Lib.hid (show m.encS = m.enc ∧ m.err = 0 from by unfold Ms.encS Ms.err; rw [hc]; exact ⟨rfl, rfl⟩)
  have hmay : m.may = true := by unfold Ms.chk at hc; rw [Bool.and_eq_true] at hc; exact hc.2
  have hlen := lay_len hc
  obtain ⟨b0, hb0⟩ : ∃ b, b = bs [toU8 3] := ⟨_, rfl⟩
  obtain ⟨lv, hlv⟩ : ∃ b, b = bs m.lay := ⟨_, rfl⟩
  have HENC := Lib.hid (show sealB (b0 ++ lv) = m.enc from by rw [hb0, hlv, bs_append]; unfold Ms.enc Ms.body; rw [hk]; rfl)
  have s0 : b0.size = 1 := by rw [hb0, bs_size]; rfl
  have s1 : lv.size ≤ 100 := by rw [hlv, bs_size]; exact hlen
  have hsz : ¬ 9223372036854775807 < b0.size + lv.size := by omega
  have hsz2 : (b0 ++ lv).size ≤ 1125899906842624 := by rw [ByteArray.size_append]; omega
  have HSEAL := Lib.hid (fun V => seal_any (b0 ++ lv) V hsz2)
  have HLV := Lib.hid hlv
  have HB0 := Lib.hid hb0
  have er := enter_lay3
  have hw8 : IntKind.u8.wrap 3 = 3 := by decide
  have HLAY := Lib.hid (show ∀ q row V, CkS W m sa sc q row V → Calls Tryz.prog 55 #[m.ag sa sc] V (fun e X => e = .returned (.string (bs m.lay)) ∧ Below V.heap.size V X) from fun q row V h => by
    unfold Ms.may at hmay
    rw [hk] at hmay
    have := lay3_any m sa sc V hm
    unfold Hd.encS Ms.lay at *
    rw [hk]
    rw [show m.hd.chk = true from hmay, if_pos rfl] at this
    rw [show bs (if (3 : Int) = 1 then m.rc.enc else if (3 : Int) = 2 then m.st.enc else if (3 : Int) = 3 then m.hd.enc.data.toList else if (3 : Int) = 4 then nb m.dst.toNat 1 ++ nb m.hops.toNat 1 ++ nb m.wi.frm.toNat 1 ++ nb m.wi.ep 4 ++ nb m.wi.ver 4 ++ nb m.wi.grp 1 else nb m.dst.toNat 1 ++ nb m.hops.toNat 1 ++ nb m.ak.frm.toNat 1 ++ nb m.ak.ep 4 ++ nb m.ak.dst.toNat 1 ++ nb m.ak.lif 4 ++ nb m.ak.ver 4) = m.hd.enc from bs_of _]
    exact this)
  have HCH := Lib.hid ((mcheck_any m sa sc W1 hm (hA.later hb1) hl).mono fun e V h => show e = .returned (.int .i64 0) ∧ Below W1.heap.size W1 V from by rw [HES.out.2] at h; exact h)
  have HOF := Lib.hid (fun V => (of_any 3 V).mono fun e X h => show e = .returned (.tuple #[.agg #[.int .i64 4, .func (.func 53) #[] #[], .func (.func 55) #[] #[], .func (.func 57) #[] #[]], .bool true]) ∧ Below V.heap.size V X from h)
  have HSZ := Lib.hid (info_msg m sa sc)
  have HBX := Lib.hid hbx
  have HAD := Lib.hid (hA.later hb1)
  have HW1 := Lib.hid hW1
  have HB1 := Lib.hid hb1
  have HCC := Lib.hid (block_cells hbx)
  have HK := Lib.hid hk
  clear hW1 hb1 hbx hA hm hk hc hmay hlen hb0 hlv s0 s1
  rw [show m.encS = m.enc from HES.out.1, show m.err = 0 from HES.out.2]
  have HX0 := Lib.hid (show ∀ q V, CkS W m sa sc q #[.int .i64 4, .func (.func 53) #[] #[], .func (.func 55) #[] #[], .func (.func 57) #[] #[]] V → V.cell? ⟨W.heap.size, 0, none⟩ = some (.int .i64 3) from fun q V hV => by
    have := hV.box.cell (i := 0) (u := .int .i64 m.kd) rfl
    rw [HK.out] at this
    exact this)
  go_enter Tryz.func20, Tryz.ntmps20
  unfold Ms.ag at *
  go_upto_region 1 with fail
  rw [← HW1.out]
  go_wp2_with ((with_reducible refine wpList_load_cs rfl 38 (.tmp 1) rfl ⟨W.heap.size, 0, none⟩ rfl (m.cs sa sc).toList _ HCC.out Tryz.underlying38 rfl HSZ.out ?_); rw [Array.toArray_toList])
  refine HCH.out.mono ?_
  rintro e V1 ⟨rfl, hb⟩
  have HBV := Lib.hid (HBX.out.later hb)
  have HAV := Lib.hid (HAD.out.later hb)
  have HBB := Lib.hid (HB1.out.trans (hb.mono HB1.out.size))
  have x0 : V1.cell? ⟨W.heap.size, 0, none⟩ = some (.int .i64 m.kd) := HBV.out.cell rfl
  rw [HK.out] at x0
  clear hb
  go_wp2_with fail
  refine (HOF.out _).mono ?_
  rintro e V0 ⟨rfl, hb⟩
  obtain ⟨W2, hW2⟩ : ∃ W2, W2 = V0.alloc (.cells #[.int .i64 4, .func (.func 53) #[] #[], .func (.func 55) #[] #[], .func (.func 57) #[] #[]] 54) := ⟨_, rfl⟩
  obtain ⟨q, hq⟩ : ∃ q, q = V0.heap.size := ⟨_, rfl⟩
  have HCK := Lib.hid (show CkS W m sa sc q #[.int .i64 4, .func (.func 53) #[] #[], .func (.func 55) #[] #[], .func (.func 57) #[] #[]] W2 from CkS.start HBB.out HBV.out HAV.out hb hW2 hq)
  have HW2 := Lib.hid hW2
  have HQ := Lib.hid hq
  clear hb hW2 hq HOF x0
  go_wp2_with fail
  rw [← HQ.out, ← HW2.out]
  obtain ⟨U, hU⟩ : ∃ U, U = W2.drew := ⟨_, rfl⟩
  have HU := Lib.hid (show CkS W m sa sc q #[.int .i64 4, .func (.func 53) #[] #[], .func (.func 55) #[] #[], .func (.func 57) #[] #[]] U by rw [hU]; exact HCK.out.later (drew_below _))
  refine wp_region_tree (.look 0 (.look 1 (.look 2 (.look 5 (.look 6 (.look 7 (.two 3 (.two 4 (.one 8 (.look 9 (.one 10 (.look 11 (.look 12 .nil))))) 8 (.one 4 (.look 9 (.one 10 (.look 11 (.look 12 .nil)))))) 8 (.one 3 (.one 4 (.look 9 (.one 10 (.look 11 (.look 12 .nil))))))))))))) (CkS W m sa sc q #[.int .i64 4, .func (.func 53) #[] #[], .func (.func 55) #[] #[], .func (.func 57) #[] #[]]) (by kernel_rfl) (by kernel_rfl) (by decide) (by kernel_rfl) (fun d _ _ _ _ h => by cases d <;> first | exact h | exact h.later (drew_below _)) (by rw [← hU]; exact HU.out) ?_
  rw [← hU]
  clear hU
  iterate 3 ((apply wpOT_take rfl rfl (by kernel_rfl); (intro V hV; have c0 : V.cell? ⟨W.heap.size, 0, none⟩ = some (.int .i64 3) := HX0.out _ V hV; go_simp; rfl)); (try simp only [List.setIfInBounds_toArray, List.set_cons_succ, List.set_cons_zero]))
  iterate 2 ((apply wpOT_take rfl rfl (by kernel_rfl); (intro V hV; have r2 := hV.r 2 _ rfl; go_simp; rfl)); (try simp only [List.setIfInBounds_toArray, List.set_cons_succ, List.set_cons_zero]))
  ((apply wpOT_take rfl rfl (by kernel_rfl); (intro V hV; exact run_load_cs _ _ 38 (.tmp 1) rfl ⟨W.heap.size, 0, none⟩ rfl (m.cs sa sc).toList _ (block_cells hV.box) Tryz.underlying38 rfl HSZ.out)); (try simp only [List.setIfInBounds_toArray, List.set_cons_succ, List.set_cons_zero])); rw [Array.toArray_toList]
  apply wpOT_two
  · skip
    apply wpOT_do rfl (by kernel_rfl)
    intro K hK
    go_simp
    obtain ⟨g1, hg1⟩ : ∃ g, g = U.heap.size := ⟨_, rfl⟩
    obtain ⟨A1, hX1⟩ : ∃ X, X = U.alloc (.cells #[.int .u8 3] 5) := ⟨_, rfl⟩
    have HA1 := Lib.hid (show CkS W m sa sc q #[.int .i64 4, .func (.func 53) #[] #[], .func (.func 55) #[] #[], .func (.func 57) #[] #[]] A1 by rw [hX1]; exact HU.out.later ((Below.refl _ _).alloc (Nat.le_refl _) _))
    have HR := Lib.hid (show Row A1 U.heap.size 5 1 (.slice (some ⟨g1, 0, none⟩) 1 1) 1 (([toU8 3] : List UInt8).map byteV) by
      rw [hX1, hg1]
      exact row_lit U 5 [toU8 3] (by simp [maxLen]))
    rw [← hX1, ← hg1]
    refine hK _ _ HA1.out ?_
    clear hK K hX1 hg1
    apply wpOT_two
    · skip
      apply wpOT_do rfl (by kernel_rfl)
      intro K hK
      have hcv := run_string_row (P := Tryz.prog) 90 9 Tryz.underlying90 Tryz.underlying5 Tryz.underlying9 HR.out
      rw [← HB0.out] at hcv
      go_simp
      refine hK _ _ HA1.out ?_
      clear hK K hcv
      apply wpOT_do rfl (by kernel_rfl)
      intro K hK
      go_simp
      refine (HLAY.out _ _ _ HA1.out).mono ?_
      rintro e A2 ⟨rfl, hb⟩
      rw [← HLV.out]
      have HA2 := Lib.hid (HA1.out.later hb)
      refine hK _ _ HA2.out ?_
      clear hK K hb
      iterate 1 ((apply wpOT_take rfl rfl (by kernel_rfl); (intro V hV; go_simp; rfl)); (try simp only [List.setIfInBounds_toArray, List.set_cons_succ, List.set_cons_zero]))
      apply wpOT_do rfl (by kernel_rfl)
      intro K hK
      go_simp
      refine (HSEAL.out _).mono ?_
      rintro e Z ⟨rfl, hb⟩
      rw [HENC.out] at *
      have HZ := Lib.hid (HA2.out.later hb)
      refine hK _ _ HZ.out ?_
      clear hK K hb
      iterate 2 ((apply wpOT_take rfl rfl (by kernel_rfl); (intro V hV; go_simp; rfl)); (try simp only [List.setIfInBounds_toArray, List.set_cons_succ, List.set_cons_zero]))
      refine wpOT_nil ?_
      go_wp2_with fail
      go_ret2
      exact ⟨rfl, HZ.out.bel⟩
    · skip
      apply wpOT_do rfl (by kernel_rfl)
      intro K hK
      go_simp
      refine (HLAY.out _ _ _ HA1.out).mono ?_
      rintro e A2 ⟨rfl, hb⟩
      rw [← HLV.out]
      have HA2 := Lib.hid (HA1.out.later hb)
      have HRL := Lib.hid (Row.later HR.out hb)
      refine hK _ _ HA2.out ?_
      clear hK K hb
      apply wpOT_do rfl (by kernel_rfl)
      intro K hK
      have hcv := run_string_row (P := Tryz.prog) 90 9 Tryz.underlying90 Tryz.underlying5 Tryz.underlying9 HRL.out
      rw [← HB0.out] at hcv
      go_simp
      refine hK _ _ HA2.out ?_
      clear hK K hcv
      iterate 1 ((apply wpOT_take rfl rfl (by kernel_rfl); (intro V hV; go_simp; rfl)); (try simp only [List.setIfInBounds_toArray, List.set_cons_succ, List.set_cons_zero]))
      apply wpOT_do rfl (by kernel_rfl)
      intro K hK
      go_simp
      refine (HSEAL.out _).mono ?_
      rintro e Z ⟨rfl, hb⟩
      rw [HENC.out] at *
      have HZ := Lib.hid (HA2.out.later hb)
      refine hK _ _ HZ.out ?_
      clear hK K hb
      iterate 2 ((apply wpOT_take rfl rfl (by kernel_rfl); (intro V hV; go_simp; rfl)); (try simp only [List.setIfInBounds_toArray, List.set_cons_succ, List.set_cons_zero]))
      refine wpOT_nil ?_
      go_wp2_with fail
      go_ret2
      exact ⟨rfl, HZ.out.bel⟩
  · skip
    apply wpOT_do rfl (by kernel_rfl)
    intro K hK
    go_simp
    refine (HLAY.out _ _ _ HU.out).mono ?_
    rintro e A1 ⟨rfl, hb⟩
    rw [← HLV.out]
    have HA1 := Lib.hid (HU.out.later hb)
    refine hK _ _ HA1.out ?_
    clear hK K hb
    apply wpOT_do rfl (by kernel_rfl)
    intro K hK
    go_simp
    obtain ⟨g1, hg1⟩ : ∃ g, g = A1.heap.size := ⟨_, rfl⟩
    obtain ⟨A2, hX1⟩ : ∃ X, X = A1.alloc (.cells #[.int .u8 3] 5) := ⟨_, rfl⟩
    have HA2 := Lib.hid (show CkS W m sa sc q #[.int .i64 4, .func (.func 53) #[] #[], .func (.func 55) #[] #[], .func (.func 57) #[] #[]] A2 by rw [hX1]; exact HA1.out.later ((Below.refl _ _).alloc (Nat.le_refl _) _))
    have HR := Lib.hid (show Row A2 A1.heap.size 5 1 (.slice (some ⟨g1, 0, none⟩) 1 1) 1 (([toU8 3] : List UInt8).map byteV) by
      rw [hX1, hg1]
      exact row_lit A1 5 [toU8 3] (by simp [maxLen]))
    rw [← hX1, ← hg1]
    refine hK _ _ HA2.out ?_
    clear hK K hX1 hg1
    apply wpOT_do rfl (by kernel_rfl)
    intro K hK
    have hcv := run_string_row (P := Tryz.prog) 90 9 Tryz.underlying90 Tryz.underlying5 Tryz.underlying9 HR.out
    rw [← HB0.out] at hcv
    go_simp
    refine hK _ _ HA2.out ?_
    clear hK K hcv
    iterate 1 ((apply wpOT_take rfl rfl (by kernel_rfl); (intro V hV; go_simp; rfl)); (try simp only [List.setIfInBounds_toArray, List.set_cons_succ, List.set_cons_zero]))
    apply wpOT_do rfl (by kernel_rfl)
    intro K hK
    go_simp
    refine (HSEAL.out _).mono ?_
    rintro e Z ⟨rfl, hb⟩
    rw [HENC.out] at *
    have HZ := Lib.hid (HA2.out.later hb)
    refine hK _ _ HZ.out ?_
    clear hK K hb
    iterate 2 ((apply wpOT_take rfl rfl (by kernel_rfl); (intro V hV; go_simp; rfl)); (try simp only [List.setIfInBounds_toArray, List.set_cons_succ, List.set_cons_zero]))
    refine wpOT_nil ?_
    go_wp2_with fail
    go_ret2
    exact ⟨rfl, HZ.out.bel⟩
set_option maxHeartbeats 6400000 in
theorem mencode4 (m : Ms) (sa : Option Addr) (sc : Nat) (W : World) (hm : m.ok) (hA : AdjsIn W sa m.rc.adjs) (hl : m.rc.adjs.length ≤ maxLen) (hk : m.kd = 4) (hc : m.chk = true) : Calls Tryz.prog 20 #[m.ag sa sc] W fun e W' => e = .returned (.tuple #[.string m.encS, .int .i64 m.err]) ∧ Below W.heap.size W W' := by
  obtain ⟨W1, hW1⟩ : ∃ W1, W1 = W.alloc (.cells (m.cs sa sc) 38) := ⟨_, rfl⟩
  have hb1 : Below W.heap.size W W1 := by rw [hW1]; exact (Below.refl _ _).alloc (Nat.le_refl _) _
  have hbx : BoxM W.heap.size m sa sc W1 := by rw [hW1]; exact heap_alloc_new _ _
  have HES := Lib.hid (show m.encS = m.enc ∧ m.err = 0 from by unfold Ms.encS Ms.err; rw [hc]; exact ⟨rfl, rfl⟩)
  have hmay : m.may = true := by unfold Ms.chk at hc; rw [Bool.and_eq_true] at hc; exact hc.2
  have hlen := lay_len hc
  obtain ⟨b0, hb0⟩ : ∃ b, b = bs [toU8 4] := ⟨_, rfl⟩
  obtain ⟨lv, hlv⟩ : ∃ b, b = bs m.lay := ⟨_, rfl⟩
  have HENC := Lib.hid (show sealB (b0 ++ lv) = m.enc from by rw [hb0, hlv, bs_append]; unfold Ms.enc Ms.body; rw [hk]; rfl)
  have s0 : b0.size = 1 := by rw [hb0, bs_size]; rfl
  have s1 : lv.size ≤ 100 := by rw [hlv, bs_size]; exact hlen
  have hsz : ¬ 9223372036854775807 < b0.size + lv.size := by omega
  have hsz2 : (b0 ++ lv).size ≤ 1125899906842624 := by rw [ByteArray.size_append]; omega
  have HSEAL := Lib.hid (fun V => seal_any (b0 ++ lv) V hsz2)
  have HLV := Lib.hid hlv
  have HB0 := Lib.hid hb0
  have er := enter_lay4
  have hw8 : IntKind.u8.wrap 4 = 4 := by decide
  have HLAY := Lib.hid (show ∀ q row V, CkS W m sa sc q row V → Calls Tryz.prog 62 #[m.ag sa sc] V (fun e X => e = .returned (.string (bs m.lay)) ∧ Below V.heap.size V X) from fun q row V h => by
    unfold Ms.may at hmay
    rw [hk] at hmay
    unfold Ms.lay
    rw [hk]
    exact lay4_any m sa sc V hm hmay)
  have HCH := Lib.hid ((mcheck_any m sa sc W1 hm (hA.later hb1) hl).mono fun e V h => show e = .returned (.int .i64 0) ∧ Below W1.heap.size W1 V from by rw [HES.out.2] at h; exact h)
  have HOF := Lib.hid (fun V => (of_any 4 V).mono fun e X h => show e = .returned (.tuple #[.agg #[.int .i64 24, .func (.func 59) #[] #[], .func (.func 62) #[] #[], .func (.func 64) #[] #[]], .bool true]) ∧ Below V.heap.size V X from h)
  have HSZ := Lib.hid (info_msg m sa sc)
  have HBX := Lib.hid hbx
  have HAD := Lib.hid (hA.later hb1)
  have HW1 := Lib.hid hW1
  have HB1 := Lib.hid hb1
  have HCC := Lib.hid (block_cells hbx)
  have HK := Lib.hid hk
  clear hW1 hb1 hbx hA hm hk hc hmay hlen hb0 hlv s0 s1
  rw [show m.encS = m.enc from HES.out.1, show m.err = 0 from HES.out.2]
  have HX0 := Lib.hid (show ∀ q V, CkS W m sa sc q #[.int .i64 24, .func (.func 59) #[] #[], .func (.func 62) #[] #[], .func (.func 64) #[] #[]] V → V.cell? ⟨W.heap.size, 0, none⟩ = some (.int .i64 4) from fun q V hV => by
    have := hV.box.cell (i := 0) (u := .int .i64 m.kd) rfl
    rw [HK.out] at this
    exact this)
  go_enter Tryz.func20, Tryz.ntmps20
  unfold Ms.ag at *
  go_upto_region 1 with fail
  rw [← HW1.out]
  go_wp2_with ((with_reducible refine wpList_load_cs rfl 38 (.tmp 1) rfl ⟨W.heap.size, 0, none⟩ rfl (m.cs sa sc).toList _ HCC.out Tryz.underlying38 rfl HSZ.out ?_); rw [Array.toArray_toList])
  refine HCH.out.mono ?_
  rintro e V1 ⟨rfl, hb⟩
  have HBV := Lib.hid (HBX.out.later hb)
  have HAV := Lib.hid (HAD.out.later hb)
  have HBB := Lib.hid (HB1.out.trans (hb.mono HB1.out.size))
  have x0 : V1.cell? ⟨W.heap.size, 0, none⟩ = some (.int .i64 m.kd) := HBV.out.cell rfl
  rw [HK.out] at x0
  clear hb
  go_wp2_with fail
  refine (HOF.out _).mono ?_
  rintro e V0 ⟨rfl, hb⟩
  obtain ⟨W2, hW2⟩ : ∃ W2, W2 = V0.alloc (.cells #[.int .i64 24, .func (.func 59) #[] #[], .func (.func 62) #[] #[], .func (.func 64) #[] #[]] 54) := ⟨_, rfl⟩
  obtain ⟨q, hq⟩ : ∃ q, q = V0.heap.size := ⟨_, rfl⟩
  have HCK := Lib.hid (show CkS W m sa sc q #[.int .i64 24, .func (.func 59) #[] #[], .func (.func 62) #[] #[], .func (.func 64) #[] #[]] W2 from CkS.start HBB.out HBV.out HAV.out hb hW2 hq)
  have HW2 := Lib.hid hW2
  have HQ := Lib.hid hq
  clear hb hW2 hq HOF x0
  go_wp2_with fail
  rw [← HQ.out, ← HW2.out]
  obtain ⟨U, hU⟩ : ∃ U, U = W2.drew := ⟨_, rfl⟩
  have HU := Lib.hid (show CkS W m sa sc q #[.int .i64 24, .func (.func 59) #[] #[], .func (.func 62) #[] #[], .func (.func 64) #[] #[]] U by rw [hU]; exact HCK.out.later (drew_below _))
  refine wp_region_tree (.look 0 (.look 1 (.look 2 (.look 5 (.look 6 (.look 7 (.two 3 (.two 4 (.one 8 (.look 9 (.one 10 (.look 11 (.look 12 .nil))))) 8 (.one 4 (.look 9 (.one 10 (.look 11 (.look 12 .nil)))))) 8 (.one 3 (.one 4 (.look 9 (.one 10 (.look 11 (.look 12 .nil))))))))))))) (CkS W m sa sc q #[.int .i64 24, .func (.func 59) #[] #[], .func (.func 62) #[] #[], .func (.func 64) #[] #[]]) (by kernel_rfl) (by kernel_rfl) (by decide) (by kernel_rfl) (fun d _ _ _ _ h => by cases d <;> first | exact h | exact h.later (drew_below _)) (by rw [← hU]; exact HU.out) ?_
  rw [← hU]
  clear hU
  iterate 3 ((apply wpOT_take rfl rfl (by kernel_rfl); (intro V hV; have c0 : V.cell? ⟨W.heap.size, 0, none⟩ = some (.int .i64 4) := HX0.out _ V hV; go_simp; rfl)); (try simp only [List.setIfInBounds_toArray, List.set_cons_succ, List.set_cons_zero]))
  iterate 2 ((apply wpOT_take rfl rfl (by kernel_rfl); (intro V hV; have r2 := hV.r 2 _ rfl; go_simp; rfl)); (try simp only [List.setIfInBounds_toArray, List.set_cons_succ, List.set_cons_zero]))
  ((apply wpOT_take rfl rfl (by kernel_rfl); (intro V hV; exact run_load_cs _ _ 38 (.tmp 1) rfl ⟨W.heap.size, 0, none⟩ rfl (m.cs sa sc).toList _ (block_cells hV.box) Tryz.underlying38 rfl HSZ.out)); (try simp only [List.setIfInBounds_toArray, List.set_cons_succ, List.set_cons_zero])); rw [Array.toArray_toList]
  apply wpOT_two
  · skip
    apply wpOT_do rfl (by kernel_rfl)
    intro K hK
    go_simp
    obtain ⟨g1, hg1⟩ : ∃ g, g = U.heap.size := ⟨_, rfl⟩
    obtain ⟨A1, hX1⟩ : ∃ X, X = U.alloc (.cells #[.int .u8 4] 5) := ⟨_, rfl⟩
    have HA1 := Lib.hid (show CkS W m sa sc q #[.int .i64 24, .func (.func 59) #[] #[], .func (.func 62) #[] #[], .func (.func 64) #[] #[]] A1 by rw [hX1]; exact HU.out.later ((Below.refl _ _).alloc (Nat.le_refl _) _))
    have HR := Lib.hid (show Row A1 U.heap.size 5 1 (.slice (some ⟨g1, 0, none⟩) 1 1) 1 (([toU8 4] : List UInt8).map byteV) by
      rw [hX1, hg1]
      exact row_lit U 5 [toU8 4] (by simp [maxLen]))
    rw [← hX1, ← hg1]
    refine hK _ _ HA1.out ?_
    clear hK K hX1 hg1
    apply wpOT_two
    · skip
      apply wpOT_do rfl (by kernel_rfl)
      intro K hK
      have hcv := run_string_row (P := Tryz.prog) 90 9 Tryz.underlying90 Tryz.underlying5 Tryz.underlying9 HR.out
      rw [← HB0.out] at hcv
      go_simp
      refine hK _ _ HA1.out ?_
      clear hK K hcv
      apply wpOT_do rfl (by kernel_rfl)
      intro K hK
      go_simp
      refine (HLAY.out _ _ _ HA1.out).mono ?_
      rintro e A2 ⟨rfl, hb⟩
      rw [← HLV.out]
      have HA2 := Lib.hid (HA1.out.later hb)
      refine hK _ _ HA2.out ?_
      clear hK K hb
      iterate 1 ((apply wpOT_take rfl rfl (by kernel_rfl); (intro V hV; go_simp; rfl)); (try simp only [List.setIfInBounds_toArray, List.set_cons_succ, List.set_cons_zero]))
      apply wpOT_do rfl (by kernel_rfl)
      intro K hK
      go_simp
      refine (HSEAL.out _).mono ?_
      rintro e Z ⟨rfl, hb⟩
      rw [HENC.out] at *
      have HZ := Lib.hid (HA2.out.later hb)
      refine hK _ _ HZ.out ?_
      clear hK K hb
      iterate 2 ((apply wpOT_take rfl rfl (by kernel_rfl); (intro V hV; go_simp; rfl)); (try simp only [List.setIfInBounds_toArray, List.set_cons_succ, List.set_cons_zero]))
      refine wpOT_nil ?_
      go_wp2_with fail
      go_ret2
      exact ⟨rfl, HZ.out.bel⟩
    · skip
      apply wpOT_do rfl (by kernel_rfl)
      intro K hK
      go_simp
      refine (HLAY.out _ _ _ HA1.out).mono ?_
      rintro e A2 ⟨rfl, hb⟩
      rw [← HLV.out]
      have HA2 := Lib.hid (HA1.out.later hb)
      have HRL := Lib.hid (Row.later HR.out hb)
      refine hK _ _ HA2.out ?_
      clear hK K hb
      apply wpOT_do rfl (by kernel_rfl)
      intro K hK
      have hcv := run_string_row (P := Tryz.prog) 90 9 Tryz.underlying90 Tryz.underlying5 Tryz.underlying9 HRL.out
      rw [← HB0.out] at hcv
      go_simp
      refine hK _ _ HA2.out ?_
      clear hK K hcv
      iterate 1 ((apply wpOT_take rfl rfl (by kernel_rfl); (intro V hV; go_simp; rfl)); (try simp only [List.setIfInBounds_toArray, List.set_cons_succ, List.set_cons_zero]))
      apply wpOT_do rfl (by kernel_rfl)
      intro K hK
      go_simp
      refine (HSEAL.out _).mono ?_
      rintro e Z ⟨rfl, hb⟩
      rw [HENC.out] at *
      have HZ := Lib.hid (HA2.out.later hb)
      refine hK _ _ HZ.out ?_
      clear hK K hb
      iterate 2 ((apply wpOT_take rfl rfl (by kernel_rfl); (intro V hV; go_simp; rfl)); (try simp only [List.setIfInBounds_toArray, List.set_cons_succ, List.set_cons_zero]))
      refine wpOT_nil ?_
      go_wp2_with fail
      go_ret2
      exact ⟨rfl, HZ.out.bel⟩
  · skip
    apply wpOT_do rfl (by kernel_rfl)
    intro K hK
    go_simp
    refine (HLAY.out _ _ _ HU.out).mono ?_
    rintro e A1 ⟨rfl, hb⟩
    rw [← HLV.out]
    have HA1 := Lib.hid (HU.out.later hb)
    refine hK _ _ HA1.out ?_
    clear hK K hb
    apply wpOT_do rfl (by kernel_rfl)
    intro K hK
    go_simp
    obtain ⟨g1, hg1⟩ : ∃ g, g = A1.heap.size := ⟨_, rfl⟩
    obtain ⟨A2, hX1⟩ : ∃ X, X = A1.alloc (.cells #[.int .u8 4] 5) := ⟨_, rfl⟩
    have HA2 := Lib.hid (show CkS W m sa sc q #[.int .i64 24, .func (.func 59) #[] #[], .func (.func 62) #[] #[], .func (.func 64) #[] #[]] A2 by rw [hX1]; exact HA1.out.later ((Below.refl _ _).alloc (Nat.le_refl _) _))
    have HR := Lib.hid (show Row A2 A1.heap.size 5 1 (.slice (some ⟨g1, 0, none⟩) 1 1) 1 (([toU8 4] : List UInt8).map byteV) by
      rw [hX1, hg1]
      exact row_lit A1 5 [toU8 4] (by simp [maxLen]))
    rw [← hX1, ← hg1]
    refine hK _ _ HA2.out ?_
    clear hK K hX1 hg1
    apply wpOT_do rfl (by kernel_rfl)
    intro K hK
    have hcv := run_string_row (P := Tryz.prog) 90 9 Tryz.underlying90 Tryz.underlying5 Tryz.underlying9 HR.out
    rw [← HB0.out] at hcv
    go_simp
    refine hK _ _ HA2.out ?_
    clear hK K hcv
    iterate 1 ((apply wpOT_take rfl rfl (by kernel_rfl); (intro V hV; go_simp; rfl)); (try simp only [List.setIfInBounds_toArray, List.set_cons_succ, List.set_cons_zero]))
    apply wpOT_do rfl (by kernel_rfl)
    intro K hK
    go_simp
    refine (HSEAL.out _).mono ?_
    rintro e Z ⟨rfl, hb⟩
    rw [HENC.out] at *
    have HZ := Lib.hid (HA2.out.later hb)
    refine hK _ _ HZ.out ?_
    clear hK K hb
    iterate 2 ((apply wpOT_take rfl rfl (by kernel_rfl); (intro V hV; go_simp; rfl)); (try simp only [List.setIfInBounds_toArray, List.set_cons_succ, List.set_cons_zero]))
    refine wpOT_nil ?_
    go_wp2_with fail
    go_ret2
    exact ⟨rfl, HZ.out.bel⟩
set_option maxHeartbeats 6400000 in
theorem mencode5 (m : Ms) (sa : Option Addr) (sc : Nat) (W : World) (hm : m.ok) (hA : AdjsIn W sa m.rc.adjs) (hl : m.rc.adjs.length ≤ maxLen) (hk : m.kd = 5) (hc : m.chk = true) : Calls Tryz.prog 20 #[m.ag sa sc] W fun e W' => e = .returned (.tuple #[.string m.encS, .int .i64 m.err]) ∧ Below W.heap.size W W' := by
  obtain ⟨W1, hW1⟩ : ∃ W1, W1 = W.alloc (.cells (m.cs sa sc) 38) := ⟨_, rfl⟩
  have hb1 : Below W.heap.size W W1 := by rw [hW1]; exact (Below.refl _ _).alloc (Nat.le_refl _) _
  have hbx : BoxM W.heap.size m sa sc W1 := by rw [hW1]; exact heap_alloc_new _ _
  have HES := Lib.hid (show m.encS = m.enc ∧ m.err = 0 from by unfold Ms.encS Ms.err; rw [hc]; exact ⟨rfl, rfl⟩)
  have hmay : m.may = true := by unfold Ms.chk at hc; rw [Bool.and_eq_true] at hc; exact hc.2
  have hlen := lay_len hc
  obtain ⟨b0, hb0⟩ : ∃ b, b = bs [toU8 5] := ⟨_, rfl⟩
  obtain ⟨lv, hlv⟩ : ∃ b, b = bs m.lay := ⟨_, rfl⟩
  have HENC := Lib.hid (show sealB (b0 ++ lv) = m.enc from by rw [hb0, hlv, bs_append]; unfold Ms.enc Ms.body; rw [hk]; rfl)
  have s0 : b0.size = 1 := by rw [hb0, bs_size]; rfl
  have s1 : lv.size ≤ 100 := by rw [hlv, bs_size]; exact hlen
  have hsz : ¬ 9223372036854775807 < b0.size + lv.size := by omega
  have hsz2 : (b0 ++ lv).size ≤ 1125899906842624 := by rw [ByteArray.size_append]; omega
  have HSEAL := Lib.hid (fun V => seal_any (b0 ++ lv) V hsz2)
  have HLV := Lib.hid hlv
  have HB0 := Lib.hid hb0
  have er := enter_lay5
  have hw8 : IntKind.u8.wrap 5 = 5 := by decide
  have HLAY := Lib.hid (show ∀ q row V, CkS W m sa sc q row V → Calls Tryz.prog 67 #[m.ag sa sc] V (fun e X => e = .returned (.string (bs m.lay)) ∧ Below V.heap.size V X) from fun q row V h => by
    unfold Ms.may at hmay
    rw [hk] at hmay
    unfold Ms.lay
    rw [hk]
    exact lay5_any m sa sc V hm hmay)
  have HCH := Lib.hid ((mcheck_any m sa sc W1 hm (hA.later hb1) hl).mono fun e V h => show e = .returned (.int .i64 0) ∧ Below W1.heap.size W1 V from by rw [HES.out.2] at h; exact h)
  have HOF := Lib.hid (fun V => (of_any 5 V).mono fun e X h => show e = .returned (.tuple #[.agg #[.int .i64 40, .func (.func 66) #[] #[], .func (.func 67) #[] #[], .func (.func 68) #[] #[]], .bool true]) ∧ Below V.heap.size V X from h)
  have HSZ := Lib.hid (info_msg m sa sc)
  have HBX := Lib.hid hbx
  have HAD := Lib.hid (hA.later hb1)
  have HW1 := Lib.hid hW1
  have HB1 := Lib.hid hb1
  have HCC := Lib.hid (block_cells hbx)
  have HK := Lib.hid hk
  clear hW1 hb1 hbx hA hm hk hc hmay hlen hb0 hlv s0 s1
  rw [show m.encS = m.enc from HES.out.1, show m.err = 0 from HES.out.2]
  have HX0 := Lib.hid (show ∀ q V, CkS W m sa sc q #[.int .i64 40, .func (.func 66) #[] #[], .func (.func 67) #[] #[], .func (.func 68) #[] #[]] V → V.cell? ⟨W.heap.size, 0, none⟩ = some (.int .i64 5) from fun q V hV => by
    have := hV.box.cell (i := 0) (u := .int .i64 m.kd) rfl
    rw [HK.out] at this
    exact this)
  go_enter Tryz.func20, Tryz.ntmps20
  unfold Ms.ag at *
  go_upto_region 1 with fail
  rw [← HW1.out]
  go_wp2_with ((with_reducible refine wpList_load_cs rfl 38 (.tmp 1) rfl ⟨W.heap.size, 0, none⟩ rfl (m.cs sa sc).toList _ HCC.out Tryz.underlying38 rfl HSZ.out ?_); rw [Array.toArray_toList])
  refine HCH.out.mono ?_
  rintro e V1 ⟨rfl, hb⟩
  have HBV := Lib.hid (HBX.out.later hb)
  have HAV := Lib.hid (HAD.out.later hb)
  have HBB := Lib.hid (HB1.out.trans (hb.mono HB1.out.size))
  have x0 : V1.cell? ⟨W.heap.size, 0, none⟩ = some (.int .i64 m.kd) := HBV.out.cell rfl
  rw [HK.out] at x0
  clear hb
  go_wp2_with fail
  refine (HOF.out _).mono ?_
  rintro e V0 ⟨rfl, hb⟩
  obtain ⟨W2, hW2⟩ : ∃ W2, W2 = V0.alloc (.cells #[.int .i64 40, .func (.func 66) #[] #[], .func (.func 67) #[] #[], .func (.func 68) #[] #[]] 54) := ⟨_, rfl⟩
  obtain ⟨q, hq⟩ : ∃ q, q = V0.heap.size := ⟨_, rfl⟩
  have HCK := Lib.hid (show CkS W m sa sc q #[.int .i64 40, .func (.func 66) #[] #[], .func (.func 67) #[] #[], .func (.func 68) #[] #[]] W2 from CkS.start HBB.out HBV.out HAV.out hb hW2 hq)
  have HW2 := Lib.hid hW2
  have HQ := Lib.hid hq
  clear hb hW2 hq HOF x0
  go_wp2_with fail
  rw [← HQ.out, ← HW2.out]
  obtain ⟨U, hU⟩ : ∃ U, U = W2.drew := ⟨_, rfl⟩
  have HU := Lib.hid (show CkS W m sa sc q #[.int .i64 40, .func (.func 66) #[] #[], .func (.func 67) #[] #[], .func (.func 68) #[] #[]] U by rw [hU]; exact HCK.out.later (drew_below _))
  refine wp_region_tree (.look 0 (.look 1 (.look 2 (.look 5 (.look 6 (.look 7 (.two 3 (.two 4 (.one 8 (.look 9 (.one 10 (.look 11 (.look 12 .nil))))) 8 (.one 4 (.look 9 (.one 10 (.look 11 (.look 12 .nil)))))) 8 (.one 3 (.one 4 (.look 9 (.one 10 (.look 11 (.look 12 .nil))))))))))))) (CkS W m sa sc q #[.int .i64 40, .func (.func 66) #[] #[], .func (.func 67) #[] #[], .func (.func 68) #[] #[]]) (by kernel_rfl) (by kernel_rfl) (by decide) (by kernel_rfl) (fun d _ _ _ _ h => by cases d <;> first | exact h | exact h.later (drew_below _)) (by rw [← hU]; exact HU.out) ?_
  rw [← hU]
  clear hU
  iterate 3 ((apply wpOT_take rfl rfl (by kernel_rfl); (intro V hV; have c0 : V.cell? ⟨W.heap.size, 0, none⟩ = some (.int .i64 5) := HX0.out _ V hV; go_simp; rfl)); (try simp only [List.setIfInBounds_toArray, List.set_cons_succ, List.set_cons_zero]))
  iterate 2 ((apply wpOT_take rfl rfl (by kernel_rfl); (intro V hV; have r2 := hV.r 2 _ rfl; go_simp; rfl)); (try simp only [List.setIfInBounds_toArray, List.set_cons_succ, List.set_cons_zero]))
  ((apply wpOT_take rfl rfl (by kernel_rfl); (intro V hV; exact run_load_cs _ _ 38 (.tmp 1) rfl ⟨W.heap.size, 0, none⟩ rfl (m.cs sa sc).toList _ (block_cells hV.box) Tryz.underlying38 rfl HSZ.out)); (try simp only [List.setIfInBounds_toArray, List.set_cons_succ, List.set_cons_zero])); rw [Array.toArray_toList]
  apply wpOT_two
  · skip
    apply wpOT_do rfl (by kernel_rfl)
    intro K hK
    go_simp
    obtain ⟨g1, hg1⟩ : ∃ g, g = U.heap.size := ⟨_, rfl⟩
    obtain ⟨A1, hX1⟩ : ∃ X, X = U.alloc (.cells #[.int .u8 5] 5) := ⟨_, rfl⟩
    have HA1 := Lib.hid (show CkS W m sa sc q #[.int .i64 40, .func (.func 66) #[] #[], .func (.func 67) #[] #[], .func (.func 68) #[] #[]] A1 by rw [hX1]; exact HU.out.later ((Below.refl _ _).alloc (Nat.le_refl _) _))
    have HR := Lib.hid (show Row A1 U.heap.size 5 1 (.slice (some ⟨g1, 0, none⟩) 1 1) 1 (([toU8 5] : List UInt8).map byteV) by
      rw [hX1, hg1]
      exact row_lit U 5 [toU8 5] (by simp [maxLen]))
    rw [← hX1, ← hg1]
    refine hK _ _ HA1.out ?_
    clear hK K hX1 hg1
    apply wpOT_two
    · skip
      apply wpOT_do rfl (by kernel_rfl)
      intro K hK
      have hcv := run_string_row (P := Tryz.prog) 90 9 Tryz.underlying90 Tryz.underlying5 Tryz.underlying9 HR.out
      rw [← HB0.out] at hcv
      go_simp
      refine hK _ _ HA1.out ?_
      clear hK K hcv
      apply wpOT_do rfl (by kernel_rfl)
      intro K hK
      go_simp
      refine (HLAY.out _ _ _ HA1.out).mono ?_
      rintro e A2 ⟨rfl, hb⟩
      rw [← HLV.out]
      have HA2 := Lib.hid (HA1.out.later hb)
      refine hK _ _ HA2.out ?_
      clear hK K hb
      iterate 1 ((apply wpOT_take rfl rfl (by kernel_rfl); (intro V hV; go_simp; rfl)); (try simp only [List.setIfInBounds_toArray, List.set_cons_succ, List.set_cons_zero]))
      apply wpOT_do rfl (by kernel_rfl)
      intro K hK
      go_simp
      refine (HSEAL.out _).mono ?_
      rintro e Z ⟨rfl, hb⟩
      rw [HENC.out] at *
      have HZ := Lib.hid (HA2.out.later hb)
      refine hK _ _ HZ.out ?_
      clear hK K hb
      iterate 2 ((apply wpOT_take rfl rfl (by kernel_rfl); (intro V hV; go_simp; rfl)); (try simp only [List.setIfInBounds_toArray, List.set_cons_succ, List.set_cons_zero]))
      refine wpOT_nil ?_
      go_wp2_with fail
      go_ret2
      exact ⟨rfl, HZ.out.bel⟩
    · skip
      apply wpOT_do rfl (by kernel_rfl)
      intro K hK
      go_simp
      refine (HLAY.out _ _ _ HA1.out).mono ?_
      rintro e A2 ⟨rfl, hb⟩
      rw [← HLV.out]
      have HA2 := Lib.hid (HA1.out.later hb)
      have HRL := Lib.hid (Row.later HR.out hb)
      refine hK _ _ HA2.out ?_
      clear hK K hb
      apply wpOT_do rfl (by kernel_rfl)
      intro K hK
      have hcv := run_string_row (P := Tryz.prog) 90 9 Tryz.underlying90 Tryz.underlying5 Tryz.underlying9 HRL.out
      rw [← HB0.out] at hcv
      go_simp
      refine hK _ _ HA2.out ?_
      clear hK K hcv
      iterate 1 ((apply wpOT_take rfl rfl (by kernel_rfl); (intro V hV; go_simp; rfl)); (try simp only [List.setIfInBounds_toArray, List.set_cons_succ, List.set_cons_zero]))
      apply wpOT_do rfl (by kernel_rfl)
      intro K hK
      go_simp
      refine (HSEAL.out _).mono ?_
      rintro e Z ⟨rfl, hb⟩
      rw [HENC.out] at *
      have HZ := Lib.hid (HA2.out.later hb)
      refine hK _ _ HZ.out ?_
      clear hK K hb
      iterate 2 ((apply wpOT_take rfl rfl (by kernel_rfl); (intro V hV; go_simp; rfl)); (try simp only [List.setIfInBounds_toArray, List.set_cons_succ, List.set_cons_zero]))
      refine wpOT_nil ?_
      go_wp2_with fail
      go_ret2
      exact ⟨rfl, HZ.out.bel⟩
  · skip
    apply wpOT_do rfl (by kernel_rfl)
    intro K hK
    go_simp
    refine (HLAY.out _ _ _ HU.out).mono ?_
    rintro e A1 ⟨rfl, hb⟩
    rw [← HLV.out]
    have HA1 := Lib.hid (HU.out.later hb)
    refine hK _ _ HA1.out ?_
    clear hK K hb
    apply wpOT_do rfl (by kernel_rfl)
    intro K hK
    go_simp
    obtain ⟨g1, hg1⟩ : ∃ g, g = A1.heap.size := ⟨_, rfl⟩
    obtain ⟨A2, hX1⟩ : ∃ X, X = A1.alloc (.cells #[.int .u8 5] 5) := ⟨_, rfl⟩
    have HA2 := Lib.hid (show CkS W m sa sc q #[.int .i64 40, .func (.func 66) #[] #[], .func (.func 67) #[] #[], .func (.func 68) #[] #[]] A2 by rw [hX1]; exact HA1.out.later ((Below.refl _ _).alloc (Nat.le_refl _) _))
    have HR := Lib.hid (show Row A2 A1.heap.size 5 1 (.slice (some ⟨g1, 0, none⟩) 1 1) 1 (([toU8 5] : List UInt8).map byteV) by
      rw [hX1, hg1]
      exact row_lit A1 5 [toU8 5] (by simp [maxLen]))
    rw [← hX1, ← hg1]
    refine hK _ _ HA2.out ?_
    clear hK K hX1 hg1
    apply wpOT_do rfl (by kernel_rfl)
    intro K hK
    have hcv := run_string_row (P := Tryz.prog) 90 9 Tryz.underlying90 Tryz.underlying5 Tryz.underlying9 HR.out
    rw [← HB0.out] at hcv
    go_simp
    refine hK _ _ HA2.out ?_
    clear hK K hcv
    iterate 1 ((apply wpOT_take rfl rfl (by kernel_rfl); (intro V hV; go_simp; rfl)); (try simp only [List.setIfInBounds_toArray, List.set_cons_succ, List.set_cons_zero]))
    apply wpOT_do rfl (by kernel_rfl)
    intro K hK
    go_simp
    refine (HSEAL.out _).mono ?_
    rintro e Z ⟨rfl, hb⟩
    rw [HENC.out] at *
    have HZ := Lib.hid (HA2.out.later hb)
    refine hK _ _ HZ.out ?_
    clear hK K hb
    iterate 2 ((apply wpOT_take rfl rfl (by kernel_rfl); (intro V hV; go_simp; rfl)); (try simp only [List.setIfInBounds_toArray, List.set_cons_succ, List.set_cons_zero]))
    refine wpOT_nil ?_
    go_wp2_with fail
    go_ret2
    exact ⟨rfl, HZ.out.bel⟩

theorem mencode_any (m : Ms) (sa : Option Addr) (sc : Nat) (W : World) (hm : m.ok) (hA : AdjsIn W sa m.rc.adjs) (hl : m.rc.adjs.length ≤ maxLen) : Calls Tryz.prog 20 #[m.ag sa sc] W fun e W' => e = .returned (.tuple #[.string m.encS, .int .i64 m.err]) ∧ Below W.heap.size W W' := by
  cases hc : m.chk with
  | false => exact mencode_no m sa sc W hm hA hl hc
  | true =>
    have h := hc
    unfold Ms.chk Ms.isk at h
    rw [Bool.and_eq_true, Bool.and_eq_true, Bool.and_eq_true, decide_eq_true_eq, decide_eq_true_eq] at h
    rcases (show m.kd = 1 ∨ m.kd = 2 ∨ m.kd = 3 ∨ m.kd = 4 ∨ m.kd = 5 by omega) with h | h | h | h | h
    · exact mencode1 m sa sc W hm hA hl h hc
    · exact mencode2 m sa sc W hm hA hl h hc
    · exact mencode3 m sa sc W hm hA hl h hc
    · exact mencode4 m sa sc W hm hA hl h hc
    · exact mencode5 m sa sc W hm hA hl h hc

end Go.Proofs.YtickjmkkgcfkhaaGreat
