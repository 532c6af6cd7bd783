/- Contract of the message's Check. (Printed by mkmsg.py.) -/
import Derived.Test.YtickjmkkgcfkhaaGreatMsCD
import Derived.Test.YtickjmkkgcfkhaaGreatMsCD
import Derived.Test.YtickjmkkgcfkhaaGreatRegG
set_option linter.unusedSimpArgs false
set_option linter.unusedVariables false
set_option maxRecDepth 100000
set_option maxRecDepth 100000
namespace Go.Proofs.YtickjmkkgcfkhaaGreat
open Go.RowKit Go.ChangeShapes Go.WideShapes

theorem drew_below (W : World) : Below W.heap.size W W.drew := ⟨rfl, rfl, rfl, Nat.le_refl _, fun _ _ => rfl⟩
theorem wpOrd_undone2 {P : Program} {ops : Array Oper} {Q : Exit → Act → World → Prop} {S : World → Prop} {i : Nat} {o : Oper} {d : Tmp} {r : List (Nat × Bool)} {a : Act} {w : World} (ho : ops[i]? = some o) (hd : o.dst = some d) (hw : Region.wanted o (yielded ops a.tmps) = false) (hS : S w)
    (h : wpOrd P ops Q S r { tmps := a.tmps.setIfInBounds d undef, defers := a.defers } w) : wpOrd P ops Q S ((i, false) :: r) a w :=
  wpOrd_undone ho hw hS (by rw [hd]; exact h)
/-- What is there while a message is looked at. -/
structure CkS (W : World) (m : Ms) (sa : Option Addr) (sc : Nat) (q : Nat) (row : Array Value) (V : World) : Prop where
  bel : Below W.heap.size W V
  box : BoxM W.heap.size m sa sc V
  adj : AdjsIn V sa m.rc.adjs
  row : V.heap[q]? = some (.cells row 54 (0, 0))
theorem CkS.later {W V X : World} {m : Ms} {sa : Option Addr} {sc q : Nat} {row : Array Value} (h : CkS W m sa sc q row V) (hb : Below V.heap.size V X) : CkS W m sa sc q row X :=
  ⟨h.bel.trans (hb.mono h.bel.size), h.box.later hb, h.adj.later hb, (hb.block q (Array.getElem?_eq_some_iff.1 h.row).1).trans h.row⟩
theorem CkS.r {W V : World} {m : Ms} {sa : Option Addr} {sc q : Nat} {row : Array Value} (h : CkS W m sa sc q row V) (i : Nat) (u : Value) (hu : row[i]? = some u) : V.cell? ⟨q, i, none⟩ = some u := (cell_of_row _ _ i _ _ _ h.row).trans hu
theorem CkS.start {W W1 V W2 : World} {m : Ms} {sa : Option Addr} {sc q : Nat} {row : Array Value} (hb1 : Below W.heap.size W W1) (hbx : BoxM W.heap.size m sa sc W1) (hA : AdjsIn W1 sa m.rc.adjs) (hb : Below W1.heap.size W1 V)
    (hW2 : W2 = V.alloc (.cells row 54)) (hq : q = V.heap.size) : CkS W m sa sc q row W2 := by
  have hb2 : Below V.heap.size V W2 := by rw [hW2]; exact (Below.refl _ _).alloc (Nat.le_refl _) _
  exact ⟨(hb1.trans (hb.mono hb1.size)).trans (hb2.mono (Nat.le_trans hb1.size hb.size)), (hbx.later hb).later hb2, (hA.later hb).later hb2, by rw [hW2, hq]; exact heap_alloc_new _ _⟩

theorem enter_may1 (args : Array Value) (w : World) : (callFunc 42 args).run Tryz.prog w = .ok (.enter 42 args) w := enters_of Tryz.func42 (by kernel_rfl) rfl args w
theorem enter_may2 (args : Array Value) (w : World) : (callFunc 48 args).run Tryz.prog w = .ok (.enter 48 args) w := enters_of Tryz.func48 (by kernel_rfl) rfl args w
theorem enter_may3 (args : Array Value) (w : World) : (callFunc 53 args).run Tryz.prog w = .ok (.enter 53 args) w := enters_of Tryz.func53 (by kernel_rfl) rfl args w
theorem enter_may4 (args : Array Value) (w : World) : (callFunc 59 args).run Tryz.prog w = .ok (.enter 59 args) w := enters_of Tryz.func59 (by kernel_rfl) rfl args w
theorem enter_may5 (args : Array Value) (w : World) : (callFunc 66 args).run Tryz.prog w = .ok (.enter 66 args) w := enters_of Tryz.func66 (by kernel_rfl) rfl args w
set_option maxHeartbeats 3200000 in
theorem mcheck1 (m : Ms) (sa : Option Addr) (sc : Nat) (W : World) (hm : m.ok) (hA : AdjsIn W sa m.rc.adjs) (hl : m.rc.adjs.length ≤ maxLen) (hk : m.kd = 1) : Calls Tryz.prog 12 #[m.ag sa sc] W fun e W' => e = .returned (.int .i64 m.err) ∧ Below W.heap.size W W' := by
  obtain ⟨W1, hW1⟩ : ∃ W1, W1 = W.alloc (.cells (m.cs sa sc) 38) := ⟨_, rfl⟩
  have hb1 : Below W.heap.size W W1 := by rw [hW1]; exact (Below.refl _ _).alloc (Nat.le_refl _) _
  have hbx : BoxM W.heap.size m sa sc W1 := by rw [hW1]; exact heap_alloc_new _ _
  have x0 : W1.cell? ⟨W.heap.size, 0, none⟩ = some (.int .i64 m.kd) := hbx.cell rfl
  rw [hk] at x0
  have HOF := Lib.hid ((of_any 1 W1).mono fun e V h => show e = .returned (.tuple #[.agg #[.int .i64 1, .func (.func 42) #[] #[], .func (.func 44) #[] #[], .func (.func 46) #[] #[]], .bool true]) ∧ Below W1.heap.size W1 V from h)
  have er := enter_may1
  have HMAY := Lib.hid (show ∀ q row V, CkS W m sa sc q row V → Calls Tryz.prog 42 #[m.ag sa sc] V (fun e X => e = .returned (.bool m.may) ∧ Below V.heap.size V X) from fun q row V h => by
    have e : m.may = m.rc.chk := by unfold Ms.may; rw [hk]; rfl
    rw [e]
    exact may1_any m sa sc V h.adj hl)
  have HTH := Lib.hid (fun V => there_any m sa sc V hm)
  have HISK := Lib.hid (show m.isk = true by unfold Ms.isk; rw [hk]; rfl)
  have HSZ := Lib.hid (info_msg m sa sc)
  have HBX := Lib.hid hbx
  have HAD := Lib.hid (hA.later hb1)
  have HW1 := Lib.hid hW1
  have HB1 := Lib.hid hb1
  obtain ⟨t, ht⟩ : ∃ t, t = m.tn := ⟨_, rfl⟩
  have HBT := Lib.hid (show (bits BinOp.andNot .i64 (t : Int) 1 == 0) = m.fit by
    rw [ht]
    unfold Ms.fit
    rw [hk]
    exact (bits_fit m.zr m.zs m.zh m.zy m.zw m.za).1)
  rw [← ht] at HTH
  obtain ⟨b, hb⟩ : ∃ b, b = m.fit := ⟨_, rfl⟩
  clear hW1 hb1 hbx hA hm ht hk
  cases b
  · have HFIT := Lib.hid hb.symm
    clear hb
    have HE := Lib.hid (show m.err = 2 from by unfold Ms.err Ms.chk; rw [HISK.out, HFIT.out]; rfl)
    have e1 : (bits BinOp.andNot .i64 (t : Int) 1 != 0) = true := by rw [bne, HBT.out, HFIT.out]; rfl
    have e2 : (bits BinOp.andNot .i64 (t : Int) 1 == 0) = false := by rw [HBT.out, HFIT.out]
    go_enter Tryz.func12, Tryz.ntmps12
    unfold Ms.ag at *
    go_upto_region 1 with fail
    rw [← HW1.out]
    go_wp2_with fail
    refine HOF.out.mono ?_
    rintro e V0 ⟨rfl, hb⟩
    obtain ⟨W2, hW2⟩ : ∃ W2, W2 = V0.alloc (.cells #[.int .i64 1, .func (.func 42) #[] #[], .func (.func 44) #[] #[], .func (.func 46) #[] #[]] 54) := ⟨_, rfl⟩
    obtain ⟨q, hq⟩ : ∃ q, q = V0.heap.size := ⟨_, rfl⟩
    have HCK := Lib.hid (show CkS W m sa sc q #[.int .i64 1, .func (.func 42) #[] #[], .func (.func 44) #[] #[], .func (.func 46) #[] #[]] W2 from CkS.start HB1.out HBX.out HAD.out hb hW2 hq)
    have HW2 := Lib.hid hW2
    have HQ := Lib.hid hq
    clear hb hW2 hq HOF
    go_wp2_with fail
    rw [← HQ.out, ← HW2.out]
    obtain ⟨U, hU⟩ : ∃ U, U = W2.drew := ⟨_, rfl⟩
    have HU := Lib.hid (show CkS W m sa sc q #[.int .i64 1, .func (.func 42) #[] #[], .func (.func 44) #[] #[], .func (.func 46) #[] #[]] U by rw [hU]; exact HCK.out.later (drew_below _))
    refine wp_region_ord [(0, true), (1, true), (2, true), (3, true), (5, true), (6, true), (4, false), (7, true), (8, true), (9, true), (10, true), (11, true), (12, true), (13, true), (14, false), (15, true), (16, true)] (CkS W m sa sc q #[.int .i64 1, .func (.func 42) #[] #[], .func (.func 44) #[] #[], .func (.func 46) #[] #[]]) (by kernel_rfl) (by kernel_rfl) (by decide) (by kernel_rfl) (fun d _ _ _ _ h => by cases d <;> first | exact h | exact h.later (drew_below _)) (by rw [← hU]; exact HU.out) ?_
    rw [← hU]
    clear hU
    iterate 3 ((apply wpOrd_take rfl rfl (by kernel_rfl); (intro V hV; go_simp; rfl)); (try simp only [List.setIfInBounds_toArray, List.set_cons_succ, List.set_cons_zero]))
    ((apply wpOrd_take rfl rfl (by kernel_rfl); (intro V hV; exact run_load_cs _ _ 38 (.tmp 1) rfl ⟨W.heap.size, 0, none⟩ rfl (m.cs sa sc).toList _ (block_cells hV.box) Tryz.underlying38 rfl HSZ.out)); (try simp only [List.setIfInBounds_toArray, List.set_cons_succ, List.set_cons_zero])); rw [Array.toArray_toList]
    iterate 2 ((apply wpOrd_take rfl rfl (by kernel_rfl); (intro V hV; have r0 := hV.r 0 _ rfl; go_simp; rfl)); (try simp only [List.setIfInBounds_toArray, List.set_cons_succ, List.set_cons_zero]))
    apply wpOrd_do rfl (by kernel_rfl)
    intro K hK
    go_simp
    refine (HTH.out U).mono ?_
    rintro e V3 ⟨rfl, hb⟩
    have H3 := Lib.hid (HU.out.later hb)
    refine hK _ _ H3.out ?_
    clear hK K hb
    iterate 4 ((apply wpOrd_take rfl rfl (by kernel_rfl); (intro V hV; go_simp; rfl)); (try simp only [List.setIfInBounds_toArray, List.set_cons_succ, List.set_cons_zero]))
    iterate 3 ((apply wpOrd_skip rfl rfl (by kernel_rfl)); (try simp only [List.setIfInBounds_toArray, List.set_cons_succ, List.set_cons_zero]))
    (apply wpOrd_undone2 rfl rfl (by kernel_rfl) H3.out); (try simp only [List.setIfInBounds_toArray, List.set_cons_succ, List.set_cons_zero])
    iterate 1 ((apply wpOrd_skip rfl rfl (by kernel_rfl)); (try simp only [List.setIfInBounds_toArray, List.set_cons_succ, List.set_cons_zero]))
    iterate 1 ((apply wpOrd_take rfl rfl (by kernel_rfl); (intro V hV; go_simp; rfl)); (try simp only [List.setIfInBounds_toArray, List.set_cons_succ, List.set_cons_zero]))
    refine wpOrd_nil ?_
    go_wp2_with fail
    go_returns
    exact ⟨by rw [HE.out]; rfl, H3.out.bel⟩
  · have HFIT := Lib.hid hb.symm
    clear hb
    have HE := Lib.hid (show m.err = if m.may then 0 else 2 from by unfold Ms.err Ms.chk; rw [HISK.out, HFIT.out]; rfl)
    have e1 : (bits BinOp.andNot .i64 (t : Int) 1 != 0) = false := by rw [bne, HBT.out, HFIT.out]; rfl
    have e2 : (bits BinOp.andNot .i64 (t : Int) 1 == 0) = true := by rw [HBT.out, HFIT.out]
    go_enter Tryz.func12, Tryz.ntmps12
    unfold Ms.ag at *
    go_upto_region 1 with fail
    rw [← HW1.out]
    go_wp2_with fail
    refine HOF.out.mono ?_
    rintro e V0 ⟨rfl, hb⟩
    obtain ⟨W2, hW2⟩ : ∃ W2, W2 = V0.alloc (.cells #[.int .i64 1, .func (.func 42) #[] #[], .func (.func 44) #[] #[], .func (.func 46) #[] #[]] 54) := ⟨_, rfl⟩
    obtain ⟨q, hq⟩ : ∃ q, q = V0.heap.size := ⟨_, rfl⟩
    have HCK := Lib.hid (show CkS W m sa sc q #[.int .i64 1, .func (.func 42) #[] #[], .func (.func 44) #[] #[], .func (.func 46) #[] #[]] W2 from CkS.start HB1.out HBX.out HAD.out hb hW2 hq)
    have HW2 := Lib.hid hW2
    have HQ := Lib.hid hq
    clear hb hW2 hq HOF
    go_wp2_with fail
    rw [← HQ.out, ← HW2.out]
    obtain ⟨U, hU⟩ : ∃ U, U = W2.drew := ⟨_, rfl⟩
    have HU := Lib.hid (show CkS W m sa sc q #[.int .i64 1, .func (.func 42) #[] #[], .func (.func 44) #[] #[], .func (.func 46) #[] #[]] U by rw [hU]; exact HCK.out.later (drew_below _))
    refine wp_region_ord [(0, true), (1, true), (2, true), (3, true), (5, true), (6, true), (4, false), (7, true), (8, true), (9, true), (10, true), (11, true), (12, true), (13, true), (14, false), (15, true), (16, true)] (CkS W m sa sc q #[.int .i64 1, .func (.func 42) #[] #[], .func (.func 44) #[] #[], .func (.func 46) #[] #[]]) (by kernel_rfl) (by kernel_rfl) (by decide) (by kernel_rfl) (fun d _ _ _ _ h => by cases d <;> first | exact h | exact h.later (drew_below _)) (by rw [← hU]; exact HU.out) ?_
    rw [← hU]
    clear hU
    iterate 3 ((apply wpOrd_take rfl rfl (by kernel_rfl); (intro V hV; go_simp; rfl)); (try simp only [List.setIfInBounds_toArray, List.set_cons_succ, List.set_cons_zero]))
    ((apply wpOrd_take rfl rfl (by kernel_rfl); (intro V hV; exact run_load_cs _ _ 38 (.tmp 1) rfl ⟨W.heap.size, 0, none⟩ rfl (m.cs sa sc).toList _ (block_cells hV.box) Tryz.underlying38 rfl HSZ.out)); (try simp only [List.setIfInBounds_toArray, List.set_cons_succ, List.set_cons_zero])); rw [Array.toArray_toList]
    iterate 2 ((apply wpOrd_take rfl rfl (by kernel_rfl); (intro V hV; have r0 := hV.r 0 _ rfl; go_simp; rfl)); (try simp only [List.setIfInBounds_toArray, List.set_cons_succ, List.set_cons_zero]))
    apply wpOrd_do rfl (by kernel_rfl)
    intro K hK
    go_simp
    refine (HTH.out U).mono ?_
    rintro e V3 ⟨rfl, hb⟩
    have H3 := Lib.hid (HU.out.later hb)
    refine hK _ _ H3.out ?_
    clear hK K hb
    iterate 4 ((apply wpOrd_take rfl rfl (by kernel_rfl); (intro V hV; go_simp; rfl)); (try simp only [List.setIfInBounds_toArray, List.set_cons_succ, List.set_cons_zero]))
    iterate 2 ((apply wpOrd_take rfl rfl (by kernel_rfl); (intro V hV; have r1 := hV.r 1 _ rfl; go_simp; rfl)); (try simp only [List.setIfInBounds_toArray, List.set_cons_succ, List.set_cons_zero]))
    ((apply wpOrd_take rfl rfl (by kernel_rfl); (intro V hV; exact run_load_cs _ _ 38 (.tmp 1) rfl ⟨W.heap.size, 0, none⟩ rfl (m.cs sa sc).toList _ (block_cells hV.box) Tryz.underlying38 rfl HSZ.out)); (try simp only [List.setIfInBounds_toArray, List.set_cons_succ, List.set_cons_zero])); rw [Array.toArray_toList]
    apply wpOrd_do rfl (by kernel_rfl)
    intro K hK
    go_simp
    refine (HMAY.out _ _ V3 H3.out).mono ?_
    rintro e V4 ⟨rfl, hb⟩
    have H4 := Lib.hid (H3.out.later hb)
    refine hK _ _ H4.out ?_
    clear hK K hb
    iterate 2 ((apply wpOrd_take rfl rfl (by kernel_rfl); (intro V hV; go_simp; rfl)); (try simp only [List.setIfInBounds_toArray, List.set_cons_succ, List.set_cons_zero]))
    refine wpOrd_nil ?_
    obtain ⟨my, hmy⟩ : ∃ b, b = m.may := ⟨_, rfl⟩
    rw [← hmy]
    have HMY := Lib.hid hmy
    clear hmy
    cases my
    · have HE2 := Lib.hid (show m.err = 2 by rw [HE.out, ← HMY.out]; rfl)
      go_wp2_with fail
      go_returns
      exact ⟨by rw [HE2.out]; rfl, H4.out.bel⟩
    · have HE2 := Lib.hid (show m.err = 0 by rw [HE.out, ← HMY.out]; rfl)
      go_wp2_with fail
      go_returns
      exact ⟨by rw [HE2.out]; rfl, H4.out.bel⟩
set_option maxHeartbeats 3200000 in
theorem mcheck2 (m : Ms) (sa : Option Addr) (sc : Nat) (W : World) (hm : m.ok) (hA : AdjsIn W sa m.rc.adjs) (hl : m.rc.adjs.length ≤ maxLen) (hk : m.kd = 2) : Calls Tryz.prog 12 #[m.ag sa sc] W fun e W' => e = .returned (.int .i64 m.err) ∧ Below W.heap.size W W' := by
  obtain ⟨W1, hW1⟩ : ∃ W1, W1 = W.alloc (.cells (m.cs sa sc) 38) := ⟨_, rfl⟩
  have hb1 : Below W.heap.size W W1 := by rw [hW1]; exact (Below.refl _ _).alloc (Nat.le_refl _) _
  have hbx : BoxM W.heap.size m sa sc W1 := by rw [hW1]; exact heap_alloc_new _ _
  have x0 : W1.cell? ⟨W.heap.size, 0, none⟩ = some (.int .i64 m.kd) := hbx.cell rfl
  rw [hk] at x0
  have HOF := Lib.hid ((of_any 2 W1).mono fun e V h => show e = .returned (.tuple #[.agg #[.int .i64 2, .func (.func 48) #[] #[], .func (.func 50) #[] #[], .func (.func 51) #[] #[]], .bool true]) ∧ Below W1.heap.size W1 V from h)
  have er := enter_may2
  have HMAY := Lib.hid (show ∀ q row V, CkS W m sa sc q row V → Calls Tryz.prog 48 #[m.ag sa sc] V (fun e X => e = .returned (.bool m.may) ∧ Below V.heap.size V X) from fun q row V h => by
    have e : m.may = m.st.may := by unfold Ms.may; rw [hk]; rfl
    rw [e]
    exact may2_any m sa sc V hm)
  have HTH := Lib.hid (fun V => there_any m sa sc V hm)
  have HISK := Lib.hid (show m.isk = true by unfold Ms.isk; rw [hk]; rfl)
  have HSZ := Lib.hid (info_msg m sa sc)
  have HBX := Lib.hid hbx
  have HAD := Lib.hid (hA.later hb1)
  have HW1 := Lib.hid hW1
  have HB1 := Lib.hid hb1
  obtain ⟨t, ht⟩ : ∃ t, t = m.tn := ⟨_, rfl⟩
  have HBT := Lib.hid (show (bits BinOp.andNot .i64 (t : Int) 2 == 0) = m.fit by
    rw [ht]
    unfold Ms.fit
    rw [hk]
    exact (bits_fit m.zr m.zs m.zh m.zy m.zw m.za).2.1)
  rw [← ht] at HTH
  obtain ⟨b, hb⟩ : ∃ b, b = m.fit := ⟨_, rfl⟩
  clear hW1 hb1 hbx hA hm ht hk
  cases b
  · have HFIT := Lib.hid hb.symm
    clear hb
    have HE := Lib.hid (show m.err = 2 from by unfold Ms.err Ms.chk; rw [HISK.out, HFIT.out]; rfl)
    have e1 : (bits BinOp.andNot .i64 (t : Int) 2 != 0) = true := by rw [bne, HBT.out, HFIT.out]; rfl
    have e2 : (bits BinOp.andNot .i64 (t : Int) 2 == 0) = false := by rw [HBT.out, HFIT.out]
    go_enter Tryz.func12, Tryz.ntmps12
    unfold Ms.ag at *
    go_upto_region 1 with fail
    rw [← HW1.out]
    go_wp2_with fail
    refine HOF.out.mono ?_
    rintro e V0 ⟨rfl, hb⟩
    obtain ⟨W2, hW2⟩ : ∃ W2, W2 = V0.alloc (.cells #[.int .i64 2, .func (.func 48) #[] #[], .func (.func 50) #[] #[], .func (.func 51) #[] #[]] 54) := ⟨_, rfl⟩
    obtain ⟨q, hq⟩ : ∃ q, q = V0.heap.size := ⟨_, rfl⟩
    have HCK := Lib.hid (show CkS W m sa sc q #[.int .i64 2, .func (.func 48) #[] #[], .func (.func 50) #[] #[], .func (.func 51) #[] #[]] W2 from CkS.start HB1.out HBX.out HAD.out hb hW2 hq)
    have HW2 := Lib.hid hW2
    have HQ := Lib.hid hq
    clear hb hW2 hq HOF
    go_wp2_with fail
    rw [← HQ.out, ← HW2.out]
    obtain ⟨U, hU⟩ : ∃ U, U = W2.drew := ⟨_, rfl⟩
    have HU := Lib.hid (show CkS W m sa sc q #[.int .i64 2, .func (.func 48) #[] #[], .func (.func 50) #[] #[], .func (.func 51) #[] #[]] U by rw [hU]; exact HCK.out.later (drew_below _))
    refine wp_region_ord [(0, true), (1, true), (2, true), (3, true), (5, true), (6, true), (4, false), (7, true), (8, true), (9, true), (10, true), (11, true), (12, true), (13, true), (14, false), (15, true), (16, true)] (CkS W m sa sc q #[.int .i64 2, .func (.func 48) #[] #[], .func (.func 50) #[] #[], .func (.func 51) #[] #[]]) (by kernel_rfl) (by kernel_rfl) (by decide) (by kernel_rfl) (fun d _ _ _ _ h => by cases d <;> first | exact h | exact h.later (drew_below _)) (by rw [← hU]; exact HU.out) ?_
    rw [← hU]
    clear hU
    iterate 3 ((apply wpOrd_take rfl rfl (by kernel_rfl); (intro V hV; go_simp; rfl)); (try simp only [List.setIfInBounds_toArray, List.set_cons_succ, List.set_cons_zero]))
    ((apply wpOrd_take rfl rfl (by kernel_rfl); (intro V hV; exact run_load_cs _ _ 38 (.tmp 1) rfl ⟨W.heap.size, 0, none⟩ rfl (m.cs sa sc).toList _ (block_cells hV.box) Tryz.underlying38 rfl HSZ.out)); (try simp only [List.setIfInBounds_toArray, List.set_cons_succ, List.set_cons_zero])); rw [Array.toArray_toList]
    iterate 2 ((apply wpOrd_take rfl rfl (by kernel_rfl); (intro V hV; have r0 := hV.r 0 _ rfl; go_simp; rfl)); (try simp only [List.setIfInBounds_toArray, List.set_cons_succ, List.set_cons_zero]))
    apply wpOrd_do rfl (by kernel_rfl)
    intro K hK
    go_simp
    refine (HTH.out U).mono ?_
    rintro e V3 ⟨rfl, hb⟩
    have H3 := Lib.hid (HU.out.later hb)
    refine hK _ _ H3.out ?_
    clear hK K hb
    iterate 4 ((apply wpOrd_take rfl rfl (by kernel_rfl); (intro V hV; go_simp; rfl)); (try simp only [List.setIfInBounds_toArray, List.set_cons_succ, List.set_cons_zero]))
    iterate 3 ((apply wpOrd_skip rfl rfl (by kernel_rfl)); (try simp only [List.setIfInBounds_toArray, List.set_cons_succ, List.set_cons_zero]))
    (apply wpOrd_undone2 rfl rfl (by kernel_rfl) H3.out); (try simp only [List.setIfInBounds_toArray, List.set_cons_succ, List.set_cons_zero])
    iterate 1 ((apply wpOrd_skip rfl rfl (by kernel_rfl)); (try simp only [List.setIfInBounds_toArray, List.set_cons_succ, List.set_cons_zero]))
    iterate 1 ((apply wpOrd_take rfl rfl (by kernel_rfl); (intro V hV; go_simp; rfl)); (try simp only [List.setIfInBounds_toArray, List.set_cons_succ, List.set_cons_zero]))
    refine wpOrd_nil ?_
    go_wp2_with fail
    go_returns
    exact ⟨by rw [HE.out]; rfl, H3.out.bel⟩
  · have HFIT := Lib.hid hb.symm
    clear hb
    have HE := Lib.hid (show m.err = if m.may then 0 else 2 from by unfold Ms.err Ms.chk; rw [HISK.out, HFIT.out]; rfl)
    have e1 : (bits BinOp.andNot .i64 (t : Int) 2 != 0) = false := by rw [bne, HBT.out, HFIT.out]; rfl
    have e2 : (bits BinOp.andNot .i64 (t : Int) 2 == 0) = true := by rw [HBT.out, HFIT.out]
    go_enter Tryz.func12, Tryz.ntmps12
    unfold Ms.ag at *
    go_upto_region 1 with fail
    rw [← HW1.out]
    go_wp2_with fail
    refine HOF.out.mono ?_
    rintro e V0 ⟨rfl, hb⟩
    obtain ⟨W2, hW2⟩ : ∃ W2, W2 = V0.alloc (.cells #[.int .i64 2, .func (.func 48) #[] #[], .func (.func 50) #[] #[], .func (.func 51) #[] #[]] 54) := ⟨_, rfl⟩
    obtain ⟨q, hq⟩ : ∃ q, q = V0.heap.size := ⟨_, rfl⟩
    have HCK := Lib.hid (show CkS W m sa sc q #[.int .i64 2, .func (.func 48) #[] #[], .func (.func 50) #[] #[], .func (.func 51) #[] #[]] W2 from CkS.start HB1.out HBX.out HAD.out hb hW2 hq)
    have HW2 := Lib.hid hW2
    have HQ := Lib.hid hq
    clear hb hW2 hq HOF
    go_wp2_with fail
    rw [← HQ.out, ← HW2.out]
    obtain ⟨U, hU⟩ : ∃ U, U = W2.drew := ⟨_, rfl⟩
    have HU := Lib.hid (show CkS W m sa sc q #[.int .i64 2, .func (.func 48) #[] #[], .func (.func 50) #[] #[], .func (.func 51) #[] #[]] U by rw [hU]; exact HCK.out.later (drew_below _))
    refine wp_region_ord [(0, true), (1, true), (2, true), (3, true), (5, true), (6, true), (4, false), (7, true), (8, true), (9, true), (10, true), (11, true), (12, true), (13, true), (14, false), (15, true), (16, true)] (CkS W m sa sc q #[.int .i64 2, .func (.func 48) #[] #[], .func (.func 50) #[] #[], .func (.func 51) #[] #[]]) (by kernel_rfl) (by kernel_rfl) (by decide) (by kernel_rfl) (fun d _ _ _ _ h => by cases d <;> first | exact h | exact h.later (drew_below _)) (by rw [← hU]; exact HU.out) ?_
    rw [← hU]
    clear hU
    iterate 3 ((apply wpOrd_take rfl rfl (by kernel_rfl); (intro V hV; go_simp; rfl)); (try simp only [List.setIfInBounds_toArray, List.set_cons_succ, List.set_cons_zero]))
    ((apply wpOrd_take rfl rfl (by kernel_rfl); (intro V hV; exact run_load_cs _ _ 38 (.tmp 1) rfl ⟨W.heap.size, 0, none⟩ rfl (m.cs sa sc).toList _ (block_cells hV.box) Tryz.underlying38 rfl HSZ.out)); (try simp only [List.setIfInBounds_toArray, List.set_cons_succ, List.set_cons_zero])); rw [Array.toArray_toList]
    iterate 2 ((apply wpOrd_take rfl rfl (by kernel_rfl); (intro V hV; have r0 := hV.r 0 _ rfl; go_simp; rfl)); (try simp only [List.setIfInBounds_toArray, List.set_cons_succ, List.set_cons_zero]))
    apply wpOrd_do rfl (by kernel_rfl)
    intro K hK
    go_simp
    refine (HTH.out U).mono ?_
    rintro e V3 ⟨rfl, hb⟩
    have H3 := Lib.hid (HU.out.later hb)
    refine hK _ _ H3.out ?_
    clear hK K hb
    iterate 4 ((apply wpOrd_take rfl rfl (by kernel_rfl); (intro V hV; go_simp; rfl)); (try simp only [List.setIfInBounds_toArray, List.set_cons_succ, List.set_cons_zero]))
    iterate 2 ((apply wpOrd_take rfl rfl (by kernel_rfl); (intro V hV; have r1 := hV.r 1 _ rfl; go_simp; rfl)); (try simp only [List.setIfInBounds_toArray, List.set_cons_succ, List.set_cons_zero]))
    ((apply wpOrd_take rfl rfl (by kernel_rfl); (intro V hV; exact run_load_cs _ _ 38 (.tmp 1) rfl ⟨W.heap.size, 0, none⟩ rfl (m.cs sa sc).toList _ (block_cells hV.box) Tryz.underlying38 rfl HSZ.out)); (try simp only [List.setIfInBounds_toArray, List.set_cons_succ, List.set_cons_zero])); rw [Array.toArray_toList]
    apply wpOrd_do rfl (by kernel_rfl)
    intro K hK
    go_simp
    refine (HMAY.out _ _ V3 H3.out).mono ?_
    rintro e V4 ⟨rfl, hb⟩
    have H4 := Lib.hid (H3.out.later hb)
    refine hK _ _ H4.out ?_
    clear hK K hb
    iterate 2 ((apply wpOrd_take rfl rfl (by kernel_rfl); (intro V hV; go_simp; rfl)); (try simp only [List.setIfInBounds_toArray, List.set_cons_succ, List.set_cons_zero]))
    refine wpOrd_nil ?_
    obtain ⟨my, hmy⟩ : ∃ b, b = m.may := ⟨_, rfl⟩
    rw [← hmy]
    have HMY := Lib.hid hmy
    clear hmy
    cases my
    · have HE2 := Lib.hid (show m.err = 2 by rw [HE.out, ← HMY.out]; rfl)
      go_wp2_with fail
      go_returns
      exact ⟨by rw [HE2.out]; rfl, H4.out.bel⟩
    · have HE2 := Lib.hid (show m.err = 0 by rw [HE.out, ← HMY.out]; rfl)
      go_wp2_with fail
      go_returns
      exact ⟨by rw [HE2.out]; rfl, H4.out.bel⟩
set_option maxHeartbeats 3200000 in
theorem mcheck3 (m : Ms) (sa : Option Addr) (sc : Nat) (W : World) (hm : m.ok) (hA : AdjsIn W sa m.rc.adjs) (hl : m.rc.adjs.length ≤ maxLen) (hk : m.kd = 3) : Calls Tryz.prog 12 #[m.ag sa sc] W fun e W' => e = .returned (.int .i64 m.err) ∧ Below W.heap.size W W' := by
  obtain ⟨W1, hW1⟩ : ∃ W1, W1 = W.alloc (.cells (m.cs sa sc) 38) := ⟨_, rfl⟩
  have hb1 : Below W.heap.size W W1 := by rw [hW1]; exact (Below.refl _ _).alloc (Nat.le_refl _) _
  have hbx : BoxM W.heap.size m sa sc W1 := by rw [hW1]; exact heap_alloc_new _ _
  have x0 : W1.cell? ⟨W.heap.size, 0, none⟩ = some (.int .i64 m.kd) := hbx.cell rfl
  rw [hk] at x0
  have HOF := Lib.hid ((of_any 3 W1).mono fun e V h => show e = .returned (.tuple #[.agg #[.int .i64 4, .func (.func 53) #[] #[], .func (.func 55) #[] #[], .func (.func 57) #[] #[]], .bool true]) ∧ Below W1.heap.size W1 V from h)
  have er := enter_may3
  have HMAY := Lib.hid (show ∀ q row V, CkS W m sa sc q row V → Calls Tryz.prog 53 #[m.ag sa sc] V (fun e X => e = .returned (.bool m.may) ∧ Below V.heap.size V X) from fun q row V h => by
    have e : m.may = m.hd.chk := by unfold Ms.may; rw [hk]; rfl
    rw [e]
    exact may3_any m sa sc V hm)
  have HTH := Lib.hid (fun V => there_any m sa sc V hm)
  have HISK := Lib.hid (show m.isk = true by unfold Ms.isk; rw [hk]; rfl)
  have HSZ := Lib.hid (info_msg m sa sc)
  have HBX := Lib.hid hbx
  have HAD := Lib.hid (hA.later hb1)
  have HW1 := Lib.hid hW1
  have HB1 := Lib.hid hb1
  obtain ⟨t, ht⟩ : ∃ t, t = m.tn := ⟨_, rfl⟩
  have HBT := Lib.hid (show (bits BinOp.andNot .i64 (t : Int) 4 == 0) = m.fit by
    rw [ht]
    unfold Ms.fit
    rw [hk]
    exact (bits_fit m.zr m.zs m.zh m.zy m.zw m.za).2.2.1)
  rw [← ht] at HTH
  obtain ⟨b, hb⟩ : ∃ b, b = m.fit := ⟨_, rfl⟩
  clear hW1 hb1 hbx hA hm ht hk
  cases b
  · have HFIT := Lib.hid hb.symm
    clear hb
    have HE := Lib.hid (show m.err = 2 from by unfold Ms.err Ms.chk; rw [HISK.out, HFIT.out]; rfl)
    have e1 : (bits BinOp.andNot .i64 (t : Int) 4 != 0) = true := by rw [bne, HBT.out, HFIT.out]; rfl
    have e2 : (bits BinOp.andNot .i64 (t : Int) 4 == 0) = false := by rw [HBT.out, HFIT.out]
    go_enter Tryz.func12, Tryz.ntmps12
    unfold Ms.ag at *
    go_upto_region 1 with fail
    rw [← HW1.out]
    go_wp2_with fail
    refine HOF.out.mono ?_
    rintro e V0 ⟨rfl, hb⟩
    obtain ⟨W2, hW2⟩ : ∃ W2, W2 = V0.alloc (.cells #[.int .i64 4, .func (.func 53) #[] #[], .func (.func 55) #[] #[], .func (.func 57) #[] #[]] 54) := ⟨_, rfl⟩
    obtain ⟨q, hq⟩ : ∃ q, q = V0.heap.size := ⟨_, rfl⟩
    have HCK := Lib.hid (show CkS W m sa sc q #[.int .i64 4, .func (.func 53) #[] #[], .func (.func 55) #[] #[], .func (.func 57) #[] #[]] W2 from CkS.start HB1.out HBX.out HAD.out hb hW2 hq)
    have HW2 := Lib.hid hW2
    have HQ := Lib.hid hq
    clear hb hW2 hq HOF
    go_wp2_with fail
    rw [← HQ.out, ← HW2.out]
    obtain ⟨U, hU⟩ : ∃ U, U = W2.drew := ⟨_, rfl⟩
    have HU := Lib.hid (show CkS W m sa sc q #[.int .i64 4, .func (.func 53) #[] #[], .func (.func 55) #[] #[], .func (.func 57) #[] #[]] U by rw [hU]; exact HCK.out.later (drew_below _))
    refine wp_region_ord [(0, true), (1, true), (2, true), (3, true), (5, true), (6, true), (4, false), (7, true), (8, true), (9, true), (10, true), (11, true), (12, true), (13, true), (14, false), (15, true), (16, true)] (CkS W m sa sc q #[.int .i64 4, .func (.func 53) #[] #[], .func (.func 55) #[] #[], .func (.func 57) #[] #[]]) (by kernel_rfl) (by kernel_rfl) (by decide) (by kernel_rfl) (fun d _ _ _ _ h => by cases d <;> first | exact h | exact h.later (drew_below _)) (by rw [← hU]; exact HU.out) ?_
    rw [← hU]
    clear hU
    iterate 3 ((apply wpOrd_take rfl rfl (by kernel_rfl); (intro V hV; go_simp; rfl)); (try simp only [List.setIfInBounds_toArray, List.set_cons_succ, List.set_cons_zero]))
    ((apply wpOrd_take rfl rfl (by kernel_rfl); (intro V hV; exact run_load_cs _ _ 38 (.tmp 1) rfl ⟨W.heap.size, 0, none⟩ rfl (m.cs sa sc).toList _ (block_cells hV.box) Tryz.underlying38 rfl HSZ.out)); (try simp only [List.setIfInBounds_toArray, List.set_cons_succ, List.set_cons_zero])); rw [Array.toArray_toList]
    iterate 2 ((apply wpOrd_take rfl rfl (by kernel_rfl); (intro V hV; have r0 := hV.r 0 _ rfl; go_simp; rfl)); (try simp only [List.setIfInBounds_toArray, List.set_cons_succ, List.set_cons_zero]))
    apply wpOrd_do rfl (by kernel_rfl)
    intro K hK
    go_simp
    refine (HTH.out U).mono ?_
    rintro e V3 ⟨rfl, hb⟩
    have H3 := Lib.hid (HU.out.later hb)
    refine hK _ _ H3.out ?_
    clear hK K hb
    iterate 4 ((apply wpOrd_take rfl rfl (by kernel_rfl); (intro V hV; go_simp; rfl)); (try simp only [List.setIfInBounds_toArray, List.set_cons_succ, List.set_cons_zero]))
    iterate 3 ((apply wpOrd_skip rfl rfl (by kernel_rfl)); (try simp only [List.setIfInBounds_toArray, List.set_cons_succ, List.set_cons_zero]))
    (apply wpOrd_undone2 rfl rfl (by kernel_rfl) H3.out); (try simp only [List.setIfInBounds_toArray, List.set_cons_succ, List.set_cons_zero])
    iterate 1 ((apply wpOrd_skip rfl rfl (by kernel_rfl)); (try simp only [List.setIfInBounds_toArray, List.set_cons_succ, List.set_cons_zero]))
    iterate 1 ((apply wpOrd_take rfl rfl (by kernel_rfl); (intro V hV; go_simp; rfl)); (try simp only [List.setIfInBounds_toArray, List.set_cons_succ, List.set_cons_zero]))
    refine wpOrd_nil ?_
    go_wp2_with fail
    go_returns
    exact ⟨by rw [HE.out]; rfl, H3.out.bel⟩
  · have HFIT := Lib.hid hb.symm
    clear hb
    have HE := Lib.hid (show m.err = if m.may then 0 else 2 from by unfold Ms.err Ms.chk; rw [HISK.out, HFIT.out]; rfl)
    have e1 : (bits BinOp.andNot .i64 (t : Int) 4 != 0) = false := by rw [bne, HBT.out, HFIT.out]; rfl
    have e2 : (bits BinOp.andNot .i64 (t : Int) 4 == 0) = true := by rw [HBT.out, HFIT.out]
    go_enter Tryz.func12, Tryz.ntmps12
    unfold Ms.ag at *
    go_upto_region 1 with fail
    rw [← HW1.out]
    go_wp2_with fail
    refine HOF.out.mono ?_
    rintro e V0 ⟨rfl, hb⟩
    obtain ⟨W2, hW2⟩ : ∃ W2, W2 = V0.alloc (.cells #[.int .i64 4, .func (.func 53) #[] #[], .func (.func 55) #[] #[], .func (.func 57) #[] #[]] 54) := ⟨_, rfl⟩
    obtain ⟨q, hq⟩ : ∃ q, q = V0.heap.size := ⟨_, rfl⟩
    have HCK := Lib.hid (show CkS W m sa sc q #[.int .i64 4, .func (.func 53) #[] #[], .func (.func 55) #[] #[], .func (.func 57) #[] #[]] W2 from CkS.start HB1.out HBX.out HAD.out hb hW2 hq)
    have HW2 := Lib.hid hW2
    have HQ := Lib.hid hq
    clear hb hW2 hq HOF
    go_wp2_with fail
    rw [← HQ.out, ← HW2.out]
    obtain ⟨U, hU⟩ : ∃ U, U = W2.drew := ⟨_, rfl⟩
    have HU := Lib.hid (show CkS W m sa sc q #[.int .i64 4, .func (.func 53) #[] #[], .func (.func 55) #[] #[], .func (.func 57) #[] #[]] U by rw [hU]; exact HCK.out.later (drew_below _))
    refine wp_region_ord [(0, true), (1, true), (2, true), (3, true), (5, true), (6, true), (4, false), (7, true), (8, true), (9, true), (10, true), (11, true), (12, true), (13, true), (14, false), (15, true), (16, true)] (CkS W m sa sc q #[.int .i64 4, .func (.func 53) #[] #[], .func (.func 55) #[] #[], .func (.func 57) #[] #[]]) (by kernel_rfl) (by kernel_rfl) (by decide) (by kernel_rfl) (fun d _ _ _ _ h => by cases d <;> first | exact h | exact h.later (drew_below _)) (by rw [← hU]; exact HU.out) ?_
    rw [← hU]
    clear hU
    iterate 3 ((apply wpOrd_take rfl rfl (by kernel_rfl); (intro V hV; go_simp; rfl)); (try simp only [List.setIfInBounds_toArray, List.set_cons_succ, List.set_cons_zero]))
    ((apply wpOrd_take rfl rfl (by kernel_rfl); (intro V hV; exact run_load_cs _ _ 38 (.tmp 1) rfl ⟨W.heap.size, 0, none⟩ rfl (m.cs sa sc).toList _ (block_cells hV.box) Tryz.underlying38 rfl HSZ.out)); (try simp only [List.setIfInBounds_toArray, List.set_cons_succ, List.set_cons_zero])); rw [Array.toArray_toList]
    iterate 2 ((apply wpOrd_take rfl rfl (by kernel_rfl); (intro V hV; have r0 := hV.r 0 _ rfl; go_simp; rfl)); (try simp only [List.setIfInBounds_toArray, List.set_cons_succ, List.set_cons_zero]))
    apply wpOrd_do rfl (by kernel_rfl)
    intro K hK
    go_simp
    refine (HTH.out U).mono ?_
    rintro e V3 ⟨rfl, hb⟩
    have H3 := Lib.hid (HU.out.later hb)
    refine hK _ _ H3.out ?_
    clear hK K hb
    iterate 4 ((apply wpOrd_take rfl rfl (by kernel_rfl); (intro V hV; go_simp; rfl)); (try simp only [List.setIfInBounds_toArray, List.set_cons_succ, List.set_cons_zero]))
    iterate 2 ((apply wpOrd_take rfl rfl (by kernel_rfl); (intro V hV; have r1 := hV.r 1 _ rfl; go_simp; rfl)); (try simp only [List.setIfInBounds_toArray, List.set_cons_succ, List.set_cons_zero]))
    ((apply wpOrd_take rfl rfl (by kernel_rfl); (intro V hV; exact run_load_cs _ _ 38 (.tmp 1) rfl ⟨W.heap.size, 0, none⟩ rfl (m.cs sa sc).toList _ (block_cells hV.box) Tryz.underlying38 rfl HSZ.out)); (try simp only [List.setIfInBounds_toArray, List.set_cons_succ, List.set_cons_zero])); rw [Array.toArray_toList]
    apply wpOrd_do rfl (by kernel_rfl)
    intro K hK
    go_simp
    refine (HMAY.out _ _ V3 H3.out).mono ?_
    rintro e V4 ⟨rfl, hb⟩
    have H4 := Lib.hid (H3.out.later hb)
    refine hK _ _ H4.out ?_
    clear hK K hb
    iterate 2 ((apply wpOrd_take rfl rfl (by kernel_rfl); (intro V hV; go_simp; rfl)); (try simp only [List.setIfInBounds_toArray, List.set_cons_succ, List.set_cons_zero]))
    refine wpOrd_nil ?_
    obtain ⟨my, hmy⟩ : ∃ b, b = m.may := ⟨_, rfl⟩
    rw [← hmy]
    have HMY := Lib.hid hmy
    clear hmy
    cases my
    · have HE2 := Lib.hid (show m.err = 2 by rw [HE.out, ← HMY.out]; rfl)
      go_wp2_with fail
      go_returns
      exact ⟨by rw [HE2.out]; rfl, H4.out.bel⟩
    · have HE2 := Lib.hid (show m.err = 0 by rw [HE.out, ← HMY.out]; rfl)
      go_wp2_with fail
      go_returns
      exact ⟨by rw [HE2.out]; rfl, H4.out.bel⟩
set_option maxHeartbeats 3200000 in
theorem mcheck4 (m : Ms) (sa : Option Addr) (sc : Nat) (W : World) (hm : m.ok) (hA : AdjsIn W sa m.rc.adjs) (hl : m.rc.adjs.length ≤ maxLen) (hk : m.kd = 4) : Calls Tryz.prog 12 #[m.ag sa sc] W fun e W' => e = .returned (.int .i64 m.err) ∧ Below W.heap.size W W' := by
  obtain ⟨W1, hW1⟩ : ∃ W1, W1 = W.alloc (.cells (m.cs sa sc) 38) := ⟨_, rfl⟩
  have hb1 : Below W.heap.size W W1 := by rw [hW1]; exact (Below.refl _ _).alloc (Nat.le_refl _) _
  have hbx : BoxM W.heap.size m sa sc W1 := by rw [hW1]; exact heap_alloc_new _ _
  have x0 : W1.cell? ⟨W.heap.size, 0, none⟩ = some (.int .i64 m.kd) := hbx.cell rfl
  rw [hk] at x0
  have HOF := Lib.hid ((of_any 4 W1).mono fun e V h => show e = .returned (.tuple #[.agg #[.int .i64 24, .func (.func 59) #[] #[], .func (.func 62) #[] #[], .func (.func 64) #[] #[]], .bool true]) ∧ Below W1.heap.size W1 V from h)
  have er := enter_may4
  have HMAY := Lib.hid (show ∀ q row V, CkS W m sa sc q row V → Calls Tryz.prog 59 #[m.ag sa sc] V (fun e X => e = .returned (.bool m.may) ∧ Below V.heap.size V X) from fun q row V h => by
    have e : m.may = (m.way && m.wi.may) := by unfold Ms.may; rw [hk]; rfl
    rw [e]
    exact may4_any m sa sc V)
  have HTH := Lib.hid (fun V => there_any m sa sc V hm)
  have HISK := Lib.hid (show m.isk = true by unfold Ms.isk; rw [hk]; rfl)
  have HSZ := Lib.hid (info_msg m sa sc)
  have HBX := Lib.hid hbx
  have HAD := Lib.hid (hA.later hb1)
  have HW1 := Lib.hid hW1
  have HB1 := Lib.hid hb1
  obtain ⟨t, ht⟩ : ∃ t, t = m.tn := ⟨_, rfl⟩
  have HBT := Lib.hid (show (bits BinOp.andNot .i64 (t : Int) 24 == 0) = m.fit by
    rw [ht]
    unfold Ms.fit
    rw [hk]
    exact (bits_fit m.zr m.zs m.zh m.zy m.zw m.za).2.2.2.1)
  rw [← ht] at HTH
  obtain ⟨b, hb⟩ : ∃ b, b = m.fit := ⟨_, rfl⟩
  clear hW1 hb1 hbx hA hm ht hk
  cases b
  · have HFIT := Lib.hid hb.symm
    clear hb
    have HE := Lib.hid (show m.err = 2 from by unfold Ms.err Ms.chk; rw [HISK.out, HFIT.out]; rfl)
    have e1 : (bits BinOp.andNot .i64 (t : Int) 24 != 0) = true := by rw [bne, HBT.out, HFIT.out]; rfl
    have e2 : (bits BinOp.andNot .i64 (t : Int) 24 == 0) = false := by rw [HBT.out, HFIT.out]
    go_enter Tryz.func12, Tryz.ntmps12
    unfold Ms.ag at *
    go_upto_region 1 with fail
    rw [← HW1.out]
    go_wp2_with fail
    refine HOF.out.mono ?_
    rintro e V0 ⟨rfl, hb⟩
    obtain ⟨W2, hW2⟩ : ∃ W2, W2 = V0.alloc (.cells #[.int .i64 24, .func (.func 59) #[] #[], .func (.func 62) #[] #[], .func (.func 64) #[] #[]] 54) := ⟨_, rfl⟩
    obtain ⟨q, hq⟩ : ∃ q, q = V0.heap.size := ⟨_, rfl⟩
    have HCK := Lib.hid (show CkS W m sa sc q #[.int .i64 24, .func (.func 59) #[] #[], .func (.func 62) #[] #[], .func (.func 64) #[] #[]] W2 from CkS.start HB1.out HBX.out HAD.out hb hW2 hq)
    have HW2 := Lib.hid hW2
    have HQ := Lib.hid hq
    clear hb hW2 hq HOF
    go_wp2_with fail
    rw [← HQ.out, ← HW2.out]
    obtain ⟨U, hU⟩ : ∃ U, U = W2.drew := ⟨_, rfl⟩
    have HU := Lib.hid (show CkS W m sa sc q #[.int .i64 24, .func (.func 59) #[] #[], .func (.func 62) #[] #[], .func (.func 64) #[] #[]] U by rw [hU]; exact HCK.out.later (drew_below _))
    refine wp_region_ord [(0, true), (1, true), (2, true), (3, true), (5, true), (6, true), (4, false), (7, true), (8, true), (9, true), (10, true), (11, true), (12, true), (13, true), (14, false), (15, true), (16, true)] (CkS W m sa sc q #[.int .i64 24, .func (.func 59) #[] #[], .func (.func 62) #[] #[], .func (.func 64) #[] #[]]) (by kernel_rfl) (by kernel_rfl) (by decide) (by kernel_rfl) (fun d _ _ _ _ h => by cases d <;> first | exact h | exact h.later (drew_below _)) (by rw [← hU]; exact HU.out) ?_
    rw [← hU]
    clear hU
    iterate 3 ((apply wpOrd_take rfl rfl (by kernel_rfl); (intro V hV; go_simp; rfl)); (try simp only [List.setIfInBounds_toArray, List.set_cons_succ, List.set_cons_zero]))
    ((apply wpOrd_take rfl rfl (by kernel_rfl); (intro V hV; exact run_load_cs _ _ 38 (.tmp 1) rfl ⟨W.heap.size, 0, none⟩ rfl (m.cs sa sc).toList _ (block_cells hV.box) Tryz.underlying38 rfl HSZ.out)); (try simp only [List.setIfInBounds_toArray, List.set_cons_succ, List.set_cons_zero])); rw [Array.toArray_toList]
    iterate 2 ((apply wpOrd_take rfl rfl (by kernel_rfl); (intro V hV; have r0 := hV.r 0 _ rfl; go_simp; rfl)); (try simp only [List.setIfInBounds_toArray, List.set_cons_succ, List.set_cons_zero]))
    apply wpOrd_do rfl (by kernel_rfl)
    intro K hK
    go_simp
    refine (HTH.out U).mono ?_
    rintro e V3 ⟨rfl, hb⟩
    have H3 := Lib.hid (HU.out.later hb)
    refine hK _ _ H3.out ?_
    clear hK K hb
    iterate 4 ((apply wpOrd_take rfl rfl (by kernel_rfl); (intro V hV; go_simp; rfl)); (try simp only [List.setIfInBounds_toArray, List.set_cons_succ, List.set_cons_zero]))
    iterate 3 ((apply wpOrd_skip rfl rfl (by kernel_rfl)); (try simp only [List.setIfInBounds_toArray, List.set_cons_succ, List.set_cons_zero]))
    (apply wpOrd_undone2 rfl rfl (by kernel_rfl) H3.out); (try simp only [List.setIfInBounds_toArray, List.set_cons_succ, List.set_cons_zero])
    iterate 1 ((apply wpOrd_skip rfl rfl (by kernel_rfl)); (try simp only [List.setIfInBounds_toArray, List.set_cons_succ, List.set_cons_zero]))
    iterate 1 ((apply wpOrd_take rfl rfl (by kernel_rfl); (intro V hV; go_simp; rfl)); (try simp only [List.setIfInBounds_toArray, List.set_cons_succ, List.set_cons_zero]))
    refine wpOrd_nil ?_
    go_wp2_with fail
    go_returns
    exact ⟨by rw [HE.out]; rfl, H3.out.bel⟩
  · have HFIT := Lib.hid hb.symm
    clear hb
    have HE := Lib.hid (show m.err = if m.may then 0 else 2 from by unfold Ms.err Ms.chk; rw [HISK.out, HFIT.out]; rfl)
    have e1 : (bits BinOp.andNot .i64 (t : Int) 24 != 0) = false := by rw [bne, HBT.out, HFIT.out]; rfl
    have e2 : (bits BinOp.andNot .i64 (t : Int) 24 == 0) = true := by rw [HBT.out, HFIT.out]
    go_enter Tryz.func12, Tryz.ntmps12
    unfold Ms.ag at *
    go_upto_region 1 with fail
    rw [← HW1.out]
    go_wp2_with fail
    refine HOF.out.mono ?_
    rintro e V0 ⟨rfl, hb⟩
    obtain ⟨W2, hW2⟩ : ∃ W2, W2 = V0.alloc (.cells #[.int .i64 24, .func (.func 59) #[] #[], .func (.func 62) #[] #[], .func (.func 64) #[] #[]] 54) := ⟨_, rfl⟩
    obtain ⟨q, hq⟩ : ∃ q, q = V0.heap.size := ⟨_, rfl⟩
    have HCK := Lib.hid (show CkS W m sa sc q #[.int .i64 24, .func (.func 59) #[] #[], .func (.func 62) #[] #[], .func (.func 64) #[] #[]] W2 from CkS.start HB1.out HBX.out HAD.out hb hW2 hq)
    have HW2 := Lib.hid hW2
    have HQ := Lib.hid hq
    clear hb hW2 hq HOF
    go_wp2_with fail
    rw [← HQ.out, ← HW2.out]
    obtain ⟨U, hU⟩ : ∃ U, U = W2.drew := ⟨_, rfl⟩
    have HU := Lib.hid (show CkS W m sa sc q #[.int .i64 24, .func (.func 59) #[] #[], .func (.func 62) #[] #[], .func (.func 64) #[] #[]] U by rw [hU]; exact HCK.out.later (drew_below _))
    refine wp_region_ord [(0, true), (1, true), (2, true), (3, true), (5, true), (6, true), (4, false), (7, true), (8, true), (9, true), (10, true), (11, true), (12, true), (13, true), (14, false), (15, true), (16, true)] (CkS W m sa sc q #[.int .i64 24, .func (.func 59) #[] #[], .func (.func 62) #[] #[], .func (.func 64) #[] #[]]) (by kernel_rfl) (by kernel_rfl) (by decide) (by kernel_rfl) (fun d _ _ _ _ h => by cases d <;> first | exact h | exact h.later (drew_below _)) (by rw [← hU]; exact HU.out) ?_
    rw [← hU]
    clear hU
    iterate 3 ((apply wpOrd_take rfl rfl (by kernel_rfl); (intro V hV; go_simp; rfl)); (try simp only [List.setIfInBounds_toArray, List.set_cons_succ, List.set_cons_zero]))
    ((apply wpOrd_take rfl rfl (by kernel_rfl); (intro V hV; exact run_load_cs _ _ 38 (.tmp 1) rfl ⟨W.heap.size, 0, none⟩ rfl (m.cs sa sc).toList _ (block_cells hV.box) Tryz.underlying38 rfl HSZ.out)); (try simp only [List.setIfInBounds_toArray, List.set_cons_succ, List.set_cons_zero])); rw [Array.toArray_toList]
    iterate 2 ((apply wpOrd_take rfl rfl (by kernel_rfl); (intro V hV; have r0 := hV.r 0 _ rfl; go_simp; rfl)); (try simp only [List.setIfInBounds_toArray, List.set_cons_succ, List.set_cons_zero]))
    apply wpOrd_do rfl (by kernel_rfl)
    intro K hK
    go_simp
    refine (HTH.out U).mono ?_
    rintro e V3 ⟨rfl, hb⟩
    have H3 := Lib.hid (HU.out.later hb)
    refine hK _ _ H3.out ?_
    clear hK K hb
    iterate 4 ((apply wpOrd_take rfl rfl (by kernel_rfl); (intro V hV; go_simp; rfl)); (try simp only [List.setIfInBounds_toArray, List.set_cons_succ, List.set_cons_zero]))
    iterate 2 ((apply wpOrd_take rfl rfl (by kernel_rfl); (intro V hV; have r1 := hV.r 1 _ rfl; go_simp; rfl)); (try simp only [List.setIfInBounds_toArray, List.set_cons_succ, List.set_cons_zero]))
    ((apply wpOrd_take rfl rfl (by kernel_rfl); (intro V hV; exact run_load_cs _ _ 38 (.tmp 1) rfl ⟨W.heap.size, 0, none⟩ rfl (m.cs sa sc).toList _ (block_cells hV.box) Tryz.underlying38 rfl HSZ.out)); (try simp only [List.setIfInBounds_toArray, List.set_cons_succ, List.set_cons_zero])); rw [Array.toArray_toList]
    apply wpOrd_do rfl (by kernel_rfl)
    intro K hK
    go_simp
    refine (HMAY.out _ _ V3 H3.out).mono ?_
    rintro e V4 ⟨rfl, hb⟩
    have H4 := Lib.hid (H3.out.later hb)
    refine hK _ _ H4.out ?_
    clear hK K hb
    iterate 2 ((apply wpOrd_take rfl rfl (by kernel_rfl); (intro V hV; go_simp; rfl)); (try simp only [List.setIfInBounds_toArray, List.set_cons_succ, List.set_cons_zero]))
    refine wpOrd_nil ?_
    obtain ⟨my, hmy⟩ : ∃ b, b = m.may := ⟨_, rfl⟩
    rw [← hmy]
    have HMY := Lib.hid hmy
    clear hmy
    cases my
    · have HE2 := Lib.hid (show m.err = 2 by rw [HE.out, ← HMY.out]; rfl)
      go_wp2_with fail
      go_returns
      exact ⟨by rw [HE2.out]; rfl, H4.out.bel⟩
    · have HE2 := Lib.hid (show m.err = 0 by rw [HE.out, ← HMY.out]; rfl)
      go_wp2_with fail
      go_returns
      exact ⟨by rw [HE2.out]; rfl, H4.out.bel⟩
set_option maxHeartbeats 3200000 in
theorem mcheck5 (m : Ms) (sa : Option Addr) (sc : Nat) (W : World) (hm : m.ok) (hA : AdjsIn W sa m.rc.adjs) (hl : m.rc.adjs.length ≤ maxLen) (hk : m.kd = 5) : Calls Tryz.prog 12 #[m.ag sa sc] W fun e W' => e = .returned (.int .i64 m.err) ∧ Below W.heap.size W W' := by
  obtain ⟨W1, hW1⟩ : ∃ W1, W1 = W.alloc (.cells (m.cs sa sc) 38) := ⟨_, rfl⟩
  have hb1 : Below W.heap.size W W1 := by rw [hW1]; exact (Below.refl _ _).alloc (Nat.le_refl _) _
  have hbx : BoxM W.heap.size m sa sc W1 := by rw [hW1]; exact heap_alloc_new _ _
  have x0 : W1.cell? ⟨W.heap.size, 0, none⟩ = some (.int .i64 m.kd) := hbx.cell rfl
  rw [hk] at x0
  have HOF := Lib.hid ((of_any 5 W1).mono fun e V h => show e = .returned (.tuple #[.agg #[.int .i64 40, .func (.func 66) #[] #[], .func (.func 67) #[] #[], .func (.func 68) #[] #[]], .bool true]) ∧ Below W1.heap.size W1 V from h)
  have er := enter_may5
  have HMAY := Lib.hid (show ∀ q row V, CkS W m sa sc q row V → Calls Tryz.prog 66 #[m.ag sa sc] V (fun e X => e = .returned (.bool m.may) ∧ Below V.heap.size V X) from fun q row V h => by
    have e : m.may = (m.way && m.ak.may) := by unfold Ms.may; rw [hk]; rfl
    rw [e]
    exact may5_any m sa sc V)
  have HTH := Lib.hid (fun V => there_any m sa sc V hm)
  have HISK := Lib.hid (show m.isk = true by unfold Ms.isk; rw [hk]; rfl)
  have HSZ := Lib.hid (info_msg m sa sc)
  have HBX := Lib.hid hbx
  have HAD := Lib.hid (hA.later hb1)
  have HW1 := Lib.hid hW1
  have HB1 := Lib.hid hb1
  obtain ⟨t, ht⟩ : ∃ t, t = m.tn := ⟨_, rfl⟩
  have HBT := Lib.hid (show (bits BinOp.andNot .i64 (t : Int) 40 == 0) = m.fit by
    rw [ht]
    unfold Ms.fit
    rw [hk]
    exact (bits_fit m.zr m.zs m.zh m.zy m.zw m.za).2.2.2.2)
  rw [← ht] at HTH
  obtain ⟨b, hb⟩ : ∃ b, b = m.fit := ⟨_, rfl⟩
  clear hW1 hb1 hbx hA hm ht hk
  cases b
  · have HFIT := Lib.hid hb.symm
    clear hb
    have HE := Lib.hid (show m.err = 2 from by unfold Ms.err Ms.chk; rw [HISK.out, HFIT.out]; rfl)
    have e1 : (bits BinOp.andNot .i64 (t : Int) 40 != 0) = true := by rw [bne, HBT.out, HFIT.out]; rfl
    have e2 : (bits BinOp.andNot .i64 (t : Int) 40 == 0) = false := by rw [HBT.out, HFIT.out]
    go_enter Tryz.func12, Tryz.ntmps12
    unfold Ms.ag at *
    go_upto_region 1 with fail
    rw [← HW1.out]
    go_wp2_with fail
    refine HOF.out.mono ?_
    rintro e V0 ⟨rfl, hb⟩
    obtain ⟨W2, hW2⟩ : ∃ W2, W2 = V0.alloc (.cells #[.int .i64 40, .func (.func 66) #[] #[], .func (.func 67) #[] #[], .func (.func 68) #[] #[]] 54) := ⟨_, rfl⟩
    obtain ⟨q, hq⟩ : ∃ q, q = V0.heap.size := ⟨_, rfl⟩
    have HCK := Lib.hid (show CkS W m sa sc q #[.int .i64 40, .func (.func 66) #[] #[], .func (.func 67) #[] #[], .func (.func 68) #[] #[]] W2 from CkS.start HB1.out HBX.out HAD.out hb hW2 hq)
    have HW2 := Lib.hid hW2
    have HQ := Lib.hid hq
    clear hb hW2 hq HOF
    go_wp2_with fail
    rw [← HQ.out, ← HW2.out]
    obtain ⟨U, hU⟩ : ∃ U, U = W2.drew := ⟨_, rfl⟩
    have HU := Lib.hid (show CkS W m sa sc q #[.int .i64 40, .func (.func 66) #[] #[], .func (.func 67) #[] #[], .func (.func 68) #[] #[]] U by rw [hU]; exact HCK.out.later (drew_below _))
    refine wp_region_ord [(0, true), (1, true), (2, true), (3, true), (5, true), (6, true), (4, false), (7, true), (8, true), (9, true), (10, true), (11, true), (12, true), (13, true), (14, false), (15, true), (16, true)] (CkS W m sa sc q #[.int .i64 40, .func (.func 66) #[] #[], .func (.func 67) #[] #[], .func (.func 68) #[] #[]]) (by kernel_rfl) (by kernel_rfl) (by decide) (by kernel_rfl) (fun d _ _ _ _ h => by cases d <;> first | exact h | exact h.later (drew_below _)) (by rw [← hU]; exact HU.out) ?_
    rw [← hU]
    clear hU
    iterate 3 ((apply wpOrd_take rfl rfl (by kernel_rfl); (intro V hV; go_simp; rfl)); (try simp only [List.setIfInBounds_toArray, List.set_cons_succ, List.set_cons_zero]))
    ((apply wpOrd_take rfl rfl (by kernel_rfl); (intro V hV; exact run_load_cs _ _ 38 (.tmp 1) rfl ⟨W.heap.size, 0, none⟩ rfl (m.cs sa sc).toList _ (block_cells hV.box) Tryz.underlying38 rfl HSZ.out)); (try simp only [List.setIfInBounds_toArray, List.set_cons_succ, List.set_cons_zero])); rw [Array.toArray_toList]
    iterate 2 ((apply wpOrd_take rfl rfl (by kernel_rfl); (intro V hV; have r0 := hV.r 0 _ rfl; go_simp; rfl)); (try simp only [List.setIfInBounds_toArray, List.set_cons_succ, List.set_cons_zero]))
    apply wpOrd_do rfl (by kernel_rfl)
    intro K hK
    go_simp
    refine (HTH.out U).mono ?_
    rintro e V3 ⟨rfl, hb⟩
    have H3 := Lib.hid (HU.out.later hb)
    refine hK _ _ H3.out ?_
    clear hK K hb
    iterate 4 ((apply wpOrd_take rfl rfl (by kernel_rfl); (intro V hV; go_simp; rfl)); (try simp only [List.setIfInBounds_toArray, List.set_cons_succ, List.set_cons_zero]))
    iterate 3 ((apply wpOrd_skip rfl rfl (by kernel_rfl)); (try simp only [List.setIfInBounds_toArray, List.set_cons_succ, List.set_cons_zero]))
    (apply wpOrd_undone2 rfl rfl (by kernel_rfl) H3.out); (try simp only [List.setIfInBounds_toArray, List.set_cons_succ, List.set_cons_zero])
    iterate 1 ((apply wpOrd_skip rfl rfl (by kernel_rfl)); (try simp only [List.setIfInBounds_toArray, List.set_cons_succ, List.set_cons_zero]))
    iterate 1 ((apply wpOrd_take rfl rfl (by kernel_rfl); (intro V hV; go_simp; rfl)); (try simp only [List.setIfInBounds_toArray, List.set_cons_succ, List.set_cons_zero]))
    refine wpOrd_nil ?_
    go_wp2_with fail
    go_returns
    exact ⟨by rw [HE.out]; rfl, H3.out.bel⟩
  · have HFIT := Lib.hid hb.symm
    clear hb
    have HE := Lib.hid (show m.err = if m.may then 0 else 2 from by unfold Ms.err Ms.chk; rw [HISK.out, HFIT.out]; rfl)
    have e1 : (bits BinOp.andNot .i64 (t : Int) 40 != 0) = false := by rw [bne, HBT.out, HFIT.out]; rfl
    have e2 : (bits BinOp.andNot .i64 (t : Int) 40 == 0) = true := by rw [HBT.out, HFIT.out]
    go_enter Tryz.func12, Tryz.ntmps12
    unfold Ms.ag at *
    go_upto_region 1 with fail
    rw [← HW1.out]
    go_wp2_with fail
    refine HOF.out.mono ?_
    rintro e V0 ⟨rfl, hb⟩
    obtain ⟨W2, hW2⟩ : ∃ W2, W2 = V0.alloc (.cells #[.int .i64 40, .func (.func 66) #[] #[], .func (.func 67) #[] #[], .func (.func 68) #[] #[]] 54) := ⟨_, rfl⟩
    obtain ⟨q, hq⟩ : ∃ q, q = V0.heap.size := ⟨_, rfl⟩
    have HCK := Lib.hid (show CkS W m sa sc q #[.int .i64 40, .func (.func 66) #[] #[], .func (.func 67) #[] #[], .func (.func 68) #[] #[]] W2 from CkS.start HB1.out HBX.out HAD.out hb hW2 hq)
    have HW2 := Lib.hid hW2
    have HQ := Lib.hid hq
    clear hb hW2 hq HOF
    go_wp2_with fail
    rw [← HQ.out, ← HW2.out]
    obtain ⟨U, hU⟩ : ∃ U, U = W2.drew := ⟨_, rfl⟩
    have HU := Lib.hid (show CkS W m sa sc q #[.int .i64 40, .func (.func 66) #[] #[], .func (.func 67) #[] #[], .func (.func 68) #[] #[]] U by rw [hU]; exact HCK.out.later (drew_below _))
    refine wp_region_ord [(0, true), (1, true), (2, true), (3, true), (5, true), (6, true), (4, false), (7, true), (8, true), (9, true), (10, true), (11, true), (12, true), (13, true), (14, false), (15, true), (16, true)] (CkS W m sa sc q #[.int .i64 40, .func (.func 66) #[] #[], .func (.func 67) #[] #[], .func (.func 68) #[] #[]]) (by kernel_rfl) (by kernel_rfl) (by decide) (by kernel_rfl) (fun d _ _ _ _ h => by cases d <;> first | exact h | exact h.later (drew_below _)) (by rw [← hU]; exact HU.out) ?_
    rw [← hU]
    clear hU
    iterate 3 ((apply wpOrd_take rfl rfl (by kernel_rfl); (intro V hV; go_simp; rfl)); (try simp only [List.setIfInBounds_toArray, List.set_cons_succ, List.set_cons_zero]))
    ((apply wpOrd_take rfl rfl (by kernel_rfl); (intro V hV; exact run_load_cs _ _ 38 (.tmp 1) rfl ⟨W.heap.size, 0, none⟩ rfl (m.cs sa sc).toList _ (block_cells hV.box) Tryz.underlying38 rfl HSZ.out)); (try simp only [List.setIfInBounds_toArray, List.set_cons_succ, List.set_cons_zero])); rw [Array.toArray_toList]
    iterate 2 ((apply wpOrd_take rfl rfl (by kernel_rfl); (intro V hV; have r0 := hV.r 0 _ rfl; go_simp; rfl)); (try simp only [List.setIfInBounds_toArray, List.set_cons_succ, List.set_cons_zero]))
    apply wpOrd_do rfl (by kernel_rfl)
    intro K hK
    go_simp
    refine (HTH.out U).mono ?_
    rintro e V3 ⟨rfl, hb⟩
    have H3 := Lib.hid (HU.out.later hb)
    refine hK _ _ H3.out ?_
    clear hK K hb
    iterate 4 ((apply wpOrd_take rfl rfl (by kernel_rfl); (intro V hV; go_simp; rfl)); (try simp only [List.setIfInBounds_toArray, List.set_cons_succ, List.set_cons_zero]))
    iterate 2 ((apply wpOrd_take rfl rfl (by kernel_rfl); (intro V hV; have r1 := hV.r 1 _ rfl; go_simp; rfl)); (try simp only [List.setIfInBounds_toArray, List.set_cons_succ, List.set_cons_zero]))
    ((apply wpOrd_take rfl rfl (by kernel_rfl); (intro V hV; exact run_load_cs _ _ 38 (.tmp 1) rfl ⟨W.heap.size, 0, none⟩ rfl (m.cs sa sc).toList _ (block_cells hV.box) Tryz.underlying38 rfl HSZ.out)); (try simp only [List.setIfInBounds_toArray, List.set_cons_succ, List.set_cons_zero])); rw [Array.toArray_toList]
    apply wpOrd_do rfl (by kernel_rfl)
    intro K hK
    go_simp
    refine (HMAY.out _ _ V3 H3.out).mono ?_
    rintro e V4 ⟨rfl, hb⟩
    have H4 := Lib.hid (H3.out.later hb)
    refine hK _ _ H4.out ?_
    clear hK K hb
    iterate 2 ((apply wpOrd_take rfl rfl (by kernel_rfl); (intro V hV; go_simp; rfl)); (try simp only [List.setIfInBounds_toArray, List.set_cons_succ, List.set_cons_zero]))
    refine wpOrd_nil ?_
    obtain ⟨my, hmy⟩ : ∃ b, b = m.may := ⟨_, rfl⟩
    rw [← hmy]
    have HMY := Lib.hid hmy
    clear hmy
    cases my
    · have HE2 := Lib.hid (show m.err = 2 by rw [HE.out, ← HMY.out]; rfl)
      go_wp2_with fail
      go_returns
      exact ⟨by rw [HE2.out]; rfl, H4.out.bel⟩
    · have HE2 := Lib.hid (show m.err = 0 by rw [HE.out, ← HMY.out]; rfl)
      go_wp2_with fail
      go_returns
      exact ⟨by rw [HE2.out]; rfl, H4.out.bel⟩
set_option maxHeartbeats 3200000 in
theorem mcheck0 (m : Ms) (sa : Option Addr) (sc : Nat) (W : World) (hA : AdjsIn W sa m.rc.adjs) (hk : m.isk = false) : Calls Tryz.prog 12 #[m.ag sa sc] W fun e W' => e = .returned (.int .i64 m.err) ∧ Below W.heap.size W W' := by
  obtain ⟨W1, hW1⟩ : ∃ W1, W1 = W.alloc (.cells (m.cs sa sc) 38) := ⟨_, rfl⟩
  have hb1 : Below W.heap.size W W1 := by rw [hW1]; exact (Below.refl _ _).alloc (Nat.le_refl _) _
  have hbx : BoxM W.heap.size m sa sc W1 := by rw [hW1]; exact heap_alloc_new _ _
  have x0 : W1.cell? ⟨W.heap.size, 0, none⟩ = some (.int .i64 m.kd) := hbx.cell rfl
  have hrc : rowC m.kd = [.int .i64 0, .nilFunc, .nilFunc, .nilFunc] := by
    unfold Ms.isk at hk
    rw [Bool.and_eq_false_iff, decide_eq_false_iff_not, decide_eq_false_iff_not] at hk
    unfold rowC
    rw [if_neg (by omega), if_neg (by omega), if_neg (by omega), if_neg (by omega), if_neg (by omega)]
  have HOF := Lib.hid ((of_any m.kd W1).mono fun e V h => show e = .returned (.tuple #[.agg #[.int .i64 0, .nilFunc, .nilFunc, .nilFunc], .bool false]) ∧ Below W1.heap.size W1 V from by
    obtain ⟨h1, h2⟩ := h
    rw [hrc] at h1
    have : (decide (1 ≤ m.kd) && decide (m.kd ≤ 5)) = false := hk
    rw [this] at h1
    exact ⟨h1, h2⟩)
  have HE := Lib.hid (show m.err = 2 from by unfold Ms.err Ms.chk; rw [hk]; rfl)
  have HBX := Lib.hid hbx
  have HAD := Lib.hid (hA.later hb1)
  have HW1 := Lib.hid hW1
  have HB1 := Lib.hid hb1
  clear hW1 hb1 hbx hA hk hrc
  go_enter Tryz.func12, Tryz.ntmps12
  unfold Ms.ag at *
  go_upto_region 1 with fail
  rw [← HW1.out]
  go_wp2_with fail
  refine HOF.out.mono ?_
  rintro e V0 ⟨rfl, hb⟩
  obtain ⟨W2, hW2⟩ : ∃ W2, W2 = V0.alloc (.cells #[.int .i64 0, .nilFunc, .nilFunc, .nilFunc] 54) := ⟨_, rfl⟩
  obtain ⟨q, hq⟩ : ∃ q, q = V0.heap.size := ⟨_, rfl⟩
  have HCK := Lib.hid (show CkS W m sa sc q #[.int .i64 0, .nilFunc, .nilFunc, .nilFunc] W2 from CkS.start HB1.out HBX.out HAD.out hb hW2 hq)
  have HW2 := Lib.hid hW2
  have HQ := Lib.hid hq
  clear hb hW2 hq HOF
  go_wp2_with fail
  rw [← HQ.out, ← HW2.out]
  obtain ⟨U, hU⟩ : ∃ U, U = W2.drew := ⟨_, rfl⟩
  have H3 := Lib.hid (show CkS W m sa sc q #[.int .i64 0, .nilFunc, .nilFunc, .nilFunc] U by rw [hU]; exact HCK.out.later (drew_below _))
  refine wp_region_ord [(0, true), (1, true), (2, true), (3, true), (5, true), (6, true), (4, false), (7, true), (8, true), (9, true), (10, true), (11, true), (12, true), (13, true), (14, false), (15, true), (16, true)] (CkS W m sa sc q #[.int .i64 0, .nilFunc, .nilFunc, .nilFunc]) (by kernel_rfl) (by kernel_rfl) (by decide) (by kernel_rfl) (fun d _ _ _ _ h => by cases d <;> first | exact h | exact h.later (drew_below _)) (by rw [← hU]; exact H3.out) ?_
  rw [← hU]
  clear hU
  iterate 3 ((apply wpOrd_take rfl rfl (by kernel_rfl); (intro V hV; go_simp; rfl)); (try simp only [List.setIfInBounds_toArray, List.set_cons_succ, List.set_cons_zero]))
  iterate 3 ((apply wpOrd_skip rfl rfl (by kernel_rfl)); (try simp only [List.setIfInBounds_toArray, List.set_cons_succ, List.set_cons_zero]))
  (apply wpOrd_undone2 rfl rfl (by kernel_rfl) H3.out); (try simp only [List.setIfInBounds_toArray, List.set_cons_succ, List.set_cons_zero])
  iterate 2 ((apply wpOrd_skip rfl rfl (by kernel_rfl)); (try simp only [List.setIfInBounds_toArray, List.set_cons_succ, List.set_cons_zero]))
  iterate 2 ((apply wpOrd_take rfl rfl (by kernel_rfl); (intro V hV; go_simp; rfl)); (try simp only [List.setIfInBounds_toArray, List.set_cons_succ, List.set_cons_zero]))
  iterate 3 ((apply wpOrd_skip rfl rfl (by kernel_rfl)); (try simp only [List.setIfInBounds_toArray, List.set_cons_succ, List.set_cons_zero]))
  (apply wpOrd_undone2 rfl rfl (by kernel_rfl) H3.out); (try simp only [List.setIfInBounds_toArray, List.set_cons_succ, List.set_cons_zero])
  iterate 1 ((apply wpOrd_skip rfl rfl (by kernel_rfl)); (try simp only [List.setIfInBounds_toArray, List.set_cons_succ, List.set_cons_zero]))
  iterate 1 ((apply wpOrd_take rfl rfl (by kernel_rfl); (intro V hV; go_simp; rfl)); (try simp only [List.setIfInBounds_toArray, List.set_cons_succ, List.set_cons_zero]))
  refine wpOrd_nil ?_
  go_wp2_with fail
  go_returns
  exact ⟨by rw [HE.out]; rfl, H3.out.bel⟩

theorem mcheck_any (m : Ms) (sa : Option Addr) (sc : Nat) (W : World) (hm : m.ok) (hA : AdjsIn W sa m.rc.adjs) (hl : m.rc.adjs.length ≤ maxLen) : Calls Tryz.prog 12 #[m.ag sa sc] W fun e W' => e = .returned (.int .i64 m.err) ∧ Below W.heap.size W W' := by
  cases h : m.isk with
  | false => exact mcheck0 m sa sc W hA h
  | true =>
    unfold Ms.isk at h
    rw [Bool.and_eq_true, decide_eq_true_eq, decide_eq_true_eq] at h
    rcases (show m.kd = 1 ∨ m.kd = 2 ∨ m.kd = 3 ∨ m.kd = 4 ∨ m.kd = 5 by omega) with h | h | h | h | h
    · exact mcheck1 m sa sc W hm hA hl h
    · exact mcheck2 m sa sc W hm hA hl h
    · exact mcheck3 m sa sc W hm hA hl h
    · exact mcheck4 m sa sc W hm hA hl h
    · exact mcheck5 m sa sc W hm hA hl h

end Go.Proofs.YtickjmkkgcfkhaaGreat
