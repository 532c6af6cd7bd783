/- Contract of the reference's Encode of a message. (Printed by mkmrc.py.) -/
import Derived.Test.YtickjmkkgcfkhaaMsRB
import Derived.Test.YtickjmkkgcfkhaaMsH
import Derived.Test.YtickjmkkgcfkhaaRegion5
import Derived.Deep.CutBlock
set_option linter.unusedSimpArgs false
set_option linter.unusedVariables false
set_option maxRecDepth 100000
namespace Go.Proofs.Ytickjmkkgcfkhaa
open Go.RowKit Go.ChangeShapes Go.WideShapes

theorem rmencode_no (m : Ms) (sa : Option Addr) (sc : Nat) (W : World) (hm : m.ok) (hA : AdjsIn W sa m.rc.adjs) (hl : m.rc.adjs.length ≤ maxLen) (hc : m.chk = false) : Calls Try.prog 10 #[m.ag sa sc] W fun e W' => e = .returned (.tuple #[.string m.encS, .int .i64 m.err]) ∧ Below W.heap.size W W' := by
  obtain ⟨W1, hW1⟩ : ∃ W1, W1 = W.alloc (.cells (m.cs sa sc) 38) := ⟨_, rfl⟩
  have hb1 : Below W.heap.size W W1 := by rw [hW1]; exact (Below.refl _ _).alloc (Nat.le_refl _) _
  have hbx : BoxM W.heap.size m sa sc W1 := by rw [hW1]; exact heap_alloc_new _ _
  have HES := Lib.hid (show m.encS = bs [] ∧ m.err = 2 from by unfold Ms.encS Ms.err; rw [hc]; exact ⟨rfl, rfl⟩)
  have HCH := Lib.hid ((rmcheck_any m sa sc W1 hm (hA.later hb1) hl).mono fun e V h => show e = .returned (.int .i64 2) ∧ Below W1.heap.size W1 V from by rw [HES.out.2] at h; exact h)
  have HSZ := Lib.hid (info_msg m sa sc)
  have HCC := Lib.hid (block_cells hbx)
  have HW1 := Lib.hid hW1
  have HB1 := Lib.hid hb1
  clear hW1 hb1 hbx hA hm hc
  rw [show m.encS = bs [] from HES.out.1, show m.err = 2 from HES.out.2]
  go_enter Try.func10, Try.ntmps10
  unfold Ms.ag at *
  go_upto_region 1 with fail
  rw [← HW1.out]
  go_wp2_with ((with_reducible refine wpList_load_cs rfl 38 (.tmp 1) rfl ⟨W.heap.size, 0, none⟩ rfl (m.cs sa sc).toList _ HCC.out Try.underlying38 rfl HSZ.out ?_); rw [Array.toArray_toList])
  refine HCH.out.mono ?_
  rintro e V1 ⟨rfl, hb⟩
  have HBB := Lib.hid (HB1.out.trans (hb.mono HB1.out.size))
  clear hb
  go_wp2_with fail
  go_ret2
  exact ⟨rfl, HBB.out⟩
/-- Bytes in a block of the call's own. -/
def BRow (V : World) (p : Nat × List UInt8) : Prop := Row V 0 5 1 (.slice (some ⟨p.1, 0, none⟩) p.2.length p.2.length) p.2.length (p.2.map byteV)
structure EkS (W : World) (m : Ms) (sa : Option Addr) (sc q : Nat) (cs : Array Value) (t : TypeId) (rows : List (Nat × List UInt8)) (V : World) : Prop where
  rk : RkS W m sa sc V
  blk : V.heap[q]? = some (.cells cs t (0, 0))
  rows : ∀ p ∈ rows, BRow V p
section
variable {W V X : World} {m : Ms} {sa : Option Addr} {sc q : Nat} {cs : Array Value} {t : TypeId} {rows : List (Nat × List UInt8)}
theorem EkS.later (h : EkS W m sa sc q cs t rows V) (hb : Below V.heap.size V X) : EkS W m sa sc q cs t rows X :=
  ⟨h.rk.later hb, (hb.block q (Array.getElem?_eq_some_iff.1 h.blk).1).trans h.blk, fun p hp => Row.later (h.rows p hp) hb⟩
theorem EkS.drop {p : Nat × List UInt8} (h : EkS W m sa sc q cs t (p :: rows) V) : EkS W m sa sc q cs t rows V := ⟨h.rk, h.blk, fun r hr => h.rows r (List.mem_cons_of_mem _ hr)⟩
theorem EkS.c (h : EkS W m sa sc q cs t rows V) (i : Nat) (u : Value) (hu : cs[i]? = some u) : V.cell? ⟨q, i, none⟩ = some u := (cell_of_row _ _ i _ _ _ h.blk).trans hu
theorem EkS.make (h : EkS W m sa sc q cs t rows V) (g : Nat) (hg : g = V.heap.size) (l : List UInt8) (c : Array Value) (hc : c = (l.map byteV).toArray) (hl : l.length ≤ maxLen) (hX : X = V.alloc (.cells c 5)) : EkS W m sa sc q cs t ((g, l) :: rows) X := by
  have hb : Below V.heap.size V X := by rw [hX]; exact (Below.refl _ _).alloc (Nat.le_refl _) _
  have h' := h.later hb
  refine ⟨h'.rk, h'.blk, fun p hp => ?_⟩
  rcases List.mem_cons.1 hp with rfl | hp
  · unfold BRow
    rw [hX, hc, hg]
    exact (row_lit V 5 l hl).more (Nat.zero_le _)
  · exact h'.rows p hp
end
set_option maxHeartbeats 25600000 in
theorem rmencode1 (m : Ms) (sa : Option Addr) (sc : Nat) (W : World) (hm : m.ok) (hA : AdjsIn W sa m.rc.adjs) (hl : m.rc.adjs.length ≤ maxLen) (hk : m.kd = 1) (hc : m.chk = true) : Calls Try.prog 10 #[m.ag sa sc] W fun e W' => e = .returned (.tuple #[.string m.encS, .int .i64 m.err]) ∧ Below W.heap.size W W' := by
  obtain ⟨W1, hW1⟩ : ∃ W1, W1 = W.alloc (.cells (m.cs sa sc) 38) := ⟨_, rfl⟩
  have HS1 := Lib.hid (RkS.start hA hW1)
  have HES := Lib.hid (show m.encS = m.enc ∧ m.err = 0 from by unfold Ms.encS Ms.err; rw [hc]; exact ⟨rfl, rfl⟩)
  have hmay : m.may = true := by unfold Ms.chk at hc; rw [Bool.and_eq_true] at hc; exact hc.2
  have hlen := lay_len hc
  obtain ⟨b0, hb0⟩ : ∃ b, b = bs [toU8 1] := ⟨_, rfl⟩
  obtain ⟨lv, hlv⟩ : ∃ b, b = bs m.lay := ⟨_, rfl⟩
  have HENC := Lib.hid (show sealB (b0 ++ lv) = m.enc from by rw [hb0, hlv, bs_append]; unfold Ms.enc Ms.body; rw [hk]; rfl)
  have s0 : b0.size = 1 := by rw [hb0, bs_size]; rfl
  have s1 : lv.size ≤ 100 := by rw [hlv, bs_size]; exact hlen
  have hsz : ¬ 9223372036854775807 < b0.size + lv.size := by omega
  have hsz2 : (b0 ++ lv).size ≤ 140737488355000 := by rw [ByteArray.size_append]; omega
  have HSEAL := Lib.hid (fun V => (rseal_any (b0 ++ lv) V hsz2).mono fun e X h => show e = .returned (.string m.enc) ∧ Below V.heap.size V X from by rw [← HENC.out]; exact h)
  have HLV := Lib.hid hlv
  have HB0 := Lib.hid hb0
  have hw8 : IntKind.u8.wrap 1 = 1 := by decide
  have HCV := Lib.hid (fun w : World => show (convert 52 9 (.slice (some ⟨w.heap.size, 0, none⟩) 1 1)).run Try.prog (w.alloc (.cells #[.int .u8 1] 5)) = .ok (.string b0) (w.alloc (.cells #[.int .u8 1] 5)) from by
    rw [hb0]
    exact run_string_one w (toU8 1) 52 9 5 Try.underlying52 Try.underlying5 Try.underlying9 _ rfl)
  have HCH := Lib.hid ((rmcheck_any m sa sc W1 hm HS1.out.adj hl).mono fun e V h => show e = .returned (.int .i64 0) ∧ Below W1.heap.size W1 V from by rw [HES.out.2] at h; exact h)
  have HSZ := Lib.hid (info_msg m sa sc)
  have HW1 := Lib.hid hW1
  have HCC := Lib.hid (block_cells HS1.out.box)
  have HK := Lib.hid hk
  have HL := Lib.hid hl
  have HOK := Lib.hid hm
  have HMAY := Lib.hid hmay
  clear hW1 hA hm hk hc hmay hlen hb0 hlv s0 s1 hl
  rw [show m.encS = m.enc from HES.out.1, show m.err = 0 from HES.out.2]
  go_enter Try.func10, Try.ntmps10
  unfold Ms.ag at *
  go_upto_region 1 with fail
  rw [← HW1.out]
  go_wp2_with ((with_reducible refine wpList_load_cs rfl 38 (.tmp 1) rfl ⟨W.heap.size, 0, none⟩ rfl (m.cs sa sc).toList _ HCC.out Try.underlying38 rfl HSZ.out ?_); rw [Array.toArray_toList])
  refine HCH.out.mono ?_
  rintro e V ⟨rfl, hb⟩
  have HS2 := Lib.hid (HS1.out.later hb)
  have x0 : V.cell? ⟨W.heap.size, 0, none⟩ = some (.int .i64 m.kd) := HS2.out.box.cell rfl
  rw [HK.out] at x0
  clear hb HS1 HCH HCC
  have x1 : V.cell? ⟨W.heap.size, 1, none⟩ = some (.int .i64 m.rc.org) := HS2.out.box.cell rfl
  have x2 : V.cell? ⟨W.heap.size, 2, none⟩ = some (.int .u32 m.rc.ep) := HS2.out.box.cell rfl
  have x3 : V.cell? ⟨W.heap.size, 3, none⟩ = some (.int .u32 m.rc.sq) := HS2.out.box.cell rfl
  have x4 : V.cell? ⟨W.heap.size, 4, none⟩ = some (.int .i64 m.rc.clm) := HS2.out.box.cell rfl
  have x5 : V.cell? ⟨W.heap.size, 5, none⟩ = some (.bool m.rc.ing) := HS2.out.box.cell rfl
  have x6 : V.cell? ⟨W.heap.size, 6, none⟩ = some (.slice sa m.rc.adjs.length sc) := HS2.out.box.cell rfl
  have hlv : lv = bs m.rc.enc := by
    rw [HLV.out]
    unfold Ms.lay
    rw [HK.out]
    rfl
  have hy : m.rc.chk = true := by
    have h := HMAY.out
    unfold Ms.may at h
    rw [HK.out] at h
    exact h
  have HEN := Lib.hid (show Calls Try.prog 22 #[.agg #[.int .i64 m.rc.org, .int .u32 m.rc.ep, .int .u32 m.rc.sq, .int .i64 m.rc.clm, .bool m.rc.ing, .slice sa m.rc.adjs.length sc]] V (fun e X => e = .returned (.tuple #[.string lv, .int .i64 0]) ∧ Below V.heap.size V X) from (rencode_any m.rc sa sc V HS2.out.adj HL.out HOK.out.2.1).mono fun e X h => by
    rw [hlv]
    unfold Rc.encS Rc.err at h; rw [if_pos (show m.rc.chk = true from hy), if_pos (show m.rc.chk = true from hy)] at h
    exact h)
  clear hlv hy
  go_wp2_with fail
  refine HEN.out.mono ?_
  rintro e V2 ⟨rfl, hb⟩
  have HS3 := Lib.hid (HS2.out.later hb)
  clear hb HEN x0 x1 x2 x3 x4 x5 x6
  have hcv := HCV.out V2
  have x0 : V2.cell? ⟨W.heap.size, 0, none⟩ = some (.int .i64 m.kd) := HS3.out.box.cell rfl
  rw [HK.out] at x0
  go_wp2_with fail
  refine (HSEAL.out _).mono ?_
  rintro e Z ⟨rfl, hb⟩
  have HZ := Lib.hid ((HS3.out.later ((Below.refl V2.heap.size V2).alloc (Nat.le_refl _) (.cells #[.int .u8 1] 5))).later hb)
  clear hb
  go_wp2_with fail
  go_ret2
  exact ⟨rfl, HZ.out.bel⟩
set_option maxHeartbeats 25600000 in
theorem rmencode2 (m : Ms) (sa : Option Addr) (sc : Nat) (W : World) (hm : m.ok) (hA : AdjsIn W sa m.rc.adjs) (hl : m.rc.adjs.length ≤ maxLen) (hk : m.kd = 2) (hc : m.chk = true) : Calls Try.prog 10 #[m.ag sa sc] W fun e W' => e = .returned (.tuple #[.string m.encS, .int .i64 m.err]) ∧ Below W.heap.size W W' := by
  obtain ⟨W1, hW1⟩ : ∃ W1, W1 = W.alloc (.cells (m.cs sa sc) 38) := ⟨_, rfl⟩
  have HS1 := Lib.hid (RkS.start hA hW1)
  have HES := Lib.hid (show m.encS = m.enc ∧ m.err = 0 from by unfold Ms.encS Ms.err; rw [hc]; exact ⟨rfl, rfl⟩)
  have hmay : m.may = true := by unfold Ms.chk at hc; rw [Bool.and_eq_true] at hc; exact hc.2
  have hlen := lay_len hc
  obtain ⟨b0, hb0⟩ : ∃ b, b = bs [toU8 2] := ⟨_, rfl⟩
  obtain ⟨lv, hlv⟩ : ∃ b, b = bs m.lay := ⟨_, rfl⟩
  have HENC := Lib.hid (show sealB (b0 ++ lv) = m.enc from by rw [hb0, hlv, bs_append]; unfold Ms.enc Ms.body; rw [hk]; rfl)
  have s0 : b0.size = 1 := by rw [hb0, bs_size]; rfl
  have s1 : lv.size ≤ 100 := by rw [hlv, bs_size]; exact hlen
  have hsz : ¬ 9223372036854775807 < b0.size + lv.size := by omega
  have hsz2 : (b0 ++ lv).size ≤ 140737488355000 := by rw [ByteArray.size_append]; omega
  have HSEAL := Lib.hid (fun V => (rseal_any (b0 ++ lv) V hsz2).mono fun e X h => show e = .returned (.string m.enc) ∧ Below V.heap.size V X from by rw [← HENC.out]; exact h)
  have HLV := Lib.hid hlv
  have HB0 := Lib.hid hb0
  have hw8 : IntKind.u8.wrap 2 = 2 := by decide
  have HCV := Lib.hid (fun w : World => show (convert 52 9 (.slice (some ⟨w.heap.size, 0, none⟩) 1 1)).run Try.prog (w.alloc (.cells #[.int .u8 2] 5)) = .ok (.string b0) (w.alloc (.cells #[.int .u8 2] 5)) from by
    rw [hb0]
    exact run_string_one w (toU8 2) 52 9 5 Try.underlying52 Try.underlying5 Try.underlying9 _ rfl)
  have HCH := Lib.hid ((rmcheck_any m sa sc W1 hm HS1.out.adj hl).mono fun e V h => show e = .returned (.int .i64 0) ∧ Below W1.heap.size W1 V from by rw [HES.out.2] at h; exact h)
  have HSZ := Lib.hid (info_msg m sa sc)
  have HW1 := Lib.hid hW1
  have HCC := Lib.hid (block_cells HS1.out.box)
  have HK := Lib.hid hk
  have HL := Lib.hid hl
  have HOK := Lib.hid hm
  have HMAY := Lib.hid hmay
  clear hW1 hA hm hk hc hmay hlen hb0 hlv s0 s1 hl
  rw [show m.encS = m.enc from HES.out.1, show m.err = 0 from HES.out.2]
  go_enter Try.func10, Try.ntmps10
  unfold Ms.ag at *
  go_upto_region 1 with fail
  rw [← HW1.out]
  go_wp2_with ((with_reducible refine wpList_load_cs rfl 38 (.tmp 1) rfl ⟨W.heap.size, 0, none⟩ rfl (m.cs sa sc).toList _ HCC.out Try.underlying38 rfl HSZ.out ?_); rw [Array.toArray_toList])
  refine HCH.out.mono ?_
  rintro e V ⟨rfl, hb⟩
  have HS2 := Lib.hid (HS1.out.later hb)
  have x0 : V.cell? ⟨W.heap.size, 0, none⟩ = some (.int .i64 m.kd) := HS2.out.box.cell rfl
  rw [HK.out] at x0
  clear hb HS1 HCH HCC
  have x7 : V.cell? ⟨W.heap.size, 7, none⟩ = some (.int .i64 m.st.org) := HS2.out.box.cell rfl
  have x8 : V.cell? ⟨W.heap.size, 8, none⟩ = some (.int .u32 m.st.ep) := HS2.out.box.cell rfl
  have x9 : V.cell? ⟨W.heap.size, 9, none⟩ = some (.int .u32 m.st.sq) := HS2.out.box.cell rfl
  have hlv : lv = bs m.st.enc := by
    rw [HLV.out]
    unfold Ms.lay
    rw [HK.out]
    rfl
  have hy : m.st.may = true := by
    have h := HMAY.out
    unfold Ms.may at h
    rw [HK.out] at h
    exact h
  have HEN := Lib.hid (show Calls Try.prog 23 #[.agg #[.int .i64 m.st.org, .int .u32 m.st.ep, .int .u32 m.st.sq]] V (fun e X => e = .returned (.tuple #[.string lv, .int .i64 0]) ∧ Below V.heap.size V X) from (rencst_any m.st V HOK.out.2.2.1).mono fun e X h => by
    rw [hlv]
    unfold St.encS St.encE at h; rw [if_pos (show m.st.may = true from hy), if_pos (show m.st.may = true from hy)] at h
    exact h)
  clear hlv hy
  go_wp2_with fail
  refine HEN.out.mono ?_
  rintro e V2 ⟨rfl, hb⟩
  have HS3 := Lib.hid (HS2.out.later hb)
  clear hb HEN x0 x7 x8 x9
  have hcv := HCV.out V2
  have x0 : V2.cell? ⟨W.heap.size, 0, none⟩ = some (.int .i64 m.kd) := HS3.out.box.cell rfl
  rw [HK.out] at x0
  go_wp2_with fail
  refine (HSEAL.out _).mono ?_
  rintro e Z ⟨rfl, hb⟩
  have HZ := Lib.hid ((HS3.out.later ((Below.refl V2.heap.size V2).alloc (Nat.le_refl _) (.cells #[.int .u8 2] 5))).later hb)
  clear hb
  go_wp2_with fail
  go_ret2
  exact ⟨rfl, HZ.out.bel⟩
set_option maxHeartbeats 25600000 in
theorem rmencode3 (m : Ms) (sa : Option Addr) (sc : Nat) (W : World) (hm : m.ok) (hA : AdjsIn W sa m.rc.adjs) (hl : m.rc.adjs.length ≤ maxLen) (hk : m.kd = 3) (hc : m.chk = true) : Calls Try.prog 10 #[m.ag sa sc] W fun e W' => e = .returned (.tuple #[.string m.encS, .int .i64 m.err]) ∧ Below W.heap.size W W' := by
  obtain ⟨W1, hW1⟩ : ∃ W1, W1 = W.alloc (.cells (m.cs sa sc) 38) := ⟨_, rfl⟩
  have HS1 := Lib.hid (RkS.start hA hW1)
  have HES := Lib.hid (show m.encS = m.enc ∧ m.err = 0 from by unfold Ms.encS Ms.err; rw [hc]; exact ⟨rfl, rfl⟩)
  have hmay : m.may = true := by unfold Ms.chk at hc; rw [Bool.and_eq_true] at hc; exact hc.2
  have hlen := lay_len hc
  obtain ⟨b0, hb0⟩ : ∃ b, b = bs [toU8 3] := ⟨_, rfl⟩
  obtain ⟨lv, hlv⟩ : ∃ b, b = bs m.lay := ⟨_, rfl⟩
  have HENC := Lib.hid (show sealB (b0 ++ lv) = m.enc from by rw [hb0, hlv, bs_append]; unfold Ms.enc Ms.body; rw [hk]; rfl)
  have s0 : b0.size = 1 := by rw [hb0, bs_size]; rfl
  have s1 : lv.size ≤ 100 := by rw [hlv, bs_size]; exact hlen
  have hsz : ¬ 9223372036854775807 < b0.size + lv.size := by omega
  have hsz2 : (b0 ++ lv).size ≤ 140737488355000 := by rw [ByteArray.size_append]; omega
  have HSEAL := Lib.hid (fun V => (rseal_any (b0 ++ lv) V hsz2).mono fun e X h => show e = .returned (.string m.enc) ∧ Below V.heap.size V X from by rw [← HENC.out]; exact h)
  have HLV := Lib.hid hlv
  have HB0 := Lib.hid hb0
  have hw8 : IntKind.u8.wrap 3 = 3 := by decide
  have HCV := Lib.hid (fun w : World => show (convert 52 9 (.slice (some ⟨w.heap.size, 0, none⟩) 1 1)).run Try.prog (w.alloc (.cells #[.int .u8 3] 5)) = .ok (.string b0) (w.alloc (.cells #[.int .u8 3] 5)) from by
    rw [hb0]
    exact run_string_one w (toU8 3) 52 9 5 Try.underlying52 Try.underlying5 Try.underlying9 _ rfl)
  have HCH := Lib.hid ((rmcheck_any m sa sc W1 hm HS1.out.adj hl).mono fun e V h => show e = .returned (.int .i64 0) ∧ Below W1.heap.size W1 V from by rw [HES.out.2] at h; exact h)
  have HSZ := Lib.hid (info_msg m sa sc)
  have HW1 := Lib.hid hW1
  have HCC := Lib.hid (block_cells HS1.out.box)
  have HK := Lib.hid hk
  have HL := Lib.hid hl
  have HOK := Lib.hid hm
  have HMAY := Lib.hid hmay
  clear hW1 hA hm hk hc hmay hlen hb0 hlv s0 s1 hl
  rw [show m.encS = m.enc from HES.out.1, show m.err = 0 from HES.out.2]
  go_enter Try.func10, Try.ntmps10
  unfold Ms.ag at *
  go_upto_region 1 with fail
  rw [← HW1.out]
  go_wp2_with ((with_reducible refine wpList_load_cs rfl 38 (.tmp 1) rfl ⟨W.heap.size, 0, none⟩ rfl (m.cs sa sc).toList _ HCC.out Try.underlying38 rfl HSZ.out ?_); rw [Array.toArray_toList])
  refine HCH.out.mono ?_
  rintro e V ⟨rfl, hb⟩
  have HS2 := Lib.hid (HS1.out.later hb)
  have x0 : V.cell? ⟨W.heap.size, 0, none⟩ = some (.int .i64 m.kd) := HS2.out.box.cell rfl
  rw [HK.out] at x0
  clear hb HS1 HCH HCC
  have x10 : V.cell? ⟨W.heap.size, 10, none⟩ = some (.int .i64 m.hd.wid) := HS2.out.box.cell rfl
  have x11 : V.cell? ⟨W.heap.size, 11, none⟩ = some (.int .i64 m.hd.set) := HS2.out.box.cell rfl
  have x12 : V.cell? ⟨W.heap.size, 12, none⟩ = some (.int .u32 m.hd.ent) := HS2.out.box.cell rfl
  have x13 : V.cell? ⟨W.heap.size, 13, none⟩ = some (.int .i64 m.hd.hops) := HS2.out.box.cell rfl
  have x14 : V.cell? ⟨W.heap.size, 14, none⟩ = some (.int .i64 m.hd.src) := HS2.out.box.cell rfl
  have x15 : V.cell? ⟨W.heap.size, 15, none⟩ = some (.int .i64 m.hd.grp) := HS2.out.box.cell rfl
  have x16 : V.cell? ⟨W.heap.size, 16, none⟩ = some (.int .u32 m.hd.id) := HS2.out.box.cell rfl
  have x17 : V.cell? ⟨W.heap.size, 17, none⟩ = some (.int .u64 m.hd.bits.a) := HS2.out.box.cell rfl
  have x18 : V.cell? ⟨W.heap.size, 18, none⟩ = some (.int .u64 m.hd.bits.b) := HS2.out.box.cell rfl
  have x19 : V.cell? ⟨W.heap.size, 19, none⟩ = some (.int .u64 m.hd.bits.c) := HS2.out.box.cell rfl
  have x20 : V.cell? ⟨W.heap.size, 20, none⟩ = some (.int .u64 m.hd.bits.d) := HS2.out.box.cell rfl
  have hlv : lv = m.hd.enc := by
    rw [HLV.out]
    unfold Ms.lay
    rw [HK.out]
    exact bs_of _
  have hy : m.hd.chk = true := by
    have h := HMAY.out
    unfold Ms.may at h
    rw [HK.out] at h
    exact h
  have HEN := Lib.hid (show Calls Try.prog 24 #[.agg #[.int .i64 m.hd.wid, .int .i64 m.hd.set, .int .u32 m.hd.ent, .int .i64 m.hd.hops, .int .i64 m.hd.src, .int .i64 m.hd.grp, .int .u32 m.hd.id, .int .u64 m.hd.bits.a, .int .u64 m.hd.bits.b, .int .u64 m.hd.bits.c, .int .u64 m.hd.bits.d]] V (fun e X => e = .returned (.tuple #[.string lv, .int .i64 0]) ∧ Below V.heap.size V X) from (rhencode_any m.hd V HOK.out.2.2.2.1).mono fun e X h => by
    rw [hlv]
    unfold Hd.encS Hd.err at h; rw [if_pos (show m.hd.chk = true from hy), if_pos (show m.hd.chk = true from hy)] at h
    exact h)
  clear hlv hy
  go_wp2_with fail
  refine HEN.out.mono ?_
  rintro e V2 ⟨rfl, hb⟩
  have HS3 := Lib.hid (HS2.out.later hb)
  clear hb HEN x0 x10 x11 x12 x13 x14 x15 x16 x17 x18 x19 x20
  have hcv := HCV.out V2
  have x0 : V2.cell? ⟨W.heap.size, 0, none⟩ = some (.int .i64 m.kd) := HS3.out.box.cell rfl
  rw [HK.out] at x0
  go_wp2_with fail
  refine (HSEAL.out _).mono ?_
  rintro e Z ⟨rfl, hb⟩
  have HZ := Lib.hid ((HS3.out.later ((Below.refl V2.heap.size V2).alloc (Nat.le_refl _) (.cells #[.int .u8 3] 5))).later hb)
  clear hb
  go_wp2_with fail
  go_ret2
  exact ⟨rfl, HZ.out.bel⟩
set_option maxHeartbeats 25600000 in
theorem rmencode4 (m : Ms) (sa : Option Addr) (sc : Nat) (W : World) (hm : m.ok) (hA : AdjsIn W sa m.rc.adjs) (hl : m.rc.adjs.length ≤ maxLen) (hk : m.kd = 4) (hc : m.chk = true) : Calls Try.prog 10 #[m.ag sa sc] W fun e W' => e = .returned (.tuple #[.string m.encS, .int .i64 m.err]) ∧ Below W.heap.size W W' := by
  obtain ⟨W1, hW1⟩ : ∃ W1, W1 = W.alloc (.cells (m.cs sa sc) 38) := ⟨_, rfl⟩
  have HS1 := Lib.hid (RkS.start hA hW1)
  have HES := Lib.hid (show m.encS = m.enc ∧ m.err = 0 from by unfold Ms.encS Ms.err; rw [hc]; exact ⟨rfl, rfl⟩)
  have hmay : m.may = true := by unfold Ms.chk at hc; rw [Bool.and_eq_true] at hc; exact hc.2
  have hlen := lay_len hc
  obtain ⟨b0, hb0⟩ : ∃ b, b = bs [toU8 4] := ⟨_, rfl⟩
  obtain ⟨lv, hlv⟩ : ∃ b, b = bs m.lay := ⟨_, rfl⟩
  have HENC := Lib.hid (show sealB (b0 ++ lv) = m.enc from by rw [hb0, hlv, bs_append]; unfold Ms.enc Ms.body; rw [hk]; rfl)
  have s0 : b0.size = 1 := by rw [hb0, bs_size]; rfl
  have s1 : lv.size ≤ 100 := by rw [hlv, bs_size]; exact hlen
  have hsz : ¬ 9223372036854775807 < b0.size + lv.size := by omega
  have hsz2 : (b0 ++ lv).size ≤ 140737488355000 := by rw [ByteArray.size_append]; omega
  have HSEAL := Lib.hid (fun V => (rseal_any (b0 ++ lv) V hsz2).mono fun e X h => show e = .returned (.string m.enc) ∧ Below V.heap.size V X from by rw [← HENC.out]; exact h)
  have HLV := Lib.hid hlv
  have HB0 := Lib.hid hb0
  have hw8 : IntKind.u8.wrap 4 = 4 := by decide
  have HCV := Lib.hid (fun w : World => show (convert 52 9 (.slice (some ⟨w.heap.size, 0, none⟩) 1 1)).run Try.prog (w.alloc (.cells #[.int .u8 4] 5)) = .ok (.string b0) (w.alloc (.cells #[.int .u8 4] 5)) from by
    rw [hb0]
    exact run_string_one w (toU8 4) 52 9 5 Try.underlying52 Try.underlying5 Try.underlying9 _ rfl)
  have HCH := Lib.hid ((rmcheck_any m sa sc W1 hm HS1.out.adj hl).mono fun e V h => show e = .returned (.int .i64 0) ∧ Below W1.heap.size W1 V from by rw [HES.out.2] at h; exact h)
  have HSZ := Lib.hid (info_msg m sa sc)
  have HW1 := Lib.hid hW1
  have HCC := Lib.hid (block_cells HS1.out.box)
  have HK := Lib.hid hk
  have HL := Lib.hid hl
  have HOK := Lib.hid hm
  have HMAY := Lib.hid hmay
  clear hW1 hA hm hk hc hmay hlen hb0 hlv s0 s1 hl
  rw [show m.encS = m.enc from HES.out.1, show m.err = 0 from HES.out.2]
  go_enter Try.func10, Try.ntmps10
  unfold Ms.ag at *
  go_upto_region 1 with fail
  rw [← HW1.out]
  go_wp2_with ((with_reducible refine wpList_load_cs rfl 38 (.tmp 1) rfl ⟨W.heap.size, 0, none⟩ rfl (m.cs sa sc).toList _ HCC.out Try.underlying38 rfl HSZ.out ?_); rw [Array.toArray_toList])
  refine HCH.out.mono ?_
  rintro e V ⟨rfl, hb⟩
  have HS2 := Lib.hid (HS1.out.later hb)
  have x0 : V.cell? ⟨W.heap.size, 0, none⟩ = some (.int .i64 m.kd) := HS2.out.box.cell rfl
  rw [HK.out] at x0
  clear hb HS1 HCH HCC
  have x21 : V.cell? ⟨W.heap.size, 21, none⟩ = some (.int .i64 m.dst) := HS2.out.box.cell rfl
  have x22 : V.cell? ⟨W.heap.size, 22, none⟩ = some (.int .i64 m.hops) := HS2.out.box.cell rfl
  have x23 : V.cell? ⟨W.heap.size, 23, none⟩ = some (.int .i64 m.wi.frm) := HS2.out.box.cell rfl
  have x24 : V.cell? ⟨W.heap.size, 24, none⟩ = some (.int .u32 m.wi.ep) := HS2.out.box.cell rfl
  have x25 : V.cell? ⟨W.heap.size, 25, none⟩ = some (.int .u32 m.wi.ver) := HS2.out.box.cell rfl
  have x26 : V.cell? ⟨W.heap.size, 26, none⟩ = some (.int .u8 m.wi.grp) := HS2.out.box.cell rfl
  have hy : m.way = true ∧ m.wi.may = true := by
    have h := HMAY.out
    unfold Ms.may at h
    rw [HK.out] at h
    exact (Bool.and_eq_true _ _) ▸ h
  obtain ⟨hy1, hy2⟩ := hy
  unfold Ms.way rtr at hy1
  unfold Wi.may rtr at hy2
  simp only [Bool.and_eq_true, decide_eq_true_eq] at hy1 hy2
  have hgl := HOK.out.2.2.2.2.2.2
  unfold Wi.ok at hgl
  have HC0 := Lib.hid (show (#[.int .u8 m.dst, .int .u8 m.hops, .int .u8 m.wi.frm] : Array Value) = (([toU8 m.dst.toNat, toU8 m.hops.toNat, toU8 m.wi.frm.toNat] : List UInt8).map byteV).toArray by
    simp only [List.map_cons, List.map_nil, byteV_small (show m.dst.toNat < 256 by omega), byteV_small (show m.hops.toNat < 256 by omega), byteV_small (show m.wi.frm.toNat < 256 by omega)]
    rw [show ((m.dst.toNat : Nat) : Int) = m.dst by omega, show ((m.hops.toNat : Nat) : Int) = m.hops by omega, show ((m.wi.frm.toNat : Nat) : Int) = m.wi.frm by omega])
  have HC3 := Lib.hid (show (#[.int .u8 m.wi.grp] : Array Value) = (([toU8 m.wi.grp] : List UInt8).map byteV).toArray by
    simp only [List.map_cons, List.map_nil, byteV_small (show m.wi.grp < 256 by omega)])
  obtain ⟨B1, hB1⟩ : ∃ B, B = bs ([toU8 m.dst.toNat, toU8 m.hops.toNat, toU8 m.wi.frm.toNat] : List UInt8) := ⟨_, rfl⟩
  obtain ⟨B2, hB2⟩ : ∃ B, B = bs (nb m.wi.ep 4 : List UInt8) := ⟨_, rfl⟩
  obtain ⟨B3, hB3⟩ : ∃ B, B = bs (nb m.wi.ver 4 : List UInt8) := ⟨_, rfl⟩
  obtain ⟨B4, hB4⟩ : ∃ B, B = bs ([toU8 m.wi.grp] : List UInt8) := ⟨_, rfl⟩
  have HLVB := Lib.hid (show lv = B1 ++ B2 ++ B3 ++ B4 from by
    rw [HLV.out, hB1, hB2, hB3, hB4]
    simp only [bs_append]
    unfold Ms.lay
    rw [HK.out]
    simp only [List.append_assoc, List.cons_append, List.nil_append]
    show bs (nb m.dst.toNat 1 ++ nb m.hops.toNat 1 ++ nb m.wi.frm.toNat 1 ++ nb m.wi.ep 4 ++ nb m.wi.ver 4 ++ nb m.wi.grp 1) = _
    simp only [nb_one, List.append_assoc, List.cons_append, List.nil_append])
  have s1 : B1.size = 3 := by rw [hB1, bs_size]; rfl
  have s2 : B2.size = 4 := by rw [hB2, bs_size, nb_len]
  have s3 : B3.size = 4 := by rw [hB3, bs_size, nb_len]
  have s4 : B4.size = 1 := by rw [hB4, bs_size]; rfl
  have hz1 : ¬ 9223372036854775807 < (B1).size + B2.size := by (try simp only [ByteArray.size_append]); omega
  have hz2 : ¬ 9223372036854775807 < (B1 ++ B2).size + B3.size := by (try simp only [ByteArray.size_append]); omega
  have hz2' : ¬ 9223372036854775807 < B1.size + B2.size + B3.size := by omega
  have hz3 : ¬ 9223372036854775807 < (B1 ++ B2 ++ B3).size + B4.size := by (try simp only [ByteArray.size_append]); omega
  have hz3' : ¬ 9223372036854775807 < B1.size + B2.size + B3.size + B4.size := by omega
  have HF1 := Lib.hid (show ∀ V, Calls Try.prog 25 #[.int .u32 m.wi.ep] V fun e X => e = .returned (.string B2) ∧ Below V.heap.size V X from fun V => by rw [hB2]; exact four19_any m.wi.ep V HOK.out.2.2.2.2.2.2.1.2.1)
  have HF2 := Lib.hid (show ∀ V, Calls Try.prog 25 #[.int .u32 m.wi.ver] V fun e X => e = .returned (.string B3) ∧ Below V.heap.size V X from fun V => by rw [hB3]; exact four19_any m.wi.ver V HOK.out.2.2.2.2.2.2.1.2.2.1)
  have HB1 := Lib.hid hB1
  have HB4 := Lib.hid hB4
  have w1 : IntKind.u8.wrap m.dst = m.dst := IntWalk.u8_in _ (by omega)
  have w2 : IntKind.u8.wrap m.hops = m.hops := IntWalk.u8_in _ (by omega)
  have w3 : IntKind.u8.wrap m.wi.frm = m.wi.frm := IntWalk.u8_in _ (by omega)
  clear hy1 hy2 hgl hB1 hB2 hB3 hB4 s1 s2 s3 s4
  obtain ⟨q, hq⟩ : ∃ q, q = V.heap.size := ⟨_, rfl⟩
  obtain ⟨Y, hY⟩ : ∃ Y, Y = V.alloc (.cells #[.int .i64 m.wi.frm, .int .u32 m.wi.ep, .int .u32 m.wi.ver, .int .u8 m.wi.grp] 34) := ⟨_, rfl⟩
  have HY := Lib.hid (show EkS W m sa sc q m.wi.cs 34 [] Y from by
    have hb : Below V.heap.size V Y := by rw [hY]; exact (Below.refl _ _).alloc (Nat.le_refl _) _
    exact ⟨HS2.out.later hb, by rw [hY, hq]; exact heap_alloc_new _ _, fun p hp => by cases hp⟩)
  have HYE := Lib.hid hY
  have HQE := Lib.hid hq
  clear hY hq
  go_upto_block 0 with fail
  go_cut [5] (fun s5 wx => s5 = .string lv ∧ RkS W m sa sc wx)
  case first =>
    go_upto_region 16 with fail
    rw [← HYE.out, ← HQE.out]
    clear x0 x21 x22 x23 x24 x25 x26
    obtain ⟨U0, hU⟩ : ∃ U, U = Y.drew := ⟨_, rfl⟩
    have HSU0 := Lib.hid (show EkS W m sa sc q m.wi.cs 34 [] U0 by rw [hU]; exact HY.out.later (drew_below _))
    have HUE := Lib.hid hU
    clear hU
    refine wp_region_grow (.look 0 (.look 1 (.look 2 (.look 3 (.look 4 (.look 5 (.look 6 (.look 7 (.look 8 (.look 11 (.look 12 (.look 15 (.look 16 (.look 19 (.look 20 (.three 9 (.look 10 (.two 13 (.look 14 (.two 17 (.look 18 (.one 21 (.look 22 (.look 23 (.look 24 .nil))))) 21 (.look 22 (.one 17 (.look 18 (.look 23 (.look 24 .nil))))))) 21 (.look 22 (.one 13 (.look 14 (.one 17 (.look 18 (.look 23 (.look 24 .nil))))))))) 13 (.three 9 (.look 10 (.look 14 (.two 17 (.look 18 (.one 21 (.look 22 (.look 23 (.look 24 .nil))))) 21 (.look 22 (.one 17 (.look 18 (.look 23 (.look 24 .nil)))))))) 17 (.two 9 (.look 10 (.look 14 (.look 18 (.one 21 (.look 22 (.look 23 (.look 24 .nil))))))) 21 (.look 22 (.one 9 (.look 10 (.look 14 (.look 18 (.look 23 (.look 24 .nil)))))))) 21 (.look 22 (.two 9 (.look 10 (.look 14 (.one 17 (.look 18 (.look 23 (.look 24 .nil)))))) 17 (.one 9 (.look 10 (.look 14 (.look 18 (.look 23 (.look 24 .nil))))))))) 21 (.look 22 (.two 9 (.look 10 (.one 13 (.look 14 (.one 17 (.look 18 (.look 23 (.look 24 .nil))))))) 13 (.two 9 (.look 10 (.look 14 (.one 17 (.look 18 (.look 23 (.look 24 .nil)))))) 17 (.one 9 (.look 10 (.look 14 (.look 18 (.look 23 (.look 24 .nil))))))))))))))))))))))))) (EkS W m sa sc q m.wi.cs 34 []) (by kernel_rfl) (by kernel_rfl) (by decide) (by kernel_rfl) (fun d _ _ _ _ h => by cases d <;> exact h) (by rw [← HUE.out]; exact HSU0.out) ?_
    rw [← HUE.out]
    (apply wpOS_take rfl rfl (by kernel_rfl); (intro V hV; go_simp; rfl)); (try simp only [List.setIfInBounds_toArray, List.set_cons_succ, List.set_cons_zero])
    (apply wpOS_take rfl rfl (by kernel_rfl); (intro V hV; have xx : V.cell? ⟨W.heap.size, 21, none⟩ = some (.int .i64 m.dst) := hV.rk.box.cell rfl; go_simp; rfl)); (try simp only [List.setIfInBounds_toArray, List.set_cons_succ, List.set_cons_zero])
    (apply wpOS_take rfl rfl (by kernel_rfl); (intro V hV; go_simp; rfl)); (try simp only [List.setIfInBounds_toArray, List.set_cons_succ, List.set_cons_zero])
    (apply wpOS_take rfl rfl (by kernel_rfl); (intro V hV; go_simp; rfl)); (try simp only [List.setIfInBounds_toArray, List.set_cons_succ, List.set_cons_zero])
    (apply wpOS_take rfl rfl (by kernel_rfl); (intro V hV; have xx : V.cell? ⟨W.heap.size, 22, none⟩ = some (.int .i64 m.hops) := hV.rk.box.cell rfl; go_simp; rfl)); (try simp only [List.setIfInBounds_toArray, List.set_cons_succ, List.set_cons_zero])
    (apply wpOS_take rfl rfl (by kernel_rfl); (intro V hV; go_simp; rfl)); (try simp only [List.setIfInBounds_toArray, List.set_cons_succ, List.set_cons_zero])
    (apply wpOS_take rfl rfl (by kernel_rfl); (intro V hV; go_simp; rfl)); (try simp only [List.setIfInBounds_toArray, List.set_cons_succ, List.set_cons_zero])
    (apply wpOS_take rfl rfl (by kernel_rfl); (intro V hV; have xx := hV.c 0 (.int .i64 m.wi.frm) rfl; go_simp; rfl)); (try simp only [List.setIfInBounds_toArray, List.set_cons_succ, List.set_cons_zero])
    (apply wpOS_take rfl rfl (by kernel_rfl); (intro V hV; go_simp; rfl)); (try simp only [List.setIfInBounds_toArray, List.set_cons_succ, List.set_cons_zero])
    (apply wpOS_take rfl rfl (by kernel_rfl); (intro V hV; go_simp; rfl)); (try simp only [List.setIfInBounds_toArray, List.set_cons_succ, List.set_cons_zero])
    (apply wpOS_take rfl rfl (by kernel_rfl); (intro V hV; have xx := hV.c 1 (.int .u32 m.wi.ep) rfl; go_simp; rfl)); (try simp only [List.setIfInBounds_toArray, List.set_cons_succ, List.set_cons_zero])
    (apply wpOS_take rfl rfl (by kernel_rfl); (intro V hV; go_simp; rfl)); (try simp only [List.setIfInBounds_toArray, List.set_cons_succ, List.set_cons_zero])
    (apply wpOS_take rfl rfl (by kernel_rfl); (intro V hV; have xx := hV.c 2 (.int .u32 m.wi.ver) rfl; go_simp; rfl)); (try simp only [List.setIfInBounds_toArray, List.set_cons_succ, List.set_cons_zero])
    (apply wpOS_take rfl rfl (by kernel_rfl); (intro V hV; go_simp; rfl)); (try simp only [List.setIfInBounds_toArray, List.set_cons_succ, List.set_cons_zero])
    (apply wpOS_take rfl rfl (by kernel_rfl); (intro V hV; have xx := hV.c 3 (.int .u8 m.wi.grp) rfl; go_simp; rfl)); (try simp only [List.setIfInBounds_toArray, List.set_cons_succ, List.set_cons_zero])
    apply wpOS_three
    · skip
      obtain ⟨g1, hg1⟩ : ∃ g, g = U0.heap.size := ⟨_, rfl⟩
      apply wpOS_do rfl (by kernel_rfl) (EkS W m sa sc q m.wi.cs 34 [(g1, [toU8 m.dst.toNat, toU8 m.hops.toNat, toU8 m.wi.frm.toNat])]) (fun _ h => h.drop)
      intro K hK
      go_simp
      obtain ⟨U1, hU1⟩ : ∃ U, U = U0.alloc (.cells #[.int .u8 m.dst, .int .u8 m.hops, .int .u8 m.wi.frm] 5) := ⟨_, rfl⟩
      have HSU1 := Lib.hid (HSU0.out.make g1 hg1 [toU8 m.dst.toNat, toU8 m.hops.toNat, toU8 m.wi.frm.toNat] #[.int .u8 m.dst, .int .u8 m.hops, .int .u8 m.wi.frm] HC0.out (by simp [maxLen]) hU1)
      rw [← hU1, ← hg1]
      refine hK _ _ HSU1.out ?_
      clear hK K hU1 hg1
      (apply wpOS_take rfl rfl (by kernel_rfl); (intro V hV; have hcv := run_string_row (P := Try.prog) 52 9 Try.underlying52 Try.underlying5 Try.underlying9 (hV.rows (g1, [toU8 m.dst.toNat, toU8 m.hops.toNat, toU8 m.wi.frm.toNat]) (List.mem_cons_self ..)); rw [← HB1.out] at hcv; simp only [List.length_cons, List.length_nil, Nat.zero_add, Nat.reduceAdd] at hcv; go_simp; rfl)); (try simp only [List.setIfInBounds_toArray, List.set_cons_succ, List.set_cons_zero])
      apply wpOS_two
      · skip
        apply wpOS_do rfl (by kernel_rfl) _ (fun _ h => h)
        intro K hK
        go_simp
        refine (HF1.out _).mono ?_
        rintro e U2 ⟨rfl, hb⟩
        have HSU2 := Lib.hid (HSU1.out.later hb)
        refine hK _ _ HSU2.out ?_
        clear hK K hb
        (apply wpOS_take rfl rfl (by kernel_rfl); (intro V hV; go_simp; rfl)); (try simp only [List.setIfInBounds_toArray, List.set_cons_succ, List.set_cons_zero])
        apply wpOS_two
        · skip
          apply wpOS_do rfl (by kernel_rfl) _ (fun _ h => h)
          intro K hK
          go_simp
          refine (HF2.out _).mono ?_
          rintro e U3 ⟨rfl, hb⟩
          have HSU3 := Lib.hid (HSU2.out.later hb)
          refine hK _ _ HSU3.out ?_
          clear hK K hb
          (apply wpOS_take rfl rfl (by kernel_rfl); (intro V hV; go_simp; rfl)); (try simp only [List.setIfInBounds_toArray, List.set_cons_succ, List.set_cons_zero])
          obtain ⟨g4, hg4⟩ : ∃ g, g = U3.heap.size := ⟨_, rfl⟩
          apply wpOS_do rfl (by kernel_rfl) (EkS W m sa sc q m.wi.cs 34 [(g4, [toU8 m.wi.grp]), (g1, [toU8 m.dst.toNat, toU8 m.hops.toNat, toU8 m.wi.frm.toNat])]) (fun _ h => h.drop)
          intro K hK
          go_simp
          obtain ⟨U4, hU4⟩ : ∃ U, U = U3.alloc (.cells #[.int .u8 m.wi.grp] 5) := ⟨_, rfl⟩
          have HSU4 := Lib.hid (HSU3.out.make g4 hg4 [toU8 m.wi.grp] #[.int .u8 m.wi.grp] HC3.out (by simp [maxLen]) hU4)
          rw [← hU4, ← hg4]
          refine hK _ _ HSU4.out ?_
          clear hK K hU4 hg4
          (apply wpOS_take rfl rfl (by kernel_rfl); (intro V hV; have hcv := run_string_row (P := Try.prog) 52 9 Try.underlying52 Try.underlying5 Try.underlying9 (hV.rows (g4, [toU8 m.wi.grp]) (List.mem_cons_self ..)); rw [← HB4.out] at hcv; simp only [List.length_cons, List.length_nil, Nat.zero_add, Nat.reduceAdd] at hcv; go_simp; rfl)); (try simp only [List.setIfInBounds_toArray, List.set_cons_succ, List.set_cons_zero])
          (apply wpOS_take rfl rfl (by kernel_rfl); (intro V hV; go_simp; rfl)); (try simp only [List.setIfInBounds_toArray, List.set_cons_succ, List.set_cons_zero])
          (apply wpOS_take rfl rfl (by kernel_rfl); (intro V hV; go_simp; rfl)); (try simp only [List.setIfInBounds_toArray, List.set_cons_succ, List.set_cons_zero])
          refine wpOS_nil ?_
          go_wp2_with fail
          go_meet
          exact ⟨by rw [HLVB.out], HSU4.out.rk⟩
        · skip
          obtain ⟨g5, hg5⟩ : ∃ g, g = U2.heap.size := ⟨_, rfl⟩
          apply wpOS_do rfl (by kernel_rfl) (EkS W m sa sc q m.wi.cs 34 [(g5, [toU8 m.wi.grp]), (g1, [toU8 m.dst.toNat, toU8 m.hops.toNat, toU8 m.wi.frm.toNat])]) (fun _ h => h.drop)
          intro K hK
          go_simp
          obtain ⟨U5, hU5⟩ : ∃ U, U = U2.alloc (.cells #[.int .u8 m.wi.grp] 5) := ⟨_, rfl⟩
          have HSU5 := Lib.hid (HSU2.out.make g5 hg5 [toU8 m.wi.grp] #[.int .u8 m.wi.grp] HC3.out (by simp [maxLen]) hU5)
          rw [← hU5, ← hg5]
          refine hK _ _ HSU5.out ?_
          clear hK K hU5 hg5
          (apply wpOS_take rfl rfl (by kernel_rfl); (intro V hV; have hcv := run_string_row (P := Try.prog) 52 9 Try.underlying52 Try.underlying5 Try.underlying9 (hV.rows (g5, [toU8 m.wi.grp]) (List.mem_cons_self ..)); rw [← HB4.out] at hcv; simp only [List.length_cons, List.length_nil, Nat.zero_add, Nat.reduceAdd] at hcv; go_simp; rfl)); (try simp only [List.setIfInBounds_toArray, List.set_cons_succ, List.set_cons_zero])
          apply wpOS_do rfl (by kernel_rfl) _ (fun _ h => h)
          intro K hK
          go_simp
          refine (HF2.out _).mono ?_
          rintro e U6 ⟨rfl, hb⟩
          have HSU6 := Lib.hid (HSU5.out.later hb)
          refine hK _ _ HSU6.out ?_
          clear hK K hb
          (apply wpOS_take rfl rfl (by kernel_rfl); (intro V hV; go_simp; rfl)); (try simp only [List.setIfInBounds_toArray, List.set_cons_succ, List.set_cons_zero])
          (apply wpOS_take rfl rfl (by kernel_rfl); (intro V hV; go_simp; rfl)); (try simp only [List.setIfInBounds_toArray, List.set_cons_succ, List.set_cons_zero])
          (apply wpOS_take rfl rfl (by kernel_rfl); (intro V hV; go_simp; rfl)); (try simp only [List.setIfInBounds_toArray, List.set_cons_succ, List.set_cons_zero])
          refine wpOS_nil ?_
          go_wp2_with fail
          go_meet
          exact ⟨by rw [HLVB.out], HSU6.out.rk⟩
      · skip
        obtain ⟨g7, hg7⟩ : ∃ g, g = U1.heap.size := ⟨_, rfl⟩
        apply wpOS_do rfl (by kernel_rfl) (EkS W m sa sc q m.wi.cs 34 [(g7, [toU8 m.wi.grp]), (g1, [toU8 m.dst.toNat, toU8 m.hops.toNat, toU8 m.wi.frm.toNat])]) (fun _ h => h.drop)
        intro K hK
        go_simp
        obtain ⟨U7, hU7⟩ : ∃ U, U = U1.alloc (.cells #[.int .u8 m.wi.grp] 5) := ⟨_, rfl⟩
        have HSU7 := Lib.hid (HSU1.out.make g7 hg7 [toU8 m.wi.grp] #[.int .u8 m.wi.grp] HC3.out (by simp [maxLen]) hU7)
        rw [← hU7, ← hg7]
        refine hK _ _ HSU7.out ?_
        clear hK K hU7 hg7
        (apply wpOS_take rfl rfl (by kernel_rfl); (intro V hV; have hcv := run_string_row (P := Try.prog) 52 9 Try.underlying52 Try.underlying5 Try.underlying9 (hV.rows (g7, [toU8 m.wi.grp]) (List.mem_cons_self ..)); rw [← HB4.out] at hcv; simp only [List.length_cons, List.length_nil, Nat.zero_add, Nat.reduceAdd] at hcv; go_simp; rfl)); (try simp only [List.setIfInBounds_toArray, List.set_cons_succ, List.set_cons_zero])
        apply wpOS_do rfl (by kernel_rfl) _ (fun _ h => h)
        intro K hK
        go_simp
        refine (HF1.out _).mono ?_
        rintro e U8 ⟨rfl, hb⟩
        have HSU8 := Lib.hid (HSU7.out.later hb)
        refine hK _ _ HSU8.out ?_
        clear hK K hb
        (apply wpOS_take rfl rfl (by kernel_rfl); (intro V hV; go_simp; rfl)); (try simp only [List.setIfInBounds_toArray, List.set_cons_succ, List.set_cons_zero])
        apply wpOS_do rfl (by kernel_rfl) _ (fun _ h => h)
        intro K hK
        go_simp
        refine (HF2.out _).mono ?_
        rintro e U9 ⟨rfl, hb⟩
        have HSU9 := Lib.hid (HSU8.out.later hb)
        refine hK _ _ HSU9.out ?_
        clear hK K hb
        (apply wpOS_take rfl rfl (by kernel_rfl); (intro V hV; go_simp; rfl)); (try simp only [List.setIfInBounds_toArray, List.set_cons_succ, List.set_cons_zero])
        (apply wpOS_take rfl rfl (by kernel_rfl); (intro V hV; go_simp; rfl)); (try simp only [List.setIfInBounds_toArray, List.set_cons_succ, List.set_cons_zero])
        (apply wpOS_take rfl rfl (by kernel_rfl); (intro V hV; go_simp; rfl)); (try simp only [List.setIfInBounds_toArray, List.set_cons_succ, List.set_cons_zero])
        refine wpOS_nil ?_
        go_wp2_with fail
        go_meet
        exact ⟨by rw [HLVB.out], HSU9.out.rk⟩
    · skip
      apply wpOS_do rfl (by kernel_rfl) _ (fun _ h => h)
      intro K hK
      go_simp
      refine (HF1.out _).mono ?_
      rintro e U10 ⟨rfl, hb⟩
      have HSU10 := Lib.hid (HSU0.out.later hb)
      refine hK _ _ HSU10.out ?_
      clear hK K hb
      apply wpOS_three
      · skip
        obtain ⟨g11, hg11⟩ : ∃ g, g = U10.heap.size := ⟨_, rfl⟩
        apply wpOS_do rfl (by kernel_rfl) (EkS W m sa sc q m.wi.cs 34 [(g11, [toU8 m.dst.toNat, toU8 m.hops.toNat, toU8 m.wi.frm.toNat])]) (fun _ h => h.drop)
        intro K hK
        go_simp
        obtain ⟨U11, hU11⟩ : ∃ U, U = U10.alloc (.cells #[.int .u8 m.dst, .int .u8 m.hops, .int .u8 m.wi.frm] 5) := ⟨_, rfl⟩
        have HSU11 := Lib.hid (HSU10.out.make g11 hg11 [toU8 m.dst.toNat, toU8 m.hops.toNat, toU8 m.wi.frm.toNat] #[.int .u8 m.dst, .int .u8 m.hops, .int .u8 m.wi.frm] HC0.out (by simp [maxLen]) hU11)
        rw [← hU11, ← hg11]
        refine hK _ _ HSU11.out ?_
        clear hK K hU11 hg11
        (apply wpOS_take rfl rfl (by kernel_rfl); (intro V hV; have hcv := run_string_row (P := Try.prog) 52 9 Try.underlying52 Try.underlying5 Try.underlying9 (hV.rows (g11, [toU8 m.dst.toNat, toU8 m.hops.toNat, toU8 m.wi.frm.toNat]) (List.mem_cons_self ..)); rw [← HB1.out] at hcv; simp only [List.length_cons, List.length_nil, Nat.zero_add, Nat.reduceAdd] at hcv; go_simp; rfl)); (try simp only [List.setIfInBounds_toArray, List.set_cons_succ, List.set_cons_zero])
        (apply wpOS_take rfl rfl (by kernel_rfl); (intro V hV; go_simp; rfl)); (try simp only [List.setIfInBounds_toArray, List.set_cons_succ, List.set_cons_zero])
        apply wpOS_two
        · skip
          apply wpOS_do rfl (by kernel_rfl) _ (fun _ h => h)
          intro K hK
          go_simp
          refine (HF2.out _).mono ?_
          rintro e U12 ⟨rfl, hb⟩
          have HSU12 := Lib.hid (HSU11.out.later hb)
          refine hK _ _ HSU12.out ?_
          clear hK K hb
          (apply wpOS_take rfl rfl (by kernel_rfl); (intro V hV; go_simp; rfl)); (try simp only [List.setIfInBounds_toArray, List.set_cons_succ, List.set_cons_zero])
          obtain ⟨g13, hg13⟩ : ∃ g, g = U12.heap.size := ⟨_, rfl⟩
          apply wpOS_do rfl (by kernel_rfl) (EkS W m sa sc q m.wi.cs 34 [(g13, [toU8 m.wi.grp]), (g11, [toU8 m.dst.toNat, toU8 m.hops.toNat, toU8 m.wi.frm.toNat])]) (fun _ h => h.drop)
          intro K hK
          go_simp
          obtain ⟨U13, hU13⟩ : ∃ U, U = U12.alloc (.cells #[.int .u8 m.wi.grp] 5) := ⟨_, rfl⟩
          have HSU13 := Lib.hid (HSU12.out.make g13 hg13 [toU8 m.wi.grp] #[.int .u8 m.wi.grp] HC3.out (by simp [maxLen]) hU13)
          rw [← hU13, ← hg13]
          refine hK _ _ HSU13.out ?_
          clear hK K hU13 hg13
          (apply wpOS_take rfl rfl (by kernel_rfl); (intro V hV; have hcv := run_string_row (P := Try.prog) 52 9 Try.underlying52 Try.underlying5 Try.underlying9 (hV.rows (g13, [toU8 m.wi.grp]) (List.mem_cons_self ..)); rw [← HB4.out] at hcv; simp only [List.length_cons, List.length_nil, Nat.zero_add, Nat.reduceAdd] at hcv; go_simp; rfl)); (try simp only [List.setIfInBounds_toArray, List.set_cons_succ, List.set_cons_zero])
          (apply wpOS_take rfl rfl (by kernel_rfl); (intro V hV; go_simp; rfl)); (try simp only [List.setIfInBounds_toArray, List.set_cons_succ, List.set_cons_zero])
          (apply wpOS_take rfl rfl (by kernel_rfl); (intro V hV; go_simp; rfl)); (try simp only [List.setIfInBounds_toArray, List.set_cons_succ, List.set_cons_zero])
          refine wpOS_nil ?_
          go_wp2_with fail
          go_meet
          exact ⟨by rw [HLVB.out], HSU13.out.rk⟩
        · skip
          obtain ⟨g14, hg14⟩ : ∃ g, g = U11.heap.size := ⟨_, rfl⟩
          apply wpOS_do rfl (by kernel_rfl) (EkS W m sa sc q m.wi.cs 34 [(g14, [toU8 m.wi.grp]), (g11, [toU8 m.dst.toNat, toU8 m.hops.toNat, toU8 m.wi.frm.toNat])]) (fun _ h => h.drop)
          intro K hK
          go_simp
          obtain ⟨U14, hU14⟩ : ∃ U, U = U11.alloc (.cells #[.int .u8 m.wi.grp] 5) := ⟨_, rfl⟩
          have HSU14 := Lib.hid (HSU11.out.make g14 hg14 [toU8 m.wi.grp] #[.int .u8 m.wi.grp] HC3.out (by simp [maxLen]) hU14)
          rw [← hU14, ← hg14]
          refine hK _ _ HSU14.out ?_
          clear hK K hU14 hg14
          (apply wpOS_take rfl rfl (by kernel_rfl); (intro V hV; have hcv := run_string_row (P := Try.prog) 52 9 Try.underlying52 Try.underlying5 Try.underlying9 (hV.rows (g14, [toU8 m.wi.grp]) (List.mem_cons_self ..)); rw [← HB4.out] at hcv; simp only [List.length_cons, List.length_nil, Nat.zero_add, Nat.reduceAdd] at hcv; go_simp; rfl)); (try simp only [List.setIfInBounds_toArray, List.set_cons_succ, List.set_cons_zero])
          apply wpOS_do rfl (by kernel_rfl) _ (fun _ h => h)
          intro K hK
          go_simp
          refine (HF2.out _).mono ?_
          rintro e U15 ⟨rfl, hb⟩
          have HSU15 := Lib.hid (HSU14.out.later hb)
          refine hK _ _ HSU15.out ?_
          clear hK K hb
          (apply wpOS_take rfl rfl (by kernel_rfl); (intro V hV; go_simp; rfl)); (try simp only [List.setIfInBounds_toArray, List.set_cons_succ, List.set_cons_zero])
          (apply wpOS_take rfl rfl (by kernel_rfl); (intro V hV; go_simp; rfl)); (try simp only [List.setIfInBounds_toArray, List.set_cons_succ, List.set_cons_zero])
          (apply wpOS_take rfl rfl (by kernel_rfl); (intro V hV; go_simp; rfl)); (try simp only [List.setIfInBounds_toArray, List.set_cons_succ, List.set_cons_zero])
          refine wpOS_nil ?_
          go_wp2_with fail
          go_meet
          exact ⟨by rw [HLVB.out], HSU15.out.rk⟩
      · skip
        apply wpOS_do rfl (by kernel_rfl) _ (fun _ h => h)
        intro K hK
        go_simp
        refine (HF2.out _).mono ?_
        rintro e U16 ⟨rfl, hb⟩
        have HSU16 := Lib.hid (HSU10.out.later hb)
        refine hK _ _ HSU16.out ?_
        clear hK K hb
        apply wpOS_two
        · skip
          obtain ⟨g17, hg17⟩ : ∃ g, g = U16.heap.size := ⟨_, rfl⟩
          apply wpOS_do rfl (by kernel_rfl) (EkS W m sa sc q m.wi.cs 34 [(g17, [toU8 m.dst.toNat, toU8 m.hops.toNat, toU8 m.wi.frm.toNat])]) (fun _ h => h.drop)
          intro K hK
          go_simp
          obtain ⟨U17, hU17⟩ : ∃ U, U = U16.alloc (.cells #[.int .u8 m.dst, .int .u8 m.hops, .int .u8 m.wi.frm] 5) := ⟨_, rfl⟩
          have HSU17 := Lib.hid (HSU16.out.make g17 hg17 [toU8 m.dst.toNat, toU8 m.hops.toNat, toU8 m.wi.frm.toNat] #[.int .u8 m.dst, .int .u8 m.hops, .int .u8 m.wi.frm] HC0.out (by simp [maxLen]) hU17)
          rw [← hU17, ← hg17]
          refine hK _ _ HSU17.out ?_
          clear hK K hU17 hg17
          (apply wpOS_take rfl rfl (by kernel_rfl); (intro V hV; have hcv := run_string_row (P := Try.prog) 52 9 Try.underlying52 Try.underlying5 Try.underlying9 (hV.rows (g17, [toU8 m.dst.toNat, toU8 m.hops.toNat, toU8 m.wi.frm.toNat]) (List.mem_cons_self ..)); rw [← HB1.out] at hcv; simp only [List.length_cons, List.length_nil, Nat.zero_add, Nat.reduceAdd] at hcv; go_simp; rfl)); (try simp only [List.setIfInBounds_toArray, List.set_cons_succ, List.set_cons_zero])
          (apply wpOS_take rfl rfl (by kernel_rfl); (intro V hV; go_simp; rfl)); (try simp only [List.setIfInBounds_toArray, List.set_cons_succ, List.set_cons_zero])
          (apply wpOS_take rfl rfl (by kernel_rfl); (intro V hV; go_simp; rfl)); (try simp only [List.setIfInBounds_toArray, List.set_cons_succ, List.set_cons_zero])
          obtain ⟨g18, hg18⟩ : ∃ g, g = U17.heap.size := ⟨_, rfl⟩
          apply wpOS_do rfl (by kernel_rfl) (EkS W m sa sc q m.wi.cs 34 [(g18, [toU8 m.wi.grp]), (g17, [toU8 m.dst.toNat, toU8 m.hops.toNat, toU8 m.wi.frm.toNat])]) (fun _ h => h.drop)
          intro K hK
          go_simp
          obtain ⟨U18, hU18⟩ : ∃ U, U = U17.alloc (.cells #[.int .u8 m.wi.grp] 5) := ⟨_, rfl⟩
          have HSU18 := Lib.hid (HSU17.out.make g18 hg18 [toU8 m.wi.grp] #[.int .u8 m.wi.grp] HC3.out (by simp [maxLen]) hU18)
          rw [← hU18, ← hg18]
          refine hK _ _ HSU18.out ?_
          clear hK K hU18 hg18
          (apply wpOS_take rfl rfl (by kernel_rfl); (intro V hV; have hcv := run_string_row (P := Try.prog) 52 9 Try.underlying52 Try.underlying5 Try.underlying9 (hV.rows (g18, [toU8 m.wi.grp]) (List.mem_cons_self ..)); rw [← HB4.out] at hcv; simp only [List.length_cons, List.length_nil, Nat.zero_add, Nat.reduceAdd] at hcv; go_simp; rfl)); (try simp only [List.setIfInBounds_toArray, List.set_cons_succ, List.set_cons_zero])
          (apply wpOS_take rfl rfl (by kernel_rfl); (intro V hV; go_simp; rfl)); (try simp only [List.setIfInBounds_toArray, List.set_cons_succ, List.set_cons_zero])
          (apply wpOS_take rfl rfl (by kernel_rfl); (intro V hV; go_simp; rfl)); (try simp only [List.setIfInBounds_toArray, List.set_cons_succ, List.set_cons_zero])
          refine wpOS_nil ?_
          go_wp2_with fail
          go_meet
          exact ⟨by rw [HLVB.out], HSU18.out.rk⟩
        · skip
          obtain ⟨g19, hg19⟩ : ∃ g, g = U16.heap.size := ⟨_, rfl⟩
          apply wpOS_do rfl (by kernel_rfl) (EkS W m sa sc q m.wi.cs 34 [(g19, [toU8 m.wi.grp])]) (fun _ h => h.drop)
          intro K hK
          go_simp
          obtain ⟨U19, hU19⟩ : ∃ U, U = U16.alloc (.cells #[.int .u8 m.wi.grp] 5) := ⟨_, rfl⟩
          have HSU19 := Lib.hid (HSU16.out.make g19 hg19 [toU8 m.wi.grp] #[.int .u8 m.wi.grp] HC3.out (by simp [maxLen]) hU19)
          rw [← hU19, ← hg19]
          refine hK _ _ HSU19.out ?_
          clear hK K hU19 hg19
          (apply wpOS_take rfl rfl (by kernel_rfl); (intro V hV; have hcv := run_string_row (P := Try.prog) 52 9 Try.underlying52 Try.underlying5 Try.underlying9 (hV.rows (g19, [toU8 m.wi.grp]) (List.mem_cons_self ..)); rw [← HB4.out] at hcv; simp only [List.length_cons, List.length_nil, Nat.zero_add, Nat.reduceAdd] at hcv; go_simp; rfl)); (try simp only [List.setIfInBounds_toArray, List.set_cons_succ, List.set_cons_zero])
          obtain ⟨g20, hg20⟩ : ∃ g, g = U19.heap.size := ⟨_, rfl⟩
          apply wpOS_do rfl (by kernel_rfl) (EkS W m sa sc q m.wi.cs 34 [(g20, [toU8 m.dst.toNat, toU8 m.hops.toNat, toU8 m.wi.frm.toNat]), (g19, [toU8 m.wi.grp])]) (fun _ h => h.drop)
          intro K hK
          go_simp
          obtain ⟨U20, hU20⟩ : ∃ U, U = U19.alloc (.cells #[.int .u8 m.dst, .int .u8 m.hops, .int .u8 m.wi.frm] 5) := ⟨_, rfl⟩
          have HSU20 := Lib.hid (HSU19.out.make g20 hg20 [toU8 m.dst.toNat, toU8 m.hops.toNat, toU8 m.wi.frm.toNat] #[.int .u8 m.dst, .int .u8 m.hops, .int .u8 m.wi.frm] HC0.out (by simp [maxLen]) hU20)
          rw [← hU20, ← hg20]
          refine hK _ _ HSU20.out ?_
          clear hK K hU20 hg20
          (apply wpOS_take rfl rfl (by kernel_rfl); (intro V hV; have hcv := run_string_row (P := Try.prog) 52 9 Try.underlying52 Try.underlying5 Try.underlying9 (hV.rows (g20, [toU8 m.dst.toNat, toU8 m.hops.toNat, toU8 m.wi.frm.toNat]) (List.mem_cons_self ..)); rw [← HB1.out] at hcv; simp only [List.length_cons, List.length_nil, Nat.zero_add, Nat.reduceAdd] at hcv; go_simp; rfl)); (try simp only [List.setIfInBounds_toArray, List.set_cons_succ, List.set_cons_zero])
          (apply wpOS_take rfl rfl (by kernel_rfl); (intro V hV; go_simp; rfl)); (try simp only [List.setIfInBounds_toArray, List.set_cons_succ, List.set_cons_zero])
          (apply wpOS_take rfl rfl (by kernel_rfl); (intro V hV; go_simp; rfl)); (try simp only [List.setIfInBounds_toArray, List.set_cons_succ, List.set_cons_zero])
          (apply wpOS_take rfl rfl (by kernel_rfl); (intro V hV; go_simp; rfl)); (try simp only [List.setIfInBounds_toArray, List.set_cons_succ, List.set_cons_zero])
          (apply wpOS_take rfl rfl (by kernel_rfl); (intro V hV; go_simp; rfl)); (try simp only [List.setIfInBounds_toArray, List.set_cons_succ, List.set_cons_zero])
          refine wpOS_nil ?_
          go_wp2_with fail
          go_meet
          exact ⟨by rw [HLVB.out], HSU20.out.rk⟩
      · skip
        obtain ⟨g21, hg21⟩ : ∃ g, g = U10.heap.size := ⟨_, rfl⟩
        apply wpOS_do rfl (by kernel_rfl) (EkS W m sa sc q m.wi.cs 34 [(g21, [toU8 m.wi.grp])]) (fun _ h => h.drop)
        intro K hK
        go_simp
        obtain ⟨U21, hU21⟩ : ∃ U, U = U10.alloc (.cells #[.int .u8 m.wi.grp] 5) := ⟨_, rfl⟩
        have HSU21 := Lib.hid (HSU10.out.make g21 hg21 [toU8 m.wi.grp] #[.int .u8 m.wi.grp] HC3.out (by simp [maxLen]) hU21)
        rw [← hU21, ← hg21]
        refine hK _ _ HSU21.out ?_
        clear hK K hU21 hg21
        (apply wpOS_take rfl rfl (by kernel_rfl); (intro V hV; have hcv := run_string_row (P := Try.prog) 52 9 Try.underlying52 Try.underlying5 Try.underlying9 (hV.rows (g21, [toU8 m.wi.grp]) (List.mem_cons_self ..)); rw [← HB4.out] at hcv; simp only [List.length_cons, List.length_nil, Nat.zero_add, Nat.reduceAdd] at hcv; go_simp; rfl)); (try simp only [List.setIfInBounds_toArray, List.set_cons_succ, List.set_cons_zero])
        apply wpOS_two
        · skip
          obtain ⟨g22, hg22⟩ : ∃ g, g = U21.heap.size := ⟨_, rfl⟩
          apply wpOS_do rfl (by kernel_rfl) (EkS W m sa sc q m.wi.cs 34 [(g22, [toU8 m.dst.toNat, toU8 m.hops.toNat, toU8 m.wi.frm.toNat]), (g21, [toU8 m.wi.grp])]) (fun _ h => h.drop)
          intro K hK
          go_simp
          obtain ⟨U22, hU22⟩ : ∃ U, U = U21.alloc (.cells #[.int .u8 m.dst, .int .u8 m.hops, .int .u8 m.wi.frm] 5) := ⟨_, rfl⟩
          have HSU22 := Lib.hid (HSU21.out.make g22 hg22 [toU8 m.dst.toNat, toU8 m.hops.toNat, toU8 m.wi.frm.toNat] #[.int .u8 m.dst, .int .u8 m.hops, .int .u8 m.wi.frm] HC0.out (by simp [maxLen]) hU22)
          rw [← hU22, ← hg22]
          refine hK _ _ HSU22.out ?_
          clear hK K hU22 hg22
          (apply wpOS_take rfl rfl (by kernel_rfl); (intro V hV; have hcv := run_string_row (P := Try.prog) 52 9 Try.underlying52 Try.underlying5 Try.underlying9 (hV.rows (g22, [toU8 m.dst.toNat, toU8 m.hops.toNat, toU8 m.wi.frm.toNat]) (List.mem_cons_self ..)); rw [← HB1.out] at hcv; simp only [List.length_cons, List.length_nil, Nat.zero_add, Nat.reduceAdd] at hcv; go_simp; rfl)); (try simp only [List.setIfInBounds_toArray, List.set_cons_succ, List.set_cons_zero])
          (apply wpOS_take rfl rfl (by kernel_rfl); (intro V hV; go_simp; rfl)); (try simp only [List.setIfInBounds_toArray, List.set_cons_succ, List.set_cons_zero])
          apply wpOS_do rfl (by kernel_rfl) _ (fun _ h => h)
          intro K hK
          go_simp
          refine (HF2.out _).mono ?_
          rintro e U23 ⟨rfl, hb⟩
          have HSU23 := Lib.hid (HSU22.out.later hb)
          refine hK _ _ HSU23.out ?_
          clear hK K hb
          (apply wpOS_take rfl rfl (by kernel_rfl); (intro V hV; go_simp; rfl)); (try simp only [List.setIfInBounds_toArray, List.set_cons_succ, List.set_cons_zero])
          (apply wpOS_take rfl rfl (by kernel_rfl); (intro V hV; go_simp; rfl)); (try simp only [List.setIfInBounds_toArray, List.set_cons_succ, List.set_cons_zero])
          (apply wpOS_take rfl rfl (by kernel_rfl); (intro V hV; go_simp; rfl)); (try simp only [List.setIfInBounds_toArray, List.set_cons_succ, List.set_cons_zero])
          refine wpOS_nil ?_
          go_wp2_with fail
          go_meet
          exact ⟨by rw [HLVB.out], HSU23.out.rk⟩
        · skip
          apply wpOS_do rfl (by kernel_rfl) _ (fun _ h => h)
          intro K hK
          go_simp
          refine (HF2.out _).mono ?_
          rintro e U24 ⟨rfl, hb⟩
          have HSU24 := Lib.hid (HSU21.out.later hb)
          refine hK _ _ HSU24.out ?_
          clear hK K hb
          obtain ⟨g25, hg25⟩ : ∃ g, g = U24.heap.size := ⟨_, rfl⟩
          apply wpOS_do rfl (by kernel_rfl) (EkS W m sa sc q m.wi.cs 34 [(g25, [toU8 m.dst.toNat, toU8 m.hops.toNat, toU8 m.wi.frm.toNat]), (g21, [toU8 m.wi.grp])]) (fun _ h => h.drop)
          intro K hK
          go_simp
          obtain ⟨U25, hU25⟩ : ∃ U, U = U24.alloc (.cells #[.int .u8 m.dst, .int .u8 m.hops, .int .u8 m.wi.frm] 5) := ⟨_, rfl⟩
          have HSU25 := Lib.hid (HSU24.out.make g25 hg25 [toU8 m.dst.toNat, toU8 m.hops.toNat, toU8 m.wi.frm.toNat] #[.int .u8 m.dst, .int .u8 m.hops, .int .u8 m.wi.frm] HC0.out (by simp [maxLen]) hU25)
          rw [← hU25, ← hg25]
          refine hK _ _ HSU25.out ?_
          clear hK K hU25 hg25
          (apply wpOS_take rfl rfl (by kernel_rfl); (intro V hV; have hcv := run_string_row (P := Try.prog) 52 9 Try.underlying52 Try.underlying5 Try.underlying9 (hV.rows (g25, [toU8 m.dst.toNat, toU8 m.hops.toNat, toU8 m.wi.frm.toNat]) (List.mem_cons_self ..)); rw [← HB1.out] at hcv; simp only [List.length_cons, List.length_nil, Nat.zero_add, Nat.reduceAdd] at hcv; go_simp; rfl)); (try simp only [List.setIfInBounds_toArray, List.set_cons_succ, List.set_cons_zero])
          (apply wpOS_take rfl rfl (by kernel_rfl); (intro V hV; go_simp; rfl)); (try simp only [List.setIfInBounds_toArray, List.set_cons_succ, List.set_cons_zero])
          (apply wpOS_take rfl rfl (by kernel_rfl); (intro V hV; go_simp; rfl)); (try simp only [List.setIfInBounds_toArray, List.set_cons_succ, List.set_cons_zero])
          (apply wpOS_take rfl rfl (by kernel_rfl); (intro V hV; go_simp; rfl)); (try simp only [List.setIfInBounds_toArray, List.set_cons_succ, List.set_cons_zero])
          (apply wpOS_take rfl rfl (by kernel_rfl); (intro V hV; go_simp; rfl)); (try simp only [List.setIfInBounds_toArray, List.set_cons_succ, List.set_cons_zero])
          refine wpOS_nil ?_
          go_wp2_with fail
          go_meet
          exact ⟨by rw [HLVB.out], HSU25.out.rk⟩
    · skip
      obtain ⟨g26, hg26⟩ : ∃ g, g = U0.heap.size := ⟨_, rfl⟩
      apply wpOS_do rfl (by kernel_rfl) (EkS W m sa sc q m.wi.cs 34 [(g26, [toU8 m.wi.grp])]) (fun _ h => h.drop)
      intro K hK
      go_simp
      obtain ⟨U26, hU26⟩ : ∃ U, U = U0.alloc (.cells #[.int .u8 m.wi.grp] 5) := ⟨_, rfl⟩
      have HSU26 := Lib.hid (HSU0.out.make g26 hg26 [toU8 m.wi.grp] #[.int .u8 m.wi.grp] HC3.out (by simp [maxLen]) hU26)
      rw [← hU26, ← hg26]
      refine hK _ _ HSU26.out ?_
      clear hK K hU26 hg26
      (apply wpOS_take rfl rfl (by kernel_rfl); (intro V hV; have hcv := run_string_row (P := Try.prog) 52 9 Try.underlying52 Try.underlying5 Try.underlying9 (hV.rows (g26, [toU8 m.wi.grp]) (List.mem_cons_self ..)); rw [← HB4.out] at hcv; simp only [List.length_cons, List.length_nil, Nat.zero_add, Nat.reduceAdd] at hcv; go_simp; rfl)); (try simp only [List.setIfInBounds_toArray, List.set_cons_succ, List.set_cons_zero])
      apply wpOS_two
      · skip
        obtain ⟨g27, hg27⟩ : ∃ g, g = U26.heap.size := ⟨_, rfl⟩
        apply wpOS_do rfl (by kernel_rfl) (EkS W m sa sc q m.wi.cs 34 [(g27, [toU8 m.dst.toNat, toU8 m.hops.toNat, toU8 m.wi.frm.toNat]), (g26, [toU8 m.wi.grp])]) (fun _ h => h.drop)
        intro K hK
        go_simp
        obtain ⟨U27, hU27⟩ : ∃ U, U = U26.alloc (.cells #[.int .u8 m.dst, .int .u8 m.hops, .int .u8 m.wi.frm] 5) := ⟨_, rfl⟩
        have HSU27 := Lib.hid (HSU26.out.make g27 hg27 [toU8 m.dst.toNat, toU8 m.hops.toNat, toU8 m.wi.frm.toNat] #[.int .u8 m.dst, .int .u8 m.hops, .int .u8 m.wi.frm] HC0.out (by simp [maxLen]) hU27)
        rw [← hU27, ← hg27]
        refine hK _ _ HSU27.out ?_
        clear hK K hU27 hg27
        (apply wpOS_take rfl rfl (by kernel_rfl); (intro V hV; have hcv := run_string_row (P := Try.prog) 52 9 Try.underlying52 Try.underlying5 Try.underlying9 (hV.rows (g27, [toU8 m.dst.toNat, toU8 m.hops.toNat, toU8 m.wi.frm.toNat]) (List.mem_cons_self ..)); rw [← HB1.out] at hcv; simp only [List.length_cons, List.length_nil, Nat.zero_add, Nat.reduceAdd] at hcv; go_simp; rfl)); (try simp only [List.setIfInBounds_toArray, List.set_cons_succ, List.set_cons_zero])
        apply wpOS_do rfl (by kernel_rfl) _ (fun _ h => h)
        intro K hK
        go_simp
        refine (HF1.out _).mono ?_
        rintro e U28 ⟨rfl, hb⟩
        have HSU28 := Lib.hid (HSU27.out.later hb)
        refine hK _ _ HSU28.out ?_
        clear hK K hb
        (apply wpOS_take rfl rfl (by kernel_rfl); (intro V hV; go_simp; rfl)); (try simp only [List.setIfInBounds_toArray, List.set_cons_succ, List.set_cons_zero])
        apply wpOS_do rfl (by kernel_rfl) _ (fun _ h => h)
        intro K hK
        go_simp
        refine (HF2.out _).mono ?_
        rintro e U29 ⟨rfl, hb⟩
        have HSU29 := Lib.hid (HSU28.out.later hb)
        refine hK _ _ HSU29.out ?_
        clear hK K hb
        (apply wpOS_take rfl rfl (by kernel_rfl); (intro V hV; go_simp; rfl)); (try simp only [List.setIfInBounds_toArray, List.set_cons_succ, List.set_cons_zero])
        (apply wpOS_take rfl rfl (by kernel_rfl); (intro V hV; go_simp; rfl)); (try simp only [List.setIfInBounds_toArray, List.set_cons_succ, List.set_cons_zero])
        (apply wpOS_take rfl rfl (by kernel_rfl); (intro V hV; go_simp; rfl)); (try simp only [List.setIfInBounds_toArray, List.set_cons_succ, List.set_cons_zero])
        refine wpOS_nil ?_
        go_wp2_with fail
        go_meet
        exact ⟨by rw [HLVB.out], HSU29.out.rk⟩
      · skip
        apply wpOS_do rfl (by kernel_rfl) _ (fun _ h => h)
        intro K hK
        go_simp
        refine (HF1.out _).mono ?_
        rintro e U30 ⟨rfl, hb⟩
        have HSU30 := Lib.hid (HSU26.out.later hb)
        refine hK _ _ HSU30.out ?_
        clear hK K hb
        apply wpOS_two
        · skip
          obtain ⟨g31, hg31⟩ : ∃ g, g = U30.heap.size := ⟨_, rfl⟩
          apply wpOS_do rfl (by kernel_rfl) (EkS W m sa sc q m.wi.cs 34 [(g31, [toU8 m.dst.toNat, toU8 m.hops.toNat, toU8 m.wi.frm.toNat]), (g26, [toU8 m.wi.grp])]) (fun _ h => h.drop)
          intro K hK
          go_simp
          obtain ⟨U31, hU31⟩ : ∃ U, U = U30.alloc (.cells #[.int .u8 m.dst, .int .u8 m.hops, .int .u8 m.wi.frm] 5) := ⟨_, rfl⟩
          have HSU31 := Lib.hid (HSU30.out.make g31 hg31 [toU8 m.dst.toNat, toU8 m.hops.toNat, toU8 m.wi.frm.toNat] #[.int .u8 m.dst, .int .u8 m.hops, .int .u8 m.wi.frm] HC0.out (by simp [maxLen]) hU31)
          rw [← hU31, ← hg31]
          refine hK _ _ HSU31.out ?_
          clear hK K hU31 hg31
          (apply wpOS_take rfl rfl (by kernel_rfl); (intro V hV; have hcv := run_string_row (P := Try.prog) 52 9 Try.underlying52 Try.underlying5 Try.underlying9 (hV.rows (g31, [toU8 m.dst.toNat, toU8 m.hops.toNat, toU8 m.wi.frm.toNat]) (List.mem_cons_self ..)); rw [← HB1.out] at hcv; simp only [List.length_cons, List.length_nil, Nat.zero_add, Nat.reduceAdd] at hcv; go_simp; rfl)); (try simp only [List.setIfInBounds_toArray, List.set_cons_succ, List.set_cons_zero])
          (apply wpOS_take rfl rfl (by kernel_rfl); (intro V hV; go_simp; rfl)); (try simp only [List.setIfInBounds_toArray, List.set_cons_succ, List.set_cons_zero])
          apply wpOS_do rfl (by kernel_rfl) _ (fun _ h => h)
          intro K hK
          go_simp
          refine (HF2.out _).mono ?_
          rintro e U32 ⟨rfl, hb⟩
          have HSU32 := Lib.hid (HSU31.out.later hb)
          refine hK _ _ HSU32.out ?_
          clear hK K hb
          (apply wpOS_take rfl rfl (by kernel_rfl); (intro V hV; go_simp; rfl)); (try simp only [List.setIfInBounds_toArray, List.set_cons_succ, List.set_cons_zero])
          (apply wpOS_take rfl rfl (by kernel_rfl); (intro V hV; go_simp; rfl)); (try simp only [List.setIfInBounds_toArray, List.set_cons_succ, List.set_cons_zero])
          (apply wpOS_take rfl rfl (by kernel_rfl); (intro V hV; go_simp; rfl)); (try simp only [List.setIfInBounds_toArray, List.set_cons_succ, List.set_cons_zero])
          refine wpOS_nil ?_
          go_wp2_with fail
          go_meet
          exact ⟨by rw [HLVB.out], HSU32.out.rk⟩
        · skip
          apply wpOS_do rfl (by kernel_rfl) _ (fun _ h => h)
          intro K hK
          go_simp
          refine (HF2.out _).mono ?_
          rintro e U33 ⟨rfl, hb⟩
          have HSU33 := Lib.hid (HSU30.out.later hb)
          refine hK _ _ HSU33.out ?_
          clear hK K hb
          obtain ⟨g34, hg34⟩ : ∃ g, g = U33.heap.size := ⟨_, rfl⟩
          apply wpOS_do rfl (by kernel_rfl) (EkS W m sa sc q m.wi.cs 34 [(g34, [toU8 m.dst.toNat, toU8 m.hops.toNat, toU8 m.wi.frm.toNat]), (g26, [toU8 m.wi.grp])]) (fun _ h => h.drop)
          intro K hK
          go_simp
          obtain ⟨U34, hU34⟩ : ∃ U, U = U33.alloc (.cells #[.int .u8 m.dst, .int .u8 m.hops, .int .u8 m.wi.frm] 5) := ⟨_, rfl⟩
          have HSU34 := Lib.hid (HSU33.out.make g34 hg34 [toU8 m.dst.toNat, toU8 m.hops.toNat, toU8 m.wi.frm.toNat] #[.int .u8 m.dst, .int .u8 m.hops, .int .u8 m.wi.frm] HC0.out (by simp [maxLen]) hU34)
          rw [← hU34, ← hg34]
          refine hK _ _ HSU34.out ?_
          clear hK K hU34 hg34
          (apply wpOS_take rfl rfl (by kernel_rfl); (intro V hV; have hcv := run_string_row (P := Try.prog) 52 9 Try.underlying52 Try.underlying5 Try.underlying9 (hV.rows (g34, [toU8 m.dst.toNat, toU8 m.hops.toNat, toU8 m.wi.frm.toNat]) (List.mem_cons_self ..)); rw [← HB1.out] at hcv; simp only [List.length_cons, List.length_nil, Nat.zero_add, Nat.reduceAdd] at hcv; go_simp; rfl)); (try simp only [List.setIfInBounds_toArray, List.set_cons_succ, List.set_cons_zero])
          (apply wpOS_take rfl rfl (by kernel_rfl); (intro V hV; go_simp; rfl)); (try simp only [List.setIfInBounds_toArray, List.set_cons_succ, List.set_cons_zero])
          (apply wpOS_take rfl rfl (by kernel_rfl); (intro V hV; go_simp; rfl)); (try simp only [List.setIfInBounds_toArray, List.set_cons_succ, List.set_cons_zero])
          (apply wpOS_take rfl rfl (by kernel_rfl); (intro V hV; go_simp; rfl)); (try simp only [List.setIfInBounds_toArray, List.set_cons_succ, List.set_cons_zero])
          (apply wpOS_take rfl rfl (by kernel_rfl); (intro V hV; go_simp; rfl)); (try simp only [List.setIfInBounds_toArray, List.set_cons_succ, List.set_cons_zero])
          refine wpOS_nil ?_
          go_wp2_with fail
          go_meet
          exact ⟨by rw [HLVB.out], HSU34.out.rk⟩
  case rest =>
    obtain ⟨rfl, hS⟩ := hcut
    have HS3 := Lib.hid hS
    clear hS x0 x21 x22 x23 x24 x25 x26
    have hcv := HCV.out wc
    have x0 : wc.cell? ⟨W.heap.size, 0, none⟩ = some (.int .i64 m.kd) := HS3.out.box.cell rfl
    rw [HK.out] at x0
    go_wp2_with fail
    refine (HSEAL.out _).mono ?_
    rintro e Z ⟨rfl, hb⟩
    have HZ := Lib.hid ((HS3.out.later ((Below.refl wc.heap.size wc).alloc (Nat.le_refl _) (.cells #[.int .u8 4] 5))).later hb)
    clear hb
    go_wp2_with fail
    go_ret2
    exact ⟨rfl, HZ.out.bel⟩
set_option maxHeartbeats 25600000 in
theorem rmencode5 (m : Ms) (sa : Option Addr) (sc : Nat) (W : World) (hm : m.ok) (hA : AdjsIn W sa m.rc.adjs) (hl : m.rc.adjs.length ≤ maxLen) (hk : m.kd = 5) (hc : m.chk = true) : Calls Try.prog 10 #[m.ag sa sc] W fun e W' => e = .returned (.tuple #[.string m.encS, .int .i64 m.err]) ∧ Below W.heap.size W W' := by
  obtain ⟨W1, hW1⟩ : ∃ W1, W1 = W.alloc (.cells (m.cs sa sc) 38) := ⟨_, rfl⟩
  have HS1 := Lib.hid (RkS.start hA hW1)
  have HES := Lib.hid (show m.encS = m.enc ∧ m.err = 0 from by unfold Ms.encS Ms.err; rw [hc]; exact ⟨rfl, rfl⟩)
  have hmay : m.may = true := by unfold Ms.chk at hc; rw [Bool.and_eq_true] at hc; exact hc.2
  have hlen := lay_len hc
  obtain ⟨b0, hb0⟩ : ∃ b, b = bs [toU8 5] := ⟨_, rfl⟩
  obtain ⟨lv, hlv⟩ : ∃ b, b = bs m.lay := ⟨_, rfl⟩
  have HENC := Lib.hid (show sealB (b0 ++ lv) = m.enc from by rw [hb0, hlv, bs_append]; unfold Ms.enc Ms.body; rw [hk]; rfl)
  have s0 : b0.size = 1 := by rw [hb0, bs_size]; rfl
  have s1 : lv.size ≤ 100 := by rw [hlv, bs_size]; exact hlen
  have hsz : ¬ 9223372036854775807 < b0.size + lv.size := by omega
  have hsz2 : (b0 ++ lv).size ≤ 140737488355000 := by rw [ByteArray.size_append]; omega
  have HSEAL := Lib.hid (fun V => (rseal_any (b0 ++ lv) V hsz2).mono fun e X h => show e = .returned (.string m.enc) ∧ Below V.heap.size V X from by rw [← HENC.out]; exact h)
  have HLV := Lib.hid hlv
  have HB0 := Lib.hid hb0
  have hw8 : IntKind.u8.wrap 5 = 5 := by decide
  have HCV := Lib.hid (fun w : World => show (convert 52 9 (.slice (some ⟨w.heap.size, 0, none⟩) 1 1)).run Try.prog (w.alloc (.cells #[.int .u8 5] 5)) = .ok (.string b0) (w.alloc (.cells #[.int .u8 5] 5)) from by
    rw [hb0]
    exact run_string_one w (toU8 5) 52 9 5 Try.underlying52 Try.underlying5 Try.underlying9 _ rfl)
  have HCH := Lib.hid ((rmcheck_any m sa sc W1 hm HS1.out.adj hl).mono fun e V h => show e = .returned (.int .i64 0) ∧ Below W1.heap.size W1 V from by rw [HES.out.2] at h; exact h)
  have HSZ := Lib.hid (info_msg m sa sc)
  have HW1 := Lib.hid hW1
  have HCC := Lib.hid (block_cells HS1.out.box)
  have HK := Lib.hid hk
  have HL := Lib.hid hl
  have HOK := Lib.hid hm
  have HMAY := Lib.hid hmay
  clear hW1 hA hm hk hc hmay hlen hb0 hlv s0 s1 hl
  rw [show m.encS = m.enc from HES.out.1, show m.err = 0 from HES.out.2]
  go_enter Try.func10, Try.ntmps10
  unfold Ms.ag at *
  go_upto_region 1 with fail
  rw [← HW1.out]
  go_wp2_with ((with_reducible refine wpList_load_cs rfl 38 (.tmp 1) rfl ⟨W.heap.size, 0, none⟩ rfl (m.cs sa sc).toList _ HCC.out Try.underlying38 rfl HSZ.out ?_); rw [Array.toArray_toList])
  refine HCH.out.mono ?_
  rintro e V ⟨rfl, hb⟩
  have HS2 := Lib.hid (HS1.out.later hb)
  have x0 : V.cell? ⟨W.heap.size, 0, none⟩ = some (.int .i64 m.kd) := HS2.out.box.cell rfl
  rw [HK.out] at x0
  clear hb HS1 HCH HCC
  have x21 : V.cell? ⟨W.heap.size, 21, none⟩ = some (.int .i64 m.dst) := HS2.out.box.cell rfl
  have x22 : V.cell? ⟨W.heap.size, 22, none⟩ = some (.int .i64 m.hops) := HS2.out.box.cell rfl
  have x27 : V.cell? ⟨W.heap.size, 27, none⟩ = some (.int .i64 m.ak.frm) := HS2.out.box.cell rfl
  have x28 : V.cell? ⟨W.heap.size, 28, none⟩ = some (.int .u32 m.ak.ep) := HS2.out.box.cell rfl
  have x29 : V.cell? ⟨W.heap.size, 29, none⟩ = some (.int .i64 m.ak.dst) := HS2.out.box.cell rfl
  have x30 : V.cell? ⟨W.heap.size, 30, none⟩ = some (.int .u32 m.ak.lif) := HS2.out.box.cell rfl
  have x31 : V.cell? ⟨W.heap.size, 31, none⟩ = some (.int .u32 m.ak.ver) := HS2.out.box.cell rfl
  have hy : m.way = true ∧ m.ak.may = true := by
    have h := HMAY.out
    unfold Ms.may at h
    rw [HK.out] at h
    exact (Bool.and_eq_true _ _) ▸ h
  obtain ⟨hy1, hy2⟩ := hy
  unfold Ms.way rtr at hy1
  unfold Ak.may rtr at hy2
  simp only [Bool.and_eq_true, decide_eq_true_eq] at hy1 hy2
  have hgl := HOK.out.2.2.2.2.2.2
  unfold Ak.ok at hgl
  have HC0 := Lib.hid (show (#[.int .u8 m.dst, .int .u8 m.hops, .int .u8 m.ak.frm] : Array Value) = (([toU8 m.dst.toNat, toU8 m.hops.toNat, toU8 m.ak.frm.toNat] : List UInt8).map byteV).toArray by
    simp only [List.map_cons, List.map_nil, byteV_small (show m.dst.toNat < 256 by omega), byteV_small (show m.hops.toNat < 256 by omega), byteV_small (show m.ak.frm.toNat < 256 by omega)]
    rw [show ((m.dst.toNat : Nat) : Int) = m.dst by omega, show ((m.hops.toNat : Nat) : Int) = m.hops by omega, show ((m.ak.frm.toNat : Nat) : Int) = m.ak.frm by omega])
  have HC3 := Lib.hid (show (#[.int .u8 m.ak.dst] : Array Value) = (([toU8 m.ak.dst.toNat] : List UInt8).map byteV).toArray by
    simp only [List.map_cons, List.map_nil, byteV_small (show m.ak.dst.toNat < 256 by omega)]
    rw [show ((m.ak.dst.toNat : Nat) : Int) = m.ak.dst by omega])
  obtain ⟨B1, hB1⟩ : ∃ B, B = bs ([toU8 m.dst.toNat, toU8 m.hops.toNat, toU8 m.ak.frm.toNat] : List UInt8) := ⟨_, rfl⟩
  obtain ⟨B2, hB2⟩ : ∃ B, B = bs (nb m.ak.ep 4 : List UInt8) := ⟨_, rfl⟩
  obtain ⟨B3, hB3⟩ : ∃ B, B = bs ([toU8 m.ak.dst.toNat] : List UInt8) := ⟨_, rfl⟩
  obtain ⟨B4, hB4⟩ : ∃ B, B = bs (nb m.ak.lif 4 : List UInt8) := ⟨_, rfl⟩
  obtain ⟨B5, hB5⟩ : ∃ B, B = bs (nb m.ak.ver 4 : List UInt8) := ⟨_, rfl⟩
  have HLVB := Lib.hid (show lv = B1 ++ B2 ++ B3 ++ B4 ++ B5 from by
    rw [HLV.out, hB1, hB2, hB3, hB4, hB5]
    simp only [bs_append]
    unfold Ms.lay
    rw [HK.out]
    simp only [List.append_assoc, List.cons_append, List.nil_append]
    show bs (nb m.dst.toNat 1 ++ nb m.hops.toNat 1 ++ nb m.ak.frm.toNat 1 ++ nb m.ak.ep 4 ++ nb m.ak.dst.toNat 1 ++ nb m.ak.lif 4 ++ nb m.ak.ver 4) = _
    simp only [nb_one, List.append_assoc, List.cons_append, List.nil_append])
  have s1 : B1.size = 3 := by rw [hB1, bs_size]; rfl
  have s2 : B2.size = 4 := by rw [hB2, bs_size, nb_len]
  have s3 : B3.size = 1 := by rw [hB3, bs_size]; rfl
  have s4 : B4.size = 4 := by rw [hB4, bs_size, nb_len]
  have s5 : B5.size = 4 := by rw [hB5, bs_size, nb_len]
  have hz1 : ¬ 9223372036854775807 < (B1).size + B2.size := by (try simp only [ByteArray.size_append]); omega
  have hz2 : ¬ 9223372036854775807 < (B1 ++ B2).size + B3.size := by (try simp only [ByteArray.size_append]); omega
  have hz2' : ¬ 9223372036854775807 < B1.size + B2.size + B3.size := by omega
  have hz3 : ¬ 9223372036854775807 < (B1 ++ B2 ++ B3).size + B4.size := by (try simp only [ByteArray.size_append]); omega
  have hz3' : ¬ 9223372036854775807 < B1.size + B2.size + B3.size + B4.size := by omega
  have hz4 : ¬ 9223372036854775807 < (B1 ++ B2 ++ B3 ++ B4).size + B5.size := by (try simp only [ByteArray.size_append]); omega
  have hz4' : ¬ 9223372036854775807 < B1.size + B2.size + B3.size + B4.size + B5.size := by omega
  have HF1 := Lib.hid (show ∀ V, Calls Try.prog 25 #[.int .u32 m.ak.ep] V fun e X => e = .returned (.string B2) ∧ Below V.heap.size V X from fun V => by rw [hB2]; exact four19_any m.ak.ep V HOK.out.2.2.2.2.2.2.2.2.1)
  have HF2 := Lib.hid (show ∀ V, Calls Try.prog 25 #[.int .u32 m.ak.lif] V fun e X => e = .returned (.string B4) ∧ Below V.heap.size V X from fun V => by rw [hB4]; exact four19_any m.ak.lif V HOK.out.2.2.2.2.2.2.2.2.2.2.1)
  have HF3 := Lib.hid (show ∀ V, Calls Try.prog 25 #[.int .u32 m.ak.ver] V fun e X => e = .returned (.string B5) ∧ Below V.heap.size V X from fun V => by rw [hB5]; exact four19_any m.ak.ver V HOK.out.2.2.2.2.2.2.2.2.2.2.2)
  have HB1 := Lib.hid hB1
  have HB3 := Lib.hid hB3
  have w1 : IntKind.u8.wrap m.dst = m.dst := IntWalk.u8_in _ (by omega)
  have w2 : IntKind.u8.wrap m.hops = m.hops := IntWalk.u8_in _ (by omega)
  have w3 : IntKind.u8.wrap m.ak.frm = m.ak.frm := IntWalk.u8_in _ (by omega)
  have w4 : IntKind.u8.wrap m.ak.dst = m.ak.dst := IntWalk.u8_in _ (by omega)
  clear hy1 hy2 hgl hB1 hB2 hB3 hB4 hB5 s1 s2 s3 s4 s5
  obtain ⟨q, hq⟩ : ∃ q, q = V.heap.size := ⟨_, rfl⟩
  obtain ⟨Y, hY⟩ : ∃ Y, Y = V.alloc (.cells #[.int .i64 m.ak.frm, .int .u32 m.ak.ep, .int .i64 m.ak.dst, .int .u32 m.ak.lif, .int .u32 m.ak.ver] 36) := ⟨_, rfl⟩
  have HY := Lib.hid (show EkS W m sa sc q m.ak.cs 36 [] Y from by
    have hb : Below V.heap.size V Y := by rw [hY]; exact (Below.refl _ _).alloc (Nat.le_refl _) _
    exact ⟨HS2.out.later hb, by rw [hY, hq]; exact heap_alloc_new _ _, fun p hp => by cases hp⟩)
  have HYE := Lib.hid hY
  have HQE := Lib.hid hq
  clear hY hq
  go_upto_block 0 with fail
  go_cut [5] (fun s5 wx => s5 = .string lv ∧ RkS W m sa sc wx)
  case first =>
    go_upto_region 7 with fail
    rw [← HYE.out, ← HQE.out]
    clear x0 x21 x22 x27 x28 x29 x30 x31
    obtain ⟨U0, hU⟩ : ∃ U, U = Y.drew := ⟨_, rfl⟩
    have HSU0 := Lib.hid (show EkS W m sa sc q m.ak.cs 36 [] U0 by rw [hU]; exact HY.out.later (drew_below _))
    have HUE := Lib.hid hU
    clear hU
    refine wp_region_grow (.look 0 (.look 1 (.look 2 (.look 3 (.look 4 (.look 5 (.look 6 (.look 7 (.look 8 (.look 11 (.look 12 (.look 15 (.look 16 (.look 17 (.look 21 (.look 22 (.look 25 (.look 26 (.three 9 (.look 10 (.two 13 (.look 14 (.two 18 (.look 19 (.look 20 (.one 23 (.look 24 (.one 27 (.look 28 (.look 29 .nil))))))) 23 (.two 18 (.look 19 (.look 20 (.look 24 (.one 27 (.look 28 (.look 29 .nil)))))) 27 (.one 18 (.look 19 (.look 20 (.look 24 (.look 28 (.look 29 .nil))))))))) 18 (.look 19 (.one 13 (.look 14 (.look 20 (.one 23 (.look 24 (.one 27 (.look 28 (.look 29 .nil))))))))))) 13 (.three 9 (.look 10 (.look 14 (.two 18 (.look 19 (.look 20 (.one 23 (.look 24 (.one 27 (.look 28 (.look 29 .nil))))))) 23 (.two 18 (.look 19 (.look 20 (.look 24 (.one 27 (.look 28 (.look 29 .nil)))))) 27 (.one 18 (.look 19 (.look 20 (.look 24 (.look 28 (.look 29 .nil)))))))))) 18 (.look 19 (.two 9 (.look 10 (.look 14 (.look 20 (.one 23 (.look 24 (.one 27 (.look 28 (.look 29 .nil)))))))) 23 (.two 9 (.look 10 (.look 14 (.look 20 (.look 24 (.one 27 (.look 28 (.look 29 .nil))))))) 27 (.one 9 (.look 10 (.look 14 (.look 20 (.look 24 (.look 28 (.look 29 .nil)))))))))) 23 (.three 9 (.look 10 (.look 14 (.two 18 (.look 19 (.look 20 (.look 24 (.one 27 (.look 28 (.look 29 .nil)))))) 27 (.one 18 (.look 19 (.look 20 (.look 24 (.look 28 (.look 29 .nil))))))))) 18 (.look 19 (.two 9 (.look 10 (.look 14 (.look 20 (.look 24 (.one 27 (.look 28 (.look 29 .nil))))))) 27 (.one 9 (.look 10 (.look 14 (.look 20 (.look 24 (.look 28 (.look 29 .nil))))))))) 27 (.two 9 (.look 10 (.look 14 (.one 18 (.look 19 (.look 20 (.look 24 (.look 28 (.look 29 .nil)))))))) 18 (.look 19 (.one 9 (.look 10 (.look 14 (.look 20 (.look 24 (.look 28 (.look 29 .nil))))))))))) 18 (.look 19 (.two 9 (.look 10 (.one 13 (.look 14 (.look 20 (.one 23 (.look 24 (.one 27 (.look 28 (.look 29 .nil))))))))) 13 (.two 9 (.look 10 (.look 14 (.look 20 (.one 23 (.look 24 (.one 27 (.look 28 (.look 29 .nil)))))))) 23 (.two 9 (.look 10 (.look 14 (.look 20 (.look 24 (.one 27 (.look 28 (.look 29 .nil))))))) 27 (.one 9 (.look 10 (.look 14 (.look 20 (.look 24 (.look 28 (.look 29 .nil)))))))))))))))))))))))))))))) (EkS W m sa sc q m.ak.cs 36 []) (by kernel_rfl) (by kernel_rfl) (by decide) (by kernel_rfl) (fun d _ _ _ _ h => by cases d <;> exact h) (by rw [← HUE.out]; exact HSU0.out) ?_
    rw [← HUE.out]
    (apply wpOS_take rfl rfl (by kernel_rfl); (intro V hV; go_simp; rfl)); (try simp only [List.setIfInBounds_toArray, List.set_cons_succ, List.set_cons_zero])
    (apply wpOS_take rfl rfl (by kernel_rfl); (intro V hV; have xx : V.cell? ⟨W.heap.size, 21, none⟩ = some (.int .i64 m.dst) := hV.rk.box.cell rfl; go_simp; rfl)); (try simp only [List.setIfInBounds_toArray, List.set_cons_succ, List.set_cons_zero])
    (apply wpOS_take rfl rfl (by kernel_rfl); (intro V hV; go_simp; rfl)); (try simp only [List.setIfInBounds_toArray, List.set_cons_succ, List.set_cons_zero])
    (apply wpOS_take rfl rfl (by kernel_rfl); (intro V hV; go_simp; rfl)); (try simp only [List.setIfInBounds_toArray, List.set_cons_succ, List.set_cons_zero])
    (apply wpOS_take rfl rfl (by kernel_rfl); (intro V hV; have xx : V.cell? ⟨W.heap.size, 22, none⟩ = some (.int .i64 m.hops) := hV.rk.box.cell rfl; go_simp; rfl)); (try simp only [List.setIfInBounds_toArray, List.set_cons_succ, List.set_cons_zero])
    (apply wpOS_take rfl rfl (by kernel_rfl); (intro V hV; go_simp; rfl)); (try simp only [List.setIfInBounds_toArray, List.set_cons_succ, List.set_cons_zero])
    (apply wpOS_take rfl rfl (by kernel_rfl); (intro V hV; go_simp; rfl)); (try simp only [List.setIfInBounds_toArray, List.set_cons_succ, List.set_cons_zero])
    (apply wpOS_take rfl rfl (by kernel_rfl); (intro V hV; have xx := hV.c 0 (.int .i64 m.ak.frm) rfl; go_simp; rfl)); (try simp only [List.setIfInBounds_toArray, List.set_cons_succ, List.set_cons_zero])
    (apply wpOS_take rfl rfl (by kernel_rfl); (intro V hV; go_simp; rfl)); (try simp only [List.setIfInBounds_toArray, List.set_cons_succ, List.set_cons_zero])
    (apply wpOS_take rfl rfl (by kernel_rfl); (intro V hV; go_simp; rfl)); (try simp only [List.setIfInBounds_toArray, List.set_cons_succ, List.set_cons_zero])
    (apply wpOS_take rfl rfl (by kernel_rfl); (intro V hV; have xx := hV.c 1 (.int .u32 m.ak.ep) rfl; go_simp; rfl)); (try simp only [List.setIfInBounds_toArray, List.set_cons_succ, List.set_cons_zero])
    (apply wpOS_take rfl rfl (by kernel_rfl); (intro V hV; go_simp; rfl)); (try simp only [List.setIfInBounds_toArray, List.set_cons_succ, List.set_cons_zero])
    (apply wpOS_take rfl rfl (by kernel_rfl); (intro V hV; have xx := hV.c 2 (.int .i64 m.ak.dst) rfl; go_simp; rfl)); (try simp only [List.setIfInBounds_toArray, List.set_cons_succ, List.set_cons_zero])
    (apply wpOS_take rfl rfl (by kernel_rfl); (intro V hV; go_simp; rfl)); (try simp only [List.setIfInBounds_toArray, List.set_cons_succ, List.set_cons_zero])
    (apply wpOS_take rfl rfl (by kernel_rfl); (intro V hV; go_simp; rfl)); (try simp only [List.setIfInBounds_toArray, List.set_cons_succ, List.set_cons_zero])
    (apply wpOS_take rfl rfl (by kernel_rfl); (intro V hV; have xx := hV.c 3 (.int .u32 m.ak.lif) rfl; go_simp; rfl)); (try simp only [List.setIfInBounds_toArray, List.set_cons_succ, List.set_cons_zero])
    (apply wpOS_take rfl rfl (by kernel_rfl); (intro V hV; go_simp; rfl)); (try simp only [List.setIfInBounds_toArray, List.set_cons_succ, List.set_cons_zero])
    (apply wpOS_take rfl rfl (by kernel_rfl); (intro V hV; have xx := hV.c 4 (.int .u32 m.ak.ver) rfl; go_simp; rfl)); (try simp only [List.setIfInBounds_toArray, List.set_cons_succ, List.set_cons_zero])
    apply wpOS_three
    · skip
      obtain ⟨g1, hg1⟩ : ∃ g, g = U0.heap.size := ⟨_, rfl⟩
      apply wpOS_do rfl (by kernel_rfl) (EkS W m sa sc q m.ak.cs 36 [(g1, [toU8 m.dst.toNat, toU8 m.hops.toNat, toU8 m.ak.frm.toNat])]) (fun _ h => h.drop)
      intro K hK
      go_simp
      obtain ⟨U1, hU1⟩ : ∃ U, U = U0.alloc (.cells #[.int .u8 m.dst, .int .u8 m.hops, .int .u8 m.ak.frm] 5) := ⟨_, rfl⟩
      have HSU1 := Lib.hid (HSU0.out.make g1 hg1 [toU8 m.dst.toNat, toU8 m.hops.toNat, toU8 m.ak.frm.toNat] #[.int .u8 m.dst, .int .u8 m.hops, .int .u8 m.ak.frm] HC0.out (by simp [maxLen]) hU1)
      rw [← hU1, ← hg1]
      refine hK _ _ HSU1.out ?_
      clear hK K hU1 hg1
      (apply wpOS_take rfl rfl (by kernel_rfl); (intro V hV; have hcv := run_string_row (P := Try.prog) 52 9 Try.underlying52 Try.underlying5 Try.underlying9 (hV.rows (g1, [toU8 m.dst.toNat, toU8 m.hops.toNat, toU8 m.ak.frm.toNat]) (List.mem_cons_self ..)); rw [← HB1.out] at hcv; simp only [List.length_cons, List.length_nil, Nat.zero_add, Nat.reduceAdd] at hcv; go_simp; rfl)); (try simp only [List.setIfInBounds_toArray, List.set_cons_succ, List.set_cons_zero])
      apply wpOS_two
      · skip
        apply wpOS_do rfl (by kernel_rfl) _ (fun _ h => h)
        intro K hK
        go_simp
        refine (HF1.out _).mono ?_
        rintro e U2 ⟨rfl, hb⟩
        have HSU2 := Lib.hid (HSU1.out.later hb)
        refine hK _ _ HSU2.out ?_
        clear hK K hb
        (apply wpOS_take rfl rfl (by kernel_rfl); (intro V hV; go_simp; rfl)); (try simp only [List.setIfInBounds_toArray, List.set_cons_succ, List.set_cons_zero])
        apply wpOS_two
        · skip
          obtain ⟨g3, hg3⟩ : ∃ g, g = U2.heap.size := ⟨_, rfl⟩
          apply wpOS_do rfl (by kernel_rfl) (EkS W m sa sc q m.ak.cs 36 [(g3, [toU8 m.ak.dst.toNat]), (g1, [toU8 m.dst.toNat, toU8 m.hops.toNat, toU8 m.ak.frm.toNat])]) (fun _ h => h.drop)
          intro K hK
          go_simp
          obtain ⟨U3, hU3⟩ : ∃ U, U = U2.alloc (.cells #[.int .u8 m.ak.dst] 5) := ⟨_, rfl⟩
          have HSU3 := Lib.hid (HSU2.out.make g3 hg3 [toU8 m.ak.dst.toNat] #[.int .u8 m.ak.dst] HC3.out (by simp [maxLen]) hU3)
          rw [← hU3, ← hg3]
          refine hK _ _ HSU3.out ?_
          clear hK K hU3 hg3
          (apply wpOS_take rfl rfl (by kernel_rfl); (intro V hV; have hcv := run_string_row (P := Try.prog) 52 9 Try.underlying52 Try.underlying5 Try.underlying9 (hV.rows (g3, [toU8 m.ak.dst.toNat]) (List.mem_cons_self ..)); rw [← HB3.out] at hcv; simp only [List.length_cons, List.length_nil, Nat.zero_add, Nat.reduceAdd] at hcv; go_simp; rfl)); (try simp only [List.setIfInBounds_toArray, List.set_cons_succ, List.set_cons_zero])
          (apply wpOS_take rfl rfl (by kernel_rfl); (intro V hV; go_simp; rfl)); (try simp only [List.setIfInBounds_toArray, List.set_cons_succ, List.set_cons_zero])
          apply wpOS_do rfl (by kernel_rfl) _ (fun _ h => h)
          intro K hK
          go_simp
          refine (HF2.out _).mono ?_
          rintro e U4 ⟨rfl, hb⟩
          have HSU4 := Lib.hid (HSU3.out.later hb)
          refine hK _ _ HSU4.out ?_
          clear hK K hb
          (apply wpOS_take rfl rfl (by kernel_rfl); (intro V hV; go_simp; rfl)); (try simp only [List.setIfInBounds_toArray, List.set_cons_succ, List.set_cons_zero])
          apply wpOS_do rfl (by kernel_rfl) _ (fun _ h => h)
          intro K hK
          go_simp
          refine (HF3.out _).mono ?_
          rintro e U5 ⟨rfl, hb⟩
          have HSU5 := Lib.hid (HSU4.out.later hb)
          refine hK _ _ HSU5.out ?_
          clear hK K hb
          (apply wpOS_take rfl rfl (by kernel_rfl); (intro V hV; go_simp; rfl)); (try simp only [List.setIfInBounds_toArray, List.set_cons_succ, List.set_cons_zero])
          (apply wpOS_take rfl rfl (by kernel_rfl); (intro V hV; go_simp; rfl)); (try simp only [List.setIfInBounds_toArray, List.set_cons_succ, List.set_cons_zero])
          refine wpOS_nil ?_
          go_wp2_with fail
          go_meet
          exact ⟨by rw [HLVB.out], HSU5.out.rk⟩
        · skip
          apply wpOS_do rfl (by kernel_rfl) _ (fun _ h => h)
          intro K hK
          go_simp
          refine (HF2.out _).mono ?_
          rintro e U6 ⟨rfl, hb⟩
          have HSU6 := Lib.hid (HSU2.out.later hb)
          refine hK _ _ HSU6.out ?_
          clear hK K hb
          apply wpOS_two
          · skip
            obtain ⟨g7, hg7⟩ : ∃ g, g = U6.heap.size := ⟨_, rfl⟩
            apply wpOS_do rfl (by kernel_rfl) (EkS W m sa sc q m.ak.cs 36 [(g7, [toU8 m.ak.dst.toNat]), (g1, [toU8 m.dst.toNat, toU8 m.hops.toNat, toU8 m.ak.frm.toNat])]) (fun _ h => h.drop)
            intro K hK
            go_simp
            obtain ⟨U7, hU7⟩ : ∃ U, U = U6.alloc (.cells #[.int .u8 m.ak.dst] 5) := ⟨_, rfl⟩
            have HSU7 := Lib.hid (HSU6.out.make g7 hg7 [toU8 m.ak.dst.toNat] #[.int .u8 m.ak.dst] HC3.out (by simp [maxLen]) hU7)
            rw [← hU7, ← hg7]
            refine hK _ _ HSU7.out ?_
            clear hK K hU7 hg7
            (apply wpOS_take rfl rfl (by kernel_rfl); (intro V hV; have hcv := run_string_row (P := Try.prog) 52 9 Try.underlying52 Try.underlying5 Try.underlying9 (hV.rows (g7, [toU8 m.ak.dst.toNat]) (List.mem_cons_self ..)); rw [← HB3.out] at hcv; simp only [List.length_cons, List.length_nil, Nat.zero_add, Nat.reduceAdd] at hcv; go_simp; rfl)); (try simp only [List.setIfInBounds_toArray, List.set_cons_succ, List.set_cons_zero])
            (apply wpOS_take rfl rfl (by kernel_rfl); (intro V hV; go_simp; rfl)); (try simp only [List.setIfInBounds_toArray, List.set_cons_succ, List.set_cons_zero])
            (apply wpOS_take rfl rfl (by kernel_rfl); (intro V hV; go_simp; rfl)); (try simp only [List.setIfInBounds_toArray, List.set_cons_succ, List.set_cons_zero])
            apply wpOS_do rfl (by kernel_rfl) _ (fun _ h => h)
            intro K hK
            go_simp
            refine (HF3.out _).mono ?_
            rintro e U8 ⟨rfl, hb⟩
            have HSU8 := Lib.hid (HSU7.out.later hb)
            refine hK _ _ HSU8.out ?_
            clear hK K hb
            (apply wpOS_take rfl rfl (by kernel_rfl); (intro V hV; go_simp; rfl)); (try simp only [List.setIfInBounds_toArray, List.set_cons_succ, List.set_cons_zero])
            (apply wpOS_take rfl rfl (by kernel_rfl); (intro V hV; go_simp; rfl)); (try simp only [List.setIfInBounds_toArray, List.set_cons_succ, List.set_cons_zero])
            refine wpOS_nil ?_
            go_wp2_with fail
            go_meet
            exact ⟨by rw [HLVB.out], HSU8.out.rk⟩
          · skip
            apply wpOS_do rfl (by kernel_rfl) _ (fun _ h => h)
            intro K hK
            go_simp
            refine (HF3.out _).mono ?_
            rintro e U9 ⟨rfl, hb⟩
            have HSU9 := Lib.hid (HSU6.out.later hb)
            refine hK _ _ HSU9.out ?_
            clear hK K hb
            obtain ⟨g10, hg10⟩ : ∃ g, g = U9.heap.size := ⟨_, rfl⟩
            apply wpOS_do rfl (by kernel_rfl) (EkS W m sa sc q m.ak.cs 36 [(g10, [toU8 m.ak.dst.toNat]), (g1, [toU8 m.dst.toNat, toU8 m.hops.toNat, toU8 m.ak.frm.toNat])]) (fun _ h => h.drop)
            intro K hK
            go_simp
            obtain ⟨U10, hU10⟩ : ∃ U, U = U9.alloc (.cells #[.int .u8 m.ak.dst] 5) := ⟨_, rfl⟩
            have HSU10 := Lib.hid (HSU9.out.make g10 hg10 [toU8 m.ak.dst.toNat] #[.int .u8 m.ak.dst] HC3.out (by simp [maxLen]) hU10)
            rw [← hU10, ← hg10]
            refine hK _ _ HSU10.out ?_
            clear hK K hU10 hg10
            (apply wpOS_take rfl rfl (by kernel_rfl); (intro V hV; have hcv := run_string_row (P := Try.prog) 52 9 Try.underlying52 Try.underlying5 Try.underlying9 (hV.rows (g10, [toU8 m.ak.dst.toNat]) (List.mem_cons_self ..)); rw [← HB3.out] at hcv; simp only [List.length_cons, List.length_nil, Nat.zero_add, Nat.reduceAdd] at hcv; go_simp; rfl)); (try simp only [List.setIfInBounds_toArray, List.set_cons_succ, List.set_cons_zero])
            (apply wpOS_take rfl rfl (by kernel_rfl); (intro V hV; go_simp; rfl)); (try simp only [List.setIfInBounds_toArray, List.set_cons_succ, List.set_cons_zero])
            (apply wpOS_take rfl rfl (by kernel_rfl); (intro V hV; go_simp; rfl)); (try simp only [List.setIfInBounds_toArray, List.set_cons_succ, List.set_cons_zero])
            (apply wpOS_take rfl rfl (by kernel_rfl); (intro V hV; go_simp; rfl)); (try simp only [List.setIfInBounds_toArray, List.set_cons_succ, List.set_cons_zero])
            (apply wpOS_take rfl rfl (by kernel_rfl); (intro V hV; go_simp; rfl)); (try simp only [List.setIfInBounds_toArray, List.set_cons_succ, List.set_cons_zero])
            refine wpOS_nil ?_
            go_wp2_with fail
            go_meet
            exact ⟨by rw [HLVB.out], HSU10.out.rk⟩
      · skip
        obtain ⟨g11, hg11⟩ : ∃ g, g = U1.heap.size := ⟨_, rfl⟩
        apply wpOS_do rfl (by kernel_rfl) (EkS W m sa sc q m.ak.cs 36 [(g11, [toU8 m.ak.dst.toNat]), (g1, [toU8 m.dst.toNat, toU8 m.hops.toNat, toU8 m.ak.frm.toNat])]) (fun _ h => h.drop)
        intro K hK
        go_simp
        obtain ⟨U11, hU11⟩ : ∃ U, U = U1.alloc (.cells #[.int .u8 m.ak.dst] 5) := ⟨_, rfl⟩
        have HSU11 := Lib.hid (HSU1.out.make g11 hg11 [toU8 m.ak.dst.toNat] #[.int .u8 m.ak.dst] HC3.out (by simp [maxLen]) hU11)
        rw [← hU11, ← hg11]
        refine hK _ _ HSU11.out ?_
        clear hK K hU11 hg11
        (apply wpOS_take rfl rfl (by kernel_rfl); (intro V hV; have hcv := run_string_row (P := Try.prog) 52 9 Try.underlying52 Try.underlying5 Try.underlying9 (hV.rows (g11, [toU8 m.ak.dst.toNat]) (List.mem_cons_self ..)); rw [← HB3.out] at hcv; simp only [List.length_cons, List.length_nil, Nat.zero_add, Nat.reduceAdd] at hcv; go_simp; rfl)); (try simp only [List.setIfInBounds_toArray, List.set_cons_succ, List.set_cons_zero])
        apply wpOS_do rfl (by kernel_rfl) _ (fun _ h => h)
        intro K hK
        go_simp
        refine (HF1.out _).mono ?_
        rintro e U12 ⟨rfl, hb⟩
        have HSU12 := Lib.hid (HSU11.out.later hb)
        refine hK _ _ HSU12.out ?_
        clear hK K hb
        (apply wpOS_take rfl rfl (by kernel_rfl); (intro V hV; go_simp; rfl)); (try simp only [List.setIfInBounds_toArray, List.set_cons_succ, List.set_cons_zero])
        (apply wpOS_take rfl rfl (by kernel_rfl); (intro V hV; go_simp; rfl)); (try simp only [List.setIfInBounds_toArray, List.set_cons_succ, List.set_cons_zero])
        apply wpOS_do rfl (by kernel_rfl) _ (fun _ h => h)
        intro K hK
        go_simp
        refine (HF2.out _).mono ?_
        rintro e U13 ⟨rfl, hb⟩
        have HSU13 := Lib.hid (HSU12.out.later hb)
        refine hK _ _ HSU13.out ?_
        clear hK K hb
        (apply wpOS_take rfl rfl (by kernel_rfl); (intro V hV; go_simp; rfl)); (try simp only [List.setIfInBounds_toArray, List.set_cons_succ, List.set_cons_zero])
        apply wpOS_do rfl (by kernel_rfl) _ (fun _ h => h)
        intro K hK
        go_simp
        refine (HF3.out _).mono ?_
        rintro e U14 ⟨rfl, hb⟩
        have HSU14 := Lib.hid (HSU13.out.later hb)
        refine hK _ _ HSU14.out ?_
        clear hK K hb
        (apply wpOS_take rfl rfl (by kernel_rfl); (intro V hV; go_simp; rfl)); (try simp only [List.setIfInBounds_toArray, List.set_cons_succ, List.set_cons_zero])
        (apply wpOS_take rfl rfl (by kernel_rfl); (intro V hV; go_simp; rfl)); (try simp only [List.setIfInBounds_toArray, List.set_cons_succ, List.set_cons_zero])
        refine wpOS_nil ?_
        go_wp2_with fail
        go_meet
        exact ⟨by rw [HLVB.out], HSU14.out.rk⟩
    · skip
      apply wpOS_do rfl (by kernel_rfl) _ (fun _ h => h)
      intro K hK
      go_simp
      refine (HF1.out _).mono ?_
      rintro e U15 ⟨rfl, hb⟩
      have HSU15 := Lib.hid (HSU0.out.later hb)
      refine hK _ _ HSU15.out ?_
      clear hK K hb
      apply wpOS_three
      · skip
        obtain ⟨g16, hg16⟩ : ∃ g, g = U15.heap.size := ⟨_, rfl⟩
        apply wpOS_do rfl (by kernel_rfl) (EkS W m sa sc q m.ak.cs 36 [(g16, [toU8 m.dst.toNat, toU8 m.hops.toNat, toU8 m.ak.frm.toNat])]) (fun _ h => h.drop)
        intro K hK
        go_simp
        obtain ⟨U16, hU16⟩ : ∃ U, U = U15.alloc (.cells #[.int .u8 m.dst, .int .u8 m.hops, .int .u8 m.ak.frm] 5) := ⟨_, rfl⟩
        have HSU16 := Lib.hid (HSU15.out.make g16 hg16 [toU8 m.dst.toNat, toU8 m.hops.toNat, toU8 m.ak.frm.toNat] #[.int .u8 m.dst, .int .u8 m.hops, .int .u8 m.ak.frm] HC0.out (by simp [maxLen]) hU16)
        rw [← hU16, ← hg16]
        refine hK _ _ HSU16.out ?_
        clear hK K hU16 hg16
        (apply wpOS_take rfl rfl (by kernel_rfl); (intro V hV; have hcv := run_string_row (P := Try.prog) 52 9 Try.underlying52 Try.underlying5 Try.underlying9 (hV.rows (g16, [toU8 m.dst.toNat, toU8 m.hops.toNat, toU8 m.ak.frm.toNat]) (List.mem_cons_self ..)); rw [← HB1.out] at hcv; simp only [List.length_cons, List.length_nil, Nat.zero_add, Nat.reduceAdd] at hcv; go_simp; rfl)); (try simp only [List.setIfInBounds_toArray, List.set_cons_succ, List.set_cons_zero])
        (apply wpOS_take rfl rfl (by kernel_rfl); (intro V hV; go_simp; rfl)); (try simp only [List.setIfInBounds_toArray, List.set_cons_succ, List.set_cons_zero])
        apply wpOS_two
        · skip
          obtain ⟨g17, hg17⟩ : ∃ g, g = U16.heap.size := ⟨_, rfl⟩
          apply wpOS_do rfl (by kernel_rfl) (EkS W m sa sc q m.ak.cs 36 [(g17, [toU8 m.ak.dst.toNat]), (g16, [toU8 m.dst.toNat, toU8 m.hops.toNat, toU8 m.ak.frm.toNat])]) (fun _ h => h.drop)
          intro K hK
          go_simp
          obtain ⟨U17, hU17⟩ : ∃ U, U = U16.alloc (.cells #[.int .u8 m.ak.dst] 5) := ⟨_, rfl⟩
          have HSU17 := Lib.hid (HSU16.out.make g17 hg17 [toU8 m.ak.dst.toNat] #[.int .u8 m.ak.dst] HC3.out (by simp [maxLen]) hU17)
          rw [← hU17, ← hg17]
          refine hK _ _ HSU17.out ?_
          clear hK K hU17 hg17
          (apply wpOS_take rfl rfl (by kernel_rfl); (intro V hV; have hcv := run_string_row (P := Try.prog) 52 9 Try.underlying52 Try.underlying5 Try.underlying9 (hV.rows (g17, [toU8 m.ak.dst.toNat]) (List.mem_cons_self ..)); rw [← HB3.out] at hcv; simp only [List.length_cons, List.length_nil, Nat.zero_add, Nat.reduceAdd] at hcv; go_simp; rfl)); (try simp only [List.setIfInBounds_toArray, List.set_cons_succ, List.set_cons_zero])
          (apply wpOS_take rfl rfl (by kernel_rfl); (intro V hV; go_simp; rfl)); (try simp only [List.setIfInBounds_toArray, List.set_cons_succ, List.set_cons_zero])
          apply wpOS_do rfl (by kernel_rfl) _ (fun _ h => h)
          intro K hK
          go_simp
          refine (HF2.out _).mono ?_
          rintro e U18 ⟨rfl, hb⟩
          have HSU18 := Lib.hid (HSU17.out.later hb)
          refine hK _ _ HSU18.out ?_
          clear hK K hb
          (apply wpOS_take rfl rfl (by kernel_rfl); (intro V hV; go_simp; rfl)); (try simp only [List.setIfInBounds_toArray, List.set_cons_succ, List.set_cons_zero])
          apply wpOS_do rfl (by kernel_rfl) _ (fun _ h => h)
          intro K hK
          go_simp
          refine (HF3.out _).mono ?_
          rintro e U19 ⟨rfl, hb⟩
          have HSU19 := Lib.hid (HSU18.out.later hb)
          refine hK _ _ HSU19.out ?_
          clear hK K hb
          (apply wpOS_take rfl rfl (by kernel_rfl); (intro V hV; go_simp; rfl)); (try simp only [List.setIfInBounds_toArray, List.set_cons_succ, List.set_cons_zero])
          (apply wpOS_take rfl rfl (by kernel_rfl); (intro V hV; go_simp; rfl)); (try simp only [List.setIfInBounds_toArray, List.set_cons_succ, List.set_cons_zero])
          refine wpOS_nil ?_
          go_wp2_with fail
          go_meet
          exact ⟨by rw [HLVB.out], HSU19.out.rk⟩
        · skip
          apply wpOS_do rfl (by kernel_rfl) _ (fun _ h => h)
          intro K hK
          go_simp
          refine (HF2.out _).mono ?_
          rintro e U20 ⟨rfl, hb⟩
          have HSU20 := Lib.hid (HSU16.out.later hb)
          refine hK _ _ HSU20.out ?_
          clear hK K hb
          apply wpOS_two
          · skip
            obtain ⟨g21, hg21⟩ : ∃ g, g = U20.heap.size := ⟨_, rfl⟩
            apply wpOS_do rfl (by kernel_rfl) (EkS W m sa sc q m.ak.cs 36 [(g21, [toU8 m.ak.dst.toNat]), (g16, [toU8 m.dst.toNat, toU8 m.hops.toNat, toU8 m.ak.frm.toNat])]) (fun _ h => h.drop)
            intro K hK
            go_simp
            obtain ⟨U21, hU21⟩ : ∃ U, U = U20.alloc (.cells #[.int .u8 m.ak.dst] 5) := ⟨_, rfl⟩
            have HSU21 := Lib.hid (HSU20.out.make g21 hg21 [toU8 m.ak.dst.toNat] #[.int .u8 m.ak.dst] HC3.out (by simp [maxLen]) hU21)
            rw [← hU21, ← hg21]
            refine hK _ _ HSU21.out ?_
            clear hK K hU21 hg21
            (apply wpOS_take rfl rfl (by kernel_rfl); (intro V hV; have hcv := run_string_row (P := Try.prog) 52 9 Try.underlying52 Try.underlying5 Try.underlying9 (hV.rows (g21, [toU8 m.ak.dst.toNat]) (List.mem_cons_self ..)); rw [← HB3.out] at hcv; simp only [List.length_cons, List.length_nil, Nat.zero_add, Nat.reduceAdd] at hcv; go_simp; rfl)); (try simp only [List.setIfInBounds_toArray, List.set_cons_succ, List.set_cons_zero])
            (apply wpOS_take rfl rfl (by kernel_rfl); (intro V hV; go_simp; rfl)); (try simp only [List.setIfInBounds_toArray, List.set_cons_succ, List.set_cons_zero])
            (apply wpOS_take rfl rfl (by kernel_rfl); (intro V hV; go_simp; rfl)); (try simp only [List.setIfInBounds_toArray, List.set_cons_succ, List.set_cons_zero])
            apply wpOS_do rfl (by kernel_rfl) _ (fun _ h => h)
            intro K hK
            go_simp
            refine (HF3.out _).mono ?_
            rintro e U22 ⟨rfl, hb⟩
            have HSU22 := Lib.hid (HSU21.out.later hb)
            refine hK _ _ HSU22.out ?_
            clear hK K hb
            (apply wpOS_take rfl rfl (by kernel_rfl); (intro V hV; go_simp; rfl)); (try simp only [List.setIfInBounds_toArray, List.set_cons_succ, List.set_cons_zero])
            (apply wpOS_take rfl rfl (by kernel_rfl); (intro V hV; go_simp; rfl)); (try simp only [List.setIfInBounds_toArray, List.set_cons_succ, List.set_cons_zero])
            refine wpOS_nil ?_
            go_wp2_with fail
            go_meet
            exact ⟨by rw [HLVB.out], HSU22.out.rk⟩
          · skip
            apply wpOS_do rfl (by kernel_rfl) _ (fun _ h => h)
            intro K hK
            go_simp
            refine (HF3.out _).mono ?_
            rintro e U23 ⟨rfl, hb⟩
            have HSU23 := Lib.hid (HSU20.out.later hb)
            refine hK _ _ HSU23.out ?_
            clear hK K hb
            obtain ⟨g24, hg24⟩ : ∃ g, g = U23.heap.size := ⟨_, rfl⟩
            apply wpOS_do rfl (by kernel_rfl) (EkS W m sa sc q m.ak.cs 36 [(g24, [toU8 m.ak.dst.toNat]), (g16, [toU8 m.dst.toNat, toU8 m.hops.toNat, toU8 m.ak.frm.toNat])]) (fun _ h => h.drop)
            intro K hK
            go_simp
            obtain ⟨U24, hU24⟩ : ∃ U, U = U23.alloc (.cells #[.int .u8 m.ak.dst] 5) := ⟨_, rfl⟩
            have HSU24 := Lib.hid (HSU23.out.make g24 hg24 [toU8 m.ak.dst.toNat] #[.int .u8 m.ak.dst] HC3.out (by simp [maxLen]) hU24)
            rw [← hU24, ← hg24]
            refine hK _ _ HSU24.out ?_
            clear hK K hU24 hg24
            (apply wpOS_take rfl rfl (by kernel_rfl); (intro V hV; have hcv := run_string_row (P := Try.prog) 52 9 Try.underlying52 Try.underlying5 Try.underlying9 (hV.rows (g24, [toU8 m.ak.dst.toNat]) (List.mem_cons_self ..)); rw [← HB3.out] at hcv; simp only [List.length_cons, List.length_nil, Nat.zero_add, Nat.reduceAdd] at hcv; go_simp; rfl)); (try simp only [List.setIfInBounds_toArray, List.set_cons_succ, List.set_cons_zero])
            (apply wpOS_take rfl rfl (by kernel_rfl); (intro V hV; go_simp; rfl)); (try simp only [List.setIfInBounds_toArray, List.set_cons_succ, List.set_cons_zero])
            (apply wpOS_take rfl rfl (by kernel_rfl); (intro V hV; go_simp; rfl)); (try simp only [List.setIfInBounds_toArray, List.set_cons_succ, List.set_cons_zero])
            (apply wpOS_take rfl rfl (by kernel_rfl); (intro V hV; go_simp; rfl)); (try simp only [List.setIfInBounds_toArray, List.set_cons_succ, List.set_cons_zero])
            (apply wpOS_take rfl rfl (by kernel_rfl); (intro V hV; go_simp; rfl)); (try simp only [List.setIfInBounds_toArray, List.set_cons_succ, List.set_cons_zero])
            refine wpOS_nil ?_
            go_wp2_with fail
            go_meet
            exact ⟨by rw [HLVB.out], HSU24.out.rk⟩
      · skip
        obtain ⟨g25, hg25⟩ : ∃ g, g = U15.heap.size := ⟨_, rfl⟩
        apply wpOS_do rfl (by kernel_rfl) (EkS W m sa sc q m.ak.cs 36 [(g25, [toU8 m.ak.dst.toNat])]) (fun _ h => h.drop)
        intro K hK
        go_simp
        obtain ⟨U25, hU25⟩ : ∃ U, U = U15.alloc (.cells #[.int .u8 m.ak.dst] 5) := ⟨_, rfl⟩
        have HSU25 := Lib.hid (HSU15.out.make g25 hg25 [toU8 m.ak.dst.toNat] #[.int .u8 m.ak.dst] HC3.out (by simp [maxLen]) hU25)
        rw [← hU25, ← hg25]
        refine hK _ _ HSU25.out ?_
        clear hK K hU25 hg25
        (apply wpOS_take rfl rfl (by kernel_rfl); (intro V hV; have hcv := run_string_row (P := Try.prog) 52 9 Try.underlying52 Try.underlying5 Try.underlying9 (hV.rows (g25, [toU8 m.ak.dst.toNat]) (List.mem_cons_self ..)); rw [← HB3.out] at hcv; simp only [List.length_cons, List.length_nil, Nat.zero_add, Nat.reduceAdd] at hcv; go_simp; rfl)); (try simp only [List.setIfInBounds_toArray, List.set_cons_succ, List.set_cons_zero])
        apply wpOS_two
        · skip
          obtain ⟨g26, hg26⟩ : ∃ g, g = U25.heap.size := ⟨_, rfl⟩
          apply wpOS_do rfl (by kernel_rfl) (EkS W m sa sc q m.ak.cs 36 [(g26, [toU8 m.dst.toNat, toU8 m.hops.toNat, toU8 m.ak.frm.toNat]), (g25, [toU8 m.ak.dst.toNat])]) (fun _ h => h.drop)
          intro K hK
          go_simp
          obtain ⟨U26, hU26⟩ : ∃ U, U = U25.alloc (.cells #[.int .u8 m.dst, .int .u8 m.hops, .int .u8 m.ak.frm] 5) := ⟨_, rfl⟩
          have HSU26 := Lib.hid (HSU25.out.make g26 hg26 [toU8 m.dst.toNat, toU8 m.hops.toNat, toU8 m.ak.frm.toNat] #[.int .u8 m.dst, .int .u8 m.hops, .int .u8 m.ak.frm] HC0.out (by simp [maxLen]) hU26)
          rw [← hU26, ← hg26]
          refine hK _ _ HSU26.out ?_
          clear hK K hU26 hg26
          (apply wpOS_take rfl rfl (by kernel_rfl); (intro V hV; have hcv := run_string_row (P := Try.prog) 52 9 Try.underlying52 Try.underlying5 Try.underlying9 (hV.rows (g26, [toU8 m.dst.toNat, toU8 m.hops.toNat, toU8 m.ak.frm.toNat]) (List.mem_cons_self ..)); rw [← HB1.out] at hcv; simp only [List.length_cons, List.length_nil, Nat.zero_add, Nat.reduceAdd] at hcv; go_simp; rfl)); (try simp only [List.setIfInBounds_toArray, List.set_cons_succ, List.set_cons_zero])
          (apply wpOS_take rfl rfl (by kernel_rfl); (intro V hV; go_simp; rfl)); (try simp only [List.setIfInBounds_toArray, List.set_cons_succ, List.set_cons_zero])
          (apply wpOS_take rfl rfl (by kernel_rfl); (intro V hV; go_simp; rfl)); (try simp only [List.setIfInBounds_toArray, List.set_cons_succ, List.set_cons_zero])
          apply wpOS_do rfl (by kernel_rfl) _ (fun _ h => h)
          intro K hK
          go_simp
          refine (HF2.out _).mono ?_
          rintro e U27 ⟨rfl, hb⟩
          have HSU27 := Lib.hid (HSU26.out.later hb)
          refine hK _ _ HSU27.out ?_
          clear hK K hb
          (apply wpOS_take rfl rfl (by kernel_rfl); (intro V hV; go_simp; rfl)); (try simp only [List.setIfInBounds_toArray, List.set_cons_succ, List.set_cons_zero])
          apply wpOS_do rfl (by kernel_rfl) _ (fun _ h => h)
          intro K hK
          go_simp
          refine (HF3.out _).mono ?_
          rintro e U28 ⟨rfl, hb⟩
          have HSU28 := Lib.hid (HSU27.out.later hb)
          refine hK _ _ HSU28.out ?_
          clear hK K hb
          (apply wpOS_take rfl rfl (by kernel_rfl); (intro V hV; go_simp; rfl)); (try simp only [List.setIfInBounds_toArray, List.set_cons_succ, List.set_cons_zero])
          (apply wpOS_take rfl rfl (by kernel_rfl); (intro V hV; go_simp; rfl)); (try simp only [List.setIfInBounds_toArray, List.set_cons_succ, List.set_cons_zero])
          refine wpOS_nil ?_
          go_wp2_with fail
          go_meet
          exact ⟨by rw [HLVB.out], HSU28.out.rk⟩
        · skip
          apply wpOS_do rfl (by kernel_rfl) _ (fun _ h => h)
          intro K hK
          go_simp
          refine (HF2.out _).mono ?_
          rintro e U29 ⟨rfl, hb⟩
          have HSU29 := Lib.hid (HSU25.out.later hb)
          refine hK _ _ HSU29.out ?_
          clear hK K hb
          apply wpOS_two
          · skip
            obtain ⟨g30, hg30⟩ : ∃ g, g = U29.heap.size := ⟨_, rfl⟩
            apply wpOS_do rfl (by kernel_rfl) (EkS W m sa sc q m.ak.cs 36 [(g30, [toU8 m.dst.toNat, toU8 m.hops.toNat, toU8 m.ak.frm.toNat]), (g25, [toU8 m.ak.dst.toNat])]) (fun _ h => h.drop)
            intro K hK
            go_simp
            obtain ⟨U30, hU30⟩ : ∃ U, U = U29.alloc (.cells #[.int .u8 m.dst, .int .u8 m.hops, .int .u8 m.ak.frm] 5) := ⟨_, rfl⟩
            have HSU30 := Lib.hid (HSU29.out.make g30 hg30 [toU8 m.dst.toNat, toU8 m.hops.toNat, toU8 m.ak.frm.toNat] #[.int .u8 m.dst, .int .u8 m.hops, .int .u8 m.ak.frm] HC0.out (by simp [maxLen]) hU30)
            rw [← hU30, ← hg30]
            refine hK _ _ HSU30.out ?_
            clear hK K hU30 hg30
            (apply wpOS_take rfl rfl (by kernel_rfl); (intro V hV; have hcv := run_string_row (P := Try.prog) 52 9 Try.underlying52 Try.underlying5 Try.underlying9 (hV.rows (g30, [toU8 m.dst.toNat, toU8 m.hops.toNat, toU8 m.ak.frm.toNat]) (List.mem_cons_self ..)); rw [← HB1.out] at hcv; simp only [List.length_cons, List.length_nil, Nat.zero_add, Nat.reduceAdd] at hcv; go_simp; rfl)); (try simp only [List.setIfInBounds_toArray, List.set_cons_succ, List.set_cons_zero])
            (apply wpOS_take rfl rfl (by kernel_rfl); (intro V hV; go_simp; rfl)); (try simp only [List.setIfInBounds_toArray, List.set_cons_succ, List.set_cons_zero])
            (apply wpOS_take rfl rfl (by kernel_rfl); (intro V hV; go_simp; rfl)); (try simp only [List.setIfInBounds_toArray, List.set_cons_succ, List.set_cons_zero])
            (apply wpOS_take rfl rfl (by kernel_rfl); (intro V hV; go_simp; rfl)); (try simp only [List.setIfInBounds_toArray, List.set_cons_succ, List.set_cons_zero])
            apply wpOS_do rfl (by kernel_rfl) _ (fun _ h => h)
            intro K hK
            go_simp
            refine (HF3.out _).mono ?_
            rintro e U31 ⟨rfl, hb⟩
            have HSU31 := Lib.hid (HSU30.out.later hb)
            refine hK _ _ HSU31.out ?_
            clear hK K hb
            (apply wpOS_take rfl rfl (by kernel_rfl); (intro V hV; go_simp; rfl)); (try simp only [List.setIfInBounds_toArray, List.set_cons_succ, List.set_cons_zero])
            (apply wpOS_take rfl rfl (by kernel_rfl); (intro V hV; go_simp; rfl)); (try simp only [List.setIfInBounds_toArray, List.set_cons_succ, List.set_cons_zero])
            refine wpOS_nil ?_
            go_wp2_with fail
            go_meet
            exact ⟨by rw [HLVB.out], HSU31.out.rk⟩
          · skip
            apply wpOS_do rfl (by kernel_rfl) _ (fun _ h => h)
            intro K hK
            go_simp
            refine (HF3.out _).mono ?_
            rintro e U32 ⟨rfl, hb⟩
            have HSU32 := Lib.hid (HSU29.out.later hb)
            refine hK _ _ HSU32.out ?_
            clear hK K hb
            obtain ⟨g33, hg33⟩ : ∃ g, g = U32.heap.size := ⟨_, rfl⟩
            apply wpOS_do rfl (by kernel_rfl) (EkS W m sa sc q m.ak.cs 36 [(g33, [toU8 m.dst.toNat, toU8 m.hops.toNat, toU8 m.ak.frm.toNat]), (g25, [toU8 m.ak.dst.toNat])]) (fun _ h => h.drop)
            intro K hK
            go_simp
            obtain ⟨U33, hU33⟩ : ∃ U, U = U32.alloc (.cells #[.int .u8 m.dst, .int .u8 m.hops, .int .u8 m.ak.frm] 5) := ⟨_, rfl⟩
            have HSU33 := Lib.hid (HSU32.out.make g33 hg33 [toU8 m.dst.toNat, toU8 m.hops.toNat, toU8 m.ak.frm.toNat] #[.int .u8 m.dst, .int .u8 m.hops, .int .u8 m.ak.frm] HC0.out (by simp [maxLen]) hU33)
            rw [← hU33, ← hg33]
            refine hK _ _ HSU33.out ?_
            clear hK K hU33 hg33
            (apply wpOS_take rfl rfl (by kernel_rfl); (intro V hV; have hcv := run_string_row (P := Try.prog) 52 9 Try.underlying52 Try.underlying5 Try.underlying9 (hV.rows (g33, [toU8 m.dst.toNat, toU8 m.hops.toNat, toU8 m.ak.frm.toNat]) (List.mem_cons_self ..)); rw [← HB1.out] at hcv; simp only [List.length_cons, List.length_nil, Nat.zero_add, Nat.reduceAdd] at hcv; go_simp; rfl)); (try simp only [List.setIfInBounds_toArray, List.set_cons_succ, List.set_cons_zero])
            (apply wpOS_take rfl rfl (by kernel_rfl); (intro V hV; go_simp; rfl)); (try simp only [List.setIfInBounds_toArray, List.set_cons_succ, List.set_cons_zero])
            (apply wpOS_take rfl rfl (by kernel_rfl); (intro V hV; go_simp; rfl)); (try simp only [List.setIfInBounds_toArray, List.set_cons_succ, List.set_cons_zero])
            (apply wpOS_take rfl rfl (by kernel_rfl); (intro V hV; go_simp; rfl)); (try simp only [List.setIfInBounds_toArray, List.set_cons_succ, List.set_cons_zero])
            (apply wpOS_take rfl rfl (by kernel_rfl); (intro V hV; go_simp; rfl)); (try simp only [List.setIfInBounds_toArray, List.set_cons_succ, List.set_cons_zero])
            (apply wpOS_take rfl rfl (by kernel_rfl); (intro V hV; go_simp; rfl)); (try simp only [List.setIfInBounds_toArray, List.set_cons_succ, List.set_cons_zero])
            refine wpOS_nil ?_
            go_wp2_with fail
            go_meet
            exact ⟨by rw [HLVB.out], HSU33.out.rk⟩
      · skip
        apply wpOS_do rfl (by kernel_rfl) _ (fun _ h => h)
        intro K hK
        go_simp
        refine (HF2.out _).mono ?_
        rintro e U34 ⟨rfl, hb⟩
        have HSU34 := Lib.hid (HSU15.out.later hb)
        refine hK _ _ HSU34.out ?_
        clear hK K hb
        apply wpOS_three
        · skip
          obtain ⟨g35, hg35⟩ : ∃ g, g = U34.heap.size := ⟨_, rfl⟩
          apply wpOS_do rfl (by kernel_rfl) (EkS W m sa sc q m.ak.cs 36 [(g35, [toU8 m.dst.toNat, toU8 m.hops.toNat, toU8 m.ak.frm.toNat])]) (fun _ h => h.drop)
          intro K hK
          go_simp
          obtain ⟨U35, hU35⟩ : ∃ U, U = U34.alloc (.cells #[.int .u8 m.dst, .int .u8 m.hops, .int .u8 m.ak.frm] 5) := ⟨_, rfl⟩
          have HSU35 := Lib.hid (HSU34.out.make g35 hg35 [toU8 m.dst.toNat, toU8 m.hops.toNat, toU8 m.ak.frm.toNat] #[.int .u8 m.dst, .int .u8 m.hops, .int .u8 m.ak.frm] HC0.out (by simp [maxLen]) hU35)
          rw [← hU35, ← hg35]
          refine hK _ _ HSU35.out ?_
          clear hK K hU35 hg35
          (apply wpOS_take rfl rfl (by kernel_rfl); (intro V hV; have hcv := run_string_row (P := Try.prog) 52 9 Try.underlying52 Try.underlying5 Try.underlying9 (hV.rows (g35, [toU8 m.dst.toNat, toU8 m.hops.toNat, toU8 m.ak.frm.toNat]) (List.mem_cons_self ..)); rw [← HB1.out] at hcv; simp only [List.length_cons, List.length_nil, Nat.zero_add, Nat.reduceAdd] at hcv; go_simp; rfl)); (try simp only [List.setIfInBounds_toArray, List.set_cons_succ, List.set_cons_zero])
          (apply wpOS_take rfl rfl (by kernel_rfl); (intro V hV; go_simp; rfl)); (try simp only [List.setIfInBounds_toArray, List.set_cons_succ, List.set_cons_zero])
          apply wpOS_two
          · skip
            obtain ⟨g36, hg36⟩ : ∃ g, g = U35.heap.size := ⟨_, rfl⟩
            apply wpOS_do rfl (by kernel_rfl) (EkS W m sa sc q m.ak.cs 36 [(g36, [toU8 m.ak.dst.toNat]), (g35, [toU8 m.dst.toNat, toU8 m.hops.toNat, toU8 m.ak.frm.toNat])]) (fun _ h => h.drop)
            intro K hK
            go_simp
            obtain ⟨U36, hU36⟩ : ∃ U, U = U35.alloc (.cells #[.int .u8 m.ak.dst] 5) := ⟨_, rfl⟩
            have HSU36 := Lib.hid (HSU35.out.make g36 hg36 [toU8 m.ak.dst.toNat] #[.int .u8 m.ak.dst] HC3.out (by simp [maxLen]) hU36)
            rw [← hU36, ← hg36]
            refine hK _ _ HSU36.out ?_
            clear hK K hU36 hg36
            (apply wpOS_take rfl rfl (by kernel_rfl); (intro V hV; have hcv := run_string_row (P := Try.prog) 52 9 Try.underlying52 Try.underlying5 Try.underlying9 (hV.rows (g36, [toU8 m.ak.dst.toNat]) (List.mem_cons_self ..)); rw [← HB3.out] at hcv; simp only [List.length_cons, List.length_nil, Nat.zero_add, Nat.reduceAdd] at hcv; go_simp; rfl)); (try simp only [List.setIfInBounds_toArray, List.set_cons_succ, List.set_cons_zero])
            (apply wpOS_take rfl rfl (by kernel_rfl); (intro V hV; go_simp; rfl)); (try simp only [List.setIfInBounds_toArray, List.set_cons_succ, List.set_cons_zero])
            (apply wpOS_take rfl rfl (by kernel_rfl); (intro V hV; go_simp; rfl)); (try simp only [List.setIfInBounds_toArray, List.set_cons_succ, List.set_cons_zero])
            apply wpOS_do rfl (by kernel_rfl) _ (fun _ h => h)
            intro K hK
            go_simp
            refine (HF3.out _).mono ?_
            rintro e U37 ⟨rfl, hb⟩
            have HSU37 := Lib.hid (HSU36.out.later hb)
            refine hK _ _ HSU37.out ?_
            clear hK K hb
            (apply wpOS_take rfl rfl (by kernel_rfl); (intro V hV; go_simp; rfl)); (try simp only [List.setIfInBounds_toArray, List.set_cons_succ, List.set_cons_zero])
            (apply wpOS_take rfl rfl (by kernel_rfl); (intro V hV; go_simp; rfl)); (try simp only [List.setIfInBounds_toArray, List.set_cons_succ, List.set_cons_zero])
            refine wpOS_nil ?_
            go_wp2_with fail
            go_meet
            exact ⟨by rw [HLVB.out], HSU37.out.rk⟩
          · skip
            apply wpOS_do rfl (by kernel_rfl) _ (fun _ h => h)
            intro K hK
            go_simp
            refine (HF3.out _).mono ?_
            rintro e U38 ⟨rfl, hb⟩
            have HSU38 := Lib.hid (HSU35.out.later hb)
            refine hK _ _ HSU38.out ?_
            clear hK K hb
            obtain ⟨g39, hg39⟩ : ∃ g, g = U38.heap.size := ⟨_, rfl⟩
            apply wpOS_do rfl (by kernel_rfl) (EkS W m sa sc q m.ak.cs 36 [(g39, [toU8 m.ak.dst.toNat]), (g35, [toU8 m.dst.toNat, toU8 m.hops.toNat, toU8 m.ak.frm.toNat])]) (fun _ h => h.drop)
            intro K hK
            go_simp
            obtain ⟨U39, hU39⟩ : ∃ U, U = U38.alloc (.cells #[.int .u8 m.ak.dst] 5) := ⟨_, rfl⟩
            have HSU39 := Lib.hid (HSU38.out.make g39 hg39 [toU8 m.ak.dst.toNat] #[.int .u8 m.ak.dst] HC3.out (by simp [maxLen]) hU39)
            rw [← hU39, ← hg39]
            refine hK _ _ HSU39.out ?_
            clear hK K hU39 hg39
            (apply wpOS_take rfl rfl (by kernel_rfl); (intro V hV; have hcv := run_string_row (P := Try.prog) 52 9 Try.underlying52 Try.underlying5 Try.underlying9 (hV.rows (g39, [toU8 m.ak.dst.toNat]) (List.mem_cons_self ..)); rw [← HB3.out] at hcv; simp only [List.length_cons, List.length_nil, Nat.zero_add, Nat.reduceAdd] at hcv; go_simp; rfl)); (try simp only [List.setIfInBounds_toArray, List.set_cons_succ, List.set_cons_zero])
            (apply wpOS_take rfl rfl (by kernel_rfl); (intro V hV; go_simp; rfl)); (try simp only [List.setIfInBounds_toArray, List.set_cons_succ, List.set_cons_zero])
            (apply wpOS_take rfl rfl (by kernel_rfl); (intro V hV; go_simp; rfl)); (try simp only [List.setIfInBounds_toArray, List.set_cons_succ, List.set_cons_zero])
            (apply wpOS_take rfl rfl (by kernel_rfl); (intro V hV; go_simp; rfl)); (try simp only [List.setIfInBounds_toArray, List.set_cons_succ, List.set_cons_zero])
            (apply wpOS_take rfl rfl (by kernel_rfl); (intro V hV; go_simp; rfl)); (try simp only [List.setIfInBounds_toArray, List.set_cons_succ, List.set_cons_zero])
            refine wpOS_nil ?_
            go_wp2_with fail
            go_meet
            exact ⟨by rw [HLVB.out], HSU39.out.rk⟩
        · skip
          obtain ⟨g40, hg40⟩ : ∃ g, g = U34.heap.size := ⟨_, rfl⟩
          apply wpOS_do rfl (by kernel_rfl) (EkS W m sa sc q m.ak.cs 36 [(g40, [toU8 m.ak.dst.toNat])]) (fun _ h => h.drop)
          intro K hK
          go_simp
          obtain ⟨U40, hU40⟩ : ∃ U, U = U34.alloc (.cells #[.int .u8 m.ak.dst] 5) := ⟨_, rfl⟩
          have HSU40 := Lib.hid (HSU34.out.make g40 hg40 [toU8 m.ak.dst.toNat] #[.int .u8 m.ak.dst] HC3.out (by simp [maxLen]) hU40)
          rw [← hU40, ← hg40]
          refine hK _ _ HSU40.out ?_
          clear hK K hU40 hg40
          (apply wpOS_take rfl rfl (by kernel_rfl); (intro V hV; have hcv := run_string_row (P := Try.prog) 52 9 Try.underlying52 Try.underlying5 Try.underlying9 (hV.rows (g40, [toU8 m.ak.dst.toNat]) (List.mem_cons_self ..)); rw [← HB3.out] at hcv; simp only [List.length_cons, List.length_nil, Nat.zero_add, Nat.reduceAdd] at hcv; go_simp; rfl)); (try simp only [List.setIfInBounds_toArray, List.set_cons_succ, List.set_cons_zero])
          apply wpOS_two
          · skip
            obtain ⟨g41, hg41⟩ : ∃ g, g = U40.heap.size := ⟨_, rfl⟩
            apply wpOS_do rfl (by kernel_rfl) (EkS W m sa sc q m.ak.cs 36 [(g41, [toU8 m.dst.toNat, toU8 m.hops.toNat, toU8 m.ak.frm.toNat]), (g40, [toU8 m.ak.dst.toNat])]) (fun _ h => h.drop)
            intro K hK
            go_simp
            obtain ⟨U41, hU41⟩ : ∃ U, U = U40.alloc (.cells #[.int .u8 m.dst, .int .u8 m.hops, .int .u8 m.ak.frm] 5) := ⟨_, rfl⟩
            have HSU41 := Lib.hid (HSU40.out.make g41 hg41 [toU8 m.dst.toNat, toU8 m.hops.toNat, toU8 m.ak.frm.toNat] #[.int .u8 m.dst, .int .u8 m.hops, .int .u8 m.ak.frm] HC0.out (by simp [maxLen]) hU41)
            rw [← hU41, ← hg41]
            refine hK _ _ HSU41.out ?_
            clear hK K hU41 hg41
            (apply wpOS_take rfl rfl (by kernel_rfl); (intro V hV; have hcv := run_string_row (P := Try.prog) 52 9 Try.underlying52 Try.underlying5 Try.underlying9 (hV.rows (g41, [toU8 m.dst.toNat, toU8 m.hops.toNat, toU8 m.ak.frm.toNat]) (List.mem_cons_self ..)); rw [← HB1.out] at hcv; simp only [List.length_cons, List.length_nil, Nat.zero_add, Nat.reduceAdd] at hcv; go_simp; rfl)); (try simp only [List.setIfInBounds_toArray, List.set_cons_succ, List.set_cons_zero])
            (apply wpOS_take rfl rfl (by kernel_rfl); (intro V hV; go_simp; rfl)); (try simp only [List.setIfInBounds_toArray, List.set_cons_succ, List.set_cons_zero])
            (apply wpOS_take rfl rfl (by kernel_rfl); (intro V hV; go_simp; rfl)); (try simp only [List.setIfInBounds_toArray, List.set_cons_succ, List.set_cons_zero])
            (apply wpOS_take rfl rfl (by kernel_rfl); (intro V hV; go_simp; rfl)); (try simp only [List.setIfInBounds_toArray, List.set_cons_succ, List.set_cons_zero])
            apply wpOS_do rfl (by kernel_rfl) _ (fun _ h => h)
            intro K hK
            go_simp
            refine (HF3.out _).mono ?_
            rintro e U42 ⟨rfl, hb⟩
            have HSU42 := Lib.hid (HSU41.out.later hb)
            refine hK _ _ HSU42.out ?_
            clear hK K hb
            (apply wpOS_take rfl rfl (by kernel_rfl); (intro V hV; go_simp; rfl)); (try simp only [List.setIfInBounds_toArray, List.set_cons_succ, List.set_cons_zero])
            (apply wpOS_take rfl rfl (by kernel_rfl); (intro V hV; go_simp; rfl)); (try simp only [List.setIfInBounds_toArray, List.set_cons_succ, List.set_cons_zero])
            refine wpOS_nil ?_
            go_wp2_with fail
            go_meet
            exact ⟨by rw [HLVB.out], HSU42.out.rk⟩
          · skip
            apply wpOS_do rfl (by kernel_rfl) _ (fun _ h => h)
            intro K hK
            go_simp
            refine (HF3.out _).mono ?_
            rintro e U43 ⟨rfl, hb⟩
            have HSU43 := Lib.hid (HSU40.out.later hb)
            refine hK _ _ HSU43.out ?_
            clear hK K hb
            obtain ⟨g44, hg44⟩ : ∃ g, g = U43.heap.size := ⟨_, rfl⟩
            apply wpOS_do rfl (by kernel_rfl) (EkS W m sa sc q m.ak.cs 36 [(g44, [toU8 m.dst.toNat, toU8 m.hops.toNat, toU8 m.ak.frm.toNat]), (g40, [toU8 m.ak.dst.toNat])]) (fun _ h => h.drop)
            intro K hK
            go_simp
            obtain ⟨U44, hU44⟩ : ∃ U, U = U43.alloc (.cells #[.int .u8 m.dst, .int .u8 m.hops, .int .u8 m.ak.frm] 5) := ⟨_, rfl⟩
            have HSU44 := Lib.hid (HSU43.out.make g44 hg44 [toU8 m.dst.toNat, toU8 m.hops.toNat, toU8 m.ak.frm.toNat] #[.int .u8 m.dst, .int .u8 m.hops, .int .u8 m.ak.frm] HC0.out (by simp [maxLen]) hU44)
            rw [← hU44, ← hg44]
            refine hK _ _ HSU44.out ?_
            clear hK K hU44 hg44
            (apply wpOS_take rfl rfl (by kernel_rfl); (intro V hV; have hcv := run_string_row (P := Try.prog) 52 9 Try.underlying52 Try.underlying5 Try.underlying9 (hV.rows (g44, [toU8 m.dst.toNat, toU8 m.hops.toNat, toU8 m.ak.frm.toNat]) (List.mem_cons_self ..)); rw [← HB1.out] at hcv; simp only [List.length_cons, List.length_nil, Nat.zero_add, Nat.reduceAdd] at hcv; go_simp; rfl)); (try simp only [List.setIfInBounds_toArray, List.set_cons_succ, List.set_cons_zero])
            (apply wpOS_take rfl rfl (by kernel_rfl); (intro V hV; go_simp; rfl)); (try simp only [List.setIfInBounds_toArray, List.set_cons_succ, List.set_cons_zero])
            (apply wpOS_take rfl rfl (by kernel_rfl); (intro V hV; go_simp; rfl)); (try simp only [List.setIfInBounds_toArray, List.set_cons_succ, List.set_cons_zero])
            (apply wpOS_take rfl rfl (by kernel_rfl); (intro V hV; go_simp; rfl)); (try simp only [List.setIfInBounds_toArray, List.set_cons_succ, List.set_cons_zero])
            (apply wpOS_take rfl rfl (by kernel_rfl); (intro V hV; go_simp; rfl)); (try simp only [List.setIfInBounds_toArray, List.set_cons_succ, List.set_cons_zero])
            (apply wpOS_take rfl rfl (by kernel_rfl); (intro V hV; go_simp; rfl)); (try simp only [List.setIfInBounds_toArray, List.set_cons_succ, List.set_cons_zero])
            refine wpOS_nil ?_
            go_wp2_with fail
            go_meet
            exact ⟨by rw [HLVB.out], HSU44.out.rk⟩
        · skip
          apply wpOS_do rfl (by kernel_rfl) _ (fun _ h => h)
          intro K hK
          go_simp
          refine (HF3.out _).mono ?_
          rintro e U45 ⟨rfl, hb⟩
          have HSU45 := Lib.hid (HSU34.out.later hb)
          refine hK _ _ HSU45.out ?_
          clear hK K hb
          apply wpOS_two
          · skip
            obtain ⟨g46, hg46⟩ : ∃ g, g = U45.heap.size := ⟨_, rfl⟩
            apply wpOS_do rfl (by kernel_rfl) (EkS W m sa sc q m.ak.cs 36 [(g46, [toU8 m.dst.toNat, toU8 m.hops.toNat, toU8 m.ak.frm.toNat])]) (fun _ h => h.drop)
            intro K hK
            go_simp
            obtain ⟨U46, hU46⟩ : ∃ U, U = U45.alloc (.cells #[.int .u8 m.dst, .int .u8 m.hops, .int .u8 m.ak.frm] 5) := ⟨_, rfl⟩
            have HSU46 := Lib.hid (HSU45.out.make g46 hg46 [toU8 m.dst.toNat, toU8 m.hops.toNat, toU8 m.ak.frm.toNat] #[.int .u8 m.dst, .int .u8 m.hops, .int .u8 m.ak.frm] HC0.out (by simp [maxLen]) hU46)
            rw [← hU46, ← hg46]
            refine hK _ _ HSU46.out ?_
            clear hK K hU46 hg46
            (apply wpOS_take rfl rfl (by kernel_rfl); (intro V hV; have hcv := run_string_row (P := Try.prog) 52 9 Try.underlying52 Try.underlying5 Try.underlying9 (hV.rows (g46, [toU8 m.dst.toNat, toU8 m.hops.toNat, toU8 m.ak.frm.toNat]) (List.mem_cons_self ..)); rw [← HB1.out] at hcv; simp only [List.length_cons, List.length_nil, Nat.zero_add, Nat.reduceAdd] at hcv; go_simp; rfl)); (try simp only [List.setIfInBounds_toArray, List.set_cons_succ, List.set_cons_zero])
            (apply wpOS_take rfl rfl (by kernel_rfl); (intro V hV; go_simp; rfl)); (try simp only [List.setIfInBounds_toArray, List.set_cons_succ, List.set_cons_zero])
            obtain ⟨g47, hg47⟩ : ∃ g, g = U46.heap.size := ⟨_, rfl⟩
            apply wpOS_do rfl (by kernel_rfl) (EkS W m sa sc q m.ak.cs 36 [(g47, [toU8 m.ak.dst.toNat]), (g46, [toU8 m.dst.toNat, toU8 m.hops.toNat, toU8 m.ak.frm.toNat])]) (fun _ h => h.drop)
            intro K hK
            go_simp
            obtain ⟨U47, hU47⟩ : ∃ U, U = U46.alloc (.cells #[.int .u8 m.ak.dst] 5) := ⟨_, rfl⟩
            have HSU47 := Lib.hid (HSU46.out.make g47 hg47 [toU8 m.ak.dst.toNat] #[.int .u8 m.ak.dst] HC3.out (by simp [maxLen]) hU47)
            rw [← hU47, ← hg47]
            refine hK _ _ HSU47.out ?_
            clear hK K hU47 hg47
            (apply wpOS_take rfl rfl (by kernel_rfl); (intro V hV; have hcv := run_string_row (P := Try.prog) 52 9 Try.underlying52 Try.underlying5 Try.underlying9 (hV.rows (g47, [toU8 m.ak.dst.toNat]) (List.mem_cons_self ..)); rw [← HB3.out] at hcv; simp only [List.length_cons, List.length_nil, Nat.zero_add, Nat.reduceAdd] at hcv; go_simp; rfl)); (try simp only [List.setIfInBounds_toArray, List.set_cons_succ, List.set_cons_zero])
            (apply wpOS_take rfl rfl (by kernel_rfl); (intro V hV; go_simp; rfl)); (try simp only [List.setIfInBounds_toArray, List.set_cons_succ, List.set_cons_zero])
            (apply wpOS_take rfl rfl (by kernel_rfl); (intro V hV; go_simp; rfl)); (try simp only [List.setIfInBounds_toArray, List.set_cons_succ, List.set_cons_zero])
            (apply wpOS_take rfl rfl (by kernel_rfl); (intro V hV; go_simp; rfl)); (try simp only [List.setIfInBounds_toArray, List.set_cons_succ, List.set_cons_zero])
            (apply wpOS_take rfl rfl (by kernel_rfl); (intro V hV; go_simp; rfl)); (try simp only [List.setIfInBounds_toArray, List.set_cons_succ, List.set_cons_zero])
            refine wpOS_nil ?_
            go_wp2_with fail
            go_meet
            exact ⟨by rw [HLVB.out], HSU47.out.rk⟩
          · skip
            obtain ⟨g48, hg48⟩ : ∃ g, g = U45.heap.size := ⟨_, rfl⟩
            apply wpOS_do rfl (by kernel_rfl) (EkS W m sa sc q m.ak.cs 36 [(g48, [toU8 m.ak.dst.toNat])]) (fun _ h => h.drop)
            intro K hK
            go_simp
            obtain ⟨U48, hU48⟩ : ∃ U, U = U45.alloc (.cells #[.int .u8 m.ak.dst] 5) := ⟨_, rfl⟩
            have HSU48 := Lib.hid (HSU45.out.make g48 hg48 [toU8 m.ak.dst.toNat] #[.int .u8 m.ak.dst] HC3.out (by simp [maxLen]) hU48)
            rw [← hU48, ← hg48]
            refine hK _ _ HSU48.out ?_
            clear hK K hU48 hg48
            (apply wpOS_take rfl rfl (by kernel_rfl); (intro V hV; have hcv := run_string_row (P := Try.prog) 52 9 Try.underlying52 Try.underlying5 Try.underlying9 (hV.rows (g48, [toU8 m.ak.dst.toNat]) (List.mem_cons_self ..)); rw [← HB3.out] at hcv; simp only [List.length_cons, List.length_nil, Nat.zero_add, Nat.reduceAdd] at hcv; go_simp; rfl)); (try simp only [List.setIfInBounds_toArray, List.set_cons_succ, List.set_cons_zero])
            obtain ⟨g49, hg49⟩ : ∃ g, g = U48.heap.size := ⟨_, rfl⟩
            apply wpOS_do rfl (by kernel_rfl) (EkS W m sa sc q m.ak.cs 36 [(g49, [toU8 m.dst.toNat, toU8 m.hops.toNat, toU8 m.ak.frm.toNat]), (g48, [toU8 m.ak.dst.toNat])]) (fun _ h => h.drop)
            intro K hK
            go_simp
            obtain ⟨U49, hU49⟩ : ∃ U, U = U48.alloc (.cells #[.int .u8 m.dst, .int .u8 m.hops, .int .u8 m.ak.frm] 5) := ⟨_, rfl⟩
            have HSU49 := Lib.hid (HSU48.out.make g49 hg49 [toU8 m.dst.toNat, toU8 m.hops.toNat, toU8 m.ak.frm.toNat] #[.int .u8 m.dst, .int .u8 m.hops, .int .u8 m.ak.frm] HC0.out (by simp [maxLen]) hU49)
            rw [← hU49, ← hg49]
            refine hK _ _ HSU49.out ?_
            clear hK K hU49 hg49
            (apply wpOS_take rfl rfl (by kernel_rfl); (intro V hV; have hcv := run_string_row (P := Try.prog) 52 9 Try.underlying52 Try.underlying5 Try.underlying9 (hV.rows (g49, [toU8 m.dst.toNat, toU8 m.hops.toNat, toU8 m.ak.frm.toNat]) (List.mem_cons_self ..)); rw [← HB1.out] at hcv; simp only [List.length_cons, List.length_nil, Nat.zero_add, Nat.reduceAdd] at hcv; go_simp; rfl)); (try simp only [List.setIfInBounds_toArray, List.set_cons_succ, List.set_cons_zero])
            (apply wpOS_take rfl rfl (by kernel_rfl); (intro V hV; go_simp; rfl)); (try simp only [List.setIfInBounds_toArray, List.set_cons_succ, List.set_cons_zero])
            (apply wpOS_take rfl rfl (by kernel_rfl); (intro V hV; go_simp; rfl)); (try simp only [List.setIfInBounds_toArray, List.set_cons_succ, List.set_cons_zero])
            (apply wpOS_take rfl rfl (by kernel_rfl); (intro V hV; go_simp; rfl)); (try simp only [List.setIfInBounds_toArray, List.set_cons_succ, List.set_cons_zero])
            (apply wpOS_take rfl rfl (by kernel_rfl); (intro V hV; go_simp; rfl)); (try simp only [List.setIfInBounds_toArray, List.set_cons_succ, List.set_cons_zero])
            (apply wpOS_take rfl rfl (by kernel_rfl); (intro V hV; go_simp; rfl)); (try simp only [List.setIfInBounds_toArray, List.set_cons_succ, List.set_cons_zero])
            refine wpOS_nil ?_
            go_wp2_with fail
            go_meet
            exact ⟨by rw [HLVB.out], HSU49.out.rk⟩
    · skip
      obtain ⟨g50, hg50⟩ : ∃ g, g = U0.heap.size := ⟨_, rfl⟩
      apply wpOS_do rfl (by kernel_rfl) (EkS W m sa sc q m.ak.cs 36 [(g50, [toU8 m.ak.dst.toNat])]) (fun _ h => h.drop)
      intro K hK
      go_simp
      obtain ⟨U50, hU50⟩ : ∃ U, U = U0.alloc (.cells #[.int .u8 m.ak.dst] 5) := ⟨_, rfl⟩
      have HSU50 := Lib.hid (HSU0.out.make g50 hg50 [toU8 m.ak.dst.toNat] #[.int .u8 m.ak.dst] HC3.out (by simp [maxLen]) hU50)
      rw [← hU50, ← hg50]
      refine hK _ _ HSU50.out ?_
      clear hK K hU50 hg50
      (apply wpOS_take rfl rfl (by kernel_rfl); (intro V hV; have hcv := run_string_row (P := Try.prog) 52 9 Try.underlying52 Try.underlying5 Try.underlying9 (hV.rows (g50, [toU8 m.ak.dst.toNat]) (List.mem_cons_self ..)); rw [← HB3.out] at hcv; simp only [List.length_cons, List.length_nil, Nat.zero_add, Nat.reduceAdd] at hcv; go_simp; rfl)); (try simp only [List.setIfInBounds_toArray, List.set_cons_succ, List.set_cons_zero])
      apply wpOS_two
      · skip
        obtain ⟨g51, hg51⟩ : ∃ g, g = U50.heap.size := ⟨_, rfl⟩
        apply wpOS_do rfl (by kernel_rfl) (EkS W m sa sc q m.ak.cs 36 [(g51, [toU8 m.dst.toNat, toU8 m.hops.toNat, toU8 m.ak.frm.toNat]), (g50, [toU8 m.ak.dst.toNat])]) (fun _ h => h.drop)
        intro K hK
        go_simp
        obtain ⟨U51, hU51⟩ : ∃ U, U = U50.alloc (.cells #[.int .u8 m.dst, .int .u8 m.hops, .int .u8 m.ak.frm] 5) := ⟨_, rfl⟩
        have HSU51 := Lib.hid (HSU50.out.make g51 hg51 [toU8 m.dst.toNat, toU8 m.hops.toNat, toU8 m.ak.frm.toNat] #[.int .u8 m.dst, .int .u8 m.hops, .int .u8 m.ak.frm] HC0.out (by simp [maxLen]) hU51)
        rw [← hU51, ← hg51]
        refine hK _ _ HSU51.out ?_
        clear hK K hU51 hg51
        (apply wpOS_take rfl rfl (by kernel_rfl); (intro V hV; have hcv := run_string_row (P := Try.prog) 52 9 Try.underlying52 Try.underlying5 Try.underlying9 (hV.rows (g51, [toU8 m.dst.toNat, toU8 m.hops.toNat, toU8 m.ak.frm.toNat]) (List.mem_cons_self ..)); rw [← HB1.out] at hcv; simp only [List.length_cons, List.length_nil, Nat.zero_add, Nat.reduceAdd] at hcv; go_simp; rfl)); (try simp only [List.setIfInBounds_toArray, List.set_cons_succ, List.set_cons_zero])
        apply wpOS_do rfl (by kernel_rfl) _ (fun _ h => h)
        intro K hK
        go_simp
        refine (HF1.out _).mono ?_
        rintro e U52 ⟨rfl, hb⟩
        have HSU52 := Lib.hid (HSU51.out.later hb)
        refine hK _ _ HSU52.out ?_
        clear hK K hb
        (apply wpOS_take rfl rfl (by kernel_rfl); (intro V hV; go_simp; rfl)); (try simp only [List.setIfInBounds_toArray, List.set_cons_succ, List.set_cons_zero])
        (apply wpOS_take rfl rfl (by kernel_rfl); (intro V hV; go_simp; rfl)); (try simp only [List.setIfInBounds_toArray, List.set_cons_succ, List.set_cons_zero])
        apply wpOS_do rfl (by kernel_rfl) _ (fun _ h => h)
        intro K hK
        go_simp
        refine (HF2.out _).mono ?_
        rintro e U53 ⟨rfl, hb⟩
        have HSU53 := Lib.hid (HSU52.out.later hb)
        refine hK _ _ HSU53.out ?_
        clear hK K hb
        (apply wpOS_take rfl rfl (by kernel_rfl); (intro V hV; go_simp; rfl)); (try simp only [List.setIfInBounds_toArray, List.set_cons_succ, List.set_cons_zero])
        apply wpOS_do rfl (by kernel_rfl) _ (fun _ h => h)
        intro K hK
        go_simp
        refine (HF3.out _).mono ?_
        rintro e U54 ⟨rfl, hb⟩
        have HSU54 := Lib.hid (HSU53.out.later hb)
        refine hK _ _ HSU54.out ?_
        clear hK K hb
        (apply wpOS_take rfl rfl (by kernel_rfl); (intro V hV; go_simp; rfl)); (try simp only [List.setIfInBounds_toArray, List.set_cons_succ, List.set_cons_zero])
        (apply wpOS_take rfl rfl (by kernel_rfl); (intro V hV; go_simp; rfl)); (try simp only [List.setIfInBounds_toArray, List.set_cons_succ, List.set_cons_zero])
        refine wpOS_nil ?_
        go_wp2_with fail
        go_meet
        exact ⟨by rw [HLVB.out], HSU54.out.rk⟩
      · skip
        apply wpOS_do rfl (by kernel_rfl) _ (fun _ h => h)
        intro K hK
        go_simp
        refine (HF1.out _).mono ?_
        rintro e U55 ⟨rfl, hb⟩
        have HSU55 := Lib.hid (HSU50.out.later hb)
        refine hK _ _ HSU55.out ?_
        clear hK K hb
        apply wpOS_two
        · skip
          obtain ⟨g56, hg56⟩ : ∃ g, g = U55.heap.size := ⟨_, rfl⟩
          apply wpOS_do rfl (by kernel_rfl) (EkS W m sa sc q m.ak.cs 36 [(g56, [toU8 m.dst.toNat, toU8 m.hops.toNat, toU8 m.ak.frm.toNat]), (g50, [toU8 m.ak.dst.toNat])]) (fun _ h => h.drop)
          intro K hK
          go_simp
          obtain ⟨U56, hU56⟩ : ∃ U, U = U55.alloc (.cells #[.int .u8 m.dst, .int .u8 m.hops, .int .u8 m.ak.frm] 5) := ⟨_, rfl⟩
          have HSU56 := Lib.hid (HSU55.out.make g56 hg56 [toU8 m.dst.toNat, toU8 m.hops.toNat, toU8 m.ak.frm.toNat] #[.int .u8 m.dst, .int .u8 m.hops, .int .u8 m.ak.frm] HC0.out (by simp [maxLen]) hU56)
          rw [← hU56, ← hg56]
          refine hK _ _ HSU56.out ?_
          clear hK K hU56 hg56
          (apply wpOS_take rfl rfl (by kernel_rfl); (intro V hV; have hcv := run_string_row (P := Try.prog) 52 9 Try.underlying52 Try.underlying5 Try.underlying9 (hV.rows (g56, [toU8 m.dst.toNat, toU8 m.hops.toNat, toU8 m.ak.frm.toNat]) (List.mem_cons_self ..)); rw [← HB1.out] at hcv; simp only [List.length_cons, List.length_nil, Nat.zero_add, Nat.reduceAdd] at hcv; go_simp; rfl)); (try simp only [List.setIfInBounds_toArray, List.set_cons_succ, List.set_cons_zero])
          (apply wpOS_take rfl rfl (by kernel_rfl); (intro V hV; go_simp; rfl)); (try simp only [List.setIfInBounds_toArray, List.set_cons_succ, List.set_cons_zero])
          (apply wpOS_take rfl rfl (by kernel_rfl); (intro V hV; go_simp; rfl)); (try simp only [List.setIfInBounds_toArray, List.set_cons_succ, List.set_cons_zero])
          apply wpOS_do rfl (by kernel_rfl) _ (fun _ h => h)
          intro K hK
          go_simp
          refine (HF2.out _).mono ?_
          rintro e U57 ⟨rfl, hb⟩
          have HSU57 := Lib.hid (HSU56.out.later hb)
          refine hK _ _ HSU57.out ?_
          clear hK K hb
          (apply wpOS_take rfl rfl (by kernel_rfl); (intro V hV; go_simp; rfl)); (try simp only [List.setIfInBounds_toArray, List.set_cons_succ, List.set_cons_zero])
          apply wpOS_do rfl (by kernel_rfl) _ (fun _ h => h)
          intro K hK
          go_simp
          refine (HF3.out _).mono ?_
          rintro e U58 ⟨rfl, hb⟩
          have HSU58 := Lib.hid (HSU57.out.later hb)
          refine hK _ _ HSU58.out ?_
          clear hK K hb
          (apply wpOS_take rfl rfl (by kernel_rfl); (intro V hV; go_simp; rfl)); (try simp only [List.setIfInBounds_toArray, List.set_cons_succ, List.set_cons_zero])
          (apply wpOS_take rfl rfl (by kernel_rfl); (intro V hV; go_simp; rfl)); (try simp only [List.setIfInBounds_toArray, List.set_cons_succ, List.set_cons_zero])
          refine wpOS_nil ?_
          go_wp2_with fail
          go_meet
          exact ⟨by rw [HLVB.out], HSU58.out.rk⟩
        · skip
          apply wpOS_do rfl (by kernel_rfl) _ (fun _ h => h)
          intro K hK
          go_simp
          refine (HF2.out _).mono ?_
          rintro e U59 ⟨rfl, hb⟩
          have HSU59 := Lib.hid (HSU55.out.later hb)
          refine hK _ _ HSU59.out ?_
          clear hK K hb
          apply wpOS_two
          · skip
            obtain ⟨g60, hg60⟩ : ∃ g, g = U59.heap.size := ⟨_, rfl⟩
            apply wpOS_do rfl (by kernel_rfl) (EkS W m sa sc q m.ak.cs 36 [(g60, [toU8 m.dst.toNat, toU8 m.hops.toNat, toU8 m.ak.frm.toNat]), (g50, [toU8 m.ak.dst.toNat])]) (fun _ h => h.drop)
            intro K hK
            go_simp
            obtain ⟨U60, hU60⟩ : ∃ U, U = U59.alloc (.cells #[.int .u8 m.dst, .int .u8 m.hops, .int .u8 m.ak.frm] 5) := ⟨_, rfl⟩
            have HSU60 := Lib.hid (HSU59.out.make g60 hg60 [toU8 m.dst.toNat, toU8 m.hops.toNat, toU8 m.ak.frm.toNat] #[.int .u8 m.dst, .int .u8 m.hops, .int .u8 m.ak.frm] HC0.out (by simp [maxLen]) hU60)
            rw [← hU60, ← hg60]
            refine hK _ _ HSU60.out ?_
            clear hK K hU60 hg60
            (apply wpOS_take rfl rfl (by kernel_rfl); (intro V hV; have hcv := run_string_row (P := Try.prog) 52 9 Try.underlying52 Try.underlying5 Try.underlying9 (hV.rows (g60, [toU8 m.dst.toNat, toU8 m.hops.toNat, toU8 m.ak.frm.toNat]) (List.mem_cons_self ..)); rw [← HB1.out] at hcv; simp only [List.length_cons, List.length_nil, Nat.zero_add, Nat.reduceAdd] at hcv; go_simp; rfl)); (try simp only [List.setIfInBounds_toArray, List.set_cons_succ, List.set_cons_zero])
            (apply wpOS_take rfl rfl (by kernel_rfl); (intro V hV; go_simp; rfl)); (try simp only [List.setIfInBounds_toArray, List.set_cons_succ, List.set_cons_zero])
            (apply wpOS_take rfl rfl (by kernel_rfl); (intro V hV; go_simp; rfl)); (try simp only [List.setIfInBounds_toArray, List.set_cons_succ, List.set_cons_zero])
            (apply wpOS_take rfl rfl (by kernel_rfl); (intro V hV; go_simp; rfl)); (try simp only [List.setIfInBounds_toArray, List.set_cons_succ, List.set_cons_zero])
            apply wpOS_do rfl (by kernel_rfl) _ (fun _ h => h)
            intro K hK
            go_simp
            refine (HF3.out _).mono ?_
            rintro e U61 ⟨rfl, hb⟩
            have HSU61 := Lib.hid (HSU60.out.later hb)
            refine hK _ _ HSU61.out ?_
            clear hK K hb
            (apply wpOS_take rfl rfl (by kernel_rfl); (intro V hV; go_simp; rfl)); (try simp only [List.setIfInBounds_toArray, List.set_cons_succ, List.set_cons_zero])
            (apply wpOS_take rfl rfl (by kernel_rfl); (intro V hV; go_simp; rfl)); (try simp only [List.setIfInBounds_toArray, List.set_cons_succ, List.set_cons_zero])
            refine wpOS_nil ?_
            go_wp2_with fail
            go_meet
            exact ⟨by rw [HLVB.out], HSU61.out.rk⟩
          · skip
            apply wpOS_do rfl (by kernel_rfl) _ (fun _ h => h)
            intro K hK
            go_simp
            refine (HF3.out _).mono ?_
            rintro e U62 ⟨rfl, hb⟩
            have HSU62 := Lib.hid (HSU59.out.later hb)
            refine hK _ _ HSU62.out ?_
            clear hK K hb
            obtain ⟨g63, hg63⟩ : ∃ g, g = U62.heap.size := ⟨_, rfl⟩
            apply wpOS_do rfl (by kernel_rfl) (EkS W m sa sc q m.ak.cs 36 [(g63, [toU8 m.dst.toNat, toU8 m.hops.toNat, toU8 m.ak.frm.toNat]), (g50, [toU8 m.ak.dst.toNat])]) (fun _ h => h.drop)
            intro K hK
            go_simp
            obtain ⟨U63, hU63⟩ : ∃ U, U = U62.alloc (.cells #[.int .u8 m.dst, .int .u8 m.hops, .int .u8 m.ak.frm] 5) := ⟨_, rfl⟩
            have HSU63 := Lib.hid (HSU62.out.make g63 hg63 [toU8 m.dst.toNat, toU8 m.hops.toNat, toU8 m.ak.frm.toNat] #[.int .u8 m.dst, .int .u8 m.hops, .int .u8 m.ak.frm] HC0.out (by simp [maxLen]) hU63)
            rw [← hU63, ← hg63]
            refine hK _ _ HSU63.out ?_
            clear hK K hU63 hg63
            (apply wpOS_take rfl rfl (by kernel_rfl); (intro V hV; have hcv := run_string_row (P := Try.prog) 52 9 Try.underlying52 Try.underlying5 Try.underlying9 (hV.rows (g63, [toU8 m.dst.toNat, toU8 m.hops.toNat, toU8 m.ak.frm.toNat]) (List.mem_cons_self ..)); rw [← HB1.out] at hcv; simp only [List.length_cons, List.length_nil, Nat.zero_add, Nat.reduceAdd] at hcv; go_simp; rfl)); (try simp only [List.setIfInBounds_toArray, List.set_cons_succ, List.set_cons_zero])
            (apply wpOS_take rfl rfl (by kernel_rfl); (intro V hV; go_simp; rfl)); (try simp only [List.setIfInBounds_toArray, List.set_cons_succ, List.set_cons_zero])
            (apply wpOS_take rfl rfl (by kernel_rfl); (intro V hV; go_simp; rfl)); (try simp only [List.setIfInBounds_toArray, List.set_cons_succ, List.set_cons_zero])
            (apply wpOS_take rfl rfl (by kernel_rfl); (intro V hV; go_simp; rfl)); (try simp only [List.setIfInBounds_toArray, List.set_cons_succ, List.set_cons_zero])
            (apply wpOS_take rfl rfl (by kernel_rfl); (intro V hV; go_simp; rfl)); (try simp only [List.setIfInBounds_toArray, List.set_cons_succ, List.set_cons_zero])
            (apply wpOS_take rfl rfl (by kernel_rfl); (intro V hV; go_simp; rfl)); (try simp only [List.setIfInBounds_toArray, List.set_cons_succ, List.set_cons_zero])
            refine wpOS_nil ?_
            go_wp2_with fail
            go_meet
            exact ⟨by rw [HLVB.out], HSU63.out.rk⟩
  case rest =>
    obtain ⟨rfl, hS⟩ := hcut
    have HS3 := Lib.hid hS
    clear hS x0 x21 x22 x27 x28 x29 x30 x31
    have hcv := HCV.out wc
    have x0 : wc.cell? ⟨W.heap.size, 0, none⟩ = some (.int .i64 m.kd) := HS3.out.box.cell rfl
    rw [HK.out] at x0
    go_wp2_with fail
    refine (HSEAL.out _).mono ?_
    rintro e Z ⟨rfl, hb⟩
    have HZ := Lib.hid ((HS3.out.later ((Below.refl wc.heap.size wc).alloc (Nat.le_refl _) (.cells #[.int .u8 5] 5))).later hb)
    clear hb
    go_wp2_with fail
    go_ret2
    exact ⟨rfl, HZ.out.bel⟩
theorem rmencode_any (m : Ms) (sa : Option Addr) (sc : Nat) (W : World) (hm : m.ok) (hA : AdjsIn W sa m.rc.adjs) (hl : m.rc.adjs.length ≤ maxLen) : Calls Try.prog 10 #[m.ag sa sc] W fun e W' => e = .returned (.tuple #[.string m.encS, .int .i64 m.err]) ∧ Below W.heap.size W W' := by
  cases hc : m.chk with
  | false => exact rmencode_no m sa sc W hm hA hl hc
  | true =>
    have h := hc
    unfold Ms.chk Ms.isk at h
    rw [Bool.and_eq_true, Bool.and_eq_true, Bool.and_eq_true, decide_eq_true_eq, decide_eq_true_eq] at h
    rcases (show m.kd = 1 ∨ m.kd = 2 ∨ m.kd = 3 ∨ m.kd = 4 ∨ m.kd = 5 by omega) with h | h | h | h | h
    · exact rmencode1 m sa sc W hm hA hl h hc
    · exact rmencode2 m sa sc W hm hA hl h hc
    · exact rmencode3 m sa sc W hm hA hl h hc
    · exact rmencode4 m sa sc W hm hA hl h hc
    · exact rmencode5 m sa sc W hm hA hl h hc


end Go.Proofs.Ytickjmkkgcfkhaa
