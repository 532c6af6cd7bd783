/- The walk of the law MsgBack. (Printed by mkmsback.py.) -/
import Derived.Test.YtickjmkkgcfkhaaMsU
import Derived.Test.YtickjmkkgcfkhaaMsV
import Derived.Test.YtickjmkkgcfkhaaMsX
set_option linter.unusedSimpArgs false
set_option linter.unusedVariables false
set_option maxRecDepth 100000
namespace Go.Proofs.Ytickjmkkgcfkhaa
open Go.RowKit Go.ChangeShapes Go.WideShapes

/-- What is there while a message is held to what came back. -/
structure BkM (W : World) (M : Ms) (g g2 : Nat) (sa : Option Addr) (sc : Nat) (ta : Option Addr) (tc : Nat) (V : World) : Prop where
  bel : Below W.heap.size W V
  b1 : BoxM g M sa sc V
  b2 : BoxM g2 M ta tc V
  a1 : AdjsIn V sa M.rc.adjs
  a2 : AdjsIn V ta M.rc.adjs
theorem BkM.later {W V X : World} {M : Ms} {g g2 : Nat} {sa : Option Addr} {sc : Nat} {ta : Option Addr} {tc : Nat} (h : BkM W M g g2 sa sc ta tc V) (hb : Below V.heap.size V X) : BkM W M g g2 sa sc ta tc X :=
  ⟨h.bel.trans (hb.mono h.bel.size), h.b1.later hb, h.b2.later hb, h.a1.later hb, h.a2.later hb⟩
theorem info_parts13 (p : Pt) : (Try.prog.info? 48).map (·.size) = some p.cs.toList.length := by
  show _ = some 13
  kernel_rfl
theorem dec_less {m : Ms} (hok : m.ok) (hc : m.chk = true) (n : Nat) (hn : n + 1 = m.enc.size) : decME (m.enc.extract 0 n) ≠ 0 := by
  have h := menc_size hc
  have hs : (m.enc.extract 0 n).size = n := by rw [ByteArray.size_extract]; omega
  refine decM_other hok hc (by omega) (by omega) fun j j1 j2 => ?_
  rw [ByteArray.data_extract, Array.toList_extract, List.extract, List.drop_zero, Nat.sub_zero, List.take_take, Nat.min_eq_left (by omega)]
theorem dec_more {m : Ms} (hok : m.ok) (hc : m.chk = true) (b : ByteArray) (hb : b.size = 1) : decME (m.enc ++ b) ≠ 0 := by
  have h := menc_size hc
  have hs : (m.enc ++ b).size = m.enc.size + 1 := by rw [ByteArray.size_append, hb]
  refine decM_other hok hc (by omega) (by omega) fun j j1 j2 => ?_
  rw [ByteArray.data_append, Array.toList_append, List.take_append_of_le_length (by rw [size_len]; exact j2)]

set_option maxHeartbeats 12800000 in
theorem msgBack_walk (p : Pt) (W : World) (hp : p.ok) : Calls Try.prog 7 #[p.ag] W fun e W' => e = .returned (.bool true) ∧ Below W.heap.size W W' := by
  obtain ⟨W1, hW1⟩ : ∃ W1, W1 = W.alloc (.cells p.cs 48) := ⟨_, rfl⟩
  have hb1 : Below W.heap.size W W1 := by rw [hW1]; exact (Below.refl _ _).alloc (Nat.le_refl _) _
  have HPC := Lib.hid (show ∀ j v, p.cs.toList[j]? = some v → W1.cell? ((⟨W.heap.size, 0, none⟩ : Addr).add j) = some v from block_cells (by rw [hW1]; exact heap_alloc_new _ _))
  have HPI := Lib.hid (info_parts13 p)
  have HOF := Lib.hid (lof_any p W1 hp)
  have hmo := ofM_ok p hp
  have hmc := ofM_chk p hp
  obtain ⟨M, hM⟩ : ∃ M, M = ofM p := ⟨_, rfl⟩
  rw [← hM] at HOF hmo hmc
  have hme := menc_size hmc
  have hmd := decM_enc hmo hmc
  obtain ⟨hk5, _, _⟩ := chk_kd hmc
  have hal : M.rc.adjs.length ≤ maxLen := by
    rcases Nat.lt_or_ge 16 M.rc.adjs.length with hh | hh
    · exfalso
      obtain ⟨hk, hf, hy⟩ := chk_kd hmc
      unfold Ms.fit at hf
      unfold Ms.may at hy
      split at hf
      · rename_i h1
        rw [if_pos h1] at hy
        simp only [Rc.chk, Bool.and_eq_true, decide_eq_true_eq] at hy
        omega
      · have hz : M.zr = true := by
          split at hf
          · simp only [Bool.and_eq_true] at hf; exact hf.1.1.1.1
          · split at hf
            · simp only [Bool.and_eq_true] at hf; exact hf.1.1.1.1
            · split at hf
              · simp only [Bool.and_eq_true] at hf; exact hf.1.1.1
              · simp only [Bool.and_eq_true] at hf; exact hf.1.1.1
        have := nul_is hz
        rw [this] at hh
        simp [Rc.zero] at hh
    · unfold maxLen; omega
  obtain ⟨E, hE⟩ : ∃ E, E = M.enc := ⟨_, rfl⟩
  obtain ⟨N, hN⟩ : ∃ N, N = E.size := ⟨_, rfl⟩
  have HEN := Lib.hid (show ∀ (V : World) (sa : Option Addr) (sc : Nat), AdjsIn V sa M.rc.adjs → Calls Try.prog 9 #[.agg (M.cs sa sc)] V (fun e X => e = .returned (.tuple #[.string E, .int .i64 0]) ∧ Below V.heap.size V X) from fun V sa sc hA => by
    have h := mencode_any M sa sc V hmo hA hal
    unfold Ms.encS Ms.err at h
    rw [hmc, if_pos rfl, if_pos rfl, ← hE] at h
    exact h)
  have HDE := Lib.hid (show ∀ V, Calls Try.prog 16 #[.string E] V (DecM V M 0) from fun V => by
    have h := mdecode_any E V (by rw [hE]; omega)
    rw [hE, hmd.1, hmd.2, ← hE] at h
    exact h)
  have HCH := Lib.hid (show ∀ (V : World) (sa : Option Addr) (sc : Nat), AdjsIn V sa M.rc.adjs → Calls Try.prog 11 #[.agg (M.cs sa sc)] V (fun e X => e = .returned (.int .i64 0) ∧ Below V.heap.size V X) from fun V sa sc hA => by
    have h := mcheck_any M sa sc V hmo hA hal
    unfold Ms.err at h
    rw [hmc, if_pos rfl] at h
    exact h)
  have HSA := Lib.hid (show ∀ (V : World) (sa : Option Addr) (sc : Nat) (ta : Option Addr) (tc : Nat), AdjsIn V sa M.rc.adjs → AdjsIn V ta M.rc.adjs → Calls Try.prog 20 #[.agg (M.cs sa sc), .agg (M.cs ta tc)] V (fun e X => e = .returned (.bool true) ∧ Below V.heap.size V X) from fun V sa sc ta tc hA hB => msame_any M sa sc ta tc V hmo hA hB hal)
  obtain ⟨kd, hkd⟩ : ∃ k, k = M.kd := ⟨_, rfl⟩
  have HKI := Lib.hid (show ∀ V, Calls Try.prog 17 #[.string E] V (fun e X => e = .returned (.int .i64 kd) ∧ Below V.heap.size V X) from fun V => by
    have h := mkind_any E V (by rw [hE]; omega)
    rw [show knd E = kd from by unfold knd; rw [hE, hmd.1, if_pos rfl, hmd.2, hkd]] at h
    exact h)
  obtain ⟨n1, hn1⟩ : ∃ n, n = N - 1 := ⟨_, rfl⟩
  have hl := dec_less hmo hmc n1 (by rw [hn1, hN, hE]; omega)
  have hr := dec_more hmo hmc ⟨#[0]⟩ rfl
  rw [← hE] at hl hr
  have HD1 := Lib.hid (show ∀ V, ∃ (m1 : Ms) (e1 : Int), e1 ≠ 0 ∧ Calls Try.prog 16 #[.string (E.extract 0 n1)] V (DecM V m1 e1) from fun V => ⟨_, _, hl, mdecode_any _ V (by rw [ByteArray.size_extract, hE]; omega)⟩)
  have HD2 := Lib.hid (show ∀ V, ∃ (m1 : Ms) (e1 : Int), e1 ≠ 0 ∧ Calls Try.prog 16 #[.string (E ++ ⟨#[0]⟩)] V (DecM V m1 e1) from fun V => ⟨_, _, hr, mdecode_any _ V (by rw [ByteArray.size_append, hE]; have h1 : (⟨#[0]⟩ : ByteArray).size = 1 := rfl; omega)⟩)
  have hN1 : N ≤ 103 := by rw [hN, hE]; omega
  have hN2 : 11 < N := by rw [hN, hE]; omega
  have s1 : (N : Int) - 1 = (n1 : Int) := by omega
  have w1 : IntKind.i64.wrap (n1 : Int) = (n1 : Int) := IntWalk.i64_in _ (by omega)
  have hn1b : n1 ≤ N := by omega
  have d512 : decide (512 < (N : Int)) = false := decide_eq_false (by omega)
  have hsz : E.size = N := hN.symm
  have hcat : ¬ 9223372036854775807 < E.size + (⟨#[0]⟩ : ByteArray).size := by
    show ¬ 9223372036854775807 < E.size + 1
    omega
  have HKD := Lib.hid hkd
  have HW1 := Lib.hid hW1
  have HB1 := Lib.hid hb1
  clear hW1 hb1 hM hmo hmc hme hmd hk5 hal hE hN hkd hn1 hl hr hp
  go_enter Try.func7, Try.ntmps7
  unfold Pt.ag at *
  go_upto_region 1 with fail
  rw [← HW1.out]
  go_wp2_with ((with_reducible refine wpList_load_cs rfl 48 (.tmp 1) rfl ⟨W.heap.size, 0, none⟩ rfl p.cs.toList _ HPC.out Try.underlying48 rfl HPI.out ?_); rw [Array.toArray_toList])
  refine HOF.out.mono ?_
  rintro e V ⟨sa, sc, rfl, har, hb⟩
  unfold Ms.ag
  have HAL1 := Lib.hid (hal_new V #[.int .i64 0, .int .i64 0, .int .u32 0, .int .u32 0, .int .i64 0, .bool false, .slice none 0 0, .int .i64 0, .int .u32 0, .int .u32 0, .int .i64 0, .int .i64 0, .int .u32 0, .int .i64 0, .int .i64 0, .int .i64 0, .int .u32 0, .int .u64 0, .int .u64 0, .int .u64 0, .int .u64 0, .int .i64 0, .int .i64 0, .int .i64 0, .int .u32 0, .int .u32 0, .int .u8 0, .int .i64 0, .int .u32 0, .int .i64 0, .int .u32 0, .int .u32 0] 38)
  have G1a := Lib.hid (info_msg' M sa sc)
  have G1b := Lib.hid (show (#[.int .i64 0, .int .i64 0, .int .u32 0, .int .u32 0, .int .i64 0, .bool false, .slice none 0 0, .int .i64 0, .int .u32 0, .int .u32 0, .int .i64 0, .int .i64 0, .int .u32 0, .int .i64 0, .int .i64 0, .int .i64 0, .int .u32 0, .int .u64 0, .int .u64 0, .int .u64 0, .int .u64 0, .int .i64 0, .int .i64 0, .int .i64 0, .int .u32 0, .int .u32 0, .int .u8 0, .int .i64 0, .int .u32 0, .int .i64 0, .int .u32 0, .int .u32 0] : Array Value).size = (M.cs sa sc).size from rfl)
  have G1c := Lib.hid (cs_one M sa sc)
  have G1d := Lib.hid (info_msg M sa sc)
  obtain ⟨g, hg⟩ : ∃ g, g = V.heap.size := ⟨_, rfl⟩
  obtain ⟨Y, hY⟩ : ∃ Y, Y = (V.alloc (.cells #[.int .i64 0, .int .i64 0, .int .u32 0, .int .u32 0, .int .i64 0, .bool false, .slice none 0 0, .int .i64 0, .int .u32 0, .int .u32 0, .int .i64 0, .int .i64 0, .int .u32 0, .int .i64 0, .int .i64 0, .int .i64 0, .int .u32 0, .int .u64 0, .int .u64 0, .int .u64 0, .int .u64 0, .int .i64 0, .int .i64 0, .int .i64 0, .int .u32 0, .int .u32 0, .int .u8 0, .int .i64 0, .int .u32 0, .int .i64 0, .int .u32 0, .int .u32 0] 38)).setRow V.heap.size (M.cs sa sc) := ⟨_, rfl⟩
  have hbY : Below V.heap.size V Y := by rw [hY]; exact below_setRow ((Below.refl _ _).alloc (Nat.le_refl _) _) (Nat.le_refl _)
  have HG1 := Lib.hid (show BoxM g M sa sc Y by rw [hY, hg]; exact setRow_heap _ _ _ _ _ _ HAL1.out)
  have HA1 := Lib.hid (show AdjsIn Y sa M.rc.adjs from (ARow.adjs har).later hbY)
  have HBY := Lib.hid (HB1.out.trans ((hb.trans (hbY.mono hb.size)).mono HB1.out.size))
  have HYE := Lib.hid hY
  have HGE := Lib.hid hg
  have HC1 := Lib.hid (block_cells HG1.out)
  clear hY hg hbY hb har HOF
  go_upto_region 2 with ((with_reducible refine wpList_store_row rfl 38 (.tmp 3) (.tmp 9) rfl rfl V.heap.size rfl 38 #[.int .i64 0, .int .i64 0, .int .u32 0, .int .u32 0, .int .i64 0, .bool false, .slice none 0 0, .int .i64 0, .int .u32 0, .int .u32 0, .int .i64 0, .int .i64 0, .int .u32 0, .int .i64 0, .int .i64 0, .int .i64 0, .int .u32 0, .int .u64 0, .int .u64 0, .int .u64 0, .int .u64 0, .int .i64 0, .int .i64 0, .int .i64 0, .int .u32 0, .int .u32 0, .int .u8 0, .int .i64 0, .int .u32 0, .int .i64 0, .int .u32 0, .int .u32 0] (M.cs sa sc) rfl HAL1.out G1a.out G1b.out G1c.out ?_))
  rw [← HYE.out, ← HGE.out]
  go_wp2_with (((with_reducible refine wpList_load_cs rfl 38 (.tmp 3) rfl ⟨g, 0, none⟩ rfl (M.cs sa sc).toList _ HC1.out Try.underlying38 rfl G1d.out ?_); rw [Array.toArray_toList]))
  refine (HEN.out Y sa sc HA1.out).mono ?_
  rintro e V2 ⟨rfl, hb⟩
  have HG2 := Lib.hid (HG1.out.later hb)
  have HA2 := Lib.hid (HA1.out.later hb)
  have HB2 := Lib.hid (HBY.out.trans (hb.mono HBY.out.size))
  clear hb
  go_wp2_with fail
  refine (HDE.out V2).mono ?_
  rintro e V3 ⟨ta, tc, rfl, har, hb⟩
  unfold Ms.ag
  have HAL2 := Lib.hid (hal_new V3 #[.int .i64 0, .int .i64 0, .int .u32 0, .int .u32 0, .int .i64 0, .bool false, .slice none 0 0, .int .i64 0, .int .u32 0, .int .u32 0, .int .i64 0, .int .i64 0, .int .u32 0, .int .i64 0, .int .i64 0, .int .i64 0, .int .u32 0, .int .u64 0, .int .u64 0, .int .u64 0, .int .u64 0, .int .i64 0, .int .i64 0, .int .i64 0, .int .u32 0, .int .u32 0, .int .u8 0, .int .i64 0, .int .u32 0, .int .i64 0, .int .u32 0, .int .u32 0] 38)
  have G2a := Lib.hid (info_msg' M ta tc)
  have G2b := Lib.hid (show (#[.int .i64 0, .int .i64 0, .int .u32 0, .int .u32 0, .int .i64 0, .bool false, .slice none 0 0, .int .i64 0, .int .u32 0, .int .u32 0, .int .i64 0, .int .i64 0, .int .u32 0, .int .i64 0, .int .i64 0, .int .i64 0, .int .u32 0, .int .u64 0, .int .u64 0, .int .u64 0, .int .u64 0, .int .i64 0, .int .i64 0, .int .i64 0, .int .u32 0, .int .u32 0, .int .u8 0, .int .i64 0, .int .u32 0, .int .i64 0, .int .u32 0, .int .u32 0] : Array Value).size = (M.cs ta tc).size from rfl)
  have G2c := Lib.hid (cs_one M ta tc)
  have G2d := Lib.hid (info_msg M ta tc)
  obtain ⟨g2, hg2⟩ : ∃ g, g = V3.heap.size := ⟨_, rfl⟩
  obtain ⟨Z, hZ⟩ : ∃ Z, Z = (V3.alloc (.cells #[.int .i64 0, .int .i64 0, .int .u32 0, .int .u32 0, .int .i64 0, .bool false, .slice none 0 0, .int .i64 0, .int .u32 0, .int .u32 0, .int .i64 0, .int .i64 0, .int .u32 0, .int .i64 0, .int .i64 0, .int .i64 0, .int .u32 0, .int .u64 0, .int .u64 0, .int .u64 0, .int .u64 0, .int .i64 0, .int .i64 0, .int .i64 0, .int .u32 0, .int .u32 0, .int .u8 0, .int .i64 0, .int .u32 0, .int .i64 0, .int .u32 0, .int .u32 0] 38)).setRow V3.heap.size (M.cs ta tc) := ⟨_, rfl⟩
  have hbZ : Below V3.heap.size V3 Z := by rw [hZ]; exact below_setRow ((Below.refl _ _).alloc (Nat.le_refl _) _) (Nat.le_refl _)
  have hb23 : Below V2.heap.size V2 Z := hb.trans (hbZ.mono hb.size)
  have HS := Lib.hid (show BkM W M g g2 sa sc ta tc Z from ⟨HB2.out.trans (hb23.mono HB2.out.size), HG2.out.later hb23, by rw [hZ, hg2]; exact setRow_heap _ _ _ _ _ _ HAL2.out, HA2.out.later hb23, (ARow.adjs har).later hbZ⟩)
  have HZE := Lib.hid hZ
  have HGE2 := Lib.hid hg2
  clear hZ hg2 hbZ hb23 hb har
  go_wp2_with ((with_reducible refine wpList_store_row rfl 38 (.tmp 6) (.tmp 18) rfl rfl V3.heap.size rfl 38 #[.int .i64 0, .int .i64 0, .int .u32 0, .int .u32 0, .int .i64 0, .bool false, .slice none 0 0, .int .i64 0, .int .u32 0, .int .u32 0, .int .i64 0, .int .i64 0, .int .u32 0, .int .i64 0, .int .i64 0, .int .i64 0, .int .u32 0, .int .u64 0, .int .u64 0, .int .u64 0, .int .u64 0, .int .i64 0, .int .i64 0, .int .i64 0, .int .u32 0, .int .u32 0, .int .u8 0, .int .i64 0, .int .u32 0, .int .i64 0, .int .u32 0, .int .u32 0] (M.cs ta tc) rfl HAL2.out G2a.out G2b.out G2c.out ?_))
  rw [← HZE.out, ← HGE2.out]
  obtain ⟨U, hU⟩ : ∃ U, U = Z.drew := ⟨_, rfl⟩
  have HU := Lib.hid (show BkM W M g g2 sa sc ta tc U by rw [hU]; exact HS.out.later (drew_below _))
  refine wp_region_ord [(0, true), (1, false), (2, true), (3, true), (4, true), (5, true), (6, true), (7, true), (8, true), (9, true), (10, true), (11, true), (12, true), (13, true), (14, false), (15, true), (16, true), (17, true), (18, true), (19, true), (20, true), (21, true), (22, true), (23, true), (25, true), (26, true), (24, false), (27, true), (28, true)] (BkM W M g g2 sa sc ta tc) (by kernel_rfl) (by kernel_rfl) (by decide) (by kernel_rfl) (fun d _ _ _ _ h => by cases d <;> first | exact h | exact h.later (drew_below _)) (by rw [← hU]; exact HU.out) ?_
  rw [← hU]
  clear hU
  ((apply wpOrd_take rfl rfl (by kernel_rfl); (intro V hV; exact run_load_cs _ _ 38 (.tmp 3) rfl ⟨g, 0, none⟩ rfl (M.cs sa sc).toList _ (block_cells hV.b1) Try.underlying38 rfl G1d.out)); (try simp only [List.setIfInBounds_toArray, List.set_cons_succ, List.set_cons_zero])); rw [Array.toArray_toList]
  apply wpOrd_do rfl (by kernel_rfl)
  intro K hK
  go_simp
  refine (HCH.out U sa sc HU.out.a1).mono ?_
  rintro e U2 ⟨rfl, hb⟩
  have HU2 := Lib.hid (HU.out.later hb)
  refine hK _ _ HU2.out ?_
  clear hK K hb
  iterate 10 ((apply wpOrd_take rfl rfl (by kernel_rfl); (intro V hV; go_simp; rfl)); (try simp only [List.setIfInBounds_toArray, List.set_cons_succ, List.set_cons_zero]))
  ((apply wpOrd_take rfl rfl (by kernel_rfl); (intro V hV; exact run_load_cs _ _ 38 (.tmp 6) rfl ⟨g2, 0, none⟩ rfl (M.cs ta tc).toList _ (block_cells hV.b2) Try.underlying38 rfl G2d.out)); (try simp only [List.setIfInBounds_toArray, List.set_cons_succ, List.set_cons_zero])); rw [Array.toArray_toList]
  ((apply wpOrd_take rfl rfl (by kernel_rfl); (intro V hV; exact run_load_cs _ _ 38 (.tmp 3) rfl ⟨g, 0, none⟩ rfl (M.cs sa sc).toList _ (block_cells hV.b1) Try.underlying38 rfl G1d.out)); (try simp only [List.setIfInBounds_toArray, List.set_cons_succ, List.set_cons_zero])); rw [Array.toArray_toList]
  apply wpOrd_do rfl (by kernel_rfl)
  intro K hK
  go_simp
  refine (HSA.out U2 ta tc sa sc HU2.out.a2 HU2.out.a1).mono ?_
  rintro e U3 ⟨rfl, hb⟩
  have HU3 := Lib.hid (HU2.out.later hb)
  refine hK _ _ HU3.out ?_
  clear hK K hb
  iterate 9 ((apply wpOrd_take rfl rfl (by kernel_rfl); (intro V hV; go_simp; rfl)); (try simp only [List.setIfInBounds_toArray, List.set_cons_succ, List.set_cons_zero]))
  iterate 2 ((apply wpOrd_take rfl rfl (by kernel_rfl); (intro V hV; have x0 : V.cell? ⟨g, 0, none⟩ = some (.int .i64 kd) := (by have h := hV.b1.cell (i := 0) (u := .int .i64 M.kd) rfl; rw [← HKD.out] at h; exact h); go_simp; rfl)); (try simp only [List.setIfInBounds_toArray, List.set_cons_succ, List.set_cons_zero]))
  apply wpOrd_do rfl (by kernel_rfl)
  intro K hK
  go_simp
  refine (HKI.out U3).mono ?_
  rintro e U4 ⟨rfl, hb⟩
  have HU4 := Lib.hid (HU3.out.later hb)
  refine hK _ _ HU4.out ?_
  clear hK K hb
  iterate 2 ((apply wpOrd_take rfl rfl (by kernel_rfl); (intro V hV; go_simp; rfl)); (try simp only [List.setIfInBounds_toArray, List.set_cons_succ, List.set_cons_zero]))
  refine wpOrd_nil ?_
  go_wp2_with fail
  obtain ⟨m1, e1, hne1, hd1⟩ := HD1.out U4
  have f1 : (e1 == 0) = false := by rw [beq_eq_false_iff_ne]; exact hne1
  have f1' : (e1 != 0) = true := by rw [bne_iff_ne]; exact hne1
  have HDD1 := Lib.hid hd1
  clear hne1 hd1
  refine HDD1.out.mono ?_
  rintro e V5 ⟨ua, uc, rfl, har, hb⟩
  have H5 := Lib.hid (HU4.out.later hb)
  clear har hb
  unfold Ms.ag
  go_wp2_with fail
  obtain ⟨m2, e2, hne2, hd2⟩ := HD2.out V5
  have f2 : (e2 == 0) = false := by rw [beq_eq_false_iff_ne]; exact hne2
  have f2' : (e2 != 0) = true := by rw [bne_iff_ne]; exact hne2
  have HDD2 := Lib.hid hd2
  clear hne2 hd2
  refine HDD2.out.mono ?_
  rintro e V6 ⟨ua2, uc2, rfl, har, hb⟩
  have H6 := Lib.hid (H5.out.later hb)
  clear har hb
  unfold Ms.ag
  go_wp2_with fail
  refine (works_any _).mono ?_
  rintro e V7 ⟨rfl, hb⟩
  have H7 := Lib.hid (H6.out.later hb)
  clear hb
  go_wp2_with fail
  go_returns
  exact ⟨rfl, H7.out.bel⟩

end Go.Proofs.Ytickjmkkgcfkhaa
