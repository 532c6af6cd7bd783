/- The walk of the law MsgTurned. (Printed by mkmsturned.py.) -/
import Derived.Test.YtickjmkkgcfkhaaMsU
import Derived.Test.YtickjmkkgcfkhaaMsX
import Derived.Test.YtickjmkkgcfkhaaMsTQ
import Derived.Laws.BitsAllLaws
set_option linter.unusedSimpArgs false
set_option linter.unusedVariables false
set_option maxRecDepth 100000
namespace Go.Proofs.Ytickjmkkgcfkhaa
open Go.RowKit Go.ChangeShapes Go.WideShapes

theorem info_parts13 (p : Pt) : (Try.prog.info? 48).map (·.size) = some p.cs.toList.length := by
  show _ = some 13
  kernel_rfl
theorem u8_xor_go (x b : UInt8) : bits .xor .u8 (x.toNat : Int) (b.toNat : Int) = ((x ^^^ b).toNat : Int) := by
  have hx := x.toNat_lt
  have hb := b.toNat_lt
  have hr : x.toNat ^^^ b.toNat < 2 ^ 8 := Nat.xor_lt_two_pow (by omega) (by omega)
  rw [u8_xor_nat x.toNat b.toNat (by omega) (by omega), UInt8.toNat_xor]
set_option maxHeartbeats 12800000 in
theorem msgTurned_nat (p : Pt) (at_ : Nat) (b : UInt8) (W : World) (hp : p.ok) (ha : at_ < 65536) : Calls Try.prog 5 #[p.ag, .int .u16 at_, .int .u8 (b.toNat : Int)] W fun e W' => e = .returned (.bool true) ∧ Below W.heap.size W W' := by
  obtain ⟨W1, hW1⟩ : ∃ W1, W1 = W.alloc (.cells p.cs 48) := ⟨_, rfl⟩
  have hb1 : Below W.heap.size W W1 := by rw [hW1]; exact (Below.refl _ _).alloc (Nat.le_refl _) _
  have HPC := Lib.hid (show ∀ j v, p.cs.toList[j]? = some v → W1.cell? ((⟨W.heap.size, 0, none⟩ : Addr).add j) = some v from block_cells (by rw [hW1]; exact heap_alloc_new _ _))
  have HPI := Lib.hid (info_parts13 p)
  have HOF := Lib.hid (lof_any p W1 hp)
  have hmo := ofM_ok p hp
  have hmc := ofM_chk p hp
  obtain ⟨M, hM⟩ : ∃ M, M = ofM p := ⟨_, rfl⟩
  rw [← hM] at HOF hmo hmc
  have hme := menc_size hmc
  have hmd := decM_enc hmo hmc
  obtain ⟨hk5, _, _⟩ := chk_kd hmc
  have hal : M.rc.adjs.length ≤ maxLen := by
    rcases Nat.lt_or_ge 16 M.rc.adjs.length with hh | hh
    · exfalso
      obtain ⟨hk, hf, hy⟩ := chk_kd hmc
      unfold Ms.fit at hf
      unfold Ms.may at hy
      split at hf
      · rename_i h1
        rw [if_pos h1] at hy
        simp only [Rc.chk, Bool.and_eq_true, decide_eq_true_eq] at hy
        omega
      · have hz : M.zr = true := by
          split at hf
          · simp only [Bool.and_eq_true] at hf; exact hf.1.1.1.1
          · split at hf
            · simp only [Bool.and_eq_true] at hf; exact hf.1.1.1.1
            · split at hf
              · simp only [Bool.and_eq_true] at hf; exact hf.1.1.1
              · simp only [Bool.and_eq_true] at hf; exact hf.1.1.1
        have := nul_is hz
        rw [this] at hh
        simp [Rc.zero] at hh
    · unfold maxLen; omega
  obtain ⟨E, hE⟩ : ∃ E, E = M.enc := ⟨_, rfl⟩
  obtain ⟨N, hN⟩ : ∃ N, N = E.size := ⟨_, rfl⟩
  have HEN := Lib.hid (show ∀ (V : World) (sa : Option Addr) (sc : Nat), AdjsIn V sa M.rc.adjs → Calls Try.prog 9 #[.agg (M.cs sa sc)] V (fun e X => e = .returned (.tuple #[.string E, .int .i64 0]) ∧ Below V.heap.size V X) from fun V sa sc hA => by
    have h := mencode_any M sa sc V hmo hA hal
    unfold Ms.encS Ms.err at h
    rw [hmc, if_pos rfl, if_pos rfl, ← hE] at h
    exact h)
  have HDE := Lib.hid (show ∀ V, Calls Try.prog 16 #[.string E] V (DecM V M 0) from fun V => by
    have h := mdecode_any E V (by rw [hE]; omega)
    rw [hE, hmd.1, hmd.2, ← hE] at h
    exact h)
  obtain ⟨i, hi⟩ : ∃ i, i = at_ % N := ⟨_, rfl⟩
  have hN1 : N ≤ 103 := by rw [hN, hE]; omega
  have hN2 : 11 < N := by rw [hN, hE]; omega
  have hiN : i < N := by rw [hi]; exact Nat.mod_lt _ (by omega)
  have HTU := Lib.hid (show b ≠ 0 → decME (turnB E i b) = 5 ∧ decM (turnB E i b) = Ms.zero from fun h => by rw [hE]; exact dec_turned hmc (by rw [← hE, ← hN]; exact hiN) h)
  have hsz : E.size = N := hN.symm
  have tma : Int.tmod (at_ : Int) (N : Int) = (i : Int) := by rw [hi]; exact tm at_ N
  have d3 : decide ((N : Int) < 3) = false := decide_eq_false (by omega)
  have hNz : ((N : Int) == 0) = false := by rw [beq_eq_false_iff_ne]; omega
  have hNz2 : ¬ (N : Int) = 0 := by omega
  have HW1 := Lib.hid hW1
  have HB1 := Lib.hid hb1
  clear hW1 hb1 hM hmo hmc hme hmd hk5 hal hE hN hp hi HDE
  go_enter Try.func5, Try.ntmps5
  unfold Pt.ag at *
  go_upto_region 1 with fail
  rw [← HW1.out]
  go_wp2_with ((with_reducible refine wpList_load_cs rfl 48 (.tmp 3) rfl ⟨W.heap.size, 0, none⟩ rfl p.cs.toList _ HPC.out Try.underlying48 rfl HPI.out ?_); rw [Array.toArray_toList])
  refine HOF.out.mono ?_
  rintro e V1 ⟨sa, sc, rfl, har, hb⟩
  unfold Ms.ag
  have HA1 := Lib.hid (ARow.adjs har)
  have HB2 := Lib.hid (HB1.out.trans (hb.mono HB1.out.size))
  clear har hb HOF
  go_wp2_with fail
  refine (HEN.out V1 sa sc HA1.out).mono ?_
  rintro e V3 ⟨rfl, hb⟩
  have HB3 := Lib.hid (HB2.out.trans (hb.mono HB2.out.size))
  clear hb
  by_cases hb0 : b = 0
  · have t1 : ((b.toNat : Int) == 0) = true := by rw [hb0]; rfl
    clear hb0
    go_wp2_with fail
    refine (works_any _).mono ?_
    rintro e V9 ⟨rfl, hb⟩
    have HS9 := Lib.hid (HB3.out.trans (hb.mono HB3.out.size))
    clear hb
    go_wp2_with fail
    go_returns
    exact ⟨rfl, HS9.out⟩
  have t1 : ((b.toNat : Int) == 0) = false := by
    rw [beq_eq_false_iff_ne]
    intro h
    exact hb0 (UInt8.toNat_inj.1 (by rw [show (0 : UInt8).toNat = 0 from rfl]; omega))
  have HB0 := Lib.hid hb0
  clear hb0
  go_wp2_with (with_reducible show wpList _ _ _ (⟨some 40, _, _, _, _, _⟩ :: _) _ _; refine wpList_bytes_row rfl (.tmp 39) 9 52 5 rfl Try.underlying9 Try.underlying52 Try.underlying5 E rfl V3.heap.size (Nat.le_refl _) (by unfold maxLen; omega) ?_; intro v1 w1 hrow1 hb1)
  rw [hsz] at hrow1
  have HS4 := Lib.hid (HB3.out.trans (hb1.mono HB3.out.size))
  have HGT := Lib.hid HB3.out.size
  clear hb1
  obtain ⟨gb, cap, rfl, hge, hglt, hcap1, hcap2, hcells, hfrz⟩ := Row.form hrow1 (by omega)
  obtain ⟨x, hx⟩ : ∃ x, x = E.data.toList.getD i 0 := ⟨_, rfl⟩
  have hil : i < E.data.toList.length := by rw [size_eq, hsz]; exact hiN
  have hci : w1.cell? ⟨gb, i, none⟩ = some (.int .u8 (x.toNat : Int)) := by
    rw [hcells i (by omega), List.getElem?_map, List.getElem?_eq_getElem hil, hx, List.getD_eq_getElem?_getD, List.getElem?_eq_getElem hil]
    rfl
  have hfi := hfrz i (by omega)
  have hxo := u8_xor_go x b
  obtain ⟨z, hz⟩ : ∃ z : Int, z = bits .xor .u8 (x.toNat : Int) (b.toNat : Int) := ⟨_, rfl⟩
  obtain ⟨hst, hgr⟩ := Row.stored hrow1 i (.int .u8 z)
  obtain ⟨U, hU⟩ : ∃ U, U = w1.setCell ⟨gb, i, none⟩ (.int .u8 z) := ⟨_, rfl⟩
  rw [← hU] at hst
  obtain ⟨s, hs⟩ : ∃ s, s = turnB E i b := ⟨_, rfl⟩
  have HROW := Lib.hid (show Row U V3.heap.size 5 1 (.slice (some ⟨gb, 0, none⟩) N cap) N ((E.data.toList.set i (x ^^^ b)).map byteV) by
    rw [List.map_set, show byteV (x ^^^ b) = .int .u8 z from by rw [hz, hxo]; rfl]
    exact hst)
  have HSB := Lib.hid (show s = bs (E.data.toList.set i (x ^^^ b)) by rw [hs, turnB, hx])
  have HTS := Lib.hid (show decME s = 5 ∧ decM s = Ms.zero ∧ s.size = N from ⟨by rw [hs]; exact (HTU.out HB0.out).1, by rw [hs]; exact (HTU.out HB0.out).2, by rw [hs, turnB_size, hsz]⟩)
  have HS5 := Lib.hid (show Below W.heap.size W U from by rw [hU]; exact HS4.out.setCell (by have := HGT.out; simp only; omega) _)
  rw [hz] at hU
  have HU := Lib.hid hU
  have b0i : (i : Int) < (N : Int) := by omega
  clear hrow1 hcells hfrz hst hgr hU hs hz hx hxo hil hge
  have HXS := Lib.hid (fun (V : World) (hV : Below U.heap.size U V) => run_string_row (P := Try.prog) 52 9 Try.underlying52 Try.underlying5 Try.underlying9 (Row.later HROW.out hV))
  rw [← HSB.out] at HXS
  have HDC := Lib.hid (show ∀ V, Calls Try.prog 16 #[.string s] V (DecM V Ms.zero 5) from fun V => by
    have h := mdecode_any s V (by rw [HTS.out.2.2]; omega)
    rw [HTS.out.1, HTS.out.2.1] at h
    exact h)
  have HKC := Lib.hid (show ∀ V, Calls Try.prog 17 #[.string s] V (fun e X => e = .returned (.int .i64 0) ∧ Below V.heap.size V X) from fun V => by
    have h := mkind_any s V (by rw [HTS.out.2.2]; omega)
    rw [show knd s = 0 from by unfold knd; rw [HTS.out.1]; rfl] at h
    exact h)
  have hcv := HXS.out U (Below.refl _ _)
  rw [HU.out] at hcv
  have hlen : (Builtin.len_ #[52] 3 #[.slice (some ⟨gb, 0, none⟩) N cap]).run Try.prog w1 = .ok (.int .i64 (N : Int)) w1 := run_len_slice w1 _ _ _ _ _ (by kernel_rfl)
  go_wp2_with fail
  (try rw [hlen])
  (try go_wp2_with fail)
  rw [← HU.out]
  clear hcv hci hfi b0i hlen
  refine (HDC.out U).mono ?_
  rintro e V ⟨ta, tc, rfl, har, hb⟩
  unfold Ms.ag
  have HAL2 := Lib.hid (hal_new V #[.int .i64 0, .int .i64 0, .int .u32 0, .int .u32 0, .int .i64 0, .bool false, .slice none 0 0, .int .i64 0, .int .u32 0, .int .u32 0, .int .i64 0, .int .i64 0, .int .u32 0, .int .i64 0, .int .i64 0, .int .i64 0, .int .u32 0, .int .u64 0, .int .u64 0, .int .u64 0, .int .u64 0, .int .i64 0, .int .i64 0, .int .i64 0, .int .u32 0, .int .u32 0, .int .u8 0, .int .i64 0, .int .u32 0, .int .i64 0, .int .u32 0, .int .u32 0] 38)
  have G2a := Lib.hid (info_msg' Ms.zero ta tc)
  have G2b := Lib.hid (show (#[.int .i64 0, .int .i64 0, .int .u32 0, .int .u32 0, .int .i64 0, .bool false, .slice none 0 0, .int .i64 0, .int .u32 0, .int .u32 0, .int .i64 0, .int .i64 0, .int .u32 0, .int .i64 0, .int .i64 0, .int .i64 0, .int .u32 0, .int .u64 0, .int .u64 0, .int .u64 0, .int .u64 0, .int .i64 0, .int .i64 0, .int .i64 0, .int .u32 0, .int .u32 0, .int .u8 0, .int .i64 0, .int .u32 0, .int .i64 0, .int .u32 0, .int .u32 0] : Array Value).size = (Ms.zero.cs ta tc).size from rfl)
  have G2c := Lib.hid (cs_one Ms.zero ta tc)
  have G2d := Lib.hid (info_msg Ms.zero ta tc)
  obtain ⟨g2, hg2⟩ : ∃ g, g = V.heap.size := ⟨_, rfl⟩
  obtain ⟨Z, hZ⟩ : ∃ Z, Z = (V.alloc (.cells #[.int .i64 0, .int .i64 0, .int .u32 0, .int .u32 0, .int .i64 0, .bool false, .slice none 0 0, .int .i64 0, .int .u32 0, .int .u32 0, .int .i64 0, .int .i64 0, .int .u32 0, .int .i64 0, .int .i64 0, .int .i64 0, .int .u32 0, .int .u64 0, .int .u64 0, .int .u64 0, .int .u64 0, .int .i64 0, .int .i64 0, .int .i64 0, .int .u32 0, .int .u32 0, .int .u8 0, .int .i64 0, .int .u32 0, .int .i64 0, .int .u32 0, .int .u32 0] 38)).setRow V.heap.size (Ms.zero.cs ta tc) := ⟨_, rfl⟩
  have hbZ : Below V.heap.size V Z := by rw [hZ]; exact below_setRow ((Below.refl _ _).alloc (Nat.le_refl _) _) (Nat.le_refl _)
  have HBX := Lib.hid (show BoxM g2 Ms.zero ta tc Z by rw [hZ, hg2]; exact setRow_heap _ _ _ _ _ _ HAL2.out)
  have hbUZ : Below U.heap.size U Z := hb.trans (hbZ.mono hb.size)
  have HUZ := Lib.hid hbUZ
  have HWZ := Lib.hid (HS5.out.trans (hbUZ.mono HS5.out.size))
  have HZE := Lib.hid hZ
  have HGE2 := Lib.hid hg2
  clear hZ hg2 hbZ hb har hbUZ
  go_upto_region 8 with ((with_reducible refine wpList_store_row rfl 38 (.tmp 11) (.tmp 59) rfl rfl V.heap.size rfl 38 #[.int .i64 0, .int .i64 0, .int .u32 0, .int .u32 0, .int .i64 0, .bool false, .slice none 0 0, .int .i64 0, .int .u32 0, .int .u32 0, .int .i64 0, .int .i64 0, .int .u32 0, .int .i64 0, .int .i64 0, .int .i64 0, .int .u32 0, .int .u64 0, .int .u64 0, .int .u64 0, .int .u64 0, .int .i64 0, .int .i64 0, .int .i64 0, .int .u32 0, .int .u32 0, .int .u8 0, .int .i64 0, .int .u32 0, .int .i64 0, .int .u32 0, .int .u32 0] (Ms.zero.cs ta tc) rfl HAL2.out G2a.out G2b.out G2c.out ?_))
  rw [← HZE.out, ← HGE2.out]
  have x0 : Z.cell? ⟨g2, 0, none⟩ = some (.int .i64 0) := HBX.out.cell rfl
  have hcv := HXS.out Z HUZ.out
  go_wp2_with fail
  refine (HKC.out Z).mono ?_
  rintro e Z2 ⟨rfl, hb⟩
  have HB8 := Lib.hid (HWZ.out.trans (hb.mono HWZ.out.size))
  clear hb hcv x0
  go_wp2_with fail
  refine (works_any _).mono ?_
  rintro e V9 ⟨rfl, hb⟩
  have HS9 := Lib.hid (HB8.out.trans (hb.mono HB8.out.size))
  clear hb
  go_wp2_with fail
  go_returns
  exact ⟨rfl, HS9.out⟩
theorem msgTurned_walk (p : Pt) (a y : Int) (W : World) (hp : p.ok) (ha : 0 ≤ a ∧ a ≤ 65535) (hy : 0 ≤ y ∧ y ≤ 255) : Calls Try.prog 5 #[p.ag, .int .u16 a, .int .u8 y] W fun e W' => e = .returned (.bool true) ∧ Below W.heap.size W W' := by
  obtain ⟨b, rfl⟩ : ∃ b : UInt8, y = (b.toNat : Int) := ⟨UInt8.ofNat y.toNat, by
    have : (UInt8.ofNat y.toNat).toNat = y.toNat % 256 := UInt8.toNat_ofNat'
    rw [this]; omega⟩
  obtain ⟨k, rfl⟩ : ∃ k : Nat, a = k := ⟨a.toNat, by omega⟩
  exact msgTurned_nat p k b W hp (by omega)

end Go.Proofs.Ytickjmkkgcfkhaa
