/- The walk of the law HeaderTurned. -/
import Derived.Test.YtbcgfojdlehnpaaHeaderTurnedP
set_option linter.unusedSimpArgs false
set_option linter.unusedVariables false
namespace Go.Proofs.Ytbcgfojdlehnpaa
open Go.RowKit Go.ChangeShapes Go.WideShapes

theorem u8_xor_go (x b : UInt8) : bits .xor .u8 (x.toNat : Int) (b.toNat : Int) = ((x ^^^ b).toNat : Int) := by
  have hx := x.toNat_lt
  have hb := b.toNat_lt
  have hr : x.toNat ^^^ b.toNat < 2 ^ 8 := Nat.xor_lt_two_pow (by omega) (by omega)
  rw [u8_xor_nat x.toNat b.toNat (by omega) (by omega), UInt8.toNat_xor]
set_option maxRecDepth 100000 in
set_option maxHeartbeats 12800000 in
theorem headerTurned_walk (h : Hd) (a y : Int) (W : World) (hk : h.ok) (ha : -9223372036854775808 ≤ a ∧ a ≤ 9223372036854775807) (hy : 0 ≤ y ∧ y ≤ 255) :
    Calls Try.prog 5 #[h.ag, .int .i64 a, .int .u8 y] W fun e W' => e = .returned (.bool true) ∧ Below W.heap.size W W' := by
  obtain ⟨W1, hW1⟩ : ∃ W1, W1 = W.alloc (.cells h.cs 27) := ⟨_, rfl⟩
  have hb1 : Below W.heap.size W W1 := by rw [hW1]; exact (Below.refl _ _).alloc (Nat.le_refl _) _
  have hbh : BoxV W.heap.size h.wid h.set h.ent h.hops h.src h.grp h.id h.bits.a h.bits.b h.bits.c h.bits.d W1 := by rw [hW1]; exact heap_alloc_new _ _
  have HBH := Lib.hid hbh
  obtain ⟨y0, y1, y2, y3, y4, y5, y6, y7, y8, y9, y10⟩ := hbh.cells
  have HR := Lib.hid (right_any h W1 hk)
  have HB1 := Lib.hid hb1
  unfold Hd.cs at hW1
  rw [hW1] at y0 y1 y2 y3 y4 y5 y6 y7 y8 y9 y10
  have HW1 := Lib.hid hW1
  clear hW1 hb1 hbh hk
  obtain ⟨b, rfl⟩ : ∃ b : UInt8, y = (b.toNat : Int) := ⟨UInt8.ofNat y.toNat, by
    have : (UInt8.ofNat y.toNat).toNat = y.toNat % 256 := UInt8.toNat_ofNat'
    rw [this]; omega⟩
  clear hy ha
  go_enter Try.func5, Try.ntmps5
  unfold Hd.ag Hd.cs at *
  go_wp2_with fail
  rw [← HW1.out]
  clear y0 y1 y2 y3 y4 y5 y6 y7 y8 y9 y10
  refine HR.out.mono ?_
  rintro e V1 ⟨g, hgo, hgc, rfl, hb⟩
  have hbh1 := HBH.out.later hb
  have hbl1 := HB1.out.trans (hb.mono HB1.out.size)
  obtain ⟨y0, y1, y2, y3, y4, y5, y6, y7, y8, y9, y10⟩ := hbh1.cells
  obtain ⟨f0, f1, f2, f3, f4, f5, f6, f7, f8, f9, f10⟩ := hbh1.frozen
  obtain ⟨V2, hV2⟩ : ∃ V, V = (((((((((((V1.setCell ⟨W.heap.size, 0, none⟩ (.int .i64 g.wid)).setCell ⟨W.heap.size, 1, none⟩ (.int .i64 g.set)).setCell ⟨W.heap.size, 2, none⟩ (.int .u32 (g.ent : Int))).setCell ⟨W.heap.size, 3, none⟩ (.int .i64 g.hops)).setCell ⟨W.heap.size, 4, none⟩ (.int .i64 g.src)).setCell ⟨W.heap.size, 5, none⟩ (.int .i64 g.grp)).setCell ⟨W.heap.size, 6, none⟩ (.int .u32 (g.id : Int))).setCell ⟨W.heap.size, 7, none⟩ (.int .u64 (g.bits.a : Int))).setCell ⟨W.heap.size, 8, none⟩ (.int .u64 (g.bits.b : Int))).setCell ⟨W.heap.size, 9, none⟩ (.int .u64 (g.bits.c : Int))).setCell ⟨W.heap.size, 10, none⟩ (.int .u64 (g.bits.d : Int))) := ⟨_, rfl⟩
  have HS2 := Lib.hid (show BkS W g V2 from ⟨by rw [hV2]; exact (((((((((((hbh1.set0 _).set1 _).set2 _).set3 _).set4 _).set5 _).set6 _).set7 _).set8 _).set9 _).set10 _), by
    rw [hV2]
    repeat (with_reducible refine Below.setCell ?_ (by simp only; omega) _)
    exact hbl1⟩)
  have HEN := Lib.hid (show GC 13 #[.agg #[.int .i64 g.wid, .int .i64 g.set, .int .u32 g.ent, .int .i64 g.hops, .int .i64 g.src, .int .i64 g.grp, .int .u32 g.id, .int .u64 g.bits.a, .int .u64 g.bits.b, .int .u64 g.bits.c, .int .u64 g.bits.d]] (.tuple #[.string g.enc, .int .i64 0]) from fun V => hencode_yes g V hgo hgc)
  have hsz := Hd.enc_size hgc
  have hwd := (Hd.chk_is hgc).1
  have hN : 2 ≤ g.enc.size ∧ g.enc.size ≤ 1000 := by
    rw [sizeV, if_pos hwd] at hsz
    have := wide_cases hwd
    omega
  have HGO := Lib.hid hgo
  have HGC := Lib.hid hgc
  obtain ⟨E, hE⟩ : ∃ E, E = g.enc := ⟨_, rfl⟩
  rw [← hE] at HEN hN
  have HEE := Lib.hid hE
  obtain ⟨z0, z1, z2, z3, z4, z5, z6, z7, z8, z9, z10⟩ := HS2.out.h.cells
  rw [hV2] at z0 z1 z2 z3 z4 z5 z6 z7 z8 z9 z10
  have HV2 := Lib.hid hV2
  clear hE hb hbh1 hbl1 hV2 hsz hwd hgo hgc
  go_wp2_with fail
  rw [← HV2.out]
  clear y0 y1 y2 y3 y4 y5 y6 y7 y8 y9 y10 f0 f1 f2 f3 f4 f5 f6 f7 f8 f9 f10 z0 z1 z2 z3 z4 z5 z6 z7 z8 z9 z10
  refine (HEN.out _).mono ?_
  rintro e V3 ⟨rfl, hb⟩
  have HS3 := Lib.hid (HS2.out.later hb)
  clear hb
  obtain ⟨hN1, hN2⟩ := hN
  by_cases hb0 : b = 0
  · have t1 : ((b.toNat : Int) == 0) = true := by rw [hb0]; rfl
    clear hb0
    go_wp2_with fail
    refine (works_any _).mono ?_
    rintro e V9 ⟨rfl, hb⟩
    have HS9 := Lib.hid (HS3.out.later hb)
    clear hb
    go_wp2_with fail
    go_returns
    exact ⟨rfl, HS9.out.bel⟩
  have t1 : ((b.toNat : Int) == 0) = false := by
    rw [beq_eq_false_iff_ne]
    intro h
    exact hb0 (UInt8.toNat_inj.1 (by rw [show (0 : UInt8).toNat = 0 from rfl]; omega))
  have t2 : ((E.size : Int) == 0) = false := by rw [beq_eq_false_iff_ne]; omega
  have HB0 := Lib.hid hb0
  obtain ⟨u, i, e0, l0, q0, b0, r0a, r0, v0, i0⟩ := rem_at a E.size (by omega) hN2
  have hEw : IntKind.u64.wrap (E.size : Int) = (E.size : Int) := IntWalk.u64_in _ (by omega)
  clear hb0 l0 q0 r0a v0
  go_wp2_with (with_reducible show wpList _ _ _ (⟨some 43, _, _, _, _, _⟩ :: _) _ _; refine wpList_bytes_row rfl (.tmp 42) 9 40 5 rfl Try.underlying9 Try.underlying40 Try.underlying5 E rfl V3.heap.size (Nat.le_refl _) (by unfold maxLen; omega) ?_; intro v1 w1 hrow1 hb1)
  have HS4 := Lib.hid (HS3.out.later hb1)
  have hgt0 : W.heap.size < V3.heap.size := by
    have h1 := HS3.out.h
    exact (Array.getElem?_eq_some_iff.1 h1).1
  clear hb1
  obtain ⟨gb, cap, rfl, hge, hglt, hcap1, hcap2, hcells, hfrz⟩ := Row.form hrow1 (by omega)
  obtain ⟨x, hx⟩ : ∃ x, x = E.data.toList.getD i 0 := ⟨_, rfl⟩
  have hil : i < E.data.toList.length := by rw [size_eq]; exact b0
  have hci : w1.cell? ⟨gb, i, none⟩ = some (.int .u8 (x.toNat : Int)) := by
    rw [hcells i (by omega), List.getElem?_map, List.getElem?_eq_getElem hil, hx, List.getD_eq_getElem?_getD, List.getElem?_eq_getElem hil]
    rfl
  have hfi := hfrz i (by omega)
  have hxo := u8_xor_go x b
  obtain ⟨z, hz⟩ : ∃ z : Int, z = bits .xor .u8 (x.toNat : Int) (b.toNat : Int) := ⟨_, rfl⟩
  obtain ⟨hst, hgr⟩ := Row.stored hrow1 i (.int .u8 z)
  obtain ⟨U, hU⟩ : ∃ U, U = w1.setCell ⟨gb, i, none⟩ (.int .u8 z) := ⟨_, rfl⟩
  rw [← hU] at hst
  obtain ⟨s, hs⟩ : ∃ s, s = turnB E i b := ⟨_, rfl⟩
  have HROW := Lib.hid (show Row U V3.heap.size 5 1 (.slice (some ⟨gb, 0, none⟩) E.size cap) E.size ((E.data.toList.set i (x ^^^ b)).map byteV) by
    rw [List.map_set, show byteV (x ^^^ b) = .int .u8 z from by rw [hz, hxo]; rfl]
    exact hst)
  have HSB := Lib.hid (show s = bs (E.data.toList.set i (x ^^^ b)) by rw [hs, turnB, hx])
  have HSN := Lib.hid (show s ≠ E ∧ s.size = E.size from ⟨by rw [hs]; exact turnB_ne b0 HB0.out, by rw [hs]; exact turnB_size E i b⟩)
  have HS5 := Lib.hid (show BkS W g U from ⟨by rw [hU]; exact HS4.out.h.other _ _ _ (by omega), by rw [hU]; exact HS4.out.bel.setCell (by simp only; omega) _⟩)
  rw [hz] at hU
  have HU := Lib.hid hU
  have HGT := Lib.hid hgt0
  have hgtb : W.heap.size < gb := by omega
  have b0i : (i : Int) < (E.size : Int) := by omega
  clear hrow1 hcells hfrz hst hgr hU hs hz hx hxo hil hgt0 hge
  have HXS := Lib.hid (fun (V : World) (hV : Below U.heap.size U V) => run_string_row (P := Try.prog) 40 9 Try.underlying40 Try.underlying5 Try.underlying9 (Row.later HROW.out hV))
  rw [← HSB.out] at HXS
  have hcv := HXS.out U (Below.refl _ _)
  rw [HU.out] at hcv
  have hlen : (Builtin.len_ #[40] 3 #[.slice (some ⟨gb, 0, none⟩) E.size cap]).run Try.prog w1 = .ok (.int .i64 (E.size : Int)) w1 := run_len_slice w1 _ _ _ _ _ (by kernel_rfl)
  go_wp2_with fail
  rw [hlen]
  go_wp2_with fail
  rw [← HU.out]
  clear hcv hci hfi e0 r0 i0 hEw t1 t2 b0i hlen
  have hss : s.size ≤ 140737488355328 := by have := HSN.out.2; omega
  have htr := turned_read HGC.out (s := s) (by rw [← HEE.out]; exact HSN.out.1) (by rw [HSN.out.2]; omega)
  have hdc := hdecode_any s U hss
  rcases htr with ⟨h1, h2, h3, h4, h5⟩ | ⟨h1, h2, h3⟩
  · rw [h1] at hdc
    obtain ⟨X, hX⟩ : ∃ X, X = decH s := ⟨_, rfl⟩
    rw [← hX] at hdc h2 h3 h4 h5
    have HDC := Lib.hid hdc
    have hea := hencode_yes X
    rw [h4] at hea
    have HEA := Lib.hid (show GC 13 #[.agg #[.int .i64 X.wid, .int .i64 X.set, .int .u32 X.ent, .int .i64 X.hops, .int .i64 X.src, .int .i64 X.grp, .int .u32 X.id, .int .u64 X.bits.a, .int .u64 X.bits.b, .int .u64 X.bits.c, .int .u64 X.bits.d]] (.tuple #[.string s, .int .i64 0]) from fun V => hea V h3 h2)
    have HEQ := Lib.hid (fun V => show (Op.equalIn 10000 27 (.agg #[.int .i64 X.wid, .int .i64 X.set, .int .u32 X.ent, .int .i64 X.hops, .int .i64 X.src, .int .i64 X.grp, .int .u32 X.id, .int .u64 X.bits.a, .int .u64 X.bits.b, .int .u64 X.bits.c, .int .u64 X.bits.d]) (.agg #[.int .i64 g.wid, .int .i64 g.set, .int .u32 g.ent, .int .i64 g.hops, .int .i64 g.src, .int .i64 g.grp, .int .u32 g.id, .int .u64 g.bits.a, .int .u64 g.bits.b, .int .u64 g.bits.c, .int .u64 g.bits.d])).run Try.prog V = .ok false V from by
      have h1 := eq_hd X g h3 HGO.out V
      rw [decide_eq_false h5] at h1
      exact h1)
    clear hdc hX h1 h2 h3 h4 h5 hea
    unfold Hd.ag Hd.cs at HDC
    refine HDC.out.mono ?_
    rintro e V6 ⟨rfl, hb⟩
    have HB6 := Lib.hid hb
    have HS6 := Lib.hid (HS5.out.later hb)
    clear hb
    obtain ⟨p, hp⟩ : ∃ p, p = V6.heap.size := ⟨_, rfl⟩
    obtain ⟨V7, hV7⟩ : ∃ V, V = V6.alloc (.cells #[.int .i64 X.wid, .int .i64 X.set, .int .u32 X.ent, .int .i64 X.hops, .int .i64 X.src, .int .i64 X.grp, .int .u32 X.id, .int .u64 X.bits.a, .int .u64 X.bits.b, .int .u64 X.bits.c, .int .u64 X.bits.d] 27) := ⟨_, rfl⟩
    have hbV : Below V6.heap.size V6 V7 := by rw [hV7]; exact (Below.refl _ _).alloc (Nat.le_refl _) _
    have HS7 := Lib.hid (HS6.out.later hbV)
    have HX7 := Lib.hid (show BoxV p X.wid X.set X.ent X.hops X.src X.grp X.id X.bits.a X.bits.b X.bits.c X.bits.d V7 by rw [hV7, hp]; exact heap_alloc_new _ _)
    have HB7 := Lib.hid (HB6.out.trans (hbV.mono HB6.out.size))
    obtain ⟨y0, y1, y2, y3, y4, y5, y6, y7, y8, y9, y10⟩ := HX7.out.cells
    rw [hV7, hp] at y0 y1 y2 y3 y4 y5 y6 y7 y8 y9 y10
    have HV7 := Lib.hid hV7
    have HP := Lib.hid hp
    clear hbV hV7 hp
    go_wp2_with fail
    rw [← HV7.out, ← HP.out]
    clear y0 y1 y2 y3 y4 y5 y6 y7 y8 y9 y10
    refine (HEA.out _).mono ?_
    rintro e V8 ⟨rfl, hb⟩
    have HS8 := Lib.hid (HS7.out.later hb)
    have HX8 := Lib.hid (HX7.out.later hb)
    have HB8 := Lib.hid (HB7.out.trans (hb.mono HB7.out.size))
    clear hb
    have hcv := HXS.out V8 HB8.out
    obtain ⟨y0, y1, y2, y3, y4, y5, y6, y7, y8, y9, y10⟩ := HS8.out.h.cells
    obtain ⟨z0, z1, z2, z3, z4, z5, z6, z7, z8, z9, z10⟩ := HX8.out.cells
    have heq := HEQ.out
    go_wp2_with fail
    refine (works_any _).mono ?_
    rintro e V9 ⟨rfl, hb⟩
    have HS9 := Lib.hid (HS8.out.later hb)
    clear hb hcv heq y0 y1 y2 y3 y4 y5 y6 y7 y8 y9 y10 z0 z1 z2 z3 z4 z5 z6 z7 z8 z9 z10
    go_wp2_with fail
    go_returns
    exact ⟨rfl, HS9.out.bel⟩
  · have heqz := fun V => eq_hd Hd.zero Hd.zero hdz_ok hdz_ok V
    rw [decide_eq_true rfl] at heqz
    have HEQ := Lib.hid (fun V => show (Op.equalIn 10000 27 (.agg #[.int .i64 0, .int .i64 0, .int .u32 0, .int .i64 0, .int .i64 0, .int .i64 0, .int .u32 0, .int .u64 0, .int .u64 0, .int .u64 0, .int .u64 0]) (.agg #[.int .i64 0, .int .i64 0, .int .u32 0, .int .i64 0, .int .i64 0, .int .i64 0, .int .u32 0, .int .u64 0, .int .u64 0, .int .u64 0, .int .u64 0])).run Try.prog V = .ok true V from heqz V)
    obtain ⟨d, hd⟩ : ∃ d, d = decHE s := ⟨_, rfl⟩
    rw [h3, ← hd] at hdc
    rw [← hd] at h1 h2
    have HDC := Lib.hid (show Calls Try.prog 9 #[.string s] U fun e W' => e = .returned (.tuple #[.agg #[.int .i64 0, .int .i64 0, .int .u32 0, .int .i64 0, .int .i64 0, .int .i64 0, .int .u32 0, .int .u64 0, .int .u64 0, .int .u64 0, .int .u64 0], .int .i64 d]) ∧ Below U.heap.size U W' from hdc)
    clear hdc hd h3 heqz
    rcases h2 with rfl | rfl
    all_goals
      refine HDC.out.mono ?_
      rintro e V6 ⟨rfl, hb⟩
      have HS6 := Lib.hid (HS5.out.later hb)
      clear hb
      obtain ⟨p, hp⟩ : ∃ p, p = V6.heap.size := ⟨_, rfl⟩
      obtain ⟨V7, hV7⟩ : ∃ V, V = V6.alloc (.cells #[.int .i64 0, .int .i64 0, .int .u32 0, .int .i64 0, .int .i64 0, .int .i64 0, .int .u32 0, .int .u64 0, .int .u64 0, .int .u64 0, .int .u64 0] 27) := ⟨_, rfl⟩
      have hbV : Below V6.heap.size V6 V7 := by rw [hV7]; exact (Below.refl _ _).alloc (Nat.le_refl _) _
      have HS7 := Lib.hid (HS6.out.later hbV)
      have HX7 := Lib.hid (show BoxV p 0 0 0 0 0 0 0 0 0 0 0 V7 by rw [hV7, hp]; exact heap_alloc_new _ _)
      obtain ⟨y0, y1, y2, y3, y4, y5, y6, y7, y8, y9, y10⟩ := HX7.out.cells
      rw [hV7, hp] at y0 y1 y2 y3 y4 y5 y6 y7 y8 y9 y10
      have HV7 := Lib.hid hV7
      have HP := Lib.hid hp
      have heq := HEQ.out
      clear hbV hV7 hp h1
      go_wp2_with fail
      rw [← HV7.out]
      clear y0 y1 y2 y3 y4 y5 y6 y7 y8 y9 y10 heq
      refine (works_any _).mono ?_
      rintro e V9 ⟨rfl, hb⟩
      have HS9 := Lib.hid (HS7.out.later hb)
      clear hb
      go_wp2_with fail
      go_returns
      exact ⟨rfl, HS9.out.bel⟩

end Go.Proofs.Ytbcgfojdlehnpaa
