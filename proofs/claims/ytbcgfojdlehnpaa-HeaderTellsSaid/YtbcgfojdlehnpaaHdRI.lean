/- Contract of the reference's Encode: a header's bytes. -/
import Derived.Test.YtbcgfojdlehnpaaHdRH
set_option linter.unusedSimpArgs false
set_option linter.unusedVariables false
namespace Go.Proofs.Ytbcgfojdlehnpaa
open Go.RowKit Go.ChangeShapes Go.WideShapes

set_option maxRecDepth 100000 in
set_option maxHeartbeats 3200000 in
theorem rhencode_no (h : Hd) (W : World) (hk : h.ok) (hc : h.chk = false) :
    Calls Try.prog 20 #[h.ag] W fun e W' => e = .returned (.tuple #[.string (bs []), .int .i64 2]) ∧ Below W.heap.size W W' := by
  obtain ⟨W1, hW1⟩ : ∃ W1, W1 = W.alloc (.cells h.cs 27) := ⟨_, rfl⟩
  have hb1 : Below W.heap.size W W1 := by rw [hW1]; exact (Below.refl _ _).alloc (Nat.le_refl _) _
  have hbx : BoxH W.heap.size h W1 := by rw [hW1]; exact heap_alloc_new _ _
  have HCH := Lib.hid (rhcheck_any h W1 hk)
  have HE := Lib.hid (show h.err = 2 by unfold Hd.err; rw [hc]; rfl)
  have HW1 := Lib.hid hW1
  have HB1 := Lib.hid hb1
  obtain ⟨x0, x1, x2, x3, x4, x5, x6, x7, x8, x9, x10⟩ := hbx.cells
  clear hW1 hb1 hc hbx
  go_enter Try.func20, Try.ntmps20
  unfold Hd.ag Hd.cs at *
  go_wp2_with fail
  rw [← HW1.out]
  refine HCH.out.mono ?_
  rintro e V ⟨rfl, hb⟩
  rw [HE.out]
  have HB := Lib.hid (HB1.out.trans (hb.mono HB1.out.size))
  clear hb
  go_wp2_with fail
  go_ret2
  exact ⟨rfl, HB.out⟩

structure EeS (W : World) (w st en hp sr gp id a0 a1 a2 a3 : Nat) (V : World) : Prop where
  h : BoxV W.heap.size w st en hp sr gp id a0 a1 a2 a3 V
  bel : Below W.heap.size W V
theorem EeS.later {W V X : World} {w st en hp sr gp id a0 a1 a2 a3 : Nat} (h : EeS W w st en hp sr gp id a0 a1 a2 a3 V) (hb : Below V.heap.size V X) : EeS W w st en hp sr gp id a0 a1 a2 a3 X := ⟨h.h.later hb, h.bel.trans (hb.mono h.bel.size)⟩
theorem nb_one (v : Nat) : nb v 1 = [toU8 v] := by rw [nb_succ, nb_zero]; rfl
set_option maxRecDepth 100000 in
set_option maxHeartbeats 25600000 in
theorem rhencode_yes (h : Hd) (W : World) (hk : h.ok) (hc : h.chk = true) :
    Calls Try.prog 20 #[h.ag] W fun e W' => e = .returned (.tuple #[.string h.enc, .int .i64 0]) ∧ Below W.heap.size W W' := by
  obtain ⟨W1, hW1⟩ : ∃ W1, W1 = W.alloc (.cells h.cs 27) := ⟨_, rfl⟩
  have hb1 : Below W.heap.size W W1 := by rw [hW1]; exact (Below.refl _ _).alloc (Nat.le_refl _) _
  have hbx : BoxH W.heap.size h W1 := by rw [hW1]; exact heap_alloc_new _ _
  have HCH := Lib.hid (rhcheck_any h W1 hk)
  have HE := Lib.hid (show h.err = 0 by unfold Hd.err; rw [hc]; rfl)
  obtain ⟨c1, c2, c3, c4, c5, c6⟩ := Hd.chk_is hc
  obtain ⟨k1, k2, k3, k4, k5, k6, k7, k8⟩ := hk
  obtain ⟨w1, w2, w3⟩ := codeN_wid c1
  have hwr := wide_cases c1
  obtain ⟨wid, set, ent, hops, src, grp, id, bits⟩ := h
  simp only at *
  obtain ⟨w, rfl⟩ : ∃ w : Nat, wid = (w : Int) := ⟨wid.toNat, by omega⟩
  obtain ⟨st, rfl⟩ : ∃ w : Nat, set = (w : Int) := ⟨set.toNat, by omega⟩
  obtain ⟨hp, rfl⟩ : ∃ w : Nat, hops = (w : Int) := ⟨hops.toNat, by omega⟩
  obtain ⟨sr, rfl⟩ : ∃ w : Nat, src = (w : Int) := ⟨src.toNat, by omega⟩
  obtain ⟨gp, rfl⟩ : ∃ w : Nat, grp = (w : Int) := ⟨grp.toNat, by omega⟩
  obtain ⟨c, hcc⟩ : ∃ c, c = codeN (w : Int) := ⟨_, rfl⟩
  have HCO := Lib.hid (show ∀ V, Calls Try.prog 41 #[.int .i64 w] V fun e V' => e = .returned (.int .i64 c) ∧ V = V' from fun V => by
    have h1 := code_any (w : Int) V
    rw [codeI, if_pos c1, ← hcc] at h1
    exact h1)
  obtain ⟨m, hm⟩ : ∃ m, m = w / 8 := ⟨_, rfl⟩
  have hm8 : (w : Int) = 8 * (m : Int) := by omega
  have hmm : 0 < m ∧ m ≤ 32 := by omega
  have hc5 : c ≤ 5 := by omega
  have hst : st < 256 := by omega
  have hhp : hp < 256 := by omega
  have hsr : sr < 256 := by omega
  have hgp : gp < 256 := by omega
  have hv0 : IntKind.u8.wrap ((c : Int) + 16) = (c : Int) + 16 := IntWalk.u8_in _ (by omega)
  have hv00 : IntKind.i64.wrap ((c : Int) + 16) = (c : Int) + 16 := IntWalk.i64_in _ (by omega)
  have hv1 : IntKind.u8.wrap (st : Int) = (st : Int) := IntWalk.u8_in _ (by omega)
  have hv2 : IntKind.u8.wrap (hp : Int) = (hp : Int) := IntWalk.u8_in _ (by omega)
  have hv3 : IntKind.u8.wrap (sr : Int) = (sr : Int) := IntWalk.u8_in _ (by omega)
  have hv4 : IntKind.u8.wrap (gp : Int) = (gp : Int) := IntWalk.u8_in _ (by omega)
  have HCELL2 := Lib.hid (show (#[.int .u8 ((c : Int) + 16), .int .u8 (st : Int)] : Array Value) = (([toU8 (c + 16), toU8 st] : List UInt8).map byteV).toArray by
    simp only [List.map_cons, List.map_nil, byteV_small (show c + 16 < 256 by omega), byteV_small hst]; rfl)
  have HCELL3 := Lib.hid (show (#[.int .u8 (hp : Int), .int .u8 (sr : Int), .int .u8 (gp : Int)] : Array Value) = (([toU8 hp, toU8 sr, toU8 gp] : List UInt8).map byteV).toArray by
    simp only [List.map_cons, List.map_nil, byteV_small hhp, byteV_small hsr, byteV_small hgp])
  obtain ⟨B0, hB0⟩ : ∃ B, B = bs ([toU8 (c + 16), toU8 st] : List UInt8) := ⟨_, rfl⟩
  obtain ⟨B1, hB1⟩ : ∃ B, B = bs (nb ent 4) := ⟨_, rfl⟩
  obtain ⟨B3, hB3⟩ : ∃ B, B = bs ([toU8 hp, toU8 sr, toU8 gp] : List UInt8) := ⟨_, rfl⟩
  obtain ⟨B4, hB4⟩ : ∃ B, B = bs (nb id 4) := ⟨_, rfl⟩
  obtain ⟨B5, hB5⟩ : ∃ B, B = bs (leB bits.num m) := ⟨_, rfl⟩
  have s0 : B0.size = 2 := by rw [hB0, bs_size]; rfl
  have s1 : B1.size = 4 := by rw [hB1, bs_size, nb_len]
  have s3 : B3.size = 3 := by rw [hB3, bs_size]; rfl
  have s4 : B4.size = 4 := by rw [hB4, bs_size, nb_len]
  have s5 : B5.size = m := by rw [hB5, bs_size, leB_len]
  have HF1 := Lib.hid (show ∀ V, Calls Try.prog 42 #[.int .u32 ent] V fun e V' => e = .returned (.string B1) ∧ Below V.heap.size V V' from fun V => by rw [hB1]; exact four_any ent V k3)
  have HF2 := Lib.hid (show ∀ V, Calls Try.prog 42 #[.int .u32 id] V fun e V' => e = .returned (.string B4) ∧ Below V.heap.size V V' from fun V => by rw [hB4]; exact four_any id V k7)
  have HBY := Lib.hid (show ∀ V, Calls Try.prog 43 #[.agg #[.int .u64 bits.a, .int .u64 bits.b, .int .u64 bits.c, .int .u64 bits.d], .int .i64 (8 * (m : Int))] V fun e V' => e = .returned (.tuple #[.string B5, .int .i64 0]) ∧ Below V.heap.size V V' from fun V => by
    rw [hB5]; exact rbbytes_any bits m V k8 hmm.1 hmm.2 (by rw [← hm8]; exact c6))
  have HSE := Lib.hid (show ∀ V, Calls Try.prog 44 #[.string (B0 ++ B1 ++ B3 ++ B4 ++ B5)] V fun e V' => e = .returned (.string (Hd.enc ⟨(w : Int), (st : Int), ent, (hp : Int), (sr : Int), (gp : Int), id, bits⟩)) ∧ Below V.heap.size V V' from fun V => by
    have h1 := rseal_any (B0 ++ B1 ++ B3 ++ B4 ++ B5) V (by simp only [ByteArray.size_append, s0, s1, s3, s4, s5]; omega)
    rw [show Hd.enc ⟨(w : Int), (st : Int), ent, (hp : Int), (sr : Int), (gp : Int), id, bits⟩ = sealB (B0 ++ B1 ++ B3 ++ B4 ++ B5) from by
      unfold Hd.enc Hd.body
      simp only [Int.toNat_natCast]
      rw [← hcc, ← hm, hB0, hB1, hB3, hB4, hB5]
      simp only [bs_append, nb_one, List.append_assoc, List.cons_append, List.nil_append, Nat.add_comm 16 c]]
    exact h1)
  have hz01 : ¬ 9223372036854775807 < B0.size + B1.size := by omega
  have hz3 : ¬ 9223372036854775807 < (B0 ++ B1).size + B3.size := by simp only [ByteArray.size_append]; omega
  have hz4 : ¬ 9223372036854775807 < (B0 ++ B1 ++ B3).size + B4.size := by simp only [ByteArray.size_append]; omega
  have hz5 : ¬ 9223372036854775807 < (B0 ++ B1 ++ B3 ++ B4).size + B5.size := by simp only [ByteArray.size_append]; omega
  have hz3' : ¬ 9223372036854775807 < B0.size + B1.size + B3.size := by omega
  have hz4' : ¬ 9223372036854775807 < B0.size + B1.size + B3.size + B4.size := by omega
  have hz5' : ¬ 9223372036854775807 < B0.size + B1.size + B3.size + B4.size + B5.size := by omega
  have HB0 := Lib.hid hB0
  have HB3 := Lib.hid hB3
  have HM8 := Lib.hid hm8
  have HW1 := Lib.hid hW1
  have HB1 := Lib.hid hb1
  have HBX := Lib.hid (show BoxV W.heap.size w st ent hp sr gp id bits.a bits.b bits.c bits.d W1 from hbx)
  obtain ⟨y0, y1, y2, y3, y4, y5, y6, y7, y8, y9, y10⟩ := HBX.out.cells
  clear hbx hb1 c1 c2 c3 c4 c5 c6 w1 w2 w3 hwr hcc hm hm8 k1 k2 k4 k5 k6 hB0 hB1 hB3 hB4 hB5 s0 s1 s3 s4 s5 hW1
  go_enter Try.func20, Try.ntmps20
  unfold Hd.ag Hd.cs at *
  simp only at *
  go_wp2_with fail
  rw [← HW1.out]
  refine HCH.out.mono ?_
  rintro e V ⟨rfl, hb⟩
  rw [HE.out]
  obtain ⟨X0, hX0⟩ : ∃ X, X = V.drew := ⟨_, rfl⟩
  have HS0 := Lib.hid (show EeS W w st ent hp sr gp id bits.a bits.b bits.c bits.d X0 by
    rw [hX0]
    have h1 : EeS W w st ent hp sr gp id bits.a bits.b bits.c bits.d V := ⟨HBX.out.later hb, HB1.out.trans (hb.mono HB1.out.size)⟩
    exact h1.later ⟨rfl, rfl, rfl, Nat.le_refl _, fun _ _ => rfl⟩)
  have HXD0 := Lib.hid hX0
  clear hb hX0 y0 y1 y2 y3 y4 y5 y6 y7 y8 y9 y10
  go_wp2_with fail
  refine wp_region_tree (.look 0 (.look 1 (.look 5 (.look 6 (.look 7 (.look 10 (.look 11 (.one 2 (.look 3 (.look 4 (.two 8 (.two 9 (.one 12 (.look 13 (.look 14 .nil))) 12 (.one 9 (.look 13 (.look 14 .nil)))) 12 (.one 8 (.one 9 (.look 13 (.look 14 .nil))))))))))))))) (EeS W w st ent hp sr gp id bits.a bits.b bits.c bits.d) (by kernel_rfl) (by kernel_rfl) (by decide) (by kernel_rfl) (fun d _ _ _ _ h => by cases d <;> exact h) (by rw [← HXD0.out]; exact HS0.out) ?_
  rw [← HXD0.out]
  iterate 7 ((apply wpOT_take rfl rfl (by kernel_rfl); (intro V hV; obtain ⟨y0, y1, y2, y3, y4, y5, y6, y7, y8, y9, y10⟩ := hV.h.cells; go_simp; rfl)); (try simp only [List.setIfInBounds_toArray, List.set_cons_succ, List.set_cons_zero]))
  apply wpOT_do rfl (by kernel_rfl)
  intro K hK
  go_simp
  refine (HCO.out _).mono ?_
  rintro e X ⟨rfl, rfl⟩
  refine hK _ _ HS0.out ?_
  clear hK K
  iterate 2 ((apply wpOT_take rfl rfl (by kernel_rfl); (intro V _; go_simp; rfl)); (try simp only [List.setIfInBounds_toArray, List.set_cons_succ, List.set_cons_zero]))
  apply wpOT_two
  · skip
    apply wpOT_do rfl (by kernel_rfl)
    intro K hK
    go_simp
    obtain ⟨g1, hg1⟩ : ∃ g, g = X0.heap.size := ⟨_, rfl⟩
    obtain ⟨X1, hX1⟩ : ∃ X, X = X0.alloc (.cells #[.int .u8 ((c : Int) + 16), .int .u8 (st : Int)] 5) := ⟨_, rfl⟩
    have HS1 := Lib.hid (show EeS W w st ent hp sr gp id bits.a bits.b bits.c bits.d X1 by rw [hX1]; exact HS0.out.later ((Below.refl _ _).alloc (Nat.le_refl _) _))
    have HR1 := Lib.hid (show Row X1 X0.heap.size 5 1 (.slice (some ⟨g1, 0, none⟩) 2 2) 2 (([toU8 (c + 16), toU8 st] : List UInt8).map byteV) by
      rw [hX1, hg1, show (#[.int .u8 ((c : Int) + 16), .int .u8 (st : Int)] : Array Value) = (([toU8 (c + 16), toU8 st] : List UInt8).map byteV).toArray from HCELL2.out]
      exact row_lit X0 5 [toU8 (c + 16), toU8 st] (by simp [maxLen]))
    rw [← hX1, ← hg1]
    refine hK _ _ HS1.out ?_
    clear hK K hX1 hg1
    apply wpOT_two
    · skip
      apply wpOT_do rfl (by kernel_rfl)
      intro K hK
      have hcv := run_string_row (P := Try.prog) 40 9 Try.underlying40 Try.underlying5 Try.underlying9 HR1.out
      rw [← HB0.out] at hcv
      go_simp
      refine hK _ _ HS1.out ?_
      clear hK K hcv
      apply wpOT_do rfl (by kernel_rfl)
      intro K hK
      go_simp
      refine (HF1.out _).mono ?_
      rintro e X2 ⟨rfl, hb⟩
      have HS2 := Lib.hid (HS1.out.later hb)
      refine hK _ _ HS2.out ?_
      clear hK K hb
      iterate 2 ((apply wpOT_take rfl rfl (by kernel_rfl); (intro V _; go_simp; rfl)); (try simp only [List.setIfInBounds_toArray, List.set_cons_succ, List.set_cons_zero]))
      refine wpOT_nil ?_
      obtain ⟨X3, hX3⟩ : ∃ X, X = X2.drew := ⟨_, rfl⟩
      have HS3 := Lib.hid (show EeS W w st ent hp sr gp id bits.a bits.b bits.c bits.d X3 by rw [hX3]; exact HS2.out.later ⟨rfl, rfl, rfl, Nat.le_refl _, fun _ _ => rfl⟩)
      have HXD3 := Lib.hid hX3
      clear hX3
      go_wp2_with fail
      refine wp_region_tree (.look 0 (.look 1 (.look 2 (.look 3 (.look 4 (.look 5 (.look 6 (.look 7 (.look 8 (.look 9 (.look 13 (.look 14 (.two 10 (.two 11 (.look 12 (.one 15 (.look 16 (.look 17 .nil)))) 15 (.one 11 (.look 12 (.look 16 (.look 17 .nil))))) 15 (.one 10 (.one 11 (.look 12 (.look 16 (.look 17 .nil)))))))))))))))))) (EeS W w st ent hp sr gp id bits.a bits.b bits.c bits.d) (by kernel_rfl) (by kernel_rfl) (by decide) (by kernel_rfl) (fun d _ _ _ _ h => by cases d <;> exact h) (by rw [← HXD3.out]; exact HS3.out) ?_
      rw [← HXD3.out]
      iterate 12 ((apply wpOT_take rfl rfl (by kernel_rfl); (intro V hV; obtain ⟨y0, y1, y2, y3, y4, y5, y6, y7, y8, y9, y10⟩ := hV.h.cells; go_simp; rfl)); (try simp only [List.setIfInBounds_toArray, List.set_cons_succ, List.set_cons_zero]))
      apply wpOT_two
      · skip
        apply wpOT_do rfl (by kernel_rfl)
        intro K hK
        go_simp
        obtain ⟨g4, hg4⟩ : ∃ g, g = X3.heap.size := ⟨_, rfl⟩
        obtain ⟨X4, hX4⟩ : ∃ X, X = X3.alloc (.cells #[.int .u8 (hp : Int), .int .u8 (sr : Int), .int .u8 (gp : Int)] 5) := ⟨_, rfl⟩
        have HS4 := Lib.hid (show EeS W w st ent hp sr gp id bits.a bits.b bits.c bits.d X4 by rw [hX4]; exact HS3.out.later ((Below.refl _ _).alloc (Nat.le_refl _) _))
        have HR4 := Lib.hid (show Row X4 X3.heap.size 5 1 (.slice (some ⟨g4, 0, none⟩) 3 3) 3 (([toU8 hp, toU8 sr, toU8 gp] : List UInt8).map byteV) by
          rw [hX4, hg4, show (#[.int .u8 (hp : Int), .int .u8 (sr : Int), .int .u8 (gp : Int)] : Array Value) = (([toU8 hp, toU8 sr, toU8 gp] : List UInt8).map byteV).toArray from HCELL3.out]
          exact row_lit X3 5 [toU8 hp, toU8 sr, toU8 gp] (by simp [maxLen]))
        rw [← hX4, ← hg4]
        refine hK _ _ HS4.out ?_
        clear hK K hX4 hg4
        apply wpOT_two
        · skip
          apply wpOT_do rfl (by kernel_rfl)
          intro K hK
          have hcv := run_string_row (P := Try.prog) 40 9 Try.underlying40 Try.underlying5 Try.underlying9 HR4.out
          rw [← HB3.out] at hcv
          go_simp
          refine hK _ _ HS4.out ?_
          clear hK K hcv
          iterate 1 ((apply wpOT_take rfl rfl (by kernel_rfl); (intro V _; go_simp; rfl)); (try simp only [List.setIfInBounds_toArray, List.set_cons_succ, List.set_cons_zero]))
          apply wpOT_do rfl (by kernel_rfl)
          intro K hK
          go_simp
          refine (HF2.out _).mono ?_
          rintro e X5 ⟨rfl, hb⟩
          have HS5 := Lib.hid (HS4.out.later hb)
          refine hK _ _ HS5.out ?_
          clear hK K hb
          iterate 2 ((apply wpOT_take rfl rfl (by kernel_rfl); (intro V _; go_simp; rfl)); (try simp only [List.setIfInBounds_toArray, List.set_cons_succ, List.set_cons_zero]))
          refine wpOT_nil ?_
          obtain ⟨y0, y1, y2, y3, y4, y5, y6, y7, y8, y9, y10⟩ := HS5.out.h.cells
          rw [HM8.out] at y0
          go_wp2_with fail
          refine (HBY.out _).mono ?_
          rintro e Z1 ⟨rfl, hb⟩
          have HZ1 := Lib.hid (HS5.out.later hb)
          clear hb y0 y1 y2 y3 y4 y5 y6 y7 y8 y9 y10
          go_wp2_with fail
          refine (HSE.out _).mono ?_
          rintro e Z2 ⟨rfl, hb⟩
          have HZ2 := Lib.hid (HZ1.out.later hb)
          clear hb
          go_wp2_with fail
          go_ret2
          exact ⟨rfl, HZ2.out.bel⟩
        · skip
          apply wpOT_do rfl (by kernel_rfl)
          intro K hK
          go_simp
          refine (HF2.out _).mono ?_
          rintro e X6 ⟨rfl, hb⟩
          have HS6 := Lib.hid (HS4.out.later hb)
          have HR4L := Lib.hid (Row.later HR4.out hb)
          refine hK _ _ HS6.out ?_
          clear hK K hb
          apply wpOT_do rfl (by kernel_rfl)
          intro K hK
          have hcv := run_string_row (P := Try.prog) 40 9 Try.underlying40 Try.underlying5 Try.underlying9 HR4L.out
          rw [← HB3.out] at hcv
          go_simp
          refine hK _ _ HS6.out ?_
          clear hK K hcv
          iterate 3 ((apply wpOT_take rfl rfl (by kernel_rfl); (intro V _; go_simp; rfl)); (try simp only [List.setIfInBounds_toArray, List.set_cons_succ, List.set_cons_zero]))
          refine wpOT_nil ?_
          obtain ⟨y0, y1, y2, y3, y4, y5, y6, y7, y8, y9, y10⟩ := HS6.out.h.cells
          rw [HM8.out] at y0
          go_wp2_with fail
          refine (HBY.out _).mono ?_
          rintro e Z1 ⟨rfl, hb⟩
          have HZ1 := Lib.hid (HS6.out.later hb)
          clear hb y0 y1 y2 y3 y4 y5 y6 y7 y8 y9 y10
          go_wp2_with fail
          refine (HSE.out _).mono ?_
          rintro e Z2 ⟨rfl, hb⟩
          have HZ2 := Lib.hid (HZ1.out.later hb)
          clear hb
          go_wp2_with fail
          go_ret2
          exact ⟨rfl, HZ2.out.bel⟩
      · skip
        apply wpOT_do rfl (by kernel_rfl)
        intro K hK
        go_simp
        refine (HF2.out _).mono ?_
        rintro e X7 ⟨rfl, hb⟩
        have HS7 := Lib.hid (HS3.out.later hb)
        refine hK _ _ HS7.out ?_
        clear hK K hb
        apply wpOT_do rfl (by kernel_rfl)
        intro K hK
        go_simp
        obtain ⟨g8, hg8⟩ : ∃ g, g = X7.heap.size := ⟨_, rfl⟩
        obtain ⟨X8, hX8⟩ : ∃ X, X = X7.alloc (.cells #[.int .u8 (hp : Int), .int .u8 (sr : Int), .int .u8 (gp : Int)] 5) := ⟨_, rfl⟩
        have HS8 := Lib.hid (show EeS W w st ent hp sr gp id bits.a bits.b bits.c bits.d X8 by rw [hX8]; exact HS7.out.later ((Below.refl _ _).alloc (Nat.le_refl _) _))
        have HR8 := Lib.hid (show Row X8 X7.heap.size 5 1 (.slice (some ⟨g8, 0, none⟩) 3 3) 3 (([toU8 hp, toU8 sr, toU8 gp] : List UInt8).map byteV) by
          rw [hX8, hg8, show (#[.int .u8 (hp : Int), .int .u8 (sr : Int), .int .u8 (gp : Int)] : Array Value) = (([toU8 hp, toU8 sr, toU8 gp] : List UInt8).map byteV).toArray from HCELL3.out]
          exact row_lit X7 5 [toU8 hp, toU8 sr, toU8 gp] (by simp [maxLen]))
        rw [← hX8, ← hg8]
        refine hK _ _ HS8.out ?_
        clear hK K hX8 hg8
        apply wpOT_do rfl (by kernel_rfl)
        intro K hK
        have hcv := run_string_row (P := Try.prog) 40 9 Try.underlying40 Try.underlying5 Try.underlying9 HR8.out
        rw [← HB3.out] at hcv
        go_simp
        refine hK _ _ HS8.out ?_
        clear hK K hcv
        iterate 3 ((apply wpOT_take rfl rfl (by kernel_rfl); (intro V _; go_simp; rfl)); (try simp only [List.setIfInBounds_toArray, List.set_cons_succ, List.set_cons_zero]))
        refine wpOT_nil ?_
        obtain ⟨y0, y1, y2, y3, y4, y5, y6, y7, y8, y9, y10⟩ := HS8.out.h.cells
        rw [HM8.out] at y0
        go_wp2_with fail
        refine (HBY.out _).mono ?_
        rintro e Z1 ⟨rfl, hb⟩
        have HZ1 := Lib.hid (HS8.out.later hb)
        clear hb y0 y1 y2 y3 y4 y5 y6 y7 y8 y9 y10
        go_wp2_with fail
        refine (HSE.out _).mono ?_
        rintro e Z2 ⟨rfl, hb⟩
        have HZ2 := Lib.hid (HZ1.out.later hb)
        clear hb
        go_wp2_with fail
        go_ret2
        exact ⟨rfl, HZ2.out.bel⟩
    · skip
      apply wpOT_do rfl (by kernel_rfl)
      intro K hK
      go_simp
      refine (HF1.out _).mono ?_
      rintro e X9 ⟨rfl, hb⟩
      have HS9 := Lib.hid (HS1.out.later hb)
      have HR1L := Lib.hid (Row.later HR1.out hb)
      refine hK _ _ HS9.out ?_
      clear hK K hb
      apply wpOT_do rfl (by kernel_rfl)
      intro K hK
      have hcv := run_string_row (P := Try.prog) 40 9 Try.underlying40 Try.underlying5 Try.underlying9 HR1L.out
      rw [← HB0.out] at hcv
      go_simp
      refine hK _ _ HS9.out ?_
      clear hK K hcv
      iterate 2 ((apply wpOT_take rfl rfl (by kernel_rfl); (intro V _; go_simp; rfl)); (try simp only [List.setIfInBounds_toArray, List.set_cons_succ, List.set_cons_zero]))
      refine wpOT_nil ?_
      obtain ⟨X10, hX10⟩ : ∃ X, X = X9.drew := ⟨_, rfl⟩
      have HS10 := Lib.hid (show EeS W w st ent hp sr gp id bits.a bits.b bits.c bits.d X10 by rw [hX10]; exact HS9.out.later ⟨rfl, rfl, rfl, Nat.le_refl _, fun _ _ => rfl⟩)
      have HXD10 := Lib.hid hX10
      clear hX10
      go_wp2_with fail
      refine wp_region_tree (.look 0 (.look 1 (.look 2 (.look 3 (.look 4 (.look 5 (.look 6 (.look 7 (.look 8 (.look 9 (.look 13 (.look 14 (.two 10 (.two 11 (.look 12 (.one 15 (.look 16 (.look 17 .nil)))) 15 (.one 11 (.look 12 (.look 16 (.look 17 .nil))))) 15 (.one 10 (.one 11 (.look 12 (.look 16 (.look 17 .nil)))))))))))))))))) (EeS W w st ent hp sr gp id bits.a bits.b bits.c bits.d) (by kernel_rfl) (by kernel_rfl) (by decide) (by kernel_rfl) (fun d _ _ _ _ h => by cases d <;> exact h) (by rw [← HXD10.out]; exact HS10.out) ?_
      rw [← HXD10.out]
      iterate 12 ((apply wpOT_take rfl rfl (by kernel_rfl); (intro V hV; obtain ⟨y0, y1, y2, y3, y4, y5, y6, y7, y8, y9, y10⟩ := hV.h.cells; go_simp; rfl)); (try simp only [List.setIfInBounds_toArray, List.set_cons_succ, List.set_cons_zero]))
      apply wpOT_two
      · skip
        apply wpOT_do rfl (by kernel_rfl)
        intro K hK
        go_simp
        obtain ⟨g11, hg11⟩ : ∃ g, g = X10.heap.size := ⟨_, rfl⟩
        obtain ⟨X11, hX11⟩ : ∃ X, X = X10.alloc (.cells #[.int .u8 (hp : Int), .int .u8 (sr : Int), .int .u8 (gp : Int)] 5) := ⟨_, rfl⟩
        have HS11 := Lib.hid (show EeS W w st ent hp sr gp id bits.a bits.b bits.c bits.d X11 by rw [hX11]; exact HS10.out.later ((Below.refl _ _).alloc (Nat.le_refl _) _))
        have HR11 := Lib.hid (show Row X11 X10.heap.size 5 1 (.slice (some ⟨g11, 0, none⟩) 3 3) 3 (([toU8 hp, toU8 sr, toU8 gp] : List UInt8).map byteV) by
          rw [hX11, hg11, show (#[.int .u8 (hp : Int), .int .u8 (sr : Int), .int .u8 (gp : Int)] : Array Value) = (([toU8 hp, toU8 sr, toU8 gp] : List UInt8).map byteV).toArray from HCELL3.out]
          exact row_lit X10 5 [toU8 hp, toU8 sr, toU8 gp] (by simp [maxLen]))
        rw [← hX11, ← hg11]
        refine hK _ _ HS11.out ?_
        clear hK K hX11 hg11
        apply wpOT_two
        · skip
          apply wpOT_do rfl (by kernel_rfl)
          intro K hK
          have hcv := run_string_row (P := Try.prog) 40 9 Try.underlying40 Try.underlying5 Try.underlying9 HR11.out
          rw [← HB3.out] at hcv
          go_simp
          refine hK _ _ HS11.out ?_
          clear hK K hcv
          iterate 1 ((apply wpOT_take rfl rfl (by kernel_rfl); (intro V _; go_simp; rfl)); (try simp only [List.setIfInBounds_toArray, List.set_cons_succ, List.set_cons_zero]))
          apply wpOT_do rfl (by kernel_rfl)
          intro K hK
          go_simp
          refine (HF2.out _).mono ?_
          rintro e X12 ⟨rfl, hb⟩
          have HS12 := Lib.hid (HS11.out.later hb)
          refine hK _ _ HS12.out ?_
          clear hK K hb
          iterate 2 ((apply wpOT_take rfl rfl (by kernel_rfl); (intro V _; go_simp; rfl)); (try simp only [List.setIfInBounds_toArray, List.set_cons_succ, List.set_cons_zero]))
          refine wpOT_nil ?_
          obtain ⟨y0, y1, y2, y3, y4, y5, y6, y7, y8, y9, y10⟩ := HS12.out.h.cells
          rw [HM8.out] at y0
          go_wp2_with fail
          refine (HBY.out _).mono ?_
          rintro e Z1 ⟨rfl, hb⟩
          have HZ1 := Lib.hid (HS12.out.later hb)
          clear hb y0 y1 y2 y3 y4 y5 y6 y7 y8 y9 y10
          go_wp2_with fail
          refine (HSE.out _).mono ?_
          rintro e Z2 ⟨rfl, hb⟩
          have HZ2 := Lib.hid (HZ1.out.later hb)
          clear hb
          go_wp2_with fail
          go_ret2
          exact ⟨rfl, HZ2.out.bel⟩
        · skip
          apply wpOT_do rfl (by kernel_rfl)
          intro K hK
          go_simp
          refine (HF2.out _).mono ?_
          rintro e X13 ⟨rfl, hb⟩
          have HS13 := Lib.hid (HS11.out.later hb)
          have HR11L := Lib.hid (Row.later HR11.out hb)
          refine hK _ _ HS13.out ?_
          clear hK K hb
          apply wpOT_do rfl (by kernel_rfl)
          intro K hK
          have hcv := run_string_row (P := Try.prog) 40 9 Try.underlying40 Try.underlying5 Try.underlying9 HR11L.out
          rw [← HB3.out] at hcv
          go_simp
          refine hK _ _ HS13.out ?_
          clear hK K hcv
          iterate 3 ((apply wpOT_take rfl rfl (by kernel_rfl); (intro V _; go_simp; rfl)); (try simp only [List.setIfInBounds_toArray, List.set_cons_succ, List.set_cons_zero]))
          refine wpOT_nil ?_
          obtain ⟨y0, y1, y2, y3, y4, y5, y6, y7, y8, y9, y10⟩ := HS13.out.h.cells
          rw [HM8.out] at y0
          go_wp2_with fail
          refine (HBY.out _).mono ?_
          rintro e Z1 ⟨rfl, hb⟩
          have HZ1 := Lib.hid (HS13.out.later hb)
          clear hb y0 y1 y2 y3 y4 y5 y6 y7 y8 y9 y10
          go_wp2_with fail
          refine (HSE.out _).mono ?_
          rintro e Z2 ⟨rfl, hb⟩
          have HZ2 := Lib.hid (HZ1.out.later hb)
          clear hb
          go_wp2_with fail
          go_ret2
          exact ⟨rfl, HZ2.out.bel⟩
      · skip
        apply wpOT_do rfl (by kernel_rfl)
        intro K hK
        go_simp
        refine (HF2.out _).mono ?_
        rintro e X14 ⟨rfl, hb⟩
        have HS14 := Lib.hid (HS10.out.later hb)
        refine hK _ _ HS14.out ?_
        clear hK K hb
        apply wpOT_do rfl (by kernel_rfl)
        intro K hK
        go_simp
        obtain ⟨g15, hg15⟩ : ∃ g, g = X14.heap.size := ⟨_, rfl⟩
        obtain ⟨X15, hX15⟩ : ∃ X, X = X14.alloc (.cells #[.int .u8 (hp : Int), .int .u8 (sr : Int), .int .u8 (gp : Int)] 5) := ⟨_, rfl⟩
        have HS15 := Lib.hid (show EeS W w st ent hp sr gp id bits.a bits.b bits.c bits.d X15 by rw [hX15]; exact HS14.out.later ((Below.refl _ _).alloc (Nat.le_refl _) _))
        have HR15 := Lib.hid (show Row X15 X14.heap.size 5 1 (.slice (some ⟨g15, 0, none⟩) 3 3) 3 (([toU8 hp, toU8 sr, toU8 gp] : List UInt8).map byteV) by
          rw [hX15, hg15, show (#[.int .u8 (hp : Int), .int .u8 (sr : Int), .int .u8 (gp : Int)] : Array Value) = (([toU8 hp, toU8 sr, toU8 gp] : List UInt8).map byteV).toArray from HCELL3.out]
          exact row_lit X14 5 [toU8 hp, toU8 sr, toU8 gp] (by simp [maxLen]))
        rw [← hX15, ← hg15]
        refine hK _ _ HS15.out ?_
        clear hK K hX15 hg15
        apply wpOT_do rfl (by kernel_rfl)
        intro K hK
        have hcv := run_string_row (P := Try.prog) 40 9 Try.underlying40 Try.underlying5 Try.underlying9 HR15.out
        rw [← HB3.out] at hcv
        go_simp
        refine hK _ _ HS15.out ?_
        clear hK K hcv
        iterate 3 ((apply wpOT_take rfl rfl (by kernel_rfl); (intro V _; go_simp; rfl)); (try simp only [List.setIfInBounds_toArray, List.set_cons_succ, List.set_cons_zero]))
        refine wpOT_nil ?_
        obtain ⟨y0, y1, y2, y3, y4, y5, y6, y7, y8, y9, y10⟩ := HS15.out.h.cells
        rw [HM8.out] at y0
        go_wp2_with fail
        refine (HBY.out _).mono ?_
        rintro e Z1 ⟨rfl, hb⟩
        have HZ1 := Lib.hid (HS15.out.later hb)
        clear hb y0 y1 y2 y3 y4 y5 y6 y7 y8 y9 y10
        go_wp2_with fail
        refine (HSE.out _).mono ?_
        rintro e Z2 ⟨rfl, hb⟩
        have HZ2 := Lib.hid (HZ1.out.later hb)
        clear hb
        go_wp2_with fail
        go_ret2
        exact ⟨rfl, HZ2.out.bel⟩
  · skip
    apply wpOT_do rfl (by kernel_rfl)
    intro K hK
    go_simp
    refine (HF1.out _).mono ?_
    rintro e X16 ⟨rfl, hb⟩
    have HS16 := Lib.hid (HS0.out.later hb)
    refine hK _ _ HS16.out ?_
    clear hK K hb
    apply wpOT_do rfl (by kernel_rfl)
    intro K hK
    go_simp
    obtain ⟨g17, hg17⟩ : ∃ g, g = X16.heap.size := ⟨_, rfl⟩
    obtain ⟨X17, hX17⟩ : ∃ X, X = X16.alloc (.cells #[.int .u8 ((c : Int) + 16), .int .u8 (st : Int)] 5) := ⟨_, rfl⟩
    have HS17 := Lib.hid (show EeS W w st ent hp sr gp id bits.a bits.b bits.c bits.d X17 by rw [hX17]; exact HS16.out.later ((Below.refl _ _).alloc (Nat.le_refl _) _))
    have HR17 := Lib.hid (show Row X17 X16.heap.size 5 1 (.slice (some ⟨g17, 0, none⟩) 2 2) 2 (([toU8 (c + 16), toU8 st] : List UInt8).map byteV) by
      rw [hX17, hg17, show (#[.int .u8 ((c : Int) + 16), .int .u8 (st : Int)] : Array Value) = (([toU8 (c + 16), toU8 st] : List UInt8).map byteV).toArray from HCELL2.out]
      exact row_lit X16 5 [toU8 (c + 16), toU8 st] (by simp [maxLen]))
    rw [← hX17, ← hg17]
    refine hK _ _ HS17.out ?_
    clear hK K hX17 hg17
    apply wpOT_do rfl (by kernel_rfl)
    intro K hK
    have hcv := run_string_row (P := Try.prog) 40 9 Try.underlying40 Try.underlying5 Try.underlying9 HR17.out
    rw [← HB0.out] at hcv
    go_simp
    refine hK _ _ HS17.out ?_
    clear hK K hcv
    iterate 2 ((apply wpOT_take rfl rfl (by kernel_rfl); (intro V _; go_simp; rfl)); (try simp only [List.setIfInBounds_toArray, List.set_cons_succ, List.set_cons_zero]))
    refine wpOT_nil ?_
    obtain ⟨X18, hX18⟩ : ∃ X, X = X17.drew := ⟨_, rfl⟩
    have HS18 := Lib.hid (show EeS W w st ent hp sr gp id bits.a bits.b bits.c bits.d X18 by rw [hX18]; exact HS17.out.later ⟨rfl, rfl, rfl, Nat.le_refl _, fun _ _ => rfl⟩)
    have HXD18 := Lib.hid hX18
    clear hX18
    go_wp2_with fail
    refine wp_region_tree (.look 0 (.look 1 (.look 2 (.look 3 (.look 4 (.look 5 (.look 6 (.look 7 (.look 8 (.look 9 (.look 13 (.look 14 (.two 10 (.two 11 (.look 12 (.one 15 (.look 16 (.look 17 .nil)))) 15 (.one 11 (.look 12 (.look 16 (.look 17 .nil))))) 15 (.one 10 (.one 11 (.look 12 (.look 16 (.look 17 .nil)))))))))))))))))) (EeS W w st ent hp sr gp id bits.a bits.b bits.c bits.d) (by kernel_rfl) (by kernel_rfl) (by decide) (by kernel_rfl) (fun d _ _ _ _ h => by cases d <;> exact h) (by rw [← HXD18.out]; exact HS18.out) ?_
    rw [← HXD18.out]
    iterate 12 ((apply wpOT_take rfl rfl (by kernel_rfl); (intro V hV; obtain ⟨y0, y1, y2, y3, y4, y5, y6, y7, y8, y9, y10⟩ := hV.h.cells; go_simp; rfl)); (try simp only [List.setIfInBounds_toArray, List.set_cons_succ, List.set_cons_zero]))
    apply wpOT_two
    · skip
      apply wpOT_do rfl (by kernel_rfl)
      intro K hK
      go_simp
      obtain ⟨g19, hg19⟩ : ∃ g, g = X18.heap.size := ⟨_, rfl⟩
      obtain ⟨X19, hX19⟩ : ∃ X, X = X18.alloc (.cells #[.int .u8 (hp : Int), .int .u8 (sr : Int), .int .u8 (gp : Int)] 5) := ⟨_, rfl⟩
      have HS19 := Lib.hid (show EeS W w st ent hp sr gp id bits.a bits.b bits.c bits.d X19 by rw [hX19]; exact HS18.out.later ((Below.refl _ _).alloc (Nat.le_refl _) _))
      have HR19 := Lib.hid (show Row X19 X18.heap.size 5 1 (.slice (some ⟨g19, 0, none⟩) 3 3) 3 (([toU8 hp, toU8 sr, toU8 gp] : List UInt8).map byteV) by
        rw [hX19, hg19, show (#[.int .u8 (hp : Int), .int .u8 (sr : Int), .int .u8 (gp : Int)] : Array Value) = (([toU8 hp, toU8 sr, toU8 gp] : List UInt8).map byteV).toArray from HCELL3.out]
        exact row_lit X18 5 [toU8 hp, toU8 sr, toU8 gp] (by simp [maxLen]))
      rw [← hX19, ← hg19]
      refine hK _ _ HS19.out ?_
      clear hK K hX19 hg19
      apply wpOT_two
      · skip
        apply wpOT_do rfl (by kernel_rfl)
        intro K hK
        have hcv := run_string_row (P := Try.prog) 40 9 Try.underlying40 Try.underlying5 Try.underlying9 HR19.out
        rw [← HB3.out] at hcv
        go_simp
        refine hK _ _ HS19.out ?_
        clear hK K hcv
        iterate 1 ((apply wpOT_take rfl rfl (by kernel_rfl); (intro V _; go_simp; rfl)); (try simp only [List.setIfInBounds_toArray, List.set_cons_succ, List.set_cons_zero]))
        apply wpOT_do rfl (by kernel_rfl)
        intro K hK
        go_simp
        refine (HF2.out _).mono ?_
        rintro e X20 ⟨rfl, hb⟩
        have HS20 := Lib.hid (HS19.out.later hb)
        refine hK _ _ HS20.out ?_
        clear hK K hb
        iterate 2 ((apply wpOT_take rfl rfl (by kernel_rfl); (intro V _; go_simp; rfl)); (try simp only [List.setIfInBounds_toArray, List.set_cons_succ, List.set_cons_zero]))
        refine wpOT_nil ?_
        obtain ⟨y0, y1, y2, y3, y4, y5, y6, y7, y8, y9, y10⟩ := HS20.out.h.cells
        rw [HM8.out] at y0
        go_wp2_with fail
        refine (HBY.out _).mono ?_
        rintro e Z1 ⟨rfl, hb⟩
        have HZ1 := Lib.hid (HS20.out.later hb)
        clear hb y0 y1 y2 y3 y4 y5 y6 y7 y8 y9 y10
        go_wp2_with fail
        refine (HSE.out _).mono ?_
        rintro e Z2 ⟨rfl, hb⟩
        have HZ2 := Lib.hid (HZ1.out.later hb)
        clear hb
        go_wp2_with fail
        go_ret2
        exact ⟨rfl, HZ2.out.bel⟩
      · skip
        apply wpOT_do rfl (by kernel_rfl)
        intro K hK
        go_simp
        refine (HF2.out _).mono ?_
        rintro e X21 ⟨rfl, hb⟩
        have HS21 := Lib.hid (HS19.out.later hb)
        have HR19L := Lib.hid (Row.later HR19.out hb)
        refine hK _ _ HS21.out ?_
        clear hK K hb
        apply wpOT_do rfl (by kernel_rfl)
        intro K hK
        have hcv := run_string_row (P := Try.prog) 40 9 Try.underlying40 Try.underlying5 Try.underlying9 HR19L.out
        rw [← HB3.out] at hcv
        go_simp
        refine hK _ _ HS21.out ?_
        clear hK K hcv
        iterate 3 ((apply wpOT_take rfl rfl (by kernel_rfl); (intro V _; go_simp; rfl)); (try simp only [List.setIfInBounds_toArray, List.set_cons_succ, List.set_cons_zero]))
        refine wpOT_nil ?_
        obtain ⟨y0, y1, y2, y3, y4, y5, y6, y7, y8, y9, y10⟩ := HS21.out.h.cells
        rw [HM8.out] at y0
        go_wp2_with fail
        refine (HBY.out _).mono ?_
        rintro e Z1 ⟨rfl, hb⟩
        have HZ1 := Lib.hid (HS21.out.later hb)
        clear hb y0 y1 y2 y3 y4 y5 y6 y7 y8 y9 y10
        go_wp2_with fail
        refine (HSE.out _).mono ?_
        rintro e Z2 ⟨rfl, hb⟩
        have HZ2 := Lib.hid (HZ1.out.later hb)
        clear hb
        go_wp2_with fail
        go_ret2
        exact ⟨rfl, HZ2.out.bel⟩
    · skip
      apply wpOT_do rfl (by kernel_rfl)
      intro K hK
      go_simp
      refine (HF2.out _).mono ?_
      rintro e X22 ⟨rfl, hb⟩
      have HS22 := Lib.hid (HS18.out.later hb)
      refine hK _ _ HS22.out ?_
      clear hK K hb
      apply wpOT_do rfl (by kernel_rfl)
      intro K hK
      go_simp
      obtain ⟨g23, hg23⟩ : ∃ g, g = X22.heap.size := ⟨_, rfl⟩
      obtain ⟨X23, hX23⟩ : ∃ X, X = X22.alloc (.cells #[.int .u8 (hp : Int), .int .u8 (sr : Int), .int .u8 (gp : Int)] 5) := ⟨_, rfl⟩
      have HS23 := Lib.hid (show EeS W w st ent hp sr gp id bits.a bits.b bits.c bits.d X23 by rw [hX23]; exact HS22.out.later ((Below.refl _ _).alloc (Nat.le_refl _) _))
      have HR23 := Lib.hid (show Row X23 X22.heap.size 5 1 (.slice (some ⟨g23, 0, none⟩) 3 3) 3 (([toU8 hp, toU8 sr, toU8 gp] : List UInt8).map byteV) by
        rw [hX23, hg23, show (#[.int .u8 (hp : Int), .int .u8 (sr : Int), .int .u8 (gp : Int)] : Array Value) = (([toU8 hp, toU8 sr, toU8 gp] : List UInt8).map byteV).toArray from HCELL3.out]
        exact row_lit X22 5 [toU8 hp, toU8 sr, toU8 gp] (by simp [maxLen]))
      rw [← hX23, ← hg23]
      refine hK _ _ HS23.out ?_
      clear hK K hX23 hg23
      apply wpOT_do rfl (by kernel_rfl)
      intro K hK
      have hcv := run_string_row (P := Try.prog) 40 9 Try.underlying40 Try.underlying5 Try.underlying9 HR23.out
      rw [← HB3.out] at hcv
      go_simp
      refine hK _ _ HS23.out ?_
      clear hK K hcv
      iterate 3 ((apply wpOT_take rfl rfl (by kernel_rfl); (intro V _; go_simp; rfl)); (try simp only [List.setIfInBounds_toArray, List.set_cons_succ, List.set_cons_zero]))
      refine wpOT_nil ?_
      obtain ⟨y0, y1, y2, y3, y4, y5, y6, y7, y8, y9, y10⟩ := HS23.out.h.cells
      rw [HM8.out] at y0
      go_wp2_with fail
      refine (HBY.out _).mono ?_
      rintro e Z1 ⟨rfl, hb⟩
      have HZ1 := Lib.hid (HS23.out.later hb)
      clear hb y0 y1 y2 y3 y4 y5 y6 y7 y8 y9 y10
      go_wp2_with fail
      refine (HSE.out _).mono ?_
      rintro e Z2 ⟨rfl, hb⟩
      have HZ2 := Lib.hid (HZ1.out.later hb)
      clear hb
      go_wp2_with fail
      go_ret2
      exact ⟨rfl, HZ2.out.bel⟩
theorem rhencode_any (h : Hd) (W : World) (hk : h.ok) :
    Calls Try.prog 20 #[h.ag] W fun e W' => e = .returned (.tuple #[.string h.encS, .int .i64 h.err]) ∧ Below W.heap.size W W' := by
  unfold Hd.encS Hd.err
  by_cases hc : h.chk = true
  · rw [if_pos hc, if_pos hc]; exact rhencode_yes h W hk hc
  · rw [if_neg hc, if_neg hc]; exact rhencode_no h W hk (by simpa using hc)

end Go.Proofs.Ytbcgfojdlehnpaa
