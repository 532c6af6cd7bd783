/- Contracts: the laws' example, header.Hop, header.With. -/
import Derived.Test.YtbcgfojdlehnpaaHdK
set_option linter.unusedSimpArgs false
set_option linter.unusedVariables false
namespace Go.Proofs.Ytbcgfojdlehnpaa
open Go.RowKit Go.ChangeShapes Go.WideShapes

def exH : Hd := ⟨8, 2, 16909060, 15, 7, 3, 9, ⟨129, 0, 0, 0⟩⟩
theorem example_any (W : World) : Calls Try.prog 25 #[] W fun e W' => e = .returned (.agg #[.int .i64 8, .int .i64 2, .int .u32 16909060, .int .i64 15, .int .i64 7, .int .i64 3, .int .u32 9, .int .u64 129, .int .u64 0, .int .u64 0, .int .u64 0]) ∧ Below W.heap.size W W' := by
  obtain ⟨W1, hW1⟩ : ∃ W1, W1 = W.alloc (.cells #[.int .i64 0, .int .i64 0, .int .u32 0, .int .i64 0, .int .i64 0, .int .i64 0, .int .u32 0, .int .u64 0, .int .u64 0, .int .u64 0, .int .u64 0] 27) := ⟨_, rfl⟩
  have hb1 : Below W.heap.size W W1 := by rw [hW1]; exact (Below.refl _ _).alloc (Nat.le_refl _) _
  have hbz : BoxV W.heap.size 0 0 0 0 0 0 0 0 0 0 0 W1 := by rw [hW1]; exact heap_alloc_new _ _
  obtain ⟨y0, y1, y2, y3, y4, y5, y6, y7, y8, y9, y10⟩ := hbz.cells
  obtain ⟨f0, f1, f2, f3, f4, f5, f6, f7, f8, f9, f10⟩ := hbz.frozen
  rw [hW1] at y0 y1 y2 y3 y4 y5 y6 y7 y8 y9 y10 f0 f1 f2 f3 f4 f5 f6 f7 f8 f9 f10
  have HW1 := Lib.hid hW1
  have HB1 := Lib.hid hb1
  clear hW1 hb1 hbz
  go_enter Try.func25, Try.ntmps25
  go_wp2_with fail
  refine bodyPost_ret (v := .agg #[.int .i64 8, .int .i64 2, .int .u32 16909060, .int .i64 15, .int .i64 7, .int .i64 3, .int .u32 9, .int .u64 129, .int .u64 0, .int .u64 0, .int .u64 0]) ?_ rfl ⟨rfl, ?_⟩
  · simp only [results, Try.results25]
    go_simp
  · exact (Below.refl _ _).alloc (Nat.le_refl _) _

def hopV (h : Hd) : Hd := if h.chk = true ∧ h.hops ≠ 0 then { h with hops := h.hops - 1 } else Hd.zero
def hopE (h : Hd) : Int := if h.chk = true then (if h.hops = 0 then 6 else 0) else 2
set_option maxRecDepth 100000 in
set_option maxHeartbeats 6400000 in
theorem hop_any (h : Hd) (W : World) (hk : h.ok) : Calls Try.prog 21 #[h.ag] W fun e W' => e = .returned (.tuple #[(hopV h).ag, .int .i64 (hopE h)]) ∧ Below W.heap.size W W' := by
  obtain ⟨W1, hW1⟩ : ∃ W1, W1 = W.alloc (.cells h.cs 27) := ⟨_, rfl⟩
  obtain ⟨W2, hW2⟩ : ∃ W2, W2 = W1.alloc (.cells #[.int .i64 0, .int .i64 0, .int .u32 0, .int .i64 0, .int .i64 0, .int .i64 0, .int .u32 0, .int .u64 0, .int .u64 0, .int .u64 0, .int .u64 0] 27) := ⟨_, rfl⟩
  have hz1 : W1.heap.size = W.heap.size + 1 := by rw [hW1, World.size_alloc]
  have hb1 : Below W.heap.size W W1 := by rw [hW1]; exact (Below.refl _ _).alloc (Nat.le_refl _) _
  have hb2 : Below W1.heap.size W1 W2 := by rw [hW2]; exact (Below.refl _ _).alloc (Nat.le_refl _) _
  have hbh : BoxV W.heap.size h.wid h.set h.ent h.hops h.src h.grp h.id h.bits.a h.bits.b h.bits.c h.bits.d W1 := by rw [hW1]; exact heap_alloc_new _ _
  have hbz : BoxV (W.heap.size + 1) 0 0 0 0 0 0 0 0 0 0 0 W2 := by rw [hW2, ← hz1]; exact heap_alloc_new _ _
  have HH2 := Lib.hid (hbh.later hb2)
  have HZ2 := Lib.hid hbz
  have HB2 := Lib.hid (hb1.trans (hb2.mono hb1.size))
  obtain ⟨y0, y1, y2, y3, y4, y5, y6, y7, y8, y9, y10⟩ := HH2.out.cells
  unfold Hd.cs at hW1
  rw [hW2, hW1] at y0 y1 y2 y3 y4 y5 y6 y7 y8 y9 y10
  have HCK := Lib.hid (hcheck_any h W2 hk)
  have HW1 := Lib.hid hW1
  have HW2 := Lib.hid hW2
  have HK := Lib.hid hk
  clear hW1 hW2 hb1 hb2 hbz hbh hz1 hk
  go_enter Try.func21, Try.ntmps21
  unfold Hd.ag Hd.cs at *
  go_wp2_with fail
  rw [← HW1.out, ← HW2.out]
  clear y0 y1 y2 y3 y4 y5 y6 y7 y8 y9 y10
  refine HCK.out.mono ?_
  rintro e V ⟨rfl, hb⟩
  have HH3 := Lib.hid (HH2.out.later hb)
  have HZ3 := Lib.hid (HZ2.out.later hb)
  have HB3 := Lib.hid (HB2.out.trans (hb.mono HB2.out.size))
  clear hb
  obtain ⟨y0, y1, y2, y3, y4, y5, y6, y7, y8, y9, y10⟩ := HH3.out.cells
  obtain ⟨z0, z1, z2, z3, z4, z5, z6, z7, z8, z9, z10⟩ := HZ3.out.cells
  obtain ⟨f0, f1, f2, f3, f4, f5, f6, f7, f8, f9, f10⟩ := HZ3.out.frozen
  by_cases hc : h.chk = true
  case neg =>
    have HR := Lib.hid (show hopV h = Hd.zero ∧ hopE h = 2 from ⟨by rw [hopV, if_neg (fun q => hc q.1)], by rw [hopE, if_neg hc]⟩)
    have HER := Lib.hid (show h.err = 2 by rw [Hd.err, if_neg hc])
    clear hc
    rw [HER.out]
    go_wp2_with fail
    refine bodyPost_ret (v := .tuple #[.agg #[.int .i64 0, .int .i64 0, .int .u32 0, .int .i64 0, .int .i64 0, .int .i64 0, .int .u32 0, .int .u64 0, .int .u64 0, .int .u64 0, .int .u64 0], .int .i64 (2)]) ?_ rfl ⟨?_, ?_⟩
    · simp only [results, Try.results21]
      go_simp
    · rw [HR.out.1, HR.out.2]; rfl
    · repeat (with_reducible refine Below.setCell ?_ (by simp only; omega) _)
      exact HB3.out

  have HER := Lib.hid (show h.err = 0 by rw [Hd.err, if_pos hc])
  rw [HER.out]
  by_cases h0 : h.hops = 0
  case pos =>
    have HR := Lib.hid (show hopV h = Hd.zero ∧ hopE h = 6 from ⟨by rw [hopV, if_neg (fun q => q.2 h0)], by rw [hopE, if_pos hc, if_pos h0]⟩)
    have ht : (h.hops == 0) = true := by rw [h0]; rfl
    clear hc h0
    go_wp2_with fail
    refine bodyPost_ret (v := .tuple #[.agg #[.int .i64 0, .int .i64 0, .int .u32 0, .int .i64 0, .int .i64 0, .int .i64 0, .int .u32 0, .int .u64 0, .int .u64 0, .int .u64 0, .int .u64 0], .int .i64 (6)]) ?_ rfl ⟨?_, ?_⟩
    · simp only [results, Try.results21]
      go_simp
    · rw [HR.out.1, HR.out.2]; rfl
    · repeat (with_reducible refine Below.setCell ?_ (by simp only; omega) _)
      exact HB3.out

  have HR := Lib.hid (show hopV h = { h with hops := h.hops - 1 } ∧ hopE h = 0 from ⟨by rw [hopV, if_pos ⟨hc, h0⟩], by rw [hopE, if_pos hc, if_neg h0]⟩)
  have ht : (h.hops == 0) = false := by rw [beq_eq_false_iff_ne]; exact h0
  have hhp : IntKind.i64.wrap (h.hops - 1) = h.hops - 1 := by
    obtain ⟨_, _, k3, _⟩ := Hd.chk_is hc
    exact IntWalk.i64_in _ (by omega)
  obtain ⟨hp, hhq⟩ : ∃ hp, hp = h.hops - 1 := ⟨_, rfl⟩
  obtain ⟨g0, g1, g2, g3, g4, g5, g6, g7, g8, g9, g10⟩ := HH3.out.frozen
  obtain ⟨U, hU⟩ : ∃ U, U = V.setCell ⟨W.heap.size, 3, none⟩ (.int .i64 (h.hops - 1)) := ⟨_, rfl⟩
  have HHU := Lib.hid (show BoxV W.heap.size h.wid h.set h.ent (h.hops - 1) h.src h.grp h.id h.bits.a h.bits.b h.bits.c h.bits.d U by rw [hU]; exact HH3.out.set3 _)
  have HZU := Lib.hid (show BoxV (W.heap.size + 1) 0 0 0 0 0 0 0 0 0 0 0 U by rw [hU]; exact HZ3.out.other _ _ _ (by omega))
  have HBU := Lib.hid (show Below W.heap.size W U by rw [hU]; exact HB3.out.setCell (by simp only; omega) _)
  obtain ⟨a0, a1, a2, a3, a4, a5, a6, a7, a8, a9, a10⟩ := HHU.out.cells
  obtain ⟨b0, b1, b2, b3, b4, b5, b6, b7, b8, b9, b10⟩ := HZU.out.cells
  obtain ⟨c0, c1, c2, c3, c4, c5, c6, c7, c8, c9, c10⟩ := HZU.out.frozen
  rw [hU] at a0 a1 a2 a3 a4 a5 a6 a7 a8 a9 a10 b0 b1 b2 b3 b4 b5 b6 b7 b8 b9 b10 c0 c1 c2 c3 c4 c5 c6 c7 c8 c9 c10
  have HU := Lib.hid hU
  clear hU hc h0 hhq
  go_wp2_with fail
  refine bodyPost_ret (v := .tuple #[.agg #[.int .i64 h.wid, .int .i64 h.set, .int .u32 h.ent, .int .i64 (h.hops - 1), .int .i64 h.src, .int .i64 h.grp, .int .u32 h.id, .int .u64 h.bits.a, .int .u64 h.bits.b, .int .u64 h.bits.c, .int .u64 h.bits.d], .int .i64 (0)]) ?_ rfl ⟨?_, ?_⟩
  · simp only [results, Try.results21]
    go_simp
  · rw [HR.out.1, HR.out.2]
  · rw [← HU.out]; repeat (with_reducible refine Below.setCell ?_ (by simp only; omega) _)
    exact HBU.out

def withV (h : Hd) (b : Bt) : Hd := if h.chk = true ∧ below b h.wid = true then { h with bits := b } else Hd.zero
def withE (h : Hd) (b : Bt) : Int := if h.chk = true then (if below b h.wid = true then 0 else 3) else 2
set_option maxRecDepth 100000 in
set_option maxHeartbeats 6400000 in
theorem with_any (h : Hd) (b : Bt) (W : World) (hk : h.ok) (hbo : b.ok) : Calls Try.prog 23 #[h.ag, b.ag] W fun e W' => e = .returned (.tuple #[(withV h b).ag, .int .i64 (withE h b)]) ∧ Below W.heap.size W W' := by
  obtain ⟨W1, hW1⟩ : ∃ W1, W1 = (W.alloc (.cells h.cs 27)).alloc (.cells b.cs 25) := ⟨_, rfl⟩
  obtain ⟨W2, hW2⟩ : ∃ W2, W2 = W1.alloc (.cells #[.int .i64 0, .int .i64 0, .int .u32 0, .int .i64 0, .int .i64 0, .int .i64 0, .int .u32 0, .int .u64 0, .int .u64 0, .int .u64 0, .int .u64 0] 27) := ⟨_, rfl⟩
  have hz1 : W1.heap.size = W.heap.size + 2 := by rw [hW1, World.size_alloc, World.size_alloc]
  have hb1 : Below W.heap.size W W1 := by rw [hW1]; exact ((Below.refl _ _).alloc (Nat.le_refl _) _).alloc (by rw [World.size_alloc]; omega) _
  have hb2 : Below W1.heap.size W1 W2 := by rw [hW2]; exact (Below.refl _ _).alloc (Nat.le_refl _) _
  have hbh : BoxV W.heap.size h.wid h.set h.ent h.hops h.src h.grp h.id h.bits.a h.bits.b h.bits.c h.bits.d W1 := by rw [hW1]; exact heap_alloc2_old _ _ _
  have hbb : BoxBt (W.heap.size + 1) b W1 := by rw [hW1]; exact heap_alloc2_new _ _ _
  have hbz : BoxV (W.heap.size + 2) 0 0 0 0 0 0 0 0 0 0 0 W2 := by rw [hW2, ← hz1]; exact heap_alloc_new _ _
  have HH2 := Lib.hid (hbh.later hb2)
  have HT2 := Lib.hid (hbb.later hb2)
  have HZ2 := Lib.hid hbz
  have HB2 := Lib.hid (hb1.trans (hb2.mono hb1.size))
  obtain ⟨y0, y1, y2, y3, y4, y5, y6, y7, y8, y9, y10⟩ := HH2.out.cells
  unfold Hd.cs Bt.cs at hW1
  rw [hW2, hW1] at y0 y1 y2 y3 y4 y5 y6 y7 y8 y9 y10
  have HCK := Lib.hid (hcheck_any h W2 hk)
  have HBL := Lib.hid (fun V => below_any b h.wid V hbo hk.1)
  have HW1 := Lib.hid hW1
  have HW2 := Lib.hid hW2
  clear hW1 hW2 hb1 hb2 hbz hbh hbb hz1 hk
  go_enter Try.func23, Try.ntmps23
  unfold Hd.ag Hd.cs Bt.ag Bt.cs at *
  go_wp2_with fail
  rw [← HW1.out, ← HW2.out]
  clear y0 y1 y2 y3 y4 y5 y6 y7 y8 y9 y10
  refine HCK.out.mono ?_
  rintro e V ⟨rfl, hb⟩
  have HH3 := Lib.hid (HH2.out.later hb)
  have HT3 := Lib.hid (HT2.out.later hb)
  have HZ3 := Lib.hid (HZ2.out.later hb)
  have HB3 := Lib.hid (HB2.out.trans (hb.mono HB2.out.size))
  clear hb
  by_cases hc : h.chk = true
  case neg =>
    have HR := Lib.hid (show withV h b = Hd.zero ∧ withE h b = 2 from ⟨by rw [withV, if_neg (fun q => hc q.1)], by rw [withE, if_neg hc]⟩)
    have HER := Lib.hid (show h.err = 2 by rw [Hd.err, if_neg hc])
    obtain ⟨z0, z1, z2, z3, z4, z5, z6, z7, z8, z9, z10⟩ := HZ3.out.cells
    obtain ⟨f0, f1, f2, f3, f4, f5, f6, f7, f8, f9, f10⟩ := HZ3.out.frozen
    clear hc
    rw [HER.out]
    go_wp2_with fail
    refine bodyPost_ret (v := .tuple #[.agg #[.int .i64 0, .int .i64 0, .int .u32 0, .int .i64 0, .int .i64 0, .int .i64 0, .int .u32 0, .int .u64 0, .int .u64 0, .int .u64 0, .int .u64 0], .int .i64 (2)]) ?_ rfl ⟨?_, ?_⟩
    · simp only [results, Try.results23]
      go_simp
    · rw [HR.out.1, HR.out.2]; rfl
    · repeat (with_reducible refine Below.setCell ?_ (by simp only; omega) _)
      exact HB3.out

  have HER := Lib.hid (show h.err = 0 by rw [Hd.err, if_pos hc])
  rw [HER.out]
  obtain ⟨y0, y1, y2, y3, y4, y5, y6, y7, y8, y9, y10⟩ := HH3.out.cells
  obtain ⟨t0, t1, t2, t3⟩ := BoxBt.cells HT3.out
  have HC := Lib.hid hc
  clear hc
  go_wp2_with fail
  refine (HBL.out _).mono ?_
  rintro e X ⟨rfl, hb⟩
  have HH4 := Lib.hid (HH3.out.later hb)
  have HT4 := Lib.hid (HT3.out.later hb)
  have HZ4 := Lib.hid (HZ3.out.later hb)
  have HB4 := Lib.hid (HB3.out.trans (hb.mono HB3.out.size))
  clear hb y0 y1 y2 y3 y4 y5 y6 y7 y8 y9 y10 t0 t1 t2 t3
  obtain ⟨y0, y1, y2, y3, y4, y5, y6, y7, y8, y9, y10⟩ := HH4.out.cells
  obtain ⟨g0, g1, g2, g3, g4, g5, g6, g7, g8, g9, g10⟩ := HH4.out.frozen
  obtain ⟨z0, z1, z2, z3, z4, z5, z6, z7, z8, z9, z10⟩ := HZ4.out.cells
  obtain ⟨f0, f1, f2, f3, f4, f5, f6, f7, f8, f9, f10⟩ := HZ4.out.frozen
  obtain ⟨t0, t1, t2, t3⟩ := BoxBt.cells HT4.out
  by_cases hl : below b h.wid = true
  case neg =>
    have HR := Lib.hid (show withV h b = Hd.zero ∧ withE h b = 3 from ⟨by rw [withV, if_neg (fun q => hl q.2)], by rw [withE, if_pos HC.out, if_neg hl]⟩)
    have HL := Lib.hid (show below b h.wid = false by simpa using hl)
    clear hl
    rw [HL.out]
    go_wp2_with fail
    refine bodyPost_ret (v := .tuple #[.agg #[.int .i64 0, .int .i64 0, .int .u32 0, .int .i64 0, .int .i64 0, .int .i64 0, .int .u32 0, .int .u64 0, .int .u64 0, .int .u64 0, .int .u64 0], .int .i64 (3)]) ?_ rfl ⟨?_, ?_⟩
    · simp only [results, Try.results23]
      go_simp
    · rw [HR.out.1, HR.out.2]; rfl
    · repeat (with_reducible refine Below.setCell ?_ (by simp only; omega) _)
      exact HB4.out

  have HR := Lib.hid (show withV h b = { h with bits := b } ∧ withE h b = 0 from ⟨by rw [withV, if_pos ⟨HC.out, hl⟩], by rw [withE, if_pos HC.out, if_pos hl]⟩)
  have HL := Lib.hid hl
  clear hl
  rw [HL.out]
  obtain ⟨U, hU⟩ : ∃ U, U = (((X.setCell ⟨W.heap.size, 7, none⟩ (.int .u64 (b.a : Int))).setCell ⟨W.heap.size, 8, none⟩ (.int .u64 (b.b : Int))).setCell ⟨W.heap.size, 9, none⟩ (.int .u64 (b.c : Int))).setCell ⟨W.heap.size, 10, none⟩ (.int .u64 (b.d : Int)) := ⟨_, rfl⟩
  have HHU := Lib.hid (show BoxV W.heap.size h.wid h.set h.ent h.hops h.src h.grp h.id b.a b.b b.c b.d U by rw [hU]; exact (((HH4.out.set7 _).set8 _).set9 _).set10 _)
  have HZU := Lib.hid (show BoxV (W.heap.size + 2) 0 0 0 0 0 0 0 0 0 0 0 U by rw [hU]; exact (((HZ4.out.other _ _ _ (by omega)).other _ _ _ (by omega)).other _ _ _ (by omega)).other _ _ _ (by omega))
  have HBU := Lib.hid (show Below W.heap.size W U by rw [hU]; repeat (with_reducible refine Below.setCell ?_ (by simp only; omega) _)
                                                     exact HB4.out)
  obtain ⟨a0, a1, a2, a3, a4, a5, a6, a7, a8, a9, a10⟩ := HHU.out.cells
  obtain ⟨b0, b1, b2, b3, b4, b5, b6, b7, b8, b9, b10⟩ := HZU.out.cells
  obtain ⟨c0, c1, c2, c3, c4, c5, c6, c7, c8, c9, c10⟩ := HZU.out.frozen
  rw [hU] at a0 a1 a2 a3 a4 a5 a6 a7 a8 a9 a10 b0 b1 b2 b3 b4 b5 b6 b7 b8 b9 b10 c0 c1 c2 c3 c4 c5 c6 c7 c8 c9 c10
  have HU := Lib.hid hU
  clear hU
  go_wp2_with fail
  refine bodyPost_ret (v := .tuple #[.agg #[.int .i64 h.wid, .int .i64 h.set, .int .u32 h.ent, .int .i64 h.hops, .int .i64 h.src, .int .i64 h.grp, .int .u32 h.id, .int .u64 b.a, .int .u64 b.b, .int .u64 b.c, .int .u64 b.d], .int .i64 (0)]) ?_ rfl ⟨?_, ?_⟩
  · simp only [results, Try.results23]
    go_simp
  · rw [HR.out.1, HR.out.2]
  · rw [← HU.out]; repeat (with_reducible refine Below.setCell ?_ (by simp only; omega) _)
    exact HBU.out

end Go.Proofs.Ytbcgfojdlehnpaa
