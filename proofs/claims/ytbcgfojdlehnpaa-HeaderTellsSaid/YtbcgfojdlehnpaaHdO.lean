/- Contract of the law package's right: a header that may be, made of any. -/
import Derived.Test.YtbcgfojdlehnpaaHdN
set_option linter.unusedSimpArgs false
set_option linter.unusedVariables false
namespace Go.Proofs.Ytbcgfojdlehnpaa
open Go.RowKit Go.ChangeShapes Go.WideShapes

/-- What a remainder of a number comes to. -/
theorem rem_at (z : Int) (m : Nat) (hm : 0 < m) (hm2 : m ≤ 1000) : ∃ u c : Nat, IntKind.u64.wrap z = (u : Int) ∧ u < 18446744073709551616 ∧ c = u % m ∧ c < m ∧ (u : Int).tmod (m : Int) = (c : Int) ∧ (u : Int) % (m : Int) = (c : Int) ∧ IntKind.u64.wrap (c : Int) = (c : Int) ∧ IntKind.i64.wrap (c : Int) = (c : Int) := by
  have h : ∃ u : Nat, IntKind.u64.wrap z = (u : Int) ∧ u < 18446744073709551616 := by
    rw [IntKind.wrap_u64]
    exact ⟨(z % 18446744073709551616).toNat, by omega, by omega⟩
  obtain ⟨u, h1, h2⟩ := h
  have hc : u % m < m := Nat.mod_lt _ hm
  have h4 : (u : Int) % (m : Int) = ((u % m : Nat) : Int) := by simp
  refine ⟨u, u % m, h1, h2, rfl, hc, ?_, h4, IntWalk.u64_in _ (by omega), IntWalk.i64_in _ (by omega)⟩
  rw [Int.tmod_eq_emod_of_nonneg (by omega), h4]
def RtRel (W : World) (w : Nat) (st en hp sr gp id : Int) (i : Value) (wr : World) : Prop :=
  ∃ (k : Nat) (x : Bt), i = .int .i64 ((k : Int) + 1) ∧ w ≤ k ∧ k ≤ 256 ∧ x.ok ∧ (∀ i, w ≤ i → i < k → x.num.testBit i = false) ∧ BoxV W.heap.size w st en hp sr gp id x.a x.b x.c x.d wr ∧ BoxV (W.heap.size + 1) 0 0 0 0 0 0 0 0 0 0 0 wr ∧ Below W.heap.size W wr
set_option maxRecDepth 100000 in
set_option maxHeartbeats 12800000 in
theorem right_any (h : Hd) (W : World) (hk : h.ok) : Calls Try.prog 12 #[h.ag] W fun e W' => ∃ g : Hd, g.ok ∧ g.chk = true ∧ e = .returned (.agg #[.int .i64 g.wid, .int .i64 g.set, .int .u32 g.ent, .int .i64 g.hops, .int .i64 g.src, .int .i64 g.grp, .int .u32 g.id, .int .u64 g.bits.a, .int .u64 g.bits.b, .int .u64 g.bits.c, .int .u64 g.bits.d]) ∧ Below W.heap.size W W' := by
  obtain ⟨W1, hW1⟩ : ∃ W1, W1 = W.alloc (.cells h.cs 27) := ⟨_, rfl⟩
  obtain ⟨W2, hW2⟩ : ∃ W2, W2 = W1.alloc (.cells #[.int .i64 0, .int .i64 0, .int .u32 0, .int .i64 0, .int .i64 0, .int .i64 0, .int .u32 0, .int .u64 0, .int .u64 0, .int .u64 0, .int .u64 0] 27) := ⟨_, rfl⟩
  have hz1 : W1.heap.size = W.heap.size + 1 := by rw [hW1, World.size_alloc]
  have hb1 : Below W.heap.size W W1 := by rw [hW1]; exact (Below.refl _ _).alloc (Nat.le_refl _) _
  have hb2 : Below W1.heap.size W1 W2 := by rw [hW2]; exact (Below.refl _ _).alloc (Nat.le_refl _) _
  have hbh : BoxV W.heap.size h.wid h.set h.ent h.hops h.src h.grp h.id h.bits.a h.bits.b h.bits.c h.bits.d W1 := by rw [hW1]; exact heap_alloc_new _ _
  have hbz : BoxV (W.heap.size + 1) 0 0 0 0 0 0 0 0 0 0 0 W2 := by rw [hW2, ← hz1]; exact heap_alloc_new _ _
  have hB2 : Below W.heap.size W W2 := hb1.trans (hb2.mono hb1.size)
  obtain ⟨u0, c, e0, l0, q0, b0, t0, r0, v0, i0⟩ := rem_at h.wid 6 (by decide) (by decide)
  obtain ⟨u1, st, e1, l1, q1, b1, t1, r1, v1, i1⟩ := rem_at h.set 128 (by decide) (by decide)
  obtain ⟨u2, hp, e2, l2, q2, b2, t2, r2, v2, i2⟩ := rem_at h.hops 16 (by decide) (by decide)
  obtain ⟨u3, sr, e3, l3, q3, b3, t3, r3, v3, i3⟩ := rem_at h.src 24 (by decide) (by decide)
  obtain ⟨u4, gp, e4, l4, q4, b4, t4, r4, v4, i4⟩ := rem_at h.grp 8 (by decide) (by decide)
  obtain ⟨w, hw⟩ : ∃ w, w = 8 * 2 ^ c := ⟨_, rfl⟩
  have hp1 : 1 ≤ 2 ^ c := Nat.pow_pos (by decide)
  have hp2 : 2 ^ c ≤ 32 := Nat.le_trans (Nat.pow_le_pow_right (by decide) (show c ≤ 5 by omega)) (by decide)
  have hw256 : w ≤ 256 := by omega
  have d3 : IntKind.i64.wrap (8 * 2 ^ c) = (w : Int) := by rw [show (8 * 2 ^ c : Int) = ((8 * 2 ^ c : Nat) : Int) from by simp, ← hw]; exact IntWalk.i64_in _ (by omega)
  have d4 : wrap64 (8 * 2 ^ c) = (w : Int) := by unfold wrap64; rw [show (8 * 2 ^ c : Int) = ((8 * 2 ^ c : Nat) : Int) from by simp, ← hw]; omega
  have d5 : IntKind.i64.wrap (1 + (sr : Int)) = 1 + (sr : Int) := IntWalk.i64_in _ (by omega)
  have d6 : IntKind.i64.wrap ((w : Int) + 1) = (w : Int) + 1 := IntWalk.i64_in _ (by omega)
  have HWD := Lib.hid (show wide (w : Int) = true by rw [hw]; exact (wide_code (show c ≤ 5 by omega)).1)
  have d7 : wrap64 ((w : Int) + 1) = (w : Int) + 1 := by unfold wrap64; omega
  have r0 : (u0 : Int) % 6 = (c : Int) := r0
  have r1 : (u1 : Int) % 128 = (st : Int) := r1
  have r2 : (u2 : Int) % 16 = (hp : Int) := r2
  have r3 : (u3 : Int) % 24 = (sr : Int) := r3
  have r4 : (u4 : Int) % 8 = (gp : Int) := r4
  have p0 : u0 % 6 = c := q0.symm
  obtain ⟨y0, y1, y2, y3, y4, y5, y6, y7, y8, y9, y10⟩ := (hbh.later hb2).cells
  obtain ⟨f0, f1, f2, f3, f4, f5, f6, f7, f8, f9, f10⟩ := (hbh.later hb2).frozen
  unfold Hd.cs at hW1
  rw [hW2, hW1] at y0 y1 y2 y3 y4 y5 y6 y7 y8 y9 y10 f0 f1 f2 f3 f4 f5 f6 f7 f8 f9 f10
  obtain ⟨U, hU⟩ : ∃ U, U = (W.alloc (.cells #[.int .i64 (w : Int), .int .i64 (st : Int), .int .u32 h.ent, .int .i64 (hp : Int), .int .i64 (1 + (sr : Int)), .int .i64 (gp : Int), .int .u32 h.id, .int .u64 h.bits.a, .int .u64 h.bits.b, .int .u64 h.bits.c, .int .u64 h.bits.d] 27)).alloc (.cells #[.int .i64 0, .int .i64 0, .int .u32 0, .int .i64 0, .int .i64 0, .int .i64 0, .int .u32 0, .int .u64 0, .int .u64 0, .int .u64 0, .int .u64 0] 27) := ⟨_, rfl⟩
  have H0 := Lib.hid (show RtRel W w (st : Int) (h.ent : Int) (hp : Int) (1 + (sr : Int)) (gp : Int) (h.id : Int) (.int .i64 ((w : Int) + 1)) U from
    ⟨w, h.bits, rfl, Nat.le_refl _, hw256, hk.2.2.2.2.2.2.2, fun i h1 h2 => absurd h1 (by omega), by rw [hU]; exact heap_alloc2_old _ _ _, by rw [hU]; exact heap_alloc2_new _ _ _, by
      rw [hU]
      exact ((Below.refl _ _).alloc (Nat.le_refl _) _).alloc (by rw [World.size_alloc]; omega) _⟩)
  have HU := Lib.hid hU
  have HK := Lib.hid hk
  have HWC := Lib.hid hw
  have HEN := Lib.hid (show h.ent < 4294967296 ∧ h.id < 4294967296 from ⟨hk.2.2.1, hk.2.2.2.2.2.2.1⟩)
  clear hW1 hW2 hb1 hb2 hbz hbh hz1 hk hU hw hB2 q0 q1 q2 q3 q4 t0 t1 t2 t3 t4
  go_enter Try.func12, Try.ntmps12
  unfold Hd.ag Hd.cs at *
  go_wp2_with fail
  rw [← HU.out]
  clear y0 y1 y2 y3 y4 y5 y6 y7 y8 y9 y10 f0 f1 f2 f3 f4 f5 f6 f7 f8 f9 f10 e0 e1 e2 e3 e4 l0 l1 l2 l3 l4 r0 r1 r2 r3 r4 v0 v1 v2 v3 v4 i0 i1 i2 i3 i4 p0 d3 d4 d5 d6 d7 hp1 hp2 b0
  have HWO := Lib.hid (fun (x : Bt) (k : Nat) (V : World) (hx : x.ok) (hk : k < 256) => without_any x k V hx hk)
  go_loopw [3] (fun i wr => RtRel W w (st : Int) (h.ent : Int) (hp : Int) (1 + (sr : Int)) (gp : Int) (h.id : Int) i wr) (fun i _ => 300 - (intOf i).toNat)
  case atStart => exact H0.out
  case round =>
    obtain ⟨k, x, rfl, hwk, hk, hxo, hbits, hbh, hbz, hbel⟩ := hrel
    obtain ⟨y0, y1, y2, y3, y4, y5, y6, y7, y8, y9, y10⟩ := hbh.cells
    by_cases hlt : k < 256
    · have hle : (k : Int) + 1 ≤ 256 := by omega
      have hkw : IntKind.i64.wrap ((k : Int) + 1 + 1) = (k : Int) + 1 + 1 := IntWalk.i64_in _ (by omega)
      have HXO := Lib.hid hxo
      have HBT := Lib.hid hbits
      have HBH := Lib.hid hbh
      have HBZ := Lib.hid hbz
      have HBE := Lib.hid hbel
      have hwa := HWO.out x k wr hxo hlt
      obtain ⟨y, hy⟩ : ∃ y, y = clrB x k := ⟨_, rfl⟩
      rw [← hy] at hwa
      unfold Bt.ag Bt.cs at hwa
      have HWA := Lib.hid hwa
      have HY := Lib.hid hy
      clear hxo hbits hbh hbz hbel hwa hy
      go_wp2_with fail
      refine HWA.out.mono ?_
      rintro e V ⟨rfl, hb⟩
      have hh := HBH.out.later hb
      have hz := HBZ.out.later hb
      have hbe := HBE.out.trans (hb.mono HBE.out.size)
      clear hb y0 y1 y2 y3 y4 y5 y6 y7 y8 y9 y10
      obtain ⟨y0, y1, y2, y3, y4, y5, y6, y7, y8, y9, y10⟩ := hh.cells
      obtain ⟨f0, f1, f2, f3, f4, f5, f6, f7, f8, f9, f10⟩ := hh.frozen
      obtain ⟨U2, hU2⟩ : ∃ U, U = (((V.setCell ⟨W.heap.size, 7, none⟩ (.int .u64 (y.a : Int))).setCell ⟨W.heap.size, 8, none⟩ (.int .u64 (y.b : Int))).setCell ⟨W.heap.size, 9, none⟩ (.int .u64 (y.c : Int))).setCell ⟨W.heap.size, 10, none⟩ (.int .u64 (y.d : Int)) := ⟨_, rfl⟩
      have HREL := Lib.hid (show RtRel W w (st : Int) (h.ent : Int) (hp : Int) (1 + (sr : Int)) (gp : Int) (h.id : Int) (.int .i64 ((k : Int) + 1 + 1)) U2 from
        ⟨k + 1, y, by simp, by omega, by omega, by rw [HY.out]; exact clrB_ok HXO.out k, fun i h1 h2 => by
          rw [HY.out, clrB_bit HXO.out hlt (by omega)]
          by_cases hik : i = k
          · rw [decide_eq_false (fun h => h hik), Bool.and_false]
          · rw [HBT.out i h1 (by omega), Bool.false_and], by rw [hU2]; exact (((hh.set7 _).set8 _).set9 _).set10 _, by rw [hU2]; exact (((hz.other _ _ _ (by omega)).other _ _ _ (by omega)).other _ _ _ (by omega)).other _ _ _ (by omega), by
            rw [hU2]
            repeat (with_reducible refine Below.setCell ?_ (by simp only; omega) _)
            exact hbe⟩)
      have HU2 := Lib.hid hU2
      clear hh hz hbe hU2
      go_wp2_with fail
      case roundEnd =>
        rw [← HU2.out]
        refine ⟨HREL.out, ?_⟩
        clear HREL HU2
        simp only [intOf]
        omega
    · obtain rfl : k = 256 := by omega
      obtain ⟨h1, h2⟩ := HEN.out
      have hnum := num_lt_of_bits hxo hbits
      have HG := Lib.hid (show (⟨(w : Int), (st : Int), h.ent, (hp : Int), 1 + (sr : Int), (gp : Int), h.id, x⟩ : Hd).ok ∧ Hd.chk ⟨(w : Int), (st : Int), h.ent, (hp : Int), 1 + (sr : Int), (gp : Int), h.id, x⟩ = true from
        ⟨⟨i64_nat (by omega), i64_nat (by omega), h1, i64_nat (by omega), ⟨by simp only; omega, by simp only; omega⟩, i64_nat (by omega), h2, hxo⟩,
          Hd.chk_of HWD.out ⟨by simp only; omega, by simp only; omega⟩ ⟨by simp only; omega, by simp only; omega⟩ ⟨by simp only; omega, by simp only; omega⟩ ⟨by simp only; omega, by simp only; omega⟩ (by
            refine decide_eq_true ⟨by simp only; omega, by simp only; omega, ?_⟩
            simp only [Int.toNat_natCast]
            exact hnum)⟩)
      obtain ⟨z0, z1, z2, z3, z4, z5, z6, z7, z8, z9, z10⟩ := hbz.cells
      obtain ⟨f0, f1, f2, f3, f4, f5, f6, f7, f8, f9, f10⟩ := hbz.frozen
      have HBE := Lib.hid hbel
      clear hxo hbits hbh hbz hbel hnum
      go_wp2_with fail
      refine bodyPost_ret (v := .agg #[.int .i64 w, .int .i64 st, .int .u32 h.ent, .int .i64 hp, .int .i64 (1 + (sr : Int)), .int .i64 gp, .int .u32 h.id, .int .u64 x.a, .int .u64 x.b, .int .u64 x.c, .int .u64 x.d]) ?_ rfl ⟨⟨(w : Int), (st : Int), h.ent, (hp : Int), 1 + (sr : Int), (gp : Int), h.id, x⟩, HG.out.1, HG.out.2, rfl, ?_⟩
      · simp only [results, Try.results12]
        go_simp
      · repeat (with_reducible refine Below.setCell ?_ (by simp only; omega) _)
        exact HBE.out

end Go.Proofs.Ytbcgfojdlehnpaa
