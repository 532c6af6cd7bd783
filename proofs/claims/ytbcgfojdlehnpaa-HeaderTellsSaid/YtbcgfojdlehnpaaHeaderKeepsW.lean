/- The walk of the law HeaderKeeps. -/
import Derived.Test.YtbcgfojdlehnpaaHeaderBackW
set_option linter.unusedSimpArgs false
set_option linter.unusedVariables false
namespace Go.Proofs.Ytbcgfojdlehnpaa
open Go.RowKit Go.ChangeShapes Go.WideShapes

theorem hops_ok {g : Hd} (hk : g.ok) (hc : g.chk = true) {z : Int} (hz : 0 ≤ z ∧ z ≤ 15) : ({ g with hops := z } : Hd).ok ∧ ({ g with hops := z } : Hd).chk = true := by
  obtain ⟨k1, k2, k3, k4, k5, k6, k7, k8⟩ := hk
  obtain ⟨c1, c2, c3, c4, c5, c6⟩ := Hd.chk_is hc
  exact ⟨⟨k1, k2, k3, ⟨by simp only; omega, by simp only; omega⟩, k5, k6, k7, k8⟩, Hd.chk_of c1 c2 hz c4 c5 c6⟩
/-- What is there while hops are taken. -/
structure KpS (W : World) (g : Hd) (q : Nat) (n : Int) (V : World) : Prop where
  b : BkS W g V
  l : BoxV q g.wid g.set g.ent (n) g.src g.grp g.id g.bits.a g.bits.b g.bits.c g.bits.d V
  lt : W.heap.size < q
theorem KpS.later {W V X : World} {g : Hd} {q : Nat} {n : Int} (h : KpS W g q n V) (hb : Below V.heap.size V X) : KpS W g q n X := ⟨h.b.later hb, h.l.later hb, h.lt⟩
def KpRel (W : World) (g : Hd) (q N : Nat) (i : Value) (wr : World) : Prop := ∃ k n : Nat, i = .int .i64 k ∧ k + n = N ∧ KpS W g q n wr

set_option maxRecDepth 100000 in
set_option maxHeartbeats 12800000 in
/-- The loop and what comes behind it. -/
theorem headerKeeps_walk (h : Hd) (b : Bt) (W : World) (hk : h.ok) (hbo : b.ok) :
    Calls Try.prog 8 #[h.ag, b.ag] W fun e W' => e = .returned (.bool true) ∧ Below W.heap.size W W' := by
  obtain ⟨W1, hW1⟩ : ∃ W1, W1 = (W.alloc (.cells h.cs 27)).alloc (.cells b.cs 25) := ⟨_, rfl⟩
  have hb1 : Below W.heap.size W W1 := by rw [hW1]; exact ((Below.refl _ _).alloc (Nat.le_refl _) _).alloc (by rw [World.size_alloc]; omega) _
  have hbh : BoxV W.heap.size h.wid h.set h.ent h.hops h.src h.grp h.id h.bits.a h.bits.b h.bits.c h.bits.d W1 := by rw [hW1]; exact heap_alloc2_old _ _ _
  have hbb : BoxBt (W.heap.size + 1) b W1 := by rw [hW1]; exact heap_alloc2_new _ _ _
  have HBH := Lib.hid hbh
  have HBB := Lib.hid hbb
  obtain ⟨y0, y1, y2, y3, y4, y5, y6, y7, y8, y9, y10⟩ := hbh.cells
  have HR := Lib.hid (right_any h W1 hk)
  have HB1 := Lib.hid hb1
  have HBO := Lib.hid hbo
  unfold Hd.cs Bt.cs at hW1
  rw [hW1] at y0 y1 y2 y3 y4 y5 y6 y7 y8 y9 y10
  have HW1 := Lib.hid hW1
  clear hW1 hb1 hbh hbb hk hbo
  go_enter Try.func8, Try.ntmps8
  unfold Hd.ag Hd.cs Bt.ag Bt.cs at *
  go_wp2_with fail
  rw [← HW1.out]
  clear y0 y1 y2 y3 y4 y5 y6 y7 y8 y9 y10
  refine HR.out.mono ?_
  rintro e V1 ⟨g, hgo, hgc, rfl, hb⟩
  have hbh1 := HBH.out.later hb
  have hbb1 := HBB.out.later hb
  have hbl1 := HB1.out.trans (hb.mono HB1.out.size)
  obtain ⟨y0, y1, y2, y3, y4, y5, y6, y7, y8, y9, y10⟩ := hbh1.cells
  obtain ⟨f0, f1, f2, f3, f4, f5, f6, f7, f8, f9, f10⟩ := hbh1.frozen
  obtain ⟨V2, hV2⟩ : ∃ V, V = (((((((((((V1.setCell ⟨W.heap.size, 0, none⟩ (.int .i64 g.wid)).setCell ⟨W.heap.size, 1, none⟩ (.int .i64 g.set)).setCell ⟨W.heap.size, 2, none⟩ (.int .u32 (g.ent : Int))).setCell ⟨W.heap.size, 3, none⟩ (.int .i64 g.hops)).setCell ⟨W.heap.size, 4, none⟩ (.int .i64 g.src)).setCell ⟨W.heap.size, 5, none⟩ (.int .i64 g.grp)).setCell ⟨W.heap.size, 6, none⟩ (.int .u32 (g.id : Int))).setCell ⟨W.heap.size, 7, none⟩ (.int .u64 (g.bits.a : Int))).setCell ⟨W.heap.size, 8, none⟩ (.int .u64 (g.bits.b : Int))).setCell ⟨W.heap.size, 9, none⟩ (.int .u64 (g.bits.c : Int))).setCell ⟨W.heap.size, 10, none⟩ (.int .u64 (g.bits.d : Int))) := ⟨_, rfl⟩
  have HS2 := Lib.hid (show BkS W g V2 from ⟨by rw [hV2]; exact (((((((((((hbh1.set0 _).set1 _).set2 _).set3 _).set4 _).set5 _).set6 _).set7 _).set8 _).set9 _).set10 _), by
    rw [hV2]
    repeat (with_reducible refine Below.setCell ?_ (by simp only; omega) _)
    exact hbl1⟩)
  have HBT2 := Lib.hid (show BoxBt (W.heap.size + 1) b V2 by
    rw [hV2]
    repeat (refine (heap_setCell_other _ _ _ _ (by simp only; omega)).trans ?_)
    exact hbb1)
  have HWI := Lib.hid (show GC 23 #[.agg #[.int .i64 g.wid, .int .i64 g.set, .int .u32 g.ent, .int .i64 g.hops, .int .i64 g.src, .int .i64 g.grp, .int .u32 g.id, .int .u64 g.bits.a, .int .u64 g.bits.b, .int .u64 g.bits.c, .int .u64 g.bits.d], .agg #[.int .u64 b.a, .int .u64 b.b, .int .u64 b.c, .int .u64 b.d]] (.tuple #[(withV g b).ag, .int .i64 (withE g b)]) from fun V => with_any g b V hgo HBO.out)
  have HBE := Lib.hid (show GC 26 #[.agg #[.int .u64 b.a, .int .u64 b.b, .int .u64 b.c, .int .u64 b.d], .int .i64 g.wid] (.bool (below b g.wid)) from fun V => below_any b g.wid V HBO.out hgo.1)
  have HEQ := Lib.hid (fun (z : Int) (hz : 0 ≤ z ∧ z ≤ 15) V => show (Op.equalIn 10000 27 (.agg #[.int .i64 g.wid, .int .i64 g.set, .int .u32 g.ent, .int .i64 z, .int .i64 g.src, .int .i64 g.grp, .int .u32 g.id, .int .u64 g.bits.a, .int .u64 g.bits.b, .int .u64 g.bits.c, .int .u64 g.bits.d]) (.agg #[.int .i64 g.wid, .int .i64 g.set, .int .u32 g.ent, .int .i64 z, .int .i64 g.src, .int .i64 g.grp, .int .u32 g.id, .int .u64 g.bits.a, .int .u64 g.bits.b, .int .u64 g.bits.c, .int .u64 g.bits.d])).run Try.prog V = .ok true V from by
    have h1 := eq_hd { g with hops := z } { g with hops := z } (hops_ok hgo hgc hz).1 (hops_ok hgo hgc hz).1 V
    rw [decide_eq_true rfl] at h1
    exact h1)
  have HEG := Lib.hid (fun V => show (Op.equalIn 10000 27 (.agg #[.int .i64 g.wid, .int .i64 g.set, .int .u32 g.ent, .int .i64 g.hops, .int .i64 g.src, .int .i64 g.grp, .int .u32 g.id, .int .u64 g.bits.a, .int .u64 g.bits.b, .int .u64 g.bits.c, .int .u64 g.bits.d]) (.agg #[.int .i64 g.wid, .int .i64 g.set, .int .u32 g.ent, .int .i64 g.hops, .int .i64 g.src, .int .i64 g.grp, .int .u32 g.id, .int .u64 g.bits.a, .int .u64 g.bits.b, .int .u64 g.bits.c, .int .u64 g.bits.d])).run Try.prog V = .ok true V from by
    have h1 := eq_hd g g hgo hgo V
    rw [decide_eq_true rfl] at h1
    exact h1)
  have HHP := Lib.hid (fun (m : Nat) (hm : m + 1 ≤ 15) => show GC 21 #[.agg #[.int .i64 g.wid, .int .i64 g.set, .int .u32 g.ent, .int .i64 ((m : Int) + 1), .int .i64 g.src, .int .i64 g.grp, .int .u32 g.id, .int .u64 g.bits.a, .int .u64 g.bits.b, .int .u64 g.bits.c, .int .u64 g.bits.d]] (.tuple #[.agg #[.int .i64 g.wid, .int .i64 g.set, .int .u32 g.ent, .int .i64 m, .int .i64 g.src, .int .i64 g.grp, .int .u32 g.id, .int .u64 g.bits.a, .int .u64 g.bits.b, .int .u64 g.bits.c, .int .u64 g.bits.d], .int .i64 0]) from fun V => by
    have hx := hops_ok hgo hgc (z := (m : Int) + 1) ⟨by omega, by omega⟩
    have h1 := hop_any { g with hops := (m : Int) + 1 } V hx.1
    rw [hopV, hopE, if_pos ⟨hx.2, by simp only; omega⟩, if_pos hx.2, if_neg (by simp only; omega)] at h1
    simp only [Int.add_sub_cancel] at h1
    exact h1)
  have HH0 := Lib.hid (show GC 21 #[.agg #[.int .i64 g.wid, .int .i64 g.set, .int .u32 g.ent, .int .i64 0, .int .i64 g.src, .int .i64 g.grp, .int .u32 g.id, .int .u64 g.bits.a, .int .u64 g.bits.b, .int .u64 g.bits.c, .int .u64 g.bits.d]] (.tuple #[.agg #[.int .i64 0, .int .i64 0, .int .u32 0, .int .i64 0, .int .i64 0, .int .i64 0, .int .u32 0, .int .u64 0, .int .u64 0, .int .u64 0, .int .u64 0], .int .i64 6]) from fun V => by
    have hx := hops_ok hgo hgc (z := 0) ⟨by omega, by omega⟩
    have h1 := hop_any { g with hops := 0 } V hx.1
    rw [hopV, hopE, if_neg (fun q => q.2 rfl), if_pos hx.2, if_pos rfl] at h1
    exact h1)
  have hhp := (Hd.chk_is hgc).2.2.1
  have HGC := Lib.hid hgc
  obtain ⟨N, hN⟩ : ∃ N : Nat, g.hops = (N : Int) := ⟨g.hops.toNat, by omega⟩
  have hN15 : N ≤ 15 := by omega
  have HNN := Lib.hid hN
  obtain ⟨z0, z1, z2, z3, z4, z5, z6, z7, z8, z9, z10⟩ := HS2.out.h.cells
  obtain ⟨b0, b1, b2, b3⟩ := HBT2.out.cells
  rw [hV2] at z0 z1 z2 z3 z4 z5 z6 z7 z8 z9 z10 b0 b1 b2 b3
  have HV2 := Lib.hid hV2
  clear hb hbh1 hbb1 hbl1 hV2 hgo hgc hhp hN
  go_wp2_with fail
  rw [← HV2.out]
  clear y0 y1 y2 y3 y4 y5 y6 y7 y8 y9 y10 f0 f1 f2 f3 f4 f5 f6 f7 f8 f9 f10 z0 z1 z2 z3 z4 z5 z6 z7 z8 z9 z10 b0 b1 b2 b3
  by_cases hbw : below b g.wid = true
  · have hwe : withV g b = { g with bits := b } ∧ withE g b = 0 := ⟨by rw [withV, if_pos ⟨HGC.out, hbw⟩], by rw [withE, if_pos HGC.out, if_pos hbw]⟩
    rw [hwe.1, hwe.2] at HWI
    rw [hbw] at HBE
    have HWI2 := Lib.hid (show GC 23 #[.agg #[.int .i64 g.wid, .int .i64 g.set, .int .u32 g.ent, .int .i64 g.hops, .int .i64 g.src, .int .i64 g.grp, .int .u32 g.id, .int .u64 g.bits.a, .int .u64 g.bits.b, .int .u64 g.bits.c, .int .u64 g.bits.d], .agg #[.int .u64 b.a, .int .u64 b.b, .int .u64 b.c, .int .u64 b.d]] (.tuple #[.agg #[.int .i64 g.wid, .int .i64 g.set, .int .u32 g.ent, .int .i64 g.hops, .int .i64 g.src, .int .i64 g.grp, .int .u32 g.id, .int .u64 b.a, .int .u64 b.b, .int .u64 b.c, .int .u64 b.d], .int .i64 0]) from HWI.out)
    clear hwe hbw HWI
    refine (HWI2.out _).mono ?_
    rintro e V3 ⟨rfl, hb⟩
    have HS3 := Lib.hid (HS2.out.later hb)
    have HT3 := Lib.hid (HBT2.out.later hb)
    clear hb
    obtain ⟨p, hp⟩ : ∃ p, p = V3.heap.size := ⟨_, rfl⟩
    obtain ⟨V4, hV4⟩ : ∃ V, V = V3.alloc (.cells #[.int .i64 g.wid, .int .i64 g.set, .int .u32 g.ent, .int .i64 g.hops, .int .i64 g.src, .int .i64 g.grp, .int .u32 g.id, .int .u64 b.a, .int .u64 b.b, .int .u64 b.c, .int .u64 b.d] 27) := ⟨_, rfl⟩
    have hbV : Below V3.heap.size V3 V4 := by rw [hV4]; exact (Below.refl _ _).alloc (Nat.le_refl _) _
    have HS4 := Lib.hid (HS3.out.later hbV)
    have HT4 := Lib.hid (HT3.out.later hbV)
    have HX4 := Lib.hid (show BoxV p g.wid g.set g.ent g.hops g.src g.grp g.id b.a b.b b.c b.d V4 by rw [hV4, hp]; exact heap_alloc_new _ _)
    have HLT := Lib.hid (show W.heap.size < p by
      have h1 := HS3.out.h
      rw [hp]
      exact (Array.getElem?_eq_some_iff.1 h1).1)
    obtain ⟨y0, y1, y2, y3, y4, y5, y6, y7, y8, y9, y10⟩ := HS4.out.h.cells
    obtain ⟨b0, b1, b2, b3⟩ := HT4.out.cells
    rw [hV4] at y0 y1 y2 y3 y4 y5 y6 y7 y8 y9 y10 b0 b1 b2 b3
    have HV4 := Lib.hid hV4
    have HP := Lib.hid hp
    clear hbV hV4 hp
    go_wp2_with fail
    rw [← HV4.out, ← HP.out]
    clear y0 y1 y2 y3 y4 y5 y6 y7 y8 y9 y10 b0 b1 b2 b3
    refine (HBE.out _).mono ?_
    rintro e V5 ⟨rfl, hb⟩
    have HS5 := Lib.hid (HS4.out.later hb)
    have hx5 := HX4.out.later hb
    clear hb
    obtain ⟨U, hU⟩ : ∃ U, U = (((V5.setCell ⟨p, 7, none⟩ (.int .u64 (g.bits.a : Int))).setCell ⟨p, 8, none⟩ (.int .u64 (g.bits.b : Int))).setCell ⟨p, 9, none⟩ (.int .u64 (g.bits.c : Int))).setCell ⟨p, 10, none⟩ (.int .u64 (g.bits.d : Int)) := ⟨_, rfl⟩
    have HXU := Lib.hid (show BoxV p g.wid g.set g.ent g.hops g.src g.grp g.id g.bits.a g.bits.b g.bits.c g.bits.d U by rw [hU]; exact (((hx5.set7 _).set8 _).set9 _).set10 _)
    have HSU := Lib.hid (show BkS W g U from ⟨by
      rw [hU]
      have hlt := HLT.out
      exact (((HS5.out.h.other _ _ _ (by omega)).other _ _ _ (by omega)).other _ _ _ (by omega)).other _ _ _ (by omega), by
      rw [hU]
      have hlt := HLT.out
      repeat (with_reducible refine Below.setCell ?_ (by simp only; omega) _)
      exact HS5.out.bel⟩)
    obtain ⟨f0, f1, f2, f3, f4, f5, f6, f7, f8, f9, f10⟩ := hx5.frozen
    obtain ⟨x0, x1, x2, x3, x4, x5, x6, x7, x8, x9, x10⟩ := hx5.cells
    obtain ⟨y0, y1, y2, y3, y4, y5, y6, y7, y8, y9, y10⟩ := HS5.out.h.cells
    obtain ⟨s0, s1, s2, s3, s4, s5, s6, s7, s8, s9, s10⟩ := HSU.out.h.cells
    obtain ⟨z0, z1, z2, z3, z4, z5, z6, z7, z8, z9, z10⟩ := HXU.out.cells
    rw [hU] at z0 z1 z2 z3 z4 z5 z6 z7 z8 z9 z10 s0 s1 s2 s3 s4 s5 s6 s7 s8 s9 s10
    have heq := HEG.out
    have HU := Lib.hid hU
    have HLS := HSU
    clear hU hx5
    obtain ⟨q, hq0⟩ : ∃ q, q = V5.heap.size := ⟨_, rfl⟩
    have hq : q = U.heap.size := by rw [hq0, HU.out]; simp
    obtain ⟨VL, hVL⟩ : ∃ V, V = U.alloc (.cells #[.int .i64 g.wid, .int .i64 g.set, .int .u32 g.ent, .int .i64 g.hops, .int .i64 g.src, .int .i64 g.grp, .int .u32 g.id, .int .u64 g.bits.a, .int .u64 g.bits.b, .int .u64 g.bits.c, .int .u64 g.bits.d] 27) := ⟨_, rfl⟩
    have hbV : Below U.heap.size U VL := by rw [hVL]; exact (Below.refl _ _).alloc (Nat.le_refl _) _
    have HL0 := Lib.hid (show KpRel W g q N (.int .i64 0) VL from ⟨0, N, rfl, by omega, HLS.out.later hbV, by rw [← HNN.out, hVL, hq]; exact heap_alloc_new _ _, by
      have h1 := HLS.out.h
      rw [hq]
      exact (Array.getElem?_eq_some_iff.1 h1).1⟩)
    have HVL := Lib.hid hVL
    have HQQ := Lib.hid hq0
    clear hbV hVL hq hq0
    go_wp2_with fail
    rw [← HU.out]
    rw [← HVL.out, ← HQQ.out]
    clear y0 y1 y2 y3 y4 y5 y6 y7 y8 y9 y10 z0 z1 z2 z3 z4 z5 z6 z7 z8 z9 z10 f0 f1 f2 f3 f4 f5 f6 f7 f8 f9 f10 x0 x1 x2 x3 x4 x5 x6 x7 x8 x9 x10 s0 s1 s2 s3 s4 s5 s6 s7 s8 s9 s10 heq
    go_loopw [8] (fun i wr => KpRel W g q N i wr) (fun i _ => 20 - (intOf i).toNat)
    case atStart => exact HL0.out
    case round =>
      obtain ⟨k, n, rfl, hkn, hs⟩ := hrel
      obtain ⟨y0, y1, y2, y3, y4, y5, y6, y7, y8, y9, y10⟩ := hs.b.h.cells
      cases n with
      | zero =>
        have hd : decide ((k : Int) < g.hops) = false := decide_eq_false (by have := HNN.out; omega)
        have hl : BoxV q g.wid g.set g.ent (0) g.src g.grp g.id g.bits.a g.bits.b g.bits.c g.bits.d wr := hs.l
        obtain ⟨z0, z1, z2, z3, z4, z5, z6, z7, z8, z9, z10⟩ := hl.cells
        have HSS := Lib.hid hs.b
        clear hs hl hkn
        go_wp2_with fail
        refine (HH0.out _).mono ?_
        rintro e V8 ⟨rfl, hb⟩
        have HS8 := Lib.hid (HSS.out.later hb)
        clear hb
        go_wp2_with fail
        refine (works_any _).mono ?_
        rintro e V9 ⟨rfl, hb⟩
        have HS9 := Lib.hid (HS8.out.later hb)
        clear hb
        go_wp2_with fail
        go_returns
        exact ⟨rfl, HS9.out.bel⟩
      | succ m =>
        have hd : decide ((k : Int) < g.hops) = true := decide_eq_true (by have := HNN.out; omega)
        have hl : BoxV q g.wid g.set g.ent ((m : Int) + 1) g.src g.grp g.id g.bits.a g.bits.b g.bits.c g.bits.d wr := hs.l
        obtain ⟨z0, z1, z2, z3, z4, z5, z6, z7, z8, z9, z10⟩ := hl.cells
        have HSS := Lib.hid hs
        have HKN := Lib.hid hkn
        have HM := Lib.hid (HHP.out m (by omega))
        have heq := HEQ.out ((m : Int) + 1) ⟨by omega, by omega⟩
        have hm1 : IntKind.i64.wrap ((m : Int) + 1 - 1) = (m : Int) := by rw [Int.add_sub_cancel]; exact IntWalk.i64_in _ (by omega)
        have hm2 : IntKind.i64.wrap (m : Int) = (m : Int) := IntWalk.i64_in _ (by omega)
        have hk1 : IntKind.i64.wrap ((k : Int) + 1) = (k : Int) + 1 := IntWalk.i64_in _ (by omega)
        clear hs hl hkn
        go_wp2_with fail
        refine (HM.out _).mono ?_
        rintro e V8 ⟨rfl, hb⟩
        have HS8 := Lib.hid (HSS.out.later hb)
        clear hb y0 y1 y2 y3 y4 y5 y6 y7 y8 y9 y10 z0 z1 z2 z3 z4 z5 z6 z7 z8 z9 z10
        obtain ⟨VA, hVA⟩ : ∃ V, V = V8.alloc (.cells #[.int .i64 g.wid, .int .i64 g.set, .int .u32 g.ent, .int .i64 m, .int .i64 g.src, .int .i64 g.grp, .int .u32 g.id, .int .u64 g.bits.a, .int .u64 g.bits.b, .int .u64 g.bits.c, .int .u64 g.bits.d] 27) := ⟨_, rfl⟩
        have hbA : Below V8.heap.size V8 VA := by rw [hVA]; exact (Below.refl _ _).alloc (Nat.le_refl _) _
        have hlA : BoxV q g.wid g.set g.ent ((m : Int) + 1) g.src g.grp g.id g.bits.a g.bits.b g.bits.c g.bits.d VA := (HS8.out.later hbA).l
        obtain ⟨x0, x1, x2, x3, x4, x5, x6, x7, x8, x9, x10⟩ := hlA.cells
        rw [hVA] at x0 x1 x2 x3 x4 x5 x6 x7 x8 x9 x10
        clear hVA hbA hlA
        obtain ⟨V9, hV9⟩ : ∃ V, V = V8.alloc (.cells #[.int .i64 g.wid, .int .i64 g.set, .int .u32 g.ent, .int .i64 ((m : Int) + 1), .int .i64 g.src, .int .i64 g.grp, .int .u32 g.id, .int .u64 g.bits.a, .int .u64 g.bits.b, .int .u64 g.bits.c, .int .u64 g.bits.d] 27) := ⟨_, rfl⟩
        have hb9 : Below V8.heap.size V8 V9 := by rw [hV9]; exact (Below.refl _ _).alloc (Nat.le_refl _) _
        have hs9 : KpS W g q ((m + 1 : Nat) : Int) V9 := HS8.out.later hb9
        have hl9 : BoxV q g.wid g.set g.ent ((m : Int) + 1) g.src g.grp g.id g.bits.a g.bits.b g.bits.c g.bits.d V9 := hs9.l
        have HREL := Lib.hid (show KpRel W g q N (.int .i64 ((k : Int) + 1)) (V9.setCell ⟨q, 3, none⟩ (.int .i64 m)) from ⟨k + 1, m, rfl, by have := HKN.out; omega, ⟨hs9.b.h.other _ _ _ (by have := hs9.lt; omega), hs9.b.bel.setCell (by have := hs9.lt; simp only; omega) _⟩, hl9.set3 _, hs9.lt⟩)
        have hl8 : BoxV q g.wid g.set g.ent ((m : Int) + 1) g.src g.grp g.id g.bits.a g.bits.b g.bits.c g.bits.d V8 := HS8.out.l
        obtain ⟨y0, y1, y2, y3, y4, y5, y6, y7, y8, y9, y10⟩ := hl8.cells
        obtain ⟨f0, f1, f2, f3, f4, f5, f6, f7, f8, f9, f10⟩ := hl8.frozen
        obtain ⟨z0, z1, z2, z3, z4, z5, z6, z7, z8, z9, z10⟩ := hl9.cells
        obtain ⟨g0, g1, g2, g3, g4, g5, g6, g7, g8, g9, g10⟩ := hl9.frozen
        rw [hV9] at z0 z1 z2 z3 z4 z5 z6 z7 z8 z9 z10 g0 g1 g2 g3 g4 g5 g6 g7 g8 g9 g10
        have HV9 := Lib.hid hV9
        clear hV9 hb9 hs9 hl9 hl8
        go_wp2_with fail
        case roundEnd =>
          rw [← HV9.out]
          refine ⟨HREL.out, ?_⟩
          have h1 := HKN.out
          clear HREL HV9
          simp only [intOf]
          omega
  · have hbf : below b g.wid = false := by simpa using hbw
    have hwe : withV g b = Hd.zero ∧ withE g b = 3 := ⟨by rw [withV, if_neg (fun q => hbw q.2)], by rw [withE, if_pos HGC.out, if_neg hbw]⟩
    rw [hwe.1, hwe.2] at HWI
    rw [hbf] at HBE
    have HWI2 := Lib.hid (show GC 23 #[.agg #[.int .i64 g.wid, .int .i64 g.set, .int .u32 g.ent, .int .i64 g.hops, .int .i64 g.src, .int .i64 g.grp, .int .u32 g.id, .int .u64 g.bits.a, .int .u64 g.bits.b, .int .u64 g.bits.c, .int .u64 g.bits.d], .agg #[.int .u64 b.a, .int .u64 b.b, .int .u64 b.c, .int .u64 b.d]] (.tuple #[.agg #[.int .i64 0, .int .i64 0, .int .u32 0, .int .i64 0, .int .i64 0, .int .i64 0, .int .u32 0, .int .u64 0, .int .u64 0, .int .u64 0, .int .u64 0], .int .i64 3]) from HWI.out)
    clear hwe hbw hbf HWI
    refine (HWI2.out _).mono ?_
    rintro e V3 ⟨rfl, hb⟩
    have HS3 := Lib.hid (HS2.out.later hb)
    have HT3 := Lib.hid (HBT2.out.later hb)
    clear hb
    obtain ⟨V4, hV4⟩ : ∃ V, V = V3.alloc (.cells #[.int .i64 0, .int .i64 0, .int .u32 0, .int .i64 0, .int .i64 0, .int .i64 0, .int .u32 0, .int .u64 0, .int .u64 0, .int .u64 0, .int .u64 0] 27) := ⟨_, rfl⟩
    have hbV : Below V3.heap.size V3 V4 := by rw [hV4]; exact (Below.refl _ _).alloc (Nat.le_refl _) _
    have HS4 := Lib.hid (HS3.out.later hbV)
    have HT4 := Lib.hid (HT3.out.later hbV)
    obtain ⟨y0, y1, y2, y3, y4, y5, y6, y7, y8, y9, y10⟩ := HS4.out.h.cells
    obtain ⟨b0, b1, b2, b3⟩ := HT4.out.cells
    rw [hV4] at y0 y1 y2 y3 y4 y5 y6 y7 y8 y9 y10 b0 b1 b2 b3
    have HV4 := Lib.hid hV4
    clear hbV hV4
    go_wp2_with fail
    rw [← HV4.out]
    clear y0 y1 y2 y3 y4 y5 y6 y7 y8 y9 y10 b0 b1 b2 b3
    refine (HBE.out _).mono ?_
    rintro e V5 ⟨rfl, hb⟩
    have HLS := Lib.hid (HS4.out.later hb)
    clear hb
    obtain ⟨y0, y1, y2, y3, y4, y5, y6, y7, y8, y9, y10⟩ := HLS.out.h.cells
    obtain ⟨q, hq0⟩ : ∃ q, q = V5.heap.size := ⟨_, rfl⟩
    have hq : q = V5.heap.size := by exact hq0
    obtain ⟨VL, hVL⟩ : ∃ V, V = V5.alloc (.cells #[.int .i64 g.wid, .int .i64 g.set, .int .u32 g.ent, .int .i64 g.hops, .int .i64 g.src, .int .i64 g.grp, .int .u32 g.id, .int .u64 g.bits.a, .int .u64 g.bits.b, .int .u64 g.bits.c, .int .u64 g.bits.d] 27) := ⟨_, rfl⟩
    have hbV : Below V5.heap.size V5 VL := by rw [hVL]; exact (Below.refl _ _).alloc (Nat.le_refl _) _
    have HL0 := Lib.hid (show KpRel W g q N (.int .i64 0) VL from ⟨0, N, rfl, by omega, HLS.out.later hbV, by rw [← HNN.out, hVL, hq]; exact heap_alloc_new _ _, by
      have h1 := HLS.out.h
      rw [hq]
      exact (Array.getElem?_eq_some_iff.1 h1).1⟩)
    have HVL := Lib.hid hVL
    have HQQ := Lib.hid hq0
    clear hbV hVL hq hq0
    go_wp2_with fail
    rw [← HVL.out, ← HQQ.out]
    clear y0 y1 y2 y3 y4 y5 y6 y7 y8 y9 y10
    go_loopw [8] (fun i wr => KpRel W g q N i wr) (fun i _ => 20 - (intOf i).toNat)
    case atStart => exact HL0.out
    case round =>
      obtain ⟨k, n, rfl, hkn, hs⟩ := hrel
      obtain ⟨y0, y1, y2, y3, y4, y5, y6, y7, y8, y9, y10⟩ := hs.b.h.cells
      cases n with
      | zero =>
        have hd : decide ((k : Int) < g.hops) = false := decide_eq_false (by have := HNN.out; omega)
        have hl : BoxV q g.wid g.set g.ent (0) g.src g.grp g.id g.bits.a g.bits.b g.bits.c g.bits.d wr := hs.l
        obtain ⟨z0, z1, z2, z3, z4, z5, z6, z7, z8, z9, z10⟩ := hl.cells
        have HSS := Lib.hid hs.b
        clear hs hl hkn
        go_wp2_with fail
        refine (HH0.out _).mono ?_
        rintro e V8 ⟨rfl, hb⟩
        have HS8 := Lib.hid (HSS.out.later hb)
        clear hb
        go_wp2_with fail
        refine (works_any _).mono ?_
        rintro e V9 ⟨rfl, hb⟩
        have HS9 := Lib.hid (HS8.out.later hb)
        clear hb
        go_wp2_with fail
        go_returns
        exact ⟨rfl, HS9.out.bel⟩
      | succ m =>
        have hd : decide ((k : Int) < g.hops) = true := decide_eq_true (by have := HNN.out; omega)
        have hl : BoxV q g.wid g.set g.ent ((m : Int) + 1) g.src g.grp g.id g.bits.a g.bits.b g.bits.c g.bits.d wr := hs.l
        obtain ⟨z0, z1, z2, z3, z4, z5, z6, z7, z8, z9, z10⟩ := hl.cells
        have HSS := Lib.hid hs
        have HKN := Lib.hid hkn
        have HM := Lib.hid (HHP.out m (by omega))
        have heq := HEQ.out ((m : Int) + 1) ⟨by omega, by omega⟩
        have hm1 : IntKind.i64.wrap ((m : Int) + 1 - 1) = (m : Int) := by rw [Int.add_sub_cancel]; exact IntWalk.i64_in _ (by omega)
        have hm2 : IntKind.i64.wrap (m : Int) = (m : Int) := IntWalk.i64_in _ (by omega)
        have hk1 : IntKind.i64.wrap ((k : Int) + 1) = (k : Int) + 1 := IntWalk.i64_in _ (by omega)
        clear hs hl hkn
        go_wp2_with fail
        refine (HM.out _).mono ?_
        rintro e V8 ⟨rfl, hb⟩
        have HS8 := Lib.hid (HSS.out.later hb)
        clear hb y0 y1 y2 y3 y4 y5 y6 y7 y8 y9 y10 z0 z1 z2 z3 z4 z5 z6 z7 z8 z9 z10
        obtain ⟨VA, hVA⟩ : ∃ V, V = V8.alloc (.cells #[.int .i64 g.wid, .int .i64 g.set, .int .u32 g.ent, .int .i64 m, .int .i64 g.src, .int .i64 g.grp, .int .u32 g.id, .int .u64 g.bits.a, .int .u64 g.bits.b, .int .u64 g.bits.c, .int .u64 g.bits.d] 27) := ⟨_, rfl⟩
        have hbA : Below V8.heap.size V8 VA := by rw [hVA]; exact (Below.refl _ _).alloc (Nat.le_refl _) _
        have hlA : BoxV q g.wid g.set g.ent ((m : Int) + 1) g.src g.grp g.id g.bits.a g.bits.b g.bits.c g.bits.d VA := (HS8.out.later hbA).l
        obtain ⟨x0, x1, x2, x3, x4, x5, x6, x7, x8, x9, x10⟩ := hlA.cells
        rw [hVA] at x0 x1 x2 x3 x4 x5 x6 x7 x8 x9 x10
        clear hVA hbA hlA
        obtain ⟨V9, hV9⟩ : ∃ V, V = V8.alloc (.cells #[.int .i64 g.wid, .int .i64 g.set, .int .u32 g.ent, .int .i64 ((m : Int) + 1), .int .i64 g.src, .int .i64 g.grp, .int .u32 g.id, .int .u64 g.bits.a, .int .u64 g.bits.b, .int .u64 g.bits.c, .int .u64 g.bits.d] 27) := ⟨_, rfl⟩
        have hb9 : Below V8.heap.size V8 V9 := by rw [hV9]; exact (Below.refl _ _).alloc (Nat.le_refl _) _
        have hs9 : KpS W g q ((m + 1 : Nat) : Int) V9 := HS8.out.later hb9
        have hl9 : BoxV q g.wid g.set g.ent ((m : Int) + 1) g.src g.grp g.id g.bits.a g.bits.b g.bits.c g.bits.d V9 := hs9.l
        have HREL := Lib.hid (show KpRel W g q N (.int .i64 ((k : Int) + 1)) (V9.setCell ⟨q, 3, none⟩ (.int .i64 m)) from ⟨k + 1, m, rfl, by have := HKN.out; omega, ⟨hs9.b.h.other _ _ _ (by have := hs9.lt; omega), hs9.b.bel.setCell (by have := hs9.lt; simp only; omega) _⟩, hl9.set3 _, hs9.lt⟩)
        have hl8 : BoxV q g.wid g.set g.ent ((m : Int) + 1) g.src g.grp g.id g.bits.a g.bits.b g.bits.c g.bits.d V8 := HS8.out.l
        obtain ⟨y0, y1, y2, y3, y4, y5, y6, y7, y8, y9, y10⟩ := hl8.cells
        obtain ⟨f0, f1, f2, f3, f4, f5, f6, f7, f8, f9, f10⟩ := hl8.frozen
        obtain ⟨z0, z1, z2, z3, z4, z5, z6, z7, z8, z9, z10⟩ := hl9.cells
        obtain ⟨g0, g1, g2, g3, g4, g5, g6, g7, g8, g9, g10⟩ := hl9.frozen
        rw [hV9] at z0 z1 z2 z3 z4 z5 z6 z7 z8 z9 z10 g0 g1 g2 g3 g4 g5 g6 g7 g8 g9 g10
        have HV9 := Lib.hid hV9
        clear hV9 hb9 hs9 hl9 hl8
        go_wp2_with fail
        case roundEnd =>
          rw [← HV9.out]
          refine ⟨HREL.out, ?_⟩
          have h1 := HKN.out
          clear HREL HV9
          simp only [intOf]
          omega

end Go.Proofs.Ytbcgfojdlehnpaa
