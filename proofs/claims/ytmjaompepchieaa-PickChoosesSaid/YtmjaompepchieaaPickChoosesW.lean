/- The walk of the law PickChooses. -/
import Derived.Test.YtmjaompepchieaaPkO
import Derived.Test.YtmjaompepchieaaPkRR
set_option linter.unusedSimpArgs false
set_option linter.unusedVariables false
namespace Go.Proofs.Ytmjaompepchieaa
open Go.RowKit Go.ChangeShapes Go.WideShapes Go.Sort

theorem Lst.set_ {W : World} {g off n cap : Nat} {l : List Int} (h : Lst W (.slice (some ⟨g, off, none⟩) n cap) l) {j : Nat} (hj : j < l.length) (y : Int) : Lst (W.setCell ⟨g, off + j, none⟩ (.int .i64 y)) (.slice (some ⟨g, off, none⟩) n cap) (l.set j y) := by
  obtain ⟨g', off', cap', he, h0, h1, h2, h3, h4⟩ := h.form (by omega)
  simp only [Value.slice.injEq, Option.some.injEq, Addr.mk.injEq, and_true] at he
  obtain ⟨⟨rfl, rfl⟩, rfl, rfl⟩ := he
  refine .inr ⟨g, off, cap, by rw [List.length_set], by rw [List.length_set]; exact h0, by rw [List.length_set]; exact h1, h2, by simpa using h3, fun i hi => ?_⟩
  rw [List.length_set] at hi
  by_cases hij : j = i
  · subst hij
    refine ⟨?_, by simpa using (h4 j hi).2⟩
    rw [World.cell?_setCell_same _ _ _ (h4 j hi).1]
    simp [List.getD_eq_getElem?_getD, hi]
  · refine ⟨?_, by simpa using (h4 i hi).2⟩
    rw [World.cell?_setCell_other _ _ _ _ (by simp only [ne_eq, Addr.mk.injEq, and_true, true_and]; omega), (h4 i hi).1]
    simp [List.getD_eq_getElem?_getD, List.getElem?_set_ne hij]
theorem Lst.aside {W : World} {v : Value} {l : List Int} (h : Lst W v l) {a : Addr} (hne : ∀ k, v.ownBlock = some k → k ≠ a.block) (u : Value) : Lst (W.setCell a u) v l := by
  rcases h with h | ⟨g, off, cap, rfl, h0, h1, h2, h3, h4⟩
  · exact .inl h
  · have hg : g ≠ a.block := hne g rfl
    refine .inr ⟨g, off, cap, rfl, h0, h1, h2, by simpa using h3, fun i hi => ⟨?_, by simpa using (h4 i hi).2⟩⟩
    rw [World.cell?_setCell_other _ _ _ _ (by intro h; exact hg (by rw [h])), (h4 i hi).1]
theorem Lst.lt {W : World} {v : Value} {l : List Int} (h : Lst W v l) : ∀ k, v.ownBlock = some k → k < W.heap.size := by
  rcases h with ⟨rfl, _⟩ | ⟨g, off, cap, rfl, h0, h1, h2, h3, h4⟩
  · intro k hk; simp [Value.ownBlock] at hk
  · intro k hk; simp [Value.ownBlock] at hk; omega

/-- The zeroing of what Rank answered: its row, the other's, and what lay before both. -/
def ZrRel (V3 : World) (cv dv : Value) (r : List Int) (p : Nat) (i : Value) (wr : World) : Prop := ∃ k : Nat, i = .int .i64 k ∧ k ≤ p ∧ (∃ l' : List Int, l'.length = p ∧ Lst wr cv l') ∧ Lst wr dv r ∧ Below V3.heap.size V3 wr

set_option maxRecDepth 100000 in
set_option maxHeartbeats 12800000 in
theorem pickChooses_nat (e : Nat) (x : Option Addr × Nat × List Int) (n : Int) (W : World) (he : e < 4294967296) (hx : ArgL W x) : Calls Try.prog 3 #[.int .u32 e, .slice x.1 x.2.2.length x.2.1, .int .i64 n] W fun e W' => e = .returned (.bool true) ∧ Below W.heap.size W W' := by
  obtain ⟨hs1, hs2⟩ := hx.shape
  obtain ⟨a, cap, l⟩ := x
  simp only at hs1 hs2 ⊢
  obtain ⟨m, hm⟩ : ∃ m, m = l.length := ⟨_, rfl⟩
  rw [← hm] at hs1 ⊢
  obtain ⟨k, hk⟩ : ∃ k, k = min m 100 := ⟨_, rfl⟩
  have HL := Lib.hid (show Lst W (.slice a k cap) (l.take k) from hx.cut (by simp only; omega) (by omega))
  have HZK := Lib.hid (show (l.take k).length = k by rw [List.length_take]; omega)
  have hmin : min (m : Int) 100 = (k : Int) := by omega
  have hkm : k ≤ m := by omega
  have hk100 : k ≤ 100 := by omega
  clear hm hk hx
  obtain ⟨z, hz⟩ : ∃ z, z = l.take k := ⟨_, rfl⟩
  rw [← hz] at HL HZK
  clear hz
  have HCH := Lib.hid (show ∀ (V : World) v, Lst V v z → Calls Try.prog 9 #[.int .u32 e, v] V (NE V (chz e z).1 (chz e z).2) from fun V v h => (choose_any e z v V he h).mono fun x X h => NE.of (Below.refl _ _) h rfl)
  have HRC := Lib.hid (show ∀ (V : World) v, Lst V v z → Calls Try.prog 10 #[.int .u32 e, v] V (NE V (chz e z).1 (chz e z).2) from fun V v h => (rchoose_any e z v V he h).mono fun x X ⟨h1, q, h2⟩ => ⟨h1, by rw [h2]; exact ⟨rfl, rfl, rfl, Nat.le_refl _, fun _ _ => rfl⟩⟩)
  have HRK := Lib.hid (fun (V : World) v (h : Lst V v z) => prank_any stab40 e z v V he h (fun hn => by have := nbs_24 hn; omega))
  have HRR := Lib.hid (fun (V : World) v (h : Lst V v z) => rrank_any e z v V he h)
  have HMX := Lib.hid (fun V => mix_any e n V he)
  have HRM := Lib.hid (fun V => rmix_any e n V he)
  obtain ⟨⟨ch, ce⟩, hch⟩ : ∃ u, u = chz e z := ⟨_, rfl⟩
  obtain ⟨⟨r, re⟩, hr⟩ : ∃ u, u = rkz e z := ⟨_, rfl⟩
  obtain ⟨kx, hkx⟩ : ∃ u, u = key e n := ⟨_, rfl⟩
  rw [← hch] at HCH HRC
  rw [← hr] at HRK HRR
  rw [← hkx] at HMX HRM
  simp only at HCH HRC HRK HRR
  clear hch hr hkx
  obtain ⟨i0, hi, hz0, hz1, hz2⟩ := info_parts infoI
  go_enter Try.func3, Try.ntmps3
  go_wp2_with (at_builtin; refine wpList_append_lst rfl (.tmp 23) (.tmp 24) 23 rfl 3 i0 (.int .i64 0) Try.underlying23 hi hz0 hz1 hz2 rfl _ z rfl rfl HL.out ?_)
  intro v1 w1 hrow1 hb1
  rw [HZK.out] at hrow1
  have HR1 := Lib.hid hrow1
  have HB1 := Lib.hid hb1
  have HG1 := Lib.hid hb1.size
  clear hrow1 hb1
  go_wp2_with (at_builtin; refine wpList_append_one2 rfl (.tmp 25) (.tmp 26) 23 rfl W.heap.size 3 i0 (.int .i64 0) 8 Try.underlying23 hi hz0 hz1 hz2 rfl _ _ _ _ HR1.out rfl rfl rfl ?c3 ?c4 HG1.out ?_)
  case c3 => unfold maxLen; omega
  case c4 => omega
  intro v2 V2 hrow2 hg2 hb2
  have HB2 := Lib.hid (below_one HB1.out HG1.out hg2 fun j hj => (HR1.out.lt j hj).1)
  obtain ⟨g, c, rfl, hge, hglt, hkc, hcm, hcells, hfr⟩ := Row.form hrow2 (by omega)
  have H77 := Lib.hid (show V2.cell? ⟨g, k, none⟩ = some (.int .i64 77) by
    rw [hcells k (by omega), List.getElem?_append_right (by simp [ints, HZK.out])]
    simp [ints, HZK.out])
  have HGL := Lib.hid hglt
  have HIN := Lib.hid (show Lst V2 (.slice (some ⟨g, 0, none⟩) k c) z from .inr ⟨g, 0, c, by rw [HZK.out], by rw [HZK.out]; omega, by rw [HZK.out]; omega, hcm, hglt, fun j hj => by
    rw [HZK.out] at hj
    rw [Nat.zero_add]
    refine ⟨?_, hfr j (by omega)⟩
    rw [hcells j (by omega), List.getElem?_append_left (by simp only [ints, List.length_map, HZK.out]; exact hj)]
    unfold ints
    rw [List.getElem?_map, List.getD_eq_getElem?_getD, List.getElem?_eq_getElem (by rw [HZK.out]; exact hj)]
    rfl⟩)
  have HK := Lib.hid (show Kn W V2 [(.slice (some ⟨g, 0, none⟩) k c, z), (.slice a k cap, z)] from ((⟨HB2.out, by simp⟩ : Kn W V2 []).more (HL.out.later HB2.out)).more HIN.out)
  have HC77 := Lib.hid (show ∀ V, Below V2.heap.size V2 V → V.cell? ⟨g, k, none⟩ = some (.int .i64 77) from fun V hb => (below_cell hb ⟨g, k, none⟩ HGL.out).trans H77.out)
  have HBV2 := Lib.hid (Below.refl V2.heap.size V2)
  clear hrow2 hg2 hb2 hge hglt hcells hfr hi hz0 hz1 hz2 H77 HIN HL
  go_wp2_with fail
  refine (HCH.out V2 _ HK.out.head).mono ?_
  rintro x Va ⟨rfl, h2⟩
  have HKa := Lib.hid (HK.out.later h2)
  have HBa := Lib.hid h2
  clear h2 HK
  go_wp2_with fail
  refine (HRC.out Va _ HKa.out.tail.head).mono ?_
  rintro x V3 ⟨rfl, h2⟩
  have HK3 := Lib.hid (HKa.out.later h2)
  have HB3 := Lib.hid (HBa.out.trans (h2.mono HBa.out.size))
  clear h2 HKa HBa
  go_wp2_with fail
  refine (HRK.out V3 _ HK3.out.head).mono ?_
  rintro x V4 ⟨cv, rfl, h1, h2⟩
  have HC4 := Lib.hid h1
  have HB4 := Lib.hid h2
  have HK4 := Lib.hid (HK3.out.later h2)
  obtain ⟨ac, cc, rfl, _, _, _⟩ := h1.1.shape
  clear h1 h2
  go_wp2_with fail
  refine (HRR.out V4 _ HK4.out.tail.head).mono ?_
  rintro x V5 ⟨dv, rfl, h1, h2⟩
  have HD5 := Lib.hid h1
  have HC5 := Lib.hid (HC4.out.1.later h2)
  have HB5 := Lib.hid (HB4.out.trans (h2.mono HB4.out.size))
  obtain ⟨ad, cd, rfl, _, _, _⟩ := h1.1.shape
  clear h1 h2
  obtain ⟨p, hp⟩ : ∃ p, p = r.length := ⟨_, rfl⟩
  have HPP := Lib.hid hp
  have hp1000 : p ≤ 1000 := by rw [hp]; obtain ⟨_, _, _, h, _⟩ := HD5.out.1.shape; exact h
  have HS := Lib.hid (show Calls Try.prog 13 #[.slice ac p cc, .slice ad p cd] V5 (SE V5 true) from by
    rw [HPP.out]
    exact (rsame_any r r _ _ V5 HC5.out HD5.out.1).mono fun x X h => SE.of (Below.refl _ _) (by rw [decide_eq_true rfl] at h; exact h))
  rw [← hp]
  clear hp
  go_wp2_with fail
  refine HS.out.mono ?_
  rintro x V6 ⟨rfl, h2⟩
  have HB6 := Lib.hid (HB5.out.trans (h2.mono HB5.out.size))
  have HC6 := Lib.hid (HC5.out.later h2)
  have HD6 := Lib.hid (HD5.out.1.later h2)
  clear h2 HS HC5
  go_wp2_with fail
  refine (HMX.out V6).mono ?_
  rintro x X6 ⟨rfl, rfl⟩
  go_wp2_with fail
  refine (HRM.out V6).mono ?_
  rintro x X6 ⟨rfl, rfl⟩
  have H0 := Lib.hid (show ZrRel V3 (.slice ac p cc) (.slice ad p cd) r p (.int .i64 0) V6 from ⟨0, rfl, Nat.zero_le _, ⟨r, HPP.out.symm, by rw [HPP.out]; exact HC6.out⟩, by rw [HPP.out]; exact HD6.out, HB6.out⟩)
  have HNE := Lib.hid (show ∀ gc offc, ac = some ⟨gc, offc, none⟩ → ∀ kk, (Value.slice ad p cd).ownBlock = some kk → V3.heap.size ≤ gc ∧ kk ≠ gc from fun gc offc hac kk hkk => by
    subst hac
    have k1 := HC4.out.2 gc rfl
    have k2 := HC4.out.1.lt gc rfl
    have k3 := HD5.out.2 kk (by rw [← HPP.out]; exact hkk)
    omega)
  have HNB := Lib.hid (show ∀ gc offc, ac = some ⟨gc, offc, none⟩ → V3.heap.size ≤ gc from fun gc offc hac => by
    subst hac
    exact HC4.out.2 gc rfl)
  clear HB6 HC6 HD6 HB5 HD5 HC4 HB4 HK4
  go_wp2_with fail
  go_loopw [16] (fun i wr => ZrRel V3 (.slice ac p cc) (.slice ad p cd) r p i wr) (fun i _ => p - (intOf i).toNat)
  case atStart => exact H0.out
  case round =>
    clear H0
    obtain ⟨j, rfl, hj, ⟨l', hl', hcl⟩, hdl, hbel⟩ := hrel
    have HCL := Lib.hid hcl
    have HDL := Lib.hid hdl
    have HBEL := Lib.hid hbel
    have HLL := Lib.hid hl'
    clear hl' hcl hdl hbel
    by_cases hlt : j < p
    · have hlz : decide ((j : Int) < (p : Int)) = true := decide_eq_true (by omega)
      obtain ⟨gc, offc, hac, hcj, hfj⟩ : ∃ gc offc, ac = some ⟨gc, offc, none⟩ ∧ wr.cell? ⟨gc, offc + j, none⟩ = some (.int .i64 (l'.getD j 0)) ∧ wr.frozen? ⟨gc, offc + j, none⟩ = false := by
        obtain ⟨gc, offc, c', he', _, _, _, _, hcells⟩ := HCL.out.form (by rw [HLL.out]; omega)
        exact ⟨gc, offc, by simp at he'; exact he'.1, (hcells j (by rw [HLL.out]; exact hlt)).1, (hcells j (by rw [HLL.out]; exact hlt)).2⟩
      have HREL := Lib.hid (show ZrRel V3 (.slice ac p cc) (.slice ad p cd) r p (.int .i64 ((j : Int) + 1)) (wr.setCell ⟨gc, offc + j, none⟩ (.int .i64 0)) from
        ⟨j + 1, by rw [show (j : Int) + 1 = ((j + 1 : Nat) : Int) from by simp], by omega, ⟨l'.set j 0, by rw [List.length_set]; exact HLL.out, by
          have h := HCL.out
          rw [hac] at h ⊢
          exact h.set_ (by rw [HLL.out]; exact hlt) 0⟩, HDL.out.aside (fun kk hkk => (HNE.out gc offc hac kk hkk).2) _, HBEL.out.setCell (HNB.out gc offc hac) _⟩)
      obtain ⟨y, hy⟩ : ∃ y, y = l'.getD j 0 := ⟨_, rfl⟩
      rw [← hy] at hcj
      subst hac
      clear hy
      go_wp2_with fail
      go_roundw
      case rel => first | exact HREL.out | exact ⟨_, HREL.out, rfl⟩ | ((repeat apply Exists.intro); exact ⟨HREL.out, rfl⟩)
      case measure => simp [intOf]; omega
    · obtain rfl : j = p := by omega
      have hlz : decide ((j : Int) < (j : Int)) = false := decide_eq_false (by omega)
      have HK7 := Lib.hid ((HK3.out.later HBEL.out).more (by have := HDL.out; rw [HPP.out] at this; exact this))
      have HB7 := Lib.hid (HB3.out.trans (HBEL.out.mono HB3.out.size))
      clear hlt hj
      go_wp2_with fail
      refine (HRK.out wr _ HK7.out.tail.head).mono ?_
      rintro x V8 ⟨av, rfl, h1, h2⟩
      have HK8 := Lib.hid ((HK7.out.later h2).more h1.1)
      have HB8 := Lib.hid (HB7.out.trans (h2.mono HB7.out.size))
      obtain ⟨aa, ca, rfl, _, _, _⟩ := h1.1.shape
      clear h1 h2 HK7 HB7
      rw [← HPP.out] at HK8 ⊢
      have HS1 := Lib.hid (show Calls Try.prog 13 #[.slice aa j ca, .slice ad j cd] V8 (SE V8 true) from
        (rsame_any r r _ _ V8 HK8.out.head HK8.out.tail.head).mono fun x X h => SE.of (Below.refl _ _) (by rw [decide_eq_true rfl] at h; exact h))
      go_wp2_with fail
      refine HS1.out.mono ?_
      rintro x V9 ⟨rfl, h2⟩
      have HK9 := Lib.hid (HK8.out.later h2)
      have HB9 := Lib.hid (HB8.out.trans (h2.mono HB8.out.size))
      clear h2 HK8 HB8
      have HS2 := Lib.hid (show Calls Try.prog 13 #[.slice (some ⟨g, 0, none⟩) k c, .slice a k cap] V9 (SE V9 true) from
        (rsame_any z z _ _ V9 HK9.out.tail.tail.head HK9.out.tail.tail.tail.head).mono fun x X h => SE.of (Below.refl _ _) (by rw [decide_eq_true rfl] at h; exact h))
      go_wp2_with fail
      refine HS2.out.mono ?_
      rintro x V10 ⟨rfl, h2⟩
      have HK10 := Lib.hid (HK9.out.later h2)
      have c77 := HC77.out V10 (HB9.out.trans (h2.mono HB9.out.size))
      clear h2 HK9 HB9
      go_wp2_with fail
      refine (works_any _).mono ?_
      rintro x V11 ⟨rfl, h2⟩
      have HK11 := Lib.hid (HK10.out.later h2)
      clear h2 HK10
      go_wp2_with fail
      go_returns
      exact ⟨rfl, HK11.out.bel⟩

theorem pickChooses_walk (e : Int) (x : Option Addr × Nat × List Int) (n : Int) (W : World) (he : 0 ≤ e ∧ e ≤ 4294967295) (hx : ArgL W x) (hn : -9223372036854775808 ≤ n ∧ n ≤ 9223372036854775807) : Calls Try.prog 3 #[.int .u32 e, .slice x.1 x.2.2.length x.2.1, .int .i64 n] W fun e W' => e = .returned (.bool true) ∧ Below W.heap.size W W' := by
  obtain ⟨k, rfl⟩ : ∃ k : Nat, e = k := ⟨e.toNat, by omega⟩
  exact pickChooses_nat k x n W (by omega) hx

end Go.Proofs.Ytmjaompepchieaa
