/- Contract of the program's Spread. -/
import Derived.Test.YtmjaompepchieaaPkS
set_option linter.unusedSimpArgs false
set_option linter.unusedVariables false
namespace Go.Proofs.Ytmjaompepchieaa
open Go.RowKit Go.ChangeShapes Go.WideShapes Go.Sort

def I64 (n : Int) : Prop := -9223372036854775808 ≤ n ∧ n ≤ 9223372036854775807
theorem index_any (l : List Int) (j : Nat) (v : Value) (W : World) (hl : Lst W v l) (hr : Rise l) (hj : j < l.length) : Calls Try.prog 30 #[v, .int .i64 (l.getD j 0)] W fun x W' => x = .returned (.int .i64 j) ∧ W = W' := by
  obtain ⟨g, off, cap, rfl, hs, _, _, _, hcells⟩ := hl.form (by omega)
  refine (Try.slices_Index_int g off l.length cap l (l.getD j 0) W (Nat.le_refl _) (by omega) (fun i hi => (hcells i hi).1)).mono ?_
  rintro x V ⟨rfl, hV⟩
  rw [Lib.idxOf_hit l l.length j _ hj (Nat.le_refl _) rfl (fun i hi he => by have := rise_inj hr (by omega) hj he; omega)]
  exact ⟨rfl, hV.symm⟩

set_option maxRecDepth 100000 in
set_option maxHeartbeats 3200000 in
theorem spread_any (l : List Int) (n : Int) (v : Value) (W : World) (h : Lst W v l) (hn : I64 n) :
    Calls Try.prog 19 #[v, .int .i64 n] W fun x W' => ∃ v', x = .returned (.tuple #[v', .int .i64 (spz l n).2]) ∧ Own W.heap.size W' v' (spz l n).1 ∧ Below W.heap.size W W' := by
  have HN := Lib.hid (nbs_any l v W h)
  have HL := Lib.hid h
  obtain ⟨a, cap, rfl, hs, _, _⟩ := h.shape
  clear h
  cases hnb : nbs 0 l with
  | false =>
    have HE := Lib.hid (show spz l n = ([], 2) by unfold spz; rw [hnb]; rfl)
    go_enter Try.func19, Try.ntmps19
    go_wp2_with fail
    rw [hnb] at HN
    refine HN.out.mono ?_
    rintro x w ⟨rfl, rfl⟩
    clear hnb
    go_wp2_with fail
    go_returns
    exact ⟨_, by rw [HE.out]; rfl, ⟨by rw [HE.out]; exact .inl ⟨rfl, rfl⟩, fun k hk => by simp [Value.ownBlock] at hk⟩, Below.refl _ _⟩
  | true =>
    by_cases h0 : n < 0
    · have HE := Lib.hid (show spz l n = ([], 2) by unfold spz; rw [if_neg (by omega)])
      have d0 : decide (n < 0) = true := decide_eq_true h0
      go_enter Try.func19, Try.ntmps19
      go_wp2_with fail
      rw [hnb] at HN
      refine HN.out.mono ?_
      rintro x w ⟨rfl, rfl⟩
      clear hnb h0
      go_wp2_with fail
      go_returns
      exact ⟨_, by rw [HE.out]; rfl, ⟨by rw [HE.out]; exact .inl ⟨rfl, rfl⟩, fun k hk => by simp [Value.ownBlock] at hk⟩, Below.refl _ _⟩
    · have d0 : decide (n < 0) = false := decide_eq_false h0
      by_cases h1 : 4096 < n
      · have HE := Lib.hid (show spz l n = ([], 3) by unfold spz; rw [if_pos ⟨hnb, by omega⟩, if_neg (by omega)])
        have d1 : decide (4096 < n) = true := decide_eq_true h1
        go_enter Try.func19, Try.ntmps19
        go_wp2_with fail
        rw [hnb] at HN
        refine HN.out.mono ?_
        rintro x w ⟨rfl, rfl⟩
        clear hnb h0 h1
        go_wp2_with fail
        go_returns
        exact ⟨_, by rw [HE.out]; rfl, ⟨by rw [HE.out]; exact .inl ⟨rfl, rfl⟩, fun k hk => by simp [Value.ownBlock] at hk⟩, Below.refl _ _⟩
      · have d1 : decide (4096 < n) = false := decide_eq_false h1
        obtain ⟨N, rfl⟩ : ∃ N : Nat, n = N := ⟨n.toNat, by omega⟩
        have hN : N ≤ 4096 := by omega
        have HE := Lib.hid (show spz l (N : Int) = (spl l N, 0) by unfold spz; rw [if_pos ⟨hnb, by omega⟩, if_pos (by omega)]; rfl)
        have HRI := Lib.hid (nbs_rise l 0 hnb).1
        obtain ⟨i0, hi, hz0, hz1, hz2⟩ := info_parts infoI
        obtain ⟨m, hm⟩ : ∃ m, m = l.length := ⟨_, rfl⟩
        have HM := Lib.hid hm
        rw [← hm] at hs
        rw [hnb, ← hm] at HN
        rw [← hm]
        clear hm hnb h0 h1
        go_enter Try.func19, Try.ntmps19
        go_wp2_with fail
        refine HN.out.mono ?_
        rintro x w ⟨rfl, rfl⟩
        go_wp2_with (at_make; refine wpList_make_full _ rfl (.tmp 20) (.tmp 20) 23 rfl W.heap.size 3 i0 (.int .i64 0) 1 Try.underlying23 hi hz0 hz1 .i64 .i64 m m m rfl rfl rfl rfl ?c1 ?c2 (Nat.le_refl _) ?_)
        case c1 => rw [hz2]; omega
        case c2 => unfold maxLen; omega
        intro w3 hown3 hg3
        obtain ⟨g, hg⟩ : ∃ g, g = W.heap.size := ⟨_, rfl⟩
        rw [← hg] at hown3 ⊢
        have hrow := Row.of_own hown3
        have hb3 : Below W.heap.size W w3 := ⟨hg3.os, hg3.tape, hg3.output, hg3.size, fun k hk => hg3.block k hk (by simp)⟩
        have H0 := Lib.hid (show SpRel W l g m (.int .i64 0) N w3 from ⟨0, rfl, Nat.zero_le _, by
          rw [← HM.out, spl_zero, ← HM.out, ints, List.map_replicate]
          have e : (madeCells #[Value.int IntKind.i64 0] m).toList = List.replicate m (.int .i64 0) := toList_madeCells_one _ _
          rw [← e, ← hg]
          simpa using hrow, hb3⟩)
        have HG := Lib.hid hg
        clear hown3 hg3 hrow hb3 hg hi hz0 hz1 hz2
        by_cases hm0 : m = 0
        · subst hm0
          obtain ⟨k, hk, hkN, hrow, hbel⟩ := H0.out
          have HFIN := Lib.hid (show Own W.heap.size w3 (.slice (some ⟨g, 0, none⟩) 0 0) (spl l N) ∧ Below W.heap.size W w3 by
            have hl : l = [] := List.eq_nil_of_length_eq_zero HM.out.symm
            subst hl
            exact ⟨Row.own hrow (by simp [spl]), hbel⟩)
          clear hrow hbel hk hkN
          go_wp2_with fail
          go_returns
          exact ⟨_, by rw [HE.out]; rfl, by rw [HE.out]; exact HFIN.out.1, HFIN.out.2⟩
        · have hmz : ((m : Int) == 0) = false := by rw [beq_eq_false_iff_ne]; omega
          have er := enter_rank
          go_wp2_with fail
          go_loopw [27] (fun i wr => SpRel W l g m i N wr) (fun i _ => N - (intOf i).toNat)
          case atStart => exact H0.out
          case round =>
            obtain ⟨k, rfl, hk, hrow, hbel⟩ := hrel
            by_cases hlt : k < N
            · obtain ⟨j, hj, hb⟩ := bst_in k (show 0 < l.length by rw [← HM.out]; omega)
              have hcv : IntKind.u32.wrap (k : Int) = (k : Int) := by rw [wrap_lo]; unfold lo32; omega
              have HL2 := Lib.hid (show Lst W (.slice a m cap) l by rw [HM.out]; exact HL.out)
              have HB := Lib.hid (best_any k l _ wr (by omega) (HL2.out.later hbel) (by rw [← HM.out]; omega) HRI.out)
              have HIX := Lib.hid (show ∀ V, Gr wr V → Calls Try.prog 30 #[.slice a m cap, .int .i64 (bst k l)] V fun x W' => x = .returned (.int .i64 j) ∧ V = W' from fun V hV => by
                have := index_any l j _ V ((HL2.out.later hbel).later hV.below) HRI.out hj
                rwa [hb] at this)
              have HR1 := Lib.hid hrow
              have HB1 := Lib.hid hbel
              have HJ := Lib.hid (show j < m by rw [HM.out]; exact hj)
              have HSJ := Lib.hid (spl_step HRI.out hj hb)
              have HCJ := Lib.hid (show (spl l k).getD j 0 = ((cnt l k (bst k l) : Nat) : Int) by rw [spl_at _ _ _ hj, hb])
              have hcc := cnt_le l k (bst k l)
              obtain ⟨c, hc⟩ : ∃ c, c = cnt l k (bst k l) := ⟨_, rfl⟩
              obtain ⟨b, hbb⟩ : ∃ b, b = bst k l := ⟨_, rfl⟩
              rw [← hc] at HSJ HCJ hcc
              rw [← hbb] at HB HIX
              unfold saltV at HB
              clear hrow hbel hj hb hc hbb
              go_wp2_with fail
              refine HB.out.mono ?_
              rintro x w1 ⟨rfl, hgr1⟩
              have HX := Lib.hid (HIX.out w1 hgr1)
              have hrow1 := HR1.out.later hgr1.below
              rw [← HM.out] at hrow1
              have hsl : (spl l k).length = m := by rw [spl_len, HM.out]
              have hbel1 := Lib.hid (HB1.out.trans (hgr1.below.mono HB1.out.size))
              obtain ⟨g', cap', hv, hge, hglt, _, _, hcells, hfrz⟩ := Row.form hrow1 (by omega)
              simp only [Value.slice.injEq, Option.some.injEq, Addr.mk.injEq, and_true, true_and] at hv
              obtain ⟨rfl, rfl⟩ := hv
              have hjm := HJ.out
              have hc0 : w1.cell? ⟨g, j, none⟩ = some (.int .i64 c) := by
                have h1 := hcells j (by omega)
                have h2 : (ints (spl l k))[j]? = some (.int .i64 ((spl l k).getD j 0)) := by
                  unfold ints
                  rw [List.getElem?_map, List.getD_eq_getElem?_getD, List.getElem?_eq_getElem (by rw [hsl]; exact HJ.out)]; rfl
                rw [h2, HCJ.out] at h1
                exact h1
              have hf0 : w1.frozen? ⟨g, j, none⟩ = false := hfrz j (by omega)
              obtain ⟨hst, hgr⟩ := Row.stored hrow1 j (.int .i64 ((c : Int) + 1))
              have HREL := Lib.hid (show SpRel W l g m (.int .i64 ((k : Int) + 1)) N (w1.setCell ⟨g, j, none⟩ (.int .i64 ((c : Int) + 1))) from
                ⟨k + 1, by rw [show (k : Int) + 1 = ((k + 1 : Nat) : Int) from by simp], by omega, by
                  rw [← HM.out, HSJ.out, ints, List.map_set]; exact hst, hbel1.out.setCell (by simp only; exact hge) _⟩)
              clear hrow1 hgr1 hst hgr hcells hfrz hge hsl
              go_wp2_with fail
              refine HX.out.mono ?_
              rintro x w2 ⟨rfl, rfl⟩
              go_wp2_with fail
              go_roundw
              case rel => exact HREL.out
              case measure => simp [intOf]; omega
            · obtain rfl : k = N := by omega
              have HFIN := Lib.hid (show Own W.heap.size wr (.slice (some ⟨g, 0, none⟩) m m) (spl l k) ∧ Below W.heap.size W wr from ⟨by
                rw [← HM.out] at hrow
                exact Row.own (e := 3) (by rw [spl_len, ← HM.out]; exact hrow) (by rw [spl_len, ← HM.out]; omega), hbel⟩)
              clear hrow hbel
              go_wp2_with fail
              go_returns
              exact ⟨_, by rw [HE.out]; rfl, by rw [HE.out]; exact HFIN.out.1, HFIN.out.2⟩

end Go.Proofs.Ytmjaompepchieaa
