/- Contract of the reference's Spread. (Printed by mkpku.py out of the program's.) -/
import Derived.Test.YtmjaompepchieaaPkV
set_option linter.unusedSimpArgs false
set_option linter.unusedVariables false
namespace Go.Proofs.Ytmjaompepchieaa
open Go.RowKit Go.ChangeShapes Go.WideShapes Go.Sort

theorem dr (W : World) (q : Nat) : Below W.heap.size W (W.drewN q) := ⟨rfl, rfl, rfl, Nat.le_refl _, fun _ _ => rfl⟩
def InRel (X : World) (l : List Int) (g m k j : Nat) (i : Value) (wr : World) : Prop :=
  ∃ a : Nat, i = .int .i64 a ∧ a ≤ m ∧ Row wr X.heap.size 3 1 (.slice (some ⟨g, 0, none⟩) m m) m (ints (if j < a then spl l (k + 1) else spl l k)) ∧ Below X.heap.size X wr

set_option maxRecDepth 100000 in
set_option maxHeartbeats 3200000 in
theorem rspread_any (l : List Int) (n : Int) (v : Value) (W : World) (h : Lst W v l) (hn : I64 n) :
    Calls Try.prog 20 #[v, .int .i64 n] W fun x W' => ∃ v', x = .returned (.tuple #[v', .int .i64 (spz l n).2]) ∧ Own W.heap.size W' v' (spz l n).1 ∧ Below W.heap.size W W' := by
  have HN := Lib.hid (rnbs_any l v W h)
  have HL := Lib.hid h
  obtain ⟨a, cap, rfl, hs, _, _⟩ := h.shape
  clear h
  cases hnb : nbs 0 l with
  | false =>
    have HE := Lib.hid (show spz l n = ([], 2) by unfold spz; rw [hnb]; rfl)
    go_enter Try.func20, Try.ntmps20
    go_wp2_with fail
    rw [hnb] at HN
    refine HN.out.mono ?_
    rintro x w ⟨rfl, q, rfl⟩
    clear hnb
    go_wp2_with fail
    go_returns
    exact ⟨_, by rw [HE.out]; rfl, ⟨by rw [HE.out]; exact .inl ⟨rfl, rfl⟩, fun k hk => by simp [Value.ownBlock] at hk⟩, dr W q⟩
  | true =>
    by_cases h0 : n < 0
    · have HE := Lib.hid (show spz l n = ([], 2) by unfold spz; rw [if_neg (by omega)])
      have d0 : decide (n < 0) = true := decide_eq_true h0
      go_enter Try.func20, Try.ntmps20
      go_wp2_with fail
      rw [hnb] at HN
      refine HN.out.mono ?_
      rintro x w ⟨rfl, q, rfl⟩
      clear hnb h0
      go_wp2_with fail
      go_returns
      exact ⟨_, by rw [HE.out]; rfl, ⟨by rw [HE.out]; exact .inl ⟨rfl, rfl⟩, fun k hk => by simp [Value.ownBlock] at hk⟩, dr W q⟩
    · have d0 : decide (n < 0) = false := decide_eq_false h0
      by_cases h1 : 4096 < n
      · have HE := Lib.hid (show spz l n = ([], 3) by unfold spz; rw [if_pos ⟨hnb, by omega⟩, if_neg (by omega)])
        have d1 : decide (4096 < n) = true := decide_eq_true h1
        go_enter Try.func20, Try.ntmps20
        go_wp2_with fail
        rw [hnb] at HN
        refine HN.out.mono ?_
        rintro x w ⟨rfl, q, rfl⟩
        clear hnb h0 h1
        go_wp2_with fail
        go_returns
        exact ⟨_, by rw [HE.out]; rfl, ⟨by rw [HE.out]; exact .inl ⟨rfl, rfl⟩, fun k hk => by simp [Value.ownBlock] at hk⟩, dr W q⟩
      · have d1 : decide (4096 < n) = false := decide_eq_false h1
        obtain ⟨N, rfl⟩ : ∃ N : Nat, n = N := ⟨n.toNat, by omega⟩
        have hN : N ≤ 4096 := by omega
        have HE := Lib.hid (show spz l (N : Int) = (spl l N, 0) by unfold spz; rw [if_pos ⟨hnb, by omega⟩, if_pos (by omega)]; rfl)
        have HRI := Lib.hid (nbs_rise l 0 hnb).1
        obtain ⟨i0, hi, hz0, hz1, hz2⟩ := info_parts infoI
        obtain ⟨m, hm⟩ : ∃ m, m = l.length := ⟨_, rfl⟩
        have HM := Lib.hid hm
        rw [← hm] at hs
        rw [hnb, ← hm] at HN
        rw [← hm]
        clear hm hnb h0 h1
        go_enter Try.func20, Try.ntmps20
        go_wp2_with fail
        refine HN.out.mono ?_
        rintro x X ⟨rfl, q, hX⟩
        have HBX := Lib.hid (show Below W.heap.size W X by rw [hX]; exact dr W q)
        have HSX := Lib.hid (show X.heap.size = W.heap.size by rw [hX]; rfl)
        have HLX := Lib.hid (show Lst X (.slice a m cap) l by rw [HM.out]; exact HL.out.later HBX.out)
        clear hX HL HN
        go_wp2_with (at_make; refine wpList_make_full _ rfl (.tmp 20) (.tmp 20) 23 rfl X.heap.size 3 i0 (.int .i64 0) 1 Try.underlying23 hi hz0 hz1 .i64 .i64 m m m rfl rfl rfl rfl ?c1 ?c2 (Nat.le_refl _) ?_)
        case c1 => rw [hz2]; omega
        case c2 => unfold maxLen; omega
        intro w3 hown3 hg3
        obtain ⟨g, hg⟩ : ∃ g, g = X.heap.size := ⟨_, rfl⟩
        rw [← hg] at hown3 ⊢
        have hrow := Row.of_own hown3
        have hb3 : Below X.heap.size X w3 := ⟨hg3.os, hg3.tape, hg3.output, hg3.size, fun k hk => hg3.block k hk (by simp)⟩
        have H0 := Lib.hid (show SpRel X l g m (.int .i64 0) N w3 from ⟨0, rfl, Nat.zero_le _, by
          rw [← HM.out, spl_zero, ← HM.out, ints, List.map_replicate]
          have e : (madeCells #[Value.int IntKind.i64 0] m).toList = List.replicate m (.int .i64 0) := toList_madeCells_one _ _
          rw [← e, ← hg]
          simpa using hrow, hb3⟩)
        clear hown3 hg3 hrow hb3 hg hi hz0 hz1 hz2
        go_wp2_with fail
        go_loopw [7] (fun i wr => SpRel X l g m i N wr) (fun i _ => N - (intOf i).toNat)
        case atStart => exact H0.out
        case round =>
          obtain ⟨k, rfl, hk, hrow, hbel⟩ := hrel
          by_cases hgo : k < N ∧ 0 < m
          · obtain ⟨hlt, hm0⟩ := hgo
            have dk : decide ((k : Int) < (N : Int)) = true := decide_eq_true (by omega)
            have dm : decide (0 < (m : Int)) = true := decide_eq_true (by omega)
            obtain ⟨j, hj, hb⟩ := bst_in k (show 0 < l.length by rw [← HM.out]; omega)
            have hcv : IntKind.u32.wrap (k : Int) = (k : Int) := by rw [wrap_lo]; unfold lo32; omega
            have HB := Lib.hid (rbest_any k l _ wr (by omega) (HLX.out.later hbel) (by rw [← HM.out]; omega))
            have HJ := Lib.hid (show j < m by rw [HM.out]; exact hj)
            have HBJ := Lib.hid hb
            have HSJ := Lib.hid (spl_step HRI.out hj hb)
            have HCJ := Lib.hid (show (spl l k).getD j 0 = ((cnt l k (bst k l) : Nat) : Int) by rw [spl_at _ _ _ hj, hb])
            have hcc := cnt_le l k (bst k l)
            obtain ⟨c, hc⟩ : ∃ c, c = cnt l k (bst k l) := ⟨_, rfl⟩
            obtain ⟨b, hbb⟩ : ∃ b, b = bst k l := ⟨_, rfl⟩
            rw [← hc] at HSJ HCJ hcc
            rw [← hbb] at HB HBJ
            have H1 := Lib.hid (show InRel X l g m k j (.int .i64 0) wr from ⟨0, rfl, Nat.zero_le _, by rw [if_neg (by omega), HM.out]; rw [← HM.out]; rw [← HM.out] at hrow; exact hrow, hbel⟩)
            clear hrow hbel hj hb hc hbb
            go_wp2_with fail
            refine HB.out.mono ?_
            rintro x w1 ⟨rfl, rfl⟩
            clear HB
            go_wp2_with fail
            go_loopw [9] (fun i wr => InRel X l g m k j i wr) (fun i _ => m - (intOf i).toNat)
            case atStart => exact H1.out
            case round =>
              clear H1
              obtain ⟨i, rfl, hi, hrow, hbel⟩ := hrel
              by_cases hil : i < m
              · have hsl : ∀ k, (spl l k).length = m := fun k => by rw [spl_len, HM.out]
                have di : decide ((i : Int) < (m : Int)) = true := decide_eq_true (by omega)
                have cx : ∃ ga off, a = some ⟨ga, off, none⟩ ∧ wr.cell? ⟨ga, off + i, none⟩ = some (.int .i64 (l.getD i 0)) := by
                  obtain ⟨ga, off, c, he, _, _, _, _, hcells⟩ := (HLX.out.later hbel).form (by rw [← HM.out]; omega)
                  exact ⟨ga, off, by simp at he; exact he.1, (hcells i (by rw [← HM.out]; exact hil)).1⟩
                obtain ⟨ga, off, ha, cx⟩ := cx
                by_cases hij : i = j
                · subst hij
                  rw [HBJ.out] at cx
                  rw [if_neg (by omega)] at hrow
                  obtain ⟨g', cap', hv, hge, hglt, _, _, hcells, hfrz⟩ := Row.form hrow (by omega)
                  simp only [Value.slice.injEq, Option.some.injEq, Addr.mk.injEq, and_true, true_and] at hv
                  obtain ⟨rfl, rfl⟩ := hv
                  have hc0 : wr.cell? ⟨g, i, none⟩ = some (.int .i64 c) := by
                    have h1 := hcells i (by omega)
                    have h2 : (ints (spl l k))[i]? = some (.int .i64 ((spl l k).getD i 0)) := by
                      unfold ints
                      rw [List.getElem?_map, List.getD_eq_getElem?_getD, List.getElem?_eq_getElem (by rw [hsl]; exact hil)]; rfl
                    rw [h2, HCJ.out] at h1
                    exact h1
                  have hf0 : wr.frozen? ⟨g, i, none⟩ = false := hfrz i (by omega)
                  obtain ⟨hst, hgr⟩ := Row.stored hrow i (.int .i64 ((c : Int) + 1))
                  have HREL := Lib.hid (show InRel X l g m k i (.int .i64 ((i : Int) + 1)) (wr.setCell ⟨g, i, none⟩ (.int .i64 ((c : Int) + 1))) from
                    ⟨i + 1, by rw [show (i : Int) + 1 = ((i + 1 : Nat) : Int) from by simp], by omega, by
                      rw [if_pos (by omega), HSJ.out, ints, List.map_set]; exact hst, hbel.setCell (by simp only; exact hge) _⟩)
                  clear hrow hbel hst hgr hcells hfrz hge hsl
                  subst ha
                  go_wp2_with fail
                  go_roundw
                  case rel => exact HREL.out
                  case measure => simp [intOf]; omega
                · have hne : (l.getD i 0 == b) = false := by
                    rw [beq_eq_false_iff_ne, ← HBJ.out]
                    intro he
                    exact hij (rise_inj HRI.out (by rw [← HM.out]; exact hil) (by rw [← HM.out]; exact HJ.out) he)
                  obtain ⟨y, hy⟩ : ∃ y, y = l.getD i 0 := ⟨_, rfl⟩
                  rw [← hy] at hne cx
                  have HREL := Lib.hid (show InRel X l g m k j (.int .i64 ((i : Int) + 1)) wr from
                    ⟨i + 1, by rw [show (i : Int) + 1 = ((i + 1 : Nat) : Int) from by simp], by omega, by
                      by_cases hji : j < i
                      · rw [if_pos (by omega)]; rw [if_pos hji] at hrow; exact hrow
                      · rw [if_neg (by omega)]; rw [if_neg hji] at hrow; exact hrow, hbel⟩)
                  clear hrow hbel hsl hy
                  subst ha
                  go_wp2_with fail
                  go_roundw
                  case rel => exact HREL.out
                  case measure => simp [intOf]; omega
              · obtain rfl : i = m := by omega
                have HREL := Lib.hid (show SpRel X l g i (.int .i64 ((k : Int) + 1)) N wr from
                  ⟨k + 1, by rw [show (k : Int) + 1 = ((k + 1 : Nat) : Int) from by simp], by omega, by
                    rw [if_pos HJ.out] at hrow
                    rw [← HM.out]; exact hrow, hbel⟩)
                clear hrow hbel
                go_wp2_with fail
                go_roundw
                case rel => exact HREL.out
                case measure => simp [intOf]; omega
          · have HFIN := Lib.hid (show Own W.heap.size wr (.slice (some ⟨g, 0, none⟩) m m) (spl l N) ∧ Below W.heap.size W wr from ⟨by
              have hsp : spl l k = spl l N := by
                by_cases hkN : k = N
                · rw [hkN]
                · have : l = [] := List.eq_nil_of_length_eq_zero (by rw [← HM.out]; omega)
                  rw [this]; rfl
              rw [← HM.out, hsp, HSX.out] at hrow
              exact Row.own (e := 3) (by rw [spl_len, ← HM.out]; exact hrow) (by rw [spl_len, ← HM.out]; omega), HBX.out.trans (hbel.mono HBX.out.size)⟩)
            clear hrow hbel
            by_cases hkN : k < N
            · have dk : decide ((k : Int) < (N : Int)) = true := decide_eq_true (by omega)
              obtain rfl : m = 0 := by omega
              go_wp2_with fail
              go_returns
              exact ⟨_, by rw [HE.out]; rfl, by rw [HE.out]; exact HFIN.out.1, HFIN.out.2⟩
            · have dk : decide ((k : Int) < (N : Int)) = false := decide_eq_false (by omega)
              go_wp2_with fail
              go_returns
              exact ⟨_, by rw [HE.out]; rfl, by rw [HE.out]; exact HFIN.out.1, HFIN.out.2⟩

end Go.Proofs.Ytmjaompepchieaa
