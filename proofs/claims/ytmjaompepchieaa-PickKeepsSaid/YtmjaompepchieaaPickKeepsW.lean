/- The walk of the law PickKeeps. (Printed by mkpkeeps.py.) -/
import Derived.Test.YtmjaompepchieaaPkK
set_option linter.unusedSimpArgs false
set_option linter.unusedVariables false
namespace Go.Proofs.Ytmjaompepchieaa
open Go.RowKit Go.ChangeShapes Go.WideShapes Go.Sort

def KpRel (V : World) (l r : List Int) (G : Int) (m : Nat) (o1 o2 i : Value) (wr : World) : Prop := ∃ k : Nat, i = .int .i64 k ∧ k ≤ m ∧ Two V o1 o2 (flt G l k) (flt G r k) wr

set_option maxRecDepth 100000 in
set_option maxHeartbeats 6400000 in
theorem pickKeeps_nat (W : World) (e s w : Nat) (he : e < 4294967296) (hs : s < 4294967296) (hw : w < 256) : Calls Try.prog 4 #[.int .u32 e, .int .u32 s, .int .u8 w] W fun e W' => e = .returned (.bool true) ∧ Below W.heap.size W W' := by
  obtain ⟨l, hl⟩ : ∃ l, l = ofs s 24 := ⟨_, rfl⟩
  have hnb : nbs 0 l = true := by rw [hl]; exact ofs_nbs s
  have hlen : l.length ≤ 24 := by rw [hl]; exact ofs_len s 24
  have HW := Lib.hid (works_any W)
  have HO := Lib.hid (fun V => of_any s V hs)
  have HRK := Lib.hid (show ∀ (m : List Int), nbs 0 m = true → m.length ≤ 24 → ∀ (V : World) v, Lst V v m → Calls Try.prog 11 #[.int .u32 e, v] V (LE V (rk e m) 0) from fun m hm hm2 V v h => (prank_any stab40 e m v V he h (fun _ => by omega)).mono fun x X h => LE.of (s := (rk e m, 0)) (Below.refl _ _) h (by unfold rkz; rw [if_pos hm]))
  have HCH := Lib.hid (show ∀ (m : List Int), nbs 0 m = true → m.length ≠ 0 → ∀ (V : World) v, Lst V v m → Calls Try.prog 9 #[.int .u32 e, v] V (NE V (bst e m) 0) from fun m hm hm2 V v h => (choose_any e m v V he h).mono fun x X h => NE.of (s := (bst e m, 0)) (Below.refl _ _) h (by unfold chz; rw [if_pos hm, if_neg hm2]))
  have HC0 := Lib.hid (show ∀ (V : World) v, Lst V v [] → Calls Try.prog 9 #[.int .u32 e, v] V (NE V 0 6) from fun V v h => (choose_any e [] v V he h).mono fun x X h => NE.of (s := (0, 6)) (Below.refl _ _) h rfl)
  have HSM := Lib.hid (show ∀ (m : List Int) (V : World) v u, Lst V v m → Lst V u m → Calls Try.prog 18 #[v, u] V (SE V true) from fun m V v u h1 h2 => (same_any m m v u V h1 h2).mono fun x X h => SE.of (Below.refl _ _) (by rw [decide_eq_true rfl] at h; exact h))
  have HNB := Lib.hid hnb
  obtain ⟨M, hM⟩ : ∃ M, M = l.length := ⟨_, rfl⟩
  have hM24 : M ≤ 24 := by omega
  rw [← hl] at HO
  have HM := Lib.hid hM
  clear hM hl hnb hlen
  go_enter Try.func4, Try.ntmps4
  go_wp2_with fail
  refine HW.out.mono ?_
  rintro x V1 ⟨rfl, h1⟩
  have HK1 := Lib.hid (show Kn W V1 [] from ⟨h1, by simp⟩)
  clear h1 HW
  go_wp2_with fail
  refine (HO.out V1).mono ?_
  rintro x V2 ⟨v, rfl, h2, h3⟩
  have HK2 := Lib.hid ((HK1.out.later h3).more h2.1)
  clear h2 h3 HK1
  obtain ⟨av, cv, rfl, _, _, _⟩ := HK2.out.head.shape
  rw [← HM.out] at HK2 ⊢
  by_cases hM0 : M = 0
  · have hz : ((M : Int) == 0) = true := by rw [hM0]; rfl
    have HC := Lib.hid (HC0.out V2 (.slice av M cv) (by
      have := HK2.out.head
      rwa [List.eq_nil_of_length_eq_zero (show l.length = 0 by rw [← HM.out]; exact hM0)] at this))
    clear hM0
    go_wp2_with fail
    refine HC.out.mono ?_
    rintro x V3 ⟨rfl, h3⟩
    have HK3 := Lib.hid (HK2.out.later h3)
    clear h3 HK2
    go_wp2_with fail
    go_returns
    exact ⟨rfl, HK3.out.bel⟩
  · have hz : ((M : Int) == 0) = false := by rw [beq_eq_false_iff_ne]; omega
    have HC := Lib.hid (HCH.out l HNB.out (by rw [← HM.out]; exact hM0) V2 _ HK2.out.head)
    obtain ⟨A, hA⟩ : ∃ A, A = bst e l := ⟨_, rfl⟩
    rw [← hA] at HC
    have HA := Lib.hid hA
    clear hA
    go_wp2_with fail
    refine HC.out.mono ?_
    rintro x V3 ⟨rfl, h3⟩
    have HK3 := Lib.hid (HK2.out.later h3)
    clear h3 HK2 HC
    go_wp2_with fail
    refine (HRK.out l HNB.out (by rw [← HM.out]; exact hM24) V3 _ HK3.out.head).mono ?_
    rintro x V ⟨v, rfl, h2, h3⟩
    have HK := Lib.hid ((HK3.out.later h3).more h2)
    clear h2 h3 HK3
    obtain ⟨ar, cr, rfl, _, _, _⟩ := HK.out.head.shape
    rw [rk_len, ← HM.out] at HK ⊢
    -- the cells of both lists, now and later
    have HCL := Lib.hid (show ∃ g off, av = some ⟨g, off, none⟩ ∧ ∀ wr, Below V.heap.size V wr → ∀ k, k < M → wr.cell? ⟨g, off + k, none⟩ = some (.int .i64 (l.getD k 0)) from by
      obtain ⟨g, off, c, he, _, _, _, hg, hcells⟩ := HK.out.tail.head.form (by rw [← HM.out]; omega)
      exact ⟨g, off, by simp at he; exact he.1, fun wr hb k hk => (below_cell hb ⟨g, off + k, none⟩ hg).trans (hcells k (by rw [← HM.out]; exact hk)).1⟩)
    have HCR := Lib.hid (show ∃ g off, ar = some ⟨g, off, none⟩ ∧ ∀ wr, Below V.heap.size V wr → ∀ k, k < M → wr.cell? ⟨g, off + k, none⟩ = some (.int .i64 ((rk e l).getD k 0)) from by
      obtain ⟨g, off, c, he, _, _, _, hg, hcells⟩ := HK.out.head.form (by rw [rk_len, ← HM.out]; omega)
      exact ⟨g, off, by simp at he; exact he.1, fun wr hb k hk => (below_cell hb ⟨g, off + k, none⟩ hg).trans (hcells k (by rw [rk_len, ← HM.out]; exact hk)).1⟩)
    obtain ⟨gl, ol, rfl, hcl⟩ := HCL.out
    obtain ⟨gr, or', rfl, hcr⟩ := HCR.out
    have HCL2 := Lib.hid hcl
    have HCR2 := Lib.hid hcr
    have c0 : V.cell? ⟨gr, or', none⟩ = some (.int .i64 A) := by
      have := hcr V (Below.refl _ _) 0 (by omega)
      rw [rk_head he HNB.out (by rw [← HM.out]; omega), ← HA.out, Nat.add_zero] at this
      exact this
    obtain ⟨t, ht⟩ : ∃ t, t = w % M := ⟨_, rfl⟩
    have htM : t < M := by rw [ht]; exact Nat.mod_lt _ (by omega)
    have zt : (w : Int).tmod (M : Int) = (t : Int) := by rw [Int.tmod_eq_emod_of_nonneg (by omega), ht]; simp
    have ct := hcl V (Below.refl _ _) t htM
    obtain ⟨G, hG⟩ : ∃ G, G = l.getD t 0 := ⟨_, rfl⟩
    rw [← hG] at ct
    have hMne : (M : Int) ≠ 0 := by omega
    have hMp : 0 < M := by omega
    have HGG := Lib.hid hG
    clear hcl hcr ht hG HCL HCR HO
    have HS0 := Lib.hid (show KpRel V l (rk e l) G M (.slice none 0 0) (.slice none 0 0) (.int .i64 0) V from ⟨0, rfl, Nat.zero_le _, Row.nil_ _ _ _ _, Row.nil_ _ _ _ _, fun k hk => by simp [Value.ownBlock] at hk, Below.refl _ _⟩)
    go_wp2_with fail
    go_loopw [15, 16, 17] (fun a b i wr => KpRel V l (rk e l) G M a b i wr) (fun _ _ i _ => M - (intOf i).toNat)
    case atStart => exact HS0.out
    case round =>
      clear HS0 c0 ct
      obtain ⟨k, rfl, hk, hT⟩ := hrel
      have HT := Lib.hid hT
      obtain ⟨oa1, oc1, ho1, _, _⟩ := hT.rv.shape
      obtain ⟨oa2, oc2, ho2, _, _⟩ := hT.ru.shape
      subst ho1 ho2
      clear hT
      by_cases hlt : k < M
      · have hlz : decide ((k : Int) < (M : Int)) = true := decide_eq_true (by omega)
        obtain ⟨x, hx⟩ : ∃ x, x = l.getD k 0 := ⟨_, rfl⟩
        obtain ⟨y, hy⟩ : ∃ y, y = (rk e l).getD k 0 := ⟨_, rfl⟩
        have cx := HCL2.out wr HT.out.bel k hlt
        have HCY := Lib.hid (show ∀ wr, Below V.heap.size V wr → wr.cell? ⟨gr, or' + k, none⟩ = some (.int .i64 y) from fun wr hb => by rw [hy]; exact HCR2.out wr hb k hlt)
        rw [← hx] at cx
        have s1 := flt_step (g := G) (l := l) (k := k) (by rw [← HM.out]; exact hlt)
        have s2 := flt_step (g := G) (l := rk e l) (k := k) (by rw [rk_len, ← HM.out]; exact hlt)
        rw [← hx] at s1
        rw [← hy] at s2
        have HS1 := Lib.hid s1
        have HS2 := Lib.hid s2
        have hl1 := flt_len G l k
        have hl2 := flt_len G (rk e l) k
        have HG := Lib.hid HT.out.bel.size
        clear hx hy s1 s2
        cases b1 : (x != G) with
        | true =>
          cases b2 : (y != G) with
          | true =>
            have HE1 := Lib.hid (show flt G l (k + 1) = flt G l k ++ [x] by have := HS1.out; rw [b1] at this; simpa using this)
            have HE2 := Lib.hid (show flt G (rk e l) (k + 1) = flt G (rk e l) k ++ [y] by have := HS2.out; rw [b2] at this; simpa using this)
            clear HS1 HS2
            obtain ⟨i0, hi, hz0, hz1, hz2⟩ := info_parts infoI
            go_wp2_with (at_builtin; refine wpList_append_one2 rfl (.tmp 87) (.tmp 92) 23 rfl V.heap.size 3 i0 (.int .i64 0) 8 Try.underlying23 hi hz0 hz1 hz2 rfl _ _ _ _ HT.out.rv rfl rfl rfl ?c3 ?c4 HG.out ?_)
            case c3 => unfold maxLen; omega
            case c4 => omega
            intro v1 w1 hrow1 hg1 hb1
            have HT1 := Lib.hid (HT.out.more hrow1 hg1 hb1)
            clear hrow1 hg1 hb1 hi hz0 hz1 hz2 cx
            have cy := HCY.out w1 HT1.out.bel
            have HG2 := Lib.hid HT1.out.bel.size
            obtain ⟨i0, hi, hz0, hz1, hz2⟩ := info_parts infoI
            go_wp2_with (at_builtin; refine wpList_append_one2 rfl (.tmp 100) (.tmp 105) 23 rfl V.heap.size 3 i0 (.int .i64 0) 8 Try.underlying23 hi hz0 hz1 hz2 rfl _ _ _ _ HT1.out.ru rfl rfl rfl ?c3 ?c4 HG2.out ?_)
            case c3 => unfold maxLen; omega
            case c4 => omega
            intro v2 w2 hrow2 hg2 hb2
            have HT2 := Lib.hid (HT1.out.turn.more hrow2 hg2 hb2).turn
            clear hrow2 hg2 hb2 hi hz0 hz1 hz2 cy
            have HREL := Lib.hid (show KpRel V l (rk e l) G M (v1) (v2) (.int .i64 ((k : Int) + 1)) w2 from ⟨k + 1, by rw [show (k : Int) + 1 = ((k + 1 : Nat) : Int) from by simp], by omega, by rw [HE1.out, HE2.out]; exact HT2⟩)
            clear HT2
            go_wp2_with fail
            go_roundw
            case rel => first | exact HREL.out | exact ⟨_, _, HREL.out, rfl⟩ | ((repeat apply Exists.intro); exact ⟨HREL.out, rfl⟩)
            case measure => simp [intOf]; omega
          | false =>
            have HE1 := Lib.hid (show flt G l (k + 1) = flt G l k ++ [x] by have := HS1.out; rw [b1] at this; simpa using this)
            have HE2 := Lib.hid (show flt G (rk e l) (k + 1) = flt G (rk e l) k by have := HS2.out; rw [b2] at this; simpa using this)
            clear HS1 HS2
            obtain ⟨i0, hi, hz0, hz1, hz2⟩ := info_parts infoI
            go_wp2_with (at_builtin; refine wpList_append_one2 rfl (.tmp 87) (.tmp 92) 23 rfl V.heap.size 3 i0 (.int .i64 0) 8 Try.underlying23 hi hz0 hz1 hz2 rfl _ _ _ _ HT.out.rv rfl rfl rfl ?c3 ?c4 HG.out ?_)
            case c3 => unfold maxLen; omega
            case c4 => omega
            intro v1 w1 hrow1 hg1 hb1
            have HT1 := Lib.hid (HT.out.more hrow1 hg1 hb1)
            clear hrow1 hg1 hb1 hi hz0 hz1 hz2 cx
            have cy := HCY.out w1 HT1.out.bel
            have HREL := Lib.hid (show KpRel V l (rk e l) G M (v1) (.slice oa2 (flt G (rk e l) k).length oc2) (.int .i64 ((k : Int) + 1)) w1 from ⟨k + 1, by rw [show (k : Int) + 1 = ((k + 1 : Nat) : Int) from by simp], by omega, by rw [HE1.out, HE2.out]; exact HT1.out⟩)
            go_wp2_with fail
            go_roundw
            case rel => first | exact HREL.out | exact ⟨_, _, HREL.out, rfl⟩ | ((repeat apply Exists.intro); exact ⟨HREL.out, rfl⟩)
            case measure => simp [intOf]; omega
        | false =>
          cases b2 : (y != G) with
          | true =>
            have HE1 := Lib.hid (show flt G l (k + 1) = flt G l k by have := HS1.out; rw [b1] at this; simpa using this)
            have HE2 := Lib.hid (show flt G (rk e l) (k + 1) = flt G (rk e l) k ++ [y] by have := HS2.out; rw [b2] at this; simpa using this)
            clear HS1 HS2
            have cy := HCY.out wr HT.out.bel
            have HG2 := Lib.hid HT.out.bel.size
            obtain ⟨i0, hi, hz0, hz1, hz2⟩ := info_parts infoI
            go_wp2_with (at_builtin; refine wpList_append_one2 rfl (.tmp 100) (.tmp 105) 23 rfl V.heap.size 3 i0 (.int .i64 0) 8 Try.underlying23 hi hz0 hz1 hz2 rfl _ _ _ _ HT.out.ru rfl rfl rfl ?c3 ?c4 HG2.out ?_)
            case c3 => unfold maxLen; omega
            case c4 => omega
            intro v2 w2 hrow2 hg2 hb2
            have HT2 := Lib.hid (HT.out.turn.more hrow2 hg2 hb2).turn
            clear hrow2 hg2 hb2 hi hz0 hz1 hz2 cy
            have HREL := Lib.hid (show KpRel V l (rk e l) G M (.slice oa1 (flt G l k).length oc1) (v2) (.int .i64 ((k : Int) + 1)) w2 from ⟨k + 1, by rw [show (k : Int) + 1 = ((k + 1 : Nat) : Int) from by simp], by omega, by rw [HE1.out, HE2.out]; exact HT2⟩)
            clear HT2
            go_wp2_with fail
            go_roundw
            case rel => first | exact HREL.out | exact ⟨_, _, HREL.out, rfl⟩ | ((repeat apply Exists.intro); exact ⟨HREL.out, rfl⟩)
            case measure => simp [intOf]; omega
          | false =>
            have HE1 := Lib.hid (show flt G l (k + 1) = flt G l k by have := HS1.out; rw [b1] at this; simpa using this)
            have HE2 := Lib.hid (show flt G (rk e l) (k + 1) = flt G (rk e l) k by have := HS2.out; rw [b2] at this; simpa using this)
            clear HS1 HS2
            have cy := HCY.out wr HT.out.bel
            have HREL := Lib.hid (show KpRel V l (rk e l) G M (.slice oa1 (flt G l k).length oc1) (.slice oa2 (flt G (rk e l) k).length oc2) (.int .i64 ((k : Int) + 1)) wr from ⟨k + 1, by rw [show (k : Int) + 1 = ((k + 1 : Nat) : Int) from by simp], by omega, by rw [HE1.out, HE2.out]; exact HT.out⟩)
            go_wp2_with fail
            go_roundw
            case rel => first | exact HREL.out | exact ⟨_, _, HREL.out, rfl⟩ | ((repeat apply Exists.intro); exact ⟨HREL.out, rfl⟩)
            case measure => simp [intOf]; omega
      · obtain rfl : k = M := by omega
        have hlz : decide ((k : Int) < (k : Int)) = false := decide_eq_false (by omega)
        obtain ⟨lf, hlf⟩ : ∃ lf, lf = l.filter (· != G) := ⟨_, rfl⟩
        have e1 : flt G l k = lf := by rw [hlf, HM.out, flt_all]
        have e2 : flt G (rk e l) k = rk e lf := by
          rw [hlf, rk_filter he HNB.out, HM.out, ← rk_len e l, flt_all]
        have hT := HT.out
        rw [e1, e2] at hT
        rw [e1, e2]
        have hlf24 : lf.length ≤ 24 := by rw [← e1]; have := flt_len G l k; omega
        have HLF := Lib.hid hlf24
        have HNF := Lib.hid (show nbs 0 lf = true by rw [hlf]; exact filter_nbs _ HNB.out)
        have HKL := Lib.hid (show Kn W wr [(.slice oa1 lf.length oc1, lf), (.slice oa2 (rk e lf).length oc2, rk e lf)] from ((⟨(HK.out.later hT.bel).bel, by simp⟩ : Kn W wr []).more (Row.own hT.ru (by rw [rk_len]; omega)).1).more (Row.own hT.rv (by omega)).1)
        have HFIN := Lib.hid (show (lf.length = 0 → A = G) ∧ (A ≠ G → lf.length ≠ 0 ∧ bst e lf = A) from by
          have h0 : 0 < l.length := by rw [← HM.out]; omega
          refine ⟨fun h => ?_, fun h => ?_⟩
          · by_cases hag : A = G
            · exact hag
            · rw [HA.out] at hag
              have := (best_gone he HNB.out h0 hag).1
              rw [← hlf] at this; omega
          · rw [HA.out] at h
            obtain ⟨k1, k2⟩ := best_gone he HNB.out h0 h
            rw [← hlf] at k1 k2
            exact ⟨by omega, by rw [k2, HA.out]⟩)
        obtain ⟨n1, hn1⟩ : ∃ n, n = lf.length := ⟨_, rfl⟩
        have hn24 : n1 ≤ 24 := by omega
        rw [rk_len, ← hn1] at HKL ⊢
        rw [← hn1] at HFIN
        have HN1 := Lib.hid hn1
        clear hT e1 e2 hlf hlf24 hn1 HT HK
        go_wp2_with fail
        refine (HRK.out lf HNF.out HLF.out wr _ HKL.out.head).mono ?_
        rintro x w3 ⟨v, rfl, h2, h3⟩
        have HK3 := Lib.hid ((HKL.out.later h3).more h2)
        clear h2 h3 HKL
        obtain ⟨a3, c3, rfl, _, _, _⟩ := HK3.out.head.shape
        rw [rk_len, ← HN1.out] at HK3 ⊢
        go_wp2_with fail
        refine (HSM.out (rk e lf) w3 _ _ HK3.out.head HK3.out.tail.tail.head).mono ?_
        rintro x w4 ⟨rfl, h3⟩
        have HK4 := Lib.hid (HK3.out.later h3)
        clear h3 HK3
        by_cases hn0 : n1 = 0
        · have hnz : ((n1 : Int) == 0) = true := by rw [hn0]; rfl
          have hAG : (A == G) = true := by rw [HFIN.out.1 hn0]; simp
          clear hn0
          go_wp2_with fail
          go_returns
          exact ⟨rfl, HK4.out.bel⟩
        · have hnz : ((n1 : Int) == 0) = false := by rw [beq_eq_false_iff_ne]; omega
          have HC := Lib.hid (HCH.out lf HNF.out (by rw [← HN1.out]; exact hn0) w4 _ HK4.out.tail.head)
          obtain ⟨B, hB⟩ : ∃ B, B = bst e lf := ⟨_, rfl⟩
          rw [← hB] at HC HFIN
          clear hB
          go_wp2_with fail
          refine HC.out.mono ?_
          rintro x w5 ⟨rfl, h3⟩
          have HK5 := Lib.hid (HK4.out.later h3)
          clear h3 HK4 HC
          cases hAG : (A == G) with
          | true =>
            go_wp2_with fail
            go_returns
            exact ⟨rfl, HK5.out.bel⟩
          | false =>
            have hAB : (A == B) = true := by rw [(HFIN.out.2 (by rw [beq_eq_false_iff_ne] at hAG; exact hAG)).2]; simp
            go_wp2_with fail
            go_returns
            exact ⟨rfl, HK5.out.bel⟩
theorem pickKeeps_walk (e s w : Int) (W : World) (he : 0 ≤ e ∧ e ≤ 4294967295) (hs : 0 ≤ s ∧ s ≤ 4294967295) (hw : 0 ≤ w ∧ w ≤ 255) : Calls Try.prog 4 #[.int .u32 e, .int .u32 s, .int .u8 w] W fun e W' => e = .returned (.bool true) ∧ Below W.heap.size W W' := by
  obtain ⟨e, rfl⟩ : ∃ k : Nat, e = k := ⟨e.toNat, by omega⟩
  obtain ⟨s, rfl⟩ : ∃ k : Nat, s = k := ⟨s.toNat, by omega⟩
  obtain ⟨w, rfl⟩ : ∃ k : Nat, w = k := ⟨w.toNat, by omega⟩
  exact pickKeeps_nat W e s w (by omega) (by omega) (by omega)

end Go.Proofs.Ytmjaompepchieaa
