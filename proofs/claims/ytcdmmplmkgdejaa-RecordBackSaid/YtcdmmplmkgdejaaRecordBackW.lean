/- The walk of the law RecordBack, joined. -/
import Derived.Test.YtcdmmplmkgdejaaRecBk
import Derived.Test.YtcdmmplmkgdejaaRecD
set_option linter.unusedSimpArgs false
set_option linter.unusedVariables false
namespace Go.Proofs.Ytcdmmplmkgdejaa
open Go.RowKit Go.ChangeShapes Go.WideShapes

set_option maxRecDepth 100000 in
set_option maxHeartbeats 6400000 in
theorem back_more (r : Rc) (sa : Option Addr) (sc : Nat) (more : ByteArray) (s t : ByteArray) (w : World) (hA : AdjsIn w sa r.adjs) (hE : BkE r s 0) (hC : BkC r 0) (hM : BkM r) (hP : BkP r) (hES : BkES r t) (hDS : BkDS r t) (hD : BkD r s 0)
    (hsl : s.extract 0 9 = t) (h9 : 9 ≤ s.size) (a b : ByteArray) (m k : Nat) (hcat0 : ¬ 9223372036854775807 < s.size + more.size) (hne : more.toList.isEmpty = false) (ha : s ++ more = a) (hm : m = min s.size more.size) (hsm : s.size ≤ 1000) (hk : (k : Int) = (s.size : Int) - m) (hb : s.extract 0 k = b) (hDA : BkD Rc.zero a 4) (hDB : BkD Rc.zero b 4) :
    Calls Try.prog 7 #[r.ag sa sc, .string more] w fun e w' => e = .returned (.bool true) ∧ Below w.heap.size w w' := by
  obtain ⟨W1, hW1⟩ : ∃ W1, W1 = w.alloc (.cells (r.cs sa sc) 25) := ⟨_, rfl⟩
  have HS1 := Lib.hid (show BkS w r sa sc W1 by rw [hW1]; exact BkS.start hA)
  have HW1 := Lib.hid hW1
  have HE := Lib.hid hE
  have HC := Lib.hid hC
  have HM := Lib.hid hM
  have HP := Lib.hid hP
  have HES := Lib.hid hES
  have HDS := Lib.hid hDS
  have HD := Lib.hid hD
  have HSL := Lib.hid hsl
  have H9 := Lib.hid h9
  have HNE := Lib.hid hne
  have HCAT := Lib.hid hcat0
  have HDA : Hid (BkD Rc.zero (s ++ more) 4) := Lib.hid (by rw [ha]; exact hDA)
  have HDB : Hid (BkD Rc.zero (s.extract 0 k) 4) := Lib.hid (by rw [hb]; exact hDB)
  have HMK : Hid (∀ (ats : Array TypeId) (ty : TypeId) (w : World), Sem.run Try.prog (Builtin.min_ ats ty #[.int .i64 (s.size : Int), .int .i64 (more.size : Int)]) w = .ok (.int .i64 (m : Int)) w) := Lib.hid (by
    intro ats ty w
    by_cases h : (s.size : Int) ≤ (more.size : Int)
    · have : (m : Int) = (s.size : Int) := by omega
      rw [this]
      simp [Builtin.min_, Builtin.min2, h, go_sem]; omega
    · have : (m : Int) = (more.size : Int) := by omega
      rw [this]
      simp [Builtin.min_, Builtin.min2, h, go_sem]; omega)
  have HEX := Lib.hid hk.symm
  have HGE : Hid ((k : Int) ≤ (s.size : Int)) := Lib.hid (by omega)
  have HWK : Hid (wrap64 (k : Int) = (k : Int)) := Lib.hid (by unfold wrap64; omega)
  clear hne hcat0 ha hb hDA hDB hm hsm hk
  clear hW1 hE hC hA hM hP hES hDS hD hsl h9
  go_enter Try.func7, Try.ntmps7
  unfold Rc.ag Rc.cs at *
  go_wp2_with fail
  rw [← HW1.out]
  refine (works_any _).mono ?_
  rintro e V1 ⟨rfl, hb⟩
  have HS2 := Lib.hid (HS1.out.later hb)
  obtain ⟨x0, x1, x2, x3, x4, x5⟩ := BoxR.cells HS2.out.box
  clear hb
  go_wp2_with fail
  clear x0 x1 x2 x3 x4 x5
  refine (HE.out _ _ _ HS2.out.adj).mono ?_
  rintro e V2 ⟨rfl, hb⟩
  have HS3 := Lib.hid (HS2.out.later hb)
  clear hb
  go_wp2_with fail
  refine (HD.out _).mono ?_
  rintro e V3 ⟨sb, sd, rfl, hro, hb⟩
  obtain ⟨X0, hX⟩ : ∃ X, X = V3.alloc (.cells #[.int .i64 r.org, .int .u32 r.ep, .int .u32 r.sq, .int .i64 r.clm, .bool r.ing, .slice sb r.adjs.length sd] 25) := ⟨_, rfl⟩
  obtain ⟨p, hp⟩ : ∃ p, p = V3.heap.size := ⟨_, rfl⟩
  have hbX : Below V3.heap.size V3 X0 := by rw [hX]; exact (Below.refl _ _).alloc (Nat.le_refl _) _
  have HB0 := Lib.hid (show BoxR p r sb sd X0 by rw [hX, hp]; exact heap_alloc_new _ _)
  have HA0 := Lib.hid (hro.adjs.later hbX)
  have HS4 := Lib.hid ((HS3.out.later hb).later hbX)
  have HX0 := Lib.hid hX
  have HP0 := Lib.hid hp
  obtain ⟨x0, x1, x2, x3, x4, x5⟩ := BoxR.cells HS4.out.box
  clear hb hbX hX hro hp
  rw [HX0.out] at x0 x1 x2 x3 x4 x5
  go_wp2_with fail
  rw [← HX0.out, ← HP0.out]
  clear x0 x1 x2 x3 x4 x5
  refine (HC.out _ _ _ HS4.out.adj).mono ?_
  rintro e V4 ⟨rfl, hb⟩
  have HS5 := Lib.hid (HS4.out.later hb)
  have HB5 := Lib.hid (HB0.out.later hb)
  have HA5 := Lib.hid (HA0.out.later hb)
  obtain ⟨x0, x1, x2, x3, x4, x5⟩ := BoxR.cells HS5.out.box
  obtain ⟨y0, y1, y2, y3, y4, y5⟩ := BoxR.cells HB5.out
  clear hb
  go_wp2_with fail
  clear x0 x1 x2 x3 x4 x5 y0 y1 y2 y3 y4 y5
  refine (HM.out _ _ _ _ _ HA5.out HS5.out.adj).mono ?_
  rintro e V5 ⟨rfl, hb⟩
  have HS6 := Lib.hid (HS5.out.later hb)
  clear hb
  have hne2 := HNE.out
  have hcat := HCAT.out
  go_wp2_with fail
  clear hne2 hcat
  refine (HDA.out _).mono ?_
  rintro e V6 ⟨sb1, sd1, rfl, hro, hb⟩
  have HS7 := Lib.hid ((HS6.out.later hb).later ((Below.refl _ _).alloc (Nat.le_refl _) (.cells #[.int .i64 Rc.zero.org, .int .u32 Rc.zero.ep, .int .u32 Rc.zero.sq, .int .i64 Rc.zero.clm, .bool Rc.zero.ing, .slice sb1 Rc.zero.adjs.length sd1] 25)))
  clear hb hro
  have hmk := HMK.out
  have hex := HEX.out
  have hge := HGE.out
  have hwk := HWK.out
  go_wp2_with fail
  clear hmk hex hge hwk
  refine (HDB.out _).mono ?_
  rintro e V7 ⟨sb2, sd2, rfl, hro, hb⟩
  have HS8 := Lib.hid ((HS7.out.later hb).later ((Below.refl _ _).alloc (Nat.le_refl _) (.cells #[.int .i64 Rc.zero.org, .int .u32 Rc.zero.ep, .int .u32 Rc.zero.sq, .int .i64 Rc.zero.clm, .bool Rc.zero.ing, .slice sb2 Rc.zero.adjs.length sd2] 25)))
  have HS9 := HS8
  obtain ⟨x0, x1, x2, x3, x4, x5⟩ := BoxR.cells HS9.out.box
  clear hb hro
  go_wp2_with fail
  clear x0 x1 x2 x3 x4 x5
  refine (HP.out _ _ _).mono ?_
  rintro e V10 ⟨rfl, hb⟩
  have HS10 := Lib.hid (HS9.out.later hb)
  clear hb
  go_wp2_with fail
  refine (HES.out _).mono ?_
  rintro e V11 ⟨rfl, hb⟩
  have HS11 := Lib.hid (HS10.out.later hb)
  clear hb
  go_wp2_with fail
  refine (HDS.out _).mono ?_
  rintro e V12 ⟨rfl, hb⟩
  obtain ⟨X, hX⟩ : ∃ X, X = V12.alloc (.cells #[.int .i64 r.org, .int .u32 r.ep, .int .u32 r.sq] 39) := ⟨_, rfl⟩
  obtain ⟨q, hq⟩ : ∃ q, q = V12.heap.size := ⟨_, rfl⟩
  have hbX : Below V12.heap.size V12 X := by rw [hX]; exact (Below.refl _ _).alloc (Nat.le_refl _) _
  obtain ⟨U, hU⟩ : ∃ U, U = X.drew := ⟨_, rfl⟩
  have hS5 : BkS w r sa sc X := (HS11.out.later hb).later hbX
  have HS12 := Lib.hid (show BkT w r sa sc q U by
    rw [hU]
    exact BkT.drew ⟨hS5, by rw [hX, hq]; exact heap_alloc_new _ _⟩)
  have HX := Lib.hid hX
  have HQ := Lib.hid hq
  have HUU := Lib.hid hU
  clear hb hbX hX hq hU hS5
  go_wp2_with fail
  rw [← HX.out, ← HQ.out]
  refine wp_region_ord [(0, true), (1, true), (2, true), (3, true), (4, true), (5, true), (6, true), (7, true), (8, true), (9, false), (10, true), (11, true), (12, true), (13, true), (14, true), (15, true), (16, true), (17, true), (18, true)] (BkT w r sa sc q) (by kernel_rfl) (by kernel_rfl) (by decide) (by kernel_rfl) (fun d _ _ _ _ h => by cases d <;> exact h) (by rw [← HUU.out]; exact HS12.out) ?_
  rw [← HUU.out]
  iterate 9 ((apply wpOrd_take rfl rfl (by kernel_rfl); (intro V hV; obtain ⟨x0, x1, x2, x3, x4, x5⟩ := BoxR.cells hV.bk.box; obtain ⟨y0, y1, y2⟩ := BoxS.cells hV.st; simp only [Rc.st] at y0 y1 y2; go_simp; rfl)); (try simp only [List.setIfInBounds_toArray, List.set_cons_succ, List.set_cons_zero]))
  apply wpOrd_do rfl (by kernel_rfl)
  intro K hK
  go_simp
  refine (HP.out _ _ _).mono ?_
  rintro e1 X5 ⟨rfl, hb1⟩
  have HS13 := Lib.hid (HS12.out.later hb1)
  refine hK _ _ HS13.out ?_
  clear hK K hb1
  have h9 := H9.out
  have h9i : (9 : Int) ≤ (s.size : Int) := by omega
  have hsl := HSL.out
  iterate 6 ((apply wpOrd_take rfl rfl (by kernel_rfl); (intro V hV; go_simp; rfl)); (try simp only [List.setIfInBounds_toArray, List.set_cons_succ, List.set_cons_zero]))
  (try simp only [hsl])
  iterate 3 ((apply wpOrd_take rfl rfl (by kernel_rfl); (intro V hV; go_simp; rfl)); (try simp only [List.setIfInBounds_toArray, List.set_cons_succ, List.set_cons_zero]))
  refine wpOrd_nil ?_
  go_wp2_with fail
  go_returns
  exact ⟨rfl, HS13.out.bk.bel⟩

theorem recordBack_walk (x : Rc × Option Addr × Nat) (more : ByteArray) (w : World) (hx : x.1.ok ∧ AdjsIn w x.2.1 x.1.adjs ∧ x.1.adjs.length ≤ maxLen ∧ (∀ a ∈ x.1.adjs, (-9223372036854775808 ≤ a.1 ∧ a.1 ≤ 9223372036854775807) ∧ (-9223372036854775808 ≤ a.2 ∧ a.2 ≤ 9223372036854775807)) ∧ x.1.adjs.length ≤ x.2.2) (hm : more.size ≤ 140737488351232) :
    Calls Try.prog 7 #[x.1.ag x.2.1 x.2.2, .string more] w fun e w' => e = .returned (.bool true) ∧ Below w.heap.size w w' := by
  obtain ⟨r, sa, sc⟩ := x
  obtain ⟨hok, hA, hl, _, _⟩ := hx
  simp only at hok hA hl ⊢
  have hE : BkE r r.encS r.err := fun sa sc W h => encode_any r sa sc W h hl hok
  have hC : BkC r r.err := fun sa sc W h => check_any r sa sc W h hl
  by_cases hc : r.chk = true
  rotate_left
  · unfold Rc.encS at hE
    unfold Rc.err at hE hC
    rw [if_neg hc] at hE
    rw [if_neg hc] at hC
    rw [if_neg hc] at hE
    exact back_no r sa sc more w hA hE hC
  · unfold Rc.encS at hE
    unfold Rc.err at hE hC
    rw [if_pos hc] at hE
    rw [if_pos hc] at hC
    rw [if_pos hc] at hE
    have h16 := chk_len hc
    have hlen : (bs r.enc).size = 13 + 3 * r.adjs.length := by rw [bs_size, r.enc_len]
    have hM : BkM r := fun sb sd sa sc W h1 h2 => by
      have h := same_any r r sb sd sa sc W h1 h2 hl hl
      rw [show r.sm r = true from decide_eq_true rfl] at h
      exact h
    have hP : BkP r := fun sa sc W => stamp_any r sa sc W
    have hES : BkES r (bs r.st.enc) := fun W => encst_okay r.st W (st_ok hok) (chk_may hc)
    have hDS : BkDS r (bs r.st.enc) := fun W => by
      have h := decst_any (bs r.st.enc) W (by rw [bs_size, St.enc_len]; omega)
      rw [bs_toList, (decS_st hok hc).1, (decS_st hok hc).2] at h
      exact h
    have hD : BkD r (bs r.enc) 0 := fun W => decode_cells (bs r.enc) W (by omega) r 0 (by rw [bs_toList]; unfold decR; rw [if_pos (dec_enc hok hc).1, (dec_enc hok hc).2]) (by rw [bs_toList]; unfold decE; rw [if_pos (dec_enc hok hc).1])
    have hsl : (bs r.enc).extract 0 9 = bs r.st.enc := by rw [← bs_list ((bs r.enc).extract 0 9), bs_extract, st_enc]
    by_cases hm0 : more = ⟨#[]⟩
    · exact back_same r sa sc more _ _ w hA hE hC hM hP hES hDS hD hsl (by omega) hm0
    · have hne : more.data.toList ≠ [] := fun h => hm0 (by rw [← bs_list more, h]; rfl)
      have hsz : 0 < more.size := by rw [← size_len]; exact List.length_pos_iff.2 hne
      refine back_more r sa sc more _ _ w hA hE hC hM hP hES hDS hD hsl (by omega) _ _ (min (bs r.enc).size more.size) ((bs r.enc).size - min (bs r.enc).size more.size) (by omega) ?_ rfl rfl (by omega) (by omega) rfl ?_ ?_
      · rw [ByteArray.toList_eq]; exact List.isEmpty_eq_false_iff.2 hne
      · exact fun W => decode_cells _ W (by rw [ByteArray.size_append]; omega) Rc.zero 4 (by rw [bsb_append]; unfold decR; rw [decOk_more hok hc hne]; rfl) (by rw [bsb_append]; unfold decE; rw [decOk_more hok hc hne]; rfl)
      · exact fun W => decode_cells _ W (by rw [ByteArray.size_extract]; omega) Rc.zero 4 (by rw [bs_extract]; unfold decR; rw [decOk_less hok hc (by rw [r.enc_len]; omega)]; rfl) (by rw [bs_extract]; unfold decE; rw [decOk_less hok hc (by rw [r.enc_len]; omega)]; rfl)

end Go.Proofs.Ytcdmmplmkgdejaa
