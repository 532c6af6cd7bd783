import Derived.Test.YtickjmkkgcfkhaaGreatRecA
/- Contracts of the reference's record: may it be. -/
set_option linter.unusedSimpArgs false
set_option linter.unusedVariables false
set_option maxRecDepth 100000
namespace Go.Proofs.YtickjmkkgcfkhaaGreat
open Go.RowKit Go.ChangeShapes Go.WideShapes

def BoxA (b : Nat) (a : Int × Int) (V : World) : Prop := V.heap[b]? = some (.cells #[.int .i64 a.1, .int .i64 a.2] 45 (0, 0))
theorem BoxA.cells {b : Nat} {a : Int × Int} {V : World} (h : BoxA b a V) : V.cell? ⟨b, 0, none⟩ = some (.int .i64 a.1) ∧ V.cell? ⟨b, 1, none⟩ = some (.int .i64 a.2) := ⟨cell_of_row _ _ 0 _ _ _ h, cell_of_row _ _ 1 _ _ _ h⟩
structure RcS (W : World) (r : Rc) (sa : Option Addr) (sc : Nat) (q : Nat) (a : Int × Int) (V : World) : Prop where
  box : BoxR W.heap.size r sa sc V
  el : BoxA q a V
  bel : Below W.heap.size W V
theorem rrtr_any (n : Int) (W : World) : Calls Tryz.prog 76 #[.int .i64 n] W fun e W' => e = .returned (.bool (rtr n)) ∧ W = W' := by
  by_cases h1 : 1 ≤ n
  · have e : rtr n = decide (n ≤ 24) := by unfold rtr; rw [decide_eq_true h1, Bool.true_and]
    have h1' : decide (1 ≤ n) = true := decide_eq_true h1
    have HE := Lib.hid e
    clear e
    go_enter Tryz.func76, Tryz.ntmps76
    go_wp2_with fail
    go_returns
    exact ⟨by rw [HE.out]; rfl, rfl⟩
  · have e : rtr n = false := by unfold rtr; rw [decide_eq_false h1, Bool.false_and]
    have h1' : decide (1 ≤ n) = false := decide_eq_false h1
    have HE := Lib.hid e
    clear e
    go_enter Tryz.func76, Tryz.ntmps76
    go_wp2_with fail
    go_returns
    exact ⟨by rw [HE.out]; rfl, rfl⟩

def RChkRel (W : World) (r : Rc) (sa : Option Addr) (sc : Nat) (i : Value) (wr : World) : Prop :=
  ∃ (k : Nat) (z : Int), i = .int .i64 k ∧ k ≤ r.adjs.length ∧ ((k = 0 ∧ z = 0) ∨ (0 < k ∧ z = (r.adjs.getD (k - 1) default).1)) ∧ chkA r.org 0 r.adjs = chkA r.org z (r.adjs.drop k) ∧ BoxR W.heap.size r sa sc wr ∧ Below W.heap.size W wr

set_option maxRecDepth 100000 in
set_option maxHeartbeats 1600000 in
theorem rcheck_any (r : Rc) (sa : Option Addr) (sc : Nat) (W : World) (hA : AdjsIn W sa r.adjs) (hl : r.adjs.length ≤ maxLen) :
    Calls Tryz.prog 36 #[r.ag sa sc] W fun e W' => e = .returned (.int .i64 r.err) ∧ Below W.heap.size W W' := by
  unfold maxLen at hl
  obtain ⟨W1, hW1⟩ : ∃ W1, W1 = W.alloc (.cells (r.cs sa sc) 25) := ⟨_, rfl⟩
  have hb1 : Below W.heap.size W W1 := by rw [hW1]; exact (Below.refl _ _).alloc (Nat.le_refl _) _
  have hbx : BoxR W.heap.size r sa sc W1 := by rw [hW1]; exact heap_alloc_new _ _
  obtain ⟨x0, x1, x2, x3, x4, x5⟩ := hbx.cells
  have HBX := Lib.hid hbx
  have HW1 := Lib.hid hW1
  have HB1 := Lib.hid hb1
  have HAD := Lib.hid hA
  have HCS := Lib.hid (chk_cases r)
  have HR := Lib.hid (fun V => rrtr_any r.org V)
  clear hW1 hb1 hA hbx
  rcases HCS.out with ⟨h1, he⟩ | ⟨h1, h2, he⟩ | ⟨h1, h2, h3, he⟩ | ⟨h1, h2, h3, h4, he⟩ | ⟨h1, h2, h3, h4, h5, he⟩ | ⟨h1, h2, h3, h4, h5, h6, he⟩ | ⟨h1, h2, h3, h4, h5, h6, he⟩
  · have H1 := Lib.hid h1
    have HE := Lib.hid he
    clear h1 he
    go_enter Tryz.func36, Tryz.ntmps36
    unfold Rc.ag Rc.cs at *
    go_wp2_with fail
    rw [← HW1.out]
    refine (HR.out _).mono ?_
    rintro e w ⟨rfl, rfl⟩
    rw [H1.out]
    go_wp2_with fail
    go_returns
    exact ⟨by rw [HE.out]; rfl, HB1.out⟩
  · have H1 := Lib.hid h1
    have HE := Lib.hid he
    have e2 : ((r.ep : Int) == 0) = true := by simp [h2]
    clear h1 he h2
    go_enter Tryz.func36, Tryz.ntmps36
    unfold Rc.ag Rc.cs at *
    go_wp2_with fail
    rw [← HW1.out]
    refine (HR.out _).mono ?_
    rintro e w ⟨rfl, rfl⟩
    rw [H1.out]
    go_wp2_with fail
    go_returns
    exact ⟨by rw [HE.out]; rfl, HB1.out⟩
  · have H1 := Lib.hid h1
    have HE := Lib.hid he
    have e2 : ((r.ep : Int) == 0) = false := by simp [h2]
    have e3 : ((r.sq : Int) == 0) = true := by simp [h3]
    clear h1 he h2 h3
    go_enter Tryz.func36, Tryz.ntmps36
    unfold Rc.ag Rc.cs at *
    go_wp2_with fail
    rw [← HW1.out]
    refine (HR.out _).mono ?_
    rintro e w ⟨rfl, rfl⟩
    rw [H1.out]
    go_wp2_with fail
    go_returns
    exact ⟨by rw [HE.out]; rfl, HB1.out⟩
  · have H1 := Lib.hid h1
    have HE := Lib.hid he
    have e2 : ((r.ep : Int) == 0) = false := by simp [h2]
    have e3 : ((r.sq : Int) == 0) = false := by simp [h3]
    clear h1 he h2 h3
    go_enter Tryz.func36, Tryz.ntmps36
    unfold Rc.ag Rc.cs at *
    go_wp2_with fail
    rw [← HW1.out]
    refine (HR.out _).mono ?_
    rintro e w ⟨rfl, rfl⟩
    rw [H1.out]
    go_wp2_with fail
    go_returns
    exact ⟨by rw [HE.out]; rfl, HB1.out⟩
  · have H1 := Lib.hid h1
    have HE := Lib.hid he
    have e2 : ((r.ep : Int) == 0) = false := by simp [h2]
    have e3 : ((r.sq : Int) == 0) = false := by simp [h3]
    clear h1 he h2 h3
    go_enter Tryz.func36, Tryz.ntmps36
    unfold Rc.ag Rc.cs at *
    go_wp2_with fail
    rw [← HW1.out]
    refine (HR.out _).mono ?_
    rintro e w ⟨rfl, rfl⟩
    rw [H1.out]
    go_wp2_with fail
    go_returns
    exact ⟨by rw [HE.out]; rfl, HB1.out⟩
  · have H1 := Lib.hid h1
    have HE := Lib.hid he
    have e2 : ((r.ep : Int) == 0) = false := by simp [h2]
    have e3 : ((r.sq : Int) == 0) = false := by simp [h3]
    clear h1 he h2 h3
    go_enter Tryz.func36, Tryz.ntmps36
    unfold Rc.ag Rc.cs at *
    go_wp2_with fail
    rw [← HW1.out]
    refine (HR.out _).mono ?_
    rintro e w ⟨rfl, rfl⟩
    rw [H1.out]
    go_wp2_with fail
    go_returns
    exact ⟨by rw [HE.out]; rfl, HB1.out⟩
  · have H1 := Lib.hid h1
    have HE := Lib.hid he
    have e2 : ((r.ep : Int) == 0) = false := by simp [h2]
    have e3 : ((r.sq : Int) == 0) = false := by simp [h3]
    clear h1 he h2 h3
    go_enter Tryz.func36, Tryz.ntmps36
    unfold Rc.ag Rc.cs at *
    go_wp2_with fail
    rw [← HW1.out]
    refine (HR.out _).mono ?_
    rintro e w ⟨rfl, rfl⟩
    rw [H1.out]
    go_wp2_with fail
    go_loopw [3] (fun i wr => RChkRel W r sa sc i wr) (fun i _ => 17 - (intOf i).toNat)
    case atStart => exact ⟨0, 0, rfl, Nat.zero_le _, .inl ⟨rfl, rfl⟩, by rw [List.drop_zero], HBX.out, HB1.out⟩
    case round =>
      obtain ⟨k, z, rfl, hk, hkz, hch, hbx, hb⟩ := hrel
      by_cases hlt : k < r.adjs.length
      · obtain ⟨ad, ha, c0, c1⟩ := HAD.out k hlt
        have hd : r.adjs.drop k = r.adjs.getD k default :: r.adjs.drop (k + 1) := by
          rw [List.drop_eq_getElem_cons hlt, List.getD_eq_getElem?_getD, List.getElem?_eq_getElem hlt]; rfl
        rw [hd] at hch
        obtain ⟨a, hae⟩ : ∃ a, a = r.adjs.getD k default := ⟨_, rfl⟩
        rw [← hae] at c0 c1 hch
        obtain ⟨X, hX⟩ : ∃ X, X = wr.alloc (.cells #[.int .i64 a.1, .int .i64 a.2] 45) := ⟨_, rfl⟩
        have hbX : Below wr.heap.size wr X := by rw [hX]; exact (Below.refl _ _).alloc (Nat.le_refl _) _
        obtain ⟨q, hq⟩ : ∃ q, q = wr.heap.size := ⟨_, rfl⟩
        have HS := Lib.hid (show RcS W r sa sc q a X.drew from ⟨(show BoxR W.heap.size r sa sc X from hbx.later hbX), by rw [hX, hq]; exact heap_alloc_new _ _, (hb.trans (hbX.mono hb.size)).trans ⟨rfl, rfl, rfl, Nat.le_refl _, fun _ _ => rfl⟩⟩)
        have HX := Lib.hid hX
        have HQ := Lib.hid hq
        have HAE := Lib.hid hae
        have HV := Lib.hid (show ∀ V, Below W.heap.size W V → AdjsIn V sa r.adjs from fun V hV => HAD.out.later hV)
        have c0' := (hb.cell (block_lt_of_cell c0)).trans c0
        have c1' := (hb.cell (block_lt_of_cell c1)).trans c1
        obtain ⟨x0, x1, x2, x3, x4, x5⟩ := hbx.cells
        have hkl : (k : Int) < (r.adjs.length : Int) := by omega
        subst ha
        clear hX hbX hbx hd hae c0 c1 hb hq
        rcases hkz with ⟨hk0, hz0⟩ | ⟨hk0, hz⟩
        · subst hz0
          have hk0' : decide (0 < k) = false := decide_eq_false (by omega)
          clear hk0
          have hcs : (rtr a.1 = false ∧ chkA r.org 0 (a :: r.adjs.drop (k + 1)) = false) ∨ (rtr a.1 = true ∧ a.1 = r.org ∧ chkA r.org 0 (a :: r.adjs.drop (k + 1)) = false) ∨ (rtr a.1 = true ∧ a.1 ≠ r.org ∧ a.2 < 1 ∧ chkA r.org 0 (a :: r.adjs.drop (k + 1)) = false) ∨ (rtr a.1 = true ∧ a.1 ≠ r.org ∧ 1 ≤ a.2 ∧ 1000 < a.2 ∧ chkA r.org 0 (a :: r.adjs.drop (k + 1)) = false) ∨ (rtr a.1 = true ∧ a.1 ≠ r.org ∧ 1 ≤ a.2 ∧ a.2 ≤ 1000 ∧ chkA r.org 0 (a :: r.adjs.drop (k + 1)) = chkA r.org a.1 (r.adjs.drop (k + 1))) := by
            rcases chkA_cases r.org 0 a (r.adjs.drop (k + 1)) with h | h | h | h | ⟨h, _, _, _, h5, _⟩ | ⟨h1, h2, h3, h4, _, h6⟩
            · exact .inl h
            · exact .inr (.inl h)
            · exact .inr (.inr (.inl h))
            · exact .inr (.inr (.inr (.inl h)))
            · simp only [rtr, Bool.and_eq_true, decide_eq_true_eq] at h; omega
            · exact .inr (.inr (.inr (.inr ⟨h1, h2, h3, h4, h6⟩)))
          rcases hcs with ⟨g1, gc⟩ | ⟨g1, g2, gc⟩ | ⟨g1, g2, g3, gc⟩ | ⟨g1, g2, g3, g4, gc⟩ | ⟨g1, g2, g3, g4, gc⟩
          · have G1 := Lib.hid g1
            have HE2 := Lib.hid (show r.err = 2 by rw [HE.out, hch, gc]; rfl)
            clear g1 gc hch
            go_wp2_with fail
            rw [← HX.out, ← HQ.out]
            refine wp_region_ord [(0, true), (1, true), (2, false), (3, true), (4, true), (5, true), (6, true), (7, true), (8, true), (9, true), (10, true), (11, true), (12, true), (13, true), (14, true), (15, true), (16, true), (17, true), (18, true), (19, true), (20, true), (21, true), (22, true), (23, true), (24, true), (25, true), (26, true), (27, true), (28, true), (29, true), (30, true), (31, true), (32, true), (33, true), (34, true), (35, true), (36, true)] (RcS W r (some ad) sc q a) (by kernel_rfl) (by kernel_rfl) (by decide) (by kernel_rfl) (fun d _ _ _ _ h => by cases d <;> exact h) HS.out ?_
            iterate 2 ((apply wpOrd_take rfl rfl (by kernel_rfl); (intro V hV; obtain ⟨x0, x1, x2, x3, x4, x5⟩ := BoxR.cells hV.box; obtain ⟨b0, b1⟩ := BoxA.cells hV.el; go_simp; rfl)); (try simp only [List.setIfInBounds_toArray, List.set_cons_succ, List.set_cons_zero]))
            apply wpOrd_do rfl (by kernel_rfl)
            intro K hK
            go_simp
            refine (rrtr_any a.1 _).mono ?_
            rintro e w ⟨rfl, rfl⟩
            rw [G1.out]
            refine hK _ _ HS.out ?_
            clear hK K
            iterate 2 ((apply wpOrd_take rfl rfl (by kernel_rfl); (intro V hV; obtain ⟨x0, x1, x2, x3, x4, x5⟩ := BoxR.cells hV.box; obtain ⟨b0, b1⟩ := BoxA.cells hV.el; go_simp; rfl)); (try simp only [List.setIfInBounds_toArray, List.set_cons_succ, List.set_cons_zero]))
            iterate 5 ((apply wpOrd_skip rfl rfl (by kernel_rfl)); (try simp only [List.setIfInBounds_toArray, List.set_cons_succ, List.set_cons_zero]))
            iterate 2 ((apply wpOrd_take rfl rfl (by kernel_rfl); (intro V hV; obtain ⟨x0, x1, x2, x3, x4, x5⟩ := BoxR.cells hV.box; obtain ⟨b0, b1⟩ := BoxA.cells hV.el; go_simp; rfl)); (try simp only [List.setIfInBounds_toArray, List.set_cons_succ, List.set_cons_zero]))
            iterate 3 ((apply wpOrd_skip rfl rfl (by kernel_rfl)); (try simp only [List.setIfInBounds_toArray, List.set_cons_succ, List.set_cons_zero]))
            iterate 2 ((apply wpOrd_take rfl rfl (by kernel_rfl); (intro V hV; obtain ⟨x0, x1, x2, x3, x4, x5⟩ := BoxR.cells hV.box; obtain ⟨b0, b1⟩ := BoxA.cells hV.el; go_simp; rfl)); (try simp only [List.setIfInBounds_toArray, List.set_cons_succ, List.set_cons_zero]))
            iterate 3 ((apply wpOrd_skip rfl rfl (by kernel_rfl)); (try simp only [List.setIfInBounds_toArray, List.set_cons_succ, List.set_cons_zero]))
            iterate 2 ((apply wpOrd_take rfl rfl (by kernel_rfl); (intro V hV; obtain ⟨x0, x1, x2, x3, x4, x5⟩ := BoxR.cells hV.box; obtain ⟨b0, b1⟩ := BoxA.cells hV.el; go_simp; rfl)); (try simp only [List.setIfInBounds_toArray, List.set_cons_succ, List.set_cons_zero]))
            iterate 3 ((apply wpOrd_skip rfl rfl (by kernel_rfl)); (try simp only [List.setIfInBounds_toArray, List.set_cons_succ, List.set_cons_zero]))
            iterate 10 ((apply wpOrd_skip rfl rfl (by kernel_rfl)); (try simp only [List.setIfInBounds_toArray, List.set_cons_succ, List.set_cons_zero]))
            iterate 1 ((apply wpOrd_skip rfl rfl (by kernel_rfl)); (try simp only [List.setIfInBounds_toArray, List.set_cons_succ, List.set_cons_zero]))
            iterate 1 ((apply wpOrd_take rfl rfl (by kernel_rfl); (intro V hV; obtain ⟨x0, x1, x2, x3, x4, x5⟩ := BoxR.cells hV.box; obtain ⟨b0, b1⟩ := BoxA.cells hV.el; go_simp; rfl)); (try simp only [List.setIfInBounds_toArray, List.set_cons_succ, List.set_cons_zero]))
            refine wpOrd_nil ?_
            go_wp2_with fail
            go_returns
            exact ⟨by rw [HE2.out]; rfl, HS.out.bel⟩
          · have G1 := Lib.hid g1
            have e2 : (a.1 == r.org) = true := by rw [beq_iff_eq]; exact g2
            have HE2 := Lib.hid (show r.err = 2 by rw [HE.out, hch, gc]; rfl)
            clear g1 g2 gc hch
            go_wp2_with fail
            rw [← HX.out, ← HQ.out]
            refine wp_region_ord [(0, true), (1, true), (2, false), (3, true), (4, true), (5, true), (6, true), (7, true), (8, true), (9, true), (10, true), (11, true), (12, true), (13, true), (14, true), (15, true), (16, true), (17, true), (18, true), (19, true), (20, true), (21, true), (22, true), (23, true), (24, true), (25, true), (26, true), (27, true), (28, true), (29, true), (30, true), (31, true), (32, true), (33, true), (34, true), (35, true), (36, true)] (RcS W r (some ad) sc q a) (by kernel_rfl) (by kernel_rfl) (by decide) (by kernel_rfl) (fun d _ _ _ _ h => by cases d <;> exact h) HS.out ?_
            iterate 2 ((apply wpOrd_take rfl rfl (by kernel_rfl); (intro V hV; obtain ⟨x0, x1, x2, x3, x4, x5⟩ := BoxR.cells hV.box; obtain ⟨b0, b1⟩ := BoxA.cells hV.el; go_simp; rfl)); (try simp only [List.setIfInBounds_toArray, List.set_cons_succ, List.set_cons_zero]))
            apply wpOrd_do rfl (by kernel_rfl)
            intro K hK
            go_simp
            refine (rrtr_any a.1 _).mono ?_
            rintro e w ⟨rfl, rfl⟩
            rw [G1.out]
            refine hK _ _ HS.out ?_
            clear hK K
            iterate 2 ((apply wpOrd_take rfl rfl (by kernel_rfl); (intro V hV; obtain ⟨x0, x1, x2, x3, x4, x5⟩ := BoxR.cells hV.box; obtain ⟨b0, b1⟩ := BoxA.cells hV.el; go_simp; rfl)); (try simp only [List.setIfInBounds_toArray, List.set_cons_succ, List.set_cons_zero]))
            iterate 5 ((apply wpOrd_take rfl rfl (by kernel_rfl); (intro V hV; obtain ⟨x0, x1, x2, x3, x4, x5⟩ := BoxR.cells hV.box; obtain ⟨b0, b1⟩ := BoxA.cells hV.el; go_simp; rfl)); (try simp only [List.setIfInBounds_toArray, List.set_cons_succ, List.set_cons_zero]))
            iterate 2 ((apply wpOrd_take rfl rfl (by kernel_rfl); (intro V hV; obtain ⟨x0, x1, x2, x3, x4, x5⟩ := BoxR.cells hV.box; obtain ⟨b0, b1⟩ := BoxA.cells hV.el; go_simp; rfl)); (try simp only [List.setIfInBounds_toArray, List.set_cons_succ, List.set_cons_zero]))
            iterate 3 ((apply wpOrd_skip rfl rfl (by kernel_rfl)); (try simp only [List.setIfInBounds_toArray, List.set_cons_succ, List.set_cons_zero]))
            iterate 2 ((apply wpOrd_take rfl rfl (by kernel_rfl); (intro V hV; obtain ⟨x0, x1, x2, x3, x4, x5⟩ := BoxR.cells hV.box; obtain ⟨b0, b1⟩ := BoxA.cells hV.el; go_simp; rfl)); (try simp only [List.setIfInBounds_toArray, List.set_cons_succ, List.set_cons_zero]))
            iterate 3 ((apply wpOrd_skip rfl rfl (by kernel_rfl)); (try simp only [List.setIfInBounds_toArray, List.set_cons_succ, List.set_cons_zero]))
            iterate 2 ((apply wpOrd_take rfl rfl (by kernel_rfl); (intro V hV; obtain ⟨x0, x1, x2, x3, x4, x5⟩ := BoxR.cells hV.box; obtain ⟨b0, b1⟩ := BoxA.cells hV.el; go_simp; rfl)); (try simp only [List.setIfInBounds_toArray, List.set_cons_succ, List.set_cons_zero]))
            iterate 3 ((apply wpOrd_skip rfl rfl (by kernel_rfl)); (try simp only [List.setIfInBounds_toArray, List.set_cons_succ, List.set_cons_zero]))
            iterate 10 ((apply wpOrd_skip rfl rfl (by kernel_rfl)); (try simp only [List.setIfInBounds_toArray, List.set_cons_succ, List.set_cons_zero]))
            iterate 1 ((apply wpOrd_skip rfl rfl (by kernel_rfl)); (try simp only [List.setIfInBounds_toArray, List.set_cons_succ, List.set_cons_zero]))
            iterate 1 ((apply wpOrd_take rfl rfl (by kernel_rfl); (intro V hV; obtain ⟨x0, x1, x2, x3, x4, x5⟩ := BoxR.cells hV.box; obtain ⟨b0, b1⟩ := BoxA.cells hV.el; go_simp; rfl)); (try simp only [List.setIfInBounds_toArray, List.set_cons_succ, List.set_cons_zero]))
            refine wpOrd_nil ?_
            go_wp2_with fail
            go_returns
            exact ⟨by rw [HE2.out]; rfl, HS.out.bel⟩
          · have G1 := Lib.hid g1
            have e2 : (a.1 == r.org) = false := by rw [beq_eq_false_iff_ne]; exact g2
            have e3 : decide (a.2 < 1) = true := decide_eq_true g3
            have HE2 := Lib.hid (show r.err = 2 by rw [HE.out, hch, gc]; rfl)
            clear g1 g2 gc hch
            go_wp2_with fail
            rw [← HX.out, ← HQ.out]
            refine wp_region_ord [(0, true), (1, true), (2, false), (3, true), (4, true), (5, true), (6, true), (7, true), (8, true), (9, true), (10, true), (11, true), (12, true), (13, true), (14, true), (15, true), (16, true), (17, true), (18, true), (19, true), (20, true), (21, true), (22, true), (23, true), (24, true), (25, true), (26, true), (27, true), (28, true), (29, true), (30, true), (31, true), (32, true), (33, true), (34, true), (35, true), (36, true)] (RcS W r (some ad) sc q a) (by kernel_rfl) (by kernel_rfl) (by decide) (by kernel_rfl) (fun d _ _ _ _ h => by cases d <;> exact h) HS.out ?_
            iterate 2 ((apply wpOrd_take rfl rfl (by kernel_rfl); (intro V hV; obtain ⟨x0, x1, x2, x3, x4, x5⟩ := BoxR.cells hV.box; obtain ⟨b0, b1⟩ := BoxA.cells hV.el; go_simp; rfl)); (try simp only [List.setIfInBounds_toArray, List.set_cons_succ, List.set_cons_zero]))
            apply wpOrd_do rfl (by kernel_rfl)
            intro K hK
            go_simp
            refine (rrtr_any a.1 _).mono ?_
            rintro e w ⟨rfl, rfl⟩
            rw [G1.out]
            refine hK _ _ HS.out ?_
            clear hK K
            iterate 2 ((apply wpOrd_take rfl rfl (by kernel_rfl); (intro V hV; obtain ⟨x0, x1, x2, x3, x4, x5⟩ := BoxR.cells hV.box; obtain ⟨b0, b1⟩ := BoxA.cells hV.el; go_simp; rfl)); (try simp only [List.setIfInBounds_toArray, List.set_cons_succ, List.set_cons_zero]))
            iterate 5 ((apply wpOrd_take rfl rfl (by kernel_rfl); (intro V hV; obtain ⟨x0, x1, x2, x3, x4, x5⟩ := BoxR.cells hV.box; obtain ⟨b0, b1⟩ := BoxA.cells hV.el; go_simp; rfl)); (try simp only [List.setIfInBounds_toArray, List.set_cons_succ, List.set_cons_zero]))
            iterate 2 ((apply wpOrd_take rfl rfl (by kernel_rfl); (intro V hV; obtain ⟨x0, x1, x2, x3, x4, x5⟩ := BoxR.cells hV.box; obtain ⟨b0, b1⟩ := BoxA.cells hV.el; go_simp; rfl)); (try simp only [List.setIfInBounds_toArray, List.set_cons_succ, List.set_cons_zero]))
            iterate 3 ((apply wpOrd_take rfl rfl (by kernel_rfl); (intro V hV; obtain ⟨x0, x1, x2, x3, x4, x5⟩ := BoxR.cells hV.box; obtain ⟨b0, b1⟩ := BoxA.cells hV.el; go_simp; rfl)); (try simp only [List.setIfInBounds_toArray, List.set_cons_succ, List.set_cons_zero]))
            iterate 2 ((apply wpOrd_take rfl rfl (by kernel_rfl); (intro V hV; obtain ⟨x0, x1, x2, x3, x4, x5⟩ := BoxR.cells hV.box; obtain ⟨b0, b1⟩ := BoxA.cells hV.el; go_simp; rfl)); (try simp only [List.setIfInBounds_toArray, List.set_cons_succ, List.set_cons_zero]))
            iterate 3 ((apply wpOrd_skip rfl rfl (by kernel_rfl)); (try simp only [List.setIfInBounds_toArray, List.set_cons_succ, List.set_cons_zero]))
            iterate 2 ((apply wpOrd_take rfl rfl (by kernel_rfl); (intro V hV; obtain ⟨x0, x1, x2, x3, x4, x5⟩ := BoxR.cells hV.box; obtain ⟨b0, b1⟩ := BoxA.cells hV.el; go_simp; rfl)); (try simp only [List.setIfInBounds_toArray, List.set_cons_succ, List.set_cons_zero]))
            iterate 3 ((apply wpOrd_skip rfl rfl (by kernel_rfl)); (try simp only [List.setIfInBounds_toArray, List.set_cons_succ, List.set_cons_zero]))
            iterate 10 ((apply wpOrd_skip rfl rfl (by kernel_rfl)); (try simp only [List.setIfInBounds_toArray, List.set_cons_succ, List.set_cons_zero]))
            iterate 1 ((apply wpOrd_skip rfl rfl (by kernel_rfl)); (try simp only [List.setIfInBounds_toArray, List.set_cons_succ, List.set_cons_zero]))
            iterate 1 ((apply wpOrd_take rfl rfl (by kernel_rfl); (intro V hV; obtain ⟨x0, x1, x2, x3, x4, x5⟩ := BoxR.cells hV.box; obtain ⟨b0, b1⟩ := BoxA.cells hV.el; go_simp; rfl)); (try simp only [List.setIfInBounds_toArray, List.set_cons_succ, List.set_cons_zero]))
            refine wpOrd_nil ?_
            go_wp2_with fail
            go_returns
            exact ⟨by rw [HE2.out]; rfl, HS.out.bel⟩
          · have G1 := Lib.hid g1
            have e2 : (a.1 == r.org) = false := by rw [beq_eq_false_iff_ne]; exact g2
            have e3 : decide (a.2 < 1) = false := decide_eq_false (by omega)
            have e4 : decide (1000 < a.2) = true := decide_eq_true g4
            have HE2 := Lib.hid (show r.err = 2 by rw [HE.out, hch, gc]; rfl)
            clear g1 g2 gc hch
            go_wp2_with fail
            rw [← HX.out, ← HQ.out]
            refine wp_region_ord [(0, true), (1, true), (2, false), (3, true), (4, true), (5, true), (6, true), (7, true), (8, true), (9, true), (10, true), (11, true), (12, true), (13, true), (14, true), (15, true), (16, true), (17, true), (18, true), (19, true), (20, true), (21, true), (22, true), (23, true), (24, true), (25, true), (26, true), (27, true), (28, true), (29, true), (30, true), (31, true), (32, true), (33, true), (34, true), (35, true), (36, true)] (RcS W r (some ad) sc q a) (by kernel_rfl) (by kernel_rfl) (by decide) (by kernel_rfl) (fun d _ _ _ _ h => by cases d <;> exact h) HS.out ?_
            iterate 2 ((apply wpOrd_take rfl rfl (by kernel_rfl); (intro V hV; obtain ⟨x0, x1, x2, x3, x4, x5⟩ := BoxR.cells hV.box; obtain ⟨b0, b1⟩ := BoxA.cells hV.el; go_simp; rfl)); (try simp only [List.setIfInBounds_toArray, List.set_cons_succ, List.set_cons_zero]))
            apply wpOrd_do rfl (by kernel_rfl)
            intro K hK
            go_simp
            refine (rrtr_any a.1 _).mono ?_
            rintro e w ⟨rfl, rfl⟩
            rw [G1.out]
            refine hK _ _ HS.out ?_
            clear hK K
            iterate 2 ((apply wpOrd_take rfl rfl (by kernel_rfl); (intro V hV; obtain ⟨x0, x1, x2, x3, x4, x5⟩ := BoxR.cells hV.box; obtain ⟨b0, b1⟩ := BoxA.cells hV.el; go_simp; rfl)); (try simp only [List.setIfInBounds_toArray, List.set_cons_succ, List.set_cons_zero]))
            iterate 5 ((apply wpOrd_take rfl rfl (by kernel_rfl); (intro V hV; obtain ⟨x0, x1, x2, x3, x4, x5⟩ := BoxR.cells hV.box; obtain ⟨b0, b1⟩ := BoxA.cells hV.el; go_simp; rfl)); (try simp only [List.setIfInBounds_toArray, List.set_cons_succ, List.set_cons_zero]))
            iterate 2 ((apply wpOrd_take rfl rfl (by kernel_rfl); (intro V hV; obtain ⟨x0, x1, x2, x3, x4, x5⟩ := BoxR.cells hV.box; obtain ⟨b0, b1⟩ := BoxA.cells hV.el; go_simp; rfl)); (try simp only [List.setIfInBounds_toArray, List.set_cons_succ, List.set_cons_zero]))
            iterate 3 ((apply wpOrd_take rfl rfl (by kernel_rfl); (intro V hV; obtain ⟨x0, x1, x2, x3, x4, x5⟩ := BoxR.cells hV.box; obtain ⟨b0, b1⟩ := BoxA.cells hV.el; go_simp; rfl)); (try simp only [List.setIfInBounds_toArray, List.set_cons_succ, List.set_cons_zero]))
            iterate 2 ((apply wpOrd_take rfl rfl (by kernel_rfl); (intro V hV; obtain ⟨x0, x1, x2, x3, x4, x5⟩ := BoxR.cells hV.box; obtain ⟨b0, b1⟩ := BoxA.cells hV.el; go_simp; rfl)); (try simp only [List.setIfInBounds_toArray, List.set_cons_succ, List.set_cons_zero]))
            iterate 3 ((apply wpOrd_take rfl rfl (by kernel_rfl); (intro V hV; obtain ⟨x0, x1, x2, x3, x4, x5⟩ := BoxR.cells hV.box; obtain ⟨b0, b1⟩ := BoxA.cells hV.el; go_simp; rfl)); (try simp only [List.setIfInBounds_toArray, List.set_cons_succ, List.set_cons_zero]))
            iterate 2 ((apply wpOrd_take rfl rfl (by kernel_rfl); (intro V hV; obtain ⟨x0, x1, x2, x3, x4, x5⟩ := BoxR.cells hV.box; obtain ⟨b0, b1⟩ := BoxA.cells hV.el; go_simp; rfl)); (try simp only [List.setIfInBounds_toArray, List.set_cons_succ, List.set_cons_zero]))
            iterate 3 ((apply wpOrd_skip rfl rfl (by kernel_rfl)); (try simp only [List.setIfInBounds_toArray, List.set_cons_succ, List.set_cons_zero]))
            iterate 10 ((apply wpOrd_skip rfl rfl (by kernel_rfl)); (try simp only [List.setIfInBounds_toArray, List.set_cons_succ, List.set_cons_zero]))
            iterate 1 ((apply wpOrd_skip rfl rfl (by kernel_rfl)); (try simp only [List.setIfInBounds_toArray, List.set_cons_succ, List.set_cons_zero]))
            iterate 1 ((apply wpOrd_take rfl rfl (by kernel_rfl); (intro V hV; obtain ⟨x0, x1, x2, x3, x4, x5⟩ := BoxR.cells hV.box; obtain ⟨b0, b1⟩ := BoxA.cells hV.el; go_simp; rfl)); (try simp only [List.setIfInBounds_toArray, List.set_cons_succ, List.set_cons_zero]))
            refine wpOrd_nil ?_
            go_wp2_with fail
            go_returns
            exact ⟨by rw [HE2.out]; rfl, HS.out.bel⟩
          · have G1 := Lib.hid g1
            have e2 : (a.1 == r.org) = false := by rw [beq_eq_false_iff_ne]; exact g2
            have e3 : decide (a.2 < 1) = false := decide_eq_false (by omega)
            have e4 : decide (1000 < a.2) = false := decide_eq_false (by omega)
            have HREL := Lib.hid (show ∀ V, RcS W r (some ad) sc q a V → RChkRel W r (some ad) sc (.int .i64 ((k : Int) + 1)) V from fun V hV => ⟨k + 1, a.1, by go_num, hlt, .inr ⟨Nat.succ_pos _, by rw [Nat.add_sub_cancel, ← HAE.out]⟩, by rw [hch, gc], hV.box, hV.bel⟩)
            clear g1 g2 gc hch
            go_wp2_with fail
            rw [← HX.out, ← HQ.out]
            refine wp_region_ord [(0, true), (1, true), (2, false), (3, true), (4, true), (5, true), (6, true), (7, true), (8, true), (9, true), (10, true), (11, true), (12, true), (13, true), (14, true), (15, true), (16, true), (17, true), (18, true), (19, true), (20, true), (21, true), (22, true), (23, true), (24, true), (25, true), (26, true), (27, true), (28, true), (29, true), (30, true), (31, true), (32, true), (33, true), (34, true), (35, true), (36, true)] (RcS W r (some ad) sc q a) (by kernel_rfl) (by kernel_rfl) (by decide) (by kernel_rfl) (fun d _ _ _ _ h => by cases d <;> exact h) HS.out ?_
            iterate 2 ((apply wpOrd_take rfl rfl (by kernel_rfl); (intro V hV; obtain ⟨x0, x1, x2, x3, x4, x5⟩ := BoxR.cells hV.box; obtain ⟨b0, b1⟩ := BoxA.cells hV.el; go_simp; rfl)); (try simp only [List.setIfInBounds_toArray, List.set_cons_succ, List.set_cons_zero]))
            apply wpOrd_do rfl (by kernel_rfl)
            intro K hK
            go_simp
            refine (rrtr_any a.1 _).mono ?_
            rintro e w ⟨rfl, rfl⟩
            rw [G1.out]
            refine hK _ _ HS.out ?_
            clear hK K
            iterate 2 ((apply wpOrd_take rfl rfl (by kernel_rfl); (intro V hV; obtain ⟨x0, x1, x2, x3, x4, x5⟩ := BoxR.cells hV.box; obtain ⟨b0, b1⟩ := BoxA.cells hV.el; go_simp; rfl)); (try simp only [List.setIfInBounds_toArray, List.set_cons_succ, List.set_cons_zero]))
            iterate 5 ((apply wpOrd_take rfl rfl (by kernel_rfl); (intro V hV; obtain ⟨x0, x1, x2, x3, x4, x5⟩ := BoxR.cells hV.box; obtain ⟨b0, b1⟩ := BoxA.cells hV.el; go_simp; rfl)); (try simp only [List.setIfInBounds_toArray, List.set_cons_succ, List.set_cons_zero]))
            iterate 2 ((apply wpOrd_take rfl rfl (by kernel_rfl); (intro V hV; obtain ⟨x0, x1, x2, x3, x4, x5⟩ := BoxR.cells hV.box; obtain ⟨b0, b1⟩ := BoxA.cells hV.el; go_simp; rfl)); (try simp only [List.setIfInBounds_toArray, List.set_cons_succ, List.set_cons_zero]))
            iterate 3 ((apply wpOrd_take rfl rfl (by kernel_rfl); (intro V hV; obtain ⟨x0, x1, x2, x3, x4, x5⟩ := BoxR.cells hV.box; obtain ⟨b0, b1⟩ := BoxA.cells hV.el; go_simp; rfl)); (try simp only [List.setIfInBounds_toArray, List.set_cons_succ, List.set_cons_zero]))
            iterate 2 ((apply wpOrd_take rfl rfl (by kernel_rfl); (intro V hV; obtain ⟨x0, x1, x2, x3, x4, x5⟩ := BoxR.cells hV.box; obtain ⟨b0, b1⟩ := BoxA.cells hV.el; go_simp; rfl)); (try simp only [List.setIfInBounds_toArray, List.set_cons_succ, List.set_cons_zero]))
            iterate 3 ((apply wpOrd_take rfl rfl (by kernel_rfl); (intro V hV; obtain ⟨x0, x1, x2, x3, x4, x5⟩ := BoxR.cells hV.box; obtain ⟨b0, b1⟩ := BoxA.cells hV.el; go_simp; rfl)); (try simp only [List.setIfInBounds_toArray, List.set_cons_succ, List.set_cons_zero]))
            iterate 2 ((apply wpOrd_take rfl rfl (by kernel_rfl); (intro V hV; obtain ⟨x0, x1, x2, x3, x4, x5⟩ := BoxR.cells hV.box; obtain ⟨b0, b1⟩ := BoxA.cells hV.el; go_simp; rfl)); (try simp only [List.setIfInBounds_toArray, List.set_cons_succ, List.set_cons_zero]))
            iterate 3 ((apply wpOrd_take rfl rfl (by kernel_rfl); (intro V hV; obtain ⟨x0, x1, x2, x3, x4, x5⟩ := BoxR.cells hV.box; obtain ⟨b0, b1⟩ := BoxA.cells hV.el; go_simp; rfl)); (try simp only [List.setIfInBounds_toArray, List.set_cons_succ, List.set_cons_zero]))
            iterate 10 ((apply wpOrd_skip rfl rfl (by kernel_rfl)); (try simp only [List.setIfInBounds_toArray, List.set_cons_succ, List.set_cons_zero]))
            iterate 1 ((apply wpOrd_take rfl rfl (by kernel_rfl); (intro V hV; obtain ⟨x0, x1, x2, x3, x4, x5⟩ := BoxR.cells hV.box; obtain ⟨b0, b1⟩ := BoxA.cells hV.el; go_simp; rfl)); (try simp only [List.setIfInBounds_toArray, List.set_cons_succ, List.set_cons_zero]))
            iterate 1 ((apply wpOrd_take rfl rfl (by kernel_rfl); (intro V hV; obtain ⟨x0, x1, x2, x3, x4, x5⟩ := BoxR.cells hV.box; obtain ⟨b0, b1⟩ := BoxA.cells hV.el; go_simp; rfl)); (try simp only [List.setIfInBounds_toArray, List.set_cons_succ, List.set_cons_zero]))
            refine wpOrd_nil ?_
            have HR2 := Lib.hid (HREL.out _ HS.out)
            go_wp2_with fail
            go_roundw
            case rel => first | exact HR2.out | ((repeat apply Exists.intro); exact ⟨HR2.out, rfl⟩)
            case measure => simp [intOf]; omega
        · obtain ⟨j, hj⟩ : ∃ j, j + 1 = k := ⟨k - 1, by omega⟩
          have hjw : IntKind.i64.wrap ((k : Int) - 1) = (j : Int) := by rw [IntWalk.i64_in _ (by omega)]; omega
          have hjl : (j : Int) < (r.adjs.length : Int) := by omega
          have hk0' : decide (0 < k) = true := decide_eq_true hk0
          have HPV := Lib.hid (show ∀ V, Below W.heap.size W V → V.cell? (ad.add (j * 2)) = some (.int .i64 z) ∧ True from fun V hV => by
            obtain ⟨ad', h1, h2, _⟩ := HV.out V hV j (by omega)
            simp only [Option.some.injEq] at h1
            subst h1
            rw [hz, show k - 1 = j from by omega]
            exact ⟨h2, trivial⟩)
          clear hj hz
          have hcs := chkA_cases r.org z a (r.adjs.drop (k + 1))
          rcases hcs with ⟨g1, gc⟩ | ⟨g1, g2, gc⟩ | ⟨g1, g2, g3, gc⟩ | ⟨g1, g2, g3, g4, gc⟩ | ⟨g1, g2, g3, g4, g5, gc⟩ | ⟨g1, g2, g3, g4, g5, gc⟩
          · have G1 := Lib.hid g1
            have HE2 := Lib.hid (show r.err = 2 by rw [HE.out, hch, gc]; rfl)
            clear g1 gc hch
            go_wp2_with fail
            rw [← HX.out, ← HQ.out]
            refine wp_region_ord [(0, true), (1, true), (2, false), (3, true), (4, true), (5, true), (6, true), (7, true), (8, true), (9, true), (10, true), (11, true), (12, true), (13, true), (14, true), (15, true), (16, true), (17, true), (18, true), (19, true), (20, true), (21, true), (22, true), (23, true), (24, true), (25, true), (26, true), (27, true), (28, true), (29, true), (30, true), (31, true), (32, true), (33, true), (34, true), (35, true), (36, true)] (RcS W r (some ad) sc q a) (by kernel_rfl) (by kernel_rfl) (by decide) (by kernel_rfl) (fun d _ _ _ _ h => by cases d <;> exact h) HS.out ?_
            iterate 2 ((apply wpOrd_take rfl rfl (by kernel_rfl); (intro V hV; obtain ⟨x0, x1, x2, x3, x4, x5⟩ := BoxR.cells hV.box; obtain ⟨b0, b1⟩ := BoxA.cells hV.el; go_simp; rfl)); (try simp only [List.setIfInBounds_toArray, List.set_cons_succ, List.set_cons_zero]))
            apply wpOrd_do rfl (by kernel_rfl)
            intro K hK
            go_simp
            refine (rrtr_any a.1 _).mono ?_
            rintro e w ⟨rfl, rfl⟩
            rw [G1.out]
            refine hK _ _ HS.out ?_
            clear hK K
            iterate 2 ((apply wpOrd_take rfl rfl (by kernel_rfl); (intro V hV; obtain ⟨x0, x1, x2, x3, x4, x5⟩ := BoxR.cells hV.box; obtain ⟨b0, b1⟩ := BoxA.cells hV.el; go_simp; rfl)); (try simp only [List.setIfInBounds_toArray, List.set_cons_succ, List.set_cons_zero]))
            iterate 5 ((apply wpOrd_skip rfl rfl (by kernel_rfl)); (try simp only [List.setIfInBounds_toArray, List.set_cons_succ, List.set_cons_zero]))
            iterate 2 ((apply wpOrd_take rfl rfl (by kernel_rfl); (intro V hV; obtain ⟨x0, x1, x2, x3, x4, x5⟩ := BoxR.cells hV.box; obtain ⟨b0, b1⟩ := BoxA.cells hV.el; go_simp; rfl)); (try simp only [List.setIfInBounds_toArray, List.set_cons_succ, List.set_cons_zero]))
            iterate 3 ((apply wpOrd_skip rfl rfl (by kernel_rfl)); (try simp only [List.setIfInBounds_toArray, List.set_cons_succ, List.set_cons_zero]))
            iterate 2 ((apply wpOrd_take rfl rfl (by kernel_rfl); (intro V hV; obtain ⟨x0, x1, x2, x3, x4, x5⟩ := BoxR.cells hV.box; obtain ⟨b0, b1⟩ := BoxA.cells hV.el; go_simp; rfl)); (try simp only [List.setIfInBounds_toArray, List.set_cons_succ, List.set_cons_zero]))
            iterate 3 ((apply wpOrd_skip rfl rfl (by kernel_rfl)); (try simp only [List.setIfInBounds_toArray, List.set_cons_succ, List.set_cons_zero]))
            iterate 2 ((apply wpOrd_take rfl rfl (by kernel_rfl); (intro V hV; obtain ⟨x0, x1, x2, x3, x4, x5⟩ := BoxR.cells hV.box; obtain ⟨b0, b1⟩ := BoxA.cells hV.el; go_simp; rfl)); (try simp only [List.setIfInBounds_toArray, List.set_cons_succ, List.set_cons_zero]))
            iterate 3 ((apply wpOrd_skip rfl rfl (by kernel_rfl)); (try simp only [List.setIfInBounds_toArray, List.set_cons_succ, List.set_cons_zero]))
            iterate 10 ((apply wpOrd_skip rfl rfl (by kernel_rfl)); (try simp only [List.setIfInBounds_toArray, List.set_cons_succ, List.set_cons_zero]))
            iterate 1 ((apply wpOrd_skip rfl rfl (by kernel_rfl)); (try simp only [List.setIfInBounds_toArray, List.set_cons_succ, List.set_cons_zero]))
            iterate 1 ((apply wpOrd_take rfl rfl (by kernel_rfl); (intro V hV; obtain ⟨x0, x1, x2, x3, x4, x5⟩ := BoxR.cells hV.box; obtain ⟨b0, b1⟩ := BoxA.cells hV.el; go_simp; rfl)); (try simp only [List.setIfInBounds_toArray, List.set_cons_succ, List.set_cons_zero]))
            refine wpOrd_nil ?_
            go_wp2_with fail
            go_returns
            exact ⟨by rw [HE2.out]; rfl, HS.out.bel⟩
          · have G1 := Lib.hid g1
            have e2 : (a.1 == r.org) = true := by rw [beq_iff_eq]; exact g2
            have HE2 := Lib.hid (show r.err = 2 by rw [HE.out, hch, gc]; rfl)
            clear g1 g2 gc hch
            go_wp2_with fail
            rw [← HX.out, ← HQ.out]
            refine wp_region_ord [(0, true), (1, true), (2, false), (3, true), (4, true), (5, true), (6, true), (7, true), (8, true), (9, true), (10, true), (11, true), (12, true), (13, true), (14, true), (15, true), (16, true), (17, true), (18, true), (19, true), (20, true), (21, true), (22, true), (23, true), (24, true), (25, true), (26, true), (27, true), (28, true), (29, true), (30, true), (31, true), (32, true), (33, true), (34, true), (35, true), (36, true)] (RcS W r (some ad) sc q a) (by kernel_rfl) (by kernel_rfl) (by decide) (by kernel_rfl) (fun d _ _ _ _ h => by cases d <;> exact h) HS.out ?_
            iterate 2 ((apply wpOrd_take rfl rfl (by kernel_rfl); (intro V hV; obtain ⟨x0, x1, x2, x3, x4, x5⟩ := BoxR.cells hV.box; obtain ⟨b0, b1⟩ := BoxA.cells hV.el; go_simp; rfl)); (try simp only [List.setIfInBounds_toArray, List.set_cons_succ, List.set_cons_zero]))
            apply wpOrd_do rfl (by kernel_rfl)
            intro K hK
            go_simp
            refine (rrtr_any a.1 _).mono ?_
            rintro e w ⟨rfl, rfl⟩
            rw [G1.out]
            refine hK _ _ HS.out ?_
            clear hK K
            iterate 2 ((apply wpOrd_take rfl rfl (by kernel_rfl); (intro V hV; obtain ⟨x0, x1, x2, x3, x4, x5⟩ := BoxR.cells hV.box; obtain ⟨b0, b1⟩ := BoxA.cells hV.el; go_simp; rfl)); (try simp only [List.setIfInBounds_toArray, List.set_cons_succ, List.set_cons_zero]))
            iterate 5 ((apply wpOrd_take rfl rfl (by kernel_rfl); (intro V hV; obtain ⟨x0, x1, x2, x3, x4, x5⟩ := BoxR.cells hV.box; obtain ⟨b0, b1⟩ := BoxA.cells hV.el; go_simp; rfl)); (try simp only [List.setIfInBounds_toArray, List.set_cons_succ, List.set_cons_zero]))
            iterate 2 ((apply wpOrd_take rfl rfl (by kernel_rfl); (intro V hV; obtain ⟨x0, x1, x2, x3, x4, x5⟩ := BoxR.cells hV.box; obtain ⟨b0, b1⟩ := BoxA.cells hV.el; go_simp; rfl)); (try simp only [List.setIfInBounds_toArray, List.set_cons_succ, List.set_cons_zero]))
            iterate 3 ((apply wpOrd_skip rfl rfl (by kernel_rfl)); (try simp only [List.setIfInBounds_toArray, List.set_cons_succ, List.set_cons_zero]))
            iterate 2 ((apply wpOrd_take rfl rfl (by kernel_rfl); (intro V hV; obtain ⟨x0, x1, x2, x3, x4, x5⟩ := BoxR.cells hV.box; obtain ⟨b0, b1⟩ := BoxA.cells hV.el; go_simp; rfl)); (try simp only [List.setIfInBounds_toArray, List.set_cons_succ, List.set_cons_zero]))
            iterate 3 ((apply wpOrd_skip rfl rfl (by kernel_rfl)); (try simp only [List.setIfInBounds_toArray, List.set_cons_succ, List.set_cons_zero]))
            iterate 2 ((apply wpOrd_take rfl rfl (by kernel_rfl); (intro V hV; obtain ⟨x0, x1, x2, x3, x4, x5⟩ := BoxR.cells hV.box; obtain ⟨b0, b1⟩ := BoxA.cells hV.el; go_simp; rfl)); (try simp only [List.setIfInBounds_toArray, List.set_cons_succ, List.set_cons_zero]))
            iterate 3 ((apply wpOrd_skip rfl rfl (by kernel_rfl)); (try simp only [List.setIfInBounds_toArray, List.set_cons_succ, List.set_cons_zero]))
            iterate 10 ((apply wpOrd_skip rfl rfl (by kernel_rfl)); (try simp only [List.setIfInBounds_toArray, List.set_cons_succ, List.set_cons_zero]))
            iterate 1 ((apply wpOrd_skip rfl rfl (by kernel_rfl)); (try simp only [List.setIfInBounds_toArray, List.set_cons_succ, List.set_cons_zero]))
            iterate 1 ((apply wpOrd_take rfl rfl (by kernel_rfl); (intro V hV; obtain ⟨x0, x1, x2, x3, x4, x5⟩ := BoxR.cells hV.box; obtain ⟨b0, b1⟩ := BoxA.cells hV.el; go_simp; rfl)); (try simp only [List.setIfInBounds_toArray, List.set_cons_succ, List.set_cons_zero]))
            refine wpOrd_nil ?_
            go_wp2_with fail
            go_returns
            exact ⟨by rw [HE2.out]; rfl, HS.out.bel⟩
          · have G1 := Lib.hid g1
            have e2 : (a.1 == r.org) = false := by rw [beq_eq_false_iff_ne]; exact g2
            have e3 : decide (a.2 < 1) = true := decide_eq_true g3
            have HE2 := Lib.hid (show r.err = 2 by rw [HE.out, hch, gc]; rfl)
            clear g1 g2 gc hch
            go_wp2_with fail
            rw [← HX.out, ← HQ.out]
            refine wp_region_ord [(0, true), (1, true), (2, false), (3, true), (4, true), (5, true), (6, true), (7, true), (8, true), (9, true), (10, true), (11, true), (12, true), (13, true), (14, true), (15, true), (16, true), (17, true), (18, true), (19, true), (20, true), (21, true), (22, true), (23, true), (24, true), (25, true), (26, true), (27, true), (28, true), (29, true), (30, true), (31, true), (32, true), (33, true), (34, true), (35, true), (36, true)] (RcS W r (some ad) sc q a) (by kernel_rfl) (by kernel_rfl) (by decide) (by kernel_rfl) (fun d _ _ _ _ h => by cases d <;> exact h) HS.out ?_
            iterate 2 ((apply wpOrd_take rfl rfl (by kernel_rfl); (intro V hV; obtain ⟨x0, x1, x2, x3, x4, x5⟩ := BoxR.cells hV.box; obtain ⟨b0, b1⟩ := BoxA.cells hV.el; go_simp; rfl)); (try simp only [List.setIfInBounds_toArray, List.set_cons_succ, List.set_cons_zero]))
            apply wpOrd_do rfl (by kernel_rfl)
            intro K hK
            go_simp
            refine (rrtr_any a.1 _).mono ?_
            rintro e w ⟨rfl, rfl⟩
            rw [G1.out]
            refine hK _ _ HS.out ?_
            clear hK K
            iterate 2 ((apply wpOrd_take rfl rfl (by kernel_rfl); (intro V hV; obtain ⟨x0, x1, x2, x3, x4, x5⟩ := BoxR.cells hV.box; obtain ⟨b0, b1⟩ := BoxA.cells hV.el; go_simp; rfl)); (try simp only [List.setIfInBounds_toArray, List.set_cons_succ, List.set_cons_zero]))
            iterate 5 ((apply wpOrd_take rfl rfl (by kernel_rfl); (intro V hV; obtain ⟨x0, x1, x2, x3, x4, x5⟩ := BoxR.cells hV.box; obtain ⟨b0, b1⟩ := BoxA.cells hV.el; go_simp; rfl)); (try simp only [List.setIfInBounds_toArray, List.set_cons_succ, List.set_cons_zero]))
            iterate 2 ((apply wpOrd_take rfl rfl (by kernel_rfl); (intro V hV; obtain ⟨x0, x1, x2, x3, x4, x5⟩ := BoxR.cells hV.box; obtain ⟨b0, b1⟩ := BoxA.cells hV.el; go_simp; rfl)); (try simp only [List.setIfInBounds_toArray, List.set_cons_succ, List.set_cons_zero]))
            iterate 3 ((apply wpOrd_take rfl rfl (by kernel_rfl); (intro V hV; obtain ⟨x0, x1, x2, x3, x4, x5⟩ := BoxR.cells hV.box; obtain ⟨b0, b1⟩ := BoxA.cells hV.el; go_simp; rfl)); (try simp only [List.setIfInBounds_toArray, List.set_cons_succ, List.set_cons_zero]))
            iterate 2 ((apply wpOrd_take rfl rfl (by kernel_rfl); (intro V hV; obtain ⟨x0, x1, x2, x3, x4, x5⟩ := BoxR.cells hV.box; obtain ⟨b0, b1⟩ := BoxA.cells hV.el; go_simp; rfl)); (try simp only [List.setIfInBounds_toArray, List.set_cons_succ, List.set_cons_zero]))
            iterate 3 ((apply wpOrd_skip rfl rfl (by kernel_rfl)); (try simp only [List.setIfInBounds_toArray, List.set_cons_succ, List.set_cons_zero]))
            iterate 2 ((apply wpOrd_take rfl rfl (by kernel_rfl); (intro V hV; obtain ⟨x0, x1, x2, x3, x4, x5⟩ := BoxR.cells hV.box; obtain ⟨b0, b1⟩ := BoxA.cells hV.el; go_simp; rfl)); (try simp only [List.setIfInBounds_toArray, List.set_cons_succ, List.set_cons_zero]))
            iterate 3 ((apply wpOrd_skip rfl rfl (by kernel_rfl)); (try simp only [List.setIfInBounds_toArray, List.set_cons_succ, List.set_cons_zero]))
            iterate 10 ((apply wpOrd_skip rfl rfl (by kernel_rfl)); (try simp only [List.setIfInBounds_toArray, List.set_cons_succ, List.set_cons_zero]))
            iterate 1 ((apply wpOrd_skip rfl rfl (by kernel_rfl)); (try simp only [List.setIfInBounds_toArray, List.set_cons_succ, List.set_cons_zero]))
            iterate 1 ((apply wpOrd_take rfl rfl (by kernel_rfl); (intro V hV; obtain ⟨x0, x1, x2, x3, x4, x5⟩ := BoxR.cells hV.box; obtain ⟨b0, b1⟩ := BoxA.cells hV.el; go_simp; rfl)); (try simp only [List.setIfInBounds_toArray, List.set_cons_succ, List.set_cons_zero]))
            refine wpOrd_nil ?_
            go_wp2_with fail
            go_returns
            exact ⟨by rw [HE2.out]; rfl, HS.out.bel⟩
          · have G1 := Lib.hid g1
            have e2 : (a.1 == r.org) = false := by rw [beq_eq_false_iff_ne]; exact g2
            have e3 : decide (a.2 < 1) = false := decide_eq_false (by omega)
            have e4 : decide (1000 < a.2) = true := decide_eq_true g4
            have HE2 := Lib.hid (show r.err = 2 by rw [HE.out, hch, gc]; rfl)
            clear g1 g2 gc hch
            go_wp2_with fail
            rw [← HX.out, ← HQ.out]
            refine wp_region_ord [(0, true), (1, true), (2, false), (3, true), (4, true), (5, true), (6, true), (7, true), (8, true), (9, true), (10, true), (11, true), (12, true), (13, true), (14, true), (15, true), (16, true), (17, true), (18, true), (19, true), (20, true), (21, true), (22, true), (23, true), (24, true), (25, true), (26, true), (27, true), (28, true), (29, true), (30, true), (31, true), (32, true), (33, true), (34, true), (35, true), (36, true)] (RcS W r (some ad) sc q a) (by kernel_rfl) (by kernel_rfl) (by decide) (by kernel_rfl) (fun d _ _ _ _ h => by cases d <;> exact h) HS.out ?_
            iterate 2 ((apply wpOrd_take rfl rfl (by kernel_rfl); (intro V hV; obtain ⟨x0, x1, x2, x3, x4, x5⟩ := BoxR.cells hV.box; obtain ⟨b0, b1⟩ := BoxA.cells hV.el; go_simp; rfl)); (try simp only [List.setIfInBounds_toArray, List.set_cons_succ, List.set_cons_zero]))
            apply wpOrd_do rfl (by kernel_rfl)
            intro K hK
            go_simp
            refine (rrtr_any a.1 _).mono ?_
            rintro e w ⟨rfl, rfl⟩
            rw [G1.out]
            refine hK _ _ HS.out ?_
            clear hK K
            iterate 2 ((apply wpOrd_take rfl rfl (by kernel_rfl); (intro V hV; obtain ⟨x0, x1, x2, x3, x4, x5⟩ := BoxR.cells hV.box; obtain ⟨b0, b1⟩ := BoxA.cells hV.el; go_simp; rfl)); (try simp only [List.setIfInBounds_toArray, List.set_cons_succ, List.set_cons_zero]))
            iterate 5 ((apply wpOrd_take rfl rfl (by kernel_rfl); (intro V hV; obtain ⟨x0, x1, x2, x3, x4, x5⟩ := BoxR.cells hV.box; obtain ⟨b0, b1⟩ := BoxA.cells hV.el; go_simp; rfl)); (try simp only [List.setIfInBounds_toArray, List.set_cons_succ, List.set_cons_zero]))
            iterate 2 ((apply wpOrd_take rfl rfl (by kernel_rfl); (intro V hV; obtain ⟨x0, x1, x2, x3, x4, x5⟩ := BoxR.cells hV.box; obtain ⟨b0, b1⟩ := BoxA.cells hV.el; go_simp; rfl)); (try simp only [List.setIfInBounds_toArray, List.set_cons_succ, List.set_cons_zero]))
            iterate 3 ((apply wpOrd_take rfl rfl (by kernel_rfl); (intro V hV; obtain ⟨x0, x1, x2, x3, x4, x5⟩ := BoxR.cells hV.box; obtain ⟨b0, b1⟩ := BoxA.cells hV.el; go_simp; rfl)); (try simp only [List.setIfInBounds_toArray, List.set_cons_succ, List.set_cons_zero]))
            iterate 2 ((apply wpOrd_take rfl rfl (by kernel_rfl); (intro V hV; obtain ⟨x0, x1, x2, x3, x4, x5⟩ := BoxR.cells hV.box; obtain ⟨b0, b1⟩ := BoxA.cells hV.el; go_simp; rfl)); (try simp only [List.setIfInBounds_toArray, List.set_cons_succ, List.set_cons_zero]))
            iterate 3 ((apply wpOrd_take rfl rfl (by kernel_rfl); (intro V hV; obtain ⟨x0, x1, x2, x3, x4, x5⟩ := BoxR.cells hV.box; obtain ⟨b0, b1⟩ := BoxA.cells hV.el; go_simp; rfl)); (try simp only [List.setIfInBounds_toArray, List.set_cons_succ, List.set_cons_zero]))
            iterate 2 ((apply wpOrd_take rfl rfl (by kernel_rfl); (intro V hV; obtain ⟨x0, x1, x2, x3, x4, x5⟩ := BoxR.cells hV.box; obtain ⟨b0, b1⟩ := BoxA.cells hV.el; go_simp; rfl)); (try simp only [List.setIfInBounds_toArray, List.set_cons_succ, List.set_cons_zero]))
            iterate 3 ((apply wpOrd_skip rfl rfl (by kernel_rfl)); (try simp only [List.setIfInBounds_toArray, List.set_cons_succ, List.set_cons_zero]))
            iterate 10 ((apply wpOrd_skip rfl rfl (by kernel_rfl)); (try simp only [List.setIfInBounds_toArray, List.set_cons_succ, List.set_cons_zero]))
            iterate 1 ((apply wpOrd_skip rfl rfl (by kernel_rfl)); (try simp only [List.setIfInBounds_toArray, List.set_cons_succ, List.set_cons_zero]))
            iterate 1 ((apply wpOrd_take rfl rfl (by kernel_rfl); (intro V hV; obtain ⟨x0, x1, x2, x3, x4, x5⟩ := BoxR.cells hV.box; obtain ⟨b0, b1⟩ := BoxA.cells hV.el; go_simp; rfl)); (try simp only [List.setIfInBounds_toArray, List.set_cons_succ, List.set_cons_zero]))
            refine wpOrd_nil ?_
            go_wp2_with fail
            go_returns
            exact ⟨by rw [HE2.out]; rfl, HS.out.bel⟩
          · have G1 := Lib.hid g1
            have e2 : (a.1 == r.org) = false := by rw [beq_eq_false_iff_ne]; exact g2
            have e3 : decide (a.2 < 1) = false := decide_eq_false (by omega)
            have e4 : decide (1000 < a.2) = false := decide_eq_false (by omega)
            have e5 : decide (a.1 ≤ z) = true := decide_eq_true g5
            have HE2 := Lib.hid (show r.err = 2 by rw [HE.out, hch, gc]; rfl)
            clear g1 g2 gc hch
            go_wp2_with fail
            rw [← HX.out, ← HQ.out]
            refine wp_region_ord [(0, true), (1, true), (2, false), (3, true), (4, true), (5, true), (6, true), (7, true), (8, true), (9, true), (10, true), (11, true), (12, true), (13, true), (14, true), (15, true), (16, true), (17, true), (18, true), (19, true), (20, true), (21, true), (22, true), (23, true), (24, true), (25, true), (26, true), (27, true), (28, true), (29, true), (30, true), (31, true), (32, true), (33, true), (34, true), (35, true), (36, true)] (RcS W r (some ad) sc q a) (by kernel_rfl) (by kernel_rfl) (by decide) (by kernel_rfl) (fun d _ _ _ _ h => by cases d <;> exact h) HS.out ?_
            iterate 2 ((apply wpOrd_take rfl rfl (by kernel_rfl); (intro V hV; obtain ⟨x0, x1, x2, x3, x4, x5⟩ := BoxR.cells hV.box; obtain ⟨b0, b1⟩ := BoxA.cells hV.el; go_simp; rfl)); (try simp only [List.setIfInBounds_toArray, List.set_cons_succ, List.set_cons_zero]))
            apply wpOrd_do rfl (by kernel_rfl)
            intro K hK
            go_simp
            refine (rrtr_any a.1 _).mono ?_
            rintro e w ⟨rfl, rfl⟩
            rw [G1.out]
            refine hK _ _ HS.out ?_
            clear hK K
            iterate 2 ((apply wpOrd_take rfl rfl (by kernel_rfl); (intro V hV; obtain ⟨x0, x1, x2, x3, x4, x5⟩ := BoxR.cells hV.box; obtain ⟨b0, b1⟩ := BoxA.cells hV.el; go_simp; rfl)); (try simp only [List.setIfInBounds_toArray, List.set_cons_succ, List.set_cons_zero]))
            iterate 5 ((apply wpOrd_take rfl rfl (by kernel_rfl); (intro V hV; obtain ⟨x0, x1, x2, x3, x4, x5⟩ := BoxR.cells hV.box; obtain ⟨b0, b1⟩ := BoxA.cells hV.el; go_simp; rfl)); (try simp only [List.setIfInBounds_toArray, List.set_cons_succ, List.set_cons_zero]))
            iterate 2 ((apply wpOrd_take rfl rfl (by kernel_rfl); (intro V hV; obtain ⟨x0, x1, x2, x3, x4, x5⟩ := BoxR.cells hV.box; obtain ⟨b0, b1⟩ := BoxA.cells hV.el; go_simp; rfl)); (try simp only [List.setIfInBounds_toArray, List.set_cons_succ, List.set_cons_zero]))
            iterate 3 ((apply wpOrd_take rfl rfl (by kernel_rfl); (intro V hV; obtain ⟨x0, x1, x2, x3, x4, x5⟩ := BoxR.cells hV.box; obtain ⟨b0, b1⟩ := BoxA.cells hV.el; go_simp; rfl)); (try simp only [List.setIfInBounds_toArray, List.set_cons_succ, List.set_cons_zero]))
            iterate 2 ((apply wpOrd_take rfl rfl (by kernel_rfl); (intro V hV; obtain ⟨x0, x1, x2, x3, x4, x5⟩ := BoxR.cells hV.box; obtain ⟨b0, b1⟩ := BoxA.cells hV.el; go_simp; rfl)); (try simp only [List.setIfInBounds_toArray, List.set_cons_succ, List.set_cons_zero]))
            iterate 3 ((apply wpOrd_take rfl rfl (by kernel_rfl); (intro V hV; obtain ⟨x0, x1, x2, x3, x4, x5⟩ := BoxR.cells hV.box; obtain ⟨b0, b1⟩ := BoxA.cells hV.el; go_simp; rfl)); (try simp only [List.setIfInBounds_toArray, List.set_cons_succ, List.set_cons_zero]))
            iterate 2 ((apply wpOrd_take rfl rfl (by kernel_rfl); (intro V hV; obtain ⟨x0, x1, x2, x3, x4, x5⟩ := BoxR.cells hV.box; obtain ⟨b0, b1⟩ := BoxA.cells hV.el; go_simp; rfl)); (try simp only [List.setIfInBounds_toArray, List.set_cons_succ, List.set_cons_zero]))
            iterate 3 ((apply wpOrd_take rfl rfl (by kernel_rfl); (intro V hV; obtain ⟨x0, x1, x2, x3, x4, x5⟩ := BoxR.cells hV.box; obtain ⟨b0, b1⟩ := BoxA.cells hV.el; go_simp; rfl)); (try simp only [List.setIfInBounds_toArray, List.set_cons_succ, List.set_cons_zero]))
            iterate 10 ((apply wpOrd_take rfl rfl (by kernel_rfl); (intro V hV; obtain ⟨x0, x1, x2, x3, x4, x5⟩ := BoxR.cells hV.box; obtain ⟨b0, b1⟩ := BoxA.cells hV.el; obtain ⟨p0, _⟩ := HPV.out V hV.bel; go_simp; rfl)); (try simp only [List.setIfInBounds_toArray, List.set_cons_succ, List.set_cons_zero]))
            iterate 1 ((apply wpOrd_take rfl rfl (by kernel_rfl); (intro V hV; obtain ⟨x0, x1, x2, x3, x4, x5⟩ := BoxR.cells hV.box; obtain ⟨b0, b1⟩ := BoxA.cells hV.el; go_simp; rfl)); (try simp only [List.setIfInBounds_toArray, List.set_cons_succ, List.set_cons_zero]))
            iterate 1 ((apply wpOrd_take rfl rfl (by kernel_rfl); (intro V hV; obtain ⟨x0, x1, x2, x3, x4, x5⟩ := BoxR.cells hV.box; obtain ⟨b0, b1⟩ := BoxA.cells hV.el; go_simp; rfl)); (try simp only [List.setIfInBounds_toArray, List.set_cons_succ, List.set_cons_zero]))
            refine wpOrd_nil ?_
            go_wp2_with fail
            go_returns
            exact ⟨by rw [HE2.out]; rfl, HS.out.bel⟩
          · have G1 := Lib.hid g1
            have e2 : (a.1 == r.org) = false := by rw [beq_eq_false_iff_ne]; exact g2
            have e3 : decide (a.2 < 1) = false := decide_eq_false (by omega)
            have e4 : decide (1000 < a.2) = false := decide_eq_false (by omega)
            have e5 : decide (a.1 ≤ z) = false := decide_eq_false (by omega)
            have HREL := Lib.hid (show ∀ V, RcS W r (some ad) sc q a V → RChkRel W r (some ad) sc (.int .i64 ((k : Int) + 1)) V from fun V hV => ⟨k + 1, a.1, by go_num, hlt, .inr ⟨Nat.succ_pos _, by rw [Nat.add_sub_cancel, ← HAE.out]⟩, by rw [hch, gc], hV.box, hV.bel⟩)
            clear g1 g2 gc hch
            go_wp2_with fail
            rw [← HX.out, ← HQ.out]
            refine wp_region_ord [(0, true), (1, true), (2, false), (3, true), (4, true), (5, true), (6, true), (7, true), (8, true), (9, true), (10, true), (11, true), (12, true), (13, true), (14, true), (15, true), (16, true), (17, true), (18, true), (19, true), (20, true), (21, true), (22, true), (23, true), (24, true), (25, true), (26, true), (27, true), (28, true), (29, true), (30, true), (31, true), (32, true), (33, true), (34, true), (35, true), (36, true)] (RcS W r (some ad) sc q a) (by kernel_rfl) (by kernel_rfl) (by decide) (by kernel_rfl) (fun d _ _ _ _ h => by cases d <;> exact h) HS.out ?_
            iterate 2 ((apply wpOrd_take rfl rfl (by kernel_rfl); (intro V hV; obtain ⟨x0, x1, x2, x3, x4, x5⟩ := BoxR.cells hV.box; obtain ⟨b0, b1⟩ := BoxA.cells hV.el; go_simp; rfl)); (try simp only [List.setIfInBounds_toArray, List.set_cons_succ, List.set_cons_zero]))
            apply wpOrd_do rfl (by kernel_rfl)
            intro K hK
            go_simp
            refine (rrtr_any a.1 _).mono ?_
            rintro e w ⟨rfl, rfl⟩
            rw [G1.out]
            refine hK _ _ HS.out ?_
            clear hK K
            iterate 2 ((apply wpOrd_take rfl rfl (by kernel_rfl); (intro V hV; obtain ⟨x0, x1, x2, x3, x4, x5⟩ := BoxR.cells hV.box; obtain ⟨b0, b1⟩ := BoxA.cells hV.el; go_simp; rfl)); (try simp only [List.setIfInBounds_toArray, List.set_cons_succ, List.set_cons_zero]))
            iterate 5 ((apply wpOrd_take rfl rfl (by kernel_rfl); (intro V hV; obtain ⟨x0, x1, x2, x3, x4, x5⟩ := BoxR.cells hV.box; obtain ⟨b0, b1⟩ := BoxA.cells hV.el; go_simp; rfl)); (try simp only [List.setIfInBounds_toArray, List.set_cons_succ, List.set_cons_zero]))
            iterate 2 ((apply wpOrd_take rfl rfl (by kernel_rfl); (intro V hV; obtain ⟨x0, x1, x2, x3, x4, x5⟩ := BoxR.cells hV.box; obtain ⟨b0, b1⟩ := BoxA.cells hV.el; go_simp; rfl)); (try simp only [List.setIfInBounds_toArray, List.set_cons_succ, List.set_cons_zero]))
            iterate 3 ((apply wpOrd_take rfl rfl (by kernel_rfl); (intro V hV; obtain ⟨x0, x1, x2, x3, x4, x5⟩ := BoxR.cells hV.box; obtain ⟨b0, b1⟩ := BoxA.cells hV.el; go_simp; rfl)); (try simp only [List.setIfInBounds_toArray, List.set_cons_succ, List.set_cons_zero]))
            iterate 2 ((apply wpOrd_take rfl rfl (by kernel_rfl); (intro V hV; obtain ⟨x0, x1, x2, x3, x4, x5⟩ := BoxR.cells hV.box; obtain ⟨b0, b1⟩ := BoxA.cells hV.el; go_simp; rfl)); (try simp only [List.setIfInBounds_toArray, List.set_cons_succ, List.set_cons_zero]))
            iterate 3 ((apply wpOrd_take rfl rfl (by kernel_rfl); (intro V hV; obtain ⟨x0, x1, x2, x3, x4, x5⟩ := BoxR.cells hV.box; obtain ⟨b0, b1⟩ := BoxA.cells hV.el; go_simp; rfl)); (try simp only [List.setIfInBounds_toArray, List.set_cons_succ, List.set_cons_zero]))
            iterate 2 ((apply wpOrd_take rfl rfl (by kernel_rfl); (intro V hV; obtain ⟨x0, x1, x2, x3, x4, x5⟩ := BoxR.cells hV.box; obtain ⟨b0, b1⟩ := BoxA.cells hV.el; go_simp; rfl)); (try simp only [List.setIfInBounds_toArray, List.set_cons_succ, List.set_cons_zero]))
            iterate 3 ((apply wpOrd_take rfl rfl (by kernel_rfl); (intro V hV; obtain ⟨x0, x1, x2, x3, x4, x5⟩ := BoxR.cells hV.box; obtain ⟨b0, b1⟩ := BoxA.cells hV.el; go_simp; rfl)); (try simp only [List.setIfInBounds_toArray, List.set_cons_succ, List.set_cons_zero]))
            iterate 10 ((apply wpOrd_take rfl rfl (by kernel_rfl); (intro V hV; obtain ⟨x0, x1, x2, x3, x4, x5⟩ := BoxR.cells hV.box; obtain ⟨b0, b1⟩ := BoxA.cells hV.el; obtain ⟨p0, _⟩ := HPV.out V hV.bel; go_simp; rfl)); (try simp only [List.setIfInBounds_toArray, List.set_cons_succ, List.set_cons_zero]))
            iterate 1 ((apply wpOrd_take rfl rfl (by kernel_rfl); (intro V hV; obtain ⟨x0, x1, x2, x3, x4, x5⟩ := BoxR.cells hV.box; obtain ⟨b0, b1⟩ := BoxA.cells hV.el; go_simp; rfl)); (try simp only [List.setIfInBounds_toArray, List.set_cons_succ, List.set_cons_zero]))
            iterate 1 ((apply wpOrd_take rfl rfl (by kernel_rfl); (intro V hV; obtain ⟨x0, x1, x2, x3, x4, x5⟩ := BoxR.cells hV.box; obtain ⟨b0, b1⟩ := BoxA.cells hV.el; go_simp; rfl)); (try simp only [List.setIfInBounds_toArray, List.set_cons_succ, List.set_cons_zero]))
            refine wpOrd_nil ?_
            have HR2 := Lib.hid (HREL.out _ HS.out)
            go_wp2_with fail
            go_roundw
            case rel => first | exact HR2.out | ((repeat apply Exists.intro); exact ⟨HR2.out, rfl⟩)
            case measure => simp [intOf]; omega
      · obtain rfl : k = r.adjs.length := by omega
        rw [List.drop_length] at hch
        have HE2 := Lib.hid (show r.err = 0 by rw [HE.out, hch]; rfl)
        have HB := Lib.hid hb
        clear hch hb hkz
        obtain ⟨x0, x1, x2, x3, x4, x5⟩ := hbx.cells
        clear hbx
        go_wp2_with fail
        go_returns
        exact ⟨by rw [HE2.out]; rfl, HB.out⟩

end Go.Proofs.YtickjmkkgcfkhaaGreat

/- Contracts of the record: stamps, which is newer. -/
set_option linter.unusedSimpArgs false
set_option linter.unusedVariables false
set_option maxRecDepth 100000
namespace Go.Proofs.YtickjmkkgcfkhaaGreat
open Go.RowKit Go.ChangeShapes Go.WideShapes

/-- A stamp. -/
structure St where
  org : Int
  ep : Nat
  sq : Nat
deriving DecidableEq, Inhabited
def St.cs (s : St) : Array Value := #[.int .i64 s.org, .int .u32 s.ep, .int .u32 s.sq]
def St.ag (s : St) : Value := .agg s.cs
def St.ok (s : St) : Prop := (-9223372036854775808 ≤ s.org ∧ s.org ≤ 9223372036854775807) ∧ s.ep < 4294967296 ∧ s.sq < 4294967296
def Rc.st (r : Rc) : St := ⟨r.org, r.ep, r.sq⟩
def St.may (s : St) : Bool := rtr s.org && decide (0 < s.ep) && decide (0 < s.sq)
def BoxS (b : Nat) (s : St) (V : World) : Prop := V.heap[b]? = some (.cells s.cs 27 (0, 0))
theorem BoxS.later {b : Nat} {s : St} {V X : World} (h : BoxS b s V) (hb : Below V.heap.size V X) : BoxS b s X := (hb.block b (Array.getElem?_eq_some_iff.1 h).1).trans h
theorem BoxS.cells {b : Nat} {s : St} {V : World} (h : BoxS b s V) : V.cell? ⟨b, 0, none⟩ = some (.int .i64 s.org) ∧ V.cell? ⟨b, 1, none⟩ = some (.int .u32 s.ep) ∧ V.cell? ⟨b, 2, none⟩ = some (.int .u32 s.sq) :=
  ⟨cell_of_row _ _ 0 _ _ _ h, cell_of_row _ _ 1 _ _ _ h, cell_of_row _ _ 2 _ _ _ h⟩

theorem may_any (s : St) (W : World) : Calls Tryz.prog 80 #[s.ag] W fun e W' => e = .returned (.bool s.may) ∧ Below W.heap.size W W' := by
  obtain ⟨W1, hW1⟩ : ∃ W1, W1 = W.alloc (.cells s.cs 27) := ⟨_, rfl⟩
  have hb1 : Below W.heap.size W W1 := by rw [hW1]; exact (Below.refl _ _).alloc (Nat.le_refl _) _
  obtain ⟨x0, x1, x2⟩ := BoxS.cells (b := W.heap.size) (s := s) (V := W1) (by rw [hW1]; exact heap_alloc_new _ _)
  have HW1 := Lib.hid hW1
  have HB1 := Lib.hid hb1
  have hc : (rtr s.org = false ∧ s.may = false) ∨ (rtr s.org = true ∧ ¬ 0 < s.ep ∧ s.may = false) ∨ (rtr s.org = true ∧ 0 < s.ep ∧ ¬ 0 < s.sq ∧ s.may = false) ∨ (rtr s.org = true ∧ 0 < s.ep ∧ 0 < s.sq ∧ s.may = true) := by
    unfold St.may
    cases rtr s.org
    · simp
    · by_cases h1 : 0 < s.ep
      · by_cases h2 : 0 < s.sq
        · simp [h1, h2]
        · simp [h1, h2]
      · simp [h1]
  clear hW1 hb1
  rcases hc with ⟨h1, he⟩ | ⟨h1, h2, he⟩ | ⟨h1, h2, h3, he⟩ | ⟨h1, h2, h3, he⟩
  · have H1 := Lib.hid h1
    have HE := Lib.hid he
    clear h1 he
    go_enter Tryz.func80, Tryz.ntmps80
    unfold St.ag St.cs at *
    go_wp2_with fail
    rw [← HW1.out]
    refine (rtr_any _ _).mono ?_
    rintro e w ⟨rfl, rfl⟩
    rw [H1.out]
    go_wp2_with fail
    go_returns
    exact ⟨by rw [HE.out]; rfl, HB1.out⟩
  · have H1 := Lib.hid h1
    have HE := Lib.hid he
    have d2 : decide (0 < s.ep) = false := decide_eq_false h2
    clear h1 he
    go_enter Tryz.func80, Tryz.ntmps80
    unfold St.ag St.cs at *
    go_wp2_with fail
    rw [← HW1.out]
    refine (rtr_any _ _).mono ?_
    rintro e w ⟨rfl, rfl⟩
    rw [H1.out]
    go_wp2_with fail
    go_returns
    exact ⟨by rw [HE.out]; rfl, HB1.out⟩
  · have H1 := Lib.hid h1
    have HE := Lib.hid he
    have d2 : decide (0 < s.ep) = true := decide_eq_true h2
    have d3 : decide (0 < s.sq) = false := decide_eq_false h3
    clear h1 he
    go_enter Tryz.func80, Tryz.ntmps80
    unfold St.ag St.cs at *
    go_wp2_with fail
    rw [← HW1.out]
    refine (rtr_any _ _).mono ?_
    rintro e w ⟨rfl, rfl⟩
    rw [H1.out]
    go_wp2_with fail
    go_returns
    exact ⟨by rw [HE.out]; rfl, HB1.out⟩
  · have H1 := Lib.hid h1
    have HE := Lib.hid he
    have d2 : decide (0 < s.ep) = true := decide_eq_true h2
    have d3 : decide (0 < s.sq) = true := decide_eq_true h3
    clear h1 he
    go_enter Tryz.func80, Tryz.ntmps80
    unfold St.ag St.cs at *
    go_wp2_with fail
    rw [← HW1.out]
    refine (rtr_any _ _).mono ?_
    rintro e w ⟨rfl, rfl⟩
    rw [H1.out]
    go_wp2_with fail
    go_returns
    exact ⟨by rw [HE.out]; rfl, HB1.out⟩
theorem rmay_any (s : St) (W : World) : Calls Tryz.prog 37 #[s.ag] W fun e W' => e = .returned (.bool s.may) ∧ Below W.heap.size W W' := by
  obtain ⟨W1, hW1⟩ : ∃ W1, W1 = W.alloc (.cells s.cs 27) := ⟨_, rfl⟩
  have hb1 : Below W.heap.size W W1 := by rw [hW1]; exact (Below.refl _ _).alloc (Nat.le_refl _) _
  obtain ⟨x0, x1, x2⟩ := BoxS.cells (b := W.heap.size) (s := s) (V := W1) (by rw [hW1]; exact heap_alloc_new _ _)
  have HW1 := Lib.hid hW1
  have HB1 := Lib.hid hb1
  have hc : (rtr s.org = false ∧ s.may = false) ∨ (rtr s.org = true ∧ ¬ 0 < s.ep ∧ s.may = false) ∨ (rtr s.org = true ∧ 0 < s.ep ∧ ¬ 0 < s.sq ∧ s.may = false) ∨ (rtr s.org = true ∧ 0 < s.ep ∧ 0 < s.sq ∧ s.may = true) := by
    unfold St.may
    cases rtr s.org
    · simp
    · by_cases h1 : 0 < s.ep
      · by_cases h2 : 0 < s.sq
        · simp [h1, h2]
        · simp [h1, h2]
      · simp [h1]
  clear hW1 hb1
  rcases hc with ⟨h1, he⟩ | ⟨h1, h2, he⟩ | ⟨h1, h2, h3, he⟩ | ⟨h1, h2, h3, he⟩
  · have H1 := Lib.hid h1
    have HE := Lib.hid he
    clear h1 he
    go_enter Tryz.func37, Tryz.ntmps37
    unfold St.ag St.cs at *
    go_wp2_with fail
    rw [← HW1.out]
    refine (rrtr_any _ _).mono ?_
    rintro e w ⟨rfl, rfl⟩
    rw [H1.out]
    go_wp2_with fail
    go_returns
    exact ⟨by rw [HE.out]; rfl, HB1.out⟩
  · have H1 := Lib.hid h1
    have HE := Lib.hid he
    have d2 : decide (0 < s.ep) = false := decide_eq_false h2
    clear h1 he
    go_enter Tryz.func37, Tryz.ntmps37
    unfold St.ag St.cs at *
    go_wp2_with fail
    rw [← HW1.out]
    refine (rrtr_any _ _).mono ?_
    rintro e w ⟨rfl, rfl⟩
    rw [H1.out]
    go_wp2_with fail
    go_returns
    exact ⟨by rw [HE.out]; rfl, HB1.out⟩
  · have H1 := Lib.hid h1
    have HE := Lib.hid he
    have d2 : decide (0 < s.ep) = true := decide_eq_true h2
    have d3 : decide (0 < s.sq) = false := decide_eq_false h3
    clear h1 he
    go_enter Tryz.func37, Tryz.ntmps37
    unfold St.ag St.cs at *
    go_wp2_with fail
    rw [← HW1.out]
    refine (rrtr_any _ _).mono ?_
    rintro e w ⟨rfl, rfl⟩
    rw [H1.out]
    go_wp2_with fail
    go_returns
    exact ⟨by rw [HE.out]; rfl, HB1.out⟩
  · have H1 := Lib.hid h1
    have HE := Lib.hid he
    have d2 : decide (0 < s.ep) = true := decide_eq_true h2
    have d3 : decide (0 < s.sq) = true := decide_eq_true h3
    clear h1 he
    go_enter Tryz.func37, Tryz.ntmps37
    unfold St.ag St.cs at *
    go_wp2_with fail
    rw [← HW1.out]
    refine (rrtr_any _ _).mono ?_
    rintro e w ⟨rfl, rfl⟩
    rw [H1.out]
    go_wp2_with fail
    go_returns
    exact ⟨by rw [HE.out]; rfl, HB1.out⟩
/-- Which is newer. -/
def cmpN (x y : Nat) : Int := if x < y then -1 else if y < x then 1 else 0
def orI (x y : Int) : Int := if x ≠ 0 then x else y
def nw (a b : St) : Int := orI (cmpN a.ep b.ep) (cmpN a.sq b.sq)
def OrRel (W : World) (x y : Int) (i : Value) (wr : World) : Prop := wr = W ∧ ∃ k : Nat, i = .int .i64 k ∧ k ≤ 2 ∧ (1 ≤ k → x = 0) ∧ (2 ≤ k → y = 0)
structure NwS (W : World) (a b : St) (V : World) : Prop where
  b0 : BoxS W.heap.size a V
  b1 : BoxS (W.heap.size + 1) b V
  bel : Below W.heap.size W V
theorem NwS.later {W V X : World} {a b : St} (h : NwS W a b V) (hb : Below V.heap.size V X) : NwS W a b X := ⟨h.b0.later hb, h.b1.later hb, h.bel.trans (hb.mono h.bel.size)⟩
theorem nw_ref (a b : St) (ha : a.ok) (hb : b.ok) : nw a b = if a.ep * 4294967296 + a.sq < b.ep * 4294967296 + b.sq then -1 else if b.ep * 4294967296 + b.sq < a.ep * 4294967296 + a.sq then 1 else 0 := by
  obtain ⟨_, a1, a2⟩ := ha
  obtain ⟨_, b1, b2⟩ := hb
  unfold nw orI cmpN
  by_cases h1 : a.ep < b.ep
  · simp [h1, show a.ep * 4294967296 + a.sq < b.ep * 4294967296 + b.sq from by omega]
  · by_cases h2 : b.ep < a.ep
    · simp [h1, h2, show ¬ a.ep * 4294967296 + a.sq < b.ep * 4294967296 + b.sq from by omega, show b.ep * 4294967296 + b.sq < a.ep * 4294967296 + a.sq from by omega]
    · have h3 : a.ep = b.ep := by omega
      rw [h3]
      simp
end Go.Proofs.YtickjmkkgcfkhaaGreat
